/- squeeze's live: it answers true. -/
import Derived.Test.YtlmcompoalhpnaaSqW
import Derived.Test.YtlmcompoalhpnaaSqG
import Derived.Test.YtlmcompoalhpnaaSqH
import Derived.Lib.SlBytesConst
namespace Go.Proofs.Ytlmcompoalhpnaa.SqLv
open Go Go.RowKit Go.Proofs.YtlmcompoalhpnaaW.PrintWords Go.Proofs.Ytlmcompoalhpnaa.K Go.Proofs.Ytlmcompoalhpnaa.OctS Go.Proofs.Ytlmcompoalhpnaa.OctP Go.Proofs.Ytlmcompoalhpnaa.Oct Go.Proofs.Ytlmcompoalhpnaa.Ap Go.Proofs.Ytlmcompoalhpnaa.SqA Go.Proofs.Ytlmcompoalhpnaa.SqE Go.Proofs.Ytlmcompoalhpnaa.SqJ Go.Proofs.Ytlmcompoalhpnaa.SqW
set_option linter.unusedVariables false
set_option linter.unusedSimpArgs false
def pL : List Int := [97, 98, 97, 98, 97, 98, 97, 98]
def bL : List Int := [1, 97, 98, 130, 2]
theorem put_live : putF pL = (bL, 0) := by decide +kernel
theorem take_live : takeF bL 8 = (pL, 0) := by decide +kernel
theorem strp_live : strOfNums pL = ⟨#[97, 98, 97, 98, 97, 98, 97, 98]⟩ := by kernel_rfl
theorem strb_live : strOfNums bL = ⟨#[1, 97, 98, 130, 2]⟩ := by kernel_rfl
theorem row_C {w : World} {g : Nat} {xs : List Int} {t : TypeId} {fr : Nat × Nat} (h : w.heap[g]? = some (.cells (nums .u8 xs).toArray t fr)) (hl : xs.length ≤ maxLen) : (Kd.int .u8).C w (some ⟨g, 0, none⟩) xs.length xs := by
  refine Kd.C_of_reads (d := 0) ⟨rfl, hl, fun _ => ⟨⟨g, 0, none⟩, rfl, fun j hj => ?_⟩⟩
  rw [addr0]
  unfold World.cell?
  simp only [h]
  simp [nums, hj]
set_option maxHeartbeats 2000000 in
theorem live_calls (w : World) : Calls Try.prog 11 #[] w fun e w' => e = .returned (.bool true) ∧ Below w.heap.size w w' := by
  have hblk := heap_alloc_new w (.cells (nums .u8 pL).toArray 5 (8, 9))
  have HB := Aside0.mk (below_alloc (Below.refl w.heap.size w) (.cells (nums .u8 pL).toArray 5 (8, 9)))
  have hC := row_C hblk (by simp [pL, maxLen])
  have hsz : (w.alloc (.cells (nums .u8 pL).toArray 5 (8, 9))).heap.size = w.heap.size + 1 := by simp
  have HP := Aside0.mk (put_calls (some ⟨w.heap.size, 0, none⟩) 8 pL _ hC (by decide) (by decide) (by decide) (.inr (fun a ha => by cases ha; rw [hsz]; exact Nat.lt_succ_self _)))
  have hcv0 := Lib.run_convert_bytes_const (P := Try.prog) w 22 5 (nums .u8 pL).toArray 8 8 Try.underlying22 Try.underlying5
  rw [put_live, hsz] at HP
  clear hblk hC hsz
  rw [show (nums .u8 pL).toArray.size = 8 from rfl] at hcv0
  simp only [nums, pL, List.map_cons, List.map_nil, List.length_cons, List.length_nil, Nat.zero_add, Nat.reduceAdd] at HB HP hcv0
  go_enter Try.func11, Try.ntmps11
  go_wp2_with fail
  refine HP.out.mono ?_
  rintro e w1 ⟨v, rfl, ho, hb⟩
  have HB1 := Aside0.mk (below_then HB.out (by simp) (by rw [World.size_alloc]; exact hb))
  obtain ⟨A, c, hv⟩ := Kd.R_slice ho
  have hv2 : v = .slice A 5 c := hv
  clear hv
  subst hv2
  have hr := Kd.R_reads' ho
  have HT := Aside0.mk (take_calls A c bL 8 w1 hr.2.2 hr.2.1 (by decide) (by decide) (by decide))
  have HR := Aside0.mk hr.2.2
  clear ho hb hr
  rw [take_live] at HT
  go_wp2_with fail
  refine HT.out.mono ?_
  rintro e w2 ⟨v2, rfl, ho2, hb2⟩
  obtain ⟨A2, c2, hv⟩ := Kd.R_slice ho2
  have hv2 : v2 = .slice A2 8 c2 := hv
  clear hv
  subst hv2
  have HB2 := Aside0.mk (below_then HB1.out HB1.out.size hb2)
  have hcv1 := conv_read (P := Try.prog) (c := c) 22 9 5 Try.underlying22 Try.underlying5 Try.underlying9 (Kd.C_below HR.out hb2) strb_live
  have hcv2 := conv_read (P := Try.prog) (c := c2) 22 9 5 Try.underlying22 Try.underlying5 Try.underlying9 (Kd.R_reads' ho2).2.2 strp_live
  have hl1 : bL.length = 5 := rfl
  have hl2 : pL.length = 8 := rfl
  rw [hl1] at hcv1
  rw [hl2] at hcv2
  clear ho2 hb2 hl1 hl2
  go_wp2_with fail
  go_ret
  exact ⟨rfl, HB2.out⟩
end Go.Proofs.Ytlmcompoalhpnaa.SqLv
