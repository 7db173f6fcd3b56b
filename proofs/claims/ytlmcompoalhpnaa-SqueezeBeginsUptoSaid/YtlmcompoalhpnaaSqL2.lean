/- The law SqueezePuts; conditions: the arguments are well formed. -/
import Derived.Test.YtlmcompoalhpnaaSqL1
namespace Go.Proofs.Ytlmcompoalhpnaa.SqL2
open Go Go.RowKit Go.Proofs.YtlmcompoalhpnaaW.PrintWords Go.Proofs.Ytlmcompoalhpnaa.K Go.Proofs.Ytlmcompoalhpnaa.OctS Go.Proofs.Ytlmcompoalhpnaa.OctP Go.Proofs.Ytlmcompoalhpnaa.Oct Go.Proofs.Ytlmcompoalhpnaa.Ap Go.Proofs.Ytlmcompoalhpnaa.SqA Go.Proofs.Ytlmcompoalhpnaa.SqB Go.Proofs.Ytlmcompoalhpnaa.SqE Go.Proofs.Ytlmcompoalhpnaa.SqN Go.Proofs.Ytlmcompoalhpnaa.SqJ Go.Proofs.Ytlmcompoalhpnaa.SqW Go.Proofs.Ytlmcompoalhpnaa.SqLv Go.Proofs.Ytlmcompoalhpnaa.SqL1
set_option linter.unusedVariables false
set_option linter.unusedSimpArgs false
theorem small_calls (A : Option Addr) (n c : Nat) (w : World) (hc : n ≤ c) : Calls Try.prog 8 #[.slice A n c] w fun e w' => e = .returned (.slice A (min n 1500) c) ∧ w = w' := by
  obtain ⟨hcut, -⟩ := cutH (P := Try.prog) (Kd.int .u8) 22 5 Try.underlying22 infoU8 A n c (min n 1500) (by omega) hc
  have hmin : ((min n 1500 : Nat) : Int) = min (n : Int) 1500 := by omega
  rw [hmin] at hcut
  clear hmin
  go_enter Try.func8, Try.ntmps8
  go_wp2
  go_ret
  exact ⟨rfl, rfl⟩
theorem put_snd {p : List Int} (h : p.length ≤ 8192) : (putF p).2 = 0 := by unfold putF; rw [if_neg (by omega)]
set_option maxHeartbeats 4000000 in
theorem puts_row (A : Option Addr) (k c : Nat) (l : List Int) (w : World) (hr : Kd.C (Kd.int .u8) w A k l) (hc : k ≤ c) (hb : ∀ x ∈ l, (Lit.int .u8 x).wf = true) (hm : k * 1 ≤ 140737488351232) :
    Calls Try.prog 3 #[.slice A k c] w fun e w' => e = .returned (.bool true) ∧ Below w.heap.size w w' := by
  obtain rfl : l.length = k := hr.1
  have hW := bytes_wf hb
  obtain ⟨-, hA⟩ := cutH (P := Try.prog) (Kd.int .u8) 22 5 Try.underlying22 infoU8 A l.length c (min l.length 1500) (by omega) hc
  have hn1 : (l.take (min l.length 1500)).length = min l.length 1500 := by rw [List.length_take]; omega
  have HSM := Aside0.mk (fun W => small_calls A l.length c W hc)
  have HRS := Aside0.mk (fun W (hW : Below w.heap.size w W) => hA W l (Kd.C_below hr hW))
  have HBS : Aside0 (Bytes (l.take (min l.length 1500))) := ⟨fun x hx => hW x (List.mem_of_mem_take hx)⟩
  have hmc : min l.length 1500 ≤ c := by omega
  have hms : min l.length 1500 ≤ 1500 := by omega
  clear hr hb hW hA
  generalize l.take (min l.length 1500) = s at *
  generalize min l.length 1500 = n1 at *
  subst hn1
  have HN0 := Kd.R_made_nil (Kd.int .u8) w 5
  have HB0 := Aside0.mk (below_alloc (Below.refl w.heap.size w) (.cells #[] 5))
  have HN := Aside0.mk HN0
  clear HN0
  obtain ⟨w0, hw0⟩ : ∃ X, X = w.alloc (.cells #[] 5) := ⟨_, rfl⟩
  rw [← hw0] at HB0 HN
  have hz0 : w0.heap.size = w.heap.size + 1 := by rw [hw0]; simp
  have hw0' := hw0.symm
  clear hw0
  go_enter Try.func3, Try.ntmps3
  go_wp2_with fail
  clear hw0'
  refine (HSM.out w0).mono ?_
  rintro e w1 ⟨rfl, rfl⟩
  go_wp2_with ((with_reducible refine gate_builtin (b := .append) (xs := #[.tmp 8, .tmp 10]) rfl ?_); at_builtin; refine app (Kd.int .u8) (flat_int .u8) w.heap.size (w0 := w) (.tmp 8) (.tmp 10) 22 5 (.int .u8 0) 1 rfl rfl Try.underlying22 infoU8 rfl (by decide) (by decide) _ [] s A s.length c rfl rfl HN.out (HRS.out _ HB0.out) HB0.out (by omega) (by simp; omega) ?_; intro v1 w1 ho1 hb1 hg1 hat1; have HO1 := Aside0.mk ho1; have HB1 := Aside0.mk hb1; clear ho1 hb1 hg1 hat1)
  obtain ⟨A1, c1, hv⟩ := Kd.R_slice HO1.out
  have hv1 : v1 = .slice A1 s.length c1 := hv
  clear hv
  subst hv1
  have hr1 := Kd.R_reads' HO1.out
  have HR1 : Aside0 ((Kd.int .u8).C w1 A1 s.length s) := ⟨hr1.2.2⟩
  have hc1 : s.length ≤ c1 := hr1.2.1
  have HPC := Aside0.mk (put_calls A1 c1 s w1 HR1.out hc1 HBS.out (by omega) (al_C HR1.out))
  rw [put_snd (by omega)] at HPC
  have HRP := Aside0.mk (fun W (hW : Below w.heap.size w W) => rput_calls A c s W (HRS.out W hW) hmc (by omega))
  rw [put_snd (by omega)] at HRP
  clear hr1
  go_wp2_with fail
  refine HPC.out.mono ?_
  rintro e w2 ⟨v2, rfl, ho2, hb2⟩
  obtain ⟨A2, c2, rfl⟩ := Kd.R_slice ho2
  have HO2 := Aside0.mk ho2
  have HR2 := Aside0.mk (Kd.C_below HR1.out hb2)
  have HB2 := Aside0.mk (below_then HB1.out HB1.out.size hb2)
  clear ho2 hb2
  go_wp2_with fail
  refine (HSM.out w2).mono ?_
  rintro e w2' ⟨rfl, rfl⟩
  go_wp2_with fail
  refine (HRP.out w2 HB2.out).mono ?_
  rintro e w3 ⟨v3, rfl, ho3, hb3⟩
  obtain ⟨A3, c3, rfl⟩ := Kd.R_slice ho3
  have HB3 := Aside0.mk (below_then HB2.out HB2.out.size hb3)
  have HE1 := Aside0.mk (fun W (hW : Below w3.heap.size w3 W) => conv_own (P := Try.prog) 22 9 5 Try.underlying22 Try.underlying5 Try.underlying9 (Kd.R_below (Kd.R_below HO2.out hb3) hW) rfl rfl)
  have HE2 := Aside0.mk (fun W (hW : Below w3.heap.size w3 W) => conv_own (P := Try.prog) 22 9 5 Try.underlying22 Try.underlying5 Try.underlying9 (Kd.R_below ho3 hW) rfl rfl)
  have HE3 := Aside0.mk (fun W (hW : Below w3.heap.size w3 W) => conv_read (P := Try.prog) (c := c1) 22 9 5 Try.underlying22 Try.underlying5 Try.underlying9 (Kd.C_below (Kd.C_below HR2.out hb3) hW) rfl)
  have HE4 := Aside0.mk (fun W (hW : Below w3.heap.size w3 W) => conv_read (P := Try.prog) (c := c) 22 9 5 Try.underlying22 Try.underlying5 Try.underlying9 (HRS.out _ (below_then HB3.out HB3.out.size hW)) rfl)
  clear ho3 hb3
  go_wp2_with fail
  have q1 := fun x : Held (fun w' => Below w3.heap.size w3 w') => HE1.out x.w x.h
  have q2 := fun x : Held (fun w' => Below w3.heap.size w3 w') => HE2.out x.w x.h
  have q3 := fun x : Held (fun w' => Below w3.heap.size w3 w') => HE3.out x.w x.h
  have q4 := fun x : Held (fun w' => Below w3.heap.size w3 w') => HE4.out x.w x.h
  (refine wp_region_class (fun w' => Below w3.heap.size w3 w') (by kernel_rfl) (by kernel_rfl) (below_drew1 (Below.refl _ _)) (fun _ => ?_); (repeat (go_big_quiet_step (((rename_i x; first | (go_at_call 11; refine (live_calls _).mono ?_; rintro e w8 ⟨rfl, hb7⟩; exact ⟨rfl, ⟨w8, below_then x.h x.h.size hb7⟩, rfl⟩) | (go_at_call 8; refine (HSM.out _).mono ?_; rintro e w8 ⟨rfl, rfl⟩; exact ⟨rfl, x, rfl⟩)))))); refine wpQuiet_nil ?_; intro w' hS)
  go_wp2
  go_ret
  exact ⟨by simp, below_then HB3.out HB3.out.size hS⟩
end Go.Proofs.Ytlmcompoalhpnaa.SqL2
