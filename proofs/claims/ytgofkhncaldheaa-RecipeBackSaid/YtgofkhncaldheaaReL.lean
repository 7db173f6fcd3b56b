/- Whether pieces are the same, and what the laws' live answers; no condition. -/
import Derived.Test.YtgofkhncaldheaaReQ
namespace Go.Proofs.Ytgofkhncaldheaa.ReL
open Go Go.RowKit Go.Proofs.YtgofkhncaldheaaW.PrintWords Go.Proofs.Ytgofkhncaldheaa.K Go.Proofs.Ytgofkhncaldheaa.OctS Go.Proofs.Ytgofkhncaldheaa.OctP Go.Proofs.Ytgofkhncaldheaa.Oct Go.Proofs.Ytgofkhncaldheaa.ReS Go.Proofs.Ytgofkhncaldheaa.ReR Go.Proofs.Ytgofkhncaldheaa.ReT Go.Proofs.Ytgofkhncaldheaa.ReN Go.Proofs.Ytgofkhncaldheaa.ReP Go.Proofs.Ytgofkhncaldheaa.ReC Go.Proofs.Ytgofkhncaldheaa.ReK Go.Proofs.Ytgofkhncaldheaa.ReW Go.Proofs.Ytgofkhncaldheaa.ReF Go.Proofs.Ytgofkhncaldheaa.RePi Go.Proofs.Ytgofkhncaldheaa.ReA Go.Proofs.Ytgofkhncaldheaa.ReQ
set_option linter.unusedVariables false
set_option linter.unusedSimpArgs false
theorem pc_cells {w : World} {A : Option Addr} {n : Nat} {xs : List Pc} (h : dPc.C w A n xs) (i : Nat) (hi : i < n) : ∃ ad, A = some ad ∧ w.cell? (ad.add (i * 3)) = some (.int .i64 ((xs.getD i (0, 0, 0)).1 : Int)) ∧ w.cell? ⟨(ad.add (i * 3)).block, (ad.add (i * 3)).off + 1, none⟩ = some (.int .i64 ((xs.getD i (0, 0, 0)).2.1 : Int)) ∧ w.cell? ⟨(ad.add (i * 3)).block, (ad.add (i * 3)).off + 2, none⟩ = some (.int .i64 ((xs.getD i (0, 0, 0)).2.2 : Int)) := by
  obtain ⟨ad, had, hc⟩ := h.2.2 (by omega)
  have hl := h.1
  have hx : xs[i]? = some (xs.getD i (0, 0, 0)) := by
    have : i < xs.length := by omega
    simp [this]
  obtain ⟨cs, h1, ⟨_, rfl⟩, h3⟩ := hc i _ hx
  refine ⟨ad, had, ?_, ?_, ?_⟩
  · exact h3 0 _ rfl
  · have := h3 1 _ rfl
    rw [← Addr.add_add] at this
    exact this
  · have := h3 2 _ rfl
    rw [← Addr.add_add] at this
    exact this
set_option maxHeartbeats 2000000 in
theorem same_calls (A B : Option Addr) (n c1 c2 : Nat) (xs : List Pc) (w : World) (hA : dPc.C w A n xs) (hB : dPc.C w B n xs) (hn : n ≤ 1000000) : Calls Try.prog 16 #[.slice A n c1, .slice B n c2] w fun e w' => e = .returned (.bool true) ∧ Below w.heap.size w w' := by
  have HA := Aside0.mk hA
  have HB := Aside0.mk hB
  clear hA hB
  go_enter Try.func16, Try.ntmps16
  go_wp2
  go_loopg [5] (n + 1) (fun gk v5 wr => ∃ i : Nat, v5 = .int .i64 i ∧ i ≤ n ∧ Aside0 (gk = n - i + 1) ∧ Aside0 (Below w.heap.size w wr))
  case atStart => exact ⟨0, rfl, Nat.zero_le _, ⟨rfl⟩, ⟨Below.refl _ _⟩⟩
  case round =>
    obtain ⟨i, rfl, hi, HG, HBr⟩ := hrel
    by_cases hlt : i < n
    · have h1 : decide ((i : Int) < (n : Int)) = true := by simp; omega
      obtain ⟨ad, rfl, a0, a1, a2⟩ := pc_cells (Kd.C_below HA.out HBr.out) i hlt
      obtain ⟨bd, rfl, b0, b1, b2⟩ := pc_cells (Kd.C_below HB.out HBr.out) i hlt
      have hp1 : (0 : Int) ≤ (i : Int) := by omega
      have hp2 : (i : Int) < (n : Int) := by omega
      generalize (xs.getD i (0, 0, 0)).1 = x0 at *
      generalize (xs.getD i (0, 0, 0)).2.1 = x1 at *
      generalize (xs.getD i (0, 0, 0)).2.2 = x2 at *
      go_wp2
      go_quiet (fail)
      go_wp2
      go_roundg (n - (i + 1) + 1)
      case measure => have := HG.out; omega
      case rel => exact ⟨i + 1, by go_num, by omega, ⟨rfl⟩, ⟨below_then HBr.out HBr.out.size (pw_below_drewN (Below.refl _ _) _)⟩⟩
    · obtain rfl : i = n := by omega
      have h1 : decide ((i : Int) < (i : Int)) = false := by simp
      go_wp2
      go_ret
      exact ⟨rfl, HBr.out⟩
def z32 : List Int := List.replicate 32 0
theorem lit2 (w : World) (r1 r2 : Ref) (h1 : r1.Ok) (h2 : r2.Ok) : RefsC (w.alloc (.cells (r1.cells ++ r2.cells).toArray 56)) (some ⟨w.heap.size, 0, none⟩) 2 [r1, r2] := by
  refine ⟨rfl, by simp [maxLen], fun r hr => ?_, fun _ => ⟨_, rfl⟩, fun ad ha i hi j v hj => ?_⟩
  · simp at hr
    rcases hr with rfl | rfl
    · exact h1
    · exact h2
  · injection ha with ha
    subst ha
    have hb := heap_alloc_new w (.cells (r1.cells ++ r2.cells).toArray 56)
    have hl := (List.getElem?_eq_some_iff.1 hj).1
    have e : ((⟨w.heap.size, 0, none⟩ : Addr).add (i * 35)).add j = ⟨w.heap.size, i * 35 + j, none⟩ := by
      rw [Addr.add_add]
      by_cases h0 : i * 35 + j = 0
      · rw [h0]; rfl
      · unfold Addr.add
        rw [if_neg h0]
        simp
    rw [e]
    refine obj_cell hb (i * 35 + j) ?_
    rw [List.getElem?_toArray]
    have hi2 : i = 0 ∨ i = 1 := by omega
    rcases hi2 with rfl | rfl
    · have hl' : j < r1.cells.length := hl
      rw [Nat.zero_mul, Nat.zero_add, List.getElem?_append_left hl']
      exact hj
    · rw [List.getElem?_append_right (by rw [Ref.cells_len h1]; omega), Ref.cells_len h1, Nat.one_mul, Nat.add_sub_cancel_left]
      exact hj
def ra : Ref := ⟨z32, 3, 0, 0⟩
def rb : Ref := ⟨z32, 4, 0, 1⟩
theorem ra_ok : ra.Ok := ⟨rfl, by decide, by decide, by decide, by decide⟩
theorem rb_ok : rb.Ok := ⟨rfl, by decide, by decide, by decide, by decide⟩
theorem ab_ok : AllOk [ra, rb] := fun r hr => by
  simp at hr
  rcases hr with rfl | rfl <;> (unfold okRef; decide)
theorem ab_check : checkE [ra, rb] = 0 := by
  unfold checkE
  rw [if_neg (by simp), if_pos ab_ok]
theorem ab_sum : (lens [ra, rb]).sum = 7 := rfl
theorem ab_cut : ReS.cutL (lens [ra, rb]) 0 2 3 = [(0, 2, 1), (1, 0, 2)] := by decide
set_option maxRecDepth 100000 in
set_option maxHeartbeats 4000000 in
theorem live_calls (w : World) : Calls Try.prog 10 #[] w fun e w' => e = .returned (.bool true) ∧ Below w.heap.size w w' := by
  go_enter Try.func10, Try.ntmps10
  have HN := Aside0.mk (new_yes (some ⟨w.heap.size, 0, none⟩) 2 2 [ra, rb] _ (lit2 w ra rb ra_ok rb_ok) (Nat.le_refl _) ab_check)
  go_wp2_with fail
  refine HN.out.mono ?_
  rintro e w1 ⟨g, A1, c1, Ab, cb, rfl, hr, hg, hb⟩
  have HB1 := Aside0.mk ((below_alloc (Below.refl w.heap.size w) (.cells (ra.cells ++ rb.cells).toArray 56)).trans (Below.mono hb (by simp)))
  have HC := Aside0.mk (cut_is hr 2 3 (by rw [ab_sum]; decide) (by decide))
  have HR := Aside0.mk hr
  clear hr hb HN
  go_wp2_with fail
  refine HC.out.mono ?_
  rintro e w2 ⟨v, rfl, ho, hb2⟩
  rw [ab_cut] at ho
  obtain ⟨A2, c2, rfl, hlc, hC2⟩ := Kd.R_reads ho
  have HB2 := Aside0.mk (HB1.out.trans (Below.mono hb2 HB1.out.size))
  have HS := Aside0.mk (ab_sum ▸ sz_calls (HR.out.below hb2))
  obtain ⟨ad, rfl, a0, a1, a2⟩ := pc_cells hC2 0 (by decide)
  obtain ⟨ad', e', b0, b1, b2⟩ := pc_cells hC2 1 (by decide)
  injection e' with e'
  subst e'
  clear ho hC2 hb2
  have a0 : w2.cell? ad = some (.int .i64 0) := a0
  have a1 : w2.cell? ⟨ad.block, ad.off + 1, none⟩ = some (.int .i64 2) := a1
  have a2 : w2.cell? ⟨ad.block, ad.off + 2, none⟩ = some (.int .i64 1) := a2
  have b0 : w2.cell? ⟨ad.block, ad.off + 3, none⟩ = some (.int .i64 1) := b0
  have b1 : w2.cell? ⟨ad.block, ad.off + 4, none⟩ = some (.int .i64 0) := b1
  have b2 : w2.cell? ⟨ad.block, ad.off + 5, none⟩ = some (.int .i64 2) := b2
  go_wp2_with (go_at_call 17; (with_reducible refine (HS.out).mono ?_); rintro e w' ⟨rfl, hb3⟩; have HB3 := Aside0.mk hb3; clear hb3)
  go_ret
  exact ⟨rfl, below_then HB2.out HB2.out.size HB3.out⟩
end Go.Proofs.Ytgofkhncaldheaa.ReL
