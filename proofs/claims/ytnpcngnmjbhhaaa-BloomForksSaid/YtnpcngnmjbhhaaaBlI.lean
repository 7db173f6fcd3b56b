/- What the reference's summary computes: Merge of an alike one, Fork. -/
import Derived.Test.YtnpcngnmjbhhaaaBlH
namespace Go.Proofs.Ytnpcngnmjbhhaaa.BlI
open Go Go.RowKit Go.Proofs.YtnpcngnmjbhhaaaW.PrintWords Go.Proofs.Ytnpcngnmjbhhaaa.K Go.Proofs.Ytnpcngnmjbhhaaa.OctS Go.Proofs.Ytnpcngnmjbhhaaa.OctP Go.Proofs.Ytnpcngnmjbhhaaa.BlS Go.Proofs.Ytnpcngnmjbhhaaa.BlP Go.Proofs.Ytnpcngnmjbhhaaa.BlC Go.Proofs.Ytnpcngnmjbhhaaa.BlD Go.Proofs.Ytnpcngnmjbhhaaa.BlN Go.Proofs.Ytnpcngnmjbhhaaa.BlE Go.Proofs.Ytnpcngnmjbhhaaa.BlF Go.Proofs.Ytnpcngnmjbhhaaa.BlG Go.Proofs.Ytnpcngnmjbhhaaa.BlH Go.Proofs.Ytnpcngnmjbhhaaa.Oct
set_option linter.unusedVariables false
set_option linter.unusedSimpArgs false
set_option maxHeartbeats 1000000 in
theorem rmerge_calls (w : World) (base g : Nat) (size ways : Int) (v : Value) (on : List Int) (base2 g2 : Nat) (v2 : Value) (on2 : List Int) (h : RF w base g size ways v on) (h2 : RF w base2 g2 size ways v2 on2) (hn : on.length + on2.length ≤ 100000) :
    Calls Try.prog 33 #[.pointer (some ⟨g, 0, none⟩), .pointer (some ⟨g2, 0, none⟩)] w fun e w' => ∃ v', e = .returned (.int .i64 0) ∧ RF w' base g size ways v' (layL on on2) ∧ w.grownBy w' (some g) := by
  have a0 := obj_cell (v := .int .i64 size) h.blk 0 rfl
  have a1 := obj_cell (v := .int .i64 ways) h.blk 1 rfl
  have b0 := obj_cell (v := .int .i64 size) h2.blk 0 rfl
  have b1 := obj_cell (v := .int .i64 ways) h2.blk 1 rfl
  have b2 := obj_cell (v := v2) h2.blk 2 rfl
  have HL := Aside0.mk (fun W (hW : Below w.heap.size w W) => lay_calls W base g size ways v v2 on on2 (rf_below h hW) (Kd.R_lower (rf_below h2 hW).row (Nat.zero_le _)) hn)
  clear h h2 hn
  go_enter Try.func33, Try.ntmps33
  go_wp2_with fail
  go_quiet (fail)
  go_wp2_with fail
  refine (HL.out _ (pw_below_drewN (Below.refl _ _) _)).mono ?_
  rintro e w' ⟨v', rfl, hf, hg⟩
  have HE := Aside0.mk hf
  have HG := Aside0.mk (World.grownBy.trans (grown_of_below (pw_below_drewN (Below.refl w.heap.size w) nq) _) hg)
  clear hf hg
  go_wp2
  go_ret
  exact ⟨v', rfl, HE.out, HG.out⟩
theorem rfork_calls (w : World) (base g : Nat) (size ways : Int) (v : Value) (on : List Int) (h : RF w base g size ways v on) :
    Calls Try.prog 23 #[.pointer (some ⟨g, 0, none⟩)] w fun e w' => e = .returned (.pointer (some ⟨w.heap.size, 0, none⟩)) ∧ RF w' base w.heap.size size ways v on ∧ Below w.heap.size w w' := by
  have a0 := obj_cell (v := .int .i64 size) h.blk 0 rfl
  have a1 := obj_cell (v := .int .i64 ways) h.blk 1 rfl
  obtain ⟨A, c, rfl, _, _⟩ := Kd.R_reads h.row
  have a2 := obj_cell (v := .slice A on.length c) h.blk 2 rfl
  have hg0 := rf_lt h
  have HF := Aside0.mk h
  clear h
  go_enter Try.func23, Try.ntmps23
  go_wp2
  go_ret
  exact ⟨rfl, ⟨Nat.le_of_lt (Nat.lt_of_le_of_lt HF.out.ge hg0), heap_alloc_new _ _, Kd.R_alloc HF.out.row _⟩, below_alloc (Below.refl _ _) _⟩
end Go.Proofs.Ytnpcngnmjbhhaaa.BlI
