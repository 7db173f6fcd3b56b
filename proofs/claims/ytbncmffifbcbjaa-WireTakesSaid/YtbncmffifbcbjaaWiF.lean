/- What wire.Check computes; condition: the note reads as a note. -/
import Derived.Test.YtbncmffifbcbjaaWiE
namespace Go.Proofs.Ytbncmffifbcbjaa.WiF
open Go Go.RowKit Go.Proofs.YtbncmffifbcbjaaW.PrintWords Go.Proofs.Ytbncmffifbcbjaa.K Go.Proofs.Ytbncmffifbcbjaa.OctS Go.Proofs.Ytbncmffifbcbjaa.Nm Go.Proofs.Ytbncmffifbcbjaa.Hl Go.Proofs.Ytbncmffifbcbjaa.WiA Go.Proofs.Ytbncmffifbcbjaa.WiB Go.Proofs.Ytbncmffifbcbjaa.WiD Go.Proofs.Ytbncmffifbcbjaa.WiE
set_option linter.unusedVariables false
set_option linter.unusedSimpArgs false
def checkF (n : Nt) : Int :=
  if n.say < 1 ∨ 7 < n.say ∨ bareF (hasF n.say) (hasI n.say) (hasH n.say) (hasP n.say) (hasB n.say) n = false then 4
  else if 64 < n.held.length ∨ 256 < n.parts.length ∨ 512 < n.bytes.length then 6
  else if (hasF n.say = true ∧ ¬ fileOk n.name n.gen) ∨ n.i < 0 ∨ 255 < n.i ∨ (hasB n.say = true ∧ n.bytes = []) ∨ n.held.any badH = true ∨ n.parts.any badP = true then 2 else 0
theorem combos {s : Int} (h1 : ¬ s < 1) (h2 : ¬ 7 < s) : (hasF s, hasI s, hasH s, hasP s, hasB s) = (false, false, false, false, false) ∨ (hasF s, hasI s, hasH s, hasP s, hasB s) = (false, false, true, false, false) ∨ (hasF s, hasI s, hasH s, hasP s, hasB s) = (true, false, false, false, false) ∨ (hasF s, hasI s, hasH s, hasP s, hasB s) = (true, false, false, true, false) ∨ (hasF s, hasI s, hasH s, hasP s, hasB s) = (true, true, false, false, false) ∨ (hasF s, hasI s, hasH s, hasP s, hasB s) = (true, true, false, false, true) := by
  obtain rfl | rfl | rfl | rfl | rfl | rfl | rfl : s = 1 ∨ s = 2 ∨ s = 3 ∨ s = 4 ∨ s = 5 ∨ s = 6 ∨ s = 7 := by omega
  all_goals decide
theorem fin {x y : Int} (h : x = y) : Ending.returned (Value.int .i64 x) = .returned (.int .i64 y) := by rw [h]
theorem gt_int (k : Nat) (n : Nat) : decide ((k : Int) < (n : Int)) = decide (k < n) := by simp
theorem note_cells {W : World} {g : Nat} {n : Nt} {a : Ads} {t : TypeId} (h : W.heap[g]? = some (.cells (noteV n a) t (0, 0))) :
    W.cell? ⟨g, 0, none⟩ = some (.int .i64 n.say) ∧ W.cell? ⟨g, 1, none⟩ = some (.string n.name) ∧ W.cell? ⟨g, 2, none⟩ = some (.int .i64 n.gen) ∧ W.cell? ⟨g, 3, none⟩ = some (.int .i64 n.i) ∧ W.cell? ⟨g, 4, none⟩ = some (.slice a.ah n.held.length a.ch) ∧ W.cell? ⟨g, 5, none⟩ = some (.slice a.ap n.parts.length a.cp) ∧ W.cell? ⟨g, 6, none⟩ = some (.slice a.ab n.bytes.length a.cb) :=
  ⟨obj_cell h 0 rfl, obj_cell h 1 rfl, obj_cell h 2 rfl, obj_cell h 3 rfl, obj_cell h 4 rfl, obj_cell h 5 rfl, obj_cell h 6 rfl⟩
set_option maxHeartbeats 8000000 in
set_option maxRecDepth 100000 in
theorem check_calls (n : Nt) (a : Ads) (w : World) (h : NtC w n a) : Calls Try.prog 8 #[.agg (noteV n a)] w fun e w' => e = .returned (.int .i64 (checkF n)) ∧ Below w.heap.size w w' := by
  have hblk := heap_alloc_new w (.cells (noteV n a) 27)
  have HG := Aside0.mk hblk
  have HB := Aside0.mk (below_alloc (Below.refl w.heap.size w) (.cells (noteV n a) 27))
  have HN := Aside0.mk (named_calls n.say)
  have H := Aside0.mk h
  have q := obj_cell (v := .int .i64 n.say) hblk 0 rfl
  clear h hblk
  generalize hw1 : w.alloc (.cells (noteV n a) 27) = w1 at *
  have hw1' : w.alloc (.cells #[.int .i64 n.say, .string n.name, .int .i64 n.gen, .int .i64 n.i, .slice a.ah n.held.length a.ch, .slice a.ap n.parts.length a.cp, .slice a.ab n.bytes.length a.cb] 27) = w1 := hw1
  clear hw1
  unfold noteV
  go_enter Try.func8, Try.ntmps8
  go_wp2_with fail
  refine (HN.out w1).mono ?_
  unfold namesV
  rintro e w2 ⟨rfl, hb2⟩
  obtain ⟨w3, hw3⟩ : ∃ w3, w3 = w2.alloc (.cells #[.bool (hasF n.say), .bool (hasI n.say), .bool (hasH n.say), .bool (hasP n.say), .bool (hasB n.say)] 40) := ⟨_, rfl⟩
  have HG3 := Aside0.mk (show w3.heap[w.heap.size]? = some (.cells (noteV n a) 27 (0, 0)) by rw [hw3]; exact (Below.heap_alloc w2 _ _ (Nat.lt_of_lt_of_le (Array.getElem?_eq_some_iff.1 HG.out).1 hb2.size)).trans ((hb2.block _ (Array.getElem?_eq_some_iff.1 HG.out).1).trans HG.out))
  have HX3 := Aside0.mk (show w3.heap[w2.heap.size]? = some (.cells #[.bool (hasF n.say), .bool (hasI n.say), .bool (hasH n.say), .bool (hasP n.say), .bool (hasB n.say)] 40 (0, 0)) by rw [hw3]; exact heap_alloc_new w2 _)
  have HB3 := Aside0.mk (show Below w.heap.size w w3 by rw [hw3]; exact below_alloc (below_then HB.out HB.out.size hb2) _)
  have hw3' := hw3.symm
  have HW2 := Aside0.mk hb2.size
  clear hw3 hb2 q
  obtain ⟨c0, c1, c2, c3, c4, c5, c6⟩ := note_cells HG3.out
  have x0 := obj_cell (v := .bool (hasF n.say)) HX3.out 0 rfl
  have x1 := obj_cell (v := .bool (hasI n.say)) HX3.out 1 rfl
  have x2 := obj_cell (v := .bool (hasH n.say)) HX3.out 2 rfl
  have x3 := obj_cell (v := .bool (hasP n.say)) HX3.out 3 rfl
  have x4 := obj_cell (v := .bool (hasB n.say)) HX3.out 4 rfl
  by_cases z1 : n.say < 1
  · have g1 : decide (n.say < 1) = true := decide_eq_true z1
    have HE := Aside0.mk (show checkF n = 4 by unfold checkF; rw [if_pos (.inl z1)])
    clear z1
    go_wp2_with fail
    go_ret
    exact ⟨by rw [HE.out]; rfl, HB3.out⟩
  by_cases z2 : 7 < n.say
  · have g1 : decide (n.say < 1) = false := decide_eq_false z1
    have g2 : decide (7 < n.say) = true := decide_eq_true z2
    have HE := Aside0.mk (show checkF n = 4 by unfold checkF; rw [if_pos (.inr (.inl z2))])
    clear z1 z2
    go_wp2_with fail
    go_ret
    exact ⟨by rw [HE.out]; rfl, HB3.out⟩
  have g1 : decide (n.say < 1) = false := decide_eq_false z1
  have g2 : decide (7 < n.say) = false := decide_eq_false z2
  have HBR := Aside0.mk (bare_calls _ _ _ _ _ n a w3 (combos z1 z2))
  have HZ := Aside0.mk (And.intro z1 z2)
  simp only [noteV] at HBR
  clear z1 z2
  go_wp2_with fail
  refine HBR.out.mono ?_
  rintro e w4 ⟨rfl, hb4⟩
  have HG4 := Aside0.mk ((hb4.block _ (Array.getElem?_eq_some_iff.1 HG3.out).1).trans HG3.out)
  have HX4 := Aside0.mk ((hb4.block _ (Array.getElem?_eq_some_iff.1 HX3.out).1).trans HX3.out)
  have HB4 := Aside0.mk (below_then HB3.out HB3.out.size hb4)
  clear c0 c1 c2 c3 c4 c5 c6 x0 x1 x2 x3 x4 hb4 HBR
  obtain ⟨c0, c1, c2, c3, c4, c5, c6⟩ := note_cells HG4.out
  have x0 := obj_cell (v := .bool (hasF n.say)) HX4.out 0 rfl
  have x4 := obj_cell (v := .bool (hasB n.say)) HX4.out 4 rfl
  have HF := Aside0.mk (file_calls n.name H.out.nm n.gen w4)
  have HH := Aside0.mk (containsH_calls a.ah n.held.length a.ch n.held w4 (Kd.C_below H.out.h HB4.out))
  have HP := Aside0.mk (containsP_calls a.ap n.parts.length a.cp n.parts)
  go_wp2_with (first
    | (go_at_call 17; (with_reducible refine (HF.out).mono ?_); rintro e w' ⟨rfl, rfl⟩)
    | (go_at_call 18; (with_reducible refine (HH.out).mono ?_); rintro e w' ⟨rfl, hb5⟩; have HB5 := Aside0.mk (below_then HB4.out HB4.out.size hb5); have HG5 := Aside0.mk ((hb5.block _ (Array.getElem?_eq_some_iff.1 HG4.out).1).trans HG4.out); clear hb5; obtain ⟨d0, d1, d2, d3, d4, d5, d6⟩ := note_cells HG5.out)
    | (go_at_call 20; (with_reducible refine ((HP.out _ (Kd.C_below H.out.p HB5.out))).mono ?_); rintro e w' ⟨rfl, hb6⟩; have HB6 := Aside0.mk (below_then HB5.out HB5.out.size hb6); clear hb6))
  all_goals (
    go_ret
    refine ⟨fin ?_, by first | exact HB6.out | exact HB5.out | exact HB4.out⟩
    obtain ⟨hz1, hz2⟩ := HZ.out
    have hz3 : ¬ n.say < 1 := by omega
    have hz4 : ¬ 7 < n.say := by omega
    unfold checkF
    simp_all [isE, -List.any_eq_true, -List.any_eq_false]
    try omega)
end Go.Proofs.Ytbncmffifbcbjaa.WiF
