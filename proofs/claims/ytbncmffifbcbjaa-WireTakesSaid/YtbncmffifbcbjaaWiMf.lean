/- The first fault of a reading stays: plain. -/
import Derived.Test.YtbncmffifbcbjaaWiM
namespace Go.Proofs.Ytbncmffifbcbjaa.WiMf
open Go Go.RowKit Go.Proofs.YtbncmffifbcbjaaW.PrintWords Go.Proofs.Ytbncmffifbcbjaa.K Go.Proofs.Ytbncmffifbcbjaa.OctS Go.Proofs.Ytbncmffifbcbjaa.OctP Go.Proofs.Ytbncmffifbcbjaa.Oct Go.Proofs.Ytbncmffifbcbjaa.Ap Go.Proofs.Ytbncmffifbcbjaa.Hl Go.Proofs.Ytbncmffifbcbjaa.WiA Go.Proofs.Ytbncmffifbcbjaa.WiD Go.Proofs.Ytbncmffifbcbjaa.WiE Go.Proofs.Ytbncmffifbcbjaa.WiF Go.Proofs.Ytbncmffifbcbjaa.WiR Go.Proofs.Ytbncmffifbcbjaa.WiU Go.Proofs.Ytbncmffifbcbjaa.WiV Go.Proofs.Ytbncmffifbcbjaa.WiM
set_option linter.unusedVariables false
set_option linter.unusedSimpArgs false
variable {b : List Int} {s : Rs} {t : Nt × Rs} {f : Nt × Rs → Nt × Rs}
theorem num_no (h : s.e ≠ 0) : numR b s = (0, s) := if_neg h
theorem text_no (h : s.e ≠ 0) (m : Int) : textR b s m = ([], s) := if_neg h
theorem must_no (h : s.e ≠ 0) (ok : Bool) (x : Int) : mustR s ok x = s := if_neg (fun e => h e.1)
theorem many_no (h : s.e ≠ 0) (m : Int) : manyR b s m = (0, s) := by
  unfold manyR
  rw [num_no h]
  simp only [must_no h]
  rw [if_neg h]
theorem loop_no (h : t.2.e ≠ 0) : ∀ k, loopS f k t = t
  | 0 => rfl
  | k + 1 => if_neg h
theorem list_no (h : t.2.e ≠ 0) (m : Int) : listS f b m t = t := by
  unfold listS
  rw [many_no h]
  exact loop_no h _
theorem num_ok {pl : Int} (h : (takeNum b pl).2.2 = 0) : numR b ⟨pl, 0⟩ = ((takeNum b pl).1, ⟨(takeNum b pl).2.1, 0⟩) := by
  unfold numR goR
  simp [h]
theorem num_bad {pl : Int} (h : (takeNum b pl).2.2 ≠ 0) : (numR b ⟨pl, 0⟩).2 = ⟨pl, (takeNum b pl).2.2⟩ := by
  unfold numR goR
  simp [h]
theorem text_ok {pl m : Int} (h : (takeText b pl m).2.2 = 0) : textR b ⟨pl, 0⟩ m = ((takeText b pl m).1, ⟨(takeText b pl m).2.1, 0⟩) := by
  unfold textR goR
  simp [h]
theorem text_bad {pl m : Int} (h : (takeText b pl m).2.2 ≠ 0) : (textR b ⟨pl, 0⟩ m).2 = ⟨pl, (takeText b pl m).2.2⟩ := by
  unfold textR goR
  simp [h]
theorem many_ok {pl m : Int} (h : (takeNum b pl).2.2 = 0) (h2 : (takeNum b pl).1 ≤ m) : manyR b ⟨pl, 0⟩ m = ((takeNum b pl).1, ⟨(takeNum b pl).2.1, 0⟩) := by
  unfold manyR
  rw [num_ok h]
  simp [mustR, h2]
theorem many_much {pl m : Int} (h : (takeNum b pl).2.2 = 0) (h2 : ¬ (takeNum b pl).1 ≤ m) : manyR b ⟨pl, 0⟩ m = (0, ⟨(takeNum b pl).2.1, 6⟩) := by
  unfold manyR
  rw [num_ok h]
  simp [mustR, h2]
theorem many_bad {pl m : Int} (h : (takeNum b pl).2.2 ≠ 0) : manyR b ⟨pl, 0⟩ m = (0, ⟨pl, (takeNum b pl).2.2⟩) := by
  unfold manyR
  rw [num_bad h, must_no (by simpa using h)]
  simp [h]
/-! A fault behind a step is the answer's. -/
theorem bad5 {p e : Int} (h : (s5 b).2 = ⟨p, e⟩) (he : e ≠ 0) : takeF b = (nZ, e) := by
  have h1 : endS b (s5 b) = ⟨p, e⟩ := by
    unfold endS
    rw [h]
    simp only [if_neg he]
    exact must_no he _ _
  unfold takeF
  rw [h1, if_neg he]
theorem bad4 {p e : Int} (h : (s4 b).2 = ⟨p, e⟩) (he : e ≠ 0) : takeF b = (nZ, e) := by
  refine bad5 (p := p) ?_ he
  unfold s5
  split
  · unfold bytesS
    rw [text_no (by rw [h]; exact he)]
    exact h
  · exact h
theorem bad3 {p e : Int} (h : (s3 b).2 = ⟨p, e⟩) (he : e ≠ 0) : takeF b = (nZ, e) := by
  refine bad4 (p := p) ?_ he
  unfold s4
  split
  · rw [list_no (by rw [h]; exact he)]
    exact h
  · exact h
theorem bad2 {p e : Int} (h : (s2 b).2 = ⟨p, e⟩) (he : e ≠ 0) : takeF b = (nZ, e) := by
  refine bad3 (p := p) ?_ he
  unfold s3
  split
  · rw [list_no (by rw [h]; exact he)]
    exact h
  · exact h
theorem bad1 {p e : Int} (h : (s1 b).2 = ⟨p, e⟩) (he : e ≠ 0) : takeF b = (nZ, e) := by
  refine bad2 (p := p) ?_ he
  unfold s2
  split
  · unfold iS
    rw [num_no (by rw [h]; exact he)]
    exact h
  · exact h
theorem bad0 {p e : Int} (h : (sayS b).2 = ⟨p, e⟩) (he : e ≠ 0) : takeF b = (nZ, e) := by
  refine bad1 (p := p) ?_ he
  unfold s1
  split
  · have h0 : (sayS b).2.e ≠ 0 := by rw [h]; exact he
    unfold fileS
    rw [text_no h0, num_no h0]
    exact h
  · exact h
theorem s1_held (b : List Int) : (s1 b).1.held = [] ∧ (s1 b).1.parts = [] := by unfold s1 fileS sayS; split <;> exact ⟨rfl, rfl⟩
theorem s2_held (b : List Int) : (s2 b).1.held = [] ∧ (s2 b).1.parts = [] := by
  have h := s1_held b
  unfold s2 iS
  split
  · exact h
  · exact h
theorem strOf_size (l : List Int) : (strOfNums l).size = l.length := by
  show (strOfNums l).data.size = l.length
  rw [← Array.length_toList, strOfNums_data, List.length_map]
theorem say_s1 (b : List Int) : (s1 b).1.say = sayOf b := by unfold s1 fileS sayS sayOf; split <;> rfl
theorem say_s2 (b : List Int) : (s2 b).1.say = sayOf b := by
  have h := say_s1 b
  unfold s2 iS
  split
  · exact h
  · exact h
theorem loop_say {f : Nt × Rs → Nt × Rs} (hf : ∀ t, (f t).1.say = t.1.say) : ∀ (k : Nat) (t : Nt × Rs), (loopS f k t).1.say = t.1.say
  | 0, _ => rfl
  | k + 1, t => by
    unfold loopS
    split
    · rw [loop_say hf k, hf]
    · rfl
theorem say_s3 (b : List Int) : (s3 b).1.say = sayOf b := by
  have h := say_s2 b
  unfold s3 listS
  split
  · exact (loop_say (f := heldS b) (fun t => rfl) _ _).trans h
  · exact h
theorem say_s4 (b : List Int) : (s4 b).1.say = sayOf b := by
  have h := say_s3 b
  unfold s4 listS
  split
  · exact (loop_say (f := partS b) (fun t => rfl) _ _).trans h
  · exact h
/-- The answer behind the last step. -/
theorem last_chk {p : Int} (h : (s5 b).2 = ⟨p, 0⟩) (hc : checkF (s5 b).1 ≠ 0) : takeF b = (nZ, checkF (s5 b).1) := by
  have h1 : endS b (s5 b) = ⟨p, checkF (s5 b).1⟩ := by
    unfold endS
    rw [h]
    exact must_no hc _ _
  unfold takeF
  rw [h1, if_neg hc]
theorem last_more {p : Int} (h : (s5 b).2 = ⟨p, 0⟩) (hc : checkF (s5 b).1 = 0) (hp : p ≠ b.length) : takeF b = (nZ, 4) := by
  have h1 : endS b (s5 b) = ⟨p, 4⟩ := by
    unfold endS
    rw [h]
    simp [mustR, hc, hp]
  unfold takeF
  rw [h1, if_neg (by simp)]
theorem last_ok {p : Int} (h : (s5 b).2 = ⟨p, 0⟩) (hc : checkF (s5 b).1 = 0) (hp : p = b.length) : takeF b = ((s5 b).1, 0) := by
  have h1 : endS b (s5 b) = ⟨p, 0⟩ := by
    unfold endS
    rw [h]
    simp [mustR, hc, hp]
  unfold takeF
  rw [h1, if_pos rfl]
end Go.Proofs.Ytbncmffifbcbjaa.WiMf
