/- What a row's argument that is an array of numbers reads as; condition: the argument is read as the form reads it. -/
import Derived.Test.YtnpcngnmjbhhaaaK
import Derived.WideKeyArr2
import Derived.SizedLaws
namespace Go.Proofs.YtnpcngnmjbhhaaaW.PrintWords
open Go Go.ChangeShapes Go.WideShapes Go.RowKit
theorem mapM_each {α β : Type} {f : α → Option β} : ∀ {l : List α} {ys : List β}, l.mapM f = some ys → ∀ x, x ∈ l → ∃ y, f x = some y
  | [], _, _, x, hx => by cases hx
  | a :: l, ys, h, x, hx => by
    rw [List.mapM_cons] at h
    simp only [bind, Option.bind_eq_some_iff, pure, Option.some.injEq] at h
    obtain ⟨y, hy, zs, hz, _⟩ := h
    rcases List.mem_cons.1 hx with rfl | hx
    · exact ⟨y, hy⟩
    · exact mapM_each hz x hx
def numOf : Value → Int
  | .int _ a => a
  | _ => 0
/-- An array of numbers, by value. -/
theorem arr_ints {H : Type} {enc : TypeId × Value → H} {P : Program} {k e : TypeId} {n : Nat} {q : IntKind} {W : World} {base : Nat} {sp : Nat → Bool} {held : Bool} (A : WideMaps.ArrKey P k e n) (he : P.underlying e = some (.int q)) {xs : Array Value} (hn : xs.size = n) {d : DataW H} {ps : List MemPlace}
    (hd : DataW.Trod enc P W base sp held k (.agg xs) d ps) : ∃ l : List Int, xs = (nums q l).toArray ∧ l.length = n ∧ ∀ x ∈ l, (Lit.int q x).wf = true := by
  obtain ⟨fuel, hf⟩ := hd
  cases fuel with
  | zero => simp [DataW.trod] at hf
  | succ m =>
    rw [DataW.trod_step] at hf
    unfold DataW.trodStep at hf
    simp only [A.hu, Value.cells] at hf
    rw [if_pos (by rw [A.size]; simpa using hn)] at hf
    simp only [Option.map_eq_some_iff] at hf
    obtain ⟨ys, hy, _⟩ := hf
    have hv : ∀ i, (hi : i < xs.toList.length) → ∃ a, xs.toList[i] = .int q a ∧ (Lit.int q a).wf = true := fun i hi => by
      obtain ⟨y, h1⟩ := mapM_each hy i (by simp only [List.mem_range]; simpa [← hn] using hi)
      obtain ⟨a, ea, _, wa⟩ := DataW.trod_int he h1
      rw [A.one, Nat.mul_one] at ea
      have h2 : (xs.toList.drop i).take 1 = [xs.toList[i]] := by rw [List.drop_eq_getElem_cons hi]; rfl
      rw [h2] at ea
      injection ea with ea _
      exact ⟨a, ea, wa⟩
    refine ⟨xs.toList.map numOf, ?_, by simpa using hn, fun x hx => ?_⟩
    · have e1 : nums q (xs.toList.map numOf) = xs.toList := by
        refine List.ext_getElem (by simp [nums]) fun i h1 h2 => ?_
        obtain ⟨a, ea, _⟩ := hv i h2
        simp only [nums, List.getElem_map]
        rw [ea]
        rfl
      rw [e1]
    · obtain ⟨v, hvm, rfl⟩ := List.mem_map.1 hx
      obtain ⟨i, hi, rfl⟩ := List.getElem_of_mem hvm
      obtain ⟨a, ea, wa⟩ := hv i hi
      rw [ea]
      exact wa
end Go.Proofs.YtnpcngnmjbhhaaaW.PrintWords
