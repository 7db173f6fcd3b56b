/- What a row's slice of structs of two numbers reads as, and how long it is; condition: the slice is read as the form reads it. -/
import Derived.Test.YtgfmchajkajagaaK
import Derived.Deep.SlicePairs
import Derived.SizedLaws
namespace Go.Proofs.YtgfmchajkajagaaW.PrintWords
open Go Go.ChangeShapes Go.WideShapes Go.RowKit
theorem C_of_pairs {H : Type} {enc : TypeId × Value → H} {P : Program} {W : World} {base : Nat} {spare : Nat → Bool} {held : Bool} {t e : TypeId} {f0 f1 : Field} {k0 k1 : IntKind} {a : Option Addr} {len cap : Nat} {d : DataW H} {ps : List MemPlace}
    (ht : P.underlying t = some (.slice e)) (he : P.underlying e = some (.struct #[f0, f1])) (ce : P.cellsOf e = 2) (o0 : f0.offset = 0) (o1 : f1.offset = 1) (c0 : P.cellsOf f0.type = 1) (c1 : P.cellsOf f1.type = 1)
    (u0 : P.underlying f0.type = some (.int k0)) (u1 : P.underlying f1.type = some (.int k1)) (h : DataW.Trod enc P W base spare held t (.slice a len cap) d ps) :
    ∃ l : List (Int × Int), Kd.C (Kd.pair (Kd.int k0) (Kd.int k1)) W a len l ∧ len ≤ cap ∧ (∀ x ∈ l, (Lit.int k0 x.1).wf = true ∧ (Lit.int k1 x.2).wf = true) := by
  obtain ⟨fuel, hf⟩ := h
  rcases Go.Deep.open_slice_pairs ht he ce o0 o1 c0 c1 hf with ⟨hcs, _⟩ | ⟨x, l, c, m, n, V0, V1, D0, D1, P0, P1, hcs, _, hl, hcm, hm, _, hcell⟩
  · simp [Value.cells] at hcs
    obtain ⟨rfl, rfl, rfl⟩ := hcs
    exact ⟨[], ⟨rfl, by omega, fun h => absurd h (by omega)⟩, Nat.le_refl _, fun x hx => by cases hx⟩
  · simp [Value.cells] at hcs
    obtain ⟨rfl, rfl, rfl⟩ := hcs
    have hlm : len ≤ m := by rw [hm]; split <;> omega
    have hv : ∀ i, i < len → ∃ q : Int × Int, V0 i = .int k0 q.1 ∧ V1 i = .int k1 q.2 ∧ (Lit.int k0 q.1).wf = true ∧ (Lit.int k1 q.2).wf = true := fun i hi => by
      obtain ⟨_, _, h2, h3⟩ := hcell i (by omega)
      obtain ⟨n0, e0, _, w0⟩ := DataW.trod_int u0 h2
      obtain ⟨n1, e1, _, w1⟩ := DataW.trod_int u1 h3
      exact ⟨(n0, n1), by simpa using e0, by simpa using e1, w0, w1⟩
    refine ⟨(List.range len).map fun i => if hi : i < len then (hv i hi).choose else (0, 0), ⟨by simp, ?_, fun _ => ⟨x, rfl, ?_⟩⟩, hl, ?_⟩
    · have := hcm
      simp only [maxLen] at this
      omega
    · intro j p hj
      have hjl : j < len := by
        have := (List.getElem?_eq_some_iff.1 hj).1
        simpa using this
      have hp : p = (hv j hjl).choose := by
        rw [List.getElem?_map, List.getElem?_range hjl] at hj
        simp [hjl] at hj
        exact hj.symm
      have hs := (hv j hjl).choose_spec
      rw [← hp] at hs
      obtain ⟨g0, g1, _, _⟩ := hcell j (by omega)
      refine ⟨[.int k0 p.1, .int k1 p.2], rfl, ⟨[.int k0 p.1], [.int k1 p.2], rfl, ?_, ?_⟩, ?_⟩
      · simp [Kd.int, Kd.scalar]
      · simp [Kd.int, Kd.scalar]
      · intro i u hu
        show W.cell? (x.add (j * 2 + i)) = some u
        rcases i with _ | _ | i
        · simp at hu
          subst hu
          rw [← hs.1]
          exact g0
        · simp at hu
          subst hu
          rw [← hs.2.1]
          exact g1
        · simp at hu
    · intro p hp
      obtain ⟨j, hj, rfl⟩ := List.mem_map.1 hp
      have hjl : j < len := List.mem_range.1 hj
      have hs := (hv j hjl).choose_spec
      simp only [hjl, dif_pos]
      exact ⟨hs.2.2.1, hs.2.2.2⟩
/-- It is no longer than its weight allows. -/
theorem sized_pairs {H : Type} {enc : TypeId × Value → H} {P : Program} {W : World} {base : Nat} {spare : Nat → Bool} {held : Bool} {t e : TypeId} {f0 f1 : Field} {a : Option Addr} {len cap : Nat} {d : DataW H} {ps : List MemPlace} {ts : List TypeId} {ds : List (DataW H)} {j : Nat}
    (hsz : (DataW.weightsEach P ts ds).all (· ≤ reachBytes) = true) (htj : ts[j]? = some t) (hd : ds[j]? = some d) (ht : P.underlying t = some (.slice e)) (he : P.underlying e = some (.struct #[f0, f1])) (ce : P.cellsOf e = 2) (o0 : f0.offset = 0) (o1 : f1.offset = 1) (c0 : P.cellsOf f0.type = 1) (c1 : P.cellsOf f1.type = 1) {B : Nat} (hB : P.bytesOf e = B)
    (h : DataW.Trod enc P W base spare held t (.slice a len cap) d ps) : len * B ≤ 140737488351232 := by
  obtain ⟨fuel, hf⟩ := h
  rcases Go.Deep.open_slice_pairs ht he ce o0 o1 c0 c1 hf with ⟨hcs, _⟩ | ⟨x, l, c, m, n, V0, V1, D0, D1, P0, P1, hcs, _, hl, hcm, hm, hx, hcell⟩
  · simp [Value.cells] at hcs
    obtain ⟨rfl, rfl, rfl⟩ := hcs
    simp
  · simp [Value.cells] at hcs
    obtain ⟨rfl, rfl, rfl⟩ := hcs
    obtain ⟨hx, _⟩ := Prod.mk.inj hx
    subst hx
    have z := sized_slice hsz htj hd ht
    rw [hB] at z
    have h1 : ((List.range len).map fun i => DataW.agg [D0 i, D1 i]).length = len := by simp
    exact Nat.le_trans (Nat.mul_le_mul_right _ (by omega)) z
end Go.Proofs.YtgfmchajkajagaaW.PrintWords
