/- What a row's slice of slices of numbers reads as; condition: it is read as the form reads it. -/
import Derived.Test.YtkobolgbmfhpgaaSgL4
import Derived.Deep.Slices
import Derived.ChangeSlices
namespace Go.Proofs.YtkobolgbmfhpgaaW.PrintWords
set_option linter.unusedVariables false
open Go Go.ChangeShapes Go.WideShapes Go.RowKit Go.Proofs.Ytkobolgbmfhpgaa.SgL Go.Proofs.Ytkobolgbmfhpgaa.SgF
theorem list_open {H : Type} {enc : TypeId × Value → H} {P : Program} {t e : TypeId} {W : World} {base : Nat} {sp : Nat → Bool} {held : Bool} (ht : P.underlying t = some (.slice e)) (he : P.underlying e = some (.int .i64)) (hc : P.cellsOf e = 1)
    {cs : List Value} {fuel : Nat} {y : DataW H × List MemPlace} (hf : DataW.trod enc P W base sp held fuel t cs = some y) : ∃ d : Ds, cs = [.slice d.a d.n d.c] ∧ ∃ l, TO W d l := by
  rcases open_ints ht he hc hf with ⟨rfl, _⟩ | ⟨x, len, cap, zs, rfl, _, hl, hm, hz, _, hcell, hwz⟩
  · exact ⟨⟨none, 0, 0⟩, rfl, [], ⟨⟨rfl, Nat.zero_le _, fun h => absurd h (Nat.lt_irrefl 0)⟩, Nat.le_refl _, fun x hx => by cases hx⟩⟩
  · have hlz : len ≤ zs.length := by rw [hz]; split <;> omega
    have hml : maxLen = 9223372036854775807 := by decide
    refine ⟨⟨some x, len, cap⟩, rfl, zs.take len, ⟨⟨by rw [List.length_take]; show min len zs.length = len; omega, show len ≤ 9223372036854775807 by omega, fun _ => ⟨x, rfl, fun j v hj => ?_⟩⟩, hl, fun v hv => hwz v (List.mem_of_mem_take hv)⟩⟩
    have hjl : j < len := by have := (List.getElem?_eq_some_iff.1 hj).1; rw [List.length_take] at this; omega
    have hv : zs[j]? = some v := by rw [List.getElem?_take_of_lt hjl] at hj; exact hj
    refine ⟨[.int .i64 v], rfl, rfl, fun i u hu => ?_⟩
    have hi : i = 0 := by
      have := (List.getElem?_eq_some_iff.1 hu).1
      simp at this
      exact this
    subst hi
    obtain rfl : Value.int .i64 v = u := by simpa using hu
    have h1 := hcell j (by omega)
    rw [List.getD_eq_getElem?_getD, hv] at h1
    show W.cell? (x.add (j * 1 + 0)) = _
    rw [Nat.mul_one, Nat.add_zero]
    exact h1
theorem lists_open {H : Type} {enc : TypeId × Value → H} {P : Program} {rl t e : TypeId} {W : World} {base : Nat} {sp : Nat → Bool} {held : Bool} (hrl : P.underlying rl = some (.slice t)) (ht : P.underlying t = some (.slice e)) (he : P.underlying e = some (.int .i64)) (hc : P.cellsOf e = 1) (hct : P.cellsOf t = 1)
    {a : Option Addr} {len cap : Nat} {fuel : Nat} {y : DataW H × List MemPlace} (hf : DataW.trod enc P W base sp held fuel rl [.slice a len cap] = some y) : ∃ ds, LsC W a len ds ∧ len ≤ cap := by
  rcases Go.Deep.open_slice hrl hf with ⟨hcs, _⟩ | ⟨x, l, c, m, n, D, Pl, hcs, _, hl, hm, hmm, _, hx⟩
  · injection hcs with h1 _
    injection h1 with h1 h2 h3
    subst h1; subst h2; subst h3
    exact ⟨[], ⟨⟨rfl, Nat.zero_le _, fun h => absurd h (Nat.lt_irrefl 0)⟩, fun d hd => by cases hd⟩, Nat.le_refl _⟩
  · injection hcs with h1 _
    injection h1 with h1 h2 h3
    subst h1; subst h2; subst h3
    have hlm : len ≤ m := by rw [hmm]; split <;> omega
    have hml : maxLen = 9223372036854775807 := by decide
    obtain ⟨ds, hls, hp⟩ := choose_list (p := fun i (d : Ds) => (∃ l, TO W d l) ∧ W.cell? (x.add i) = some (.slice d.a d.n d.c)) len (fun i hi' => by
      obtain ⟨cs', g1, g2⟩ := hx i (by omega)
      rw [hct] at g1
      obtain ⟨_, hlen, hcell⟩ := World.cells?_some g1
      obtain ⟨d, e1, e2⟩ := list_open ht he hc g2
      refine ⟨d, e2, ?_⟩
      have := hcell 0 (by omega)
      rw [e1, Nat.mul_one, Addr.add_add, Nat.add_zero] at this
      simpa using this)
    refine ⟨ds, ⟨⟨hls, by omega, fun _ => ⟨x, rfl, fun j d hj => ?_⟩⟩, fun d hd => ?_⟩, hl⟩
    · have hjl : j < len := by have := (List.getElem?_eq_some_iff.1 hj).1; omega
      have h1 := (hp j hjl).2
      rw [List.getD_eq_getElem?_getD, hj] at h1
      refine ⟨d.cells, rfl, ⟨trivial, rfl⟩, fun i u hu => ?_⟩
      have hi : i = 0 := by
        have := (List.getElem?_eq_some_iff.1 hu).1
        have h2 : d.cells.length = 1 := rfl
        omega
      subst hi
      obtain rfl : Value.slice d.a d.n d.c = u := by simpa [Ds.cells] using hu
      show W.cell? (x.add (j * 1 + 0)) = _
      rw [Nat.mul_one, Nat.add_zero]
      exact h1
    · obtain ⟨i, hi, rfl⟩ := List.getElem_of_mem hd
      have := hp i (by omega)
      rw [show ds.getD i default = ds[i] from by simp [hi]] at this
      exact this.1
end Go.Proofs.YtkobolgbmfhpgaaW.PrintWords
namespace Go.Proofs.Ytkobolgbmfhpgaa.SgOp
open Go Go.RowKit Go.Proofs.YtkobolgbmfhpgaaW.PrintWords Go.Proofs.Ytkobolgbmfhpgaa.SgF
theorem champions_row (A : Option Addr) (k c : Nat) (ds : List SgL.Ds) (most : Int) (w : World) (h : LsC w A k ds) (_ : k ≤ c) (_ : (Lit.int .i64 most).wf = true) :
    Calls Try.prog 3 #[.slice A k c, .int .i64 most] w fun e w' => e = .returned (.bool true) ∧ Below w.heap.size w w' := SgL4.champions_calls A k c ds most w h
end Go.Proofs.Ytkobolgbmfhpgaa.SgOp
