/- No slice is longer than its weight allows; condition: the row's reach. -/
import Derived.Test.YtkobolgbmfhpgaaRf
namespace Go.Proofs.YtkobolgbmfhpgaaW.PrintWords
open Go Go.ChangeShapes Go.WideShapes Go.RowKit
theorem sized_any {H : Type} {enc : TypeId × Value → H} {P : Program} {W : World} {base : Nat} {spare : Nat → Bool} {held : Bool} {t e : TypeId} {a : Option Addr} {len cap : Nat} {d : DataW H} {ps : List MemPlace} {ts : List TypeId} {ds : List (DataW H)} {j : Nat}
    (hsz : (DataW.weightsEach P ts ds).all (· ≤ reachBytes) = true) (htj : ts[j]? = some t) (hd : ds[j]? = some d) (ht : P.underlying t = some (.slice e)) {B : Nat} (hB : P.bytesOf e = B)
    (h : DataW.Trod enc P W base spare held t (.slice a len cap) d ps) : len * B ≤ 140737488351232 := by
  obtain ⟨fuel, hf⟩ := h
  rcases Go.Deep.open_slice ht hf with ⟨hcs, _⟩ | ⟨x, l, c, m, n, D, Pl, hcs, _, hl, hcm, hm, hy, hx⟩
  · simp [Value.cells] at hcs
    obtain ⟨rfl, rfl, rfl⟩ := hcs
    simp
  · simp [Value.cells] at hcs
    obtain ⟨rfl, rfl, rfl⟩ := hcs
    obtain ⟨hy, _⟩ := Prod.mk.inj hy
    subst hy
    have z := sized_slice hsz htj hd ht
    rw [hB] at z
    exact Nat.le_trans (Nat.mul_le_mul_right _ (by simp)) z
end Go.Proofs.YtkobolgbmfhpgaaW.PrintWords
