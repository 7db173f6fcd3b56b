/- A slice of whatever elements is no longer than its bulk; condition: it is read as the form reads it. -/
import Derived.Test.YtkobolgbmfhpgaaBulk
import Derived.Deep.Slices
namespace Go.Proofs.Ytkobolgbmfhpgaa.bulks
open Go Go.ChangeShapes Go.WideShapes
theorem bulk_any {H : Type} {enc : TypeId × Value → H} {P : Program} {W : World} {base : Nat} {spare : Nat → Bool} {held : Bool} {t e : TypeId} {a : Option Addr} {len cap : Nat} {d : DataW H} {ps : List MemPlace}
    (ht : P.underlying t = some (.slice e)) (h : DataW.Trod enc P W base spare held t (.slice a len cap) d ps) : len ≤ Rows.uptoBulk d := by
  obtain ⟨fuel, hf⟩ := h
  rcases Go.Deep.open_slice ht hf with ⟨hcs, _⟩ | ⟨x, l, c, m, n, D, Pl, hcs, _, hl, hcm, hm, hy, hx⟩
  · simp [Value.cells] at hcs
    obtain ⟨rfl, rfl, rfl⟩ := hcs
    exact Nat.zero_le _
  · simp [Value.cells] at hcs
    obtain ⟨rfl, rfl, rfl⟩ := hcs
    obtain ⟨hy, _⟩ := Prod.mk.inj hy
    subst hy
    refine Nat.le_trans ?_ (Nat.le_trans (Nat.le_add_right _ 1) (slice_le _ _))
    exact Nat.le_trans (by simp) (Nat.le_add_right _ _)
end Go.Proofs.Ytkobolgbmfhpgaa.bulks
