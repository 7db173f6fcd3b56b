/- A kind of elements without rows inside: a struct of flat cells. -/
import Derived.Test.YtbncmffifbcbjaaK
namespace Go.Proofs.YtbncmffifbcbjaaW.PrintWords
open Go.RowKit
/-- A struct's cells are told by a function of it. -/
def Kd.flatK {α : Type} (sz : Nat) (ok : α → Prop) (cells : α → List Value) (hl : ∀ x, ok x → (cells x).length = sz) (h1 : ∀ x, ok x → ∀ u ∈ cells x, u.oneCell' = true) : Kd α where
  sz := sz
  E := []
  K := fun _ x cs => ok x ∧ cs = cells x
  M := fun _ _ _ x cs => ok x ∧ cs = cells x
  K_len := fun h => by rw [h.2]; exact hl _ h.1
  K_one := fun h u hu => h1 _ h.1 u (by rw [← h.2]; exact hu)
  K_below := fun _ h => h
  K_of_M := fun h => h
  M_mono := fun _ h => h
  M_bound := fun h => h
  M_move := fun _ h => h
  M_lower := fun _ h => h
theorem Kd.flatK_flat {α : Type} (sz : Nat) (ok : α → Prop) (cells : α → List Value) (hl : ∀ x, ok x → (cells x).length = sz) (h1 : ∀ x, ok x → ∀ u ∈ cells x, u.oneCell' = true) : Go.Proofs.Ytbncmffifbcbjaa.K.Flat (Kd.flatK sz ok cells hl h1) := fun _ _ _ _ h => h
end Go.Proofs.YtbncmffifbcbjaaW.PrintWords
