/- Held generations as a kind of elements; where a function holds first in a list: plain. -/
import Derived.Test.YtbncmffifbcbjaaNm
import Derived.Test.YtbncmffifbcbjaaKr
namespace Go.Proofs.Ytbncmffifbcbjaa.Hl
open Go Go.RowKit Go.Proofs.YtbncmffifbcbjaaW.PrintWords Go.Proofs.Ytbncmffifbcbjaa.K Go.Proofs.Ytbncmffifbcbjaa.Nm
set_option linter.unusedVariables false
set_option linter.unusedSimpArgs false
structure Hl where
  name : ByteArray
  gen : Int
instance : Inhabited Hl := ⟨⟨ByteArray.empty, 0⟩⟩
def Hl.cells (h : Hl) : List Value := [.string h.name, .int .i64 h.gen]
structure Hl.Ok (h : Hl) : Prop where
  n : h.name.size ≤ 9223372036854775807
  g : (Lit.int .i64 h.gen).wf = true
def dHl : Kd Hl := Kd.flatK 2 Hl.Ok Hl.cells (fun _ _ => rfl) (fun h _ u hu => by
  simp only [Hl.cells, List.mem_cons, List.not_mem_nil, or_false] at hu
  rcases hu with rfl | rfl <;> rfl)
theorem flat_hl : Flat dHl := Kd.flatK_flat _ _ _ _ _
theorem hl_at {w : World} {A : Option Addr} {n : Nat} {xs : List Hl} (h : dHl.C w A n xs) (i : Nat) (hi : i < n) : ∃ ad, A = some ad ∧ (xs.getD i default).Ok ∧ w.cell? (ad.add (i * 2)) = some (.string (xs.getD i default).name) ∧ w.cell? ⟨(ad.add (i * 2)).block, (ad.add (i * 2)).off + 1, none⟩ = some (.int .i64 (xs.getD i default).gen) := by
  obtain ⟨ad, had, hc⟩ := h.2.2 (by omega)
  have hl := h.1
  have hx : xs[i]? = some (xs.getD i default) := by
    have : i < xs.length := by omega
    simp [this]
  obtain ⟨cs, h1, ⟨ho, rfl⟩, h3⟩ := hc i _ hx
  refine ⟨ad, had, ho, h3 0 _ rfl, ?_⟩
  have := h3 1 _ rfl
  rw [← Addr.add_add] at this
  exact this
/-- Where a function holds first, or -1. -/
def idxP {α : Type} (p : α → Bool) : List α → Nat → Int
  | [], _ => -1
  | x :: l, i => if p x = true then (i : Int) else idxP p l (i + 1)
theorem idxP_any {α : Type} (p : α → Bool) : ∀ (l : List α) (i : Nat), decide (0 ≤ idxP p l i) = l.any p
  | [], _ => by simp [idxP]
  | x :: l, i => by
    unfold idxP
    split
    · rename_i h; simp [h]
    · rename_i h
      rw [idxP_any p l (i + 1)]
      simp [h]
/-- May a name and a generation be? -/
def fileOk (s : ByteArray) (g : Int) : Prop := NameOk s ∧ 1 ≤ g ∧ g ≤ 9007199254740991
instance (s : ByteArray) (g : Int) : Decidable (fileOk s g) := by unfold fileOk; infer_instance
theorem infoHl : (Try.prog.info? 46).map (fun i => (i.zero, i.size, i.bytes)) = some (some (.agg #[.string ByteArray.empty, .int .i64 0]), 2, 24) := by kernel_rfl
end Go.Proofs.Ytbncmffifbcbjaa.Hl
