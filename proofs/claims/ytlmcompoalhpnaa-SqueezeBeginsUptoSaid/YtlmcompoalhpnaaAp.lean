/- Two rows of one kind that lie apart: the one is read as ever behind an append to the other. -/
import Derived.Test.YtlmcompoalhpnaaK
namespace Go.Proofs.Ytlmcompoalhpnaa.Ap
open Go Go.RowKit Go.Proofs.YtlmcompoalhpnaaW.PrintWords Go.Proofs.Ytlmcompoalhpnaa.K
set_option linter.unusedVariables false
section
variable {α : Type} {d : Kd α} {e : Nat} {w w1 : World} {base : Nat} {v v1 p : Value} {xs : List α}
theorem R_kept_row (hd : Flat d) (h : d.R e w base (fun _ => True) v xs) {row : Option Nat} (hne : ∀ g, row = some g → v.ownBlock ≠ some g) (hg : w.grownBy w1 row) : d.R e w1 base (fun _ => True) v xs := by
  cases row with
  | none => exact Kd.R_below h ⟨hg.os, hg.tape, hg.output, hg.size, fun k hk => hg.block k hk (fun e => by cases e)⟩
  | some g =>
    have hne' := hne g rfl
    obtain ⟨_, inner, ho, hr⟩ := h
    refine ⟨fun _ _ => trivial, inner, ho.kept hg (.inr hne'), hr.imp_ (fun x cs hm => ?_)⟩
    have h2 := hd w base x cs (d.K_of_M hm)
    have h3 := d.M_move (w1 := w1) (fun k hk => hk.elim) h2
    exact d.M_mono (fun k hk => hk.elim) h3
def Apart (v p : Value) : Prop := ∀ k, v.ownBlock = some k → p.ownBlock ≠ some k
theorem apart_lt (hp : d.R e w base (fun _ => True) p xs) (hv : ∀ k, v.ownBlock = some k → k < base) : Apart v p := fun k hk h => by
  have := hv k hk
  have := ((Kd.R_bound hp).1 k h).2.1
  omega
theorem apart_next (h : Apart v p) (hp : d.R e w base (fun _ => True) p xs) (hat : v1.ownBlock = v.ownBlock ∨ ∃ b, v1.ownBlock = some b ∧ w.heap.size ≤ b) : Apart v1 p := fun k hk hq => by
  rcases hat with h1 | ⟨b, h1, h2⟩
  · exact h k (h1 ▸ hk) hq
  · rw [h1] at hk
    injection hk with hk
    have := ((Kd.R_bound hp).1 k hq).2.2.1
    omega
theorem R_apart (hd : Flat d) (h : Apart v p) (hp : d.R e w base (fun _ => True) p xs) (hg : w.grownBy w1 v.ownBlock) : d.R e w1 base (fun _ => True) p xs := R_kept_row hd hp (fun g hg' => h g hg') hg
theorem R_lt_size (h : d.R e w base (fun _ => True) v xs) : ∀ k, v.ownBlock = some k → k < w.heap.size := fun k hk => ((Kd.R_bound h).1 k hk).2.2.1
end
/-- A block of bytes, read as bytes. -/
theorem row_C {w : World} {g : Nat} {xs : List Int} {t : TypeId} {fr : Nat × Nat} (h : w.heap[g]? = some (.cells (nums .u8 xs).toArray t fr)) (hl : xs.length ≤ maxLen) : (Kd.int .u8).C w (some ⟨g, 0, none⟩) xs.length xs := by
  refine Kd.C_of_reads (d := 0) ⟨rfl, by simpa [maxLen] using hl, fun _ => ⟨⟨g, 0, none⟩, rfl, fun j hj => ?_⟩⟩
  have : w.cell? ⟨g, 0 + j, none⟩ = some (.int .u8 (xs.getD j 0)) := by
    unfold World.cell?
    simp only [h]
    simp [nums, hj]
  rw [Nat.zero_add] at this
  by_cases hj0 : j = 0
  · subst hj0; simpa [Addr.add] using this
  · simpa [Addr.add, hj0] using this
/-- A byte of an own row, and a store into it. -/
theorem own_byte {wr : World} {base n c : Nat} {A : Option Addr} {xs : List Int} (h : Kd.R (Kd.int .u8) 5 wr base (fun _ => True) (.slice A n c) xs) (k : Nat) (hk : k < n) :
    ∃ j, A = some ⟨j, 0, none⟩ ∧ base ≤ j ∧ wr.cell? ⟨j, k, none⟩ = some (.int .u8 (rd xs k)) ∧ wr.frozen? ⟨j, k, none⟩ = false ∧
      ∀ x, Kd.R (Kd.int .u8) 5 (wr.setCell ⟨j, k, none⟩ (.int .u8 x)) base (fun _ => True) (.slice A n c) (xs.set k x) ∧ wr.grownBy (wr.setCell ⟨j, k, none⟩ (.int .u8 x)) (some j) := by
  have hl := Kd.R_reads' h
  obtain ⟨ad, rfl, _⟩ := hl.2.2.2.2 (by omega)
  obtain ⟨j, rfl⟩ := Kd.R_head h
  have hown : wr.ownsRow base 5 1 (.slice (some ⟨j, 0, none⟩) n c) n (nums .u8 xs) := by
    have := Kd.own_of_R h
    rw [← hl.1] at this
    exact this
  have hc := own_at hown (k : Int) (by omega) (by omega)
  rw [Int.toNat_natCast] at hc
  refine ⟨j, rfl, ((Kd.R_bound h).1 j rfl).2.1, hc.1, hc.2, fun x => ?_⟩
  have hst := own_store hown (k : Int) x
  rw [Int.toNat_natCast] at hst
  refine ⟨Kd.R_of_own (enc := Value.int .u8) (h1 := fun _ => rfl) ?_ (fun _ _ => trivial), hst.2⟩
  rw [List.length_set, ← hl.1]
  exact hst.1
end Go.Proofs.Ytlmcompoalhpnaa.Ap
