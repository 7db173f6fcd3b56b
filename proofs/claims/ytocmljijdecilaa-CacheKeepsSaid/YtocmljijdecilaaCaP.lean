/- What Put does to the row, as plain functions; what the map of slots answers behind a loop; no condition. -/
import Derived.Test.YtocmljijdecilaaCaO
import Derived.Test.YtocmljijdecilaaCaB2
namespace Go.Proofs.Ytocmljijdecilaa.CaP
open Go Go.RowKit Go.Shelf Go.Proofs.YtocmljijdecilaaW.PrintWords Go.Proofs.Ytocmljijdecilaa.K Go.Proofs.Ytocmljijdecilaa.Mp Go.Proofs.Ytocmljijdecilaa.Eq Go.Proofs.Ytocmljijdecilaa.CaS Go.Proofs.Ytocmljijdecilaa.CaC Go.Proofs.Ytocmljijdecilaa.CaD Go.Proofs.Ytocmljijdecilaa.CaA Go.Proofs.Ytocmljijdecilaa.CaO Go.Proofs.Ytocmljijdecilaa.CaB Go.Proofs.Ytocmljijdecilaa.CaB2
set_option linter.unusedVariables false
set_option linter.unusedSimpArgs false
def rmB : List Kn → Int → List Kn
  | [], _ => []
  | k :: l, b => if k.bin = b then l else k :: rmB l b
theorem rm_at : ∀ (ts : List Kn) (b : Int) (o : Nat), (atB ts b o = -1 ∧ rmB ts b = ts) ∨ ∃ i, i < ts.length ∧ atB ts b o = ((o + i : Nat) : Int) ∧ rmB ts b = ts.take i ++ ts.drop (i + 1)
  | [], _, _ => .inl ⟨rfl, rfl⟩
  | k :: l, b, o => by
    unfold atB rmB
    by_cases h : k.bin = b
    · rw [if_pos h, if_pos h]
      exact .inr ⟨0, by simp, rfl, rfl⟩
    · rw [if_neg h, if_neg h]
      rcases rm_at l b (o + 1) with ⟨h1, h2⟩ | ⟨i, hi, h1, h2⟩
      · exact .inl ⟨h1, by rw [h2]⟩
      · refine .inr ⟨i + 1, by simpa using hi, by rw [h1]; congr 1; omega, by rw [h2]; rfl⟩
theorem rm_len (ts : List Kn) (b : Int) : (rmB ts b).length ≤ ts.length := by
  rcases rm_at ts b 0 with ⟨_, h⟩ | ⟨i, hi, _, h⟩
  · rw [h]; exact Nat.le_refl _
  · rw [h, List.length_append, List.length_take, List.length_drop]; omega
def cut (room : Nat) (l : List Kn) : List Kn := if room < l.length then l.drop 1 else l
inductive Fold (ss : List Sm) : List (Fin ss.length) → (Value → Option Value) → Prop
  | nil : Fold ss [] (fun _ => none)
  | snoc (pre : List (Fin ss.length)) (f : Value → Option Value) (x : Fin ss.length) (f' : Value → Option Value) : Fold ss pre f → Put f (sumV ss[x.1]) (.int .i64 (x.1 : Int)) f' → Fold ss (pre ++ [x]) f'
theorem put_unique {f f1 f2 : Value → Option Value} {k v : Value} (h1 : Put f k v f1) (h2 : Put f k v f2) : f1 = f2 := by
  funext u
  by_cases h : u = k
  · subst h; rw [h1.1, h2.1]
  · rw [h1.2 u h, h2.2 u h]
theorem put_ex (f : Value → Option Value) (k v : Value) : ∃ f', Put f k v f' := by
  classical
  exact ⟨fun u => if u = k then some v else f u, by simp, fun u hu => by simp [hu]⟩
theorem fold_is (ss : List Sm) : ∀ (xs : List (Fin ss.length)) (f : Value → Option Value), Fold ss xs f → ∀ i, i ≤ ss.length → xs.map (·.val) = downTo ss.length i → f = slotF (ss.drop i) i := by
  intro xs f h
  induction h with
  | nil =>
    intro i hi he
    have : (downTo ss.length i).length = 0 := by rw [← he]; rfl
    simp [downTo] at this
    have : ss.length ≤ i := by omega
    rw [List.drop_of_length_le this, slot_nil]
  | snoc pre f x f' hf hp ih =>
    intro i hi he
    by_cases hl : i < ss.length
    · rw [down_step _ i hl, List.map_append] at he
      have h2 := List.append_inj' he (by simp)
      have hx : x.1 = i := by simpa using h2.2
      have hff := ih (i + 1) (by omega) h2.1
      subst hff
      have h3 := slot_put ss[i] (ss.drop (i + 1)) i
      have hp2 : Put (slotF (ss.drop (i + 1)) (i + 1)) (sumV ss[i]) (.int .i64 (i : Int)) f' := by
        obtain ⟨x1, hx1⟩ := x
        simp only at hx
        subst hx
        exact hp
      rw [put_unique hp2 h3, ← List.drop_eq_getElem_cons hl]
    · have : downTo ss.length i = [] := by
        unfold downTo
        rw [List.drop_of_length_le (by simp; omega)]; rfl
      rw [this] at he
      simp at he
theorem key_sm (s : Sm) (h : OkSum s) : ∃ l, keyOf Try.prog 35 (sumV s) = some l := by
  have w : Wide Try.prog 35 := ⟨⟨2, by omega, by kernel_rfl, by kernel_rfl⟩, by rw [Try.underlying35]⟩
  obtain ⟨m, hm⟩ : ∃ m, Try.prog.types.size = m + 1 := ⟨Try.prog.types.size - 1, by kernel_rfl⟩
  obtain ⟨L, hL⟩ := lits_arr (P := Try.prog) (k := 35) (e := 5) (n := 32) Try.underlying35 Try.underlying5 (by kernel_rfl) (by kernel_rfl) m h.1 h.2
  rw [show m + 2 = Try.prog.types.size + 1 from by omega] at hL
  show ∃ l, keyOf Try.prog 35 (.agg (nums .u8 s).toArray) = some l
  exact key_of_lits w (by kernel_rfl) (by rw [show (nums .u8 s).length = 32 by simp [nums, h.1]]; kernel_rfl) hL
theorem keyed_sm : Maps.Keyed Try.prog 35 := Maps.Keyed.of_law (Wide.law ⟨⟨2, by omega, by kernel_rfl, by kernel_rfl⟩, by rw [Try.underlying35]⟩)
end Go.Proofs.Ytocmljijdecilaa.CaP
