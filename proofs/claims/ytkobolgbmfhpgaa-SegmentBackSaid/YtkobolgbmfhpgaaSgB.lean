/- Which number stands in most lists; which are chosen: plain. -/
import Derived.Test.YtkobolgbmfhpgaaSgL
namespace Go.Proofs.Ytkobolgbmfhpgaa.SgB
open Go Go.Proofs.Ytkobolgbmfhpgaa.SgL
/-- One number asked. -/
def stepB (ls : List (List Int)) (st : Int × Bool) (n : Int) : Int × Bool :=
  if st.2 = false ∨ cnt ls st.1 < cnt ls n ∨ cnt ls n = cnt ls st.1 ∧ st.1 < n then (n, true) else st
def bestF (ls : List (List Int)) : Int × Bool := ls.flatten.foldl (stepB ls) (0, false)
/-- t is the best of the numbers of which P speaks; b: there is one. -/
structure Best (ls : List (List Int)) (P : Int → Prop) (t : Int) (b : Bool) : Prop where
  none : b = false → t = 0 ∧ ∀ x, ¬ P x
  some : b = true → P t ∧ ∀ x, P x → cnt ls x < cnt ls t ∨ cnt ls x = cnt ls t ∧ x ≤ t
theorem Best.start (ls : List (List Int)) (P : Int → Prop) (h : ∀ x, ¬ P x) : Best ls P 0 false := ⟨fun _ => ⟨rfl, h⟩, fun e => (by cases e)⟩
theorem Best.iff {ls : List (List Int)} {P Q : Int → Prop} {t : Int} {b : Bool} (h : Best ls P t b) (e : ∀ x, P x ↔ Q x) : Best ls Q t b :=
  ⟨fun hb => ⟨(h.none hb).1, fun x hx => (h.none hb).2 x ((e x).2 hx)⟩, fun hb => ⟨(e t).1 (h.some hb).1, fun x hx => (h.some hb).2 x ((e x).2 hx)⟩⟩
theorem Best.step {ls : List (List Int)} {P : Int → Prop} {t : Int} {b : Bool} (h : Best ls P t b) (n : Int) : Best ls (fun x => P x ∨ x = n) (stepB ls (t, b) n).1 (stepB ls (t, b) n).2 := by
  unfold stepB
  split
  · rename_i hc
    refine ⟨fun e => (by cases e), fun _ => ⟨.inr rfl, fun x hx => ?_⟩⟩
    show cnt ls x < cnt ls n ∨ cnt ls x = cnt ls n ∧ x ≤ n
    rcases hx with hx | rfl
    · cases hb : b with
      | false => exact absurd hx ((h.none hb).2 x)
      | true =>
        have h2 := (h.some hb).2 x hx
        simp only [hb] at hc
        rcases hc with hc | hc | hc
        · cases hc
        · left; omega
        · rcases h2 with h2 | h2
          · left; omega
          · right; omega
    · right; omega
  · rename_i hc
    simp only [not_or] at hc
    have hb : b = true := by
      cases b
      · exact absurd rfl hc.1
      · rfl
    subst hb
    refine ⟨fun e => (by cases e), fun _ => ⟨.inl (h.some rfl).1, fun x hx => ?_⟩⟩
    rcases hx with hx | rfl
    · exact (h.some rfl).2 x hx
    · have h1 := hc.2.1
      have h2 := hc.2.2
      show cnt ls x < cnt ls t ∨ cnt ls x = cnt ls t ∧ x ≤ t
      omega
theorem Best.one {ls : List (List Int)} {P : Int → Prop} {t t' : Int} {b b' : Bool} (h : Best ls P t b) (g : Best ls P t' b') : (t, b) = (t', b') := by
  cases hb : b <;> cases hb' : b'
  · rw [(h.none hb).1, (g.none hb').1]
  · exact absurd (g.some hb').1 ((h.none hb).2 _)
  · exact absurd (h.some hb).1 ((g.none hb').2 _)
  · have h1 := (h.some hb).2 t' (g.some hb').1
    have h2 := (g.some hb').2 t (h.some hb).1
    have : t = t' := by omega
    rw [this]
theorem best_fold (ls : List (List Int)) : ∀ (xs : List Int) (P : Int → Prop) (t : Int) (b : Bool), Best ls P t b → Best ls (fun x => P x ∨ x ∈ xs) (xs.foldl (stepB ls) (t, b)).1 (xs.foldl (stepB ls) (t, b)).2
  | [], P, t, b, h => h.iff (fun x => by simp)
  | n :: xs, P, t, b, h => by
    have := best_fold ls xs _ _ _ (h.step n)
    rw [List.foldl_cons]
    exact this.iff (fun x => by simp [or_assoc])
theorem best_is (ls : List (List Int)) : Best ls (fun x => ∃ l ∈ ls, x ∈ l) (bestF ls).1 (bestF ls).2 :=
  (best_fold ls ls.flatten _ _ _ (Best.start ls (fun _ => False) (fun _ h => h))).iff (fun x => by simp)
/-- The numbers chosen, at most m. -/
def champs : Nat → List (List Int) → List Int
  | 0, _ => []
  | m + 1, ls => if (bestF ls).2 = true then (bestF ls).1 :: champs m (ls.filter (fun l => !decide ((bestF ls).1 ∈ l))) else []
theorem champs_zero (ls : List (List Int)) : champs 0 ls = [] := rfl
theorem champs_none {ls : List (List Int)} (m : Nat) (h : (bestF ls).2 = false) : champs m ls = [] := by
  cases m
  · rfl
  · unfold champs; rw [h]; rfl
theorem champs_more {ls : List (List Int)} (m : Nat) {t : Int} (h : bestF ls = (t, true)) : champs (m + 1) ls = t :: champs m (ls.filter (fun l => !decide (t ∈ l))) := by
  conv => lhs; unfold champs
  rw [h]; rfl
theorem champs_len : ∀ (m : Nat) (ls : List (List Int)), (champs m ls).length ≤ m
  | 0, _ => Nat.le_refl _
  | m + 1, ls => by
    unfold champs
    split
    · have := champs_len m (ls.filter (fun l => !decide ((bestF ls).1 ∈ l)))
      simp only [List.length_cons]; omega
    · exact Nat.zero_le _
/-- Each chosen is in a list that no one chosen ahead is in. -/
theorem champs_fresh : ∀ (m : Nat) (ls : List (List Int)) (i : Nat) (h : i < (champs m ls).length), ∃ l ∈ ls, (champs m ls)[i] ∈ l ∧ ∀ x ∈ (champs m ls).take i, x ∉ l
  | 0, _, _, h => by cases h
  | m + 1, ls, i, h => by
    cases hb : bestF ls with
    | mk t b =>
      cases b with
      | false =>
        have e := champs_none (m + 1) (by rw [hb] : (bestF ls).2 = false)
        rw [e] at h; cases h
      | true =>
        have e := champs_more m hb
        have hB := best_is ls
        rw [hb] at hB
        cases i with
        | zero =>
          obtain ⟨l, hl, ht⟩ := (hB.some rfl).1
          refine ⟨l, hl, ?_, by simp⟩
          simp only [e, List.getElem_cons_zero]
          exact ht
        | succ i =>
          have h' : i < (champs m (ls.filter (fun l => !decide (t ∈ l)))).length := by rw [e] at h; simpa using h
          obtain ⟨l, hl, h1, h2⟩ := champs_fresh m _ i h'
          rw [List.mem_filter] at hl
          refine ⟨l, hl.1, ?_, ?_⟩
          · simp only [e, List.getElem_cons_succ]; exact h1
          · rw [e, List.take_succ_cons]
            intro x hx
            rcases List.mem_cons.1 hx with rfl | hx
            · simpa using hl.2
            · exact h2 x hx
end Go.Proofs.Ytkobolgbmfhpgaa.SgB
