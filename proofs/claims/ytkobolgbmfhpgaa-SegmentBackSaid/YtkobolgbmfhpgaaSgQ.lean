/- Groups of refs: plain. -/
import Derived.Test.YtkobolgbmfhpgaaSgHk
namespace Go.Proofs.Ytkobolgbmfhpgaa.SgQ
open Go Go.RowKit Go.Proofs.YtkobolgbmfhpgaaW.PrintWords Go.Proofs.Ytkobolgbmfhpgaa.K Go.Proofs.Ytkobolgbmfhpgaa.ReK Go.Proofs.Ytkobolgbmfhpgaa.SgL Go.Proofs.Ytkobolgbmfhpgaa.SgE
set_option linter.unusedVariables false
set_option linter.unusedSimpArgs false
/-- One ref more: the groups that are closed, and the one under way. -/
def grpStep (most : Int) (st : List (List Ref) × List Ref) (r : Ref) : List (List Ref) × List Ref :=
  if endsF (st.2 ++ [r]) most = true then (st.1 ++ [st.2 ++ [r]], []) else (st.1, st.2 ++ [r])
def foldG (most : Int) (rs : List Ref) : List (List Ref) × List Ref := rs.foldl (grpStep most) ([], [])
def splitF (most : Int) (rs : List Ref) : List (List Ref) := if (foldG most rs).2 = [] then (foldG most rs).1 else (foldG most rs).1 ++ [(foldG most rs).2]
theorem fold_snoc (most : Int) (xs : List Ref) (r : Ref) : foldG most (xs ++ [r]) = grpStep most (foldG most xs) r := by
  unfold foldG
  rw [List.foldl_append]; rfl
/-- What the groups are. -/
structure Inv (most : Int) (rs : List Ref) (st : List (List Ref) × List Ref) : Prop where
  all : st.1.flatten ++ st.2 = rs
  each : ∀ g ∈ st.1, g ≠ [] ∧ (g.length : Int) ≤ most ∧ endsF g most = true
  now : (st.2.length : Int) < most
  on : endsF st.2 most = false
theorem Inv.step {most : Int} {rs : List Ref} {st : List (List Ref) × List Ref} (h : Inv most rs st) (r : Ref) (hm : 1 ≤ most) : Inv most (rs ++ [r]) (grpStep most st r) := by
  unfold grpStep
  have hn := h.now
  by_cases he : endsF (st.2 ++ [r]) most = true
  · rw [if_pos he]
    refine ⟨?_, fun g hg => ?_, ?_, rfl⟩
    · rw [← h.all]; simp
    · rcases List.mem_append.1 hg with hg | hg
      · exact h.each g hg
      · simp at hg
        subst hg
        exact ⟨by simp, by rw [List.length_append]; show ((st.2.length + 1 : Nat) : Int) ≤ most; omega, he⟩
    · show ((0 : Nat) : Int) < most; omega
  · rw [if_neg he]
    have hf : endsF (st.2 ++ [r]) most = false := by simpa using he
    refine ⟨?_, h.each, ?_, hf⟩
    · rw [← h.all]; simp
    · have hne : ((st.2 ++ [r]).length : Int) ≠ most := fun e => by
        apply he
        unfold endsF
        rw [decide_eq_true e]
        simp
      rw [List.length_append] at hne ⊢
      show ((st.2.length + 1 : Nat) : Int) < most
      change ((st.2.length + 1 : Nat) : Int) ≠ most at hne
      omega
theorem inv_is (most : Int) (hm : 1 ≤ most) : ∀ (n : Nat) (rs : List Ref), rs.length = n → Inv most rs (foldG most rs)
  | 0, rs, h => by
    obtain rfl := List.eq_nil_of_length_eq_zero h
    exact ⟨rfl, fun g hg => (by cases hg), (by show ((0 : Nat) : Int) < most; omega), rfl⟩
  | n + 1, rs, h => by
    have hne : rs ≠ [] := fun e => by rw [e] at h; cases h
    have h1 := inv_is most hm n rs.dropLast (by rw [List.length_dropLast]; omega)
    have e : rs.dropLast ++ [rs.getLast hne] = rs := List.dropLast_concat_getLast hne
    rw [← e, fold_snoc]
    exact h1.step _ hm
/-- Each group has a ref, and at most so many; one behind the other they are the refs. -/
theorem split_all (most : Int) (hm : 1 ≤ most) (rs : List Ref) : (splitF most rs).flatten = rs ∧ ∀ g ∈ splitF most rs, 1 ≤ g.length ∧ (g.length : Int) ≤ most := by
  have h := inv_is most hm _ rs rfl
  have hp : ∀ g : List Ref, g ≠ [] → 1 ≤ g.length := fun g hg => by
    rcases g with _ | ⟨a, l⟩
    · exact absurd rfl hg
    · simp
  unfold splitF
  split
  · rename_i he
    refine ⟨?_, fun g hg => ⟨hp g (h.each g hg).1, (h.each g hg).2.1⟩⟩
    have := h.all
    rw [he, List.append_nil] at this
    exact this
  · rename_i he
    refine ⟨by have := h.all; simpa using this, fun g hg => ?_⟩
    rcases List.mem_append.1 hg with hg | hg
    · exact ⟨hp g (h.each g hg).1, (h.each g hg).2.1⟩
    · simp at hg
      subst hg
      exact ⟨hp _ he, by have := h.now; omega⟩
theorem flat_len : ∀ (gs : List (List Ref)), (∀ g ∈ gs, 1 ≤ g.length) → gs.length ≤ gs.flatten.length
  | [], _ => Nat.le_refl _
  | g :: gs, h => by
    have h1 := h g (by simp)
    have h2 := flat_len gs (fun g hg => h g (by simp [hg]))
    simp only [List.length_cons, List.flatten_cons, List.length_append]
    omega
theorem split_len (most : Int) (hm : 1 ≤ most) (rs : List Ref) : (splitF most rs).length ≤ rs.length := by
  have h := split_all most hm rs
  have := flat_len _ (fun g hg => (h.2 g hg).1)
  rwa [h.1] at this
theorem fold_more (most : Int) (xs : List Ref) : ∀ (ys : List Ref) (st : List (List Ref) × List Ref), ∃ more, (ys.foldl (grpStep most) st).1 = st.1 ++ more
  | [], st => ⟨[], by simp⟩
  | y :: ys, st => by
    obtain ⟨more, h⟩ := fold_more most xs ys (grpStep most st y)
    rw [List.foldl_cons, h]
    unfold grpStep
    split
    · exact ⟨[st.2 ++ [y]] ++ more, by simp⟩
    · exact ⟨more, rfl⟩
/-- What stands behind plays no part: all groups but the last, and the last too if it ends. -/
theorem split_apart (most : Int) (hm : 1 ≤ most) (xs ys : List Ref) (i : Nat) (hi : i < (splitF most xs).length) (hl : i + 1 < (splitF most xs).length ∨ endsF ((splitF most xs).getD i []) most = true) : (splitF most (xs ++ ys))[i]? = (splitF most xs)[i]? := by
  have h := inv_is most hm _ xs rfl
  obtain ⟨more, h2⟩ := fold_more most xs ys (foldG most xs)
  have h3 : (foldG most (xs ++ ys)).1 = (foldG most xs).1 ++ more := by
    rw [← h2]
    unfold foldG
    rw [List.foldl_append]
  have hin : i < (foldG most xs).1.length := by
    unfold splitF at hi hl
    split at hi
    · exact hi
    · rename_i he
      rw [if_neg he] at hl
      rw [List.length_append, List.length_singleton] at hi hl
      rcases hl with hl | hl
      · omega
      · rcases Nat.lt_or_ge i (foldG most xs).1.length with h4 | h4
        · exact h4
        · have h5 : i = (foldG most xs).1.length := by omega
          rw [h5, List.getD_eq_getElem?_getD, List.getElem?_append_right (Nat.le_refl _), Nat.sub_self] at hl
          have h6 := h.on
          simp at hl
          rw [h6] at hl
          cases hl
  have e1 : (splitF most xs)[i]? = (foldG most xs).1[i]? := by
    unfold splitF
    split
    · rfl
    · rw [List.getElem?_append_left hin]
  have e2 : (splitF most (xs ++ ys))[i]? = ((foldG most xs).1 ++ more)[i]? := by
    unfold splitF
    split
    · rw [h3]
    · rw [h3, List.getElem?_append_left (by rw [List.length_append]; omega)]
  rw [e1, e2, List.getElem?_append_left hin]
/-- A row of groups: descriptors, each of a group. -/
structure Grp (w : World) (ds : List Ds) (gs : List (List Ref)) : Prop where
  len : ds.length = gs.length
  each : ∀ j, j < ds.length → dRef.C w (ds.getD j default).a (ds.getD j default).n (gs.getD j []) ∧ (ds.getD j default).n ≤ (ds.getD j default).c
theorem Grp.nil (w : World) : Grp w [] [] := ⟨rfl, fun j h => by cases h⟩
theorem Grp.below {w w1 : World} {ds : List Ds} {gs : List (List Ref)} (h : Grp w ds gs) (hb : Below w.heap.size w w1) : Grp w1 ds gs := ⟨h.len, fun j hj => ⟨Kd.C_below (h.each j hj).1 hb, (h.each j hj).2⟩⟩
theorem Grp.snoc {w : World} {ds : List Ds} {gs : List (List Ref)} (h : Grp w ds gs) {d : Ds} {g : List Ref} (hd : dRef.C w d.a d.n g) (hc : d.n ≤ d.c) : Grp w (ds ++ [d]) (gs ++ [g]) := by
  refine ⟨by rw [List.length_append, List.length_append, h.len]; rfl, fun j hj => ?_⟩
  rw [List.length_append] at hj
  change j < ds.length + 1 at hj
  by_cases e : j < ds.length
  · rw [List.getD_eq_getElem?_getD, List.getElem?_append_left e, List.getD_eq_getElem?_getD (l := gs ++ [g]), List.getElem?_append_left (by rw [← h.len]; exact e), ← List.getD_eq_getElem?_getD, ← List.getD_eq_getElem?_getD]
    exact h.each j e
  · have e2 : j = ds.length := by omega
    subst e2
    rw [List.getD_eq_getElem?_getD, List.getElem?_append_right (Nat.le_refl _), List.getD_eq_getElem?_getD (l := gs ++ [g]), List.getElem?_append_right (by rw [h.len]; exact Nat.le_refl _), h.len]
    simp
    exact ⟨hd, hc⟩
end Go.Proofs.Ytkobolgbmfhpgaa.SgQ
