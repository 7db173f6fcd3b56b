/- What a cache and the document's one do, as plain functions, and that they stay alike; no condition. -/
import Derived.Test.YtocmljijdecilaaCaPf
namespace Go.Proofs.Ytocmljijdecilaa.CaM
open Go Go.Proofs.Ytocmljijdecilaa.CaS Go.Proofs.Ytocmljijdecilaa.CaF Go.Proofs.Ytocmljijdecilaa.CaPf
set_option linter.unusedVariables false
set_option linter.unusedSimpArgs false
abbrev Bn := Int × List Sm
def rmX (xs : List Bn) (b : Int) : List Bn := xs.filter (fun p => decide (p.1 ≠ b))
def cutX (room : Nat) (l : List Bn) : List Bn := if room < l.length then l.drop 1 else l
def putX (room : Nat) (xs : List Bn) (b : Int) (ss : List Sm) : List Bn := cutX room (rmX xs b ++ [(b, ss)])
def moveX (xs : List Bn) (i : Nat) : List Bn := xs.take i ++ xs.drop (i + 1) ++ [xs.getD i default]
def fX (xs : List Bn) : Nat → List Sm := fun i => (xs.getD i default).2
def findX (xs : List Bn) (s : Sm) : Option (Nat × Nat) := findD (fX xs) s xs.length
def findY (ys : List Bn) (s : Sm) : Option (Nat × Nat) := findU (fX ys) s ys.length 0
def putY (room : Nat) (ys : List Bn) (b : Int) (ss : List Sm) : List Bn := ((b, ss) :: rmX ys b).take room
def moveY (ys : List Bn) (i : Nat) : List Bn := ys.getD i default :: rmX ys (ys.getD i default).1
structure Good (room : Nat) (xs : List Bn) : Prop where
  len : xs.length ≤ room
  nd : (xs.map (·.1)).Nodup
  few : ∀ p, p ∈ xs → p.2.length ≤ 64
theorem good_nil (room : Nat) : Good room [] := ⟨Nat.zero_le _, List.nodup_nil, fun _ h => by cases h⟩
theorem rm_rev (xs : List Bn) (b : Int) : rmX xs.reverse b = (rmX xs b).reverse := by unfold rmX; rw [List.filter_reverse]
theorem good_sub {room : Nat} {xs ys : List Bn} (h : Good room xs) (hs : ys.Sublist xs) : Good room ys :=
  ⟨Nat.le_trans hs.length_le h.len, (hs.map _).nodup h.nd, fun p hp => h.few p (hs.subset hp)⟩
theorem good_rm {room : Nat} {xs : List Bn} (h : Good room xs) (b : Int) : Good room (rmX xs b) := good_sub h List.filter_sublist
theorem rm_none (xs : List Bn) (b : Int) (h : ∀ p, p ∈ xs → p.1 ≠ b) : rmX xs b = xs := List.filter_eq_self.2 (fun p hp => by simpa using h p hp)
theorem mem_rm {xs : List Bn} {b : Int} {p : Bn} : p ∈ rmX xs b ↔ p ∈ xs ∧ p.1 ≠ b := by unfold rmX; simp
theorem cut_len (room : Nat) (l : List Bn) (h : l.length ≤ room + 1) : (cutX room l).length ≤ room := by
  unfold cutX
  split
  · rw [List.length_drop]; omega
  · omega
theorem cut_sub (room : Nat) (l : List Bn) : (cutX room l).Sublist l := by
  unfold cutX
  split
  · exact List.drop_sublist _ _
  · exact List.Sublist.refl _
theorem good_put {room : Nat} {xs : List Bn} (h : Good room xs) (b : Int) (ss : List Sm) (hs : ss.length ≤ 64) : Good room (putX room xs b ss) := by
  have h1 := good_rm h b
  unfold putX
  refine ⟨cut_len _ _ (by rw [List.length_append]; have := h1.len; simp; omega), ?_, fun p hp => ?_⟩
  · refine ((cut_sub room _).map _).nodup ?_
    rw [List.map_append, List.nodup_append]
    refine ⟨h1.nd, by simp, fun x hx y hy => ?_⟩
    obtain ⟨p, hp, rfl⟩ := List.mem_map.1 hx
    have hy2 : y = b := by simpa using hy
    subst hy2
    exact (mem_rm.1 hp).2
  · rcases List.mem_append.1 ((cut_sub room _).subset hp) with hp | hp
    · exact h1.few p hp
    · rw [List.mem_singleton.1 hp]; exact hs
theorem put_rev {room : Nat} (hr : 0 < room) {xs : List Bn} (h : Good room xs) (b : Int) (ss : List Sm) : putY room xs.reverse b ss = (putX room xs b ss).reverse := by
  have h1 := good_rm h b
  unfold putY putX cutX
  rw [rm_rev]
  generalize rmX xs b = l at *
  have hl := h1.len
  rw [List.length_append, List.length_singleton]
  by_cases e : room < l.length + 1
  · rw [if_pos e, List.drop_append_of_le_length (by omega), List.reverse_append]
    obtain ⟨r, rfl⟩ : ∃ r, room = r + 1 := ⟨room - 1, by omega⟩
    show (b, ss) :: List.take r l.reverse = (b, ss) :: (l.drop 1).reverse
    congr 1
    rw [List.reverse_drop]
    congr 1
    omega
  · rw [if_neg e, List.reverse_append]
    show List.take room ((b, ss) :: l.reverse) = (b, ss) :: l.reverse
    exact List.take_of_length_le (by simp; omega)
theorem getD_rev (xs : List Bn) (i : Nat) (h : i < xs.length) : xs.reverse.getD (xs.length - 1 - i) default = xs.getD i default := by
  have h2 : xs.length - 1 - i < xs.reverse.length := by simp; omega
  rw [List.getD_eq_getElem?_getD, List.getD_eq_getElem?_getD, List.getElem?_eq_getElem h2, List.getElem?_eq_getElem h, List.getElem_reverse]
  simp only [Option.getD_some]
  congr 1
  omega
theorem split_at (xs : List Bn) (i : Nat) (h : i < xs.length) : xs = xs.take i ++ xs.getD i default :: xs.drop (i + 1) := by
  conv => lhs; rw [← List.take_append_drop i xs, List.drop_eq_getElem_cons h]
  simp [h]
theorem rm_at {room : Nat} {xs : List Bn} (hg : Good room xs) (i : Nat) (h : i < xs.length) : rmX xs (xs.getD i default).1 = xs.take i ++ xs.drop (i + 1) := by
  have hs := split_at xs i h
  generalize xs.getD i default = p at *
  have hnd := hg.nd
  generalize hA : xs.take i = A at *
  generalize hB : xs.drop (i + 1) = B at *
  subst hs
  rw [List.map_append, List.map_cons, List.nodup_append, List.nodup_cons] at hnd
  unfold rmX
  rw [List.filter_append, List.filter_cons_of_neg (by simp)]
  congr 1
  · exact List.filter_eq_self.2 (fun q hq => by
      have := hnd.2.2 q.1 (List.mem_map_of_mem hq) p.1 (by simp)
      simpa using this)
  · exact List.filter_eq_self.2 (fun q hq => by
      have := hnd.2.1.1
      simp only [decide_eq_true_eq]
      intro e
      exact this (List.mem_map.2 ⟨q, hq, e⟩))
theorem move_rev {room : Nat} {xs : List Bn} (hg : Good room xs) (i : Nat) (h : i < xs.length) : moveY xs.reverse (xs.length - 1 - i) = (moveX xs i).reverse := by
  unfold moveY moveX
  rw [getD_rev xs i h, rm_rev, rm_at hg i h]
  simp [List.reverse_append]
theorem good_move {room : Nat} {xs : List Bn} (hg : Good room xs) (i : Nat) (h : i < xs.length) : Good room (moveX xs i) := by
  have hp : (moveX xs i).Perm xs := by
    conv => rhs; rw [split_at xs i h]
    unfold moveX
    rw [List.append_assoc]
    exact List.Perm.append_left _ List.perm_append_comm
  exact ⟨by rw [hp.length_eq]; exact hg.len, (hp.map _).nodup_iff.2 hg.nd, fun p hq => hg.few p (hp.subset hq)⟩
theorem find_lt (fs : Nat → List Sm) (s : Sm) : ∀ n i j, findD fs s n = some (i, j) → i < n ∧ firstAt (fs i) s 0 = some j ∧ ∀ k, i < k → k < n → firstAt (fs k) s 0 = none
  | 0, i, j, h => by cases h
  | n + 1, i, j, h => by
    unfold findD at h
    cases hf : firstAt (fs n) s 0 with
    | some q =>
      rw [hf] at h
      injection h with h
      injection h with h1 h2
      subst h1; subst h2
      exact ⟨by omega, hf, fun k h1 h2 => by omega⟩
    | none =>
      rw [hf] at h
      obtain ⟨h1, h2, h3⟩ := find_lt fs s n i j h
      refine ⟨by omega, h2, fun k h4 h5 => ?_⟩
      by_cases e : k = n
      · subst e; exact hf
      · exact h3 k h4 (by omega)
theorem find_no (fs : Nat → List Sm) (s : Sm) : ∀ n, findD fs s n = none → ∀ k, k < n → firstAt (fs k) s 0 = none
  | 0, _, k, h => by omega
  | n + 1, h, k, hk => by
    unfold findD at h
    cases hf : firstAt (fs n) s 0 with
    | some q => rw [hf] at h; cases h
    | none =>
      rw [hf] at h
      by_cases e : k = n
      · subst e; exact hf
      · exact find_no fs s n h k (by omega)
theorem find_rev (xs : List Bn) (s : Sm) : findY xs.reverse s = (findX xs s).map (fun p => (xs.length - 1 - p.1, p.2)) := by
  unfold findX findY
  rw [List.length_reverse]
  have hfx : ∀ k, k < xs.length → fX xs.reverse (xs.length - 1 - k) = fX xs k := fun k hk => by unfold fX; rw [getD_rev xs k hk]
  cases hf : findD (fX xs) s xs.length with
  | none =>
    refine findU_no _ _ _ _ (fun q _ hq => ?_)
    have := find_no _ _ _ hf (xs.length - 1 - q) (by omega)
    rw [← hfx _ (by omega)] at this
    rwa [show xs.length - 1 - (xs.length - 1 - q) = q by omega] at this
  | some p =>
    obtain ⟨i, j⟩ := p
    obtain ⟨h1, h2, h3⟩ := find_lt _ _ _ _ _ hf
    refine findU_at _ _ j _ _ _ (Nat.zero_le _) (by omega) (fun q _ hq => ?_) (by rw [hfx i h1]; exact h2)
    have := h3 (xs.length - 1 - q) (by omega) (by omega)
    rw [← hfx _ (by omega)] at this
    rwa [show xs.length - 1 - (xs.length - 1 - q) = q by omega] at this
theorem find_in_lt {xs : List Bn} {s : Sm} {i j : Nat} (h : findX xs s = some (i, j)) : i < xs.length := (find_lt _ _ _ _ _ h).1
/-- What two lists tell of each other, place by place. -/
inductive All2 {α β : Type} (R : α → β → Prop) : List α → List β → Prop
  | nil : All2 R [] []
  | cons {a b l m} : R a b → All2 R l m → All2 R (a :: l) (b :: m)
section
variable {α β : Type} {R : α → β → Prop}
theorem All2.len {l : List α} {m : List β} (h : All2 R l m) : l.length = m.length := by
  induction h with
  | nil => rfl
  | cons _ _ ih => simp [ih]
theorem All2.mono {Q : α → β → Prop} {l : List α} {m : List β} (h : All2 R l m) (hq : ∀ a b, R a b → Q a b) : All2 Q l m := by
  induction h with
  | nil => exact .nil
  | cons h1 _ ih => exact .cons (hq _ _ h1) ih
theorem All2.append {l l' : List α} {m m' : List β} (h : All2 R l m) (h' : All2 R l' m') : All2 R (l ++ l') (m ++ m') := by
  induction h with
  | nil => exact h'
  | cons h1 _ ih => exact .cons h1 ih
theorem All2.take {l : List α} {m : List β} (h : All2 R l m) : ∀ n, All2 R (l.take n) (m.take n) := by
  induction h with
  | nil => intro n; simp; exact .nil
  | cons h1 _ ih =>
    intro n
    cases n with
    | zero => exact .nil
    | succ n => exact .cons h1 (ih n)
theorem All2.drop {l : List α} {m : List β} (h : All2 R l m) : ∀ n, All2 R (l.drop n) (m.drop n) := by
  induction h with
  | nil => intro n; simp; exact .nil
  | cons h1 h2 ih =>
    intro n
    cases n with
    | zero => exact .cons h1 h2
    | succ n => exact ih n
theorem All2.get [Inhabited α] [Inhabited β] {l : List α} {m : List β} (h : All2 R l m) : ∀ i, i < l.length → R (l.getD i default) (m.getD i default) := by
  induction h with
  | nil => intro i hi; simp at hi
  | cons h1 _ ih =>
    intro i hi
    cases i with
    | zero => exact h1
    | succ i => simpa using ih i (by simpa using hi)
theorem All2.filter {l : List α} {m : List β} (h : All2 R l m) (p : α → Bool) (q : β → Bool) (hpq : ∀ a b, R a b → p a = q b) : All2 R (l.filter p) (m.filter q) := by
  induction h with
  | nil => exact .nil
  | cons h1 _ ih =>
    rw [List.filter_cons, List.filter_cons, hpq _ _ h1]
    split
    · exact .cons h1 ih
    · exact ih
end
end Go.Proofs.Ytocmljijdecilaa.CaM
