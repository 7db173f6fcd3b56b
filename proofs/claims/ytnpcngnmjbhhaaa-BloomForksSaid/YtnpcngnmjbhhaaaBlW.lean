/- The words of a summary as plain functions of the places that are on: adding, asking, merging, counting. -/
import Derived.Test.YtnpcngnmjbhhaaaOctS
import Derived.Laws.Bits64b
namespace Go.Proofs.Ytnpcngnmjbhhaaa.BlW
open Go
/-- The first n bits of a word. -/
def wd (on : List Int) (i : Nat) : Nat → Nat
  | 0 => 0
  | n + 1 => wd on i n ||| (if on.contains ((64 * i + n : Nat) : Int) then 2 ^ n else 0)
def wordOf (on : List Int) (i : Nat) : Nat := wd on i 64
def wordsOf (on : List Int) (m : Nat) : List Int := (List.range m).map (fun i => ((wordOf on i : Nat) : Int))
theorem wd_lt (on : List Int) (i : Nat) : ∀ n, wd on i n < 2 ^ n
  | 0 => by simp [wd]
  | n + 1 => by
    have h := wd_lt on i n
    have h2 : (2 : Nat) ^ n < 2 ^ (n + 1) := Nat.pow_lt_pow_right (by decide) (Nat.lt_succ_self n)
    unfold wd
    refine Nat.or_lt_two_pow (by omega) ?_
    split
    · exact h2
    · exact Nat.two_pow_pos _
theorem wordOf_lt (on : List Int) (i : Nat) : wordOf on i < 18446744073709551616 := wd_lt on i 64
theorem wd_bit (on : List Int) (i b : Nat) : ∀ n, (wd on i n).testBit b = (decide (b < n) && on.contains ((64 * i + b : Nat) : Int))
  | 0 => by simp [wd]
  | n + 1 => by
    unfold wd
    rw [Nat.testBit_or, wd_bit on i b n]
    by_cases h : b = n
    · subst h
      by_cases hc : on.contains ((64 * i + b : Nat) : Int) = true
      · rw [if_pos hc, hc, Nat.testBit_two_pow]; simp
      · rw [if_neg hc, Bool.eq_false_iff.2 hc]; simp
    · have e1 : decide (b < n + 1) = decide (b < n) := by simp; omega
      have e2 : (if on.contains ((64 * i + n : Nat) : Int) then 2 ^ n else 0).testBit b = false := by
        split
        · rw [Nat.testBit_two_pow]; simp; omega
        · simp
      rw [e1, e2, Bool.or_false]
theorem wordOf_bit (on : List Int) (i b : Nat) : (wordOf on i).testBit b = (decide (b < 64) && on.contains ((64 * i + b : Nat) : Int)) := wd_bit on i b 64
theorem wordOf_congr (on on' : List Int) (i : Nat) (h : ∀ b, b < 64 → on.contains ((64 * i + b : Nat) : Int) = on'.contains ((64 * i + b : Nat) : Int)) : wordOf on i = wordOf on' i :=
  Nat.eq_of_testBit_eq fun b => by
    rw [wordOf_bit, wordOf_bit]
    by_cases hb : b < 64
    · rw [h b hb]
    · simp [hb]
theorem contains_snoc (on : List Int) (p x : Int) : (on ++ [p]).contains x = (on.contains x || decide (x = p)) := by
  simp [List.contains_eq_mem, List.mem_append]
/-- One more place. -/
theorem wordOf_snoc (on : List Int) (p : Nat) : wordOf (on ++ [(p : Int)]) (p / 64) = wordOf on (p / 64) ||| 2 ^ (p % 64) :=
  Nat.eq_of_testBit_eq fun b => by
    rw [wordOf_bit, Nat.testBit_or, wordOf_bit, Nat.testBit_two_pow, contains_snoc]
    by_cases hb : b < 64
    · have e : decide (((64 * (p / 64) + b : Nat) : Int) = (p : Int)) = decide (p % 64 = b) := by
        rw [Bool.eq_iff_iff, decide_eq_true_iff, decide_eq_true_iff]; omega
      rw [e]; simp [hb]
    · have e : decide (p % 64 = b) = false := by simp; omega
      rw [e]; simp [hb]
theorem wordOf_snoc_ne (on : List Int) (p i : Nat) (h : i ≠ p / 64) : wordOf (on ++ [(p : Int)]) i = wordOf on i :=
  wordOf_congr _ _ _ fun b hb => by
    rw [contains_snoc]
    have e : decide (((64 * i + b : Nat) : Int) = (p : Int)) = false := by simp; omega
    rw [e, Bool.or_false]
theorem wordOf_same (on : List Int) (p : Nat) (h : on.contains (p : Int) = true) : wordOf on (p / 64) ||| 2 ^ (p % 64) = wordOf on (p / 64) := by
  rw [← wordOf_snoc]
  refine wordOf_congr _ _ _ fun b hb => ?_
  rw [contains_snoc]
  by_cases e : ((64 * (p / 64) + b : Nat) : Int) = (p : Int)
  · rw [e, h]; rfl
  · rw [decide_eq_false e, Bool.or_false]
def put1 (on : List Int) (p : Int) : List Int := if on.contains p then on else on ++ [p]
theorem word_put (on : List Int) (p : Nat) : wordOf (put1 on p) (p / 64) = wordOf on (p / 64) ||| 2 ^ (p % 64) := by
  unfold put1
  by_cases h : on.contains (p : Int) = true
  · rw [if_pos h, wordOf_same on p h]
  · rw [if_neg h, wordOf_snoc]
theorem word_put_ne (on : List Int) (p i : Nat) (h : i ≠ p / 64) : wordOf (put1 on p) i = wordOf on i := by
  unfold put1
  split
  · rfl
  · exact wordOf_snoc_ne on p i h
theorem wordsOf_len (on : List Int) (m : Nat) : (wordsOf on m).length = m := by simp [wordsOf]
theorem wordsOf_get (on : List Int) (m i : Nat) (h : i < m) : (wordsOf on m).getD i 0 = ((wordOf on i : Nat) : Int) := by
  simp [wordsOf, h]
theorem words_put (on : List Int) (p m : Nat) : (wordsOf on m).set (p / 64) ((wordOf on (p / 64) ||| 2 ^ (p % 64) : Nat) : Int) = wordsOf (put1 on p) m := by
  refine List.ext_getElem (by simp [wordsOf]) fun i h1 h2 => ?_
  rw [List.getElem_set]
  simp only [wordsOf, List.getElem_map, List.getElem_range]
  split
  · rename_i e; subst e; rw [word_put]
  · rename_i e; rw [word_put_ne on p i (fun h => e h.symm)]
/-- Is a place on? -/
theorem word_ask (on : List Int) (p : Nat) : (wordOf on (p / 64) / 2 ^ (p % 64)) &&& 1 = if on.contains (p : Int) then 1 else 0 := by
  have h := wordOf_bit on (p / 64) (p % 64)
  rw [show 64 * (p / 64) + p % 64 = p from by omega, show decide (p % 64 < 64) = true from by simp; omega, Bool.true_and] at h
  rw [Nat.and_one_is_mod, ← h, Nat.testBit_eq_decide_div_mod_eq]
  by_cases e : wordOf on (p / 64) / 2 ^ (p % 64) % 2 = 1
  · simp [e]
  · have : wordOf on (p / 64) / 2 ^ (p % 64) % 2 = 0 := by omega
    simp [this]
theorem wordsOf_nil (m : Nat) : wordsOf [] m = List.replicate m 0 := by
  have h : ∀ i, wordOf [] i = 0 := fun i => Nat.eq_of_testBit_eq fun b => by rw [wordOf_bit]; simp
  simp [wordsOf, h, List.map_const']
theorem put_contains (on : List Int) (p x : Int) : (put1 on p).contains x = (on.contains x || decide (x = p)) := by
  unfold put1
  split
  · rename_i h
    by_cases e : x = p
    · subst e; simp only [h, decide_true, Bool.or_true]
    · simp [e]
  · exact contains_snoc on p x
def lay (on l : List Int) : List Int := l.foldl put1 on
theorem lay_contains (l : List Int) : ∀ (on : List Int) (x : Int), (lay on l).contains x = (on.contains x || l.contains x) := by
  induction l with
  | nil => intro on x; simp [lay]
  | cons p l ih =>
    intro on x
    have e : lay on (p :: l) = lay (put1 on p) l := rfl
    rw [e, ih, put_contains, Bool.or_assoc, List.contains_cons]
    by_cases h : x = p
    · subst h; simp
    · rw [decide_eq_false h, beq_eq_false_iff_ne.2 h]
theorem word_merge (on l : List Int) (i : Nat) : wordOf (lay on l) i = wordOf on i ||| wordOf l i :=
  Nat.eq_of_testBit_eq fun b => by
    rw [Nat.testBit_or, wordOf_bit, wordOf_bit, wordOf_bit, lay_contains]
    cases decide (b < 64) <;> rfl
/-- What is on lies below the size, each once. -/
structure Good (on : List Int) (size : Nat) : Prop where
  nd : on.Nodup
  lt : ∀ p, p ∈ on → 0 ≤ p ∧ p < size
theorem good_nil (size : Nat) : Good [] size := ⟨List.nodup_nil, fun _ h => by cases h⟩
theorem good_put {on : List Int} {size : Nat} (h : Good on size) (p : Int) (h0 : 0 ≤ p) (h1 : p < size) : Good (put1 on p) size := by
  unfold put1
  split
  · exact h
  · rename_i hc
    refine ⟨?_, fun q hq => ?_⟩
    · rw [List.nodup_append]
      refine ⟨h.nd, by simp, fun a ha b hb e => ?_⟩
      simp at hb
      subst hb; subst e
      exact hc (by simpa using ha)
    · rcases List.mem_append.1 hq with hq | hq
      · exact h.lt q hq
      · simp at hq; subst hq; exact ⟨h0, h1⟩
theorem good_lay {size : Nat} (l : List Int) : ∀ {on : List Int}, Good on size → (∀ p, p ∈ l → 0 ≤ p ∧ p < size) → Good (lay on l) size := by
  induction l with
  | nil => intro on h _; exact h
  | cons p l ih =>
    intro on h hl
    exact ih (good_put h p (hl p (by simp)).1 (hl p (by simp)).2) (fun q hq => hl q (by simp [hq]))
/-- How many of the places from a on, n of them, are on. -/
def seg (on : List Int) (a : Nat) : Nat → Nat
  | 0 => 0
  | n + 1 => seg on a n + (if on.contains ((a + n : Nat) : Int) then 1 else 0)
theorem seg_add (on : List Int) (a n : Nat) : ∀ k, seg on a (n + k) = seg on a n + seg on (a + n) k
  | 0 => rfl
  | k + 1 => by
    show seg on a (n + k) + _ = seg on a n + (seg on (a + n) k + _)
    rw [seg_add on a n k, Nat.add_assoc, Nat.add_assoc a n k]; rfl
theorem seg_cons (p : Int) (l : List Int) (hp : p ∉ l) (h0 : 0 ≤ p) : ∀ n : Nat, seg (p :: l) 0 n = seg l 0 n + (if p < n then 1 else 0)
  | 0 => by simp [seg]; omega
  | n + 1 => by
    show seg (p :: l) 0 n + _ = seg l 0 n + _ + _
    rw [seg_cons p l hp h0 n, List.contains_cons, Nat.zero_add]
    by_cases e : (n : Int) = p
    · subst e
      have h1 : l.contains ((n : Nat) : Int) = false := by simpa using hp
      rw [h1]
      simp; omega
    · rw [beq_eq_false_iff_ne.2 e, Bool.false_or]
      by_cases h : p < (n : Int)
      · have h2 : p < ((n + 1 : Nat) : Int) := by omega
        rw [if_pos h, if_pos h2]; omega
      · have h2 : ¬ p < ((n + 1 : Nat) : Int) := by omega
        rw [if_neg h, if_neg h2]; omega
theorem seg_all (l : List Int) (N : Nat) : (hn : l.Nodup) → (∀ p, p ∈ l → 0 ≤ p ∧ p < N) → seg l 0 N = l.length := by
  induction l with
  | nil =>
    intro _ _
    have h : ∀ n, seg [] 0 n = 0 := fun n => by
      induction n with
      | zero => rfl
      | succ n ih => show seg [] 0 n + _ = 0; rw [ih]; simp
    rw [h]; rfl
  | cons p l ih =>
    intro hn hl
    have h1 := hl p (by simp)
    rw [List.nodup_cons] at hn
    rw [seg_cons p l hn.1 h1.1, ih hn.2 (fun q hq => hl q (by simp [hq])), if_pos h1.2]
    rfl
/-- A word's ones. -/
def bc (x : Nat) : Nat → Nat
  | 0 => 0
  | n + 1 => bc x n + (if x.testBit n then 1 else 0)
theorem bc_word (on : List Int) (i : Nat) : ∀ n, n ≤ 64 → bc (wordOf on i) n = seg on (64 * i) n
  | 0, _ => rfl
  | n + 1, h => by
    show bc (wordOf on i) n + _ = seg on (64 * i) n + _
    rw [bc_word on i n (by omega), wordOf_bit, show decide (n < 64) = true from by simp; omega, Bool.true_and]
theorem ones_all (on : List Int) (size m : Nat) (h : Good on size) (hm : size ≤ 64 * m) : ((List.range m).map (fun i => bc (wordOf on i) 64)).sum = on.length := by
  have h1 : ∀ k, ((List.range k).map (fun i => bc (wordOf on i) 64)).sum = seg on 0 (64 * k) := fun k => by
    induction k with
    | zero => rfl
    | succ k ih =>
      rw [List.range_succ, List.map_append, List.sum_append, ih, show 64 * (k + 1) = 64 * k + 64 from by omega, seg_add, Nat.zero_add, ← bc_word _ _ _ (Nat.le_refl _)]
      simp
  rw [h1, seg_all on _ h.nd (fun p hp => by have := h.lt p hp; omega)]
theorem good_len {on : List Int} {size : Nat} (h : Good on size) : on.length ≤ size := by
  rw [← seg_all on size h.nd h.lt]
  have h2 : ∀ n, seg on 0 n ≤ n := fun n => by
    induction n with
    | zero => exact Nat.le_refl _
    | succ n ih => show seg on 0 n + _ ≤ n + 1; split <;> omega
  exact h2 size
theorem bc_congr (x y : Nat) : ∀ n, (∀ b, b < n → x.testBit b = y.testBit b) → bc x n = bc y n
  | 0, _ => rfl
  | n + 1, h => by
    show bc x n + _ = bc y n + _
    rw [bc_congr x y n (fun b hb => h b (by omega)), h n (by omega)]
theorem bc_add (x n : Nat) : ∀ k, bc x (n + k) = bc x n + bc (x / 2 ^ n) k
  | 0 => rfl
  | k + 1 => by
    show bc x (n + k) + _ = bc x n + (bc (x / 2 ^ n) k + _)
    rw [bc_add x n k, ← Nat.shiftRight_eq_div_pow, Nat.testBit_shiftRight, Nat.add_assoc]; rfl
theorem bc_le (x : Nat) : ∀ n, bc x n ≤ n
  | 0 => Nat.le_refl _
  | n + 1 => by
    have := bc_le x n
    show bc x n + _ ≤ n + 1
    split <;> omega
end Go.Proofs.Ytnpcngnmjbhhaaa.BlW
