/- Numbers and texts behind one another are taken as they were written: plain laws on lists; condition: the numbers are in range. -/
import Derived.Test.YtlmcompoalhpnaaOctS
import Derived.Laws.BytesArg
import Derived.Sort.Walk0
namespace Go.Proofs.Ytlmcompoalhpnaa.OctP
open Go Go.Proofs.Ytlmcompoalhpnaa.OctS
set_option linter.unusedVariables false
theorem tk_numB (pl : Int) (r : List Int) : ∀ (n i acc : Nat), i ≤ 7 → n * 128 ^ i ≤ 9007199254740991 → (0 < i → 0 < n) → tk pl i acc (numB n ++ r) = (((acc + n * 128 ^ i : Nat) : Int), pl + i + (numB n).length, 0) := by
  intro n
  induction n using Nat.strongRecOn with
  | _ n ih =>
    intro i acc hi hn h0
    by_cases h : n < 128
    · rw [numB_lt n h, List.cons_append, List.nil_append, tk_last _ _ _ _ _ ?_ (by omega) ?_]
      · simp only [Int.toNat_natCast, List.length_singleton]
        rfl
      · rintro ⟨rfl, h2⟩
        omega
      · rintro ⟨h2, h3⟩
        have := h0 h3
        omega
    · have h6 : i ≤ 6 := by
        rcases Nat.lt_or_ge i 7 with h7 | h7
        · omega
        · obtain rfl : i = 7 := by omega
          omega
      have e : n * 128 ^ i = n % 128 * 128 ^ i + n / 128 * 128 ^ (i + 1) := by
        rw [Nat.pow_succ, Nat.mul_comm (128 ^ i) 128, ← Nat.mul_assoc, ← Nat.add_mul]
        congr 1
        omega
      rw [numB_ge n (by omega), List.cons_append, tk_more _ _ _ _ _ (by omega) (by omega), ih (n / 128) (by omega) (i + 1) _ (by omega) (by omega) (by omega)]
      have e2 : (((n : Int) % 128 + 128) % 128).toNat = n % 128 := by omega
      rw [e2, List.length_cons, Prod.mk.injEq, Prod.mk.injEq]
      refine ⟨?_, by omega, rfl⟩
      omega
theorem takeNum_numB (u r : List Int) (n : Nat) (h : n ≤ 9007199254740991) : takeNum (u ++ (numB n ++ r)) (u.length : Int) = ((n : Int), (u.length : Int) + (numB n).length, 0) := by
  unfold takeNum
  rw [if_neg (by simp only [List.length_append]; omega), Int.toNat_natCast, List.drop_left, tk_numB _ _ _ _ _ (by omega) (by omega) (by omega)]
  simp
theorem tk_err (pl : Int) : ∀ (r : List Int) (i acc : Nat), (tk pl i acc r).2.2 = 0 ∨ (tk pl i acc r).2.2 = 2 ∨ (tk pl i acc r).2.2 = 3 ∨ (tk pl i acc r).2.2 = 4 ∨ (tk pl i acc r).2.2 = 6
  | [], i, acc => by simp [tk_nil]
  | c :: r, i, acc => by
    by_cases h1 : i = 7 ∧ 15 < c
    · rw [tk_big _ _ _ _ _ h1.1 h1.2]; simp
    · by_cases h2 : 128 ≤ c
      · rw [tk_more _ _ _ _ _ h1 h2]; exact tk_err pl r _ _
      · by_cases h3 : c = 0 ∧ 0 < i
        · rw [tk_form _ _ _ _ _ h3.1 h3.2]; simp
        · rw [tk_last _ _ _ _ _ h1 (by omega) h3]; simp
theorem takeNum_err (l : List Int) (pl : Int) : (takeNum l pl).2.2 = 0 ∨ (takeNum l pl).2.2 = 2 ∨ (takeNum l pl).2.2 = 3 ∨ (takeNum l pl).2.2 = 4 ∨ (takeNum l pl).2.2 = 6 := by
  unfold takeNum
  split
  · simp
  · exact tk_err _ _ _ _
theorem numB_bytes (n : Nat) : Bytes (numB n) := by
  induction n using Nat.strongRecOn with
  | _ n ih =>
    by_cases h : n < 128
    · rw [numB_lt n h]
      intro x hx
      simp at hx
      omega
    · rw [numB_ge n (by omega)]
      intro x hx
      rcases List.mem_cons.1 hx with rfl | hx
      · omega
      · exact ih (n / 128) (by omega) x hx
theorem bytes_app {x y : List Int} (hx : Bytes x) (hy : Bytes y) : Bytes (x ++ y) := fun c hc => (List.mem_append.1 hc).elim (hx c) (hy c)
theorem be_bytes : ∀ (w n : Nat), Bytes (be w n)
  | 0, n => fun x hx => by cases hx
  | w + 1, n => by
    rw [be]
    refine bytes_app (be_bytes w _) (fun x hx => ?_)
    simp at hx
    omega
theorem tk_back (pl : Int) : ∀ (l : List Int) (i acc : Nat), Bytes l → i ≤ 7 → (tk pl i acc l).2.2 = 0 →
    ∃ m r, (tk pl i acc l).1 = ((acc + m * 128 ^ i : Nat) : Int) ∧ l = numB m ++ r ∧ (tk pl i acc l).2.1 = pl + i + (numB m).length ∧ (0 < i → 0 < m)
  | [], i, acc, _, _, h => by simp [tk_nil] at h
  | c :: r, i, acc, hb, hi, h => by
    have hc := hb c List.mem_cons_self
    by_cases h1 : i = 7 ∧ 15 < c
    · rw [tk_big _ _ _ _ _ h1.1 h1.2] at h; simp at h
    · by_cases h2 : 128 ≤ c
      · rw [tk_more _ _ _ _ _ h1 h2] at h ⊢
        obtain ⟨m, r', e1, e2, e3, e4⟩ := tk_back pl r (i + 1) (acc + (c % 128).toNat * 128 ^ i) (fun x hx => hb x (List.mem_cons_of_mem _ hx)) (by omega) h
        have hm := e4 (by omega)
        refine ⟨(c % 128).toNat + 128 * m, r', ?_, ?_, ?_, ?_⟩
        · rw [e1, Nat.add_mul, Nat.pow_succ, Nat.mul_comm (128 ^ i) 128, ← Nat.mul_assoc, Nat.mul_comm m 128, Nat.add_assoc]
        · rw [numB_ge _ (by omega), show ((c % 128).toNat + 128 * m) / 128 = m from by omega, List.cons_append, ← e2]
          congr 1
          omega
        · rw [e3, numB_ge ((c % 128).toNat + 128 * m) (by omega), show ((c % 128).toNat + 128 * m) / 128 = m from by omega, List.length_cons]
          omega
        · omega
      · by_cases h3 : c = 0 ∧ 0 < i
        · rw [tk_form _ _ _ _ _ h3.1 h3.2] at h; simp at h
        · rw [tk_last _ _ _ _ _ h1 (by omega) h3]
          refine ⟨c.toNat, r, rfl, ?_, ?_, by omega⟩
          · rw [numB_lt _ (by omega), List.cons_append, List.nil_append]
            congr 1
            omega
          · rw [numB_lt _ (by omega)]
            rfl
theorem takeNum_back (l : List Int) (hb : Bytes l) (h : (takeNum l 0).2.2 = 0) :
    ∃ (m : Nat) (r : List Int), m ≤ 9007199254740991 ∧ (takeNum l 0).1 = (m : Int) ∧ (takeNum l 0).2.1 = ((numB m).length : Int) ∧ l = numB m ++ r := by
  have hok := takeNum_ok l 0 hb h
  have e : takeNum l 0 = tk 0 0 0 l := by
    unfold takeNum
    rw [if_neg (by omega)]
    rfl
  rw [e] at h hok ⊢
  obtain ⟨m, r, e1, e2, e3, _⟩ := tk_back 0 l 0 0 hb (by omega) h
  refine ⟨m, r, by omega, by rw [e1]; simp, by rw [e3]; simp, e2⟩
theorem takeText_textL (p r : List Int) (most : Int) (h : (p.length : Int) ≤ most) (h2 : p.length ≤ 9007199254740991) : takeText (numB p.length ++ p ++ r) 0 most = (p, ((numB p.length).length : Int) + p.length, 0) := by
  have e := takeNum_numB [] (p ++ r) p.length h2
  simp only [List.nil_append, List.length_nil, Int.zero_add, Int.natCast_zero] at e
  rw [← List.append_assoc] at e
  have e' : takeNum (numB p.length ++ p ++ r) 0 = (↑p.length, ↑(numB p.length).length, 0) := e
  rw [takeText_o _ _ _ (by rw [e']) (by rw [e']; omega) (by rw [e']; simp only [List.length_append]; omega), e']
  refine Prod.ext ?_ rfl
  show List.drop _ (List.take _ _) = p
  rw [show (((numB p.length).length : Int) + (p.length : Int)).toNat = (numB p.length ++ p).length from by rw [List.length_append]; omega, List.take_left, Int.toNat_natCast, List.drop_left]
theorem val_app (c : Int) : ∀ (x : List Int) (a : Nat), val a (x ++ [c]) = val a x * 256 + c.toNat
  | [], a => rfl
  | y :: x, a => by rw [List.cons_append, val, val, val_app c x]
theorem val_be (a : Nat) : ∀ (w n : Nat), n < 256 ^ w → val a (be w n) = a * 256 ^ w + n
  | 0, n, h => by simp [be, val]; simpa using h
  | w + 1, n, h => by
    rw [be, val_app, val_be a w (n / 256) (by rw [Nat.pow_succ] at h; omega), Int.toNat_natCast, Nat.pow_succ, Nat.add_mul, Nat.mul_assoc]
    omega
theorem takeFixed_be (u r : List Int) (w n : Nat) (h0 : 1 ≤ w) (h8 : w ≤ 8) (hn : n < 256 ^ w) (h : n ≤ 9007199254740991) : takeFixed (u ++ (be w n ++ r)) (u.length : Int) (w : Int) = ((n : Int), (u.length : Int) + w, 0) := by
  have e : val 0 (((u ++ (be w n ++ r)).drop (u.length : Int).toNat).take (w : Int).toNat) = n := by
    rw [show ((w : Int)).toNat = w from Int.toNat_natCast w, show ((u.length : Int)).toNat = u.length from Int.toNat_natCast _, List.drop_left]
    have : ((be w n) ++ r).take w = be w n := by
      have h1 := List.take_left (l₁ := be w n) (l₂ := r)
      rwa [be_len] at h1
    rw [this, val_be 0 w n hn]
    omega
  rw [takeFixed_ok _ _ _ (by simp only [List.length_append]; omega) (by simp only [List.length_append, be_len]; omega) (by rw [e]; omega), e]
theorem u8_lt (a b : Nat) (ha : a < 256) (hb : b < 256) : (UInt8.ofNat a < UInt8.ofNat b) ↔ a < b := by
  rw [UInt8.lt_iff_toNat_lt, UInt8.toNat_ofNat', UInt8.toNat_ofNat', Nat.mod_eq_of_lt ha, Nat.mod_eq_of_lt hb]
theorem u8_eq (a b : Nat) (ha : a < 256) (hb : b < 256) : (UInt8.ofNat a = UInt8.ofNat b) ↔ a = b := by
  rw [← UInt8.toNat_inj, UInt8.toNat_ofNat', UInt8.toNat_ofNat', Nat.mod_eq_of_lt ha, Nat.mod_eq_of_lt hb]
theorem be_less (m n : Nat) : ∀ w : Nat, Op.bytesLess ((be w m).map fun n => UInt8.ofNat n.toNat) ((be w n).map fun n => UInt8.ofNat n.toNat) = decide (m % 256 ^ w < n % 256 ^ w)
  | 0 => by simp [be, Op.bytesLess, Nat.mod_one]
  | w + 1 => by
    rw [be_cons, be_cons, List.map_cons, List.map_cons, Op.bytesLess, be_less m n w, Int.toNat_natCast, Int.toNat_natCast]
    have e : ∀ a : Nat, a % 256 ^ (w + 1) = a / 256 ^ w % 256 * 256 ^ w + a % 256 ^ w := fun a => by
      rw [Nat.pow_succ, Nat.mod_mul, Nat.mul_comm (256 ^ w)]
      omega
    rw [e m, e n]
    have hp : 0 < 256 ^ w := Nat.pow_pos (by decide)
    have hm := Nat.mod_lt m hp
    have hn := Nat.mod_lt n hp
    have ha : m / 256 ^ w % 256 < 256 := by omega
    have hb : n / 256 ^ w % 256 < 256 := by omega
    generalize m / 256 ^ w % 256 = a at *
    generalize n / 256 ^ w % 256 = b at *
    generalize 256 ^ w = q at *
    generalize m % q = x at *
    generalize n % q = y at *
    rw [Bool.eq_iff_iff, Bool.or_eq_true, Bool.and_eq_true, decide_eq_true_eq, decide_eq_true_eq, beq_iff_eq, decide_eq_true_eq, u8_lt a b ha hb, u8_eq a b ha hb]
    constructor
    · rintro (h | ⟨rfl, h⟩)
      · have := Nat.mul_le_mul_right q (show a + 1 ≤ b from h)
        rw [Nat.add_mul] at this
        omega
      · omega
    · intro h
      rcases Nat.lt_trichotomy a b with h1 | h1 | h1
      · exact .inl h1
      · subst h1
        exact .inr ⟨rfl, by omega⟩
      · have := Nat.mul_le_mul_right q (show b + 1 ≤ a from h1)
        rw [Nat.add_mul] at this
        omega
theorem str_less (m n w : Nat) (hm : m < 256 ^ w) (hn : n < 256 ^ w) : Op.bytesLess (strOfNums (be w m)).toList (strOfNums (be w n)).toList = decide (m < n) := by
  rw [Lib.toList_data, Lib.toList_data]
  have := be_less m n w
  rw [Nat.mod_eq_of_lt hm, Nat.mod_eq_of_lt hn] at this
  simpa [strOfNums] using this
end Go.Proofs.Ytlmcompoalhpnaa.OctP
