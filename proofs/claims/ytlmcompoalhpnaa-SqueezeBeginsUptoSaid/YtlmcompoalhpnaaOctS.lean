/- Numbers and texts in bytes: what the program's functions and the reference's compute, as plain functions on lists. -/
namespace Go.Proofs.Ytlmcompoalhpnaa.OctS

def maxNum : Int := 9007199254740991

/-- A number's bytes. -/
def numB (n : Nat) : List Int := if n < 128 then [(n : Int)] else ((n : Int) % 128 + 128) :: numB (n / 128)
termination_by n
decreasing_by omega

theorem numB_lt (n : Nat) (h : n < 128) : numB n = [(n : Int)] := by rw [numB, if_pos h]
theorem numB_ge (n : Nat) (h : 128 ≤ n) : numB n = ((n : Int) % 128 + 128) :: numB (n / 128) := by rw [numB, if_neg (by omega)]
theorem numB_len : ∀ (m n : Nat), n < 128 ^ (m + 1) → (numB n).length ≤ m + 1
  | 0, n, h => by rw [numB_lt n (by simpa using h)]; simp
  | m + 1, n, h => by
    by_cases h1 : n < 128
    · rw [numB_lt n h1]; simp
    · rw [numB_ge n (by omega)]
      have := numB_len m (n / 128) (by rw [Nat.pow_succ] at h; omega)
      simp only [List.length_cons]; omega
theorem numB_pos (n : Nat) : 1 ≤ (numB n).length := by
  by_cases h : n < 128
  · rw [numB_lt n h]; simp
  · rw [numB_ge n (by omega)]; simp
theorem numB_len8 (n : Nat) (h : n ≤ 9007199254740991) : (numB n).length ≤ 8 := numB_len 7 n (by omega)

def okNum (a : Int) : Prop := 0 ≤ a ∧ a ≤ 9007199254740991
instance (a : Int) : Decidable (okNum a) := by unfold okNum; infer_instance
/-- Num: the bytes, the error. -/
def numL (a : Int) : List Int := if okNum a then numB a.toNat else []
def numE (a : Int) : Int := if okNum a then 0 else 6
theorem numL_len (a : Int) : (numL a).length ≤ 8 := by
  unfold numL; split
  · rename_i h; exact numB_len8 _ (by unfold okNum at h; omega)
  · simp

/-- The number of bytes, from round i on: what is told, the place behind, the error. -/
def tk (pl : Int) : Nat → Nat → List Int → Int × Int × Int
  | _, _, [] => (0, 0, 3)
  | i, acc, c :: r =>
    if i = 7 ∧ 15 < c then (0, 0, 6)
    else if 128 ≤ c then tk pl (i + 1) (acc + (c % 128).toNat * 128 ^ i) r
    else if c = 0 ∧ 0 < i then (0, 0, 4)
    else (((acc + c.toNat * 128 ^ i : Nat) : Int), pl + i + 1, 0)
def takeNum (l : List Int) (pl : Int) : Int × Int × Int := if pl < 0 ∨ (l.length : Int) < pl then (0, 0, 2) else tk pl 0 0 (l.drop pl.toNat)
def isByte (c : Int) : Prop := 0 ≤ c ∧ c ≤ 255
def Bytes (l : List Int) : Prop := ∀ c ∈ l, 0 ≤ c ∧ c ≤ 255
instance (l : List Int) : Decidable (Bytes l) := by unfold Bytes; infer_instance
theorem Bytes.getD {l : List Int} (h : Bytes l) (i : Nat) : 0 ≤ l.getD i 0 ∧ l.getD i 0 ≤ 255 := by
  rw [List.getD_eq_getElem?_getD]
  rcases Nat.lt_or_ge i l.length with hi | hi
  · rw [List.getElem?_eq_getElem hi]; exact h _ (List.getElem_mem hi)
  · rw [List.getElem?_eq_none hi]; simp
theorem Bytes.drop {l : List Int} (h : Bytes l) (i : Nat) : Bytes (l.drop i) := fun c hc => h c (List.mem_of_mem_drop hc)
theorem Bytes.take {l : List Int} (h : Bytes l) (i : Nat) : Bytes (l.take i) := fun c hc => h c (List.mem_of_mem_take hc)
theorem drop_get (l : List Int) (i : Nat) (h : i < l.length) : l.drop i = l.getD i 0 :: l.drop (i + 1) := by
  rw [List.drop_eq_getElem_cons h, List.getD_eq_getElem?_getD, List.getElem?_eq_getElem h]; rfl
theorem drop_nil (l : List Int) (i : Nat) (h : l.length ≤ i) : l.drop i = [] := List.drop_eq_nil_of_le h

theorem tk_nil (pl : Int) (i acc : Nat) : tk pl i acc [] = (0, 0, 3) := rfl
theorem tk_big (pl : Int) (i acc : Nat) (c : Int) (r : List Int) (h : i = 7) (h2 : 15 < c) : tk pl i acc (c :: r) = (0, 0, 6) := by rw [tk, if_pos ⟨h, h2⟩]
theorem tk_more (pl : Int) (i acc : Nat) (c : Int) (r : List Int) (h : ¬ (i = 7 ∧ 15 < c)) (h2 : 128 ≤ c) : tk pl i acc (c :: r) = tk pl (i + 1) (acc + (c % 128).toNat * 128 ^ i) r := by rw [tk, if_neg h, if_pos h2]
theorem tk_form (pl : Int) (i acc : Nat) (c : Int) (r : List Int) (h2 : c = 0) (h3 : 0 < i) : tk pl i acc (c :: r) = (0, 0, 4) := by
  rw [tk, if_neg (by omega), if_neg (by omega), if_pos ⟨h2, h3⟩]
theorem tk_last (pl : Int) (i acc : Nat) (c : Int) (r : List Int) (h : ¬ (i = 7 ∧ 15 < c)) (h2 : c < 128) (h3 : ¬ (c = 0 ∧ 0 < i)) : tk pl i acc (c :: r) = (((acc + c.toNat * 128 ^ i : Nat) : Int), pl + i + 1, 0) := by
  rw [tk, if_neg h, if_neg (by omega), if_neg h3]

theorem tk_ok (pl : Int) : ∀ (r : List Int) (i acc : Nat), Bytes r → i ≤ 7 → acc < 128 ^ i → (tk pl i acc r).2.2 = 0 →
    0 ≤ (tk pl i acc r).1 ∧ (tk pl i acc r).1 ≤ 9007199254740991 ∧ pl + i + 1 ≤ (tk pl i acc r).2.1 ∧ (tk pl i acc r).2.1 ≤ pl + i + r.length
  | [], i, acc, _, _, _, h => by simp [tk_nil] at h
  | c :: r, i, acc, hb, hi, ha, h => by
    have hc := hb c List.mem_cons_self
    have hp : (128 : Nat) ^ i ≤ 562949953421312 := Nat.le_trans (Nat.pow_le_pow_right (by decide) hi) (by decide)
    by_cases h1 : i = 7 ∧ 15 < c
    · rw [tk_big _ _ _ _ _ h1.1 h1.2] at h; simp at h
    · by_cases h2 : 128 ≤ c
      · rw [tk_more _ _ _ _ _ h1 h2] at h ⊢
        have hx : (c % 128).toNat ≤ 127 := by omega
        have := Nat.mul_le_mul_right (128 ^ i) hx
        have ih := tk_ok pl r (i + 1) (acc + (c % 128).toNat * 128 ^ i) (fun x hx => hb x (List.mem_cons_of_mem _ hx)) (by omega) (by rw [Nat.pow_succ]; omega) h
        simp only [List.length_cons]
        omega
      · by_cases h3 : c = 0 ∧ 0 < i
        · rw [tk_form _ _ _ _ _ h3.1 h3.2] at h; simp at h
        · rw [tk_last _ _ _ _ _ h1 (by omega) h3]
          simp only [List.length_cons]
          refine ⟨by omega, ?_, by omega, by omega⟩
          by_cases h7 : i = 7
          · subst h7
            have hx : c.toNat ≤ 15 := by omega
            have := Nat.mul_le_mul_right (128 ^ 7) hx
            omega
          · have hp6 : (128 : Nat) ^ i ≤ 4398046511104 := Nat.le_trans (Nat.pow_le_pow_right (by decide) (show i ≤ 6 by omega)) (by decide)
            have hx : c.toNat ≤ 127 := by omega
            have := Nat.mul_le_mul hx hp6
            omega
theorem takeNum_ok (l : List Int) (pl : Int) (hb : Bytes l) (h : (takeNum l pl).2.2 = 0) :
    0 ≤ (takeNum l pl).1 ∧ (takeNum l pl).1 ≤ 9007199254740991 ∧ 0 ≤ pl ∧ pl < (takeNum l pl).2.1 ∧ (takeNum l pl).2.1 ≤ l.length := by
  unfold takeNum at h ⊢
  split
  · rename_i h1; rw [if_pos h1] at h; simp at h
  · rename_i h1
    rw [if_neg h1] at h
    have := tk_ok pl (l.drop pl.toNat) 0 0 (hb.drop _) (by omega) (by decide) h
    rw [List.length_drop] at this
    omega
/-- A text behind its length. -/
def textL (p : List Int) (most : Int) : List Int := if (p.length : Int) ≤ most then numB p.length ++ p else []
def textE (p : List Int) (most : Int) : Int := if (p.length : Int) ≤ most then 0 else 6
/-- The text at a place, the place behind, the error. -/
def takeText (l : List Int) (pl most : Int) : List Int × Int × Int :=
  let t := takeNum l pl
  if t.2.2 ≠ 0 then ([], 0, t.2.2)
  else if most < t.1 then ([], 0, 6)
  else if (l.length : Int) - t.2.1 < t.1 then ([], 0, 3)
  else ((l.take (t.2.1 + t.1).toNat).drop t.2.1.toNat, t.2.1 + t.1, 0)
theorem takeText_e (l : List Int) (pl most : Int) (h : (takeNum l pl).2.2 ≠ 0) : takeText l pl most = ([], 0, (takeNum l pl).2.2) := by unfold takeText; simp only; rw [if_pos h]
theorem takeText_m (l : List Int) (pl most : Int) (h : (takeNum l pl).2.2 = 0) (h2 : most < (takeNum l pl).1) : takeText l pl most = ([], 0, 6) := by unfold takeText; simp only; rw [if_neg (by omega), if_pos h2]
theorem takeText_s (l : List Int) (pl most : Int) (h : (takeNum l pl).2.2 = 0) (h2 : ¬ most < (takeNum l pl).1) (h3 : (l.length : Int) - (takeNum l pl).2.1 < (takeNum l pl).1) : takeText l pl most = ([], 0, 3) := by unfold takeText; simp only; rw [if_neg (by omega), if_neg h2, if_pos h3]
theorem takeText_o (l : List Int) (pl most : Int) (h : (takeNum l pl).2.2 = 0) (h2 : ¬ most < (takeNum l pl).1) (h3 : ¬ (l.length : Int) - (takeNum l pl).2.1 < (takeNum l pl).1) : takeText l pl most = ((l.take ((takeNum l pl).2.1 + (takeNum l pl).1).toNat).drop (takeNum l pl).2.1.toNat, (takeNum l pl).2.1 + (takeNum l pl).1, 0) := by unfold takeText; simp only; rw [if_neg (by omega), if_neg h2, if_neg h3]
/-- Numbers of a width, the greatest byte first. -/
def be : Nat → Nat → List Int
  | 0, _ => []
  | w + 1, n => be w (n / 256) ++ [((n % 256 : Nat) : Int)]
theorem be_len : ∀ (w n : Nat), (be w n).length = w
  | 0, n => rfl
  | w + 1, n => by rw [be, List.length_append, be_len w]; rfl
def fixE (n w : Int) : Int := if w < 1 ∨ 8 < w then 2 else if ¬ okNum n ∨ 0 < n.toNat / 256 ^ w.toNat then 6 else 0
def fixL (n w : Int) : List Int := if fixE n w = 0 then be w.toNat n.toNat else []
/-- The number of some bytes. -/
def val : Nat → List Int → Nat
  | a, [] => a
  | a, c :: r => val (a * 256 + c.toNat) r
def takeFixed (l : List Int) (pl w : Int) : Int × Int × Int :=
  if w < 1 ∨ 8 < w ∨ pl < 0 ∨ (l.length : Int) < pl then (0, 0, 2)
  else if (l.length : Int) - pl < w then (0, 0, 3)
  else if 9007199254740991 < val 0 ((l.drop pl.toNat).take w.toNat) then (0, 0, 6)
  else ((val 0 ((l.drop pl.toNat).take w.toNat) : Int), pl + w, 0)

theorem fixE_arg (n w : Int) (h : w < 1 ∨ 8 < w) : fixE n w = 2 ∧ fixL n w = [] := by
  have e : fixE n w = 2 := by unfold fixE; rw [if_pos h]
  exact ⟨e, by unfold fixL; rw [if_neg (by omega)]⟩
theorem fixE_lim (n w : Int) (h : ¬ (w < 1 ∨ 8 < w)) (h2 : ¬ okNum n ∨ 0 < n.toNat / 256 ^ w.toNat) : fixE n w = 6 ∧ fixL n w = [] := by
  have e : fixE n w = 6 := by unfold fixE; rw [if_neg h, if_pos h2]
  exact ⟨e, by unfold fixL; rw [if_neg (by omega)]⟩
theorem fixE_ok (n w : Int) (h : ¬ (w < 1 ∨ 8 < w)) (h2 : ¬ (¬ okNum n ∨ 0 < n.toNat / 256 ^ w.toNat)) : fixE n w = 0 ∧ fixL n w = be w.toNat n.toNat := by
  have e : fixE n w = 0 := by unfold fixE; rw [if_neg h, if_neg h2]
  exact ⟨e, by unfold fixL; rw [if_pos e]⟩
theorem set_rep (j : Nat) (suf : List Int) (x : Int) : (List.replicate (j + 1) (0 : Int) ++ suf).set j x = List.replicate j 0 ++ ([x] ++ suf) := by
  rw [List.replicate_succ', List.append_assoc, List.set_append_right _ _ (by simp)]
  simp
theorem be_top (w n : Nat) (h : n < 256 ^ w) : n / 256 ^ w = 0 := Nat.div_eq_of_lt h

theorem be_cons : ∀ (j a : Nat), be (j + 1) a = ((a / 256 ^ j % 256 : Nat) : Int) :: be j a
  | 0, a => by simp [be]
  | j + 1, a => by
    have e : a / 256 / 256 ^ j = a / 256 ^ (j + 1) := by rw [Nat.div_div_eq_div_mul, Nat.pow_succ, Nat.mul_comm]
    rw [be, be_cons j (a / 256), e, be, List.cons_append]
theorem div_succ (a j : Nat) : a / 256 ^ j / 256 = a / 256 ^ (j + 1) := by rw [Nat.div_div_eq_div_mul, Nat.pow_succ]

theorem val_lt : ∀ (r : List Int) (a i : Nat), Bytes r → a < 256 ^ i → val a r < 256 ^ (i + r.length)
  | [], a, i, _, h => by simpa [val] using h
  | c :: r, a, i, hb, h => by
    have hc := hb c List.mem_cons_self
    have := val_lt r (a * 256 + c.toNat) (i + 1) (fun x hx => hb x (List.mem_cons_of_mem _ hx)) (by rw [Nat.pow_succ]; omega)
    rw [val, List.length_cons, show i + (r.length + 1) = i + 1 + r.length from by omega]
    exact this
theorem val_ge : ∀ (r : List Int) (a : Nat), a ≤ val a r
  | [], a => Nat.le_refl _
  | c :: r, a => by
    have := val_ge r (a * 256 + c.toNat)
    rw [val]; omega
theorem val_big (c : Int) (r : List Int) (a : Nat) (h : 35184372088831 < a) : 9007199254740991 < val a (c :: r) := by
  have := val_ge r (a * 256 + c.toNat)
  rw [val]; omega
theorem takeFixed_arg (l : List Int) (pl w : Int) (h : w < 1 ∨ 8 < w ∨ pl < 0 ∨ (l.length : Int) < pl) : takeFixed l pl w = (0, 0, 2) := by unfold takeFixed; rw [if_pos h]
theorem takeFixed_short (l : List Int) (pl w : Int) (h : ¬ (w < 1 ∨ 8 < w ∨ pl < 0 ∨ (l.length : Int) < pl)) (h2 : (l.length : Int) - pl < w) : takeFixed l pl w = (0, 0, 3) := by unfold takeFixed; rw [if_neg h, if_pos h2]
theorem takeFixed_lim (l : List Int) (pl w : Int) (h : ¬ (w < 1 ∨ 8 < w ∨ pl < 0 ∨ (l.length : Int) < pl)) (h2 : ¬ (l.length : Int) - pl < w) (h3 : 9007199254740991 < val 0 ((l.drop pl.toNat).take w.toNat)) : takeFixed l pl w = (0, 0, 6) := by unfold takeFixed; rw [if_neg h, if_neg h2, if_pos h3]
theorem takeFixed_ok (l : List Int) (pl w : Int) (h : ¬ (w < 1 ∨ 8 < w ∨ pl < 0 ∨ (l.length : Int) < pl)) (h2 : ¬ (l.length : Int) - pl < w) (h3 : ¬ 9007199254740991 < val 0 ((l.drop pl.toNat).take w.toNat)) : takeFixed l pl w = ((val 0 ((l.drop pl.toNat).take w.toNat) : Int), pl + w, 0) := by unfold takeFixed; rw [if_neg h, if_neg h2, if_neg h3]

/-- A reader's steps: what is told, where it is then, its fault. -/
def rNum (b : List Int) (pl f : Int) : Int × Int × Int := if f ≠ 0 then (0, pl, f) else ((takeNum b pl).1, if (takeNum b pl).2.2 = 0 then (takeNum b pl).2.1 else pl, (takeNum b pl).2.2)
def rFix (b : List Int) (pl f w : Int) : Int × Int × Int := if f ≠ 0 then (0, pl, f) else ((takeFixed b pl w).1, if (takeFixed b pl w).2.2 = 0 then (takeFixed b pl w).2.1 else pl, (takeFixed b pl w).2.2)
def rTxt (b : List Int) (pl f most : Int) : List Int × Int × Int := if f ≠ 0 then ([], pl, f) else ((takeText b pl most).1, if (takeText b pl most).2.2 = 0 then (takeText b pl most).2.1 else pl, (takeText b pl most).2.2)
def rEnd (b : List Int) (pl f : Int) : Int := if f = 0 ∧ pl < b.length then 4 else f
theorem rNum_f (b : List Int) (pl f : Int) (h : f ≠ 0) : rNum b pl f = (0, pl, f) := if_pos h
theorem rNum_0 (b : List Int) (pl : Int) : rNum b pl 0 = ((takeNum b pl).1, if (takeNum b pl).2.2 = 0 then (takeNum b pl).2.1 else pl, (takeNum b pl).2.2) := if_neg (by simp)
theorem rFix_f (b : List Int) (pl f w : Int) (h : f ≠ 0) : rFix b pl f w = (0, pl, f) := if_pos h
theorem rFix_0 (b : List Int) (pl w : Int) : rFix b pl 0 w = ((takeFixed b pl w).1, if (takeFixed b pl w).2.2 = 0 then (takeFixed b pl w).2.1 else pl, (takeFixed b pl w).2.2) := if_neg (by simp)
theorem rTxt_f (b : List Int) (pl f m : Int) (h : f ≠ 0) : rTxt b pl f m = ([], pl, f) := if_pos h
theorem rTxt_0 (b : List Int) (pl m : Int) : rTxt b pl 0 m = ((takeText b pl m).1, if (takeText b pl m).2.2 = 0 then (takeText b pl m).2.1 else pl, (takeText b pl m).2.2) := if_neg (by simp)
end Go.Proofs.Ytlmcompoalhpnaa.OctS
