/- The steps of the folded count of a word's ones, byte by byte. -/
import Derived.Test.YtnpcngnmjbhhaaaBlW
namespace Go.Proofs.Ytnpcngnmjbhhaaa.BlV
open Go Go.Proofs.Ytnpcngnmjbhhaaa.BlW
/-- A number out of its bytes. -/
def fb : List Nat → Nat
  | [] => 0
  | d :: l => 256 * fb l + d
def rep (m : Nat) : Nat → Nat
  | 0 => 0
  | n + 1 => 256 * rep m n + m
theorem and_byte (d x m M s : Nat) (hd : d < 256) (hm : m < 2 ^ (8 - s)) (hs : s < 8) : ((256 * x + d) / 2 ^ s) &&& (256 * M + m) = 256 * ((x / 2 ^ s) &&& M) + ((d / 2 ^ s) &&& m) := by
  have hm8 : m < 2 ^ 8 := Nat.lt_of_lt_of_le hm (Nat.pow_le_pow_right (by decide) (by omega))
  have hlow : (d / 2 ^ s) &&& m < 2 ^ 8 := Nat.and_lt_two_pow _ hm8
  refine Nat.eq_of_testBit_eq fun b => ?_
  rw [show (256 : Nat) = 2 ^ 8 from rfl, Nat.testBit_and, Nat.testBit_div_two_pow, Nat.testBit_two_pow_mul_add _ hd, Nat.testBit_two_pow_mul_add _ hm8, Nat.testBit_two_pow_mul_add _ hlow, Nat.testBit_and, Nat.testBit_and, Nat.testBit_div_two_pow, Nat.testBit_div_two_pow]
  by_cases hb : b < 8
  · rw [if_pos hb, if_pos hb]
    by_cases h2 : b + s < 8
    · rw [if_pos h2]
    · have e : m.testBit b = false := Nat.testBit_lt_two_pow (Nat.lt_of_lt_of_le hm (Nat.pow_le_pow_right (by decide) (by omega)))
      rw [e, Bool.and_false, Bool.and_false]
  · rw [if_neg hb, if_neg hb, if_neg (show ¬ b + s < 8 by omega), show b + s - 8 = b - 8 + s from by omega]
theorem and_bytes (m s : Nat) (hm : m < 2 ^ (8 - s)) (hs : s < 8) : ∀ l : List Nat, (∀ d, d ∈ l → d < 256) → (fb l / 2 ^ s) &&& rep m l.length = fb (l.map (fun d => (d / 2 ^ s) &&& m))
  | [], _ => by simp [fb, rep]
  | d :: l, h => by
    show ((256 * fb l + d) / 2 ^ s) &&& (256 * rep m l.length + m) = 256 * fb (l.map _) + _
    rw [and_byte _ _ _ _ _ (h d (by simp)) hm hs, and_bytes m s hm hs l (fun e he => h e (by simp [he]))]
theorem fb_add (f g : Nat → Nat) : ∀ l : List Nat, fb (l.map f) + fb (l.map g) = fb (l.map (fun d => f d + g d))
  | [] => rfl
  | d :: l => by
    show 256 * fb (l.map f) + f d + (256 * fb (l.map g) + g d) = 256 * fb (l.map _) + (f d + g d)
    rw [← fb_add f g l]; omega
theorem fb_mod (l : List Nat) (h : ∀ d, d ∈ l → d < 256 ∧ d % 16 ≤ 4) : fb l % 16 ≤ 4 := by
  cases l with
  | nil => decide
  | cons d l => have := h d (by simp); show (256 * fb l + d) % 16 ≤ 4; omega
theorem fold_bytes : ∀ l : List Nat, (∀ d, d ∈ l → d ≤ 68 ∧ d % 16 ≤ 4) → (fb l / 16 + fb l) &&& rep 15 l.length = fb (l.map (fun d => (d / 16 + d) % 16))
  | [], _ => by simp [fb, rep]
  | d :: l, h => by
    have h1 := h d (by simp)
    have h2 := fb_mod l (fun e he => by have := h e (by simp [he]); omega)
    have ih := fold_bytes l (fun e he => h e (by simp [he]))
    show ((256 * fb l + d) / 16 + (256 * fb l + d)) &&& (256 * rep 15 l.length + 15) = 256 * fb (l.map _) + _
    rw [← ih]
    have e : (256 * fb l + d) / 16 + (256 * fb l + d) = 256 * (fb l / 16 + fb l) + (d / 16 + d + 16 * (fb l % 16)) := by omega
    have h3 := and_byte (d / 16 + d + 16 * (fb l % 16)) (fb l / 16 + fb l) 15 (rep 15 l.length) 0 (by omega) (by decide) (by decide)
    simp only [Nat.pow_zero, Nat.div_one] at h3
    have h4 : (d / 16 + d + 16 * (fb l % 16)) &&& 15 = (d / 16 + d) % 16 := by
      rw [show (15 : Nat) = 2 ^ 4 - 1 from rfl, Nat.and_two_pow_sub_one_eq_mod]; omega
    rw [e, h3, h4]
def f1 (d : Nat) : Nat := ((d / 2) &&& 85) + (d &&& 85)
def f2 (d : Nat) : Nat := ((d / 4) &&& 51) + (d &&& 51)
def f3 (d : Nat) : Nat := (d / 16 + d) % 16
theorem byte_all : ∀ d : Fin 256, f1 d.1 < 256 ∧ f2 (f1 d.1) ≤ 68 ∧ f2 (f1 d.1) % 16 ≤ 4 ∧ f3 (f2 (f1 d.1)) = bc d.1 8 ∧ bc d.1 8 ≤ 8 := by decide +kernel
theorem byte_one (d : Nat) (h : d < 256) : f1 d < 256 ∧ f2 (f1 d) ≤ 68 ∧ f2 (f1 d) % 16 ≤ 4 ∧ f3 (f2 (f1 d)) = bc d 8 ∧ bc d 8 ≤ 8 := byte_all ⟨d, h⟩
theorem fb_congr (f g : Nat → Nat) : ∀ l : List Nat, (∀ d, d ∈ l → f d = g d) → fb (l.map f) = fb (l.map g)
  | [], _ => rfl
  | d :: l, h => by
    show 256 * fb (l.map f) + f d = 256 * fb (l.map g) + g d
    rw [fb_congr f g l (fun e he => h e (by simp [he])), h d (by simp)]
theorem fb_lt : ∀ l : List Nat, (∀ d, d ∈ l → d < 256) → fb l < 256 ^ l.length
  | [], _ => by simp [fb]
  | d :: l, h => by
    have h1 := fb_lt l (fun e he => h e (by simp [he]))
    have h2 := h d (by simp)
    show 256 * fb l + d < 256 ^ (l.length + 1)
    rw [Nat.pow_succ]; omega
/-- The three steps that stay within a byte. -/
theorem steps (l : List Nat) (hl : l.length = 8) (h : ∀ d, d ∈ l → d < 256) :
    ∃ y z : Nat, ((fb l / 2) &&& 6148914691236517205) + (fb l &&& 6148914691236517205) = y ∧ y < 18446744073709551616 ∧
      ((y / 4) &&& 3689348814741910323) + (y &&& 3689348814741910323) = z ∧ z / 16 + z < 18446744073709551616 ∧
      (z / 16 + z) &&& 1085102592571150095 = fb (l.map (fun d => bc d 8)) := by
  have r1 : (6148914691236517205 : Nat) = rep 85 8 := by decide
  have r2 : (3689348814741910323 : Nat) = rep 51 8 := by decide
  have r3 : (1085102592571150095 : Nat) = rep 15 8 := by decide
  have hp : (256 : Nat) ^ 8 = 18446744073709551616 := by decide
  have a1 := and_bytes 85 1 (by decide) (by decide) l h
  have a2 := and_bytes 85 0 (by decide) (by decide) l h
  simp only [Nat.pow_one, Nat.pow_zero, Nat.div_one] at a1 a2
  rw [hl] at a1 a2
  have hy : ((fb l / 2) &&& rep 85 8) + (fb l &&& rep 85 8) = fb (l.map f1) := by rw [a1, a2, fb_add]; rfl
  have h1 : ∀ d, d ∈ l.map f1 → d < 256 := fun d hd => by
    obtain ⟨e, he, rfl⟩ := List.mem_map.1 hd
    exact (byte_one e (h e he)).1
  have b1 := and_bytes 51 2 (by decide) (by decide) (l.map f1) h1
  have b2 := and_bytes 51 0 (by decide) (by decide) (l.map f1) h1
  simp only [show (2 : Nat) ^ 2 = 4 from rfl, Nat.pow_zero, Nat.div_one, List.length_map] at b1 b2
  rw [hl] at b1 b2
  have hz : ((fb (l.map f1) / 4) &&& rep 51 8) + (fb (l.map f1) &&& rep 51 8) = fb ((l.map f1).map f2) := by rw [b1, b2, fb_add]; rfl
  have h2 : ∀ d, d ∈ (l.map f1).map f2 → d ≤ 68 ∧ d % 16 ≤ 4 := fun d hd => by
    obtain ⟨e1, he1, rfl⟩ := List.mem_map.1 hd
    obtain ⟨e, he, rfl⟩ := List.mem_map.1 he1
    exact ⟨(byte_one e (h e he)).2.1, (byte_one e (h e he)).2.2.1⟩
  have c1 := fold_bytes ((l.map f1).map f2) h2
  simp only [List.length_map] at c1
  rw [hl] at c1
  have ly := fb_lt (l.map f1) h1
  have lz := fb_lt ((l.map f1).map f2) (fun d hd => by have := h2 d hd; omega)
  have lz2 : fb ((l.map f1).map f2) < 4919131752989213765 := by
    have h3 : ∀ l : List Nat, (∀ d, d ∈ l → d ≤ 68) → fb l ≤ rep 68 l.length := fun l => by
      induction l with
      | nil => intro _; exact Nat.le_refl _
      | cons d l ih =>
        intro hh
        have := ih (fun e he => hh e (by simp [he]))
        have := hh d (by simp)
        show 256 * fb l + d ≤ 256 * rep 68 l.length + 68
        omega
    have h4 := h3 ((l.map f1).map f2) (fun d hd => (h2 d hd).1)
    simp only [List.length_map] at h4
    rw [hl] at h4
    have : rep 68 8 = 4919131752989213764 := by decide
    omega
  refine ⟨fb (l.map f1), fb ((l.map f1).map f2), ?_, ?_, ?_, by omega, ?_⟩
  · rw [r1]; exact hy
  · simp only [List.length_map] at ly; rw [hl, hp] at ly; exact ly
  · rw [r2]; exact hz
  · rw [r3, c1, List.map_map, List.map_map]
    exact fb_congr _ _ l (fun d hd => (byte_one d (h d hd)).2.2.2.1)
theorem bc_low (x : Nat) : bc x 8 = bc (x % 256) 8 := bc_congr _ _ 8 fun b hb => by
  rw [show (256 : Nat) = 2 ^ 8 from rfl, Nat.testBit_mod_two_pow]; simp [hb]
theorem bc_bytes : ∀ l : List Nat, (∀ d, d ∈ l → d < 256) → bc (fb l) (8 * l.length) = (l.map (fun d => bc d 8)).sum
  | [], _ => rfl
  | d :: l, h => by
    have hd := h d (by simp)
    show bc (256 * fb l + d) (8 * (l.length + 1)) = bc d 8 + (l.map _).sum
    rw [show 8 * (l.length + 1) = 8 + 8 * l.length from by omega, bc_add, bc_low, show (256 * fb l + d) % 256 = d from by omega,
      show (256 * fb l + d) / 2 ^ 8 = fb l from by omega, bc_bytes l (fun e he => h e (by simp [he]))]
def bytesOf (x : Nat) : Nat → List Nat
  | 0 => []
  | n + 1 => x % 256 :: bytesOf (x / 256) n
theorem bytesOf_spec : ∀ n x, x < 256 ^ n → fb (bytesOf x n) = x ∧ (bytesOf x n).length = n ∧ ∀ d, d ∈ bytesOf x n → d < 256
  | 0, x, h => by simp [bytesOf, fb] at *; omega
  | n + 1, x, h => by
    rw [Nat.pow_succ] at h
    obtain ⟨h1, h2, h3⟩ := bytesOf_spec n (x / 256) (by omega)
    refine ⟨?_, by simp [bytesOf, h2], fun d hd => ?_⟩
    · show 256 * fb (bytesOf (x / 256) n) + x % 256 = x
      rw [h1]; omega
    · rcases List.mem_cons.1 hd with rfl | hd
      · omega
      · exact h3 d hd
theorem fb_div (d : Nat) (l : List Nat) (h : d < 256) : fb (d :: l) / 256 = fb l := by
  show (256 * fb l + d) / 256 = fb l
  omega
theorem fb_small (l : List Nat) (hl : l.length = 8) (h : ∀ d, d ∈ l → d ≤ 64) : fb l < 9223372036854775808 := by
  match l, hl with
  | [a0, a1, a2, a3, a4, a5, a6, a7], _ =>
    have h1 := fb_lt [a0, a1, a2, a3, a4, a5, a6] (fun d hd => by have := h d (by simp only [List.mem_cons] at hd ⊢; rcases hd with h | h | h | h | h | h | h | h <;> simp_all); omega)
    have h2 := h a7 (by simp)
    have e : fb [a0, a1, a2, a3, a4, a5, a6, a7] = 72057594037927936 * a7 + fb [a0, a1, a2, a3, a4, a5, a6] := by simp only [fb]; omega
    have e2 : (256 : Nat) ^ [a0, a1, a2, a3, a4, a5, a6].length = 72057594037927936 := by simp
    rw [e2] at h1
    omega
/-- The three steps that add the bytes. -/
theorem folds (ps : List Nat) (hl : ps.length = 8) (h : ∀ p, p ∈ ps → p ≤ 8) :
    ∃ q1 q2 q3 : Nat, fb ps + fb ps / 256 = q1 ∧ q1 < 18446744073709551616 ∧ q1 + q1 / 65536 = q2 ∧ q2 < 18446744073709551616 ∧ q2 + q2 / 4294967296 = q3 ∧ q3 < 9223372036854775808 ∧ q3 % 128 = ps.sum := by
  match ps, hl with
  | [p0, p1, p2, p3, p4, p5, p6, p7], _ =>
    have h0 := h p0 (by simp)
    have h1 := h p1 (by simp)
    have h2 := h p2 (by simp)
    have h3 := h p3 (by simp)
    have h4 := h p4 (by simp)
    have h5 := h p5 (by simp)
    have h6 := h p6 (by simp)
    have h7 := h p7 (by simp)
    clear h
    have e1 : fb [p0, p1, p2, p3, p4, p5, p6, p7] + fb [p0, p1, p2, p3, p4, p5, p6, p7] / 256 = fb [p0 + p1, p1 + p2, p2 + p3, p3 + p4, p4 + p5, p5 + p6, p6 + p7, p7] := by
      rw [fb_div _ _ (by omega)]; simp only [fb]; omega
    have e2 : fb [p0 + p1, p1 + p2, p2 + p3, p3 + p4, p4 + p5, p5 + p6, p6 + p7, p7] + fb [p0 + p1, p1 + p2, p2 + p3, p3 + p4, p4 + p5, p5 + p6, p6 + p7, p7] / 65536 = fb [p0 + p1 + p2 + p3, p1 + p2 + p3 + p4, p2 + p3 + p4 + p5, p3 + p4 + p5 + p6, p4 + p5 + p6 + p7, p5 + p6 + p7, p6 + p7, p7] := by
      rw [show (65536 : Nat) = 256 * 256 from rfl, ← Nat.div_div_eq_div_mul, fb_div _ _ (by omega), fb_div _ _ (by omega)]; simp only [fb]; omega
    have e3 : fb [p0 + p1 + p2 + p3, p1 + p2 + p3 + p4, p2 + p3 + p4 + p5, p3 + p4 + p5 + p6, p4 + p5 + p6 + p7, p5 + p6 + p7, p6 + p7, p7] + fb [p0 + p1 + p2 + p3, p1 + p2 + p3 + p4, p2 + p3 + p4 + p5, p3 + p4 + p5 + p6, p4 + p5 + p6 + p7, p5 + p6 + p7, p6 + p7, p7] / 4294967296 = fb [p0 + p1 + p2 + p3 + p4 + p5 + p6 + p7, p1 + p2 + p3 + p4 + p5 + p6 + p7, p2 + p3 + p4 + p5 + p6 + p7, p3 + p4 + p5 + p6 + p7, p4 + p5 + p6 + p7, p5 + p6 + p7, p6 + p7, p7] := by
      rw [show (4294967296 : Nat) = 256 * 256 * 256 * 256 from rfl, ← Nat.div_div_eq_div_mul, ← Nat.div_div_eq_div_mul, ← Nat.div_div_eq_div_mul, fb_div _ _ (by omega), fb_div _ _ (by omega), fb_div _ _ (by omega), fb_div _ _ (by omega)]; simp only [fb]; omega
    have b1 := fb_small [p0 + p1, p1 + p2, p2 + p3, p3 + p4, p4 + p5, p5 + p6, p6 + p7, p7] rfl (by intro d hd; simp only [List.mem_cons, List.not_mem_nil, or_false] at hd; omega)
    have b2 := fb_small [p0 + p1 + p2 + p3, p1 + p2 + p3 + p4, p2 + p3 + p4 + p5, p3 + p4 + p5 + p6, p4 + p5 + p6 + p7, p5 + p6 + p7, p6 + p7, p7] rfl (by intro d hd; simp only [List.mem_cons, List.not_mem_nil, or_false] at hd; omega)
    have b3 := fb_small [p0 + p1 + p2 + p3 + p4 + p5 + p6 + p7, p1 + p2 + p3 + p4 + p5 + p6 + p7, p2 + p3 + p4 + p5 + p6 + p7, p3 + p4 + p5 + p6 + p7, p4 + p5 + p6 + p7, p5 + p6 + p7, p6 + p7, p7] rfl (by intro d hd; simp only [List.mem_cons, List.not_mem_nil, or_false] at hd; omega)
    refine ⟨_, _, _, e1, by omega, e2, by omega, e3, b3, ?_⟩
    have e4 : fb [p0 + p1 + p2 + p3 + p4 + p5 + p6 + p7, p1 + p2 + p3 + p4 + p5 + p6 + p7, p2 + p3 + p4 + p5 + p6 + p7, p3 + p4 + p5 + p6 + p7, p4 + p5 + p6 + p7, p5 + p6 + p7, p6 + p7, p7] = 256 * fb [p1 + p2 + p3 + p4 + p5 + p6 + p7, p2 + p3 + p4 + p5 + p6 + p7, p3 + p4 + p5 + p6 + p7, p4 + p5 + p6 + p7, p5 + p6 + p7, p6 + p7, p7] + (p0 + p1 + p2 + p3 + p4 + p5 + p6 + p7) := rfl
    simp only [List.sum_cons, List.sum_nil]
    rw [e4]
    generalize fb [p1 + p2 + p3 + p4 + p5 + p6 + p7, p2 + p3 + p4 + p5 + p6 + p7, p3 + p4 + p5 + p6 + p7, p4 + p5 + p6 + p7, p5 + p6 + p7, p6 + p7, p7] = z
    omega
end Go.Proofs.Ytnpcngnmjbhhaaa.BlV
