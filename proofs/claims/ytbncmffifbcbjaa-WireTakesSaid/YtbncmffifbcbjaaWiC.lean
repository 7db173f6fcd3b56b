/- Does a number stand in a list: slices.Contains; condition: the slice reads as a list. -/
import Derived.Test.YtbncmffifbcbjaaHd
import Derived.Test.YtbncmffifbcbjaaOctP
namespace Go.Proofs.Ytbncmffifbcbjaa.WiC
open Go Go.RowKit Go.Proofs.YtbncmffifbcbjaaW.PrintWords Go.Proofs.Ytbncmffifbcbjaa.K
set_option linter.unusedVariables false
set_option linter.unusedSimpArgs false
/-- Where a number stands first, or -1. -/
def idxI : List Int → Int → Nat → Int
  | [], _, _ => -1
  | x :: l, n, i => if n = x then (i : Int) else idxI l n (i + 1)
theorem idx_has : ∀ (l : List Int) (n : Int) (i : Nat), decide (0 ≤ idxI l n i) = decide (n ∈ l)
  | [], _, _ => by simp [idxI]
  | x :: l, n, i => by
    unfold idxI
    split
    · rename_i h; subst h; simp
    · rename_i h
      rw [idx_has l n (i + 1)]
      simp [h]
theorem index_calls (A : Option Addr) (k c : Nat) (l : List Int) (n : Int) (w : World) (h : (Kd.int .i64).C w A k l) :
    Calls Try.prog 47 #[.slice A k c, .int .i64 n] w fun e w' => e = .returned (.int .i64 (idxI l n 0)) ∧ Below w.heap.size w w' := by
  have H := Aside0.mk h
  have hkm := h.2.1
  have hl := h.1
  clear h
  go_enter Try.func47, Try.ntmps47
  go_wp2
  go_loopg [8] (k + 1) (fun gk v8 wr => ∃ i : Nat, v8 = .int .i64 i ∧ i ≤ k ∧ Aside0 (gk = k - i + 1) ∧ Aside0 (idxI l n 0 = idxI (l.drop i) n i) ∧ wr = w)
  case atStart => exact ⟨0, rfl, Nat.zero_le _, ⟨rfl⟩, ⟨by rw [List.drop_zero]⟩, rfl⟩
  case round =>
    obtain ⟨i, rfl, hi, HG, HAT, hww⟩ := hrel
    obtain rfl := hww
    by_cases hlt : i < k
    · have h1 : decide ((i : Int) < (k : Int)) = true := by simp; omega
      have hp1 : (0 : Int) ≤ (i : Int) := by omega
      have hp2 : (i : Int) < (k : Int) := by omega
      obtain ⟨ad, rfl, hc⟩ := Kd.at_int H.out (i : Int) hp1 hp2
      rw [Int.toNat_natCast] at hc
      have hd : l.drop i = l.getD i 0 :: l.drop (i + 1) := by
        rw [List.drop_eq_getElem_cons (by omega)]
        simp [show i < l.length from by omega]
      have hx : rd l (i : Int) = l.getD i 0 := rfl
      rw [hx] at hc
      have hat := HAT.out
      rw [hd] at hat
      unfold idxI at hat
      generalize l.getD i 0 = x at *
      clear hd hx HAT
      by_cases he : n = x
      · have HAT2 := Aside0.mk (show idxI l n 0 = (i : Int) by conv => lhs; unfold idxI; rw [hat, if_pos he])
        subst he
        have hee : (n == n) = true := by simp
        clear hat
        go_wp2
        go_ret
        exact ⟨by rw [HAT2.out]; rfl, Below.refl _ _⟩
      · have HAT2 := Aside0.mk (show idxI l n 0 = idxI (l.drop (i + 1)) n (i + 1) by conv => lhs; unfold idxI; rw [hat, if_neg he])
        have hee : (n == x) = false := by simpa using he
        clear hat he
        go_wp2
        go_roundg (k - (i + 1) + 1)
        case measure => have := HG.out; omega
        case rel => exact ⟨i + 1, by go_num, by omega, ⟨rfl⟩, HAT2, rfl⟩
    · obtain rfl : i = k := by omega
      have h1 : decide ((i : Int) < (i : Int)) = false := by simp
      have HAT2 := Aside0.mk (show idxI l n 0 = -1 by rw [HAT.out, List.drop_of_length_le (by omega)]; rfl)
      clear HAT
      go_wp2
      go_ret
      exact ⟨by rw [HAT2.out]; rfl, Below.refl _ _⟩
theorem contains_calls (A : Option Addr) (k c : Nat) (l : List Int) (n : Int) (w : World) (h : (Kd.int .i64).C w A k l) :
    Calls Try.prog 37 #[.slice A k c, .int .i64 n] w fun e w' => e = .returned (.bool (decide (n ∈ l))) ∧ Below w.heap.size w w' := by
  have HI := Aside0.mk (index_calls A k c l n w h)
  have hh := idx_has l n 0
  clear h
  go_enter Try.func37, Try.ntmps37
  go_wp2_with (go_at_call 47; (with_reducible refine (HI.out).mono ?_); rintro e w' ⟨rfl, hb4⟩; have HB4 := Aside0.mk hb4; clear hb4)
  go_ret
  exact ⟨rfl, HB4.out⟩
end Go.Proofs.Ytbncmffifbcbjaa.WiC
