/- The pieces that go through the program's iterator tell what the reference's Put tells: plain. -/
import Derived.Test.YtlmcompoalhpnaaSqM
namespace Go.Proofs.Ytlmcompoalhpnaa.SqN
open Go Go.RowKit Go.Proofs.YtlmcompoalhpnaaW.PrintWords Go.Proofs.Ytlmcompoalhpnaa.K Go.Proofs.Ytlmcompoalhpnaa.OctS Go.Proofs.Ytlmcompoalhpnaa.OctP Go.Proofs.Ytlmcompoalhpnaa.SqA Go.Proofs.Ytlmcompoalhpnaa.SqC Go.Proofs.Ytlmcompoalhpnaa.SqD Go.Proofs.Ytlmcompoalhpnaa.SqE Go.Proofs.Ytlmcompoalhpnaa.SqM
set_option linter.unusedVariables false
set_option linter.unusedSimpArgs false
/-- A piece: bytes that stand as they are, or a match. -/
structure Pc where
  pl : List Int
  n : Nat
  d : Nat
def enc (x : Pc) : List Int := if x.n = 0 then ((x.pl.length : Int) - 1) :: x.pl else (124 + (x.n : Int)) :: numB x.d
def pcs (p : List Int) : Nat → Nat → List Int → List Pc
  | 0, _, _ => []
  | f + 1, i, pl => if i < p.length then
      (if (matchP p i).1 = 0 then
        (if pl.length + 1 = 128 ∨ i + 1 = p.length then ⟨pl ++ [p.getD i 0], 0, 0⟩ :: pcs p f (i + 1) [] else pcs p f (i + 1) (pl ++ [p.getD i 0]))
      else (if 0 < pl.length then [⟨pl, 0, 0⟩] else []) ++ ⟨[], (matchP p i).1, (matchP p i).2⟩ :: pcs p f (i + (matchP p i).1) [])
    else []
theorem pcs_end {p : List Int} {i : Nat} {pl : List Int} (h : ¬ i < p.length) : ∀ f, pcs p f i pl = []
  | 0 => rfl
  | f + 1 => if_neg h
theorem rowF_any : ∀ (f g : Nat) (pl : List Int), pl.length ≤ f → pl.length ≤ g → rowF f pl = rowF g pl
  | 0, g, pl, h, _ => by
    obtain rfl : pl = [] := List.length_eq_zero_iff.1 (by omega)
    rw [rowF_nil, rowF_nil]
  | f + 1, 0, pl, _, h => by
    obtain rfl : pl = [] := List.length_eq_zero_iff.1 (by omega)
    rw [rowF_nil, rowF_nil]
  | f + 1, g + 1, pl, h1, h2 => by
    unfold rowF
    by_cases h0 : pl = []
    · rw [if_pos h0, if_pos h0]
    · have hl : 0 < pl.length := List.length_pos_iff.2 h0
      rw [if_neg h0, if_neg h0, rowF_any f g (pl.drop 128) (by rw [List.length_drop]; omega) (by rw [List.length_drop]; omega)]
theorem rowB_nil : rowB [] = [] := rfl
theorem rowB_cons {pl : List Int} (h : pl ≠ []) : rowB pl = (((min pl.length 128 : Nat) : Int) - 1) :: (pl.take 128 ++ rowB (pl.drop 128)) := by
  have hl : 0 < pl.length := List.length_pos_iff.2 h
  obtain ⟨m, hm⟩ : ∃ m, pl.length = m + 1 := ⟨pl.length - 1, by omega⟩
  have e : rowB pl = rowF (m + 1) pl := by unfold rowB; rw [hm]
  rw [e]
  unfold rowF
  rw [if_neg h]
  congr 2
  exact rowF_any m _ _ (by rw [List.length_drop]; omega) (Nat.le_refl _)
theorem rowB_short {pl : List Int} (h : pl ≠ []) (h2 : pl.length ≤ 128) : rowB pl = ((pl.length : Int) - 1) :: pl := by
  rw [rowB_cons h, List.take_of_length_le h2, List.drop_of_length_le h2, rowB_nil, List.append_nil, Nat.min_eq_left h2]
theorem rowB_app : ∀ (k : Nat) (x y : List Int), x.length = 128 * k → rowB (x ++ y) = rowB x ++ rowB y
  | 0, x, y, h => by
    obtain rfl : x = [] := List.length_eq_zero_iff.1 (by omega)
    rfl
  | k + 1, x, y, h => by
    have hx : x ≠ [] := fun e => by rw [e] at h; simp at h
    have hxy : x ++ y ≠ [] := fun e => hx (List.append_eq_nil_iff.1 e).1
    have h128 : 128 ≤ x.length := by omega
    rw [rowB_cons hxy, rowB_cons hx, List.take_append_of_le_length h128, List.drop_append_of_le_length h128, rowB_app k (x.drop 128) y (by rw [List.length_drop]; omega)]
    have e : min (x ++ y).length 128 = min x.length 128 := by rw [List.length_append]; omega
    rw [e]
    simp
theorem enc_row {pl : List Int} (h : pl ≠ []) (h2 : pl.length ≤ 128) : enc ⟨pl, 0, 0⟩ = rowB pl := by
  rw [rowB_short h h2]
  rfl
/-- THE PIECES TELL WHAT THE REFERENCE TELLS. -/
theorem pcs_put (p : List Int) : ∀ (f i k : Nat) (o x pl : List Int), i ≤ p.length → p.length - i ≤ f → x.length = 128 * k → pl.length < 128 → (i = p.length → pl = []) → putL p f i o (x ++ pl) = o ++ rowB x ++ (pcs p f i pl).flatMap enc
  | f, i, k, o, x, pl, hi, hf, hx, hpl, he => by
    by_cases hlt : i < p.length
    · obtain ⟨g, rfl⟩ : ∃ g, f = g + 1 := ⟨f - 1, by omega⟩
      have hmi := match_in (p := p) hi
      unfold putL pcs
      rw [if_pos hlt, if_pos hlt, match_is p i hi]
      generalize matchR p i = M at *
      obtain ⟨n, d⟩ := M
      dsimp only at *
      by_cases hn : n = 0
      · rw [if_pos hn, if_pos hn, List.append_assoc]
        have hne : pl ++ [p.getD i 0] ≠ [] := by simp
        have hlen : (pl ++ [p.getD i 0]).length = pl.length + 1 := by simp
        by_cases h128 : pl.length + 1 = 128
        · rw [if_pos (Or.inl h128)]
          have h := pcs_put p g (i + 1) (k + 1) o (x ++ (pl ++ [p.getD i 0])) [] (by omega) (by omega) (by rw [List.length_append, hlen]; omega) (by simp) (fun _ => rfl)
          rw [List.append_nil] at h
          rw [h, rowB_app k x _ hx, List.flatMap_cons, enc_row hne (by omega)]
          simp only [List.append_assoc]
        · by_cases hend : i + 1 = p.length
          · rw [if_pos (Or.inr hend), putL_end (by omega), pcs_end (by omega), rowB_app k x _ hx, List.flatMap_cons, enc_row hne (by omega)]
            simp
          · rw [if_neg (fun h => h.elim h128 hend)]
            exact pcs_put p g (i + 1) k o x _ (by omega) (by omega) hx (by omega) (fun h => absurd h hend)
      · rw [if_neg hn, if_neg hn]
        have h := pcs_put p g (i + n) 0 (o ++ rowB (x ++ pl) ++ [124 + (n : Int)] ++ numB d) [] [] hmi.1 (by omega) rfl (by simp) (fun _ => rfl)
        rw [List.nil_append] at h
        rw [h, rowB_nil, rowB_app k x pl hx]
        have hm : enc ⟨[], n, d⟩ = (124 + (n : Int)) :: numB d := if_neg hn
        by_cases hp0 : 0 < pl.length
        · rw [if_pos hp0]
          simp only [List.flatMap_append, List.flatMap_cons, List.flatMap_nil, List.append_nil]
          rw [enc_row (List.length_pos_iff.1 hp0) (by omega), hm]
          simp
        · obtain rfl : pl = [] := List.length_eq_zero_iff.1 (by omega)
          rw [if_neg hp0]
          simp only [List.nil_append, List.flatMap_cons, rowB_nil, hm]
          simp
    · obtain rfl : i = p.length := by omega
      rw [he rfl, putL_end hlt, pcs_end hlt]
      simp
termination_by f => f
theorem put_pcs {p : List Int} (h : p.length ≤ 8192) : (putF p).1 = (pcs p p.length 0 []).flatMap enc := by
  have e : (putF p).1 = putL p p.length 0 [] [] := by unfold putF; rw [if_neg (by omega)]
  rw [e]
  have := pcs_put p p.length 0 0 [] [] [] (Nat.zero_le _) (by omega) rfl (by simp) (fun _ => rfl)
  simpa [rowB_nil] using this
end Go.Proofs.Ytlmcompoalhpnaa.SqN
