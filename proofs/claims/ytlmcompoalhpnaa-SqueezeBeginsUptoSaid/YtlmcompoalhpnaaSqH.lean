/- How many bytes squeezed bytes are: plain. -/
import Derived.Test.YtlmcompoalhpnaaSqG
namespace Go.Proofs.Ytlmcompoalhpnaa.SqH
open Go Go.RowKit Go.Proofs.YtlmcompoalhpnaaW.PrintWords Go.Proofs.Ytlmcompoalhpnaa.K Go.Proofs.Ytlmcompoalhpnaa.OctS Go.Proofs.Ytlmcompoalhpnaa.OctP Go.Proofs.Ytlmcompoalhpnaa.SqA Go.Proofs.Ytlmcompoalhpnaa.SqC Go.Proofs.Ytlmcompoalhpnaa.SqD Go.Proofs.Ytlmcompoalhpnaa.SqE Go.Proofs.Ytlmcompoalhpnaa.SqG
set_option linter.unusedVariables false
set_option linter.unusedSimpArgs false
theorem row_size : ∀ (f : Nat) (pl : List Int), pl.length ≤ f → (rowF f pl).length = pl.length + (pl.length + 127) / 128
  | 0, pl, h => by
    obtain rfl : pl = [] := List.length_eq_zero_iff.1 (by omega)
    rfl
  | f + 1, pl, h => by
    unfold rowF
    split
    · rename_i h0; subst h0; rfl
    · rename_i h0
      have hl : 0 < pl.length := List.length_pos_iff.2 h0
      rw [List.length_cons, List.length_append, row_size f _ (by rw [List.length_drop]; omega), List.length_take, List.length_drop]
      omega
theorem rowB_size (pl : List Int) : (rowB pl).length = pl.length + (pl.length + 127) / 128 := row_size _ pl (Nat.le_refl _)
theorem numB_two {d : Nat} (h : d ≤ 4096) : (numB d).length ≤ 2 := by
  by_cases h1 : d < 128
  · rw [numB_lt d h1]; simp
  · rw [numB_ge d (by omega), List.length_cons, numB_lt (d / 128) (by omega)]
    simp
theorem putL_small (p : List Int) : ∀ (f i s : Nat) (o pl : List Int), i ≤ p.length → p.length - i ≤ f → s + pl.length = i → o.length ≤ s + s / 128 → (putL p f i o pl).length ≤ p.length + p.length / 128 + 1
  | f, i, s, o, pl, hi, hf, hs, ho => by
    by_cases hlt : i < p.length
    · obtain ⟨g, rfl⟩ : ∃ g, f = g + 1 := ⟨f - 1, by omega⟩
      have hmi := match_in (p := p) hi
      unfold putL
      rw [if_pos hlt]
      generalize matchR p i = M at *
      obtain ⟨n, d⟩ := M
      dsimp only at *
      by_cases hn : n = 0
      · rw [if_pos hn]
        exact putL_small p g (i + 1) s o _ (by omega) (by omega) (by simp only [List.length_append, List.length_cons, List.length_nil]; omega) ho
      · rw [if_neg hn]
        have h4 : 4 ≤ n := by rcases hmi.2.2.1 with h | h <;> omega
        refine putL_small p g (i + n) (i + n) _ [] hmi.1 (by omega) (by simp) ?_
        have h2 := numB_two hmi.2.1
        simp only [List.length_append, List.length_cons, List.length_nil, rowB_size]
        omega
    · obtain rfl : i = p.length := by omega
      rw [putL_end hlt, List.length_append, rowB_size]
      omega
termination_by f => f
/-- AT MOST ONE BYTE FOR EACH 128 MORE, AND ONE. -/
theorem put_small {p : List Int} (h : p.length ≤ 8192) : (putF p).1.length ≤ p.length + p.length / 128 + 1 := by
  have e : (putF p).1 = putL p p.length 0 [] [] := by unfold putF; rw [if_neg (by omega)]
  rw [e]
  exact putL_small p p.length 0 0 [] [] (Nat.zero_le _) (by omega) rfl (by simp)
/-! Bytes that are all the same. -/
theorem rep_get {n : Nat} {c : Int} {j : Nat} (h : j < n) : (List.replicate n c).getD j 0 = c := by
  rw [List.getD_eq_getElem?_getD, List.getElem?_replicate, if_pos h]
  rfl
theorem rep_cnt {L : Nat} {c : Int} {i d : Nat} (hd : d ≤ i) (hi : i ≤ L) : ∀ (f n : Nat), i + n ≤ L → cnt (List.replicate L c) i d f n = min (n + f) (L - i)
  | 0, n, h => by unfold cnt; omega
  | f + 1, n, h => by
    unfold cnt
    by_cases hlt : i + n < L
    · rw [if_pos ⟨by rw [List.length_replicate]; exact hlt, by rw [rep_get hlt, rep_get (by omega)]⟩, rep_cnt hd hi f (n + 1) (by omega)]
      omega
    · rw [if_neg (by rw [List.length_replicate]; omega)]
      omega
theorem rep_len {L : Nat} {c : Int} {i d : Nat} (hd : d ≤ i) (hi : i ≤ L) : lenD (List.replicate L c) i d = min 131 (L - i) := by
  unfold lenD
  rw [rep_cnt hd hi 131 0 (by omega), Nat.zero_add]
theorem rep_scan {L : Nat} {c : Int} {i : Nat} (hi : i ≤ L) : ∀ (f d : Nat) (r : Nat × Nat), d + f ≤ i + 1 → (min 131 (L - i) < 4 ∨ r.1 = min 131 (L - i)) → scanD (List.replicate L c) i f d r = r
  | 0, _, _, _, _ => rfl
  | f + 1, d, r, h1, h2 => by
    have hb : bestD (List.replicate L c) i d r = r := by
      unfold bestD
      rw [rep_len (by omega) hi, if_neg (by omega)]
    show scanD _ i f (d + 1) (bestD _ i d r) = r
    rw [hb, rep_scan hi f (d + 1) r (by omega) h2]
theorem rep_match {L : Nat} {c : Int} {i : Nat} (h1 : 1 ≤ i) (hi : i ≤ L) : matchR (List.replicate L c) i = if 4 ≤ min 131 (L - i) then (min 131 (L - i), 1) else (0, 0) := by
  unfold matchR
  obtain ⟨m, hm⟩ : ∃ m, min i 4096 = m + 1 := ⟨min i 4096 - 1, by omega⟩
  rw [hm]
  show scanD _ i m (1 + 1) (bestD _ i 1 (0, 0)) = _
  unfold bestD
  rw [rep_len h1 hi]
  by_cases h4 : 4 ≤ min 131 (L - i)
  · rw [if_pos ⟨h4, by simp only; omega⟩, if_pos h4]
    exact rep_scan hi m 2 _ (by omega) (Or.inr rfl)
  · rw [if_neg (fun h => h4 h.1), if_neg h4]
    exact rep_scan hi m 2 _ (by omega) (Or.inl (by omega))
theorem rep_putL {L : Nat} {c : Int} : ∀ (f i : Nat) (o pl : List Int), 1 ≤ i → i ≤ L → L - i ≤ f → (putL (List.replicate L c) f i o pl).length ≤ o.length + (pl.length + (pl.length + 127) / 128) + 2 * ((L - i) / 131) + (if (L - i) % 131 ≤ 3 then 2 * ((L - i) % 131) else 2)
  | f, i, o, pl, h1, hi, hf => by
    have hll : (List.replicate L c).length = L := List.length_replicate
    by_cases hlt : i < L
    · obtain ⟨g, rfl⟩ : ∃ g, f = g + 1 := ⟨f - 1, by omega⟩
      unfold putL
      rw [if_pos (by rw [hll]; exact hlt), rep_match h1 hi]
      by_cases h4 : 4 ≤ min 131 (L - i)
      · rw [if_pos h4]
        simp only
        rw [if_neg (by omega)]
        have := rep_putL (L := L) (c := c) g (i + min 131 (L - i)) (o ++ rowB pl ++ [124 + ((min 131 (L - i) : Nat) : Int)] ++ numB 1) [] (by omega) (by omega) (by omega)
        refine Nat.le_trans this ?_
        have hn1 : (numB 1).length = 1 := by rw [numB_lt 1 (by omega)]; rfl
        simp only [List.length_append, List.length_cons, List.length_nil, rowB_size, hn1]
        by_cases hb : 131 ≤ L - i
        · rw [show L - (i + min 131 (L - i)) = L - i - 131 by omega]
          have e1 : (L - i - 131) / 131 = (L - i) / 131 - 1 := by omega
          have e2 : (L - i - 131) % 131 = (L - i) % 131 := by omega
          have e3 : 1 ≤ (L - i) / 131 := by omega
          rw [e1, e2]
          omega
        · rw [show L - (i + min 131 (L - i)) = 0 by omega]
          have e1 : (L - i) % 131 = L - i := by omega
          rw [e1, if_neg (show ¬ L - i ≤ 3 by omega)]
          try simp
          try omega
      · rw [if_neg h4]
        simp only
        have := rep_putL (L := L) (c := c) g (i + 1) o (pl ++ [(List.replicate L c).getD i 0]) (by omega) (by omega) (by omega)
        refine Nat.le_trans this ?_
        simp only [List.length_append, List.length_cons, List.length_nil]
        have e0 : L - i ≤ 3 := by omega
        rw [if_pos (by omega), if_pos (by omega)]
        omega
    · obtain rfl : i = L := by omega
      rw [putL_end (by rw [hll]; exact hlt), List.length_append, rowB_size]
      omega
termination_by f => f
/-- .. they have few. -/
theorem put_same {L : Nat} {c : Int} (h : L ≤ 8192) : (putF (List.replicate L c)).1.length ≤ 10 + 2 * (L / 131) := by
  have e : (putF (List.replicate L c)).1 = putL (List.replicate L c) L 0 [] [] := by unfold putF; rw [if_neg (by rw [List.length_replicate]; omega), List.length_replicate]
  rw [e]
  by_cases h0 : L = 0
  · subst h0
    show (0 : Nat) ≤ _
    omega
  · obtain ⟨g, hg⟩ : ∃ g, L = g + 1 := ⟨L - 1, by omega⟩
    have e2 : putL (List.replicate L c) L 0 [] [] = putL (List.replicate L c) g 1 [] [(List.replicate L c).getD 0 0] := by
      have h3 : ∀ f, putL (List.replicate L c) (f + 1) 0 [] [] = putL (List.replicate L c) f 1 [] [(List.replicate L c).getD 0 0] := fun f => by
        show (if 0 < (List.replicate L c).length then _ else _) = _
        rw [if_pos (by rw [List.length_replicate]; omega), if_pos (show (matchR (List.replicate L c) 0).1 = 0 from rfl)]
        rfl
      have h4 := h3 g
      rw [← hg] at h4
      exact h4
    rw [e2]
    have := rep_putL (L := L) (c := c) g 1 [] [(List.replicate L c).getD 0 0] (by omega) (by omega) (by omega)
    refine Nat.le_trans this ?_
    simp only [List.length_cons, List.length_nil]
    split <;> omega
end Go.Proofs.Ytlmcompoalhpnaa.SqH
