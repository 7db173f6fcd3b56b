/- Take of Put is the bytes, and not with one less: plain. -/
import Derived.Test.YtlmcompoalhpnaaSqE
namespace Go.Proofs.Ytlmcompoalhpnaa.SqG
open Go Go.RowKit Go.Proofs.YtlmcompoalhpnaaW.PrintWords Go.Proofs.Ytlmcompoalhpnaa.K Go.Proofs.Ytlmcompoalhpnaa.OctS Go.Proofs.Ytlmcompoalhpnaa.OctP Go.Proofs.Ytlmcompoalhpnaa.SqA Go.Proofs.Ytlmcompoalhpnaa.SqC Go.Proofs.Ytlmcompoalhpnaa.SqD Go.Proofs.Ytlmcompoalhpnaa.SqE
set_option linter.unusedVariables false
set_option linter.unusedSimpArgs false
/-- The bytes u tell x, whatever stands behind them; or x is too much. -/
def Dec (m : Int) (u x : List Int) : Prop := ∀ (r : List Int) (F : Nat), (u ++ r).length ≤ F →
  ((x.length : Int) ≤ m ∧ ∃ F', r.length ≤ F' ∧ loopT (u ++ r) m F 0 [] = loopT (u ++ r) m F' u.length x) ∨ (m < x.length ∧ loopT (u ++ r) m F 0 [] = ([], 6))
theorem Dec.nil {m : Int} (h : 0 ≤ m) : Dec m [] [] := fun r F hF => .inl ⟨by simpa using h, F, by simpa using hF, rfl⟩
theorem Dec.step {m : Int} {u g x x' : List Int} (h : Dec m u x) (hg : g ≠ []) (hx : x.length ≤ x'.length)
    (hs : ∀ r, (x.length : Int) ≤ m → SqA.stepT (u ++ (g ++ r)) m u.length x = if (x'.length : Int) ≤ m then (0, x', (u ++ g).length) else (6, [], 0)) : Dec m (u ++ g) x' := fun r F hF => by
  have hgl : 0 < g.length := List.length_pos_iff.2 hg
  rw [List.append_assoc] at hF ⊢
  rcases h (g ++ r) F hF with ⟨h1, F', h2, h3⟩ | ⟨h1, h2⟩
  · have hlt : u.length < (u ++ (g ++ r)).length := by simp only [List.length_append]; omega
    obtain ⟨G, rfl⟩ : ∃ G, F' = G + 1 := ⟨F' - 1, by simp only [List.length_append] at h2; omega⟩
    have hst := hs r h1
    by_cases hm : (x'.length : Int) ≤ m
    · rw [if_pos hm] at hst
      refine .inl ⟨hm, G, by simp only [List.length_append] at h2; omega, ?_⟩
      rw [h3, loop_ok hlt (by rw [hst]), hst]
    · rw [if_neg hm] at hst
      refine .inr ⟨by omega, ?_⟩
      rw [h3, loop_bad hlt (by simp only [List.length_append] at h2 ⊢; omega) (by rw [hst]; decide), hst]
  · exact .inr ⟨by omega, h2⟩
/-- Bytes as they stand. -/
theorem Dec.row {m : Int} {u x pl : List Int} (h : Dec m u x) (h1 : 1 ≤ pl.length) (h2 : pl.length ≤ 128) : Dec m (u ++ (((pl.length : Nat) : Int) - 1) :: pl) (x ++ pl) := by
  refine h.step (by simp) (by simp) (fun r hxm => ?_)
  have hg : (u ++ ((((pl.length : Nat) : Int) - 1) :: pl ++ r)).getD u.length 0 = ((pl.length : Nat) : Int) - 1 := by
    rw [List.getD_eq_getElem?_getD, List.getElem?_append_right (Nat.le_refl _), Nat.sub_self]
    rfl
  unfold SqA.stepT
  rw [hg]
  rw [if_pos (by omega), if_neg (by simp only [List.length_append, List.length_cons]; omega)]
  have e1 : (((pl.length : Nat) : Int) - 1 + 1).toNat = pl.length := by omega
  rw [e1]
  have e2 : (u ++ ((((pl.length : Nat) : Int) - 1) :: pl ++ r)).drop (u.length + 1) = pl ++ r := by
    rw [← List.drop_drop, List.drop_left]
    rfl
  rw [e2, List.take_left]
  by_cases hm : ((x ++ pl).length : Int) ≤ m
  · rw [if_pos hm, if_neg (by rw [List.length_append] at hm; omega)]
    simp only [List.length_append, List.length_cons]
    congr 2
    omega
  · rw [if_neg hm, if_pos (by rw [List.length_append] at hm; omega)]
theorem Dec.rows {m : Int} : ∀ (f : Nat) (pl u x : List Int), pl.length ≤ f → Dec m u x → Dec m (u ++ rowF f pl) (x ++ pl)
  | 0, pl, u, x, hf, h => by
    obtain rfl : pl = [] := List.length_eq_zero_iff.1 (by omega)
    simpa [rowF] using h
  | f + 1, pl, u, x, hf, h => by
    unfold rowF
    split
    · rename_i h0
      subst h0
      simpa using h
    · rename_i h0
      have hl : 0 < pl.length := List.length_pos_iff.2 h0
      have ht : (pl.take 128).length = min pl.length 128 := by rw [List.length_take]; omega
      have h1 := h.row (pl := pl.take 128) (by omega) (by omega)
      rw [ht] at h1
      have h2 := Dec.rows f (pl.drop 128) _ _ (by rw [List.length_drop]; omega) h1
      rw [List.append_assoc, List.append_assoc, List.take_append_drop] at h2
      simpa using h2
/-- What stood d ahead, again. -/
theorem copyD_same {p : List Int} {d : Nat} (hd : 1 ≤ d) : ∀ (n s : Nat), d ≤ s → s + n ≤ p.length → (∀ j, j < n → p.getD (s + j) 0 = p.getD (s + j - d) 0) → copyD d n (p.take s) = p.take (s + n)
  | 0, s, _, _, _ => rfl
  | n + 1, s, h1, h2, h3 => by
    have hl : (p.take s).length = s := by rw [List.length_take]; omega
    have e : p.take s ++ [(p.take s).getD ((p.take s).length - d) 0] = p.take (s + 1) := by
      rw [hl]
      have e1 : (p.take s).getD (s - d) 0 = p.getD s 0 := by
        rw [List.getD_eq_getElem?_getD, List.getElem?_take_of_lt (by omega), ← List.getD_eq_getElem?_getD]
        exact (h3 0 (by omega)).symm
      rw [e1, List.take_add_one, List.getD_eq_getElem?_getD, List.getElem?_eq_getElem (by omega)]
      rfl
    show copyD d n (p.take s ++ [(p.take s).getD ((p.take s).length - d) 0]) = _
    rw [e, copyD_same hd n (s + 1) (by omega) (by omega) (fun j hj => by have := h3 (j + 1) (by omega); rwa [show s + (j + 1) = s + 1 + j by omega] at this)]
    congr 1
    omega
theorem cnt_same (p : List Int) (i d : Nat) : ∀ (f n j : Nat), n ≤ j → j < cnt p i d f n → p.getD (i + j) 0 = p.getD (i + j - d) 0
  | 0, n, j, h1, h2 => by
    have : j < n := h2
    omega
  | f + 1, n, j, h1, h2 => by
    unfold cnt at h2
    split at h2
    · rename_i h
      by_cases hj : j = n
      · subst hj; exact h.2
      · exact cnt_same p i d f (n + 1) j (by omega) h2
    · omega
/-- A match is one. -/
def Good (p : List Int) (i : Nat) (r : Nat × Nat) : Prop := r.1 = 0 ∨ (1 ≤ r.2 ∧ r.2 ≤ i ∧ r.1 = lenD p i r.2)
theorem scan_good (p : List Int) (i : Nat) : ∀ (f d : Nat) (r : Nat × Nat), 1 ≤ d → d + f ≤ i + 1 → Good p i r → Good p i (scanD p i f d r)
  | 0, _, _, _, _, h => h
  | f + 1, d, r, h1, h2, h => scan_good p i f (d + 1) _ (by omega) (by omega) (by
    unfold bestD
    split
    · exact Or.inr ⟨h1, by simp only; omega, rfl⟩
    · exact h)
theorem match_good (p : List Int) (i : Nat) : Good p i (matchR p i) := scan_good p i _ 1 (0, 0) (by omega) (by omega) (Or.inl rfl)
theorem Dec.again {m : Int} {p u : List Int} {i n d : Nat} (h : Dec m u (p.take i)) (hi : i ≤ p.length) (hn : 4 ≤ n) (hn2 : n ≤ 131) (hd : 1 ≤ d) (hdi : d ≤ i) (hd2 : d ≤ 4096) (hin : i + n ≤ p.length) (hl : n = lenD p i d) : Dec m (u ++ [124 + (n : Int)] ++ numB d) (p.take (i + n)) := by
  have hti : (p.take i).length = i := by rw [List.length_take]; omega
  have htn : (p.take (i + n)).length = i + n := by rw [List.length_take]; omega
  rw [List.append_assoc]
  refine h.step (by simp) (by omega) (fun r hxm => ?_)
  have hg : (u ++ ([124 + (n : Int)] ++ numB d ++ r)).getD u.length 0 = 124 + (n : Int) := by
    rw [List.getD_eq_getElem?_getD, List.getElem?_append_right (Nat.le_refl _), Nat.sub_self]
    rfl
  have hb : u ++ ([124 + (n : Int)] ++ numB d ++ r) = (u ++ [124 + (n : Int)]) ++ (numB d ++ r) := by simp
  have ht : takeNum (u ++ ([124 + (n : Int)] ++ numB d ++ r)) ((u.length + 1 : Nat) : Int) = ((d : Int), ((u ++ [124 + (n : Int)]).length : Int) + (numB d).length, 0) := by
    rw [hb, show ((u.length + 1 : Nat) : Int) = ((u ++ [124 + (n : Int)]).length : Int) by simp]
    exact takeNum_numB _ _ d (by omega)
  unfold SqA.stepT
  rw [hg, ht, if_neg (by omega), if_neg (by simp), if_neg (by simp only [hti]; omega)]
  have e1 : (124 + (n : Int) - 124).toNat = n := by omega
  simp only [Int.toNat_natCast]
  rw [e1, copyD_same hd n i hdi hin (fun j hj => cnt_same p i d 131 0 j (by omega) (by rw [hl] at hj; exact hj))]
  by_cases hm : ((p.take (i + n)).length : Int) ≤ m
  · rw [if_pos hm, if_neg (by rw [htn] at hm; rw [hti]; omega)]
    simp only [List.length_append, List.length_cons, List.length_nil]
    congr 2
    omega
  · rw [if_neg hm, if_pos (by rw [htn] at hm; rw [hti]; omega)]
theorem putL_dec {m : Int} (p : List Int) : ∀ (f i s : Nat) (o pl : List Int), i ≤ p.length → p.length - i ≤ f → s + pl.length = i → pl = (p.drop s).take pl.length → Dec m o (p.take s) → Dec m (putL p f i o pl) p
  | f, i, s, o, pl, hi, hf, hs, hpl, hD => by
    have hrow : Dec m (o ++ rowB pl) (p.take i) := by
      have h := Dec.rows pl.length pl o (p.take s) (Nat.le_refl _) hD
      have e : p.take s ++ pl = p.take i := by
        rw [← hs, List.take_add, ← hpl]
      rw [e] at h
      exact h
    by_cases hlt : i < p.length
    · obtain ⟨g, rfl⟩ : ∃ g, f = g + 1 := ⟨f - 1, by omega⟩
      have hmi := match_in (p := p) hi
      have hgd := match_good p i
      unfold putL
      rw [if_pos hlt]
      generalize matchR p i = M at *
      obtain ⟨n, d⟩ := M
      dsimp only at *
      by_cases hn : n = 0
      · rw [if_pos hn]
        refine putL_dec p g (i + 1) s o (pl ++ [p.getD i 0]) (by omega) (by omega) (by simp only [List.length_append, List.length_cons, List.length_nil]; omega) ?_ hD
        rw [List.length_append, List.length_cons, List.length_nil, List.take_add_one, ← hpl, List.getElem?_drop, hs, List.getElem?_eq_getElem hlt, List.getD_eq_getElem?_getD, List.getElem?_eq_getElem hlt]
        rfl
      · rw [if_neg hn]
        rcases hgd with h0 | ⟨g1, g2, g3⟩
        · exact absurd h0 hn
        · have h4 : 4 ≤ n := by rcases hmi.2.2.1 with h | h <;> omega
          refine putL_dec p g (i + n) (i + n) _ [] hmi.1 (by omega) (by simp) (by simp) ?_
          exact hrow.again hi h4 hmi.2.2.2 g1 g2 hmi.2.1 hmi.1 g3
    · obtain rfl : i = p.length := by omega
      rw [putL_end hlt]
      rw [List.take_length] at hrow
      exact hrow
termination_by f => f
theorem put_dec {m : Int} (hm : 0 ≤ m) (p : List Int) : Dec m (putL p p.length 0 [] []) p := putL_dec p p.length 0 0 [] [] (Nat.zero_le _) (by omega) rfl (by simp) (by simpa using Dec.nil hm)
/-- TAKE OF PUT IS THE BYTES. -/
theorem take_put {p : List Int} (h : p.length ≤ 8192) : takeF (putF p).1 p.length = (p, 0) := by
  have e : (putF p).1 = putL p p.length 0 [] [] := by unfold putF; rw [if_neg (by omega)]
  rw [e]
  have hmin : min ((p.length : Nat) : Int) 8192 = p.length := by omega
  rcases put_dec (m := p.length) (by omega) p [] (putL p p.length 0 [] []).length (by simp) with ⟨h1, F', h2, h3⟩ | ⟨h1, h2⟩
  · rw [List.append_nil] at h3
    rw [take_ok (o := p) (by rw [hmin]; exact h3.trans (loop_end (Nat.lt_irrefl _) F')), if_neg (by omega)]
  · omega
/-- .. and not with one less. -/
theorem take_less {p : List Int} (h : p.length ≤ 8192) : takeF (putF p).1 (p.length - 1) = ([], 6) := by
  have e : (putF p).1 = putL p p.length 0 [] [] := by unfold putF; rw [if_neg (by omega)]
  rw [e]
  have hmin : min (((p.length : Nat) : Int) - 1) 8192 = p.length - 1 := by omega
  by_cases h0 : p = []
  · subst h0
    rfl
  · have hl : 0 < p.length := List.length_pos_iff.2 h0
    rcases put_dec (m := p.length - 1) (by omega) p [] (putL p p.length 0 [] []).length (by simp) with ⟨h1, F', h2, h3⟩ | ⟨h1, h2⟩
    · omega
    · rw [List.append_nil] at h2
      exact take_bad (by rw [hmin]; exact h2) (by decide)
end Go.Proofs.Ytlmcompoalhpnaa.SqG
