/- What is told of a beginning of pieces is a beginning of what is told of all: plain. -/
import Derived.Test.YtlmcompoalhpnaaSqA
namespace Go.Proofs.Ytlmcompoalhpnaa.SqP
open Go Go.RowKit Go.Proofs.YtlmcompoalhpnaaW.PrintWords Go.Proofs.Ytlmcompoalhpnaa.K Go.Proofs.Ytlmcompoalhpnaa.OctS Go.Proofs.Ytlmcompoalhpnaa.OctP Go.Proofs.Ytlmcompoalhpnaa.SqA
set_option linter.unusedVariables false
set_option linter.unusedSimpArgs false
theorem tk_app (pl : Int) (b : List Int) : ∀ (r : List Int) (i acc : Nat), (tk pl i acc r).2.2 = 0 → tk pl i acc (r ++ b) = tk pl i acc r
  | [], _, _, h => by simp [tk] at h
  | c :: r, i, acc, h => by
    rw [List.cons_append]
    unfold tk at h ⊢
    split
    · rfl
    · rename_i h1
      rw [if_neg h1] at h
      split
      · rename_i h2
        rw [if_pos h2] at h
        exact tk_app pl b r _ _ h
      · rename_i h2
        (try rw [if_neg h2] at h)
        try (split <;> rfl)
theorem takeNum_app {a b : List Int} {q : Nat} (hq : q ≤ a.length) (h : (takeNum a (q : Int)).2.2 = 0) : takeNum (a ++ b) (q : Int) = takeNum a (q : Int) := by
  unfold takeNum at h ⊢
  rw [if_neg (by omega)] at h
  rw [if_neg (by rw [List.length_append]; omega), if_neg (by omega), Int.toNat_natCast] at *
  rw [List.drop_append_of_le_length hq]
  exact tk_app _ _ _ _ _ h
theorem copyD_pre (d : Nat) : ∀ (k : Nat) (o : List Int), o <+: copyD d k o
  | 0, o => List.prefix_refl o
  | k + 1, o => (List.prefix_append o _).trans (copyD_pre d k _)
theorem step_pre {c : List Int} {m : Int} {pl : Nat} {o : List Int} (h : (SqA.stepT c m pl o).1 = 0) : o <+: (SqA.stepT c m pl o).2.1 := by
  unfold SqA.stepT at h ⊢
  split
  · rename_i h1
    rw [if_pos h1] at h
    split
    · rename_i h2; rw [if_pos h2] at h; cases h
    · rename_i h2
      rw [if_neg h2] at h
      split
      · rename_i h3; rw [if_pos h3] at h; cases h
      · exact List.prefix_append _ _
  · rename_i h1
    rw [if_neg h1] at h
    split
    · rename_i h2; rw [if_pos h2] at h; exact absurd h h2
    · rename_i h2
      rw [if_neg h2] at h
      split
      · rename_i h3; rw [if_pos h3] at h; cases h
      · rename_i h3
        rw [if_neg h3] at h
        split
        · rename_i h4; rw [if_pos h4] at h; cases h
        · exact copyD_pre _ _ _
theorem loop_pre {c : List Int} {m : Int} : ∀ (f pl : Nat) (o y : List Int), loopT c m f pl o = (y, 0) → o <+: y
  | 0, pl, o, y, h => by
    have : o = y := congrArg Prod.fst h
    rw [this]
    exact List.prefix_refl y
  | f + 1, pl, o, y, h => by
    unfold loopT at h
    split at h
    · split at h
      · rename_i h1 h2
        have : (SqA.stepT c m pl o).1 = 0 := congrArg Prod.snd h
        exact absurd this h2
      · rename_i h1 h2
        exact (step_pre (by simpa using h2)).trans (loop_pre f _ _ y h)
    · have : o = y := congrArg Prod.fst h
      rw [this]
      exact List.prefix_refl y
/-- A piece that is told of a beginning is told of all. -/
theorem step_app {a b : List Int} {m : Int} {pl : Nat} {o : List Int} (ha : Bytes a) (hpl : pl < a.length) (h : (SqA.stepT a m pl o).1 = 0) : SqA.stepT (a ++ b) m pl o = SqA.stepT a m pl o ∧ pl < (SqA.stepT a m pl o).2.2 ∧ (SqA.stepT a m pl o).2.2 ≤ a.length := by
  have hg : (a ++ b).getD pl 0 = a.getD pl 0 := by
    rw [List.getD_eq_getElem?_getD, List.getD_eq_getElem?_getD, List.getElem?_append_left hpl]
  have hc := ha.getD pl
  unfold SqA.stepT at h ⊢
  rw [hg]
  generalize a.getD pl 0 = c at *
  by_cases h1 : c + 1 ≤ 128
  · rw [if_pos h1] at h ⊢
    by_cases h2 : (a.length : Int) - ((pl + 1 : Nat) : Int) < c + 1
    · rw [if_pos h2] at h; cases h
    rw [if_neg h2] at h
    by_cases h3 : m - (o.length : Int) < c + 1
    · rw [if_pos h3] at h; cases h
    rw [if_neg (show ¬ ((a ++ b).length : Int) - ((pl + 1 : Nat) : Int) < c + 1 by rw [List.length_append]; omega), if_neg h3, if_pos h1, if_neg h2, if_neg h3]
    have e : ((a ++ b).drop (pl + 1)).take (c + 1).toNat = (a.drop (pl + 1)).take (c + 1).toNat := by
      rw [List.drop_append_of_le_length (by omega), List.take_append_of_le_length (by rw [List.length_drop]; omega)]
    rw [e]
    refine ⟨rfl, ?_, ?_⟩
    · show pl < pl + 1 + (c + 1).toNat
      omega
    · show pl + 1 + (c + 1).toNat ≤ a.length
      omega
  · rw [if_neg h1] at h
    by_cases h2 : (takeNum a ((pl + 1 : Nat) : Int)).2.2 ≠ 0
    · rw [if_pos h2] at h; exact absurd h h2
    rw [if_neg h2] at h
    have h2' : (takeNum a ((pl + 1 : Nat) : Int)).2.2 = 0 := by simpa using h2
    have hn := takeNum_app (b := b) (show pl + 1 ≤ a.length by omega) h2'
    have hok := takeNum_ok a _ ha h2'
    rw [hn]
    by_cases h3 : (takeNum a ((pl + 1 : Nat) : Int)).1 < 1 ∨ (o.length : Int) < (takeNum a ((pl + 1 : Nat) : Int)).1
    · rw [if_pos h3] at h; cases h
    rw [if_neg h3] at h
    by_cases h4 : m - (o.length : Int) < c - 124
    · rw [if_pos h4] at h; cases h
    rw [if_neg h1, if_neg h2, if_neg h3, if_neg h4]
    rw [if_neg h1]
    refine ⟨rfl, ?_, ?_⟩
    · show pl < (takeNum a ((pl + 1 : Nat) : Int)).2.1.toNat
      omega
    · show (takeNum a ((pl + 1 : Nat) : Int)).2.1.toNat ≤ a.length
      omega
theorem loop_app {a b : List Int} {m : Int} (ha : Bytes a) : ∀ (f pl : Nat) (o x : List Int), pl ≤ a.length → a.length - pl ≤ f → loopT a m f pl o = (x, 0) → ∀ F, (a ++ b).length - pl ≤ F → ∃ F', loopT (a ++ b) m F pl o = loopT (a ++ b) m F' a.length x
  | 0, pl, o, x, h1, h2, h, F, hF => by
    obtain rfl : pl = a.length := by omega
    have : o = x := congrArg Prod.fst h
    exact ⟨F, by rw [this]⟩
  | f + 1, pl, o, x, h1, h2, h, F, hF => by
    by_cases hlt : pl < a.length
    · unfold loopT at h
      rw [if_pos hlt] at h
      by_cases hs : (SqA.stepT a m pl o).1 ≠ 0
      · rw [if_pos hs] at h
        have : (SqA.stepT a m pl o).1 = 0 := congrArg Prod.snd h
        exact absurd this hs
      · rw [if_neg hs] at h
        obtain ⟨e1, e2, e3⟩ := step_app (b := b) ha hlt (by simpa using hs)
        obtain ⟨G, rfl⟩ : ∃ G, F = G + 1 := ⟨F - 1, by rw [List.length_append] at hF; omega⟩
        obtain ⟨F', hF'⟩ := loop_app (b := b) ha f _ _ x e3 (by omega) h G (by rw [List.length_append] at hF ⊢; omega)
        refine ⟨F', ?_⟩
        rw [loop_ok (by rw [List.length_append]; omega) (by rw [e1]; simpa using hs), e1]
        exact hF'
    · obtain rfl : pl = a.length := by omega
      rw [loop_end hlt] at h
      have : o = x := congrArg Prod.fst h
      exact ⟨F, by rw [this]⟩
theorem take_loop {c : List Int} {most : Int} {x : List Int} (h : takeF c most = (x, 0)) : loopT c (min most 8192) c.length 0 [] = (x, 0) := by
  unfold takeF at h
  split at h
  · exact h
  · split at h
    · cases h
    · exact h
/-- A BEGINNING OF PIECES. -/
theorem begins {a b : List Int} {most : Int} {x y : List Int} (ha : Bytes a) (hx : takeF a most = (x, 0)) (hy : takeF (a ++ b) most = (y, 0)) : x <+: y := by
  obtain ⟨F', hF⟩ := loop_app (b := b) ha a.length 0 [] x (Nat.zero_le _) (by omega) (take_loop hx) (a ++ b).length (by omega)
  rw [take_loop hy] at hF
  exact loop_pre F' a.length x y hF.symm
end Go.Proofs.Ytlmcompoalhpnaa.SqP
