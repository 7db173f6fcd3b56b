/- What the reference's row of squeeze computes: bytes as they stand, in pieces; condition: not too much. -/
import Derived.Test.YtlmcompoalhpnaaSqC
import Derived.Deep.DeepCutAuto
namespace Go.Proofs.Ytlmcompoalhpnaa.SqD
open Go Go.RowKit Go.Proofs.YtlmcompoalhpnaaW.PrintWords Go.Proofs.Ytlmcompoalhpnaa.K Go.Proofs.Ytlmcompoalhpnaa.OctS Go.Proofs.Ytlmcompoalhpnaa.OctP Go.Proofs.Ytlmcompoalhpnaa.Oct Go.Proofs.Ytlmcompoalhpnaa.Ap Go.Proofs.Ytlmcompoalhpnaa.SqA
set_option linter.unusedVariables false
set_option linter.unusedSimpArgs false
/-- A row that was grown. -/
structure Grew (w w1 : World) (v v1 : Value) : Prop where
  grown : w.grownBy w1 v.ownBlock
  own : v1.ownBlock = v.ownBlock ∨ ∃ b, v1.ownBlock = some b ∧ w.heap.size ≤ b
theorem Grew.refl (w : World) (v : Value) : Grew w w v v := ⟨⟨rfl, rfl, rfl, Nat.le_refl _, fun _ _ _ => rfl⟩, .inl rfl⟩
theorem Grew.below {w w1 w2 : World} {v v1 : Value} (h : Grew w w1 v v1) (hb : Below w1.heap.size w1 w2) : Grew w w2 v v1 :=
  ⟨⟨hb.os.trans h.grown.os, hb.tape.trans h.grown.tape, hb.output.trans h.grown.output, Nat.le_trans h.grown.size hb.size, fun k hk hne => (hb.block k (Nat.lt_of_lt_of_le hk h.grown.size)).trans (h.grown.block k hk hne)⟩, h.own⟩
theorem Grew.step {w w1 w2 : World} {v v1 v2 : Value} (h : Grew w w1 v v1) (hg : w1.grownBy w2 v1.ownBlock) (ho : v2.ownBlock = v1.ownBlock ∨ ∃ b, v2.ownBlock = some b ∧ w1.heap.size ≤ b) : Grew w w2 v v2 := by
  refine ⟨⟨hg.os.trans h.grown.os, hg.tape.trans h.grown.tape, hg.output.trans h.grown.output, Nat.le_trans h.grown.size hg.size, fun k hk hne => (hg.block k (Nat.lt_of_lt_of_le hk h.grown.size) ?_).trans (h.grown.block k hk hne)⟩, ?_⟩
  · rcases h.own with e | ⟨b, e, hb⟩
    · rw [e]; exact hne
    · rw [e]; intro e2; injection e2 with e2; omega
  · rcases ho with e | ⟨b, e, hb⟩
    · rw [e]; exact h.own
    · exact .inr ⟨b, e, Nat.le_trans h.grown.size hb⟩
/-- Bytes as they stand, in pieces of at most 128. -/
def rowF : Nat → List Int → List Int
  | 0, _ => []
  | f + 1, pl => if pl = [] then [] else (((min pl.length 128 : Nat) : Int) - 1) :: (pl.take 128 ++ rowF f (pl.drop 128))
def rowB (pl : List Int) : List Int := rowF pl.length pl
theorem rowF_nil : ∀ f, rowF f [] = []
  | 0 => rfl
  | f + 1 => if_pos rfl
theorem rowF_len : ∀ (f : Nat) (pl : List Int), (rowF f pl).length ≤ 2 * pl.length
  | 0, _ => by simp [rowF]
  | f + 1, pl => by
    unfold rowF
    split
    · simp
    · rename_i h
      have := rowF_len f (pl.drop 128)
      rw [List.length_drop] at this
      have h1 : 0 < pl.length := List.length_pos_iff.2 h
      rw [List.length_cons, List.length_append, List.length_take]
      omega
set_option maxHeartbeats 4000000 in
set_option maxRecDepth 20000 in
theorem row_calls (base : Nat) (v : Value) (xs : List Int) (A : Option Addr) (k c : Nat) (pl : List Int) (w : World) (hO : Kd.R (Kd.int .u8) 5 w base (fun _ => True) (v) (xs)) (hb : base ≤ w.heap.size)
    (hC : ∀ W, w.grownBy W v.ownBlock → (Kd.int .u8).C W A k pl) (hc : k ≤ c) (hl : xs.length + 2 * k ≤ 900000) :
    Calls Try.prog 17 #[v, .slice A k c] w fun e w' => ∃ v', e = .returned v' ∧ Kd.R (Kd.int .u8) 5 w' base (fun _ => True) (v') ((xs ++ rowB pl)) ∧ Below base w w' ∧ Grew w w' v v' := by
  have HB := Aside0.mk hb
  have HO := Aside0.mk hO
  have HC := Aside0.mk hC
  have hkl : pl.length = k := (hC w (Grew.refl w v).grown).1
  have HL0 := Aside0.mk hkl
  clear hO hC hkl
  go_enter Try.func17, Try.ntmps17
  go_wp2_with fail
  go_loopg [0, 1] (k + 1) (fun gk v0 v1 wr => ∃ (j n f : Nat) (A1 : Option Addr) (c1 : Nat) (ys : List Int), v1 = .slice A1 n c1 ∧ n ≤ c1 ∧ j + n = k ∧ n ≤ f ∧ Aside0 (gk = n + 1) ∧ Aside0 (∀ W, w.grownBy W v.ownBlock → (Kd.int .u8).C W A1 n (pl.drop j)) ∧ Aside0 (ys ++ rowF f (pl.drop j) = xs ++ rowB pl) ∧ Aside0 (Kd.R (Kd.int .u8) 5 wr base (fun _ => True) (v0) (ys)) ∧ Aside0 (Below base w wr) ∧ Aside0 (Grew w wr v v0) ∧ Aside0 (ys.length ≤ xs.length + 2 * j))
  case atStart => exact ⟨0, k, k, A, c, xs, rfl, hc, by omega, Nat.le_refl _, ⟨rfl⟩, ⟨by simpa using HC.out⟩, ⟨by unfold rowB; rw [HL0.out]; rfl⟩, HO, ⟨Below.refl _ _⟩, ⟨Grew.refl _ _⟩, ⟨by omega⟩⟩
  case round =>
    obtain ⟨j, n, f, A1, c1, ys, rfl, hnc, hjk, hnf, HGK, HCC, HRW, HOR, HBr, HGR, HYL⟩ := hrel
    have hdl : (pl.drop j).length = n := by rw [List.length_drop, HL0.out]; omega
    by_cases hz : n = 0
    · subst hz
      have HF : Aside0 (ys = xs ++ rowB pl) := ⟨by
        have := HRW.out
        rw [List.length_eq_zero_iff.1 hdl, rowF_nil, List.append_nil] at this
        exact this⟩
      clear hdl
      go_wp2_with fail
      go_ret
      exact ⟨_, rfl, by rw [← HF.out]; exact HOR.out, HBr.out, HGR.out⟩
    · have d1 : decide ((0 : Int) < (n : Int)) = true := by simp only [decide_eq_true_eq]; omega
      have d1' : decide (0 < n) = true := decide_eq_true (by omega)
      obtain ⟨g, hg⟩ : ∃ g, f = g + 1 := ⟨f - 1, by omega⟩
      subst hg
      obtain ⟨q, hq⟩ : ∃ q, q = min n 128 := ⟨_, rfl⟩
      have HRR : Aside0 (ys ++ [(q : Int) - 1] ++ (pl.drop j).take q ++ rowF g (pl.drop (j + q)) = xs ++ rowB pl) := ⟨by
        rw [← HRW.out]
        conv => rhs; unfold rowF
        rw [if_neg (fun h => hz (by rw [← hdl, h]; rfl)), hdl, ← hq]
        have e1 : (pl.drop j).take 128 = (pl.drop j).take q := by
          by_cases h : n ≤ 128
          · rw [List.take_of_length_le (by omega), List.take_of_length_le (by omega)]
          · rw [show q = 128 by omega]
        have e2 : rowF g ((pl.drop j).drop 128) = rowF g (pl.drop (j + q)) := by
          by_cases h : n ≤ 128
          · rw [List.drop_of_length_le (by omega), List.drop_of_length_le (by rw [HL0.out]; omega)]
          · rw [List.drop_drop, show q = 128 by omega]
        rw [e1, e2]
        simp⟩
      have hq1 : 1 ≤ q ∧ q ≤ 128 ∧ q ≤ n := by omega
      obtain ⟨hct, hCt⟩ := cutH (Kd.int .u8) 22 5 Try.underlying22 infoU8 A1 n c1 q (by omega) hnc
      obtain ⟨A2, hcl, hCl⟩ := cutL (Kd.int .u8) 22 5 Try.underlying22 infoU8 A1 n c1 q (by omega) hnc
      have HCT := Aside0.mk (fun W hW => hCt W (pl.drop j) (HCC.out W hW))
      have HCL : Aside0 (∀ W, w.grownBy W v.ownBlock → (Kd.int .u8).C W A2 (n - q) (pl.drop (j + q))) := ⟨fun W hW => by have := hCl W (pl.drop j) (HCC.out W hW); rwa [List.drop_drop] at this⟩
      clear hCt hCl hdl
      go_upto_if 12 with fail
      go_cut [5] (fun s5 wx => s5 = .int .i64 (q : Int) ∧ wr = wx)
      case first =>
        by_cases h : n ≤ 128
        · have d2 : decide ((128 : Int) < (n : Int)) = false := by simp only [decide_eq_false_iff_not]; omega
          have d2' : decide (128 < n) = false := decide_eq_false (by omega)
          have hqn : q = n := by omega
          subst hqn
          clear hq h
          go_wp2_with fail
          go_meet
          exact ⟨rfl, rfl⟩
        · have d2 : decide ((128 : Int) < (n : Int)) = true := by simp only [decide_eq_true_eq]; omega
          have d2' : decide (128 < n) = true := decide_eq_true (by omega)
          have hqn : q = 128 := by omega
          subst hqn
          first | rw [decide_eq_true (show (128 : Int) < (n : Int) by omega)] | rw [decide_eq_true (show 128 < n by omega)]
          clear hq h
          go_wp2_with fail
          go_meet
          exact ⟨rfl, rfl⟩
      case rest =>
      obtain ⟨rfl, rfl⟩ := hcut
      clear d1 d1'
      have HQ : Aside0 (q = min n 128) := ⟨hq⟩
      clear hq
      have hw1 : IntKind.i64.wrap ((q : Int) - 1) = (q : Int) - 1 := IntWalk.i64_in _ (by omega)
      have hw2 : IntKind.u8.wrap ((q : Int) - 1) = (q : Int) - 1 := by
        simp [IntKind.wrap, IntKind.bits, IntKind.signed]
        omega
      have hi1 : (0 : Int) ≤ (q : Int) := by omega
      have hi2 : (q : Int) ≤ (n : Int) := by omega
      have HSZ := Aside0.mk (Nat.le_trans HB.out HBr.out.size)
      go_wp2_with (first
        | ((with_reducible refine gate_builtin (b := .append) (xs := #[.tmp 13, .tmp 17]) rfl ?_); at_builtin; refine app1 (Kd.int .u8) (flat_int .u8) base (w0 := w) (.tmp 13) (.tmp 17) 22 5 (.int .u8 0) 1 rfl rfl Try.underlying22 infoU8 rfl (by decide) (by decide) _ ys ((q : Int) - 1) [.int .u8 ((q : Int) - 1)] rfl rfl rfl HOR.out HBr.out HSZ.out (by have := HYL.out; omega) ?_; intro v3 w3 ho3 hb3 hg3 hat3; have HO3 := Aside0.mk ho3; have HB3 := Aside0.mk hb3; have HG3 := Aside0.mk (HGR.out.step hg3 hat3); have HS3 := Aside0.mk (Nat.le_trans HSZ.out hg3.size); clear ho3 hb3 hg3 hat3)
        | ((with_reducible refine gate_builtin (b := .append) (xs := #[.tmp 19, .tmp 22]) rfl ?_); at_builtin; refine app (Kd.int .u8) (flat_int .u8) base (w0 := w) (.tmp 19) (.tmp 22) 22 5 (.int .u8 0) 1 rfl rfl Try.underlying22 infoU8 rfl (by decide) (by decide) _ (ys ++ [(q : Int) - 1]) ((pl.drop j).take q) A1 q c1 rfl rfl HO3.out (HCT.out _ HG3.out.grown) HB3.out HS3.out (by have := HYL.out; simp only [List.length_append, List.length_cons, List.length_nil]; omega) ?_; intro v4 w4 ho4 hb4 hg4 hat4; have HO4 := Aside0.mk ho4; have HB4 := Aside0.mk hb4; have HG4 := Aside0.mk (HG3.out.step hg4 hat4); clear ho4 hb4 hg4 hat4))
      go_roundg (n - q + 1)
      case measure => have := HGK.out; omega
      case rel => exact ⟨j + q, n - q, g, A2, c1 - q, _, by first | rfl | (congr 1; omega), by omega, by omega, by omega, ⟨rfl⟩, HCL, HRR, HO4, HB4, HG4, ⟨by have := HYL.out; simp only [List.length_append, List.length_cons, List.length_nil, List.length_take, List.length_drop]; omega⟩⟩
end Go.Proofs.Ytlmcompoalhpnaa.SqD
