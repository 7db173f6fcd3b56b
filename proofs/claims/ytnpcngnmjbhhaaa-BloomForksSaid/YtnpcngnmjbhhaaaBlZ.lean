/- The law BloomAnyOrder: in which order sums are added plays no part; condition: each sum is 32 bytes. -/
import Derived.Test.YtnpcngnmjbhhaaaBlY
namespace Go.Proofs.Ytnpcngnmjbhhaaa.BlZ
open Go Go.RowKit Go.Proofs.YtnpcngnmjbhhaaaW.PrintWords Go.Proofs.Ytnpcngnmjbhhaaa.K Go.Proofs.Ytnpcngnmjbhhaaa.OctS Go.Proofs.Ytnpcngnmjbhhaaa.OctP Go.Proofs.Ytnpcngnmjbhhaaa.BlS Go.Proofs.Ytnpcngnmjbhhaaa.BlP Go.Proofs.Ytnpcngnmjbhhaaa.BlC Go.Proofs.Ytnpcngnmjbhhaaa.BlD Go.Proofs.Ytnpcngnmjbhhaaa.BlN Go.Proofs.Ytnpcngnmjbhhaaa.BlF Go.Proofs.Ytnpcngnmjbhhaaa.BlW Go.Proofs.Ytnpcngnmjbhhaaa.BlO Go.Proofs.Ytnpcngnmjbhhaaa.BlQ Go.Proofs.Ytnpcngnmjbhhaaa.BlR Go.Proofs.Ytnpcngnmjbhhaaa.BlA Go.Proofs.Ytnpcngnmjbhhaaa.BlHs Go.Proofs.Ytnpcngnmjbhhaaa.BlL Go.Proofs.Ytnpcngnmjbhhaaa.BlX Go.Proofs.Ytnpcngnmjbhhaaa.BlY Go.Proofs.Ytnpcngnmjbhhaaa.Oct
set_option linter.unusedVariables false
set_option linter.unusedSimpArgs false
theorem size_law (p q : Nat) (hp : p ≤ 65535) (hq : q ≤ 255) (w : World) : Calls Try.prog 13 #[.int .u16 p, .int .u8 q] w fun e w' => e = .returned (.tuple #[.int .i64 ((1 + p % 300 : Nat) : Int), .int .i64 ((1 + q % 8 : Nat) : Int)]) ∧ w = w' := by
  have a1 : IntKind.i64.wrap (p : Int) = (p : Int) := IntWalk.i64_in _ (by omega)
  have a2 : IntKind.i64.wrap (q : Int) = (q : Int) := IntWalk.i64_in _ (by omega)
  have a3 : (p : Int).tmod 300 = ((p % 300 : Nat) : Int) := rfl
  have a4 : (q : Int).tmod 8 = ((q % 8 : Nat) : Int) := rfl
  have a5 : IntKind.i64.wrap (1 + ((p % 300 : Nat) : Int)) = ((1 + p % 300 : Nat) : Int) := by rw [show (1 : Int) + ((p % 300 : Nat) : Int) = ((1 + p % 300 : Nat) : Int) from by simp]; exact IntWalk.i64_in _ (by omega)
  have a6 : IntKind.i64.wrap (1 + ((q % 8 : Nat) : Int)) = ((1 + q % 8 : Nat) : Int) := by rw [show (1 : Int) + ((q % 8 : Nat) : Int) = ((1 + q % 8 : Nat) : Int) from by simp]; exact IntWalk.i64_in _ (by omega)
  generalize 1 + p % 300 = x at *
  generalize 1 + q % 8 = y at *
  generalize p % 300 = x0 at *
  generalize q % 8 = y0 at *
  clear hp hq
  go_enter Try.func13, Try.ntmps13
  go_wp2
  go_ret2
  exact ⟨rfl, rfl⟩
/-- Two summaries that were made one behind the other. -/
theorem new_two (s k : Nat) (h : okF s k) (w : World) : Calls Try.prog 8 #[.int .i64 s, .int .i64 k] w fun e w' => ∃ g v, e = .returned (.tuple #[.pointer (some ⟨g, 0, none⟩), .int .i64 0]) ∧ BF w' w.heap.size g s k v (wordsOf [] ((s + 63) / 64)) ∧ Below w.heap.size w w' := by
  rw [wordsOf_nil]
  exact new_yes s k h w
set_option maxHeartbeats 8000000 in
theorem any_law (p q : Nat) (hp : p ≤ 65535) (hq : q ≤ 255) (A : Option Addr) (k c : Nat) (ls : List (List Int)) (bs : List Int) (w : World) (hs : SumsC w A k ls) (hl : bs.length = 32) (hx : ∀ x ∈ bs, (Lit.int .u8 x).wf = true) :
    Calls Try.prog 4 #[.int .u16 p, .int .u8 q, .slice A k c, .agg (nums .u8 bs).toArray] w fun e w' => e = .returned (.bool true) ∧ Below w.heap.size w w' := by
  have SZ := Aside0.mk (fun W => size_law p q hp hq W)
  obtain ⟨a, ha⟩ : ∃ a, a = 1 + p % 300 := ⟨_, rfl⟩
  obtain ⟨b, hb⟩ : ∃ b, b = 1 + q % 8 := ⟨_, rfl⟩
  rw [← ha, ← hb] at SZ
  have hok : okF a b := by unfold okF; omega
  have hab : a ≤ 300 ∧ b ≤ 8 := by omega
  have HK := Aside0.mk hok
  have HAB := Aside0.mk hab
  have HL := Aside0.mk hl
  have HY := Aside0.mk (bytes_wf hx)
  have HU := Aside0.mk Try.underlying22
  have HI := Aside0.mk (infoSum bs hl)
  have HR := Aside0.mk (range_new w (nums .u8 bs) 22)
  have HS := Aside0.mk hs
  have hkl := hs.lim
  clear hl hx hp hq hs hok hab ha hb
  go_enter Try.func4, Try.ntmps4
  go_wp2_with fail
  refine (SZ.out _).mono ?_
  rintro e W0 ⟨rfl, rfl⟩
  go_wp2_with fail
  refine (new_two a b HK.out _).mono ?_
  rintro e W1 ⟨g1, v1, rfl, hf1, hb1⟩
  have HF1 := Aside0.mk hf1
  have HB1 := Aside0.mk hb1
  clear hf1 hb1
  go_wp2_with fail
  refine (new_two a b HK.out _).mono ?_
  rintro e W2 ⟨g2, v2, rfl, hf2, hb2⟩
  have HM := Aside0.mk (show (a + 63) / 64 ≤ 5 ∧ 0 < (a + 63) / 64 ∧ a ≤ 64 * ((a + 63) / 64) from by have := HAB.out; have := HK.out; unfold okF at this; omega)
  have HF2 := Aside0.mk hf2
  have HNE := Aside0.mk (apart_new HF1.out hf2 (by rw [wordsOf_len]; exact HM.out.2.1) (Nat.le_refl _))
  have HF1 := Aside0.mk (bf_below HF1.out hb2)
  have HB2 := Aside0.mk (below_then HB1.out HB1.out.size hb2)
  clear hf2 hb2
  obtain ⟨m, hm⟩ : ∃ m, m = (a + 63) / 64 := ⟨_, rfl⟩
  have HMM := Aside0.mk hm
  rw [← hm] at HF1 HF2 HM
  obtain ⟨n, hn⟩ : ∃ n, n = min k 60 := ⟨_, rfl⟩
  have hmin : min (k : Int) 60 = (n : Int) := by rw [hn]; omega
  have hnk : n ≤ k ∧ n ≤ 60 := by omega
  have HF2 := Aside0.mk (bf_lower HF2.out HB1.out.size)
  obtain ⟨q, hq⟩ : ∃ q, q = ls.take n := ⟨_, rfl⟩
  have hql : q.length = n := by rw [hq, List.length_take, HS.out.len]; omega
  have hqe : ∀ i, i < n → q.getD i [] = ls.getD i [] := fun i hi => by rw [hq]; simp [List.getElem?_take, hi]
  have hqr : ∀ i, i < n → q.reverse.getD i [] = q.getD (n - 1 - i) [] := fun i hi => by
    rw [List.getD_eq_getElem?_getD, List.getD_eq_getElem?_getD, List.getElem?_reverse (by omega), hql]
  have HQL := Aside0.mk hql
  have HQE := Aside0.mk hqe
  have HQR := Aside0.mk hqr
  have HEA : Aside0 (∀ i, i < k → (ls.getD i []).length = 32 ∧ Bytes (ls.getD i [])) := ⟨fun i hi => by
    have hm : ls.getD i [] ∈ ls := by
      have : i < ls.length := by rw [HS.out.len]; exact hi
      simp [this]
    exact ⟨(HS.out.each _ hm).1, bytes_wf (HS.out.each _ hm).2⟩⟩
  clear hq hql hqe hqr hn hm
  go_wp2_with fail
  go_loopg [16] (n + 1) (fun gk v16 wr => ∃ i : Nat, v16 = .int .i64 i ∧ i ≤ n ∧ Aside0 (gk = n - i + 1) ∧ Aside0 (BF wr (w.alloc (.cells (nums .u8 bs).toArray 22)).heap.size g1 a b v1 (wordsOf (BlW.lay [] (fl (q.take i) a b)) m)) ∧ Aside0 (BF wr (w.alloc (.cells (nums .u8 bs).toArray 22)).heap.size g2 a b v2 (wordsOf (BlW.lay [] (fl (q.reverse.take i) a b)) m)) ∧ Aside0 (Below (w.alloc (.cells (nums .u8 bs).toArray 22)).heap.size (w.alloc (.cells (nums .u8 bs).toArray 22)) wr))
  case atStart => exact ⟨0, rfl, Nat.zero_le _, ⟨rfl⟩, ⟨by rw [List.take_zero]; exact HF1.out⟩, ⟨by rw [List.take_zero]; exact HF2.out⟩, HB2⟩
  case round =>
    obtain ⟨i, rfl, hi, HG, HX, HYY, HB⟩ := hrel
    by_cases hlt : i < n
    · have h1 : decide ((i : Int) < (n : Int)) = true := by simp; omega
      obtain ⟨r, hr⟩ : ∃ r, r = n - 1 - i := ⟨_, rfl⟩
      have hrk : r < k := by omega
      have hs1 : IntKind.i64.wrap ((n : Int) - 1) = ((n - 1 : Nat) : Int) := by rw [show (n : Int) - 1 = ((n - 1 : Nat) : Int) from by omega]; exact IntWalk.i64_in _ (by omega)
      have hs2 : IntKind.i64.wrap (((n - 1 : Nat) : Int) - (i : Int)) = (r : Int) := by rw [show ((n - 1 : Nat) : Int) - (i : Int) = (r : Int) from by omega]; exact IntWalk.i64_in _ (by omega)
      generalize hn1 : n - 1 = n1 at hs1 hs2
      have HN1 := Aside0.mk hn1
      have HRR := Aside0.mk hr
      have hik : i < k := by omega
      have hp1 : (0 : Int) ≤ (i : Int) := by omega
      have hp2 : (i : Int) < (k : Int) := by omega
      have hp3 : (0 : Int) ≤ (r : Int) := by omega
      have hp4 : (r : Int) < (k : Int) := by omega
      clear hn1 hr
      obtain ⟨ad, rfl⟩ := HS.out.is (by omega)
      have HSW := Aside0.mk (HS.out.below (below_alloc (Below.refl _ w) (.cells (nums .u8 bs).toArray 22)))
      have hr1 := Aside0.mk ((HSW.out.below HB.out).cells ad rfl i hik)
      have hr132 := (HEA.out i hik).1
      have HX2 := Aside0.mk (fl_snoc (q.take i) (ls.getD i []) a b)
      have HY2 := Aside0.mk (fl_snoc (q.reverse.take i) (ls.getD r []) a b)
      rw [show q.take i ++ [ls.getD i []] = q.take (i + 1) from by rw [take_snoc' q i (by rw [HQL.out]; exact hlt), HQE.out i hlt]] at HX2
      rw [show q.reverse.take i ++ [ls.getD r []] = q.reverse.take (i + 1) from by rw [take_snoc' q.reverse i (by rw [List.length_reverse, HQL.out]; exact hlt), HQR.out i hlt, HQE.out (n - 1 - i) (by omega), ← HRR.out]] at HY2
      have HGX := Aside0.mk (fl_good (q.take i) a b HK.out)
      have HGX2 := Aside0.mk (fl_good (q.take (i + 1)) a b HK.out)
      generalize BlW.lay [] (fl (q.take i) a b) = X at *
      generalize hX' : BlW.lay [] (fl (q.take (i + 1)) a b) = X' at HX2 HGX2
      have HXX := Aside0.mk hX'
      clear hX'
      have hO1 := ones_f wr _ g1 a b v1 X m HX.out (by have := HM.out; omega)
      rw [sm_good HGX.out HM.out.2.2] at hO1
      have HO1 := Aside0.mk hO1
      have hA1 := add_calls wr _ g1 a b v1 X m (ls.getD i []) HX.out HK.out HMM.out hr132 (HEA.out i hik).2
      rw [← HX2.out] at hA1
      have HA1 := Aside0.mk hA1
      have hll : X'.length ≤ X.length + b := by
        have e : X' = BlW.lay X (plL (ls.getD i []) a b) := HX2.out
        rw [e]
        exact Nat.le_trans (lay_len _ _) (Nat.add_le_add_left (plL_ways _ _ _) _)
      have hxl := good_len HGX.out
      have hxl2 := good_len HGX2.out
      have hw3 : IntKind.i64.wrap ((X.length : Int) + (b : Int)) = ((X.length + b : Nat) : Int) := by rw [← Int.natCast_add]; exact IntWalk.i64_in _ (by have := HAB.out; omega)
      have hw4 : decide (((X.length + b : Nat) : Int) < (X'.length : Int)) = false := by simp; omega
      have hw5 : decide (X.length + b < X'.length) = false := by simp; omega
      have hw6 : ¬ (X.length + b < X'.length) := by omega
      obtain ⟨L3, hL3⟩ : ∃ L3, X'.length = L3 := ⟨_, rfl⟩
      rw [hL3] at hw4 hw5 hw6
      have HL3 := Aside0.mk hL3
      clear hL3
      generalize X.length + b = L2 at hw3 hw4 hw5 hw6
      generalize hL : X.length = L1 at hw3 HO1
      clear hll hxl hxl2 hO1 hA1 hL
      go_wp2_with (first | (go_at_call 14; (with_reducible refine (HO1.out).mono ?_); rintro e w' ⟨rfl, rfl⟩) | ((with_reducible refine gate_ (.load 22 (.tmp 61)) rfl ?_); refine Hd.wpList_load_any rfl _ (.tmp 61) rfl _ rfl (nums .u8 (ls.getD i [])) _ hr1.out HU.out rfl (infoSum _ hr132) ?_))
      rename_i K0 h0
      refine HA1.out.mono ?_
      rintro e W3 ⟨rfl, hf3, hg3⟩
      have HX3 := Aside0.mk hf3
      have HYb := Aside0.mk (bf_other HYY.out HX.out (by rw [wordsOf_len]; exact HM.out.2.1) (fun e => HNE.out e.symm) hg3)
      have HB3 := Aside0.mk (bf_grown HX.out HB.out (Nat.le_refl _) hg3)
      clear hf3 hg3
      refine h0 _ _ ?_
      clear h0 K0
      (try simp only [Act.put, List.setIfInBounds_toArray, List.set_cons_zero, List.set_cons_succ])
      iterate 9 (refine wpList_step (fun K hK => ?_); go_simp; refine hK _ _ ?_; clear hK K)
      have hr2 := Aside0.mk ((HSW.out.below HB3.out).cells ad rfl r hrk)
      have hr232 := (HEA.out r hrk).1
      (refine wpList_step (fun K hK => ?_); refine Hd.load_wanted_any (by rfl) _ (.tmp 72) rfl _ rfl (nums .u8 (ls.getD r [])) _ hr2.out HU.out rfl (infoSum _ hr232) ?_; refine hK _ _ ?_; clear hK K; (try simp only [Act.put, List.setIfInBounds_toArray, List.set_cons_zero, List.set_cons_succ]))
      have hA2 := add_calls W3 _ g2 a b v2 _ m (ls.getD r []) HYb.out HK.out HMM.out hr232 (HEA.out r hrk).2
      rw [← HY2.out] at hA2
      have HA2 := Aside0.mk hA2
      clear hA2
      (refine wpList_step (fun K hK => ?_); go_simp; refine HA2.out.mono ?_; rintro e W4 ⟨rfl, hf4, hg4⟩; refine hK _ _ ?_; clear hK K; (try simp only [Act.put, List.setIfInBounds_toArray, List.set_cons_zero, List.set_cons_succ]))
      have HY4 := Aside0.mk hf4
      have HX4 := Aside0.mk (bf_other HX3.out HYb.out (by rw [wordsOf_len]; exact HM.out.2.1) HNE.out hg4)
      have HB4 := Aside0.mk (bf_grown HYb.out HB3.out (Nat.le_refl _) hg4)
      clear hf4 hg4
      iterate 4 (refine wpList_step (fun K hK => ?_); go_simp; refine hK _ _ ?_; clear hK K)
      have hO2 := ones_f W4 _ g1 a b v1 X' m HX4.out (by have := HM.out; omega)
      rw [sm_good HGX2.out HM.out.2.2, HL3.out] at hO2
      have HO2 := Aside0.mk hO2
      clear hO2
      (refine wpList_step (fun K hK => ?_); go_simp; refine HO2.out.mono ?_; rintro e W5 ⟨rfl, rfl⟩; refine hK _ _ ?_; clear hK K; (try simp only [Act.put, List.setIfInBounds_toArray, List.set_cons_zero, List.set_cons_succ]))
      iterate 5 (refine wpList_step (fun K hK => ?_); go_simp; refine hK _ _ ?_; clear hK K)
      refine wpList_nil ?_
      go_wp2
      go_roundg (n - (i + 1) + 1)
      case measure => have := HG.out; omega
      case rel => exact ⟨i + 1, by go_num, by omega, ⟨rfl⟩, ⟨by rw [HXX.out]; exact HX4.out⟩, HY4, HB4⟩
    · obtain rfl : i = n := by omega
      have h1 : decide ((i : Int) < (i : Int)) = false := by simp
      rw [show q.take i = q from List.take_of_length_le (by rw [HQL.out]; exact Nat.le_refl _)] at HX
      rw [show q.reverse.take i = q.reverse from List.take_of_length_le (by rw [List.length_reverse, HQL.out]; exact Nat.le_refl _)] at HYY
      have HGX := Aside0.mk (fl_good q a b HK.out)
      have HGY := Aside0.mk (fl_good q.reverse a b HK.out)
      have HEQ := Aside0.mk (fun x => fl_rev q a b x)
      have HHX := Aside0.mk (fun j hj => fl_has q j hj a b)
      have HLE := Aside0.mk (len_same HGY.out HGX.out HEQ.out)
      generalize BlW.lay [] (fl q a b) = X at *
      generalize BlW.lay [] (fl q.reverse a b) = Y at *
      have hxl := good_len HGX.out
      have hO1 := ones_f wr _ g1 a b v1 X m HX.out (by have := HM.out; omega)
      rw [sm_good HGX.out HM.out.2.2] at hO1
      have HO1 := Aside0.mk hO1
      obtain ⟨L1, hL1⟩ : ∃ L1, X.length = L1 := ⟨_, rfl⟩
      rw [hL1] at HO1
      have HL1 := Aside0.mk hL1
      clear hO1 hxl hL1
      go_wp2_with (go_at_call 14; (with_reducible refine (HO1.out).mono ?_); rintro e w' ⟨rfl, rfl⟩)
      have HXa := HX
      have HYa := HYY
      have HBa := HB
      clear HX HYY HB HG
      go_loopg [19] (i + 1) (fun gk v19 wq => ∃ j : Nat, v19 = .int .i64 j ∧ j ≤ i ∧ Aside0 (gk = i - j + 1) ∧ Aside0 (BF wq (w.alloc (.cells (nums .u8 bs).toArray 22)).heap.size g1 a b v1 (wordsOf X m)) ∧ Aside0 (BF wq (w.alloc (.cells (nums .u8 bs).toArray 22)).heap.size g2 a b v2 (wordsOf Y m)) ∧ Aside0 (Below (w.alloc (.cells (nums .u8 bs).toArray 22)).heap.size (w.alloc (.cells (nums .u8 bs).toArray 22)) wq))
      case atStart => exact ⟨0, rfl, Nat.zero_le _, ⟨rfl⟩, HXa, HYa, HBa⟩
      case round =>
        obtain ⟨j, rfl, hj, HG, HX, HYY, HB⟩ := hrel
        by_cases hlt : j < i
        · have h2 : decide ((j : Int) < (i : Int)) = true := by simp; omega
          have hjk : j < k := by omega
          have hp1 : (0 : Int) ≤ (j : Int) := by omega
          have hp2 : (j : Int) < (k : Int) := by omega
          obtain ⟨ad, rfl⟩ := HS.out.is (by omega)
          have HSW := Aside0.mk (HS.out.below (below_alloc (Below.refl _ w) (.cells (nums .u8 bs).toArray 22)))
          have hr1 := Aside0.mk ((HSW.out.below HB.out).cells ad rfl j hjk)
          have hr132 := (HEA.out j hjk).1
          have HHJ := Aside0.mk (HHX.out j (by rw [HQL.out]; exact hlt))
          rw [HQE.out j hlt] at HHJ
          have hA1 := add_calls wr _ g1 a b v1 X m (ls.getD j []) HX.out HK.out HMM.out hr132 (HEA.out j hjk).2
          rw [lay_same X _ HHJ.out] at hA1
          have HA1 := Aside0.mk hA1
          clear hA1
          go_wp2_with ((with_reducible refine gate_ (.load 22 (.tmp 95)) rfl ?_); refine Hd.wpList_load_any rfl _ (.tmp 95) rfl _ rfl (nums .u8 (ls.getD j [])) _ hr1.out HU.out rfl (infoSum _ hr132) ?_)
          rename_i K0 h0
          refine HA1.out.mono ?_
          rintro e W3 ⟨rfl, hf3, hg3⟩
          have HX3 := Aside0.mk hf3
          have HYb := Aside0.mk (bf_other HYY.out HX.out (by rw [wordsOf_len]; exact HM.out.2.1) (fun e => HNE.out e.symm) hg3)
          have HB3 := Aside0.mk (bf_grown HX.out HB.out (Nat.le_refl _) hg3)
          clear hf3 hg3
          refine h0 _ _ ?_
          clear h0 K0
          (try simp only [Act.put, List.setIfInBounds_toArray, List.set_cons_zero, List.set_cons_succ])
          iterate 6 (refine wpList_step (fun K hK => ?_); go_simp; refine hK _ _ ?_; clear hK K)
          have hr2 := Aside0.mk ((HSW.out.below HB3.out).cells ad rfl j hjk)
          (refine wpList_step (fun K hK => ?_); refine Hd.load_wanted_any (by rfl) _ (.tmp 103) rfl _ rfl (nums .u8 (ls.getD j [])) _ hr2.out HU.out rfl (infoSum _ hr132) ?_; refine hK _ _ ?_; clear hK K; (try simp only [Act.put, List.setIfInBounds_toArray, List.set_cons_zero, List.set_cons_succ]))
          have hA2 := has_calls W3 _ g2 a b v2 Y m (ls.getD j []) HYb.out HK.out HMM.out hr132 (HEA.out j hjk).2
          rw [all_has _ Y (fun p hp => (HEQ.out p).trans (HHJ.out p hp))] at hA2
          have HA2 := Aside0.mk hA2
          clear hA2
          (refine wpList_step (fun K hK => ?_); go_simp; refine HA2.out.mono ?_; rintro e W4 ⟨rfl, hb4⟩; refine hK _ _ ?_; clear hK K; (try simp only [Act.put, List.setIfInBounds_toArray, List.set_cons_zero, List.set_cons_succ]))
          have HX4 := Aside0.mk (bf_below HX3.out hb4)
          have HY4 := Aside0.mk (bf_below HYb.out hb4)
          have HB4 := Aside0.mk (below_then HB3.out HB3.out.size hb4)
          clear hb4
          iterate 2 (refine wpList_step (fun K hK => ?_); go_simp; refine hK _ _ ?_; clear hK K)
          refine wpList_nil ?_
          go_wp2
          go_roundg (i - (j + 1) + 1)
          case measure => have := HG.out; omega
          case rel => exact ⟨j + 1, by go_num, by omega, ⟨rfl⟩, HX4, HY4, HB4⟩
        · obtain rfl : j = i := by omega
          have h2 : decide ((j : Int) < (j : Int)) = false := by simp
          have HRW := Aside0.mk (range_below HR.out HB.out)
          have HOX : Aside0 (∀ W, Below wr.heap.size wr W → Calls Try.prog 14 #[.pointer (some ⟨g1, 0, none⟩)] W fun e w' => e = .returned (.int .i64 L1) ∧ W = w') := ⟨fun W hW => by
            have h := ones_f W _ g1 a b v1 X m (bf_below HX.out hW) (by have := HM.out; omega)
            rwa [sm_good HGX.out HM.out.2.2, HL1.out] at h⟩
          have HOY : Aside0 (∀ W, Below wr.heap.size wr W → Calls Try.prog 14 #[.pointer (some ⟨g2, 0, none⟩)] W fun e w' => e = .returned (.int .i64 L1) ∧ W = w') := ⟨fun W hW => by
            have h := ones_f W _ g2 a b v2 Y m (bf_below HYY.out hW) (by have := HM.out; omega)
            rwa [sm_good HGY.out HM.out.2.2, HLE.out, HL1.out] at h⟩
          have HHX2 : Aside0 (∀ W, Below wr.heap.size wr W → Calls Try.prog 16 #[.pointer (some ⟨g1, 0, none⟩), .agg (nums .u8 bs).toArray] W fun e w' => e = .returned (.bool ((plL bs a b).all (fun p => X.contains p))) ∧ Below W.heap.size W w') := ⟨fun W hW => has_calls W _ g1 a b v1 X m bs (bf_below HX.out hW) HK.out HMM.out HL.out HY.out⟩
          have HHY2 : Aside0 (∀ W, Below wr.heap.size wr W → Calls Try.prog 16 #[.pointer (some ⟨g2, 0, none⟩), .agg (nums .u8 bs).toArray] W fun e w' => e = .returned (.bool ((plL bs a b).all (fun p => X.contains p))) ∧ Below W.heap.size W w') := ⟨fun W hW => by
            have h := has_calls W _ g2 a b v2 Y m bs (bf_below HYY.out hW) HK.out HMM.out HL.out HY.out
            rw [show (fun p => Y.contains p) = (fun p => X.contains p) from funext HEQ.out] at h
            exact h⟩
          generalize (plL bs a b).all (fun p => X.contains p) = bX at HHX2 HHY2
          go_wp2_with fail
          (refine Hd.startE (S := (fun w' => Below wr.heap.size wr w')) 1000 (by kernel_rfl) (below_drew1 (Below.refl _ _)) (fun hHeld => ?_))
          (refine Hd.readyE (rs := [0]) (by kernel_rfl) (by simp) ?_; refine Hd.AllE.cons (i := 0) rfl (fun K hK => ?_) Hd.AllE.nil; (go_simp; (with_reducible refine (live_calls _).mono ?_); rintro e W5 ⟨rfl, hb5⟩); refine hK.out _ _ (below_then hHeld hHeld.size hb5) (fun hHeld => ?_); clear hK K; (try simp only [Act.put, List.setIfInBounds_toArray, List.set_cons_zero, List.set_cons_succ]))
          (refine Hd.takeE (i := 1) (v := ?_) rfl rfl (by kernel_rfl) (by kernel_rfl) (by kernel_rfl) (by kernel_rfl) (fun _ _ _ h => h) (Or.inl ⟨by rfl, ?_⟩) (by assumption) ?_; rotate_left; (focus (intro wS hS; (try go_split_ands); go_simp; all_goals (with_reducible rfl))); simp only [List.set_cons_zero, List.set_cons_succ, List.setIfInBounds_toArray]); (refine Hd.takeE (i := 2) (v := ?_) rfl rfl (by kernel_rfl) (by kernel_rfl) (by kernel_rfl) (by kernel_rfl) (fun _ _ _ h => h) (Or.inl ⟨by rfl, ?_⟩) (by assumption) ?_; rotate_left; (focus (intro wS hS; (try go_split_ands); go_simp; all_goals (with_reducible rfl))); simp only [List.set_cons_zero, List.set_cons_succ, List.setIfInBounds_toArray]); (refine Hd.takeE (i := 4) (v := ?_) rfl rfl (by kernel_rfl) (by kernel_rfl) (by kernel_rfl) (by kernel_rfl) (fun _ _ _ h => h) (Or.inl ⟨by rfl, ?_⟩) (by assumption) ?_; rotate_left; (focus (intro wS hS; (try go_split_ands); go_simp; all_goals (with_reducible rfl))); simp only [List.set_cons_zero, List.set_cons_succ, List.setIfInBounds_toArray])
          (refine Hd.readyE (rs := [3]) (by kernel_rfl) (by simp) ?_; refine Hd.AllE.cons (i := 3) rfl (fun K hK => ?_) Hd.AllE.nil; (go_simp; (with_reducible refine (HOX.out _ hHeld).mono ?_); rintro e W6 ⟨rfl, rfl⟩); refine hK.out _ _ (hHeld) (fun hHeld => ?_); clear hK K; (try simp only [Act.put, List.setIfInBounds_toArray, List.set_cons_zero, List.set_cons_succ]))
          (refine Hd.takeE (i := 5) (v := ?_) rfl rfl (by kernel_rfl) (by kernel_rfl) (by kernel_rfl) (by kernel_rfl) (fun _ _ _ h => h) (Or.inl ⟨by rfl, ?_⟩) (by assumption) ?_; rotate_left; (focus (intro wS hS; (try go_split_ands); go_simp; all_goals (with_reducible rfl))); simp only [List.set_cons_zero, List.set_cons_succ, List.setIfInBounds_toArray]); (refine Hd.takeE (i := 6) (v := ?_) rfl rfl (by kernel_rfl) (by kernel_rfl) (by kernel_rfl) (by kernel_rfl) (fun _ _ _ h => h) (Or.inl ⟨by rfl, ?_⟩) (by assumption) ?_; rotate_left; (focus (intro wS hS; (try go_split_ands); go_simp; all_goals (with_reducible rfl))); simp only [List.set_cons_zero, List.set_cons_succ, List.setIfInBounds_toArray]); (refine Hd.takeE (i := 7) (v := ?_) rfl rfl (by kernel_rfl) (by kernel_rfl) (by kernel_rfl) (by kernel_rfl) (fun _ _ _ h => h) (Or.inl ⟨by rfl, ?_⟩) (by assumption) ?_; rotate_left; (focus (intro wS hS; (try go_split_ands); go_simp; all_goals (with_reducible rfl))); simp only [List.set_cons_zero, List.set_cons_succ, List.setIfInBounds_toArray]); (refine Hd.takeE (i := 8) (v := ?_) rfl rfl (by kernel_rfl) (by kernel_rfl) (by kernel_rfl) (by kernel_rfl) (fun _ _ _ h => h) (Or.inl ⟨by rfl, ?_⟩) (by assumption) ?_; rotate_left; (focus (intro wS hS; (try go_split_ands); go_simp; all_goals (with_reducible rfl))); simp only [List.set_cons_zero, List.set_cons_succ, List.setIfInBounds_toArray]); (refine Hd.takeE (i := 10) (v := ?_) rfl rfl (by kernel_rfl) (by kernel_rfl) (by kernel_rfl) (by kernel_rfl) (fun _ _ _ h => h) (Or.inl ⟨by rfl, ?_⟩) (by assumption) ?_; rotate_left; (focus (intro wS hS; (try go_split_ands); go_simp; all_goals (with_reducible rfl))); simp only [List.set_cons_zero, List.set_cons_succ, List.setIfInBounds_toArray])
          (refine Hd.readyE (rs := [9]) (by kernel_rfl) (by simp) ?_; refine Hd.AllE.cons (i := 9) rfl (fun K hK => ?_) Hd.AllE.nil; (go_simp; (with_reducible refine (HOY.out _ hHeld).mono ?_); rintro e W6 ⟨rfl, rfl⟩); refine hK.out _ _ (hHeld) (fun hHeld => ?_); clear hK K; (try simp only [Act.put, List.setIfInBounds_toArray, List.set_cons_zero, List.set_cons_succ]))
          (refine Hd.takeE (i := 11) (v := ?_) rfl rfl (by kernel_rfl) (by kernel_rfl) (by kernel_rfl) (by kernel_rfl) (fun _ _ _ h => h) (Or.inl ⟨by rfl, ?_⟩) (by assumption) ?_; rotate_left; (focus (intro wS hS; (try go_split_ands); go_simp; all_goals (with_reducible rfl))); simp only [List.set_cons_zero, List.set_cons_succ, List.setIfInBounds_toArray]); (refine Hd.takeE (i := 12) (v := ?_) rfl rfl (by kernel_rfl) (by kernel_rfl) (by kernel_rfl) (by kernel_rfl) (fun _ _ _ h => h) (Or.inl ⟨by rfl, ?_⟩) (by assumption) ?_; rotate_left; (focus (intro wS hS; (try go_split_ands); go_simp; all_goals (with_reducible rfl))); simp only [List.set_cons_zero, List.set_cons_succ, List.setIfInBounds_toArray]); (refine Hd.takeE (i := 13) (v := ?_) rfl rfl (by kernel_rfl) (by kernel_rfl) (by kernel_rfl) (by kernel_rfl) (fun _ _ _ h => h) (Or.inl ⟨by rfl, ?_⟩) (by assumption) ?_; rotate_left; (focus (intro wS hS; (try go_split_ands); go_simp; all_goals (with_reducible rfl))); simp only [List.set_cons_zero, List.set_cons_succ, List.setIfInBounds_toArray]); (refine Hd.takeE (i := 14) (v := ?_) rfl rfl (by kernel_rfl) (by kernel_rfl) (by kernel_rfl) (by kernel_rfl) (fun _ _ _ h => h) (Or.inl ⟨by rfl, ?_⟩) (by assumption) ?_; rotate_left; (focus (intro wS hS; (try go_split_ands); go_simp; all_goals (with_reducible rfl))); simp only [List.set_cons_zero, List.set_cons_succ, List.setIfInBounds_toArray]); (refine Hd.takeE (i := 17) (v := ?_) rfl rfl (by kernel_rfl) (by kernel_rfl) (by kernel_rfl) (by kernel_rfl) (fun _ _ _ h => h) (Or.inl ⟨by rfl, ?_⟩) (by assumption) ?_; rotate_left; (focus (intro wS hS; (try go_split_ands); go_simp; all_goals (with_reducible rfl))); simp only [List.set_cons_zero, List.set_cons_succ, List.setIfInBounds_toArray])
          (refine Hd.takeE (i := 15) rfl rfl (by kernel_rfl) (by kernel_rfl) (by kernel_rfl) (by kernel_rfl) (fun _ _ _ h => h) (yieldsIf_load_mid (by rfl) 22 _ rfl w.heap.size 0 rfl (nums .u8 bs) _ (fun wS hS => range_below HRW.out hS) HU.out rfl HI.out) (by assumption) ?_; simp only [List.set_cons_zero, List.set_cons_succ, List.setIfInBounds_toArray])
          (refine Hd.takeE (i := 18) rfl rfl (by kernel_rfl) (by kernel_rfl) (by kernel_rfl) (by kernel_rfl) (fun _ _ _ h => h) (yieldsIf_load_mid (by rfl) 22 _ rfl w.heap.size 0 rfl (nums .u8 bs) _ (fun wS hS => range_below HRW.out hS) HU.out rfl HI.out) (by assumption) ?_; simp only [List.set_cons_zero, List.set_cons_succ, List.setIfInBounds_toArray])
          (refine Hd.readyE (rs := [16]) (by kernel_rfl) (by simp) ?_; refine Hd.AllE.cons (i := 16) rfl (fun K hK => ?_) Hd.AllE.nil; (go_simp; (with_reducible refine (HHX2.out _ hHeld).mono ?_); rintro e W6 ⟨rfl, hb6⟩); refine hK.out _ _ (below_then hHeld hHeld.size hb6) (fun hHeld => ?_); clear hK K; (try simp only [Act.put, List.setIfInBounds_toArray, List.set_cons_zero, List.set_cons_succ]))
          (refine Hd.readyE (rs := [19]) (by kernel_rfl) (by simp) ?_; refine Hd.AllE.cons (i := 19) rfl (fun K hK => ?_) Hd.AllE.nil; (go_simp; (with_reducible refine (HHY2.out _ hHeld).mono ?_); rintro e W7 ⟨rfl, hb7⟩); refine hK.out _ _ (below_then hHeld hHeld.size hb7) (fun hHeld => ?_); clear hK K; (try simp only [Act.put, List.setIfInBounds_toArray, List.set_cons_zero, List.set_cons_succ]))
          (refine Hd.takeE (i := 20) (v := ?_) rfl rfl (by kernel_rfl) (by kernel_rfl) (by kernel_rfl) (by kernel_rfl) (fun _ _ _ h => h) (Or.inl ⟨by rfl, ?_⟩) (by assumption) ?_; rotate_left; (focus (intro wS hS; (try go_split_ands); go_simp; all_goals (with_reducible rfl))); simp only [List.set_cons_zero, List.set_cons_succ, List.setIfInBounds_toArray]); (refine Hd.takeE (i := 21) (v := ?_) rfl rfl (by kernel_rfl) (by kernel_rfl) (by kernel_rfl) (by kernel_rfl) (fun _ _ _ h => h) (Or.inl ⟨by rfl, ?_⟩) (by assumption) ?_; rotate_left; (focus (intro wS hS; (try go_split_ands); go_simp; all_goals (with_reducible rfl))); simp only [List.set_cons_zero, List.set_cons_succ, List.setIfInBounds_toArray]); (refine Hd.takeE (i := 22) (v := ?_) rfl rfl (by kernel_rfl) (by kernel_rfl) (by kernel_rfl) (by kernel_rfl) (fun _ _ _ h => h) (Or.inl ⟨by rfl, ?_⟩) (by assumption) ?_; rotate_left; (focus (intro wS hS; (try go_split_ands); go_simp; all_goals (with_reducible rfl))); simp only [List.set_cons_zero, List.set_cons_succ, List.setIfInBounds_toArray])
          (refine Hd.endE (by kernel_rfl) ?_ _)
          have HBE := Aside0.mk (below_then HB.out HB.out.size hHeld)
          go_wp2
          go_ret
          exact ⟨rfl, below_then (below_alloc (Below.refl _ w) (.cells (nums .u8 bs).toArray 22)) (by simp) HBE.out⟩
theorem wf_u16 {n : Int} (h : (Lit.int .u16 n).wf = true) : ∃ p : Nat, n = p ∧ p ≤ 65535 := by
  simp [Lit.wf, IntKind.min, IntKind.max, IntKind.signed, IntKind.bits] at h
  exact ⟨n.toNat, by omega, by omega⟩
theorem wf_u8 {n : Int} (h : (Lit.int .u8 n).wf = true) : ∃ p : Nat, n = p ∧ p ≤ 255 := by
  simp [Lit.wf, IntKind.min, IntKind.max, IntKind.signed, IntKind.bits] at h
  exact ⟨n.toNat, by omega, by omega⟩
theorem any_row (x y : Int) (A : Option Addr) (k c : Nat) (ls : List (List Int)) (bs : List Int) (w : World) (hx : (Lit.int .u16 x).wf = true) (hy : (Lit.int .u8 y).wf = true) (hs : SumsC w A k ls) (hc : k ≤ c) (hl : bs.length = 32) (hb : ∀ x ∈ bs, (Lit.int .u8 x).wf = true) :
    Calls Try.prog 4 #[.int .u16 x, .int .u8 y, .slice A k c, .agg (nums .u8 bs).toArray] w fun e w' => e = .returned (.bool true) ∧ Below w.heap.size w w' := by
  obtain ⟨p, rfl, hp⟩ := wf_u16 hx
  obtain ⟨q, rfl, hq⟩ := wf_u8 hy
  exact any_law p q hp hq A k c ls bs w hs hl hb
end Go.Proofs.Ytnpcngnmjbhhaaa.BlZ
