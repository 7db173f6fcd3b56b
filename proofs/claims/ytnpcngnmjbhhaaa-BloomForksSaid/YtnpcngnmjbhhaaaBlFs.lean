/- The law BloomFinds: whoever was added is found till it is cleared; condition: each sum is 32 bytes. -/
import Derived.Test.YtnpcngnmjbhhaaaBlPs
namespace Go.Proofs.Ytnpcngnmjbhhaaa.BlFs
open Go Go.RowKit Go.Proofs.YtnpcngnmjbhhaaaW.PrintWords Go.Proofs.Ytnpcngnmjbhhaaa.K Go.Proofs.Ytnpcngnmjbhhaaa.OctS Go.Proofs.Ytnpcngnmjbhhaaa.OctP Go.Proofs.Ytnpcngnmjbhhaaa.BlS Go.Proofs.Ytnpcngnmjbhhaaa.BlP Go.Proofs.Ytnpcngnmjbhhaaa.BlC Go.Proofs.Ytnpcngnmjbhhaaa.BlD Go.Proofs.Ytnpcngnmjbhhaaa.BlN Go.Proofs.Ytnpcngnmjbhhaaa.BlF Go.Proofs.Ytnpcngnmjbhhaaa.BlG Go.Proofs.Ytnpcngnmjbhhaaa.BlH Go.Proofs.Ytnpcngnmjbhhaaa.BlI Go.Proofs.Ytnpcngnmjbhhaaa.BlW Go.Proofs.Ytnpcngnmjbhhaaa.BlO Go.Proofs.Ytnpcngnmjbhhaaa.BlQ Go.Proofs.Ytnpcngnmjbhhaaa.BlR Go.Proofs.Ytnpcngnmjbhhaaa.BlA Go.Proofs.Ytnpcngnmjbhhaaa.BlHs Go.Proofs.Ytnpcngnmjbhhaaa.BlL Go.Proofs.Ytnpcngnmjbhhaaa.BlX Go.Proofs.Ytnpcngnmjbhhaaa.BlY Go.Proofs.Ytnpcngnmjbhhaaa.BlZ Go.Proofs.Ytnpcngnmjbhhaaa.BlDo Go.Proofs.Ytnpcngnmjbhhaaa.BlPl Go.Proofs.Ytnpcngnmjbhhaaa.BlPs Go.Proofs.Ytnpcngnmjbhhaaa.Oct
set_option linter.unusedVariables false
set_option linter.unusedSimpArgs false
set_option maxHeartbeats 8000000 in
theorem finds_law (p q : Nat) (hp : p ≤ 65535) (hq : q ≤ 255) (A : Option Addr) (k c : Nat) (ds : List Deed) (bs : List Int) (A2 : Option Addr) (k2 c2 : Nat) (ds2 : List Deed) (w : World) (hs : DeedsC w A k ds) (hl : bs.length = 32) (hx : ∀ x ∈ bs, (Lit.int .u8 x).wf = true) (hs2 : DeedsC w A2 k2 ds2) :
    Calls Try.prog 6 #[.int .u16 p, .int .u8 q, .slice A k c, .agg (nums .u8 bs).toArray, .slice A2 k2 c2] w fun e w' => e = .returned (.bool true) ∧ Below w.heap.size w w' := by
  obtain ⟨a, ha⟩ : ∃ a, a = 1 + p % 300 := ⟨_, rfl⟩
  obtain ⟨b, hb⟩ : ∃ b, b = 1 + q % 8 := ⟨_, rfl⟩
  obtain ⟨m, hm⟩ : ∃ m, m = (a + 63) / 64 := ⟨_, rfl⟩
  have HK := Aside0.mk (show okF a b from by unfold okF; omega)
  have HMM := Aside0.mk hm
  have HM := Aside0.mk (show a ≤ 300 ∧ 0 < m from by omega)
  have HL := Aside0.mk hl
  have HY := Aside0.mk (bytes_wf hx)
  have HU := Aside0.mk Try.underlying22
  have HI := Aside0.mk (infoSum bs hl)
  have HUD := Aside0.mk Try.underlying50
  have HR := Aside0.mk (range_new w (nums .u8 bs) 22)
  have HPL := Aside0.mk (play_calls p q a b m hp hq ha hb hm A k c ds (w.alloc (.cells (nums .u8 bs).toArray 22)) (hs.below (below_alloc (Below.refl _ w) _)))
  have HS2 := Aside0.mk (hs2.below (below_alloc (Below.refl _ w) (.cells (nums .u8 bs).toArray 22)))
  have hkl := hs2.lim
  clear hp hq ha hb hm hs hl hx hs2
  go_enter Try.func6, Try.ntmps6
  go_wp2_with fail
  rename_i K1 h1 K0 h0
  refine HPL.out.mono ?_
  rintro e W1 ⟨gx, gy, vx, vy, on, rfl, hP, hB⟩
  have HP := Aside0.mk hP
  have HB := Aside0.mk hB
  have HRW := Aside0.mk (range_below HR.out hB)
  have HGL := Aside0.mk (good_len hP.good)
  have HA := Aside0.mk (add_calls W1 _ gx a b vx on m bs hP.x HK.out HMM.out HL.out HY.out)
  clear hP hB
  refine h0 _ _ ?_
  clear h0 K0
  iterate 7 (refine wpList_step (fun K hK => ?_); go_simp; refine hK _ _ ?_; clear hK K)
  refine wpList_nil ?_
  refine h1 _ _ ?_
  clear h1 K1
  repeat (refine wp_seq_k (fun K2 h2 => ?_))
  refine wp_region_lit ?_
  iterate 4 (refine wpList_step (fun K hK => ?_); go_simp; refine hK _ _ ?_; clear hK K)
  (refine wpList_step (fun K hK => ?_); refine Hd.load_wanted (by rfl) _ (.tmp 8) rfl w.heap.size 0 rfl (nums .u8 bs) _ (HRW.out) HU.out rfl HI.out ?_; refine hK _ _ ?_; clear hK K; (try simp only [Act.put, List.setIfInBounds_toArray, List.set_cons_zero, List.set_cons_succ]))
  (refine wpList_step (fun K hK => ?_); go_simp; refine HA.out.mono ?_; rintro e W2 ⟨rfl, hf2, hg2⟩; refine hK _ _ ?_; clear hK K; (try simp only [Act.put, List.setIfInBounds_toArray, List.set_cons_zero, List.set_cons_succ]))
  have HF2 := Aside0.mk hf2
  have HY2 := Aside0.mk (rf_words HP.out.y HP.out.x (by rw [wordsOf_len]; exact HM.out.2) hg2)
  have HT2 := Aside0.mk (Tch.of_x gy hg2)
  have HB2 := Aside0.mk (HT2.out.below HB.out HB.out.size HP.out.y.ge (fun k hk => own_ge HP.out.x k hk))
  have HR2 := Aside0.mk (range_below HR.out HB2.out)
  have hra := radd_calls W2 _ gy a b vy on bs HY2.out HL.out HY.out (by have := HGL.out; have := HM.out; omega)
  rw [layL_eq] at hra
  have HRA := Aside0.mk hra
  clear hf2 hg2 hra
  iterate 2 (refine wpList_step (fun K hK => ?_); go_simp; refine hK _ _ ?_; clear hK K)
  refine wpList_nil ?_
  go_wp2_with ((with_reducible refine gate_ (.load 22 (.tmp 8)) rfl ?_); refine wpList_load_mid rfl _ (.tmp 8) rfl w.heap.size 0 rfl (nums .u8 bs) _ HR2.out HU.out rfl HI.out ?_)
  refine HRA.out.mono ?_
  rintro e W3 ⟨vy', rfl, hf3, hg3⟩
  have HP3 := Aside0.mk (show Pair W3 _ gx gy a b m vx vy' (BlW.lay on (plL bs a b)) from ⟨bf_ref HF2.out HY2.out hg3, hf3, good_lay _ HP.out.good (plL_good bs a b HK.out)⟩)
  have HB3 := Aside0.mk ((Tch.of_y vx hg3).below HB2.out HB2.out.size HP.out.y.ge (fun k hk => own_ge HF2.out k hk))
  have HIN3 : Aside0 (∀ p, p ∈ plL bs a b → (BlW.lay on (plL bs a b)).contains p = true) := ⟨fun p hp => by rw [lay_contains]; simp [hp]⟩
  clear hf3 hg3
  generalize BlW.lay on (plL bs a b) = on3 at HP3 HIN3
  go_wp2_with fail
  go_loopg [14] (61) (fun gk v14 wr => ∃ (i : Nat) (vy : Value) (on : List Int), v14 = .int .i64 i ∧ i ≤ k2 ∧ i ≤ 60 ∧ Aside0 (gk = 60 - i + 1) ∧ Aside0 (Pair wr (w.alloc (.cells (nums .u8 bs).toArray 22)).heap.size gx gy a b m vx vy on) ∧ Aside0 (Below (w.alloc (.cells (nums .u8 bs).toArray 22)).heap.size (w.alloc (.cells (nums .u8 bs).toArray 22)) wr) ∧ Aside0 (∀ p, p ∈ plL bs a b → on.contains p = true))
  case atStart => exact ⟨0, _, _, rfl, Nat.zero_le _, by omega, ⟨rfl⟩, HP3, HB3, HIN3⟩
  case round =>
    clear HP HB HGL HA HRW HF2 HY2 HT2 HB2 HR2 HRA HP3 HB3 HIN3
    obtain ⟨i, vy, on, rfl, hi, hi60, HG, HP, HB, HIN⟩ := hrel
    have HRW := Aside0.mk (range_below HR.out HB.out)
    by_cases hlt : i < k2
    · have g1 : decide ((i : Int) < (k2 : Int)) = true := by simp; omega
      by_cases hlt2 : i < 60
      · have g2 : decide ((i : Int) < 60) = true := by simp; omega
        obtain ⟨ad, hA⟩ := HS2.out.is (by omega)
        subst hA
        have hp1 : (0 : Int) ≤ (i : Int) := by omega
        have hp2 : (i : Int) < (k2 : Int) := by omega
        have hok0 : (ds2.getD i default).Ok wr := (HS2.out.below HB.out).each _ (by
          have : i < ds2.length := by rw [HS2.out.len]; exact hlt
          simp [this])
        have HOK := Aside0.mk hok0
        have hra := (HS2.out.below HB.out).cells ad rfl i hlt
        have HRA := Aside0.mk hra
        have HID := Aside0.mk (infoDeed _ hok0.len)
        have hc0 : wr.cell? (ad.add (i * 34)) = some (.int .i64 (ds2.getD i default).op) := by
          have h := hra 0 _ (show (ds2.getD i default).cells[0]? = some _ from rfl)
          simpa [Addr.add] using h
        clear hok0 hra
        have HDO := Aside0.mk (do_calls wr _ gx gy a b m vx vy on _ HP.out HK.out HM.out.1 HMM.out HOK.out)
        generalize ds2.getD i default = d at *
        generalize hop : d.op = op at *
        have HOP := Aside0.mk hop
        clear hop
        by_cases o2 : op = 2
        · subst o2
          go_wp2
          go_roundg (60 - (i + 1) + 1)
          case measure => have := HG.out; omega
          case rel => exact ⟨i + 1, vy, on, by go_num, by omega, by omega, ⟨rfl⟩, HP, HB, HIN⟩
        · have q2 : (op == 2) = false := by simpa using o2
          have q3 : (op != 2) = true := by simpa using o2
          go_wp2_with ((with_reducible refine gate_ (.load 3 (.tmp 47)) rfl ?_); (iterate 8 (refine wpList_step (fun K hK => ?_); go_simp; refine hK _ _ ?_; clear hK K)); (refine wpList_step (fun K hK => ?_); refine Hd.load_wanted_any (by rfl) _ (.tmp 55) rfl _ rfl d.cells _ HRA.out HUD.out rfl HID.out ?_; refine hK _ _ ?_; clear hK K; (try simp only [Act.put, List.setIfInBounds_toArray, List.set_cons_zero, List.set_cons_succ])))
          refine HDO.out.mono ?_
          rintro e W6 ⟨vy', on', rfl, hP, hT, hM⟩
          have HP6 := Aside0.mk hP
          have HB6 := Aside0.mk (hT.below HB.out HB.out.size HP.out.y.ge (fun k hk => own_ge HP.out.x k hk))
          have HIN6 : Aside0 (∀ p, p ∈ plL bs a b → on'.contains p = true) := ⟨fun p hp => hM o2 p (HIN.out p hp)⟩
          clear hP hT hM
          go_wp2
          go_roundg (60 - (i + 1) + 1)
          case measure => have := HG.out; omega
          case rel => exact ⟨i + 1, vy', on', by go_num, by omega, by omega, ⟨rfl⟩, HP6, HB6, HIN6⟩
      · have g2 : decide ((i : Int) < 60) = false := by simp; omega
        go_wp2_with fail
        rename_i K1 h1 K0 h0
        refine (live_calls _).mono ?_
        rintro e W7 ⟨rfl, hb7⟩
        refine h0 _ _ ?_
        iterate 2 (refine wpList_step (fun K hK => ?_); go_simp; refine hK _ _ ?_; clear hK K)
        (refine wpList_step (fun K hK => ?_); refine Hd.load_wanted (by rfl) _ (.tmp 8) rfl w.heap.size 0 rfl (nums .u8 bs) _ (range_below HRW.out hb7) HU.out rfl HI.out ?_; refine hK _ _ ?_; clear hK K; (try simp only [Act.put, List.setIfInBounds_toArray, List.set_cons_zero, List.set_cons_succ]))
        clear h0 K0
        have hh := has_calls W7 _ gx a b vx on m bs (HP.out.below hb7).x HK.out HMM.out HL.out HY.out
        rw [all_has _ on HIN.out] at hh
        have HH := Aside0.mk hh
        have HB7 := Aside0.mk (below_then HB.out HB.out.size hb7)
        clear hh hb7
        go_wp2_with fail
        refine HH.out.mono ?_
        rintro e W8 ⟨rfl, hb8⟩
        have HB8 := Aside0.mk (below_then HB7.out HB7.out.size hb8)
        clear hb8
        go_wp2
        go_ret
        exact ⟨rfl, below_then (below_alloc (Below.refl _ w) (.cells (nums .u8 bs).toArray 22)) (by simp) HB8.out⟩
    · have g1 : decide ((i : Int) < (k2 : Int)) = false := by simp; omega
      go_wp2_with fail
      rename_i K1 h1 K0 h0
      refine (live_calls _).mono ?_
      rintro e W7 ⟨rfl, hb7⟩
      refine h0 _ _ ?_
      iterate 2 (refine wpList_step (fun K hK => ?_); go_simp; refine hK _ _ ?_; clear hK K)
      (refine wpList_step (fun K hK => ?_); refine Hd.load_wanted (by rfl) _ (.tmp 8) rfl w.heap.size 0 rfl (nums .u8 bs) _ (range_below HRW.out hb7) HU.out rfl HI.out ?_; refine hK _ _ ?_; clear hK K; (try simp only [Act.put, List.setIfInBounds_toArray, List.set_cons_zero, List.set_cons_succ]))
      clear h0 K0
      have hh := has_calls W7 _ gx a b vx on m bs (HP.out.below hb7).x HK.out HMM.out HL.out HY.out
      rw [all_has _ on HIN.out] at hh
      have HH := Aside0.mk hh
      have HB7 := Aside0.mk (below_then HB.out HB.out.size hb7)
      clear hh hb7
      go_wp2_with fail
      refine HH.out.mono ?_
      rintro e W8 ⟨rfl, hb8⟩
      have HB8 := Aside0.mk (below_then HB7.out HB7.out.size hb8)
      clear hb8
      go_wp2
      go_ret
      exact ⟨rfl, below_then (below_alloc (Below.refl _ w) (.cells (nums .u8 bs).toArray 22)) (by simp) HB8.out⟩
theorem finds_row (x y : Int) (A : Option Addr) (k c : Nat) (ds : List Deed) (bs : List Int) (A2 : Option Addr) (k2 c2 : Nat) (ds2 : List Deed) (w : World) (hx : (Lit.int .u16 x).wf = true) (hy : (Lit.int .u8 y).wf = true) (hs : DeedsC w A k ds) (hc : k ≤ c) (hl : bs.length = 32) (hb : ∀ x ∈ bs, (Lit.int .u8 x).wf = true) (hs2 : DeedsC w A2 k2 ds2) (hc2 : k2 ≤ c2) :
    Calls Try.prog 6 #[.int .u16 x, .int .u8 y, .slice A k c, .agg (nums .u8 bs).toArray, .slice A2 k2 c2] w fun e w' => e = .returned (.bool true) ∧ Below w.heap.size w w' := by
  obtain ⟨p, rfl, hp⟩ := wf_u16 hx
  obtain ⟨q, rfl, hq⟩ := wf_u8 hy
  exact finds_law p q hp hq A k c ds bs A2 k2 c2 ds2 w hs hl hb hs2
end Go.Proofs.Ytnpcngnmjbhhaaa.BlFs
