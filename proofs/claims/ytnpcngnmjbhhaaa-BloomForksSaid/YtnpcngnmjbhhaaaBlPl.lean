/- A script of deeds played on both summaries: they stay alike; condition: each sum is 32 bytes. -/
import Derived.Test.YtnpcngnmjbhhaaaBlDo
namespace Go.Proofs.Ytnpcngnmjbhhaaa.BlPl
open Go Go.RowKit Go.Proofs.YtnpcngnmjbhhaaaW.PrintWords Go.Proofs.Ytnpcngnmjbhhaaa.K Go.Proofs.Ytnpcngnmjbhhaaa.OctS Go.Proofs.Ytnpcngnmjbhhaaa.OctP Go.Proofs.Ytnpcngnmjbhhaaa.BlS Go.Proofs.Ytnpcngnmjbhhaaa.BlP Go.Proofs.Ytnpcngnmjbhhaaa.BlC Go.Proofs.Ytnpcngnmjbhhaaa.BlD Go.Proofs.Ytnpcngnmjbhhaaa.BlN Go.Proofs.Ytnpcngnmjbhhaaa.BlF Go.Proofs.Ytnpcngnmjbhhaaa.BlG Go.Proofs.Ytnpcngnmjbhhaaa.BlH Go.Proofs.Ytnpcngnmjbhhaaa.BlI Go.Proofs.Ytnpcngnmjbhhaaa.BlW Go.Proofs.Ytnpcngnmjbhhaaa.BlO Go.Proofs.Ytnpcngnmjbhhaaa.BlQ Go.Proofs.Ytnpcngnmjbhhaaa.BlR Go.Proofs.Ytnpcngnmjbhhaaa.BlA Go.Proofs.Ytnpcngnmjbhhaaa.BlHs Go.Proofs.Ytnpcngnmjbhhaaa.BlL Go.Proofs.Ytnpcngnmjbhhaaa.BlX Go.Proofs.Ytnpcngnmjbhhaaa.BlY Go.Proofs.Ytnpcngnmjbhhaaa.BlZ Go.Proofs.Ytnpcngnmjbhhaaa.BlDo Go.Proofs.Ytnpcngnmjbhhaaa.Oct
set_option linter.unusedVariables false
set_option linter.unusedSimpArgs false
theorem infoDeed0 : (Try.prog.info? 50).map (·.size) = some 34 := by kernel_rfl
theorem infoDeed (d : Deed) (h : d.s.length = 32) : (Try.prog.info? 50).map (·.size) = some d.cells.length := by
  rw [Deed.cells_len h]
  exact infoDeed0
set_option maxHeartbeats 8000000 in
theorem play_calls (p q a b m : Nat) (hp : p ≤ 65535) (hq : q ≤ 255) (hae : a = 1 + p % 300) (hbe : b = 1 + q % 8) (hm : m = (a + 63) / 64) (A : Option Addr) (k c : Nat) (ds : List Deed) (w : World) (hs : DeedsC w A k ds) :
    Calls Try.prog 17 #[.int .u16 p, .int .u8 q, .slice A k c] w fun e w' => ∃ gx gy vx vy on, e = .returned (.tuple #[.pointer (some ⟨gx, 0, none⟩), .pointer (some ⟨gy, 0, none⟩), .bool true]) ∧ Pair w' w.heap.size gx gy a b m vx vy on ∧ Below w.heap.size w w' := by
  have SZ := Aside0.mk (fun W => size_law p q hp hq W)
  rw [← hae, ← hbe] at SZ
  have HK := Aside0.mk (show okF a b from by unfold okF; omega)
  have HA := Aside0.mk (show a ≤ 300 from by omega)
  have HMM := Aside0.mk hm
  have HM := Aside0.mk (show m ≤ 100000 ∧ 0 < m ∧ a ≤ 64 * m from by omega)
  have HU := Aside0.mk Try.underlying50
  have HS := Aside0.mk hs
  have hkl := hs.lim
  clear hp hq hae hbe hm hs
  go_enter Try.func17, Try.ntmps17
  go_wp2_with fail
  refine (SZ.out _).mono ?_
  rintro e W0 ⟨rfl, rfl⟩
  go_wp2_with fail
  refine (new_two a b HK.out _).mono ?_
  rintro e W1 ⟨g1, v1, rfl, hf1, hb1⟩
  rw [← HMM.out] at hf1
  have HF1 := Aside0.mk hf1
  have HB1 := Aside0.mk hb1
  clear hf1 hb1
  go_wp2_with fail
  refine (rnew_yes a b HK.out _).mono ?_
  rintro e W2 ⟨g2, rfl, hf2, hb2⟩
  have HP2 := Aside0.mk (show Pair W2 w.heap.size g1 g2 a b m v1 (.slice none 0 0) [] from ⟨bf_below HF1.out hb2, rf_lower hf2 HB1.out.size, good_nil a⟩)
  have HB2 := Aside0.mk (below_then HB1.out HB1.out.size hb2)
  clear hf2 hb2
  go_wp2_with fail
  go_loopg [15] (81) (fun gk v15 wr => ∃ (i : Nat) (vy : Value) (on : List Int), v15 = .int .i64 i ∧ i ≤ k ∧ i ≤ 80 ∧ Aside0 (gk = 80 - i + 1) ∧ Aside0 (Pair wr w.heap.size g1 g2 a b m v1 vy on) ∧ Aside0 (Below w.heap.size w wr))
  case atStart => exact ⟨0, _, [], rfl, Nat.zero_le _, by omega, ⟨rfl⟩, HP2, HB2⟩
  case round =>
    obtain ⟨i, vy, on, rfl, hi, hi80, HG, HP, HB⟩ := hrel
    by_cases hlt : i < k
    · have h1 : decide ((i : Int) < (k : Int)) = true := by simp; omega
      by_cases hlt2 : i < 80
      · have h2 : decide ((i : Int) < 80) = true := by simp; omega
        obtain ⟨ad, hA⟩ := HS.out.is (by omega)
        subst hA
        have hp1 : (0 : Int) ≤ (i : Int) := by omega
        have hp2 : (i : Int) < (k : Int) := by omega
        have hok0 : (ds.getD i default).Ok w := HS.out.each _ (by
          have : i < ds.length := by rw [HS.out.len]; exact hlt
          simp [this])
        have HOK := Aside0.mk hok0
        have HRA := Aside0.mk (HS.out.cells ad rfl i hlt)
        have HI := Aside0.mk (infoDeed _ hok0.len)
        clear hok0
        generalize ds.getD i default = d at *
        go_wp2_with fail
        (refine Hd.startE (S := (fun w' => Below w.heap.size w w')) 1000 (by kernel_rfl) (below_drew1 HB.out) (fun hHeld => ?_))
        (refine Hd.takeE (i := 0) (v := ?_) rfl rfl (by kernel_rfl) (by kernel_rfl) (by kernel_rfl) (by kernel_rfl) (fun _ _ _ h => h) (Or.inl ⟨by rfl, ?_⟩) (by assumption) ?_; rotate_left; (focus (intro wS hS; (try go_split_ands); go_simp; all_goals (with_reducible rfl))); simp only [List.set_cons_zero, List.set_cons_succ, List.setIfInBounds_toArray]); (refine Hd.takeE (i := 1) (v := ?_) rfl rfl (by kernel_rfl) (by kernel_rfl) (by kernel_rfl) (by kernel_rfl) (fun _ _ _ h => h) (Or.inl ⟨by rfl, ?_⟩) (by assumption) ?_; rotate_left; (focus (intro wS hS; (try go_split_ands); go_simp; all_goals (with_reducible rfl))); simp only [List.set_cons_zero, List.set_cons_succ, List.setIfInBounds_toArray]); (refine Hd.takeE (i := 2) (v := ?_) rfl rfl (by kernel_rfl) (by kernel_rfl) (by kernel_rfl) (by kernel_rfl) (fun _ _ _ h => h) (Or.inl ⟨by rfl, ?_⟩) (by assumption) ?_; rotate_left; (focus (intro wS hS; (try go_split_ands); go_simp; all_goals (with_reducible rfl))); simp only [List.set_cons_zero, List.set_cons_succ, List.setIfInBounds_toArray]); (refine Hd.takeE (i := 3) (v := ?_) rfl rfl (by kernel_rfl) (by kernel_rfl) (by kernel_rfl) (by kernel_rfl) (fun _ _ _ h => h) (Or.inl ⟨by rfl, ?_⟩) (by assumption) ?_; rotate_left; (focus (intro wS hS; (try go_split_ands); go_simp; all_goals (with_reducible rfl))); simp only [List.set_cons_zero, List.set_cons_succ, List.setIfInBounds_toArray]); (refine Hd.takeE (i := 4) (v := ?_) rfl rfl (by kernel_rfl) (by kernel_rfl) (by kernel_rfl) (by kernel_rfl) (fun _ _ _ h => h) (Or.inl ⟨by rfl, ?_⟩) (by assumption) ?_; rotate_left; (focus (intro wS hS; (try go_split_ands); go_simp; all_goals (with_reducible rfl))); simp only [List.set_cons_zero, List.set_cons_succ, List.setIfInBounds_toArray])
        (refine Hd.takeE (i := 5) rfl rfl (by kernel_rfl) (by kernel_rfl) (by kernel_rfl) (by kernel_rfl) (fun _ _ _ h => h) (Hd.yieldsIf_load_any (by rfl) 50 _ rfl _ rfl d.cells _ (fun wS hS => HRA.out.below hS) HU.out rfl HI.out) (by assumption) ?_; simp only [List.set_cons_zero, List.set_cons_succ, List.setIfInBounds_toArray])
        have HPD := Aside0.mk (HP.out.below (below_drew1 (Below.refl _ wr)))
        have HDO := Aside0.mk (do_calls wr.drew w.heap.size g1 g2 a b m v1 vy on d HPD.out HK.out HA.out HMM.out (HOK.out.below hHeld))
        (refine Hd.readyE (rs := [6]) (by kernel_rfl) (by simp) ?_; refine Hd.AllE.cons (i := 6) rfl (fun K hK => ?_) Hd.AllE.nil; (go_simp; refine HDO.out.mono ?_; rintro e W6 ⟨vy', on', rfl, hP, hT, _⟩); refine hK.out _ _ (hT.below hHeld hHeld.size HPD.out.y.ge (fun k hk => own_ge HPD.out.x k hk)) (fun hHeld => ?_); clear hK K; (try simp only [Act.put, List.setIfInBounds_toArray, List.set_cons_zero, List.set_cons_succ]))
        have hgl := good_len hP.good
        obtain ⟨Ay, cy, hvy, _, _⟩ := Kd.R_reads hP.y.row
        subst hvy
        have hc2 := obj_cell (v := .slice Ay on'.length cy) hP.y.blk 2 rfl
        have hon := ones_f W6 w.heap.size g1 a b v1 on' m hP.x (by have := HM.out; omega)
        rw [sm_good hP.good HM.out.2.2] at hon
        have HON := Aside0.mk hon
        have HPX := Aside0.mk hP
        clear hon hT hgl
        generalize hvq : Value.slice Ay on'.length cy = vy' at hP HPX
        subst hvq
        (refine Hd.takeE (i := 7) (v := ?_) rfl rfl (by kernel_rfl) (by kernel_rfl) (by kernel_rfl) (by kernel_rfl) (fun _ _ _ h => h) (Or.inl ⟨by rfl, ?_⟩) (by assumption) ?_; rotate_left; (focus (intro wS hS; (try go_split_ands); go_simp; all_goals (with_reducible rfl))); simp only [List.set_cons_zero, List.set_cons_succ, List.setIfInBounds_toArray]); (refine Hd.takeE (i := 8) (v := ?_) rfl rfl (by kernel_rfl) (by kernel_rfl) (by kernel_rfl) (by kernel_rfl) (fun _ _ _ h => h) (Or.inl ⟨by rfl, ?_⟩) (by assumption) ?_; rotate_left; (focus (intro wS hS; (try go_split_ands); go_simp; all_goals (with_reducible rfl))); simp only [List.set_cons_zero, List.set_cons_succ, List.setIfInBounds_toArray]); (refine Hd.takeE (i := 9) (v := ?_) rfl rfl (by kernel_rfl) (by kernel_rfl) (by kernel_rfl) (by kernel_rfl) (fun _ _ _ h => h) (Or.inl ⟨by rfl, ?_⟩) (by assumption) ?_; rotate_left; (focus (intro wS hS; (try go_split_ands); go_simp; all_goals (with_reducible rfl))); simp only [List.set_cons_zero, List.set_cons_succ, List.setIfInBounds_toArray]); (refine Hd.takeE (i := 11) (v := ?_) rfl rfl (by kernel_rfl) (by kernel_rfl) (by kernel_rfl) (by kernel_rfl) (fun _ _ _ h => h) (Or.inl ⟨by rfl, ?_⟩) (by assumption) ?_; rotate_left; (focus (intro wS hS; (try go_split_ands); go_simp; all_goals (with_reducible rfl))); simp only [List.set_cons_zero, List.set_cons_succ, List.setIfInBounds_toArray]); (refine Hd.takeE (i := 12) (v := ?_) rfl rfl (by kernel_rfl) (by kernel_rfl) (by kernel_rfl) (by kernel_rfl) (fun _ _ _ h => h) (Or.inl ⟨by rfl, ?_⟩) (by assumption) ?_; rotate_left; (focus (intro wS hS; (try go_split_ands); go_simp; all_goals (with_reducible rfl))); simp only [List.set_cons_zero, List.set_cons_succ, List.setIfInBounds_toArray]); (refine Hd.takeE (i := 13) (v := ?_) rfl rfl (by kernel_rfl) (by kernel_rfl) (by kernel_rfl) (by kernel_rfl) (fun _ _ _ h => h) (Or.inl ⟨by rfl, ?_⟩) (by assumption) ?_; rotate_left; (focus (intro wS hS; (try go_split_ands); go_simp; all_goals (with_reducible rfl))); simp only [List.set_cons_zero, List.set_cons_succ, List.setIfInBounds_toArray])
        (refine Hd.readyE (rs := [10, 14]) (by kernel_rfl) (by simp) ?_; refine Hd.AllE.cons (i := 10) rfl (fun K hK => ?_) (Hd.AllE.cons (i := 14) rfl (fun K hK => ?_) (Hd.AllE.nil)))
        · ((go_simp; refine HON.out.mono ?_; rintro e W7 ⟨rfl, rfl⟩); refine hK.out _ _ (hHeld) (fun hHeld => ?_); clear hK K; (try simp only [Act.put, List.setIfInBounds_toArray, List.set_cons_zero, List.set_cons_succ]))
          (refine Hd.readyE (rs := [14]) (by kernel_rfl) (by simp) ?_; refine Hd.AllE.cons (i := 14) rfl (fun K hK => ?_) Hd.AllE.nil; go_simp; refine hK.out _ _ (hHeld) (fun hHeld => ?_); clear hK K; (try simp only [Act.put, List.setIfInBounds_toArray, List.set_cons_zero, List.set_cons_succ]))
          (refine Hd.takeE (i := 15) (v := ?_) rfl rfl (by kernel_rfl) (by kernel_rfl) (by kernel_rfl) (by kernel_rfl) (fun _ _ _ h => h) (Or.inl ⟨by rfl, ?_⟩) (by assumption) ?_; rotate_left; (focus (intro wS hS; (try go_split_ands); go_simp; all_goals (with_reducible rfl))); simp only [List.set_cons_zero, List.set_cons_succ, List.setIfInBounds_toArray]); (refine Hd.takeE (i := 16) (v := ?_) rfl rfl (by kernel_rfl) (by kernel_rfl) (by kernel_rfl) (by kernel_rfl) (fun _ _ _ h => h) (Or.inl ⟨by rfl, ?_⟩) (by assumption) ?_; rotate_left; (focus (intro wS hS; (try go_split_ands); go_simp; all_goals (with_reducible rfl))); simp only [List.set_cons_zero, List.set_cons_succ, List.setIfInBounds_toArray]); (refine Hd.takeE (i := 17) (v := ?_) rfl rfl (by kernel_rfl) (by kernel_rfl) (by kernel_rfl) (by kernel_rfl) (fun _ _ _ h => h) (Or.inl ⟨by rfl, ?_⟩) (by assumption) ?_; rotate_left; (focus (intro wS hS; (try go_split_ands); go_simp; all_goals (with_reducible rfl))); simp only [List.set_cons_zero, List.set_cons_succ, List.setIfInBounds_toArray])
          (refine Hd.endE (by kernel_rfl) ?_ _)
          have HQ := Aside0.mk hP
          have HBQ := Aside0.mk hHeld
          clear hHeld hP hc2
          go_wp2
          go_roundg (80 - (i + 1) + 1)
          case measure => have := HG.out; omega
          case rel => exact ⟨i + 1, _, on', by go_num, by omega, by omega, ⟨rfl⟩, HQ, HBQ⟩
        · (go_simp; refine hK.out _ _ (hHeld) (fun hHeld => ?_); clear hK K; (try simp only [Act.put, List.setIfInBounds_toArray, List.set_cons_zero, List.set_cons_succ]))
          (refine Hd.takeE (i := 15) (v := ?_) rfl rfl (by kernel_rfl) (by kernel_rfl) (by kernel_rfl) (by kernel_rfl) (fun _ _ _ h => h) (Or.inl ⟨by rfl, ?_⟩) (by assumption) ?_; rotate_left; (focus (intro wS hS; (try go_split_ands); go_simp; all_goals (with_reducible rfl))); simp only [List.set_cons_zero, List.set_cons_succ, List.setIfInBounds_toArray])
          (refine Hd.readyE (rs := [10]) (by kernel_rfl) (by simp) ?_; refine Hd.AllE.cons (i := 10) rfl (fun K hK => ?_) Hd.AllE.nil; (go_simp; refine HON.out.mono ?_; rintro e W7 ⟨rfl, rfl⟩); refine hK.out _ _ (hHeld) (fun hHeld => ?_); clear hK K; (try simp only [Act.put, List.setIfInBounds_toArray, List.set_cons_zero, List.set_cons_succ]))
          (refine Hd.takeE (i := 16) (v := ?_) rfl rfl (by kernel_rfl) (by kernel_rfl) (by kernel_rfl) (by kernel_rfl) (fun _ _ _ h => h) (Or.inl ⟨by rfl, ?_⟩) (by assumption) ?_; rotate_left; (focus (intro wS hS; (try go_split_ands); go_simp; all_goals (with_reducible rfl))); simp only [List.set_cons_zero, List.set_cons_succ, List.setIfInBounds_toArray]); (refine Hd.takeE (i := 17) (v := ?_) rfl rfl (by kernel_rfl) (by kernel_rfl) (by kernel_rfl) (by kernel_rfl) (fun _ _ _ h => h) (Or.inl ⟨by rfl, ?_⟩) (by assumption) ?_; rotate_left; (focus (intro wS hS; (try go_split_ands); go_simp; all_goals (with_reducible rfl))); simp only [List.set_cons_zero, List.set_cons_succ, List.setIfInBounds_toArray])
          (refine Hd.endE (by kernel_rfl) ?_ _)
          have HQ := Aside0.mk hP
          have HBQ := Aside0.mk hHeld
          clear hHeld hP hc2
          go_wp2
          go_roundg (80 - (i + 1) + 1)
          case measure => have := HG.out; omega
          case rel => exact ⟨i + 1, _, on', by go_num, by omega, by omega, ⟨rfl⟩, HQ, HBQ⟩
      · have h2 : decide ((i : Int) < 80) = false := by simp; omega
        go_wp2
        go_ret3
        exact ⟨g1, g2, v1, vy, on, rfl, HP.out, HB.out⟩
    · have h1 : decide ((i : Int) < (k : Int)) = false := by simp; omega
      go_wp2
      go_ret3
      exact ⟨g1, g2, v1, vy, on, rfl, HP.out, HB.out⟩
end Go.Proofs.Ytnpcngnmjbhhaaa.BlPl
