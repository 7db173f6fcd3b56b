/- The law SegmentHooks; condition: the refs read as refs. -/
import Derived.Test.YtkobolgbmfhpgaaSgHr
namespace Go.Proofs.Ytkobolgbmfhpgaa.SgL1
open Go Go.RowKit Go.Proofs.YtkobolgbmfhpgaaW.PrintWords Go.Proofs.Ytkobolgbmfhpgaa.K Go.Proofs.Ytkobolgbmfhpgaa.OctS Go.Proofs.Ytkobolgbmfhpgaa.OctP Go.Proofs.Ytkobolgbmfhpgaa.Oct Go.Proofs.Ytkobolgbmfhpgaa.ReR Go.Proofs.Ytkobolgbmfhpgaa.ReT Go.Proofs.Ytkobolgbmfhpgaa.ReK Go.Proofs.Ytkobolgbmfhpgaa.SgD Go.Proofs.Ytkobolgbmfhpgaa.SgM Go.Proofs.Ytkobolgbmfhpgaa.SgH Go.Proofs.Ytkobolgbmfhpgaa.SgE Go.Proofs.Ytkobolgbmfhpgaa.SgLv Go.Proofs.Ytkobolgbmfhpgaa.SgS Go.Proofs.Ytkobolgbmfhpgaa.SgHk Go.Proofs.Ytkobolgbmfhpgaa.SgHr
set_option linter.unusedVariables false
set_option linter.unusedSimpArgs false
set_option maxHeartbeats 8000000 in
set_option maxRecDepth 100000 in
theorem lawHooks_calls (A : Option Addr) (k c : Nat) (rs : List Ref) (rate : Int) (w : World) (h : RefsC w A k rs) : Calls Try.prog 4 #[.slice A k c, .int .i64 rate] w fun e w' =>
    e = .returned (.bool true) ∧ Below w.heap.size w w' := by
  have H := Aside0.mk h
  have hl : rs.length = k := h.len
  have hkm : k ≤ 9223372036854775807 := by have := h.lim; simp only [maxLen] at this; omega
  have HUS := Aside0.mk Try.underlying31
  have hsm := hooks_ok rate rs [] (fun r hr => h.each r hr) (fun s hs => by cases hs)
  change ∀ s ∈ hooksF rate rs, OkSum s at hsm
  have HH := Aside0.mk (hooks_calls A k c rs rate w h)
  have HR := Aside0.mk (fun W (hW : Below w.heap.size w W) => rhooks_calls A k c rs rate W (h.below hW))
  clear h
  generalize hooksF rate rs = out at *
  go_enter Try.func4, Try.ntmps4
  go_wp2_with (first
    | (go_at_call 13; (with_reducible refine (HH.out).mono ?_); rintro e w' ⟨v5, rfl, ho5, hb5⟩; obtain ⟨A5, c5, rfl, hl5, hr5⟩ := Kd.R_reads ho5; have HC5 := Aside0.mk hr5; have HB5 := Aside0.mk hb5; clear ho5 hr5 hb5)
    | (go_at_call 14; (with_reducible refine ((HR.out _ HB5.out)).mono ?_); rintro e w' ⟨v6, rfl, ho6, hb6⟩; obtain ⟨A6, c6, rfl, hl6, hr6⟩ := Kd.R_reads ho6; have HC6 := Aside0.mk hr6; have HB6 := Aside0.mk (below_then HB5.out HB5.out.size hb6); have HC5b := Aside0.mk (Kd.C_below HC5.out hb6); clear ho6 hr6 hb6))
  have hol : out.length ≤ 9223372036854775807 := by have := HC6.out.2.1; simpa [maxLen] using this
  go_loopg [7] (out.length + 1) (fun gk v7 wr => ∃ j : Nat, v7 = .int .i64 j ∧ j ≤ out.length ∧ Aside0 (gk = out.length - j + 1) ∧ Aside0 (Below w'.heap.size w' wr))
  case atStart => exact ⟨0, rfl, Nat.zero_le _, ⟨rfl⟩, ⟨Below.refl _ _⟩⟩
  case round =>
    obtain ⟨j, rfl, hj, HGI, HBI⟩ := hrel
    obtain ⟨wi, rfl⟩ : ∃ X : World, X = wr := ⟨_, rfl⟩
    by_cases hjl : j < out.length
    · have hj1 : decide ((j : Int) < (out.length : Int)) = true := by simp; omega
      have hq1 : (0 : Int) ≤ (j : Int) := by omega
      have hq2 : (j : Int) < (out.length : Int) := by omega
      obtain ⟨ad5, rfl, hok5, hr5⟩ := sm_at (Kd.C_below HC5b.out HBI.out) j hjl
      obtain ⟨ad6, rfl, hok6, hr6⟩ := sm_at (Kd.C_below HC6.out HBI.out) j hjl
      have HR5 := Aside0.mk hr5
      have HR6 := Aside0.mk hr6
      have HIM := Aside0.mk (infoSmS out[j] hok5)
      have heq := sm_neq out[j] hok5
      generalize hN : nums .u8 out[j] = N at *
      clear hr5 hr6 hok5 hok6 hN
      go_wp2_with fail
      (refine Hd.startE (S := (fun X => Hd.RangeA X (ad5.add (j * 32)) N ∧ Hd.RangeA X (ad6.add (j * 32)) N)) 1000 (by kernel_rfl) (⟨HR5.out, HR6.out⟩) (fun hHeld => ?_))
      (refine Hd.takeE (i := 0) (v := ?_) rfl rfl (by kernel_rfl) (by kernel_rfl) (by kernel_rfl) (by kernel_rfl) (fun _ _ _ h => h) (Or.inl ⟨by rfl, ?_⟩) (by assumption) ?_; rotate_left; (focus (intro wS hS; (try go_split_ands); go_simp; all_goals (with_reducible rfl))); simp only [List.set_cons_zero, List.set_cons_succ, List.setIfInBounds_toArray]); (refine Hd.takeE (i := 1) (v := ?_) rfl rfl (by kernel_rfl) (by kernel_rfl) (by kernel_rfl) (by kernel_rfl) (fun _ _ _ h => h) (Or.inl ⟨by rfl, ?_⟩) (by assumption) ?_; rotate_left; (focus (intro wS hS; (try go_split_ands); go_simp; all_goals (with_reducible rfl))); simp only [List.set_cons_zero, List.set_cons_succ, List.setIfInBounds_toArray]); (refine Hd.takeE (i := 2) (v := ?_) rfl rfl (by kernel_rfl) (by kernel_rfl) (by kernel_rfl) (by kernel_rfl) (fun _ _ _ h => h) (Or.inl ⟨by rfl, ?_⟩) (by assumption) ?_; rotate_left; (focus (intro wS hS; (try go_split_ands); go_simp; all_goals (with_reducible rfl))); simp only [List.set_cons_zero, List.set_cons_succ, List.setIfInBounds_toArray])
      (refine Hd.takeE (i := 3) rfl rfl (by kernel_rfl) (by kernel_rfl) (by kernel_rfl) (by kernel_rfl) (fun _ _ _ h => h) (Hd.yieldsIf_load_any (by rfl) 31 _ rfl _ rfl N _ (fun wS hS => hS.1) HUS.out rfl HIM.out) (by assumption) ?_; simp only [List.set_cons_zero, List.set_cons_succ, List.setIfInBounds_toArray])
      (refine Hd.takeE (i := 4) (v := ?_) rfl rfl (by kernel_rfl) (by kernel_rfl) (by kernel_rfl) (by kernel_rfl) (fun _ _ _ h => h) (Or.inl ⟨by rfl, ?_⟩) (by assumption) ?_; rotate_left; (focus (intro wS hS; (try go_split_ands); go_simp; all_goals (with_reducible rfl))); simp only [List.set_cons_zero, List.set_cons_succ, List.setIfInBounds_toArray]); (refine Hd.takeE (i := 5) (v := ?_) rfl rfl (by kernel_rfl) (by kernel_rfl) (by kernel_rfl) (by kernel_rfl) (fun _ _ _ h => h) (Or.inl ⟨by rfl, ?_⟩) (by assumption) ?_; rotate_left; (focus (intro wS hS; (try go_split_ands); go_simp; all_goals (with_reducible rfl))); simp only [List.set_cons_zero, List.set_cons_succ, List.setIfInBounds_toArray]); (refine Hd.takeE (i := 6) (v := ?_) rfl rfl (by kernel_rfl) (by kernel_rfl) (by kernel_rfl) (by kernel_rfl) (fun _ _ _ h => h) (Or.inl ⟨by rfl, ?_⟩) (by assumption) ?_; rotate_left; (focus (intro wS hS; (try go_split_ands); go_simp; all_goals (with_reducible rfl))); simp only [List.set_cons_zero, List.set_cons_succ, List.setIfInBounds_toArray])
      (refine Hd.takeE (i := 7) rfl rfl (by kernel_rfl) (by kernel_rfl) (by kernel_rfl) (by kernel_rfl) (fun _ _ _ h => h) (Hd.yieldsIf_load_any (by rfl) 31 _ rfl _ rfl N _ (fun wS hS => hS.2) HUS.out rfl HIM.out) (by assumption) ?_; simp only [List.set_cons_zero, List.set_cons_succ, List.setIfInBounds_toArray])
      (refine Hd.takeE (i := 8) (v := ?_) rfl rfl (by kernel_rfl) (by kernel_rfl) (by kernel_rfl) (by kernel_rfl) (fun _ _ _ h => h) (Or.inl ⟨by rfl, ?_⟩) (by assumption) ?_; rotate_left; (focus (intro wS hS; (try go_split_ands); go_simp; all_goals (with_reducible rfl))); simp only [List.set_cons_zero, List.set_cons_succ, List.setIfInBounds_toArray])
      (refine Hd.endE (by kernel_rfl) ?_ _)
      go_wp2
      go_roundg (out.length - (j + 1) + 1)
      case measure => have := HGI.out; omega
      case rel => exact ⟨j + 1, by go_num, by omega, ⟨rfl⟩, ⟨below_drew1 HBI.out⟩⟩
    · obtain rfl : j = out.length := by omega
      have hj1 : decide ((out.length : Int) < (out.length : Int)) = false := by simp
      have HB7 := Aside0.mk (below_then HB6.out HB6.out.size HBI.out)
      clear HC5 HC5b HC6 HB5 HB6 HBI HGI hsm
      go_wp2
      go_loopg [8] (k + 1) (fun gk v8 wr => ∃ i : Nat, v8 = .int .i64 i ∧ i ≤ k ∧ Aside0 (gk = k - i + 1) ∧ Aside0 (Below w.heap.size w wr))
      case atStart => exact ⟨0, rfl, Nat.zero_le _, ⟨rfl⟩, HB7⟩
      case round =>
        obtain ⟨i, rfl, hi, HGK, HBr⟩ := hrel
        obtain ⟨wo, rfl⟩ : ∃ X : World, X = wr := ⟨_, rfl⟩
        by_cases hlt : i < k
        · have h1 : decide ((i : Int) < (k : Int)) = true := by simp; omega
          have hp1 : (0 : Int) ≤ (i : Int) := by omega
          have hp2 : (i : Int) < (k : Int) := by omega
          obtain ⟨ad, hA⟩ := H.out.is (by omega)
          subst hA
          have hok := H.out.ok i hlt
          have HRA := Aside0.mk (fun W (hW : Below w.heap.size w W) => range_ref ((H.out.below hW).cells ad rfl i hlt))
          generalize rs.getD i default = r at *
          have HIS := Aside0.mk (infoSmS r.s (ok_sum hok))
          have HHK := Aside0.mk (fun W => hook_calls r.s rate W hok.n (bytes_wf hok.wf))
          have HHR := Aside0.mk (fun W => rhook_calls r.s rate W hok.n (bytes_wf hok.wf))
          clear hok
          generalize hookF r.s rate = hk at *
          have hne : (hk != hk) = false := by simp
          generalize hN : nums .u8 r.s = N at *
          clear hN
          go_wp2_with fail
          (refine Hd.startE (S := (fun X => Below w.heap.size w X)) 1000 (by kernel_rfl) ((below_drew1 HBr.out)) (fun hHeld => ?_))
          (refine Hd.takeE (i := 0) (v := ?_) rfl rfl (by kernel_rfl) (by kernel_rfl) (by kernel_rfl) (by kernel_rfl) (fun _ _ _ h => h) (Or.inl ⟨by rfl, ?_⟩) (by assumption) ?_; rotate_left; (focus (intro wS hS; (try go_split_ands); go_simp; all_goals (with_reducible rfl))); simp only [List.set_cons_zero, List.set_cons_succ, List.setIfInBounds_toArray]); (refine Hd.takeE (i := 1) (v := ?_) rfl rfl (by kernel_rfl) (by kernel_rfl) (by kernel_rfl) (by kernel_rfl) (fun _ _ _ h => h) (Or.inl ⟨by rfl, ?_⟩) (by assumption) ?_; rotate_left; (focus (intro wS hS; (try go_split_ands); go_simp; all_goals (with_reducible rfl))); simp only [List.set_cons_zero, List.set_cons_succ, List.setIfInBounds_toArray]); (refine Hd.takeE (i := 2) (v := ?_) rfl rfl (by kernel_rfl) (by kernel_rfl) (by kernel_rfl) (by kernel_rfl) (fun _ _ _ h => h) (Or.inl ⟨by rfl, ?_⟩) (by assumption) ?_; rotate_left; (focus (intro wS hS; (try go_split_ands); go_simp; all_goals (with_reducible rfl))); simp only [List.set_cons_zero, List.set_cons_succ, List.setIfInBounds_toArray]); (refine Hd.takeE (i := 3) (v := ?_) rfl rfl (by kernel_rfl) (by kernel_rfl) (by kernel_rfl) (by kernel_rfl) (fun _ _ _ h => h) (Or.inl ⟨by rfl, ?_⟩) (by assumption) ?_; rotate_left; (focus (intro wS hS; (try go_split_ands); go_simp; all_goals (with_reducible rfl))); simp only [List.set_cons_zero, List.set_cons_succ, List.setIfInBounds_toArray])
          (refine Hd.takeE (i := 4) rfl rfl (by kernel_rfl) (by kernel_rfl) (by kernel_rfl) (by kernel_rfl) (fun _ _ _ h => h) (Hd.yieldsIf_load_any (by rfl) 31 _ rfl _ rfl N _ (fun wS hS => (HRA.out _ hS)) HUS.out rfl HIS.out) (by assumption) ?_; simp only [List.set_cons_zero, List.set_cons_succ, List.setIfInBounds_toArray])
          (refine Hd.takeE (i := 5) (v := ?_) rfl rfl (by kernel_rfl) (by kernel_rfl) (by kernel_rfl) (by kernel_rfl) (fun _ _ _ h => h) (Or.inl ⟨by rfl, ?_⟩) (by assumption) ?_; rotate_left; (focus (intro wS hS; (try go_split_ands); go_simp; all_goals (with_reducible rfl))); simp only [List.set_cons_zero, List.set_cons_succ, List.setIfInBounds_toArray]); (refine Hd.takeE (i := 7) (v := ?_) rfl rfl (by kernel_rfl) (by kernel_rfl) (by kernel_rfl) (by kernel_rfl) (fun _ _ _ h => h) (Or.inl ⟨by rfl, ?_⟩) (by assumption) ?_; rotate_left; (focus (intro wS hS; (try go_split_ands); go_simp; all_goals (with_reducible rfl))); simp only [List.set_cons_zero, List.set_cons_succ, List.setIfInBounds_toArray]); (refine Hd.takeE (i := 8) (v := ?_) rfl rfl (by kernel_rfl) (by kernel_rfl) (by kernel_rfl) (by kernel_rfl) (fun _ _ _ h => h) (Or.inl ⟨by rfl, ?_⟩) (by assumption) ?_; rotate_left; (focus (intro wS hS; (try go_split_ands); go_simp; all_goals (with_reducible rfl))); simp only [List.set_cons_zero, List.set_cons_succ, List.setIfInBounds_toArray]); (refine Hd.takeE (i := 9) (v := ?_) rfl rfl (by kernel_rfl) (by kernel_rfl) (by kernel_rfl) (by kernel_rfl) (fun _ _ _ h => h) (Or.inl ⟨by rfl, ?_⟩) (by assumption) ?_; rotate_left; (focus (intro wS hS; (try go_split_ands); go_simp; all_goals (with_reducible rfl))); simp only [List.set_cons_zero, List.set_cons_succ, List.setIfInBounds_toArray]); (refine Hd.takeE (i := 10) (v := ?_) rfl rfl (by kernel_rfl) (by kernel_rfl) (by kernel_rfl) (by kernel_rfl) (fun _ _ _ h => h) (Or.inl ⟨by rfl, ?_⟩) (by assumption) ?_; rotate_left; (focus (intro wS hS; (try go_split_ands); go_simp; all_goals (with_reducible rfl))); simp only [List.set_cons_zero, List.set_cons_succ, List.setIfInBounds_toArray])
          (refine Hd.takeE (i := 11) rfl rfl (by kernel_rfl) (by kernel_rfl) (by kernel_rfl) (by kernel_rfl) (fun _ _ _ h => h) (Hd.yieldsIf_load_any (by rfl) 31 _ rfl _ rfl N _ (fun wS hS => (HRA.out _ hS)) HUS.out rfl HIS.out) (by assumption) ?_; simp only [List.set_cons_zero, List.set_cons_succ, List.setIfInBounds_toArray])
          (refine Hd.takeE (i := 12) (v := ?_) rfl rfl (by kernel_rfl) (by kernel_rfl) (by kernel_rfl) (by kernel_rfl) (fun _ _ _ h => h) (Or.inl ⟨by rfl, ?_⟩) (by assumption) ?_; rotate_left; (focus (intro wS hS; (try go_split_ands); go_simp; all_goals (with_reducible rfl))); simp only [List.set_cons_zero, List.set_cons_succ, List.setIfInBounds_toArray])
          (refine Hd.readyE (rs := [6]) (by kernel_rfl) (by simp) ?_; refine Hd.AllE.cons (i := 6) rfl (fun K hK => ?_) Hd.AllE.nil; (go_simp; refine (HHK.out _).mono ?_; rintro e W4 ⟨rfl, hb4⟩); refine hK.out _ _ ((below_then hHeld hHeld.size hb4)) (fun hHeld => ?_); clear hK K; (try simp only [Act.put, List.setIfInBounds_toArray, List.set_cons_zero, List.set_cons_succ]))
          (refine Hd.readyE (rs := [13]) (by kernel_rfl) (by simp) ?_; refine Hd.AllE.cons (i := 13) rfl (fun K hK => ?_) Hd.AllE.nil; (go_simp; refine (HHR.out _).mono ?_; rintro e W5 ⟨rfl, hb5⟩); refine hK.out _ _ ((below_then hHeld hHeld.size hb5)) (fun hHeld => ?_); clear hK K; (try simp only [Act.put, List.setIfInBounds_toArray, List.set_cons_zero, List.set_cons_succ]))
          (refine Hd.takeE (i := 14) (v := ?_) rfl rfl (by kernel_rfl) (by kernel_rfl) (by kernel_rfl) (by kernel_rfl) (fun _ _ _ h => h) (Or.inl ⟨by rfl, ?_⟩) (by assumption) ?_; rotate_left; (focus (intro wS hS; (try go_split_ands); go_simp; all_goals (with_reducible rfl))); simp only [List.set_cons_zero, List.set_cons_succ, List.setIfInBounds_toArray])
          (refine Hd.endE (by kernel_rfl) ?_ _)
          go_wp2
          go_roundg (k - (i + 1) + 1)
          case measure => have := HGK.out; omega
          case rel => exact ⟨i + 1, by go_num, by omega, ⟨rfl⟩, ⟨hHeld⟩⟩
        · obtain rfl : i = k := by omega
          have h1 : decide ((i : Int) < (i : Int)) = false := by simp
          have HLV := Aside0.mk (live_calls wo)
          go_wp2_with (go_at_call 12; (with_reducible refine (HLV.out).mono ?_); rintro e w' ⟨rfl, hb4⟩; have HB4 := Aside0.mk (below_then HBr.out HBr.out.size hb4); clear hb4)
          go_ret
          exact ⟨rfl, HB4.out⟩
theorem hooks_row (A : Option Addr) (k c : Nat) (rs : List Ref) (rate : Int) (w : World) (h : RefsC w A k rs) (_ : k ≤ c) (_ : (Lit.int .i64 rate).wf = true) : Calls Try.prog 4 #[.slice A k c, .int .i64 rate] w fun e w' =>
    e = .returned (.bool true) ∧ Below w.heap.size w w' := lawHooks_calls A k c rs rate w h
end Go.Proofs.Ytkobolgbmfhpgaa.SgL1
