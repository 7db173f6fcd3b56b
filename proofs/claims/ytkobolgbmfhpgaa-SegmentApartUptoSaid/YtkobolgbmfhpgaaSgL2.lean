/- The law SegmentSplits; condition: the refs read as refs, within the weight's reach. -/
import Derived.Test.YtkobolgbmfhpgaaSgO
namespace Go.Proofs.Ytkobolgbmfhpgaa.SgL2
open Go Go.RowKit Go.Proofs.YtkobolgbmfhpgaaW.PrintWords Go.Proofs.Ytkobolgbmfhpgaa.K Go.Proofs.Ytkobolgbmfhpgaa.OctS Go.Proofs.Ytkobolgbmfhpgaa.OctP Go.Proofs.Ytkobolgbmfhpgaa.Oct Go.Proofs.Ytkobolgbmfhpgaa.ReR Go.Proofs.Ytkobolgbmfhpgaa.ReT Go.Proofs.Ytkobolgbmfhpgaa.ReK Go.Proofs.Ytkobolgbmfhpgaa.SgL Go.Proofs.Ytkobolgbmfhpgaa.SgD Go.Proofs.Ytkobolgbmfhpgaa.SgM Go.Proofs.Ytkobolgbmfhpgaa.SgH Go.Proofs.Ytkobolgbmfhpgaa.SgE Go.Proofs.Ytkobolgbmfhpgaa.SgLv Go.Proofs.Ytkobolgbmfhpgaa.SgQ Go.Proofs.Ytkobolgbmfhpgaa.SgQa Go.Proofs.Ytkobolgbmfhpgaa.SgQb Go.Proofs.Ytkobolgbmfhpgaa.ReO
set_option linter.unusedVariables false
set_option linter.unusedSimpArgs false
set_option maxHeartbeats 4000000 in
set_option maxRecDepth 100000 in
theorem splits_arg (A : Option Addr) (k c : Nat) (rs : List Ref) (most : Int) (w : World) (h : RefsC w A k rs) (hw : (Lit.int .i64 most).wf = true) (hm : most < 1 ∨ 64 < most) : Calls Try.prog 5 #[.slice A k c, .int .i64 most] w fun e w' =>
    e = .returned (.bool true) ∧ Below w.heap.size w w' := by
  have H := Aside0.mk h
  have HS := Aside0.mk (fun W => split_arg A k c most W hm)
  have HR := Aside0.mk (fun W => rsplit_arg A k c most W hm)
  have HE := Aside0.mk (fun W (hW : Below w.heap.size w W) => ends_calls A k c rs most W (h.below hW) hw)
  have HF := Aside0.mk (fun W (hW : Below w.heap.size w W) => rends_calls A k c rs most W (h.below hW) hw)
  have HL := Aside0.mk (fun W => live_calls W)
  generalize endsF rs most = b at *
  have hne : (b != b) = false := by simp
  clear h hm hw
  go_enter Try.func5, Try.ntmps5
  go_wp2_with (first
    | (go_at_call 17; (with_reducible refine (HS.out _).mono ?_); rintro e w' ⟨rfl, hb4⟩; have HB4 := Aside0.mk hb4; clear hb4)
    | (go_at_call 18; (with_reducible refine (HR.out _).mono ?_); rintro e w' ⟨rfl, hb4⟩; have HB5 := Aside0.mk (below_then HB4.out HB4.out.size hb4); clear hb4)
    | (go_at_call 19; (with_reducible refine (HE.out _ HB5.out).mono ?_); rintro e w' ⟨rfl, hb4⟩; have HB6 := Aside0.mk (below_then HB5.out HB5.out.size hb4); clear hb4)
    | (go_at_call 20; (with_reducible refine (HF.out _ HB6.out).mono ?_); rintro e w' ⟨rfl, hb4⟩; have HB7 := Aside0.mk (below_then HB6.out HB6.out.size hb4); clear hb4))
  refine wp_loop_rounds 1 ?_
  rw [rounds_succ]
  go_wp2_with (go_at_call 12; (with_reducible refine (HL.out _).mono ?_); rintro e w' ⟨rfl, hb4⟩; have HB8 := Aside0.mk (below_then HB7.out HB7.out.size hb4); clear hb4)
  go_ret
  exact ⟨rfl, HB8.out⟩
/-- How many refs the first groups have. -/
def tot (gs : List (List Ref)) (j : Nat) : Nat := (gs.take j).flatten.length
theorem sum_take (gs : List (List Ref)) (j : Nat) (h : j < gs.length) : tot gs (j + 1) = tot gs j + (gs.getD j []).length := by
  unfold tot
  rw [List.take_add_one, List.flatten_append, List.length_append]
  simp [h]
theorem sum_le (gs : List (List Ref)) (j : Nat) : tot gs j ≤ gs.flatten.length := by
  unfold tot
  conv => rhs; rw [← List.take_append_drop j gs, List.flatten_append, List.length_append]
  omega
set_option maxHeartbeats 8000000 in
set_option maxRecDepth 100000 in
theorem splits_ok (A : Option Addr) (k c : Nat) (rs : List Ref) (most : Int) (w : World) (h : RefsC w A k rs) (hz : k * 56 ≤ 140737488351232) (hw : (Lit.int .i64 most).wf = true) (hm1 : 1 ≤ most) (hm2 : most ≤ 64) : Calls Try.prog 5 #[.slice A k c, .int .i64 most] w fun e w' =>
    e = .returned (.bool true) ∧ Below w.heap.size w w' := by
  have H := Aside0.mk h
  have hl : rs.length = k := h.len
  have HS := Aside0.mk (split_ok A k c rs most w h hz hm1 hm2)
  have HR := Aside0.mk (fun W (hW : Below w.heap.size w W) => rsplit_ok A k c rs most W (h.below hW) hz hm1 hm2)
  have HE := Aside0.mk (fun W (hW : Below w.heap.size w W) => ends_calls A k c rs most W (h.below hW) hw)
  have HF := Aside0.mk (fun W (hW : Below w.heap.size w W) => rends_calls A k c rs most W (h.below hW) hw)
  have HL := Aside0.mk (fun W => live_calls W)
  obtain ⟨ha1, ha2⟩ := split_all most hm1 rs
  have HA1 := Aside0.mk ha1
  have HA2 := Aside0.mk ha2
  generalize splitF most rs = gs at *
  generalize endsF rs most = b at *
  have hne : (b != b) = false := by simp
  clear h ha1 ha2
  go_enter Try.func5, Try.ntmps5
  go_wp2_with (first
    | (go_at_call 17; (with_reducible refine (HS.out).mono ?_); rintro e w' ⟨v5, ds5, rfl, ho5, hg5, hb5⟩; obtain ⟨A5, c5, rfl, hl5, hr5⟩ := Kd.R_reads ho5; have HC5 := Aside0.mk hr5; have HG5 := Aside0.mk hg5; have h5 := hg5.len; have HB5 := Aside0.mk hb5; clear ho5 hr5 hg5 hb5)
    | (go_at_call 18; (with_reducible refine (HR.out _ HB5.out).mono ?_); rintro e w' ⟨v7, ds7, rfl, ho7, hg7, hb7⟩; obtain ⟨A7, c7, rfl, hl7, hr7⟩ := Kd.R_reads ho7; have HC7 := Aside0.mk hr7; have HG7 := Aside0.mk hg7; have HB7 := Aside0.mk (below_then HB5.out HB5.out.size hb7); have HC57 := Aside0.mk (Kd.C_below HC5.out hb7); have HG57 := Aside0.mk (HG5.out.below hb7); have h7 := hg7.len; clear ho7 hr7 hg7 hb7)
    | (go_at_call 19; (with_reducible refine (HE.out _ HB7.out).mono ?_); rintro e w' ⟨rfl, hb4⟩; have HB8 := Aside0.mk (below_then HB7.out HB7.out.size hb4); have HC8 := Aside0.mk (Kd.C_below HC7.out hb4); have HG8 := Aside0.mk (HG7.out.below hb4); have HC58 := Aside0.mk (Kd.C_below HC57.out hb4); have HG58 := Aside0.mk (HG57.out.below hb4); clear hb4)
    | (go_at_call 20; (with_reducible refine (HF.out _ HB8.out).mono ?_); rintro e w' ⟨rfl, hb4⟩; have HB9 := Aside0.mk (below_then HB8.out HB8.out.size hb4); have HC9 := Aside0.mk (Kd.C_below HC8.out hb4); have HG9 := Aside0.mk (HG8.out.below hb4); have HC59 := Aside0.mk (Kd.C_below HC58.out hb4); have HG59 := Aside0.mk (HG58.out.below hb4); clear hb4))
  obtain ⟨w9, rfl⟩ : ∃ X : World, X = w' := ⟨_, rfl⟩
  clear HC5 HG5 HC7 HG7 HC57 HG57 HC8 HG8 HC58 HG58 HB5 HB7 HB8
  have hgl : gs.length ≤ 9223372036854775807 := by have := HC9.out.2.1; omega
  have hfl : gs.flatten.length = k := by rw [HA1.out]; exact hl
  have HFL := Aside0.mk hfl
  have hkz : k ≤ 4611686018427387904 := by omega
  clear hfl
  go_loopg [9, 10] (gs.length + 1) (fun gk v9 v10 wr => ∃ j : Nat, v10 = .int .i64 j ∧ v9 = .int .i64 (tot gs j : Nat) ∧ j ≤ gs.length ∧ Aside0 (gk = gs.length - j + 1) ∧ Aside0 (Below w9.heap.size w9 wr))
  case atStart => exact ⟨0, rfl, by simp [tot], Nat.zero_le _, ⟨rfl⟩, ⟨Below.refl _ _⟩⟩
  case round =>
    obtain ⟨j, rfl, rfl, hj, HGI, HBI⟩ := hrel
    obtain ⟨wi, rfl⟩ : ∃ X : World, X = wr := ⟨_, rfl⟩
    by_cases hjl : j < gs.length
    · have hj1 : decide ((j : Int) < (gs.length : Int)) = true := by simp; omega
      have hq1 : (0 : Int) ≤ (j : Int) := by omega
      have hq2 : (j : Int) < (gs.length : Int) := by omega
      obtain ⟨ad5, rfl, q5⟩ := at_sl (Kd.C_below HC59.out HBI.out) j (by omega)
      obtain ⟨ad7, rfl, q7⟩ := at_sl (Kd.C_below HC9.out HBI.out) j (by omega)
      obtain ⟨e5, f5⟩ := HG59.out.each j (by omega)
      obtain ⟨e7, f7⟩ := HG9.out.each j (by omega)
      have hst := sum_take gs j hjl
      have hsl := sum_le gs (j + 1)
      rw [HFL.out, hst] at hsl
      have hge : gs.getD j [] ∈ gs := by
        rw [show gs.getD j [] = gs[j]'(by omega) from by simp [show j < gs.length by omega]]
        exact List.getElem_mem _
      obtain ⟨hg1, hg2⟩ := HA2.out _ hge
      have HST := Aside0.mk hst
      generalize gs.getD j [] = g at *
      generalize ds5.getD j default = d5 at *
      generalize ds7.getD j default = d7 at *
      obtain ⟨a5, n5, c5'⟩ := d5
      obtain ⟨a7, n7, c7'⟩ := d7
      simp only at e5 f5 e7 f7 q5 q7
      obtain rfl : g.length = n5 := e5.1
      obtain rfl : g.length = n7 := e7.1
      have HSA := Aside0.mk (fun W (hW : Below wi.heap.size wi W) => sameR_calls a5 a7 g.length c5' c7' g W (refs_of_C (Kd.C_below (Kd.C_below e5 HBI.out) hW) (le_max (by omega))) (refs_of_C (Kd.C_below (Kd.C_below e7 HBI.out) hW) (le_max (by omega))))
      have d1 : decide ((g.length : Int) < 1) = false := by simp; omega
      have d2 : decide (most < (g.length : Int)) = false := by simp; omega
      clear e5 e7 hge hst
      generalize g.length = n at *
      go_wp2_with fail
      (refine Hd.startE (S := (fun X => (X.cell? (ad5.add j) = some (.slice a5 n c5') ∧ X.cell? (ad7.add j) = some (.slice a7 n c7')) ∧ Below wi.heap.size wi X)) 1000 (by kernel_rfl) (⟨⟨q5, q7⟩, below_drew1 (Below.refl _ _)⟩) (fun hHeld => ?_))
      (refine Hd.takeE (i := 0) (v := ?_) rfl rfl (by kernel_rfl) (by kernel_rfl) (by kernel_rfl) (by kernel_rfl) (fun _ _ _ h => h) (Or.inl ⟨by rfl, ?_⟩) (by assumption) ?_; rotate_left; (focus (intro wS hS; (try go_split_ands); go_simp; all_goals (with_reducible rfl))); simp only [List.set_cons_zero, List.set_cons_succ, List.setIfInBounds_toArray]); (refine Hd.takeE (i := 1) (v := ?_) rfl rfl (by kernel_rfl) (by kernel_rfl) (by kernel_rfl) (by kernel_rfl) (fun _ _ _ h => h) (Or.inl ⟨by rfl, ?_⟩) (by assumption) ?_; rotate_left; (focus (intro wS hS; (try go_split_ands); go_simp; all_goals (with_reducible rfl))); simp only [List.set_cons_zero, List.set_cons_succ, List.setIfInBounds_toArray]); (refine Hd.takeE (i := 2) (v := ?_) rfl rfl (by kernel_rfl) (by kernel_rfl) (by kernel_rfl) (by kernel_rfl) (fun _ _ _ h => h) (Or.inl ⟨by rfl, ?_⟩) (by assumption) ?_; rotate_left; (focus (intro wS hS; (try go_split_ands); go_simp; all_goals (with_reducible rfl))); simp only [List.set_cons_zero, List.set_cons_succ, List.setIfInBounds_toArray]); (refine Hd.takeE (i := 3) (v := ?_) rfl rfl (by kernel_rfl) (by kernel_rfl) (by kernel_rfl) (by kernel_rfl) (fun _ _ _ h => h) (Or.inl ⟨by rfl, ?_⟩) (by assumption) ?_; rotate_left; (focus (intro wS hS; (try go_split_ands); go_simp; all_goals (with_reducible rfl))); simp only [List.set_cons_zero, List.set_cons_succ, List.setIfInBounds_toArray]); (refine Hd.takeE (i := 4) (v := ?_) rfl rfl (by kernel_rfl) (by kernel_rfl) (by kernel_rfl) (by kernel_rfl) (fun _ _ _ h => h) (Or.inl ⟨by rfl, ?_⟩) (by assumption) ?_; rotate_left; (focus (intro wS hS; (try go_split_ands); go_simp; all_goals (with_reducible rfl))); simp only [List.set_cons_zero, List.set_cons_succ, List.setIfInBounds_toArray]); (refine Hd.takeE (i := 5) (v := ?_) rfl rfl (by kernel_rfl) (by kernel_rfl) (by kernel_rfl) (by kernel_rfl) (fun _ _ _ h => h) (Or.inl ⟨by rfl, ?_⟩) (by assumption) ?_; rotate_left; (focus (intro wS hS; (try go_split_ands); go_simp; all_goals (with_reducible rfl))); simp only [List.set_cons_zero, List.set_cons_succ, List.setIfInBounds_toArray]); (refine Hd.takeE (i := 6) (v := ?_) rfl rfl (by kernel_rfl) (by kernel_rfl) (by kernel_rfl) (by kernel_rfl) (fun _ _ _ h => h) (Or.inl ⟨by rfl, ?_⟩) (by assumption) ?_; rotate_left; (focus (intro wS hS; (try go_split_ands); go_simp; all_goals (with_reducible rfl))); simp only [List.set_cons_zero, List.set_cons_succ, List.setIfInBounds_toArray]); (refine Hd.takeE (i := 7) (v := ?_) rfl rfl (by kernel_rfl) (by kernel_rfl) (by kernel_rfl) (by kernel_rfl) (fun _ _ _ h => h) (Or.inl ⟨by rfl, ?_⟩) (by assumption) ?_; rotate_left; (focus (intro wS hS; (try go_split_ands); go_simp; all_goals (with_reducible rfl))); simp only [List.set_cons_zero, List.set_cons_succ, List.setIfInBounds_toArray])
      (refine Hd.readyE (rs := [8]) (by kernel_rfl) (by simp) ?_; refine Hd.AllE.cons (i := 8) rfl (fun K hK => ?_) Hd.AllE.nil; (go_simp; refine (HSA.out _ hHeld.2).mono ?_; rintro e W4 ⟨rfl, hb4⟩); refine hK.out _ _ (⟨⟨(hb4.cell (p := ad5.add j) (World.block_lt_of_cell? _ _ hHeld.1.1)).trans hHeld.1.1, (hb4.cell (p := ad7.add j) (World.block_lt_of_cell? _ _ hHeld.1.2)).trans hHeld.1.2⟩, below_then hHeld.2 hHeld.2.size hb4⟩) (fun hHeld => ?_); clear hK K; (try simp only [Act.put, List.setIfInBounds_toArray, List.set_cons_zero, List.set_cons_succ]))
      (refine Hd.takeE (i := 9) (v := ?_) rfl rfl (by kernel_rfl) (by kernel_rfl) (by kernel_rfl) (by kernel_rfl) (fun _ _ _ h => h) (Or.inl ⟨by rfl, ?_⟩) (by assumption) ?_; rotate_left; (focus (intro wS hS; (try go_split_ands); go_simp; all_goals (with_reducible rfl))); simp only [List.set_cons_zero, List.set_cons_succ, List.setIfInBounds_toArray]); (refine Hd.takeE (i := 10) (v := ?_) rfl rfl (by kernel_rfl) (by kernel_rfl) (by kernel_rfl) (by kernel_rfl) (fun _ _ _ h => h) (Or.inl ⟨by rfl, ?_⟩) (by assumption) ?_; rotate_left; (focus (intro wS hS; (try go_split_ands); go_simp; all_goals (with_reducible rfl))); simp only [List.set_cons_zero, List.set_cons_succ, List.setIfInBounds_toArray]); (refine Hd.takeE (i := 11) (v := ?_) rfl rfl (by kernel_rfl) (by kernel_rfl) (by kernel_rfl) (by kernel_rfl) (fun _ _ _ h => h) (Or.inl ⟨by rfl, ?_⟩) (by assumption) ?_; rotate_left; (focus (intro wS hS; (try go_split_ands); go_simp; all_goals (with_reducible rfl))); simp only [List.set_cons_zero, List.set_cons_succ, List.setIfInBounds_toArray]); (refine Hd.takeE (i := 12) (v := ?_) rfl rfl (by kernel_rfl) (by kernel_rfl) (by kernel_rfl) (by kernel_rfl) (fun _ _ _ h => h) (Or.inl ⟨by rfl, ?_⟩) (by assumption) ?_; rotate_left; (focus (intro wS hS; (try go_split_ands); go_simp; all_goals (with_reducible rfl))); simp only [List.set_cons_zero, List.set_cons_succ, List.setIfInBounds_toArray]); (refine Hd.takeE (i := 13) (v := ?_) rfl rfl (by kernel_rfl) (by kernel_rfl) (by kernel_rfl) (by kernel_rfl) (fun _ _ _ h => h) (Or.inl ⟨by rfl, ?_⟩) (by assumption) ?_; rotate_left; (focus (intro wS hS; (try go_split_ands); go_simp; all_goals (with_reducible rfl))); simp only [List.set_cons_zero, List.set_cons_succ, List.setIfInBounds_toArray]); (refine Hd.takeE (i := 14) (v := ?_) rfl rfl (by kernel_rfl) (by kernel_rfl) (by kernel_rfl) (by kernel_rfl) (fun _ _ _ h => h) (Or.inl ⟨by rfl, ?_⟩) (by assumption) ?_; rotate_left; (focus (intro wS hS; (try go_split_ands); go_simp; all_goals (with_reducible rfl))); simp only [List.set_cons_zero, List.set_cons_succ, List.setIfInBounds_toArray]); (refine Hd.takeE (i := 15) (v := ?_) rfl rfl (by kernel_rfl) (by kernel_rfl) (by kernel_rfl) (by kernel_rfl) (fun _ _ _ h => h) (Or.inl ⟨by rfl, ?_⟩) (by assumption) ?_; rotate_left; (focus (intro wS hS; (try go_split_ands); go_simp; all_goals (with_reducible rfl))); simp only [List.set_cons_zero, List.set_cons_succ, List.setIfInBounds_toArray]); (refine Hd.takeE (i := 16) (v := ?_) rfl rfl (by kernel_rfl) (by kernel_rfl) (by kernel_rfl) (by kernel_rfl) (fun _ _ _ h => h) (Or.inl ⟨by rfl, ?_⟩) (by assumption) ?_; rotate_left; (focus (intro wS hS; (try go_split_ands); go_simp; all_goals (with_reducible rfl))); simp only [List.set_cons_zero, List.set_cons_succ, List.setIfInBounds_toArray]); (refine Hd.takeE (i := 17) (v := ?_) rfl rfl (by kernel_rfl) (by kernel_rfl) (by kernel_rfl) (by kernel_rfl) (fun _ _ _ h => h) (Or.inl ⟨by rfl, ?_⟩) (by assumption) ?_; rotate_left; (focus (intro wS hS; (try go_split_ands); go_simp; all_goals (with_reducible rfl))); simp only [List.set_cons_zero, List.set_cons_succ, List.setIfInBounds_toArray]); (refine Hd.takeE (i := 18) (v := ?_) rfl rfl (by kernel_rfl) (by kernel_rfl) (by kernel_rfl) (by kernel_rfl) (fun _ _ _ h => h) (Or.inl ⟨by rfl, ?_⟩) (by assumption) ?_; rotate_left; (focus (intro wS hS; (try go_split_ands); go_simp; all_goals (with_reducible rfl))); simp only [List.set_cons_zero, List.set_cons_succ, List.setIfInBounds_toArray]); (refine Hd.takeE (i := 19) (v := ?_) rfl rfl (by kernel_rfl) (by kernel_rfl) (by kernel_rfl) (by kernel_rfl) (fun _ _ _ h => h) (Or.inl ⟨by rfl, ?_⟩) (by assumption) ?_; rotate_left; (focus (intro wS hS; (try go_split_ands); go_simp; all_goals (with_reducible rfl))); simp only [List.set_cons_zero, List.set_cons_succ, List.setIfInBounds_toArray]); (refine Hd.takeE (i := 20) (v := ?_) rfl rfl (by kernel_rfl) (by kernel_rfl) (by kernel_rfl) (by kernel_rfl) (fun _ _ _ h => h) (Or.inl ⟨by rfl, ?_⟩) (by assumption) ?_; rotate_left; (focus (intro wS hS; (try go_split_ands); go_simp; all_goals (with_reducible rfl))); simp only [List.set_cons_zero, List.set_cons_succ, List.setIfInBounds_toArray]); (refine Hd.takeE (i := 21) (v := ?_) rfl rfl (by kernel_rfl) (by kernel_rfl) (by kernel_rfl) (by kernel_rfl) (fun _ _ _ h => h) (Or.inl ⟨by rfl, ?_⟩) (by assumption) ?_; rotate_left; (focus (intro wS hS; (try go_split_ands); go_simp; all_goals (with_reducible rfl))); simp only [List.set_cons_zero, List.set_cons_succ, List.setIfInBounds_toArray]); (refine Hd.takeE (i := 22) (v := ?_) rfl rfl (by kernel_rfl) (by kernel_rfl) (by kernel_rfl) (by kernel_rfl) (fun _ _ _ h => h) (Or.inl ⟨by rfl, ?_⟩) (by assumption) ?_; rotate_left; (focus (intro wS hS; (try go_split_ands); go_simp; all_goals (with_reducible rfl))); simp only [List.set_cons_zero, List.set_cons_succ, List.setIfInBounds_toArray]); (refine Hd.takeE (i := 23) (v := ?_) rfl rfl (by kernel_rfl) (by kernel_rfl) (by kernel_rfl) (by kernel_rfl) (fun _ _ _ h => h) (Or.inl ⟨by rfl, ?_⟩) (by assumption) ?_; rotate_left; (focus (intro wS hS; (try go_split_ands); go_simp; all_goals (with_reducible rfl))); simp only [List.set_cons_zero, List.set_cons_succ, List.setIfInBounds_toArray]); (refine Hd.takeE (i := 24) (v := ?_) rfl rfl (by kernel_rfl) (by kernel_rfl) (by kernel_rfl) (by kernel_rfl) (fun _ _ _ h => h) (Or.inl ⟨by rfl, ?_⟩) (by assumption) ?_; rotate_left; (focus (intro wS hS; (try go_split_ands); go_simp; all_goals (with_reducible rfl))); simp only [List.set_cons_zero, List.set_cons_succ, List.setIfInBounds_toArray]); (refine Hd.takeE (i := 25) (v := ?_) rfl rfl (by kernel_rfl) (by kernel_rfl) (by kernel_rfl) (by kernel_rfl) (fun _ _ _ h => h) (Or.inl ⟨by rfl, ?_⟩) (by assumption) ?_; rotate_left; (focus (intro wS hS; (try go_split_ands); go_simp; all_goals (with_reducible rfl))); simp only [List.set_cons_zero, List.set_cons_succ, List.setIfInBounds_toArray]); (refine Hd.takeE (i := 26) (v := ?_) rfl rfl (by kernel_rfl) (by kernel_rfl) (by kernel_rfl) (by kernel_rfl) (fun _ _ _ h => h) (Or.inl ⟨by rfl, ?_⟩) (by assumption) ?_; rotate_left; (focus (intro wS hS; (try go_split_ands); go_simp; all_goals (with_reducible rfl))); simp only [List.set_cons_zero, List.set_cons_succ, List.setIfInBounds_toArray])
      (refine Hd.endE (by kernel_rfl) ?_ _)
      have q5' := hHeld.1.1
      have HBW := Aside0.mk hHeld.2
      clear q5 q7 hHeld
      go_wp2
      go_roundg (gs.length - (j + 1) + 1)
      case measure => have := HGI.out; omega
      case rel => exact ⟨j + 1, by go_num, by rw [HST.out]; go_num, by omega, ⟨rfl⟩, ⟨below_then HBI.out HBI.out.size HBW.out⟩⟩
    · obtain rfl : j = gs.length := by omega
      have hj1 : decide ((gs.length : Int) < (gs.length : Int)) = false := by simp
      have hfl2 : tot gs gs.length = k := by unfold tot; rw [List.take_of_length_le (Nat.le_refl _)]; exact HFL.out
      have hkk : ((k : Int) == (k : Int)) = true := by simp
      have HB10 := Aside0.mk (below_then HB9.out HB9.out.size HBI.out)
      go_wp2_with (go_at_call 12; (with_reducible refine (HL.out _).mono ?_); rintro e w' ⟨rfl, hb4⟩; have HB11 := Aside0.mk (below_then HB10.out HB10.out.size hb4); clear hb4)
      go_ret
      exact ⟨rfl, HB11.out⟩
theorem splits_row (A : Option Addr) (k c : Nat) (rs : List Ref) (most : Int) (w : World) (h : RefsC w A k rs) (_ : k ≤ c) (hz : k * 56 ≤ 140737488351232) (hw : (Lit.int .i64 most).wf = true) : Calls Try.prog 5 #[.slice A k c, .int .i64 most] w fun e w' =>
    e = .returned (.bool true) ∧ Below w.heap.size w w' := by
  by_cases hm : most < 1 ∨ 64 < most
  · exact splits_arg A k c rs most w h hw hm
  · exact splits_ok A k c rs most w h hz hw (by omega) (by omega)
end Go.Proofs.Ytkobolgbmfhpgaa.SgL2
