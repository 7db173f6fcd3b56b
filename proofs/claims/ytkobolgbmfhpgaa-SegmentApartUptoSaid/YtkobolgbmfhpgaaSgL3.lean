/- The law SegmentApart; condition: both refs read as refs, not too many. -/
import Derived.Test.YtkobolgbmfhpgaaSgL2
namespace Go.Proofs.Ytkobolgbmfhpgaa.SgL3
open Go Go.RowKit Go.Proofs.YtkobolgbmfhpgaaW.PrintWords Go.Proofs.Ytkobolgbmfhpgaa.K Go.Proofs.Ytkobolgbmfhpgaa.OctS Go.Proofs.Ytkobolgbmfhpgaa.OctP Go.Proofs.Ytkobolgbmfhpgaa.Oct Go.Proofs.Ytkobolgbmfhpgaa.ReR Go.Proofs.Ytkobolgbmfhpgaa.ReT Go.Proofs.Ytkobolgbmfhpgaa.ReK Go.Proofs.Ytkobolgbmfhpgaa.SgL Go.Proofs.Ytkobolgbmfhpgaa.SgD Go.Proofs.Ytkobolgbmfhpgaa.SgM Go.Proofs.Ytkobolgbmfhpgaa.SgH Go.Proofs.Ytkobolgbmfhpgaa.SgE Go.Proofs.Ytkobolgbmfhpgaa.SgLv Go.Proofs.Ytkobolgbmfhpgaa.SgQ Go.Proofs.Ytkobolgbmfhpgaa.SgQa Go.Proofs.Ytkobolgbmfhpgaa.SgQb Go.Proofs.Ytkobolgbmfhpgaa.ReO
set_option linter.unusedVariables false
set_option linter.unusedSimpArgs false
set_option maxHeartbeats 4000000 in
set_option maxRecDepth 100000 in
theorem apart_arg (A : Option Addr) (ka ca : Nat) (xs : List Ref) (B : Option Addr) (kb cb : Nat) (ys : List Ref) (most : Int) (w : World) (hA : RefsC w A ka xs) (hB : RefsC w B kb ys) (za : ka ≤ 1048576) (zb : kb ≤ 1048576) (hm : most < 1 ∨ 64 < most) :
    Calls Try.prog 6 #[.slice A ka ca, .slice B kb cb, .int .i64 most] w fun e w' => e = .returned (.bool true) ∧ Below w.heap.size w w' := by
  have HA := Aside0.mk (refs_C hA)
  have HBs := Aside0.mk (refs_C hB)
  have la : xs.length = ka := hA.len
  have lb : ys.length = kb := hB.len
  have HS := Aside0.mk (fun A k c W => split_arg A k c most W hm)
  have HL := Aside0.mk (fun W => live_calls W)
  clear hA hB hm
  go_enter Try.func6, Try.ntmps6
  go_wp2_with (first
    | (go_at_call 17; (with_reducible refine (HS.out A ka ca _).mono ?_); rintro e w' ⟨rfl, hb4⟩; have HB4 := Aside0.mk hb4; clear hb4)
    | ((with_reducible refine gate_builtin (b := .append) (xs := #[.tmp 19, .tmp 20]) rfl ?_); at_builtin; refine app dRef flat_ref w.heap.size (w0 := w) (.tmp 19) (.tmp 20) 28 34 _ 56 rfl rfl Try.underlying28 infoRef3 rfl (by decide) (by decide) _ [] xs A ka ca rfl rfl ?aO ?aR ?aB ?aS ?aL ?_; (case aO => exact (Kd.R_lower (Kd.R_made_nil dRef _ 34) HB4.out.size)); (case aR => exact (Kd.C_below HA.out (by repeat (first | (with_reducible first | exact HB4.out | apply below_alloc | apply pw_below_drewN | apply below_drew1) | exact HB4.out)))); (case aB => exact (by repeat (first | (with_reducible first | exact HB4.out | apply below_alloc | apply pw_below_drewN | apply below_drew1) | exact HB4.out))); (case aS => exact (below_size (by repeat (first | (with_reducible first | exact HB4.out | apply below_alloc | apply pw_below_drewN | apply below_drew1) | exact HB4.out)))); (case aL => exact (by simp; omega)); intro v1 w1 ho1 hb1 hg1 hat1; have HO1 := Aside0.mk (show Kd.R dRef 34 w1 w.heap.size (fun _ => True) v1 xs from by simpa using ho1); have HB5 := Aside0.mk hb1; clear ho1 hb1 hg1 hat1)
    | ((with_reducible refine gate_builtin (b := .append) (xs := #[.tmp 21, .tmp 22]) rfl ?_); at_builtin; refine app dRef flat_ref w.heap.size (w0 := w) (.tmp 21) (.tmp 22) 28 34 _ 56 rfl rfl Try.underlying28 infoRef3 rfl (by decide) (by decide) _ xs ys B kb cb rfl rfl ?aO ?aR ?aB ?aS ?aL ?_; (case aO => exact HO1.out); (case aR => exact (Kd.C_below HBs.out (by repeat (first | (with_reducible first | exact HB5.out | apply below_alloc | apply pw_below_drewN | apply below_drew1) | exact HB5.out)))); (case aB => exact (by repeat (first | (with_reducible first | exact HB5.out | apply below_alloc | apply pw_below_drewN | apply below_drew1) | exact HB5.out))); (case aS => exact (below_size (by repeat (first | (with_reducible first | exact HB5.out | apply below_alloc | apply pw_below_drewN | apply below_drew1) | exact HB5.out)))); (case aL => exact (by rw [la]; omega)); intro v2 w2 ho2 hb2 hg2 hat2; obtain ⟨A2, c2, rfl, hl2, hr2⟩ := Kd.R_reads ho2; have HB6 := Aside0.mk hb2; clear ho2 hb2 hg2 hat2 hr2)
    | (go_at_call 17; (with_reducible refine (HS.out A2 _ c2 _).mono ?_); rintro e w' ⟨rfl, hb4⟩; have HB7 := Aside0.mk (below_then HB6.out HB6.out.size hb4); clear hb4)
    | (go_at_call 12; (with_reducible refine (HL.out _).mono ?_); rintro e w' ⟨rfl, hb4⟩; have HB8 := Aside0.mk (below_then HB7.out HB7.out.size hb4); clear hb4))
  go_ret
  exact ⟨rfl, HB8.out⟩
set_option maxHeartbeats 8000000 in
set_option maxRecDepth 100000 in
theorem apart_ok (A : Option Addr) (ka ca : Nat) (xs : List Ref) (B : Option Addr) (kb cb : Nat) (ys : List Ref) (most : Int) (w : World) (hA : RefsC w A ka xs) (hB : RefsC w B kb ys) (za : ka ≤ 1048576) (zb : kb ≤ 1048576) (hw : (Lit.int .i64 most).wf = true) (hm1 : 1 ≤ most) (hm2 : most ≤ 64) :
    Calls Try.prog 6 #[.slice A ka ca, .slice B kb cb, .int .i64 most] w fun e w' => e = .returned (.bool true) ∧ Below w.heap.size w w' := by
  have HA := Aside0.mk (refs_C hA)
  have HBs := Aside0.mk (refs_C hB)
  have la : xs.length = ka := hA.len
  have lb : ys.length = kb := hB.len
  have HS := Aside0.mk (split_ok A ka ca xs most w hA (by omega) hm1 hm2)
  have HL := Aside0.mk (fun W => live_calls W)
  have HAP := Aside0.mk (split_apart most hm1 xs ys)
  have HGL := Aside0.mk (split_len most hm1 xs)
  have HML := Aside0.mk (split_len most hm1 (xs ++ ys))
  have HW := Aside0.mk hw
  clear hA hB hw
  go_enter Try.func6, Try.ntmps6
  go_wp2_with (first
    | (go_at_call 17; (with_reducible refine (HS.out).mono ?_); rintro e w' ⟨v5, ds5, rfl, ho5, hg5, hb5⟩; obtain ⟨A5, c5, rfl, hl5, hr5⟩ := Kd.R_reads ho5; have HC5 := Aside0.mk hr5; have HG5 := Aside0.mk hg5; have h5 := hg5.len; have HB4 := Aside0.mk hb5; have HBw := Aside0.mk (Below.refl w'.heap.size w'); clear ho5 hr5 hg5 hb5; obtain ⟨wa, rfl⟩ : ∃ X : World, X = w' := ⟨_, rfl⟩)
    | ((with_reducible refine gate_builtin (b := .append) (xs := #[.tmp 19, .tmp 20]) rfl ?_); at_builtin; refine app dRef flat_ref wa.heap.size (w0 := wa) (.tmp 19) (.tmp 20) 28 34 _ 56 rfl rfl Try.underlying28 infoRef3 rfl (by decide) (by decide) _ [] xs A ka ca rfl rfl ?aO ?aR ?aB ?aS ?aL ?_; (case aO => exact (Kd.R_made_nil dRef _ 34)); (case aR => exact (Kd.C_below HA.out (by repeat (first | (with_reducible first | exact HB4.out | apply below_alloc | apply pw_below_drewN | apply below_drew1) | exact HB4.out)))); (case aB => exact (by repeat (first | (with_reducible first | exact HBw.out | apply below_alloc | apply pw_below_drewN | apply below_drew1) | exact HBw.out))); (case aS => exact (below_size (by repeat (first | (with_reducible first | exact HBw.out | apply below_alloc | apply pw_below_drewN | apply below_drew1) | exact HBw.out)))); (case aL => exact (by simp; omega)); intro v1 w1 ho1 hb1 hg1 hat1; have HO1 := Aside0.mk (show Kd.R dRef 34 w1 wa.heap.size (fun _ => True) v1 xs from by simpa using ho1); have HB5 := Aside0.mk hb1; have HB5w := Aside0.mk (below_then HB4.out HB4.out.size hb1); clear ho1 hb1 hg1 hat1)
    | ((with_reducible refine gate_builtin (b := .append) (xs := #[.tmp 21, .tmp 22]) rfl ?_); at_builtin; refine app dRef flat_ref wa.heap.size (w0 := wa) (.tmp 21) (.tmp 22) 28 34 _ 56 rfl rfl Try.underlying28 infoRef3 rfl (by decide) (by decide) _ xs ys B kb cb rfl rfl ?aO ?aR ?aB ?aS ?aL ?_; (case aO => exact HO1.out); (case aR => exact (Kd.C_below HBs.out (by repeat (first | (with_reducible first | exact HB5w.out | apply below_alloc | apply pw_below_drewN | apply below_drew1) | exact HB5w.out)))); (case aB => exact (by repeat (first | (with_reducible first | exact HB5.out | apply below_alloc | apply pw_below_drewN | apply below_drew1) | exact HB5.out))); (case aS => exact (below_size (by repeat (first | (with_reducible first | exact HB5.out | apply below_alloc | apply pw_below_drewN | apply below_drew1) | exact HB5.out)))); (case aL => exact (by rw [la]; omega)); intro v2 w2 ho2 hb2 hg2 hat2; obtain ⟨A2, c2, rfl, hl2, hr2⟩ := Kd.R_reads ho2; have HB6 := Aside0.mk hb2; have hab : (xs ++ ys).length = ka + kb := (by rw [List.length_append, la, lb]); rw [hab]; rw [hab] at hr2 hl2; have HS2 := Aside0.mk (split_ok A2 (ka + kb) c2 (xs ++ ys) most w2 (refs_of_C hr2 (le_max (by omega))) (by omega) hm1 hm2); clear ho2 hb2 hg2 hat2 hr2)
    | (go_at_call 17; (with_reducible refine (HS2.out).mono ?_); rintro e w' ⟨v7, ds7, rfl, ho7, hg7, hb7⟩; obtain ⟨A7, c7, rfl, hl7, hr7⟩ := Kd.R_reads ho7; have HC7 := Aside0.mk hr7; have HG7 := Aside0.mk hg7; have h7 := hg7.len; have HB7 := Aside0.mk (below_then HB6.out HB6.out.size hb7); clear ho7 hr7 hg7 hb7; obtain ⟨w9, rfl⟩ : ∃ X : World, X = w' := ⟨_, rfl⟩))
  have HC59 := Aside0.mk (Kd.C_below HC5.out HB7.out)
  have HG59 := Aside0.mk (HG5.out.below HB7.out)
  have HB9 := Aside0.mk (below_then HB4.out HB4.out.size HB7.out)
  have hgl : (splitF most xs).length ≤ 1048576 := by have := HGL.out; omega
  have hml : (splitF most (xs ++ ys)).length ≤ 2097152 := by have := HML.out; rw [hab] at this; omega
  clear HC5 HG5 HB4 HBw HO1 HB5 HB5w HB6 HS2 HB7 HGL HML HA HBs hab
  generalize splitF most xs = gs at *
  generalize splitF most (xs ++ ys) = ms at *
  go_loopg [11] (gs.length + 1) (fun gk v11 wr => ∃ j : Nat, v11 = .int .i64 j ∧ j ≤ gs.length ∧ Aside0 (gk = gs.length - j + 1) ∧ Aside0 (Below w9.heap.size w9 wr))
  case atStart => exact ⟨0, rfl, Nat.zero_le _, ⟨rfl⟩, ⟨Below.refl _ _⟩⟩
  case round =>
    obtain ⟨j, rfl, hj, HGI, HBI⟩ := hrel
    obtain ⟨wi, rfl⟩ : ∃ X : World, X = wr := ⟨_, rfl⟩
    have HB10 := Aside0.mk (below_then HB9.out HB9.out.size HBI.out)
    by_cases hjl : j < gs.length
    · have hj1 : decide ((j : Int) < (gs.length : Int)) = true := by simp; omega
      have hq1 : (0 : Int) ≤ (j : Int) := by omega
      have hq2 : (j : Int) < (gs.length : Int) := by omega
      obtain ⟨ad5, rfl, q5⟩ := at_sl (Kd.C_below HC59.out HBI.out) j (by omega)
      obtain ⟨e5, f5⟩ := HG59.out.each j (by omega)
      have HAJ := Aside0.mk (HAP.out j hjl)
      have hgg : gs[j]? = some (gs.getD j []) := by simp [hjl]
      rw [hgg] at HAJ
      clear hgg
      generalize gs.getD j [] = g at *
      generalize ds5.getD j default = d5 at *
      obtain ⟨a5, n5, c5'⟩ := d5
      simp only at e5 f5 q5
      obtain rfl : g.length = n5 := e5.1
      have hgk : g.length ≤ 9223372036854775807 := e5.2.1
      have e5W := Aside0.mk (Kd.C_below e5 HBI.out)
      have HEN := Aside0.mk (fun W (hW : Below wi.heap.size wi W) => rends_calls a5 g.length c5' g most W (refs_of_C (Kd.C_below e5W.out hW) (le_max (by omega))) HW.out)
      clear e5
      by_cases hlast : j + 1 = gs.length
      · have g1 : ((j : Int) == (gs.length : Int) - 1) = true := by simp; omega
        cases he : endsF g most with
        | false =>
          rw [he] at HEN
          have HLV := HL
          go_wp2_with (first
            | (go_at_call 20; (with_reducible refine (HEN.out _ (Below.refl _ _)).mono ?_); rintro e w' ⟨rfl, hb4⟩; have HB11 := Aside0.mk (below_then HB10.out HB10.out.size hb4); clear hb4)
            | (go_at_call 12; (with_reducible refine (HL.out _).mono ?_); rintro e w' ⟨rfl, hb4⟩; have HB12 := Aside0.mk (below_then HB11.out HB11.out.size hb4); clear hb4))
          go_ret
          exact ⟨rfl, HB12.out⟩
        | true =>
          have hmj := HAJ.out (.inr he)
          have hj7 : j < ms.length := (List.getElem?_eq_some_iff.1 hmj).1
          have hmg : ms.getD j [] = g := by rw [List.getD_eq_getElem?_getD, hmj]; rfl
          obtain ⟨ad7, rfl, q7⟩ := at_sl (Kd.C_below HC7.out HBI.out) j (by omega)
          obtain ⟨e7, f7⟩ := HG7.out.each j (by omega)
          rw [hmg] at e7
          generalize ds7.getD j default = d7 at *
          obtain ⟨a7, n7, c7'⟩ := d7
          simp only at e7 f7 q7
          obtain rfl : g.length = n7 := e7.1
          have e7W := Aside0.mk (Kd.C_below e7 HBI.out)
          have HSA := Aside0.mk (fun W (hW : Below wi.heap.size wi W) => sameR_calls a5 a7 g.length c5' c7' g W (refs_of_C (Kd.C_below e5W.out hW) (le_max (by omega))) (refs_of_C (Kd.C_below e7W.out hW) (le_max (by omega))))
          have d3 : decide ((ms.length : Int) ≤ (j : Int)) = false := by simp; omega
          have d4 : decide (ms.length ≤ j) = false := by simp; omega
          have hq3 : (j : Int) < (ms.length : Int) := by omega
          clear e7 hmj hmg HAJ e5W e7W
          rw [he] at HEN
          generalize g.length = n at *
          go_wp2_with (go_at_call 20; (with_reducible refine (HEN.out _ (Below.refl _ _)).mono ?_); rintro e w' ⟨rfl, hb4⟩; have HB11 := Aside0.mk hb4; clear hb4)
          (refine Hd.startE (S := (fun X => (X.cell? (ad5.add j) = some (.slice a5 n c5') ∧ X.cell? (ad7.add j) = some (.slice a7 n c7')) ∧ Below wi.heap.size wi X)) 1000 (by kernel_rfl) (⟨⟨(HB11.out.cell (p := ad5.add j) (World.block_lt_of_cell? _ _ q5)).trans q5, (HB11.out.cell (p := ad7.add j) (World.block_lt_of_cell? _ _ q7)).trans q7⟩, below_drew1 HB11.out⟩) (fun hHeld => ?_))
          (refine Hd.takeE (i := 0) (v := ?_) rfl rfl (by kernel_rfl) (by kernel_rfl) (by kernel_rfl) (by kernel_rfl) (fun _ _ _ h => h) (Or.inl ⟨by rfl, ?_⟩) (by assumption) ?_; rotate_left; (focus (intro wS hS; (try go_split_ands); go_simp; all_goals (with_reducible rfl))); simp only [List.set_cons_zero, List.set_cons_succ, List.setIfInBounds_toArray]); (refine Hd.takeE (i := 1) (v := ?_) rfl rfl (by kernel_rfl) (by kernel_rfl) (by kernel_rfl) (by kernel_rfl) (fun _ _ _ h => h) (Or.inl ⟨by rfl, ?_⟩) (by assumption) ?_; rotate_left; (focus (intro wS hS; (try go_split_ands); go_simp; all_goals (with_reducible rfl))); simp only [List.set_cons_zero, List.set_cons_succ, List.setIfInBounds_toArray]); (refine Hd.takeE (i := 2) (v := ?_) rfl rfl (by kernel_rfl) (by kernel_rfl) (by kernel_rfl) (by kernel_rfl) (fun _ _ _ h => h) (Or.inl ⟨by rfl, ?_⟩) (by assumption) ?_; rotate_left; (focus (intro wS hS; (try go_split_ands); go_simp; all_goals (with_reducible rfl))); simp only [List.set_cons_zero, List.set_cons_succ, List.setIfInBounds_toArray]); (refine Hd.takeE (i := 3) (v := ?_) rfl rfl (by kernel_rfl) (by kernel_rfl) (by kernel_rfl) (by kernel_rfl) (fun _ _ _ h => h) (Or.inl ⟨by rfl, ?_⟩) (by assumption) ?_; rotate_left; (focus (intro wS hS; (try go_split_ands); go_simp; all_goals (with_reducible rfl))); simp only [List.set_cons_zero, List.set_cons_succ, List.setIfInBounds_toArray]); (refine Hd.takeE (i := 4) (v := ?_) rfl rfl (by kernel_rfl) (by kernel_rfl) (by kernel_rfl) (by kernel_rfl) (fun _ _ _ h => h) (Or.inl ⟨by rfl, ?_⟩) (by assumption) ?_; rotate_left; (focus (intro wS hS; (try go_split_ands); go_simp; all_goals (with_reducible rfl))); simp only [List.set_cons_zero, List.set_cons_succ, List.setIfInBounds_toArray]); (refine Hd.takeE (i := 5) (v := ?_) rfl rfl (by kernel_rfl) (by kernel_rfl) (by kernel_rfl) (by kernel_rfl) (fun _ _ _ h => h) (Or.inl ⟨by rfl, ?_⟩) (by assumption) ?_; rotate_left; (focus (intro wS hS; (try go_split_ands); go_simp; all_goals (with_reducible rfl))); simp only [List.set_cons_zero, List.set_cons_succ, List.setIfInBounds_toArray]); (refine Hd.takeE (i := 6) (v := ?_) rfl rfl (by kernel_rfl) (by kernel_rfl) (by kernel_rfl) (by kernel_rfl) (fun _ _ _ h => h) (Or.inl ⟨by rfl, ?_⟩) (by assumption) ?_; rotate_left; (focus (intro wS hS; (try go_split_ands); go_simp; all_goals (with_reducible rfl))); simp only [List.set_cons_zero, List.set_cons_succ, List.setIfInBounds_toArray]); (refine Hd.takeE (i := 7) (v := ?_) rfl rfl (by kernel_rfl) (by kernel_rfl) (by kernel_rfl) (by kernel_rfl) (fun _ _ _ h => h) (Or.inl ⟨by rfl, ?_⟩) (by assumption) ?_; rotate_left; (focus (intro wS hS; (try go_split_ands); go_simp; all_goals (with_reducible rfl))); simp only [List.set_cons_zero, List.set_cons_succ, List.setIfInBounds_toArray]); (refine Hd.takeE (i := 8) (v := ?_) rfl rfl (by kernel_rfl) (by kernel_rfl) (by kernel_rfl) (by kernel_rfl) (fun _ _ _ h => h) (Or.inl ⟨by rfl, ?_⟩) (by assumption) ?_; rotate_left; (focus (intro wS hS; (try go_split_ands); go_simp; all_goals (with_reducible rfl))); simp only [List.set_cons_zero, List.set_cons_succ, List.setIfInBounds_toArray]); (refine Hd.takeE (i := 9) (v := ?_) rfl rfl (by kernel_rfl) (by kernel_rfl) (by kernel_rfl) (by kernel_rfl) (fun _ _ _ h => h) (Or.inl ⟨by rfl, ?_⟩) (by assumption) ?_; rotate_left; (focus (intro wS hS; (try go_split_ands); go_simp; all_goals (with_reducible rfl))); simp only [List.set_cons_zero, List.set_cons_succ, List.setIfInBounds_toArray]); (refine Hd.takeE (i := 10) (v := ?_) rfl rfl (by kernel_rfl) (by kernel_rfl) (by kernel_rfl) (by kernel_rfl) (fun _ _ _ h => h) (Or.inl ⟨by rfl, ?_⟩) (by assumption) ?_; rotate_left; (focus (intro wS hS; (try go_split_ands); go_simp; all_goals (with_reducible rfl))); simp only [List.set_cons_zero, List.set_cons_succ, List.setIfInBounds_toArray]); (refine Hd.takeE (i := 11) (v := ?_) rfl rfl (by kernel_rfl) (by kernel_rfl) (by kernel_rfl) (by kernel_rfl) (fun _ _ _ h => h) (Or.inl ⟨by rfl, ?_⟩) (by assumption) ?_; rotate_left; (focus (intro wS hS; (try go_split_ands); go_simp; all_goals (with_reducible rfl))); simp only [List.set_cons_zero, List.set_cons_succ, List.setIfInBounds_toArray]); (refine Hd.takeE (i := 12) (v := ?_) rfl rfl (by kernel_rfl) (by kernel_rfl) (by kernel_rfl) (by kernel_rfl) (fun _ _ _ h => h) (Or.inl ⟨by rfl, ?_⟩) (by assumption) ?_; rotate_left; (focus (intro wS hS; (try go_split_ands); go_simp; all_goals (with_reducible rfl))); simp only [List.set_cons_zero, List.set_cons_succ, List.setIfInBounds_toArray])
          (refine Hd.readyE (rs := [13]) (by kernel_rfl) (by simp) ?_; refine Hd.AllE.cons (i := 13) rfl (fun K hK => ?_) Hd.AllE.nil; (go_simp; refine (HSA.out _ hHeld.2).mono ?_; rintro e W4 ⟨rfl, hb4⟩); refine hK.out _ _ (⟨⟨(hb4.cell (p := ad5.add j) (World.block_lt_of_cell? _ _ hHeld.1.1)).trans hHeld.1.1, (hb4.cell (p := ad7.add j) (World.block_lt_of_cell? _ _ hHeld.1.2)).trans hHeld.1.2⟩, below_then hHeld.2 hHeld.2.size hb4⟩) (fun hHeld => ?_); clear hK K; (try simp only [Act.put, List.setIfInBounds_toArray, List.set_cons_zero, List.set_cons_succ]))
          (refine Hd.takeE (i := 14) (v := ?_) rfl rfl (by kernel_rfl) (by kernel_rfl) (by kernel_rfl) (by kernel_rfl) (fun _ _ _ h => h) (Or.inl ⟨by rfl, ?_⟩) (by assumption) ?_; rotate_left; (focus (intro wS hS; (try go_split_ands); go_simp; all_goals (with_reducible rfl))); simp only [List.set_cons_zero, List.set_cons_succ, List.setIfInBounds_toArray]); (refine Hd.takeE (i := 15) (v := ?_) rfl rfl (by kernel_rfl) (by kernel_rfl) (by kernel_rfl) (by kernel_rfl) (fun _ _ _ h => h) (Or.inl ⟨by rfl, ?_⟩) (by assumption) ?_; rotate_left; (focus (intro wS hS; (try go_split_ands); go_simp; all_goals (with_reducible rfl))); simp only [List.set_cons_zero, List.set_cons_succ, List.setIfInBounds_toArray])
          (refine Hd.endE (by kernel_rfl) ?_ _)
          have HBW := Aside0.mk hHeld.2
          clear q5 q7 hHeld
          go_wp2
          go_roundg (gs.length - (j + 1) + 1)
          case measure => have := HGI.out; omega
          case rel => exact ⟨j + 1, by go_num, by omega, ⟨rfl⟩, ⟨below_then HBI.out HBI.out.size HBW.out⟩⟩
      ·
        have hmj := HAJ.out (.inl (by omega))
        have hj7 : j < ms.length := (List.getElem?_eq_some_iff.1 hmj).1
        have hmg : ms.getD j [] = g := by rw [List.getD_eq_getElem?_getD, hmj]; rfl
        obtain ⟨ad7, rfl, q7⟩ := at_sl (Kd.C_below HC7.out HBI.out) j (by omega)
        obtain ⟨e7, f7⟩ := HG7.out.each j (by omega)
        rw [hmg] at e7
        generalize ds7.getD j default = d7 at *
        obtain ⟨a7, n7, c7'⟩ := d7
        simp only at e7 f7 q7
        obtain rfl : g.length = n7 := e7.1
        have e7W := Aside0.mk (Kd.C_below e7 HBI.out)
        have HSA := Aside0.mk (fun W (hW : Below wi.heap.size wi W) => sameR_calls a5 a7 g.length c5' c7' g W (refs_of_C (Kd.C_below e5W.out hW) (le_max (by omega))) (refs_of_C (Kd.C_below e7W.out hW) (le_max (by omega))))
        have d3 : decide ((ms.length : Int) ≤ (j : Int)) = false := by simp; omega
        have d4 : decide (ms.length ≤ j) = false := by simp; omega
        have hq3 : (j : Int) < (ms.length : Int) := by omega
        clear e7 hmj hmg HAJ e5W e7W
        have g1 : ((j : Int) == (gs.length : Int) - 1) = false := by simp; omega
        generalize g.length = n at *
        go_wp2_with fail
        (refine Hd.startE (S := (fun X => (X.cell? (ad5.add j) = some (.slice a5 n c5') ∧ X.cell? (ad7.add j) = some (.slice a7 n c7')) ∧ Below wi.heap.size wi X)) 1000 (by kernel_rfl) (⟨⟨q5, q7⟩, below_drew1 (Below.refl _ _)⟩) (fun hHeld => ?_))
        (refine Hd.takeE (i := 0) (v := ?_) rfl rfl (by kernel_rfl) (by kernel_rfl) (by kernel_rfl) (by kernel_rfl) (fun _ _ _ h => h) (Or.inl ⟨by rfl, ?_⟩) (by assumption) ?_; rotate_left; (focus (intro wS hS; (try go_split_ands); go_simp; all_goals (with_reducible rfl))); simp only [List.set_cons_zero, List.set_cons_succ, List.setIfInBounds_toArray]); (refine Hd.takeE (i := 1) (v := ?_) rfl rfl (by kernel_rfl) (by kernel_rfl) (by kernel_rfl) (by kernel_rfl) (fun _ _ _ h => h) (Or.inl ⟨by rfl, ?_⟩) (by assumption) ?_; rotate_left; (focus (intro wS hS; (try go_split_ands); go_simp; all_goals (with_reducible rfl))); simp only [List.set_cons_zero, List.set_cons_succ, List.setIfInBounds_toArray]); (refine Hd.takeE (i := 2) (v := ?_) rfl rfl (by kernel_rfl) (by kernel_rfl) (by kernel_rfl) (by kernel_rfl) (fun _ _ _ h => h) (Or.inl ⟨by rfl, ?_⟩) (by assumption) ?_; rotate_left; (focus (intro wS hS; (try go_split_ands); go_simp; all_goals (with_reducible rfl))); simp only [List.set_cons_zero, List.set_cons_succ, List.setIfInBounds_toArray]); (refine Hd.takeE (i := 3) (v := ?_) rfl rfl (by kernel_rfl) (by kernel_rfl) (by kernel_rfl) (by kernel_rfl) (fun _ _ _ h => h) (Or.inl ⟨by rfl, ?_⟩) (by assumption) ?_; rotate_left; (focus (intro wS hS; (try go_split_ands); go_simp; all_goals (with_reducible rfl))); simp only [List.set_cons_zero, List.set_cons_succ, List.setIfInBounds_toArray]); (refine Hd.takeE (i := 4) (v := ?_) rfl rfl (by kernel_rfl) (by kernel_rfl) (by kernel_rfl) (by kernel_rfl) (fun _ _ _ h => h) (Or.inl ⟨by rfl, ?_⟩) (by assumption) ?_; rotate_left; (focus (intro wS hS; (try go_split_ands); go_simp; all_goals (with_reducible rfl))); simp only [List.set_cons_zero, List.set_cons_succ, List.setIfInBounds_toArray]); (refine Hd.takeE (i := 5) (v := ?_) rfl rfl (by kernel_rfl) (by kernel_rfl) (by kernel_rfl) (by kernel_rfl) (fun _ _ _ h => h) (Or.inl ⟨by rfl, ?_⟩) (by assumption) ?_; rotate_left; (focus (intro wS hS; (try go_split_ands); go_simp; all_goals (with_reducible rfl))); simp only [List.set_cons_zero, List.set_cons_succ, List.setIfInBounds_toArray]); (refine Hd.takeE (i := 6) (v := ?_) rfl rfl (by kernel_rfl) (by kernel_rfl) (by kernel_rfl) (by kernel_rfl) (fun _ _ _ h => h) (Or.inl ⟨by rfl, ?_⟩) (by assumption) ?_; rotate_left; (focus (intro wS hS; (try go_split_ands); go_simp; all_goals (with_reducible rfl))); simp only [List.set_cons_zero, List.set_cons_succ, List.setIfInBounds_toArray]); (refine Hd.takeE (i := 7) (v := ?_) rfl rfl (by kernel_rfl) (by kernel_rfl) (by kernel_rfl) (by kernel_rfl) (fun _ _ _ h => h) (Or.inl ⟨by rfl, ?_⟩) (by assumption) ?_; rotate_left; (focus (intro wS hS; (try go_split_ands); go_simp; all_goals (with_reducible rfl))); simp only [List.set_cons_zero, List.set_cons_succ, List.setIfInBounds_toArray]); (refine Hd.takeE (i := 8) (v := ?_) rfl rfl (by kernel_rfl) (by kernel_rfl) (by kernel_rfl) (by kernel_rfl) (fun _ _ _ h => h) (Or.inl ⟨by rfl, ?_⟩) (by assumption) ?_; rotate_left; (focus (intro wS hS; (try go_split_ands); go_simp; all_goals (with_reducible rfl))); simp only [List.set_cons_zero, List.set_cons_succ, List.setIfInBounds_toArray]); (refine Hd.takeE (i := 9) (v := ?_) rfl rfl (by kernel_rfl) (by kernel_rfl) (by kernel_rfl) (by kernel_rfl) (fun _ _ _ h => h) (Or.inl ⟨by rfl, ?_⟩) (by assumption) ?_; rotate_left; (focus (intro wS hS; (try go_split_ands); go_simp; all_goals (with_reducible rfl))); simp only [List.set_cons_zero, List.set_cons_succ, List.setIfInBounds_toArray]); (refine Hd.takeE (i := 10) (v := ?_) rfl rfl (by kernel_rfl) (by kernel_rfl) (by kernel_rfl) (by kernel_rfl) (fun _ _ _ h => h) (Or.inl ⟨by rfl, ?_⟩) (by assumption) ?_; rotate_left; (focus (intro wS hS; (try go_split_ands); go_simp; all_goals (with_reducible rfl))); simp only [List.set_cons_zero, List.set_cons_succ, List.setIfInBounds_toArray]); (refine Hd.takeE (i := 11) (v := ?_) rfl rfl (by kernel_rfl) (by kernel_rfl) (by kernel_rfl) (by kernel_rfl) (fun _ _ _ h => h) (Or.inl ⟨by rfl, ?_⟩) (by assumption) ?_; rotate_left; (focus (intro wS hS; (try go_split_ands); go_simp; all_goals (with_reducible rfl))); simp only [List.set_cons_zero, List.set_cons_succ, List.setIfInBounds_toArray]); (refine Hd.takeE (i := 12) (v := ?_) rfl rfl (by kernel_rfl) (by kernel_rfl) (by kernel_rfl) (by kernel_rfl) (fun _ _ _ h => h) (Or.inl ⟨by rfl, ?_⟩) (by assumption) ?_; rotate_left; (focus (intro wS hS; (try go_split_ands); go_simp; all_goals (with_reducible rfl))); simp only [List.set_cons_zero, List.set_cons_succ, List.setIfInBounds_toArray])
        (refine Hd.readyE (rs := [13]) (by kernel_rfl) (by simp) ?_; refine Hd.AllE.cons (i := 13) rfl (fun K hK => ?_) Hd.AllE.nil; (go_simp; refine (HSA.out _ hHeld.2).mono ?_; rintro e W4 ⟨rfl, hb4⟩); refine hK.out _ _ (⟨⟨(hb4.cell (p := ad5.add j) (World.block_lt_of_cell? _ _ hHeld.1.1)).trans hHeld.1.1, (hb4.cell (p := ad7.add j) (World.block_lt_of_cell? _ _ hHeld.1.2)).trans hHeld.1.2⟩, below_then hHeld.2 hHeld.2.size hb4⟩) (fun hHeld => ?_); clear hK K; (try simp only [Act.put, List.setIfInBounds_toArray, List.set_cons_zero, List.set_cons_succ]))
        (refine Hd.takeE (i := 14) (v := ?_) rfl rfl (by kernel_rfl) (by kernel_rfl) (by kernel_rfl) (by kernel_rfl) (fun _ _ _ h => h) (Or.inl ⟨by rfl, ?_⟩) (by assumption) ?_; rotate_left; (focus (intro wS hS; (try go_split_ands); go_simp; all_goals (with_reducible rfl))); simp only [List.set_cons_zero, List.set_cons_succ, List.setIfInBounds_toArray]); (refine Hd.takeE (i := 15) (v := ?_) rfl rfl (by kernel_rfl) (by kernel_rfl) (by kernel_rfl) (by kernel_rfl) (fun _ _ _ h => h) (Or.inl ⟨by rfl, ?_⟩) (by assumption) ?_; rotate_left; (focus (intro wS hS; (try go_split_ands); go_simp; all_goals (with_reducible rfl))); simp only [List.set_cons_zero, List.set_cons_succ, List.setIfInBounds_toArray])
        (refine Hd.endE (by kernel_rfl) ?_ _)
        have HBW := Aside0.mk hHeld.2
        clear q5 q7 hHeld
        go_wp2
        go_roundg (gs.length - (j + 1) + 1)
        case measure => have := HGI.out; omega
        case rel => exact ⟨j + 1, by go_num, by omega, ⟨rfl⟩, ⟨below_then HBI.out HBI.out.size HBW.out⟩⟩
    · obtain rfl : j = gs.length := by omega
      have hj1 : decide ((gs.length : Int) < (gs.length : Int)) = false := by simp
      go_wp2_with (go_at_call 12; (with_reducible refine (HL.out _).mono ?_); rintro e w' ⟨rfl, hb4⟩; have HB11 := Aside0.mk (below_then HB10.out HB10.out.size hb4); clear hb4)
      go_ret
      exact ⟨rfl, HB11.out⟩
theorem apart_row (A : Option Addr) (ka ca : Nat) (xs : List Ref) (B : Option Addr) (kb cb : Nat) (ys : List Ref) (most : Int) (w : World) (hA : RefsC w A ka xs) (_ : ka ≤ ca) (za : ka ≤ 1048576) (hB : RefsC w B kb ys) (_ : kb ≤ cb) (zb : kb ≤ 1048576) (hw : (Lit.int .i64 most).wf = true) :
    Calls Try.prog 6 #[.slice A ka ca, .slice B kb cb, .int .i64 most] w fun e w' => e = .returned (.bool true) ∧ Below w.heap.size w w' := by
  by_cases hm : most < 1 ∨ 64 < most
  · exact apart_arg A ka ca xs B kb cb ys most w hA hB za zb hm
  · exact apart_ok A ka ca xs B kb cb ys most w hA hB za zb hw (by omega) (by omega)
end Go.Proofs.Ytkobolgbmfhpgaa.SgL3
