/- What the reference's Take of squeeze computes: the same; condition: the bytes read as bytes. -/
import Derived.Test.YtlmcompoalhpnaaSqA
import Derived.Deep.DeepCutAuto
namespace Go.Proofs.Ytlmcompoalhpnaa.SqB
open Go Go.RowKit Go.Proofs.YtlmcompoalhpnaaW.PrintWords Go.Proofs.Ytlmcompoalhpnaa.K Go.Proofs.Ytlmcompoalhpnaa.OctS Go.Proofs.Ytlmcompoalhpnaa.OctP Go.Proofs.Ytlmcompoalhpnaa.Oct Go.Proofs.Ytlmcompoalhpnaa.Ap Go.Proofs.Ytlmcompoalhpnaa.SqA
set_option linter.unusedVariables false
set_option linter.unusedSimpArgs false
set_option maxHeartbeats 8000000 in
set_option maxRecDepth 20000 in
theorem rtake_calls (A : Option Addr) (c : Nat) (b : List Int) (most : Int) (w : World) (hC : (Kd.int .u8).C w A b.length b) (hc : b.length ≤ c) (hb : Bytes b) (hm : b.length ≤ 140737488351232) (h0 : -9223372036854775808 ≤ most) :
    Calls Try.prog 13 #[.slice A b.length c, .int .i64 most] w fun e w' => ∃ v, e = .returned (.tuple #[v, .int .i64 (takeF b most).2]) ∧ Kd.R (Kd.int .u8) 5 w' w.heap.size (fun _ => True) (v) ((takeF b most).1) ∧ Below w.heap.size w w' := by
  have HC := Aside0.mk hC
  have HBY := Aside0.mk hb
  have HTN := Aside0.mk (fun (pl : Int) (W : World) (hW : Below w.heap.size w W) => rtakeNum_calls A c b pl W (Kd.C_below hC hW) hc hb (by omega))
  clear hC hb
  go_enter Try.func13, Try.ntmps13
  go_upto_if 14 with fail
  go_cut [1] (fun s1 wx => s1 = .int .i64 (min most 8192) ∧ w = wx)
  case first =>
    by_cases hbig : 8192 < most
    · rw [decide_eq_true hbig]
      have HE : Aside0 (min most 8192 = 8192) := ⟨by omega⟩
      clear hbig
      go_wp2_with fail
      go_meet
      exact ⟨by rw [HE.out], rfl⟩
    · rw [decide_eq_false hbig]
      have HE : Aside0 (min most 8192 = most) := ⟨by omega⟩
      clear hbig
      go_wp2_with fail
      go_meet
      exact ⟨by rw [HE.out], rfl⟩
  case rest =>
  obtain ⟨rfl, rfl⟩ := hcut
  have HN := Aside0.mk (Kd.R_made_nil (Kd.int .u8) w 5)
  have HN2 := Aside0.mk (below_alloc (Below.refl w.heap.size w) (.cells #[] 5))
  go_wp2_with fail
  have hm8 : min most 8192 ≤ 8192 := by omega
  have hm0 : -9223372036854775808 ≤ min most 8192 := by omega
  have HBAD := Aside0.mk (fun e (h : loopT b (min most 8192) b.length 0 [] = ([], e)) (he : e ≠ 0) => take_bad h he)
  have HOK := Aside0.mk (fun o (h : loopT b (min most 8192) b.length 0 [] = (o, 0)) => take_ok h)
  generalize min most 8192 = m at *
  go_loopg [6, 7] (b.length + 1) (fun gk v6 v7 wr => ∃ (pl f : Nat) (o : List Int), v7 = .int .i64 (pl : Int) ∧ pl ≤ b.length ∧ Aside0 (gk = b.length - pl + 1) ∧ Aside0 (b.length - pl ≤ f) ∧ Aside0 (loopT b m f pl o = loopT b m b.length 0 []) ∧ Aside0 (o.length = 0 ∨ (o.length : Int) ≤ m) ∧ Aside0 (Kd.R (Kd.int .u8) 5 wr w.heap.size (fun _ => True) (v6) (o)) ∧ Aside0 (Below w.heap.size w wr))
  case atStart => exact ⟨0, b.length, [], rfl, Nat.zero_le _, ⟨rfl⟩, ⟨by omega⟩, ⟨rfl⟩, ⟨Or.inl rfl⟩, HN, HN2⟩
  case round =>
    obtain ⟨pl, f, o, rfl, hpl, HGK, HF, HLP, HOL, HO, HBr⟩ := hrel
    obtain ⟨A6, c6, rfl⟩ := Kd.R_slice HO.out
    have hol : o.length ≤ 8192 := by rcases HOL.out with h | h <;> omega
    have hom : m - (o.length : Int) ≤ 8192 ∧ -9223372036854775808 ≤ m - (o.length : Int) := by rcases HOL.out with h | h <;> omega
    by_cases hlt : pl < b.length
    · have d1 : decide ((pl : Int) < (b.length : Int)) = true := by simp only [decide_eq_true_eq]; omega
      obtain ⟨g, hg⟩ : ∃ g, f = g + 1 := ⟨f - 1, by have := HF.out; omega⟩
      subst hg
      obtain ⟨ad, rfl, hcell⟩ := Kd.at_int (Kd.C_below HC.out HBr.out) (pl : Int) (by omega) (by omega)
      rw [Int.toNat_natCast] at hcell
      have hcb : 0 ≤ b.getD pl 0 ∧ b.getD pl 0 ≤ 255 := HBY.out.getD pl
      have HST : Aside0 (SqA.stepT b m pl o = SqA.stepT b m pl o) := ⟨rfl⟩
      have HBD := Aside0.mk (fun (he : (SqA.stepT b m pl o).1 ≠ 0) => (HLP.out.symm.trans (loop_bad hlt (by have := HF.out; omega) he)))
      have HGD := Aside0.mk (fun (he : (SqA.stepT b m pl o).1 = 0) => (loop_ok (f := g) hlt he).symm.trans HLP.out)
      have hrd : rd b (pl : Int) = b.getD pl 0 := rfl
      rw [hrd] at hcell
      clear hrd
      unfold SqA.stepT at HBD HGD
      generalize b.getD pl 0 = cv at *
      obtain ⟨q, hq⟩ : ∃ q, q = pl + 1 := ⟨_, rfl⟩
      rw [← hq] at HBD HGD
      have HQ := Aside0.mk hq
      have hi1 : (0 : Int) ≤ (pl : Int) := by omega
      have hi2 : (pl : Int) < (b.length : Int) := by omega
      have hwA : IntKind.i64.wrap ((pl : Int) + 1) = (q : Int) := by rw [IntWalk.i64_in _ (by omega)]; omega
      have hwC : IntKind.i64.wrap cv = cv := IntWalk.i64_in _ (by omega)
      have hwB : IntKind.i64.wrap ((q : Int) + cv) = (q : Int) + cv := IntWalk.i64_in _ (by omega)
      have hwD : IntKind.i64.wrap ((q : Int) + cv + 1) = (q : Int) + cv + 1 := IntWalk.i64_in _ (by omega)
      have hwE : IntKind.i64.wrap ((o.length : Int) + cv) = (o.length : Int) + cv := IntWalk.i64_in _ (by omega)
      have hwE2 : IntKind.i64.wrap ((o.length : Int) + cv + 1) = (o.length : Int) + cv + 1 := IntWalk.i64_in _ (by omega)
      have hql : q ≤ b.length := by omega
      clear hq HST
      by_cases h128 : cv + 1 ≤ 128
      · have d2 : decide (cv < 128) = true := by simp only [decide_eq_true_eq]; omega
        rw [if_pos h128] at HBD HGD
        clear h128
        by_cases hs : (b.length : Int) - (q : Int) < cv + 1
        · have d3 : decide ((b.length : Int) < (q : Int) + cv + 1) = true := by simp only [decide_eq_true_eq]; omega
          rw [if_pos hs] at HBD
          have HT := Aside0.mk (HBAD.out 3 (HBD.out (by decide)) (by decide))
          clear hs
          go_wp2_with fail
          go_ret2
          exact ⟨_, by rw [HT.out]; rfl, by rw [HT.out]; exact Kd.R_nil _ _ _ _ _, HBr.out⟩
        · have d3 : decide ((b.length : Int) < (q : Int) + cv + 1) = false := by simp only [decide_eq_false_iff_not]; omega
          rw [if_neg hs] at HBD HGD
          by_cases hl : m - (o.length : Int) < cv + 1
          · have d4 : decide (m < (o.length : Int) + cv + 1) = true := by simp only [decide_eq_true_eq]; omega
            rw [if_pos hl] at HBD
            have HT := Aside0.mk (HBAD.out 6 (HBD.out (by decide)) (by decide))
            clear hs hl
            go_wp2_with fail
            go_ret2
            exact ⟨_, by rw [HT.out]; rfl, by rw [HT.out]; exact Kd.R_nil _ _ _ _ _, HBr.out⟩
          · have d4 : decide (m < (o.length : Int) + cv + 1) = false := by simp only [decide_eq_false_iff_not]; omega
            rw [if_neg hl] at HGD
            obtain ⟨n, hn⟩ := Int.eq_ofNat_of_zero_le (show 0 ≤ cv + 1 by omega)
            obtain ⟨hi, hhi⟩ : ∃ hi, hi = q + n := ⟨_, rfl⟩
            have hwF : (q : Int) + cv + 1 = (hi : Int) := by omega
            obtain ⟨A2, hcut, hCC⟩ := cutLH (Kd.int .u8) 22 5 Try.underlying22 infoU8 (some ad) b.length c q hi (by omega) (by omega) hc
            have HCC := Aside0.mk (fun W (hW : Below w.heap.size w W) => hCC W b (Kd.C_below HC.out hW))
            clear hCC
            have hsl : (b.take hi).drop q = (b.drop q).take n := by rw [List.drop_take]; congr 1; omega
            rw [hsl, show hi - q = n by omega] at HCC
            rw [show hi - q = n by omega] at hcut
            have HR := HGD.out rfl
            simp only at HR
            rw [hn, Int.toNat_natCast, ← hhi] at HR
            have HRR := Aside0.mk HR
            have HNL : Aside0 ((o.length : Int) + n ≤ m) := ⟨by omega⟩
            have HSL : Aside0 (((b.drop q).take n).length = n) := ⟨by rw [List.length_take, List.length_drop]; omega⟩
            have HHI : Aside0 (hi = q + n ∧ q = pl + 1 ∧ hi ≤ b.length) := ⟨⟨hhi, HQ.out, by omega⟩⟩
            clear HR hhi hs hl hsl
            rw [← hwF] at hcut
            clear hn
            have HWF := Aside0.mk hwF
            clear hwF
            go_wp2_with ((with_reducible refine gate_builtin (b := .append) (xs := #[.tmp 43, .tmp 50]) rfl ?_); at_builtin; refine app (Kd.int .u8) (flat_int _) w.heap.size (w0 := w) (.tmp 43) (.tmp 50) 22 5 (.int .u8 0) 1 rfl rfl Try.underlying22 infoU8 rfl (by decide) (by decide) _ o ((b.drop q).take n) A2 n (c - q) rfl rfl ?aO ?aR ?aB ?aS ?aL ?_; (case aO => exact (by (with_reducible repeat (first | apply Kd.R_alloc | apply Kd.R_drewN | apply Kd.R_drew)); exact HO.out)); (case aR => exact (HCC.out _ HBr.out)); (case aB => exact (by repeat (first | (with_reducible first | exact HBr.out | apply below_alloc | apply pw_below_drewN | apply below_drew1) | exact HBr.out))); (case aS => exact (below_size (by repeat (first | (with_reducible first | exact HBr.out | apply below_alloc | apply pw_below_drewN | apply below_drew1) | exact HBr.out)))); (case aL => exact (by have := HNL.out; omega)); intro v9 w9 ho9 hb9 hg9 hat9; have HO9 := Aside0.mk ho9; have HB9 := Aside0.mk hb9; clear ho9 hb9 hg9 hat9)
            go_roundg (b.length - hi + 1)
            case measure => have := HGK.out; have := HHI.out; omega
            case rel => exact ⟨hi, g, o ++ (b.drop q).take n, by rw [HWF.out], by have := HHI.out; omega, ⟨rfl⟩, ⟨by have := HF.out; have := HHI.out; omega⟩, HRR, ⟨Or.inr (by rw [List.length_append, HSL.out]; have := HNL.out; omega)⟩, HO9, HB9⟩
      · have d2 : decide (cv < 128) = false := by simp only [decide_eq_false_iff_not]; omega
        rw [if_neg h128] at HBD HGD
        have hcv128 : 128 ≤ cv := by omega
        clear h128
        have hwG : IntKind.i64.wrap ((o.length : Int) + cv - 124) = (o.length : Int) + cv - 124 := IntWalk.i64_in _ (by omega)
        have hwG2 : IntKind.i64.wrap (cv - 124) = cv - 124 := IntWalk.i64_in _ (by omega)
        have HOKN := Aside0.mk (takeNum_ok b (q : Int) HBY.out)
        go_wp2_with fail
        refine (HTN.out (q : Int) wr HBr.out).mono ?_
        rintro e w1 ⟨rfl, rfl⟩
        obtain ⟨⟨d, nx, er⟩, htn⟩ : ∃ t, t = takeNum b (q : Int) := ⟨_, rfl⟩
        rw [← htn] at HBD HGD HOKN ⊢
        clear htn
        dsimp only at *
        by_cases he : er = 0
        · subst he
          rw [if_neg (by simp)] at HBD HGD
          obtain ⟨k0, k1, k2, k3, k4⟩ := HOKN.out rfl
          by_cases hd1 : d < 1
          · have d3 : (d == 0) = true := by simp; omega
            rw [if_pos (Or.inl hd1)] at HBD
            have HT := Aside0.mk (HBAD.out 2 (HBD.out (by decide)) (by decide))
            clear hd1
            go_wp2_with fail
            go_ret2
            exact ⟨_, by rw [HT.out]; rfl, by rw [HT.out]; exact Kd.R_nil _ _ _ _ _, HBr.out⟩
          have d3 : (d == 0) = false := by simp; omega
          by_cases hd2 : (o.length : Int) < d
          · have d4 : decide ((o.length : Int) < d) = true := decide_eq_true hd2
            rw [if_pos (Or.inr hd2)] at HBD
            have HT := Aside0.mk (HBAD.out 2 (HBD.out (by decide)) (by decide))
            clear hd1 hd2
            go_wp2_with fail
            go_ret2
            exact ⟨_, by rw [HT.out]; rfl, by rw [HT.out]; exact Kd.R_nil _ _ _ _ _, HBr.out⟩
          have d4 : decide ((o.length : Int) < d) = false := decide_eq_false hd2
          rw [if_neg (fun h => h.elim hd1 hd2)] at HBD HGD
          by_cases hl : m - (o.length : Int) < cv - 124
          · have d5 : decide (m < (o.length : Int) + cv - 124) = true := by simp only [decide_eq_true_eq]; omega
            rw [if_pos hl] at HBD
            have HT := Aside0.mk (HBAD.out 6 (HBD.out (by decide)) (by decide))
            clear hd1 hd2 hl
            go_wp2_with fail
            go_ret2
            exact ⟨_, by rw [HT.out]; rfl, by rw [HT.out]; exact Kd.R_nil _ _ _ _ _, HBr.out⟩
          have d5 : decide (m < (o.length : Int) + cv - 124) = false := by simp only [decide_eq_false_iff_not]; omega
          rw [if_neg hl] at HGD
          obtain ⟨dn, hdn⟩ := Int.eq_ofNat_of_zero_le (show 0 ≤ d by omega)
          have HDE := Aside0.mk hdn
          obtain ⟨nn, hnn⟩ := Int.eq_ofNat_of_zero_le (show 0 ≤ cv - 124 by omega)
          obtain ⟨p2, rfl⟩ := Int.eq_ofNat_of_zero_le (show 0 ≤ nx by omega)
          have HR := HGD.out rfl
          simp only at HR
          rw [hnn, hdn, Int.toNat_natCast, Int.toNat_natCast, Int.toNat_natCast] at HR
          have HRR := Aside0.mk HR
          have HNL : Aside0 ((o.length : Int) + nn ≤ m) := ⟨by omega⟩
          have HDN : Aside0 (1 ≤ dn ∧ dn ≤ o.length ∧ pl < p2 ∧ p2 ≤ b.length) := ⟨by have := HQ.out; omega⟩
          have hwG3 : IntKind.i64.wrap (cv - 124) = (nn : Int) := by rw [hwG2, hnn]
          clear hwG2
          have hnb : nn ≤ 131 := by omega
          clear HR hd1 hd2 hl hnn hdn k0 k1 k2 k3 k4
          go_wp2_with fail
          go_loopg [6, 12] (nn + 1) (fun gj v6 v12 wq => ∃ (j : Nat) (x : List Int), v12 = .int .i64 (j : Int) ∧ j ≤ nn ∧ Aside0 (gj = nn - j + 1) ∧ Aside0 (x.length = o.length + j) ∧ Aside0 (copyD dn (nn - j) x = copyD dn nn o) ∧ Aside0 (Kd.R (Kd.int .u8) 5 wq w.heap.size (fun _ => True) (v6) (x)) ∧ Aside0 (Below w.heap.size w wq))
          case atStart => exact ⟨0, o, rfl, Nat.zero_le _, ⟨rfl⟩, ⟨rfl⟩, ⟨rfl⟩, HO, HBr⟩
          case round =>
            obtain ⟨j, x, rfl, hj, HGJ, HXL, HCP, HX, HBq⟩ := hrel
            obtain ⟨A7, c7, rfl⟩ := Kd.R_slice HX.out
            have hxl := HXL.out
            by_cases hlj : j < nn
            · have e1 : decide ((j : Int) < (nn : Int)) = true := by simp only [decide_eq_true_eq]; omega
              obtain ⟨k, hk⟩ : ∃ k, k = x.length - dn := ⟨_, rfl⟩
              have hdn := HDN.out
              obtain ⟨bk, rfl, hbk, hcl, hfz, -⟩ := own_byte HX.out k (by omega)
              have hxs : x.length ≤ 8192 := by have := HNL.out; omega
              have hde := HDE.out
              have hwk : IntKind.i64.wrap ((x.length : Int) - d) = (k : Int) := by rw [IntWalk.i64_in _ (by omega)]; omega
              clear hde
              have hi3 : (0 : Int) ≤ (k : Int) := by omega
              have hi4 : (k : Int) < (x.length : Int) := by omega
              have hcp2 : copyD dn (nn - (j + 1)) (x ++ [rd x (k : Int)]) = copyD dn nn o := by
                rw [← HCP.out, show nn - j = (nn - (j + 1)) + 1 by omega]
                show _ = copyD dn (nn - (j + 1)) (x ++ [x.getD (x.length - dn) 0])
                rw [← hk]
                rfl
              have HCP2 := Aside0.mk hcp2
              have HK := Aside0.mk hk
              clear hcp2 hk hbk hfz hdn hxl
              generalize rd x (k : Int) = ch at *
              go_wp2_with ((with_reducible refine gate_builtin (b := .append) (xs := #[.tmp 87, .tmp 95]) rfl ?_); at_builtin; refine app1 (Kd.int .u8) (flat_int _) w.heap.size (w0 := w) (.tmp 87) (.tmp 95) 22 5 (.int .u8 0) 1 rfl rfl Try.underlying22 infoU8 rfl (by decide) (by decide) _ x ch [.int .u8 ch] rfl rfl ?aP ?aO ?aB ?aS ?aL ?_; (case aP => first | exact rfl | exact ⟨trivial, rfl⟩ | exact ⟨HOK.out, rfl⟩); (case aO => exact (by (with_reducible repeat (first | apply Kd.R_alloc | apply Kd.R_drewN | apply Kd.R_drew)); exact HX.out)); (case aB => exact (by repeat (first | (with_reducible first | exact HBq.out | apply below_alloc | apply pw_below_drewN | apply below_drew1) | exact HBq.out))); (case aS => exact (below_size (by repeat (first | (with_reducible first | exact HBq.out | apply below_alloc | apply pw_below_drewN | apply below_drew1) | exact HBq.out)))); (case aL => exact (by omega)); intro v9 w9 ho9 hb9 hg9 hat9; have HO9 := Aside0.mk ho9; have HB9 := Aside0.mk hb9; clear ho9 hb9 hg9 hat9)
              go_roundg (nn - (j + 1) + 1)
              case measure => have := HGJ.out; omega
              case rel => exact ⟨j + 1, x ++ [ch], by go_num, by omega, ⟨rfl⟩, ⟨by rw [List.length_append, HXL.out]; rfl⟩, HCP2, HO9, HB9⟩
            · obtain rfl : j = nn := by omega
              have e1 : decide ((j : Int) < (j : Int)) = false := by simp
              clear hxl
              have HXF : Aside0 (x = copyD dn j o) := ⟨by rw [← HCP.out, Nat.sub_self]; rfl⟩
              clear hlj
              go_wp2_with fail
              go_roundg (b.length - p2 + 1)
              case measure => have := HGK.out; have := HDN.out; omega
              case rel => exact ⟨p2, g, x, rfl, HDN.out.2.2.2, ⟨rfl⟩, ⟨by have := HF.out; have := HDN.out; omega⟩, ⟨by rw [HXF.out]; exact HRR.out⟩, ⟨Or.inr (by rw [HXL.out]; have := HNL.out; omega)⟩, HX, HBq⟩
        · have d3 : (er != 0) = true := by simpa using he
          rw [if_pos (by simpa using he)] at HBD
          have HT := Aside0.mk (HBAD.out er (HBD.out he) he)
          clear he
          go_wp2_with fail
          go_ret2
          exact ⟨_, by rw [HT.out]; rfl, by rw [HT.out]; exact Kd.R_nil _ _ _ _ _, HBr.out⟩
    · obtain rfl : pl = b.length := by omega
      have d1 : decide ((b.length : Int) < (b.length : Int)) = false := by simp
      have HT := Aside0.mk (HOK.out o (HLP.out.symm.trans (loop_end (by omega) f)))
      clear hlt
      by_cases hneg : m < 0
      · have d2 : decide (m < (o.length : Int)) = true := by simp only [decide_eq_true_eq]; omega
        rw [if_pos hneg] at HT
        clear hneg
        go_wp2_with fail
        go_ret2
        exact ⟨_, by rw [HT.out]; rfl, by rw [HT.out]; exact Kd.R_nil _ _ _ _ _, HBr.out⟩
      · have d2 : decide (m < (o.length : Int)) = false := by simp only [decide_eq_false_iff_not]; rcases HOL.out with h | h <;> omega
        rw [if_neg hneg] at HT
        clear hneg
        go_wp2_with fail
        go_ret2
        exact ⟨_, by rw [HT.out]; rfl, by rw [HT.out]; exact HO.out, HBr.out⟩
end Go.Proofs.Ytlmcompoalhpnaa.SqB
