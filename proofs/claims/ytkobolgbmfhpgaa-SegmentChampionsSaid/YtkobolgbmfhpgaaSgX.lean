/- The reference's Champions; condition: few lists, each short. -/
import Derived.Test.YtkobolgbmfhpgaaSgM
namespace Go.Proofs.Ytkobolgbmfhpgaa.SgX
open Go Go.RowKit Go.Maps Go.Proofs.YtkobolgbmfhpgaaW.PrintWords Go.Proofs.Ytkobolgbmfhpgaa.K Go.Proofs.Ytkobolgbmfhpgaa.SgC Go.Proofs.Ytkobolgbmfhpgaa.SgL Go.Proofs.Ytkobolgbmfhpgaa.SgB Go.Proofs.Ytkobolgbmfhpgaa.SgV Go.Proofs.Ytkobolgbmfhpgaa.SgD Go.Proofs.Ytkobolgbmfhpgaa.SgM
set_option linter.unusedVariables false
set_option linter.unusedSimpArgs false
def foldB (ls : List (List Int)) (xs : List Int) : Int × Bool := xs.foldl (stepB ls) (0, false)
theorem foldB_snoc (ls : List (List Int)) (xs : List Int) (x : Int) : foldB ls (xs ++ [x]) = stepB ls (foldB ls xs) x := by
  unfold foldB
  rw [List.foldl_append]; rfl
theorem take_snoc {α : Type} (l : List α) (j : Nat) (z : α) (h : j < l.length) : l.take (j + 1) = l.take j ++ [l.getD j z] := by
  rw [List.take_add_one]
  simp [h]
theorem infoI6 : (Try.prog.info? 3).map (fun i => (i.zero, i.size, i.bytes)) = some (some (.int .i64 0), 1, 8) := by kernel_rfl
set_option maxHeartbeats 8000000 in
set_option maxRecDepth 100000 in
theorem rchamps_calls (A : Option Addr) (k c : Nat) (ds : List Ds) (f : Ds → List Int) (most : Int) (w : World) (h : dSl.C w A k ds) (ht : Tls w f ds) (hk : k ≤ 12) :
    Calls Try.prog 11 #[.slice A k c, .int .i64 most] w fun e w' => ∃ v, e = .returned v ∧ Kd.R (Kd.int .i64) 3 w' w.heap.size (fun _ => True) (v) (champs (min most 8).toNat (ds.map f)) ∧ Below w.heap.size w w' := by
  have H := Aside0.mk h
  have HT := Aside0.mk ht
  have hl : ds.length = k := h.1
  obtain ⟨M, hM⟩ : ∃ M, M = (min most 8).toNat := ⟨_, rfl⟩
  rw [← hM]
  have hM8 : M ≤ 8 := by omega
  have HM := Aside0.mk hM
  clear hM
  have HB0 := Aside0.mk (below_alloc (Below.refl w.heap.size w) (.cells #[] 3))
  have HR0 := Aside0.mk (Kd.R_lower (Kd.R_made_nil dSl (w.alloc (.cells #[] 3)) 24) (show w.heap.size ≤ (w.alloc (.cells #[] 3)).heap.size by simp))
  rw [World.size_alloc] at HR0
  have HO0 := Aside0.mk (Kd.R_alloc (Kd.R_made_nil (Kd.int .i64) w 3) (.cells #[] 24))
  clear h ht
  go_enter Try.func11, Try.ntmps11
  go_wp2_with ((with_reducible refine gate_builtin (b := .append) (xs := #[.tmp 17, .tmp 18]) rfl ?_); at_builtin; refine app dSl flat_sl w.heap.size (w0 := w) (.tmp 17) (.tmp 18) 22 24 _ 24 rfl rfl Try.underlying22 infoSl rfl (by decide) (by decide) _ [] ds A k c rfl rfl ?aO ?aR ?aB ?aS ?aL ?_; (case aO => exact HR0.out); (case aR => exact (Kd.C_below H.out (by repeat (first | (with_reducible first | exact HB0.out | apply below_alloc | apply pw_below_drewN | apply below_drew1) | exact HB0.out)))); (case aB => exact (by repeat (first | (with_reducible first | exact HB0.out | apply below_alloc | apply pw_below_drewN | apply below_drew1) | exact HB0.out))); (case aS => exact (below_size (by repeat (first | (with_reducible first | exact HB0.out | apply below_alloc | apply pw_below_drewN | apply below_drew1) | exact HB0.out)))); (case aL => exact (by simp; omega)); intro v1 w1 ho1 hb1 hg1 hat1; have HL1 := Aside0.mk (show Kd.R dSl 24 w1 w.heap.size (fun _ => True) v1 ds from by simpa using ho1); have HB1 := Aside0.mk hb1; have HO1 := Aside0.mk (Kd.R_over' HO0.out (Kd.R_typed HR0.out) (by decide) hg1); clear ho1 hb1 hg1 hat1)
  go_loopg [5, 6] (M + 1) (fun gk v5 v6 wr => ∃ (outs : List Int) (ds' : List Ds) (m : Nat), Aside0 (gk = m + 1) ∧ Aside0 (Kd.R (Kd.int .i64) 3 wr w.heap.size (fun _ => True) (v5) (outs)) ∧ Aside0 (Kd.R dSl 24 wr w.heap.size (fun _ => True) (v6) (ds')) ∧ Aside0 (∀ d ∈ ds', d ∈ ds) ∧ Aside0 (ds'.length ≤ 12) ∧
    Aside0 (champs M (ds.map f) = outs ++ champs m (ds'.map f)) ∧ outs.length + m = M ∧ Aside0 (Below w.heap.size w wr))
  case atStart => exact ⟨[], ds, M, ⟨rfl⟩, HO1, HL1, ⟨fun _ h => h⟩, ⟨by omega⟩, ⟨rfl⟩, by simp, HB1⟩
  case round =>
    clear HB1 HL1 HO1 HR0 HO0 HB0
    obtain ⟨outs, ds', m, HG, HO, HL, HS, HD, HCH, hlen, HB⟩ := hrel
    obtain ⟨Ao, co, rfl, hco, hro⟩ := Kd.R_reads HO.out
    obtain ⟨Al, cl, rfl, hcl, hrl⟩ := Kd.R_reads HL.out
    cases m with
    | zero =>
      have HCH2 := Aside0.mk (show champs M (ds.map f) = outs by rw [HCH.out, champs_zero, List.append_nil])
      by_cases hmo : most ≤ (outs.length : Int)
      · have h1 : decide ((outs.length : Int) < most) = false := by simp; omega
        go_wp2
        go_ret
        exact ⟨_, rfl, by rw [HCH2.out]; exact HO.out, HB.out⟩
      · have h1 : decide ((outs.length : Int) < most) = true := by simp; omega
        have h2 : decide ((outs.length : Int) < 8) = false := by have := HM.out; simp; omega
        go_wp2
        go_ret
        exact ⟨_, rfl, by rw [HCH2.out]; exact HO.out, HB.out⟩
    | succ m =>
      have h1 : decide ((outs.length : Int) < most) = true := by have := HM.out; simp; omega
      have h2 : decide ((outs.length : Int) < 8) = true := by have := HM.out; simp; omega
      obtain ⟨wo, rfl⟩ : ∃ X : World, X = wr := ⟨_, rfl⟩
      have HTr := Aside0.mk (show Tls wo f ds' from fun d hd => (HT.out d (HS.out d hd)).lower HB.out (Nat.le_refl _))
      have HRL := Aside0.mk hrl
      have hd12 := HD.out
      obtain ⟨ls, hls⟩ : ∃ ls, ls = ds'.map f := ⟨_, rfl⟩
      have hlsl : ls.length = ds'.length := by rw [hls]; simp
      have HLS := Aside0.mk hls
      have HCN := Aside0.mk (show ∀ x, cnt ls x ≤ 12 from fun x => by have := cnt_le ls x; omega)
      rw [← hls] at HCH
      have HLL := Aside0.mk hlsl
      clear hrl hls hlsl
      go_wp2
      go_loopg [7, 8, 9] (ds'.length + 1) (fun gi v7 v8 v9 wi => ∃ (i : Nat) (t : Int) (b : Bool), v7 = .bool b ∧ v8 = .int .i64 t ∧ v9 = .int .i64 i ∧ i ≤ ds'.length ∧ Aside0 (gi = ds'.length - i + 1) ∧ Aside0 (foldB ls (ls.take i).flatten = (t, b)) ∧ Aside0 (Below wo.heap.size wo wi))
      case atStart => exact ⟨0, 0, false, rfl, rfl, rfl, Nat.zero_le _, ⟨rfl⟩, ⟨rfl⟩, ⟨Below.refl _ _⟩⟩
      case round =>
        obtain ⟨i, t, b, rfl, rfl, rfl, hi, HGI, HF, HBI⟩ := hrel
        obtain ⟨wi, rfl⟩ : ∃ X : World, X = wr := ⟨_, rfl⟩
        by_cases hil : i < ds'.length
        · have hi1 : decide ((i : Int) < (ds'.length : Int)) = true := by simp; omega
          have hp1 : (0 : Int) ≤ (i : Int) := by omega
          have hp2 : (i : Int) < (ds'.length : Int) := by omega
          have hdm : ds'.getD i default ∈ ds' := by
            rw [show ds'.getD i default = ds'[i]'(by omega) from by simp [show i < ds'.length by omega]]
            exact List.getElem_mem _
          have HTD := Aside0.mk (HTr.out _ hdm)
          have HTK := Aside0.mk (show (ls.take (i + 1)).flatten = (ls.take i).flatten ++ f (ds'.getD i default) by
            rw [take_snoc ls i [] (by rw [HLL.out]; exact hil), List.flatten_append]
            rw [HLS.out]
            simp [hil])
          obtain ⟨ad, rfl, hq⟩ := at_sl HRL.out i hil
          have hq := fun (W : World) (hW : Below wo.heap.size wo W) => (hW.cell (p := ad.add i) (World.block_lt_of_cell? _ _ hq)).trans hq
          have HQ := Aside0.mk hq
          clear hq hdm
          generalize ds'.getD i default = d at *
          generalize f d = l at *
          have hll : l.length = d.n := HTD.out.row.1
          have hn12 := HTD.out.few
          have HRW := Aside0.mk HTD.out.row
          have HWF := Aside0.mk HTD.out.wf
          clear HTD
          generalize d.a = da at *
          generalize d.n = dn at *
          generalize d.c = dc at *
          have HF0 := HF
          have HBI0 := HBI
          have HGI0 := HGI
          clear HF HBI HGI
          go_wp2
          go_loopg [7, 8, 10] (dn + 1) (fun gi v7 v8 v10 wi => ∃ (j : Nat) (t : Int) (b : Bool), v7 = .bool b ∧ v8 = .int .i64 t ∧ v10 = .int .i64 j ∧ j ≤ dn ∧ Aside0 (gi = dn - j + 1) ∧ Aside0 (foldB ls ((ls.take i).flatten ++ l.take j) = (t, b)) ∧ Aside0 (Below wo.heap.size wo wi))
          case atStart => exact ⟨0, t, b, rfl, rfl, rfl, Nat.zero_le _, ⟨rfl⟩, ⟨by simpa using HF0.out⟩, HBI0⟩
          case round =>
            obtain ⟨j, t, b, rfl, rfl, rfl, hj, HGI, HF, HBI⟩ := hrel
            obtain ⟨wj, rfl⟩ : ∃ X : World, X = wr := ⟨_, rfl⟩
            have hq1 := HQ.out wj HBI.out
            by_cases hjl : j < dn
            ·
              have hj1 : decide ((j : Int) < (dn : Int)) = true := by simp; omega
              have hr1 : (0 : Int) ≤ (j : Int) := by omega
              have hr2 : (j : Int) < (dn : Int) := by omega
              obtain ⟨ad2, rfl, hc2⟩ := Kd.at_int (Kd.C_below HRW.out HBI.out) (j : Int) hr1 hr2
              rw [Int.toNat_natCast] at hc2
              have hx : rd l (j : Int) = l.getD j 0 := rfl
              rw [hx] at hc2
              have HF2 := Aside0.mk (show foldB ls ((ls.take i).flatten ++ l.take (j + 1)) = stepB ls (t, b) (l.getD j 0) by
                rw [take_snoc l j 0 (by omega), ← List.append_assoc, foldB_snoc, HF.out])
              generalize l.getD j 0 = x at *
              clear hx HF
              have HVX := Aside0.mk (fun W (hW : Below wo.heap.size wo W) => votes_calls (some ad) ds'.length cl ds' f x W (Kd.C_below HRL.out hW) (HTr.out.below hW (Nat.le_refl _)) hd12)
              have HVT := Aside0.mk (fun W (hW : Below wo.heap.size wo W) => votes_calls (some ad) ds'.length cl ds' f t W (Kd.C_below HRL.out hW) (HTr.out.below hW (Nat.le_refl _)) hd12)
              rw [← HLS.out] at HVX HVT
              unfold stepB at HF2
              generalize hcx : cnt ls x = cx at *
              generalize hct : cnt ls t = ct at *
              cases b with
              | false =>
                have HF3 := Aside0.mk (HF2.out.trans (if_pos (.inl rfl)))
                clear HF2
                go_wp2_with (first
                  | (go_at_call 31; (with_reducible refine (HVX.out _ HBI.out).mono ?_); rintro e w' ⟨rfl, hb4⟩; have HB4 := Aside0.mk (below_then HBI.out HBI.out.size hb4); clear hb4)
                  | (go_at_call 31; (with_reducible refine (HVT.out _ HB4.out).mono ?_); rintro e w' ⟨rfl, hb4⟩; have HB5 := Aside0.mk (below_then HB4.out HB4.out.size hb4); clear hb4))
                go_roundg (dn - (j + 1) + 1)
                case measure => have := HGI.out; omega
                case rel => exact ⟨j + 1, x, true, rfl, rfl, by go_num, by omega, ⟨rfl⟩, HF3, HB5⟩
              | true =>
                rcases Int.lt_trichotomy (ct : Int) (cx : Int) with hlt3 | heq3 | hgt3
                · have HF3 := Aside0.mk (HF2.out.trans (if_pos (.inr (.inl (by show ct < cx; omega)))))
                  have g1 : decide ((ct : Int) < (cx : Int)) = true := decide_eq_true hlt3
                  clear HF2
                  go_wp2_with (first
                    | (go_at_call 31; (with_reducible refine (HVX.out _ HBI.out).mono ?_); rintro e w' ⟨rfl, hb4⟩; have HB4 := Aside0.mk (below_then HBI.out HBI.out.size hb4); clear hb4)
                    | (go_at_call 31; (with_reducible refine (HVT.out _ HB4.out).mono ?_); rintro e w' ⟨rfl, hb4⟩; have HB5 := Aside0.mk (below_then HB4.out HB4.out.size hb4); clear hb4))
                  go_roundg (dn - (j + 1) + 1)
                  case measure => have := HGI.out; omega
                  case rel => exact ⟨j + 1, x, true, rfl, rfl, by go_num, by omega, ⟨rfl⟩, HF3, HB5⟩
                · have h1 : ct = cx := by omega
                  subst h1
                  have g1 : decide ((ct : Int) < (ct : Int)) = false := by simp
                  have g2 : ((ct : Int) == (ct : Int)) = true := by simp
                  by_cases htx : t < x
                  · have HF3 := Aside0.mk (HF2.out.trans (if_pos (.inr (.inr ⟨rfl, htx⟩))))
                    have g3 : decide (t < x) = true := decide_eq_true htx
                    clear HF2
                    go_wp2_with (first
                      | (go_at_call 31; (with_reducible refine (HVX.out _ HBI.out).mono ?_); rintro e w' ⟨rfl, hb4⟩; have HB4 := Aside0.mk (below_then HBI.out HBI.out.size hb4); clear hb4)
                      | (go_at_call 31; (with_reducible refine (HVT.out _ HB4.out).mono ?_); rintro e w' ⟨rfl, hb4⟩; have HB5 := Aside0.mk (below_then HB4.out HB4.out.size hb4); clear hb4))
                    go_roundg (dn - (j + 1) + 1)
                    case measure => have := HGI.out; omega
                    case rel => exact ⟨j + 1, x, true, rfl, rfl, by go_num, by omega, ⟨rfl⟩, HF3, HB5⟩
                  · have HF3 := Aside0.mk (HF2.out.trans (if_neg (by simp only [not_or]; exact ⟨by simp, by show ¬ ct < ct; omega, fun h => htx h.2⟩)))
                    have g3 : decide (t < x) = false := decide_eq_false htx
                    clear HF2
                    go_wp2_with (first
                      | (go_at_call 31; (with_reducible refine (HVX.out _ HBI.out).mono ?_); rintro e w' ⟨rfl, hb4⟩; have HB4 := Aside0.mk (below_then HBI.out HBI.out.size hb4); clear hb4)
                      | (go_at_call 31; (with_reducible refine (HVT.out _ HB4.out).mono ?_); rintro e w' ⟨rfl, hb4⟩; have HB5 := Aside0.mk (below_then HB4.out HB4.out.size hb4); clear hb4))
                    go_roundg (dn - (j + 1) + 1)
                    case measure => have := HGI.out; omega
                    case rel => exact ⟨j + 1, t, true, rfl, rfl, by go_num, by omega, ⟨rfl⟩, HF3, HB5⟩
                · have HF3 := Aside0.mk (HF2.out.trans (if_neg (by simp only [not_or]; exact ⟨by simp, by show ¬ ct < cx; omega, fun h => by have h2 : cx = ct := h.1; omega⟩)))
                  have g1 : decide ((ct : Int) < (cx : Int)) = false := by simp; omega
                  have g2 : ((cx : Int) == (ct : Int)) = false := by simp; omega
                  clear HF2
                  go_wp2_with (first
                    | (go_at_call 31; (with_reducible refine (HVX.out _ HBI.out).mono ?_); rintro e w' ⟨rfl, hb4⟩; have HB4 := Aside0.mk (below_then HBI.out HBI.out.size hb4); clear hb4)
                    | (go_at_call 31; (with_reducible refine (HVT.out _ HB4.out).mono ?_); rintro e w' ⟨rfl, hb4⟩; have HB5 := Aside0.mk (below_then HB4.out HB4.out.size hb4); clear hb4))
                  go_roundg (dn - (j + 1) + 1)
                  case measure => have := HGI.out; omega
                  case rel => exact ⟨j + 1, t, true, rfl, rfl, by go_num, by omega, ⟨rfl⟩, HF3, HB5⟩
            · obtain rfl : j = dn := by omega
              have hj1 : decide ((j : Int) < (j : Int)) = false := by simp
              rw [show l.take j = l from List.take_of_length_le (by omega)] at HF
              go_wp2
              go_roundg (ds'.length - (i + 1) + 1)
              case measure => have := HGI0.out; omega
              case rel => exact ⟨i + 1, t, b, rfl, rfl, by go_num, by omega, ⟨rfl⟩, ⟨by rw [HTK.out]; exact HF.out⟩, HBI⟩
        · obtain rfl : i = ds'.length := by omega
          have hi1 : decide ((ds'.length : Int) < (ds'.length : Int)) = false := by simp
          have hbf : bestF ls = (t, b) := by
            have h3 := HF.out
            rw [show ls.take ds'.length = ls from List.take_of_length_le (by rw [HLL.out]; exact Nat.le_refl _)] at h3
            exact h3
          have HBw := Aside0.mk (below_then HB.out HB.out.size HBI.out)
          have HO5 := Aside0.mk (Kd.R_below HO.out HBI.out)
          have HL5 := Aside0.mk (Kd.R_below HL.out HBI.out)
          cases b with
          | false =>
            have HCH2 := Aside0.mk (show champs M (ds.map f) = outs by rw [HCH.out, champs_none _ (by rw [hbf]), List.append_nil])
            clear HCH hbf HF
            go_wp2
            go_ret
            exact ⟨_, rfl, by rw [HCH2.out]; exact HO5.out, HBw.out⟩
          | true =>
            have HCH2 := Aside0.mk (show champs M (ds.map f) = (outs ++ [t]) ++ champs m ((ds'.filter (fun d => !decide (t ∈ f d))).map f) by
              rw [HCH.out, champs_more m hbf, List.append_assoc, HLS.out, List.filter_map]; rfl)
            clear HCH hbf HF
            go_wp2_with ((with_reducible refine gate_builtin (b := .append) (xs := #[.tmp 77, .tmp 79]) rfl ?_); at_builtin; refine app1 (Kd.int .i64) (flat_int _) w.heap.size (w0 := w) (.tmp 77) (.tmp 79) 24 3 (.int .i64 0) 8 rfl rfl Try.underlying24 infoI6 rfl (by decide) (by decide) _ outs t [.int .i64 t] rfl rfl ?aP ?aO ?aB ?aS ?aL ?_; (case aP => first | exact rfl | exact ⟨trivial, rfl⟩ | exact ⟨HOK.out, rfl⟩); (case aO => exact HO5.out); (case aB => exact (by repeat (first | (with_reducible first | exact HBw.out | apply below_alloc | apply pw_below_drewN | apply below_drew1) | exact HBw.out))); (case aS => exact (below_size (by repeat (first | (with_reducible first | exact HBw.out | apply below_alloc | apply pw_below_drewN | apply below_drew1) | exact HBw.out)))); (case aL => exact (by omega)); intro v6 w6 ho6 hb6 hg6 hat6; have HO6 := Aside0.mk ho6; have HB6 := Aside0.mk hb6; have HL6 := Aside0.mk (Kd.R_over' HL5.out (Kd.R_typed HO5.out) (by decide) hg6); clear ho6 hb6 hg6 hat6)
            have HRL6 := Aside0.mk (Kd.R_reads' HL6.out).2.2
            have HT6 := Aside0.mk (show Tls w6 f ds' from fun d hd => (HT.out d (HS.out d hd)).lower HB6.out (Nat.le_refl _))
            have HN6 := Aside0.mk (Kd.R_made_nil dSl w6 24)
            clear HBI HBw HO5 HL5 HGI HTr HRL HCN HLS HLL
            go_loopg [14, 15] (ds'.length + 1) (fun gi v14 v15 wi => ∃ i : Nat, v15 = .int .i64 i ∧ i ≤ ds'.length ∧ Aside0 (gi = ds'.length - i + 1) ∧ Aside0 (Kd.R dSl 24 wi w6.heap.size (fun _ => True) (v14) ((ds'.take i).filter (fun d => !decide (t ∈ f d)))) ∧ Aside0 (Below w6.heap.size w6 wi))
            case atStart => exact ⟨0, rfl, Nat.zero_le _, ⟨rfl⟩, ⟨by rw [List.take_zero]; exact HN6.out⟩, ⟨below_alloc (Below.refl _ _) _⟩⟩
            case round =>
              obtain ⟨i, rfl, hi, HGI, HRS, HBI⟩ := hrel
              obtain ⟨wi, rfl⟩ : ∃ X : World, X = wr := ⟨_, rfl⟩
              obtain ⟨Ar, cr, rfl, hcr, hrr⟩ := Kd.R_reads HRS.out
              clear hrr
              by_cases hil : i < ds'.length
              · have hi1 : decide ((i : Int) < (ds'.length : Int)) = true := by simp; omega
                have hp1 : (0 : Int) ≤ (i : Int) := by omega
                have hp2 : (i : Int) < (ds'.length : Int) := by omega
                have hdm : ds'.getD i default ∈ ds' := by
                  rw [show ds'.getD i default = ds'[i]'(by omega) from by simp [show i < ds'.length by omega]]
                  exact List.getElem_mem _
                have HTD := Aside0.mk (HT6.out _ hdm)
                have HTK := Aside0.mk (take_snoc ds' i default hil)
                have hfl : ((ds'.take i).filter (fun d => !decide (t ∈ f d))).length ≤ 12 := Nat.le_trans (List.length_filter_le _ _) (by rw [List.length_take]; omega)
                obtain ⟨ad, rfl, hq⟩ := at_sl HRL6.out i hil
                have hq := fun (W : World) (hW : Below w6.heap.size w6 W) => (hW.cell (p := ad.add i) (World.block_lt_of_cell? _ _ hq)).trans hq
                have HQ := Aside0.mk hq
                have hq1 := hq wi HBI.out
                clear hq hdm
                generalize ds'.getD i default = d at *
                have HIN := Aside0.mk (in_calls d.a d.n d.c (f d) t wi (Kd.C_below HTD.out.row HBI.out))
                cases he : decide (t ∈ f d) with
                | true =>
                  have HF9 := Aside0.mk (show (ds'.take (i + 1)).filter (fun d => !decide (t ∈ f d)) = (ds'.take i).filter (fun d => !decide (t ∈ f d)) by
                    rw [HTK.out, List.filter_append, List.filter_cons_of_neg (by rw [he]; simp)]; simp)
                  rw [he] at HIN
                  clear he HTK HTD
                  obtain ⟨da, dn, dc⟩ := d
                  simp only at *
                  go_wp2_with (go_at_call 32; (with_reducible refine (HIN.out).mono ?_); rintro e w' ⟨rfl, hb4⟩; have HB4 := Aside0.mk (below_then HBI.out HBI.out.size hb4); have HR4 := Aside0.mk (Kd.R_below HRS.out hb4); clear hb4)
                  go_roundg (ds'.length - (i + 1) + 1)
                  case measure => have := HGI.out; omega
                  case rel => exact ⟨i + 1, by go_num, by omega, ⟨rfl⟩, ⟨by rw [HF9.out]; exact HR4.out⟩, HB4⟩
                | false =>
                  have HF9 := Aside0.mk (show (ds'.take (i + 1)).filter (fun d => !decide (t ∈ f d)) = (ds'.take i).filter (fun d => !decide (t ∈ f d)) ++ [d] by
                    rw [HTK.out, List.filter_append, List.filter_cons_of_pos (by rw [he]; simp)]; simp)
                  rw [he] at HIN
                  clear he HTK HTD
                  generalize (ds'.take i).filter (fun d => !decide (t ∈ f d)) = fl at *
                  obtain ⟨da, dn, dc⟩ := d
                  simp only at *
                  go_wp2_with (first
                    | (go_at_call 32; (with_reducible refine (HIN.out).mono ?_); rintro e w' ⟨rfl, hb4⟩; have HB4 := Aside0.mk (below_then HBI.out HBI.out.size hb4); have HR4 := Aside0.mk (Kd.R_below HRS.out hb4); have hq4 := HQ.out _ HB4.out; clear hb4)
                    | ((with_reducible refine gate_builtin (b := .append) (xs := #[.tmp 95, .tmp 100]) rfl ?_); at_builtin; refine app1 dSl flat_sl w6.heap.size (w0 := w6) (.tmp 95) (.tmp 100) 22 24 _ 24 rfl rfl Try.underlying22 infoSl rfl (by decide) (by decide) _ fl (⟨da, dn, dc⟩ : Ds) [.slice da dn dc] rfl rfl ?aP ?aO ?aB ?aS ?aL ?_; (case aP => first | exact rfl | exact ⟨trivial, rfl⟩ | exact ⟨HOK.out, rfl⟩); (case aO => exact HR4.out); (case aB => exact (by repeat (first | (with_reducible first | exact HB4.out | apply below_alloc | apply pw_below_drewN | apply below_drew1) | exact HB4.out))); (case aS => exact (below_size (by repeat (first | (with_reducible first | exact HB4.out | apply below_alloc | apply pw_below_drewN | apply below_drew1) | exact HB4.out)))); (case aL => exact (by omega)); intro v7 w7 ho7 hb7 hg7 hat7; have HR7 := Aside0.mk ho7; have HB7 := Aside0.mk hb7; clear ho7 hb7 hg7 hat7))
                  go_roundg (ds'.length - (i + 1) + 1)
                  case measure => have := HGI.out; omega
                  case rel => exact ⟨i + 1, by go_num, by omega, ⟨rfl⟩, ⟨by rw [HF9.out]; exact HR7.out⟩, HB7⟩
              · obtain rfl : i = ds'.length := by omega
                have hi2 : decide ((ds'.length : Int) < (ds'.length : Int)) = false := by simp
                rw [show ds'.take ds'.length = ds' from List.take_of_length_le (Nat.le_refl _)] at HRS hcr ⊢
                go_wp2
                go_roundg (m + 1)
                case measure => have := HG.out; omega
                case rel => exact ⟨outs ++ [t], ds'.filter (fun d => !decide (t ∈ f d)), m, ⟨rfl⟩, ⟨Kd.R_below HO6.out HBI.out⟩, ⟨Kd.R_lower HRS.out HB6.out.size⟩, ⟨fun d hd => HS.out d (List.mem_filter.1 hd).1⟩, ⟨Nat.le_trans (List.length_filter_le _ _) HD.out⟩, HCH2, by rw [List.length_append]; show _ + 1 + _ = _; omega, ⟨below_then HB6.out HB6.out.size HBI.out⟩⟩
end Go.Proofs.Ytkobolgbmfhpgaa.SgX
