/- segment.best: the number that stands in most lists; condition: few lists, each short. -/
import Derived.Test.YtkobolgbmfhpgaaSgB
import Derived.Maps.RangeWalk
import Derived.Maps.OwnOps
import Derived.Maps.Views
namespace Go.Proofs.Ytkobolgbmfhpgaa.SgV
open Go Go.RowKit Go.Maps Go.Proofs.YtkobolgbmfhpgaaW.PrintWords Go.Proofs.Ytkobolgbmfhpgaa.K Go.Proofs.Ytkobolgbmfhpgaa.SgC Go.Proofs.Ytkobolgbmfhpgaa.SgL Go.Proofs.Ytkobolgbmfhpgaa.SgB
set_option linter.unusedVariables false
set_option linter.unusedSimpArgs false
theorem kI : Keyed Try.prog 3 := int_keyed Try.underlying3
noncomputable abbrev RI (v : Value) : Option (DataW Nat × List MemPlace) := plainElem Try.prog 3 v
theorem infoInt6 : (Try.prog.info? 3).map (fun i => (i.zero, i.size, i.bytes)) = some (some (.int .i64 0), 1, 8) := by kernel_rfl
/-- The map of the votes answers g. -/
structure Vt (D : DataW Nat) (g : Int → Nat) : Prop where
  is : IsMap D
  at_ : ∀ n, (Lit.int .i64 n).wf = true → D.atKey (.int .i64 n) (.lit (.int .i64 0)) = .lit (.int .i64 (g n : Nat))
  has_ : ∀ n, (Lit.int .i64 n).wf = true → has D (.int .i64 n) = decide (0 < g n)
theorem lit_inj {a b : Int} (h : (DataW.lit (.int .i64 a) : DataW Nat) = .lit (.int .i64 b)) : a = b := by
  injection h with h
  injection h
theorem Vt.empty : Vt (.map []) (fun _ => 0) := ⟨isMap_empty, fun _ _ => rfl, fun _ _ => rfl⟩
theorem Vt.as {D : DataW Nat} {g g' : Int → Nat} (h : Vt D g) (e : ∀ n, g' n = g n) : Vt D g' := by
  obtain rfl : g' = g := funext e
  exact h
theorem Vt.put {D : DataW Nat} {g g' : Int → Nat} (h : Vt D g) (n : Int) (hs : g' n = g n + 1) (ho : ∀ m, m ≠ n → g' m = g m) : Vt (D.put (.int .i64 n) (.lit (.int .i64 ((g n : Nat) + 1)))) g' := by
  have hne : ∀ m, m ≠ n → (Lit.int .i64 m) ≠ Lit.int .i64 n := fun m hm e => hm (by injection e)
  refine ⟨h.is.put _ _, fun m hm => ?_, fun m hm => ?_⟩
  · by_cases e : m = n
    · subst e
      rw [atKey_put_same (k := .int .i64 m) h.is trivial, hs]; simp
    · rw [atKey_put_other (hne m e), ho m e]; exact h.at_ m hm
  · by_cases e : m = n
    · subst e
      rw [has_put_same (k := .int .i64 m) h.is trivial, hs]; simp
    · rw [has_put_other (hne m e), ho m e]; exact h.has_ m hm
theorem best_calls (A : Option Addr) (k c : Nat) (ds : List Ds) (f : Ds → List Int) (w : World) (h : dSl.C w A k ds) (ht : Tls w f ds) (hk : k ≤ 12) :
    Calls Try.prog 27 #[.slice A k c] w fun e w' => e = .returned (.tuple #[.int .i64 (bestF (ds.map f)).1, .bool (bestF (ds.map f)).2]) ∧ Below w.heap.size w w' := by
  have hmm := @run_makeMap Try.prog
  have H := Aside0.mk h
  have HT := Aside0.mk ht
  have hl : ds.length = k := h.1
  clear h ht
  go_enter Try.func27, Try.ntmps27
  go_wp2
  go_loopg [16] (k + 1) (fun gk v16 wr => ∃ (i : Nat) (D : DataW Nat), v16 = .int .i64 i ∧ i ≤ k ∧ Aside0 (gk = k - i + 1) ∧ Aside0 (wr.ownsMap Try.prog 3 RI w.heap.size (12 * i) D) ∧ Aside0 (Vt D (cnt ((ds.take i).map f))) ∧ Aside0 (Below w.heap.size w wr))
  case atStart => exact ⟨0, .map [], rfl, Nat.zero_le _, ⟨rfl⟩, ⟨World.ownsMap_made _ _ _ _⟩, ⟨Vt.empty⟩, ⟨by repeat (first | exact Below.refl _ _ | apply below_alloc)⟩⟩
  case round =>
    obtain ⟨i, D, rfl, hi, HG, HO, HV, HB⟩ := hrel
    by_cases hlt : i < k
    · have h1 : decide ((i : Int) < (k : Int)) = true := by simp; omega
      have hp1 : (0 : Int) ≤ (i : Int) := by omega
      have hp2 : (i : Int) < (k : Int) := by omega
      obtain ⟨ad, rfl, hc⟩ := at_sl (Kd.C_below H.out HB.out) i hlt
      have hd : ds.getD i default ∈ ds := by
        rw [show ds.getD i default = ds[i]'(by omega) from by simp [show i < ds.length by omega]]
        exact List.getElem_mem _
      have HL := Aside0.mk (HT.out _ hd)
      have HTK := Aside0.mk (show ∀ n, cnt ((ds.take (i + 1)).map f) n = cnt ((ds.take i).map f) n + if n ∈ f (ds.getD i default) then 1 else 0 by
        intro n
        rw [List.take_add_one]
        simp only [show i < ds.length by omega, List.getElem?_eq_getElem, Option.toList_some, List.map_append, List.map_cons, List.map_nil]
        rw [cnt_snoc]
        simp [show i < ds.length by omega])
      have HCL := Aside0.mk (show ∀ n, cnt ((ds.take i).map f) n ≤ 12 by
        intro n
        have hcl := cnt_le ((ds.take i).map f) n
        simp only [List.length_map, List.length_take] at hcl
        omega)
      generalize ds.getD i default = d at *
      generalize hg0 : cnt ((ds.take i).map f) = g0 at *
      generalize hg1 : cnt ((ds.take (i + 1)).map f) = g1 at *
      clear hd hg0
      generalize hfl : f d = l at *
      have hln : l.length = d.n := HL.out.row.1
      have hn12 := HL.out.few
      have hcap := HL.out.cap
      have HR := Aside0.mk HL.out.row
      have HWF := Aside0.mk HL.out.wf
      clear HL hfl
      generalize d.a = da at *
      generalize d.n = dn at *
      generalize d.c = dc at *
      go_wp2
      go_loopg [22] (dn + 1) (fun gk v22 wr => ∃ (j : Nat) (D : DataW Nat), v22 = .int .i64 j ∧ j ≤ dn ∧ Aside0 (gk = dn - j + 1) ∧ Aside0 (wr.ownsMap Try.prog 3 RI w.heap.size (12 * i + j) D) ∧ Aside0 (Vt D (fun n => g0 n + if n ∈ l.take j then 1 else 0)) ∧ Aside0 (Below w.heap.size w wr))
      case atStart => exact ⟨0, D, rfl, Nat.zero_le _, ⟨rfl⟩, ⟨HO.out⟩, ⟨HV.out.as (fun n => by simp)⟩, ⟨(by repeat (first | (with_reducible first | exact HB.out | apply below_alloc | apply pw_below_drewN | apply below_drew1) | exact HB.out))⟩⟩
      case round =>
        have HGo := HG
        clear HV HO HG HB hc D
        obtain ⟨j, D, rfl, hj, HG, HO, HV, HB⟩ := hrel
        by_cases hjl : j < dn
        · have h2 : decide ((j : Int) < (dn : Int)) = true := by simp; omega
          have hq1 : (0 : Int) ≤ (j : Int) := by omega
          have hq2 : (j : Int) < (dn : Int) := by omega
          obtain ⟨ad2, rfl, hc2⟩ := Kd.at_int (Kd.C_below HR.out HB.out) (j : Int) hq1 hq2
          rw [Int.toNat_natCast] at hc2
          have hx : rd l (j : Int) = l.getD j 0 := rfl
          rw [hx] at hc2
          have HTJ := Aside0.mk (show l.take (j + 1) = l.take j ++ [l.getD j 0] by
            rw [List.take_add_one]
            simp [show j < l.length from by omega])
          have hwf : (Lit.int .i64 (l.getD j 0)).wf = true := by
            apply HWF.out
            rw [show l.getD j 0 = l[j]'(by omega) from by simp [show j < l.length by omega]]
            exact List.getElem_mem _
          generalize l.getD j 0 = x at *
          clear hx
          have hCut := cutH (Kd.int .i64) 24 3 Try.underlying24 infoInt6 (some ad2) dn dc j (by omega) hcap
          have HCT := Aside0.mk (fun W hB => contains_calls (some ad2) j dc (l.take j) x W (Kd.C_below (hCut.2 _ _ HR.out) hB))
          have hcut := hCut.1
          clear hCut
          by_cases hin : x ∈ l.take j
          · have het : decide (x ∈ l.take j) = true := decide_eq_true hin
            rw [het] at HCT
            have HIN := Aside0.mk hin
            clear het hin
            go_wp2_with (go_at_call 30; (with_reducible refine (HCT.out _ (by repeat (first | (with_reducible first | exact HB.out | apply below_alloc | apply pw_below_drewN | apply below_drew1) | exact HB.out))).mono ?_); rintro e w' ⟨rfl, hb4⟩; have HB4 := Aside0.mk (below_then (by repeat (first | (with_reducible first | exact HB.out | apply below_alloc | apply pw_below_drewN | apply below_drew1) | exact HB.out)) (below_size (by repeat (first | (with_reducible first | exact HB.out | apply below_alloc | apply pw_below_drewN | apply below_drew1) | exact HB.out))) hb4); have HO4 := Aside0.mk (HO.out.kept (grown_of_below hb4 none) (by simp)); clear hb4)
            go_roundg (dn - (j + 1) + 1)
            case measure => have := HG.out; omega
            case rel => exact ⟨j + 1, D, by go_num, by omega, ⟨rfl⟩, ⟨HO4.out.mono (by omega)⟩, ⟨HV.out.as (fun y => by
              rw [HTJ.out]
              by_cases e : y = x
              · subst e; simp [HIN.out]
              · simp [e])⟩, ⟨(by repeat (first | (with_reducible first | exact HB4.out | apply below_alloc | apply pw_below_drewN | apply below_drew1) | exact HB4.out))⟩⟩
          · have het : decide (x ∈ l.take j) = false := decide_eq_false hin
            rw [het] at HCT
            have HIN := Aside0.mk hin
            have hgx := HV.out.at_ x hwf
            simp only [hin, if_false, Nat.add_zero] at hgx
            have hg12 := HCL.out x
            generalize hgg : g0 x = gx at hgx hg12
            have hgwf : (Lit.int .i64 ((gx : Int) + 1)).wf = true := by have := wrap64_wf ((gx : Int) + 1); rwa [show wrap64 ((gx : Int) + 1) = (gx : Int) + 1 by unfold wrap64; omega] at this
            have HV2 := Aside0.mk (show Vt (D.put (.int .i64 x) (.lit (.int .i64 ((gx : Nat) + 1)))) (fun n => g0 n + if n ∈ l.take (j + 1) then 1 else 0) from by
              have h3 := HV.out.put (g' := fun n => g0 n + if n ∈ l.take (j + 1) then 1 else 0) x (by rw [HTJ.out]; simp [HIN.out]) (fun y hy => by rw [HTJ.out]; simp [hy])
              simp only [hin, if_false, Nat.add_zero, hgg] at h3
              exact h3)
            clear het hin
            have hkey := keyOf_int_mk Try.underlying3 hwf
            go_wp2_with (first
              | (go_at_call 30; (with_reducible refine (HCT.out _ (by repeat (first | (with_reducible first | exact HB.out | apply below_alloc | apply pw_below_drewN | apply below_drew1) | exact HB.out))).mono ?_); rintro e w' ⟨rfl, hb4⟩; have HB4 := Aside0.mk (below_then (by repeat (first | (with_reducible first | exact HB.out | apply below_alloc | apply pw_below_drewN | apply below_drew1) | exact HB.out)) (below_size (by repeat (first | (with_reducible first | exact HB.out | apply below_alloc | apply pw_below_drewN | apply below_drew1) | exact HB.out))) hb4); have HO4 := Aside0.mk (HO.out.kept (grown_of_below hb4 none) (by simp)); clear hb4)
              | (at_lookup; refine wpList_lookup_own_int _ rfl _ _ 73 rfl 3 3 .i64 kI Try.underlying73 Try.underlying3 (Try.zeroValue3 _) w.heap.size (12 * i + j) _ rfl HO4.out _ _ rfl hkey ?_; intro c1 hat hwc; obtain rfl : c1 = (gx : Nat) := (lit_inj (hat.symm.trans hgx)))
              | (at_mapUpdate; go_loud (refine wpList_mapUpdate_own _ rfl _ _ _ 73 rfl 3 3 kI Try.underlying73 _ w.heap.size (12 * i + j) _ rfl HO4.out (Nat.lt_of_lt_of_le (show 12 * i + j < 1000 by omega) (by simp [maxLen])) _ _ _ rfl rfl hkey _ [] (plainElem_int Try.underlying3 hgwf) ?_); intro w1 hown1 hgrow1)
              | go_in)
            go_roundg (dn - (j + 1) + 1)
            case measure => have := HG.out; omega
            case rel => exact ⟨j + 1, _, by go_num, by omega, ⟨rfl⟩, ⟨hown1⟩, HV2, ⟨HB4.out.grown hgrow1 HB4.out.size (fun k hk => by cases hk; exact Nat.le_refl _)⟩⟩
        · obtain rfl : j = dn := by omega
          have h2 : decide ((j : Int) < (j : Int)) = false := by simp
          rw [List.take_of_length_le (by omega)] at HV
          go_wp2
          go_roundg (k - (i + 1) + 1)
          case measure => have := HGo.out; omega
          case rel => exact ⟨i + 1, D, by go_num, by omega, ⟨rfl⟩, ⟨HO.out.mono (by omega)⟩, ⟨by rw [hg1]; exact HV.out.as HTK.out⟩, ⟨(by repeat (first | (with_reducible first | exact HB.out | apply below_alloc | apply pw_below_drewN | apply below_drew1) | exact HB.out))⟩⟩
    · obtain rfl : i = k := by omega
      have h1 : decide ((i : Int) < (i : Int)) = false := by simp
      rw [List.take_of_length_le (by omega)] at HV
      have HWF := Aside0.mk (show ∀ x, 0 < cnt (ds.map f) x → (Lit.int .i64 x).wf = true from fun x hx => by
        obtain ⟨l, hl1, hx1⟩ := (cnt_pos _ _).1 hx
        obtain ⟨d, hd, rfl⟩ := List.mem_map.1 hl1
        exact (HT.out d hd).wf x hx1)
      obtain ⟨ls, hls⟩ : ∃ ls, ls = ds.map f := ⟨_, rfl⟩
      rw [← hls] at HV HWF
      clear HT
      go_wp2_with (first
        | (at_range; refine wpList_range_own _ rfl _ 73 rfl 3 3 kI Try.underlying73 _ w.heap.size (12 * i) _ rfl HO.out ?_; intro w0 hrg0 hg0 hs0)
        | go_in)
      go_frame
      have HB0 := Aside0.mk ((show Below w.heap.size w wr from HB.out).grown hg0 HB.out.size (fun k hk => by cases hk))
      generalize hr : wr.heap.size = r at *
      go_loopw [9, 10] (fun v9 v10 W => ∃ (left : Lit → Bool) (n : Nat) (t : Int) (b : Bool), v9 = .int .i64 t ∧ v10 = .bool b ∧ Aside0 (W.ranges Try.prog 3 RI w.heap.size r (12 * i) D left n) ∧
          Aside0 (Best ls (fun x => 0 < cnt ls x ∧ left (.int .i64 x) = false) t b) ∧ (Lit.int .i64 t).wf = true ∧ Aside0 (Below w.heap.size w W)) (fun _ _ W => W.rangeLeft w.heap.size r)
      case atStart => exact ⟨_, _, 0, false, rfl, rfl, ⟨hrg0⟩, ⟨Best.start _ _ (fun x hx => by
        have h1 := HV.out.has_ x (HWF.out x hx.1)
        rw [hx.2] at h1
        have := hx.1
        simp at h1; omega)⟩, by decide, HB0⟩
      case round =>
        obtain ⟨left, n, t, b, rfl, rfl, HRG, HBE, hwt, HB2⟩ := hrel
        go_wp2_with (first
          | (at_next; refine wpList_next_ranges_ii _ rfl _ rfl 3 3 .i64 .i64 kI Try.underlying3 Try.underlying3 w.heap.size r (12 * i) _ _ _ rfl HRG.out ?_ ?_)
          | go_in)
        · intro hc0 hl0
          go_wp2
          go_ret2
          have h1 := (HBE.out.iff (Q := fun x => ∃ l ∈ ls, x ∈ l) (fun x => by rw [hl0, ← cnt_pos]; simp)).one (best_is ls)
          refine ⟨?_, (by repeat (first | (with_reducible first | exact HB2.out | apply below_alloc | apply pw_below_drewN | apply below_drew1) | exact HB2.out))⟩
          have e1 : t = (bestF ls).1 := congrArg Prod.fst h1
          have e2 : b = (bestF ls).2 := congrArg Prod.snd h1
          rw [← hls, ← e1, ← e2]; rfl
        · intro x c1 w1 n1 hwx hwc hlx hat hrg1 hlt hg1 hs1 hen
          have hgx := hat (.lit (.int .i64 0))
          have hcx : c1 = (cnt ls x : Nat) := lit_inj (hgx.symm.trans (HV.out.at_ x hwx))
          have hpx : 0 < cnt ls x := by
            have e1 := has_true_of_atKey hat
            rw [HV.out.has_ x hwx] at e1
            simpa using e1
          subst hcx
          obtain ⟨c2, hlk, hat2, _⟩ := hrg1.owns.lookup_int kI Try.underlying73 Try.underlying3 (Try.zeroValue3 _) (keyOf_int_mk Try.underlying3 hwt)
          obtain rfl : c2 = (cnt ls t : Nat) := lit_inj (hat2.symm.trans (HV.out.at_ t hwt))
          have HST := Aside0.mk (HBE.out.step x)
          have HIFF := Aside0.mk (show ∀ y, (0 < cnt ls y ∧ left (.int .i64 y) = false) ∨ y = x ↔ 0 < cnt ls y ∧ (left (.int .i64 y) && !(Lit.int .i64 y).sameKey (.int .i64 x)) = false from fun y => by
            by_cases e : y = x
            · subst e
              simp [WideAt.sameKey_self (show WideAt.IsKeyLit (.int .i64 y) from trivial), hpx]
            · have : (Lit.int .i64 y).sameKey (.int .i64 x) = false := sameKey_ne (fun h => e (by injection h))
              simp [this, e])
          have HB3 := Aside0.mk (HB2.out.grown hg1 HB2.out.size (fun k hk => by cases hk; rw [← hr]; exact HB.out.size))
          unfold stepB at HST
          generalize hcx : cnt ls x = cx at *
          generalize hct : cnt ls t = ct at *
          clear hgx hat hat2 hlx hpx
          cases b with
          | false =>
            rw [if_pos (.inl rfl)] at HST
            go_wp2
            go_roundw
            case rel => exact ⟨_, n1, x, true, rfl, rfl, ⟨hrg1⟩, ⟨HST.out.iff HIFF.out⟩, hwx, HB3⟩
            case measure => rw [hrg1.left_eq, HRG.out.left_eq]; exact hlt
          | true =>
            rcases Int.lt_trichotomy (ct : Int) (cx : Int) with hlt3 | heq3 | hgt3
            · rw [if_pos (.inr (.inl (by show ct < cx; omega)))] at HST
              have g1 : decide ((ct : Int) < (cx : Int)) = true := decide_eq_true hlt3
              go_wp2
              go_roundw
              case rel => exact ⟨_, n1, x, true, rfl, rfl, ⟨hrg1⟩, ⟨HST.out.iff HIFF.out⟩, hwx, HB3⟩
              case measure => rw [hrg1.left_eq, HRG.out.left_eq]; exact hlt
            · have h1 : ct = cx := by omega
              subst h1
              have g1 : decide ((ct : Int) < (ct : Int)) = false := by simp
              have g2 : ((ct : Int) == (ct : Int)) = true := by simp
              by_cases htx : t < x
              · rw [if_pos (.inr (.inr ⟨rfl, htx⟩))] at HST
                have g3 : decide (t < x) = true := decide_eq_true htx
                go_wp2
                go_roundw
                case rel => exact ⟨_, n1, x, true, rfl, rfl, ⟨hrg1⟩, ⟨HST.out.iff HIFF.out⟩, hwx, HB3⟩
                case measure => rw [hrg1.left_eq, HRG.out.left_eq]; exact hlt
              · rw [if_neg (by simp only [not_or]; exact ⟨by simp, by show ¬ ct < ct; omega, fun h => htx h.2⟩)] at HST
                have g3 : decide (t < x) = false := decide_eq_false htx
                go_wp2
                go_roundw
                case rel => exact ⟨_, n1, t, true, rfl, rfl, ⟨hrg1⟩, ⟨HST.out.iff HIFF.out⟩, hwt, HB3⟩
                case measure => rw [hrg1.left_eq, HRG.out.left_eq]; exact hlt
            · rw [if_neg (by simp only [not_or]; exact ⟨by simp, by show ¬ ct < cx; omega, fun h => by have : cx = ct := h.1; omega⟩)] at HST
              have g1 : decide ((ct : Int) < (cx : Int)) = false := by simp; omega
              have g2 : ((cx : Int) == (ct : Int)) = false := by simp; omega
              go_wp2
              go_roundw
              case rel => exact ⟨_, n1, t, true, rfl, rfl, ⟨hrg1⟩, ⟨HST.out.iff HIFF.out⟩, hwt, HB3⟩
              case measure => rw [hrg1.left_eq, HRG.out.left_eq]; exact hlt
end Go.Proofs.Ytkobolgbmfhpgaa.SgV
