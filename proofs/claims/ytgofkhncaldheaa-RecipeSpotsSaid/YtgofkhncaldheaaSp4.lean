/- Bins, the program's and the reference's; the law RecipeSpots, walked; condition: the refs read as a list within the weight's reach. -/
import Derived.Test.YtgofkhncaldheaaSp3
import Derived.Sort.OwnSortedInts
import Derived.Test.YtgofkhncaldheaaReO
namespace Go.Proofs.Ytgofkhncaldheaa.SpM
open Go Go.RowKit Go.Sort Go.Lib Go.Proofs.YtgofkhncaldheaaW.PrintWords Go.Proofs.Ytgofkhncaldheaa.K Go.Proofs.Ytgofkhncaldheaa.ReS Go.Proofs.Ytgofkhncaldheaa.ReR Go.Proofs.Ytgofkhncaldheaa.ReK Go.Proofs.Ytgofkhncaldheaa.RmS Go.Proofs.Ytgofkhncaldheaa.SpK Go.Proofs.Ytgofkhncaldheaa.SpC Go.Proofs.Ytgofkhncaldheaa.SpE Go.Proofs.Ytgofkhncaldheaa.SpF Go.Proofs.Ytgofkhncaldheaa.SpG Go.Proofs.Ytgofkhncaldheaa.SpH
set_option linter.unusedVariables false
set_option linter.unusedSimpArgs false
theorem infoInt6 : (Try.prog.info? 3).map (fun i => (i.zero, i.size, i.bytes)) = some (some (.int .i64 0), 1, 8) := by kernel_rfl
abbrev dI := Kd.int .i64
def binsOf (l : List Sp) : List Int := compact (l.map Prod.fst)
theorem cptI_empty (a : Option Addr) (cap : Nat) (w : World) : Calls Try.prog 42 #[.slice a 0 cap] w fun e w' => e = .returned (.slice a 0 cap) ∧ w' = w := AnyG.slices_Compact_int_empty Try.cptInt a cap w
theorem compact_le (zs : List Int) : (compact zs).length ≤ zs.length := by
  unfold compact compactUpTo
  rw [List.length_map]
  exact Nat.le_trans (List.length_filter_le _ _) (by rw [List.length_range]; exact Nat.le_refl _)
theorem cptI_calls {w : World} {g cap : Nat} {zs : List Int} {cur : Array Value} {e : TypeId} (hC : dI.C w (some ⟨g, 0, none⟩) zs.length zs) (hb : w.heap[g]? = some (.cells cur e (0, 0))) (hcap : zs.length ≤ cap) (hmax : zs.length ≤ 1000000000000000) :
    Calls Try.prog 42 #[.slice (some ⟨g, 0, none⟩) zs.length cap] w fun e w' => e = .returned (.slice (some ⟨g, 0, none⟩) (compact zs).length cap) ∧ dI.C w' (some ⟨g, 0, none⟩) (compact zs).length (compact zs) ∧ w.grownBy w' (some g) := by
  have hH : Holds (Value.int .i64) w g 0 zs.toArray := fun j hj => by
    have hj' : j < zs.length := by simpa using hj
    refine ⟨?_, by simp [World.frozen?, hb]⟩
    obtain ⟨ad, e1, hc⟩ := hC.2.2 (by omega)
    injection e1 with e1
    subst e1
    obtain ⟨cs, _, hK, hcell⟩ := hc j zs[j] (List.getElem?_eq_getElem hj')
    have hK : cs = [.int .i64 zs[j]] := hK
    subst hK
    have h0 := hcell 0 _ rfl
    rw [Go.Proofs.Ytgofkhncaldheaa.RmA.addr0] at h0
    have h0 : w.cell? ⟨g, j * 1 + 0, none⟩ = some (.int .i64 zs[j]) := h0
    rw [Nat.mul_one, Nat.add_zero] at h0
    rw [Nat.zero_add, getElem!_pos _ j hj, h0]
    simp
  have h := AnyG.slices_Compact_int Try.cptInt g 0 cap zs w hH (by omega) hcap
  refine h.mono ?_
  rintro e w' ⟨rfl, q, rfl⟩
  refine ⟨rfl, ?_, ?_⟩
  · have hle := compact_le zs
    have hl : (compact zs ++ List.replicate (zs.length - (compact zs).length) (0 : Int)).toArray.size = zs.toArray.size := by simp; omega
    have H := holds_putRow (Value.int .i64) (Sort.ahead w q) g 0 zs.toArray _ hH hl
    refine ⟨rfl, by omega, fun _ => ⟨_, rfl, fun j p hj => ?_⟩⟩
    obtain ⟨hjl, hjp⟩ := List.getElem?_eq_some_iff.1 hj
    refine ⟨[.int .i64 p], rfl, rfl, fun i u hu => ?_⟩
    have hi := (List.getElem?_eq_some_iff.1 hu).1
    obtain rfl : i = 0 := by simpa using hi
    have hu : Value.int .i64 p = u := by simpa using hu
    rw [Go.Proofs.Ytgofkhncaldheaa.RmA.addr0, ← hu]
    show World.cell? _ ⟨g, j * 1 + 0, none⟩ = _
    rw [Nat.mul_one, Nat.add_zero]
    have h1 := (H j (by rw [hl]; simp; omega)).1
    rw [Nat.zero_add] at h1
    rw [h1, getElem!_pos _ j (by rw [hl]; simp; omega)]
    simp only [List.getElem_toArray]
    rw [List.getElem_append_left hjl, hjp]
  · refine ⟨rfl, rfl, rfl, by simp, fun k hk hne => ?_⟩
    have : g ≠ k := fun e => hne (by rw [e])
    simp [putRow, mapBlock, Sort.ahead, Array.getElem?_modify, this]
end Go.Proofs.Ytgofkhncaldheaa.SpM
namespace Go.Proofs.Ytgofkhncaldheaa.SpN
open Go Go.RowKit Go.Sort Go.Lib Go.Proofs.YtgofkhncaldheaaW.PrintWords Go.Proofs.Ytgofkhncaldheaa.K Go.Proofs.Ytgofkhncaldheaa.ReS Go.Proofs.Ytgofkhncaldheaa.ReR Go.Proofs.Ytgofkhncaldheaa.ReK Go.Proofs.Ytgofkhncaldheaa.RmS Go.Proofs.Ytgofkhncaldheaa.SpK Go.Proofs.Ytgofkhncaldheaa.SpC Go.Proofs.Ytgofkhncaldheaa.SpE Go.Proofs.Ytgofkhncaldheaa.SpF Go.Proofs.Ytgofkhncaldheaa.SpG Go.Proofs.Ytgofkhncaldheaa.SpH Go.Proofs.Ytgofkhncaldheaa.SpI Go.Proofs.Ytgofkhncaldheaa.SpL Go.Proofs.Ytgofkhncaldheaa.SpM
set_option linter.unusedVariables false
set_option linter.unusedSimpArgs false
theorem infoSp2 : (Try.prog.info? 61).map (·.size) = some 2 := by kernel_rfl
theorem spots_len (rs : List Ref) : (spotsOf rs).length ≤ rs.length := by
  rw [spots_same]
  have := rspots_len (rs.map spotR)
  rwa [List.length_map] at this
theorem fst_take (l : List Sp) (i : Nat) (h : i < l.length) : (l.take (i + 1)).map Prod.fst = (l.take i).map Prod.fst ++ [(l.getD i default).1] := by
  have e : l.getD i default = l[i] := by simp [h]
  rw [List.take_add_one, List.getElem?_eq_getElem h, e]
  simp only [Option.toList_some, List.map_append, List.map_cons, List.map_nil]
set_option maxHeartbeats 8000000 in
set_option maxRecDepth 100000 in
theorem bins_calls (A : Option Addr) (k c : Nat) (rs : List Ref) (w : World) (h : RefsC w A k rs) (hk : k * 56 ≤ 140737488351232) :
    Calls Try.prog 29 #[.slice A k c] w fun e w' => ∃ A' c', e = .returned (.slice A' (binsOf (spotsOf rs)).length c') ∧ dI.C w' A' (binsOf (spotsOf rs)).length (binsOf (spotsOf rs)) ∧ Below w.heap.size w w' := by
  have HSP := Aside0.mk (spots_calls A k c rs w h hk)
  have hsl := spots_len rs
  rw [h.len] at hsl
  clear h
  generalize spotsOf rs = l at *
  go_enter Try.func29, Try.ntmps29
  go_wp2_with (go_at_call 26; (with_reducible refine (HSP.out).mono ?_); rintro e w' ⟨A1, c1, rfl, hC1, hb1⟩; have HC1 := Aside0.mk hC1; have HB1 := Aside0.mk hb1; clear hC1 hb1 HSP)
  obtain ⟨ws, rfl⟩ : ∃ ws : World, ws = w' := ⟨_, rfl⟩
  go_loopg [3, 9] (l.length + 1) (fun gk v3 v9 wr => ∃ i : Nat, v9 = .int .i64 i ∧ i ≤ l.length ∧ Aside0 (gk = l.length - i + 1) ∧ Aside0 (Kd.R dI 3 wr ws.heap.size (fun _ => True) (v3) ((l.take i).map Prod.fst)) ∧ Aside0 (Below ws.heap.size ws wr))
  case atStart => exact ⟨0, rfl, Nat.zero_le _, ⟨rfl⟩, ⟨Kd.R_nil _ _ _ _ _⟩, ⟨Below.refl _ _⟩⟩
  case round =>
    obtain ⟨i, rfl, hi, HG, HO, HB⟩ := hrel
    obtain ⟨wo, rfl⟩ : ∃ wo : World, wo = wr := ⟨_, rfl⟩
    by_cases hlt : i < l.length
    · have h1 : decide ((i : Int) < (l.length : Int)) = true := by simp; omega
      have hp1 : (0 : Int) ≤ (i : Int) := by omega
      have hp2 : (i : Int) < (l.length : Int) := by omega
      obtain ⟨ad, rfl, hok, b0, b1⟩ := sp_cells (Kd.C_below HC1.out HB.out) i hlt
      have HFT := Aside0.mk (fst_take l i hlt)
      generalize l.getD i default = p at *
      obtain ⟨p1, p2⟩ := p
      simp only at b0 b1
      have hgx := heap_alloc_new wo (.cells #[.int .i64 p1, .int .i64 p2] 61)
      have e0 := obj_cell hgx 0 (v := .int .i64 p1) rfl
      have HOA := Aside0.mk (Kd.R_alloc HO.out (.cells #[.int .i64 p1, .int .i64 p2] 61))
      have HBA := Aside0.mk (below_alloc HB.out (.cells #[.int .i64 p1, .int .i64 p2] 61))
      have HON := Aside0.mk (show (#[.int .i64 p1, .int .i64 p2] : Array Value).all (·.oneCell') = true from by simp [Value.oneCell'])
      clear hgx hok
      generalize hwx : wo.alloc (.cells #[.int .i64 p1, .int .i64 p2] 61) = wx at *
      have HWX := Aside0.mk hwx
      clear hwx
      go_wp2_with (first
        | ((with_reducible refine gate_ (.alloc 61) rfl ?_); refine Hd.step_run rfl (Hd.exec_alloc _ rfl _ (zeroSpot _)) ?_; refine Hd.wpList_store_new rfl _ _ _ rfl _ #[.int .i64 0, .int .i64 0] #[.int .i64 p1, .int .i64 p2] rfl rfl rfl infoSp2 HON.out ?_; rw [HWX.out])
        | ((with_reducible refine gate_builtin (b := .append) (xs := #[.tmp 13, .tmp 16]) rfl ?_); at_builtin; refine app1 dI (flat_int .i64) ws.heap.size (w0 := ws) (.tmp 13) (.tmp 16) 63 3 (.int .i64 0) 8 rfl rfl Try.underlying63 infoInt6 rfl (by decide) (by decide) _ ((l.take i).map Prod.fst) p1 [.int .i64 p1] rfl rfl ?aP ?aO ?aB ?aS ?aL ?_; (case aP => first | exact rfl | exact ⟨trivial, rfl⟩ | exact ⟨HOK.out, rfl⟩); (case aO => exact HOA.out); (case aB => exact (by repeat (first | (with_reducible first | exact HBA.out | apply below_alloc | apply pw_below_drewN | apply below_drew1) | exact HBA.out))); (case aS => exact (below_size (by repeat (first | (with_reducible first | exact HBA.out | apply below_alloc | apply pw_below_drewN | apply below_drew1) | exact HBA.out)))); (case aL => exact (by rw [List.length_map, List.length_take]; omega)); intro v1 w1 ho1 hb1 hg1 hat1; have HO1 := Aside0.mk ho1; have HB1 := Aside0.mk hb1; clear ho1 hb1 hg1 hat1))
      go_roundg (l.length - (i + 1) + 1)
      case measure => have := HG.out; omega
      case rel => exact ⟨i + 1, by go_num, by omega, ⟨rfl⟩, ⟨by rw [HFT.out]; exact HO1.out⟩, HB1⟩
    · obtain rfl : i = l.length := by omega
      have h1 : decide ((l.length : Int) < (l.length : Int)) = false := by simp
      have ho := HO.out
      rw [List.take_of_length_le (Nat.le_refl _)] at ho
      have HO1 := Aside0.mk ho
      clear ho HO
      by_cases hz : l.length = 0
      · obtain rfl : l = [] := List.eq_nil_of_length_eq_zero hz
        obtain ⟨A2, c2, hv, hlc, hC2⟩ := Kd.R_reads HO1.out
        have hv' : u3 = .slice A2 0 c2 := hv
        subst hv'
        have HC2 := Aside0.mk hC2
        clear hC2 hv hlc
        go_wp2_with (go_at_call 42; (with_reducible refine (cptI_empty _ _ _).mono ?_); rintro e w' ⟨rfl, rfl⟩)
        go_ret
        exact ⟨A2, c2, rfl, HC2.out, below_then HB1.out HB1.out.size HB.out⟩
      · obtain ⟨g, cap, hv, hgb, hgl, cur, hcur⟩ := Kd.R_form HO1.out (by rw [List.length_map]; omega)
        subst hv
        have hR := Kd.R_reads' HO1.out
        have hcp := cptI_calls hR.2.2 hcur hR.2.1 (by rw [List.length_map]; omega)
        rw [List.length_map] at hcp ⊢
        have HCP := Aside0.mk hcp
        have HGB := Aside0.mk hgb
        clear hR hgb hcur HO1 hgl hcp
        go_wp2_with (go_at_call 42; (with_reducible refine (HCP.out).mono ?_); rintro e w' ⟨rfl, hC9, hg9⟩; have HC9 := Aside0.mk hC9; have HG9 := Aside0.mk hg9; clear hC9 hg9)
        go_ret
        refine ⟨_, _, rfl, HC9.out, ?_⟩
        exact below_then HB1.out HB1.out.size (ReA.below_grown HB.out HG9.out (fun r e => by injection e with e; have := HGB.out; omega))
end Go.Proofs.Ytgofkhncaldheaa.SpN
namespace Go.Proofs.Ytgofkhncaldheaa.SpO
open Go Go.RowKit Go.Sort Go.Lib Go.Proofs.YtgofkhncaldheaaW.PrintWords Go.Proofs.Ytgofkhncaldheaa.K Go.Proofs.Ytgofkhncaldheaa.ReS Go.Proofs.Ytgofkhncaldheaa.ReR Go.Proofs.Ytgofkhncaldheaa.ReK Go.Proofs.Ytgofkhncaldheaa.RmS Go.Proofs.Ytgofkhncaldheaa.SpK Go.Proofs.Ytgofkhncaldheaa.SpC Go.Proofs.Ytgofkhncaldheaa.SpE Go.Proofs.Ytgofkhncaldheaa.SpF Go.Proofs.Ytgofkhncaldheaa.SpG Go.Proofs.Ytgofkhncaldheaa.SpH Go.Proofs.Ytgofkhncaldheaa.SpI Go.Proofs.Ytgofkhncaldheaa.SpL Go.Proofs.Ytgofkhncaldheaa.SpM Go.Proofs.Ytgofkhncaldheaa.SpN
set_option linter.unusedVariables false
set_option linter.unusedSimpArgs false
theorem fst_at (l : List Sp) (i : Nat) (h : i < l.length) : (l.map Prod.fst).toArray[i]! = (l.getD i default).1 := by
  rw [getElem!_pos _ i (by simpa using h)]
  simp [h]
theorem upto_len (zs : List Int) (i : Nat) : (compactUpTo zs.toArray i).length ≤ i := by
  unfold compactUpTo
  rw [List.length_map]
  exact Nat.le_trans (List.length_filter_le _ _) (by rw [List.length_range]; exact Nat.le_refl _)
set_option maxHeartbeats 8000000 in
set_option maxRecDepth 100000 in
theorem rbins_calls (A : Option Addr) (k c : Nat) (rs : List Ref) (w : World) (h : RefsC w A k rs) (hk : k * 56 ≤ 140737488351232) :
    Calls Try.prog 30 #[.slice A k c] w fun e w' => ∃ A' c', e = .returned (.slice A' (binsOf (rspots (rs.map spotR))).length c') ∧ dI.C w' A' (binsOf (rspots (rs.map spotR))).length (binsOf (rspots (rs.map spotR))) ∧ Below w.heap.size w w' := by
  have HSP := Aside0.mk (rspots_calls A k c rs w h hk)
  have hsl := rspots_len (rs.map spotR)
  rw [List.length_map, h.len] at hsl
  clear h
  generalize rspots (rs.map spotR) = l at *
  go_enter Try.func30, Try.ntmps30
  go_wp2_with (go_at_call 27; (with_reducible refine (HSP.out).mono ?_); rintro e w' ⟨v1, rfl, ho1, hb1⟩; have HB1 := Aside0.mk hb1; obtain ⟨A1, c1, rfl, _, hC1⟩ := Kd.R_reads ho1; have HC1 := Aside0.mk hC1; clear hC1 hb1 HSP ho1)
  obtain ⟨ws, rfl⟩ : ∃ ws : World, ws = w' := ⟨_, rfl⟩
  go_loopg [4, 5] (l.length + 1) (fun gk v4 v5 wr => ∃ i : Nat, v5 = .int .i64 i ∧ i ≤ l.length ∧ Aside0 (gk = l.length - i + 1) ∧ Aside0 (Kd.R dI 3 wr ws.heap.size (fun _ => True) (v4) (compactUpTo (l.map Prod.fst).toArray i)) ∧ Aside0 (Below ws.heap.size ws wr))
  case atStart => exact ⟨0, rfl, Nat.zero_le _, ⟨rfl⟩, ⟨Kd.R_made_nil _ _ _⟩, ⟨below_alloc (Below.refl _ _) _⟩⟩
  case round =>
    obtain ⟨i, rfl, hi, HG, HO, HB⟩ := hrel
    obtain ⟨wo, rfl⟩ : ∃ wo : World, wo = wr := ⟨_, rfl⟩
    by_cases hlt : i < l.length
    · have h1 : decide ((i : Int) < (l.length : Int)) = true := by simp; omega
      have hp1 : (0 : Int) ≤ (i : Int) := by omega
      have hp2 : (i : Int) < (l.length : Int) := by omega
      obtain ⟨ad, rfl, hok, b0, b1⟩ := sp_cells (Kd.C_below HC1.out HB.out) i hlt
      have HLE := Aside0.mk (upto_len (l.map Prod.fst) i)
      have HCS := Aside0.mk (compactUpTo_succ (l.map Prod.fst).toArray i)
      have hfa := fst_at l i hlt
      have hld := HCS.out
      rw [hfa] at hld
      have HLD := Aside0.mk hld
      clear hld HCS hok b1
      by_cases hz : i = 0
      · have hzz : ((i : Int) == 0) = true := by simp [hz]
        have hk0 : keeps (l.map Prod.fst).toArray i = true := by simp [keeps, hz]
        have hld := HLD.out
        rw [hk0] at hld
        have HLX := Aside0.mk hld
        clear hld HLD hk0 hfa hz
        generalize (l.getD i default).1 = x at *
        go_wp2_with fail
        go_quiet (fail)
        have hob := Kd.R_drewN HO.out nq
        have HOB := Aside0.mk hob
        have HBB := Aside0.mk (pw_below_drewN HB.out nq)
        have bz : (wo.drewN nq).cell? (ad.add (i * 2)) = some (.int .i64 x) := b0
        clear hob b0
        generalize hwz : wo.drewN nq = wz at *
        clear hwz
        go_wp2_with ((with_reducible refine gate_builtin (b := .append) (xs := #[.tmp 31, .tmp 37]) rfl ?_); at_builtin; refine app1 dI (flat_int .i64) ws.heap.size (w0 := ws) (.tmp 31) (.tmp 37) 63 3 (.int .i64 0) 8 rfl rfl Try.underlying63 infoInt6 rfl (by decide) (by decide) _ (compactUpTo (l.map Prod.fst).toArray (i)) x [.int .i64 x] rfl rfl ?aP ?aO ?aB ?aS ?aL ?_; (case aP => first | exact rfl | exact ⟨trivial, rfl⟩ | exact ⟨HOK.out, rfl⟩); (case aO => exact HOB.out); (case aB => exact (by repeat (first | (with_reducible first | exact HBB.out | apply below_alloc | apply pw_below_drewN | apply below_drew1) | exact HBB.out))); (case aS => exact (below_size (by repeat (first | (with_reducible first | exact HBB.out | apply below_alloc | apply pw_below_drewN | apply below_drew1) | exact HBB.out)))); (case aL => exact (by have := HLE.out; omega)); intro v1 w1 ho1 hb1 hg1 hat1; have HO1 := Aside0.mk ho1; have HB1 := Aside0.mk hb1; clear ho1 hb1 hg1 hat1)
        go_roundg (l.length - (i + 1) + 1)
        case measure => have := HG.out; omega
        case rel => exact ⟨i + 1, by go_num, by omega, ⟨rfl⟩, ⟨by rw [HLX.out]; exact HO1.out⟩, HB1⟩
      · obtain ⟨j, rfl⟩ : ∃ j, i = j + 1 := ⟨i - 1, by omega⟩
        have hzz : ((j : Int) + 1 == 0) = false := by simp; omega
        obtain ⟨ad2, e2, _, c0, _⟩ := sp_cells (Kd.C_below HC1.out HB.out) j (by omega)
        injection e2 with e2
        subst e2
        have hfa2 := fst_at l j (by omega)
        have hwp : IntKind.i64.wrap (j : Int) = (j : Int) := by rw [IntKind.wrap_i64]; omega
        have j1 : (j : Int) + 1 < (l.length : Int) := by omega
        have j2 : (j : Int) < (l.length : Int) := by omega
        have j3 : decide ((j : Int) + 1 < (l.length : Int)) = true := by simpa using j1
        have q0 : (0 : Int) ≤ (j : Int) + 1 := by omega
        have e1 : ((j : Int) + 1).toNat = j + 1 := by omega
        by_cases hne : (l.getD (j + 1) default).1 = (l.getD j default).1
        · have hk0 : keeps (l.map Prod.fst).toArray (j + 1) = false := by
            simp only [keeps, Nat.add_sub_cancel, hfa, hfa2, hne]
            simp
          have hld := HLD.out
          rw [hk0] at hld
          have HLX := Aside0.mk (hld.trans (List.append_nil _))
          clear hld HLD hk0 hfa hfa2
          rw [← hne] at c0
          generalize (l.getD (j + 1) default).1 = x at *
          clear hne
          have hxx : (x != x) = false := by simp
          go_wp2_with fail
          go_quiet (fail)
          go_wp2
          go_roundg (l.length - (j + 1 + 1) + 1)
          case measure => have := HG.out; omega
          case rel => exact ⟨j + 1 + 1, by go_num, by omega, ⟨rfl⟩, ⟨by rw [HLX.out]; exact Kd.R_drewN HO.out nq⟩, ⟨pw_below_drewN HB.out nq⟩⟩
        · have hk0 : keeps (l.map Prod.fst).toArray (j + 1) = true := by
            simp only [keeps, Nat.add_sub_cancel, hfa, hfa2, decide_eq_true_eq]
            exact Or.inr hne
          have hld := HLD.out
          rw [hk0] at hld
          have HLX := Aside0.mk hld
          clear hld HLD hk0 hfa hfa2
          generalize (l.getD (j + 1) default).1 = x at *
          generalize (l.getD j default).1 = y at *
          have hxx : (x != y) = true := by simpa using hne
          clear hne
          go_wp2_with fail
          go_quiet (fail)
          have hob := Kd.R_drewN HO.out nq
          have HOB := Aside0.mk hob
          have HBB := Aside0.mk (pw_below_drewN HB.out nq)
          have bz : (wo.drewN nq).cell? (ad.add ((j + 1) * 2)) = some (.int .i64 x) := b0
          clear hob b0
          generalize hwz : wo.drewN nq = wz at *
          clear hwz
          go_wp2_with ((with_reducible refine gate_builtin (b := .append) (xs := #[.tmp 31, .tmp 37]) rfl ?_); at_builtin; refine app1 dI (flat_int .i64) ws.heap.size (w0 := ws) (.tmp 31) (.tmp 37) 63 3 (.int .i64 0) 8 rfl rfl Try.underlying63 infoInt6 rfl (by decide) (by decide) _ (compactUpTo (l.map Prod.fst).toArray (j + 1)) x [.int .i64 x] rfl rfl ?aP ?aO ?aB ?aS ?aL ?_; (case aP => first | exact rfl | exact ⟨trivial, rfl⟩ | exact ⟨HOK.out, rfl⟩); (case aO => exact HOB.out); (case aB => exact (by repeat (first | (with_reducible first | exact HBB.out | apply below_alloc | apply pw_below_drewN | apply below_drew1) | exact HBB.out))); (case aS => exact (below_size (by repeat (first | (with_reducible first | exact HBB.out | apply below_alloc | apply pw_below_drewN | apply below_drew1) | exact HBB.out)))); (case aL => exact (by have := HLE.out; omega)); intro v1 w1 ho1 hb1 hg1 hat1; have HO1 := Aside0.mk ho1; have HB1 := Aside0.mk hb1; clear ho1 hb1 hg1 hat1)
          go_roundg (l.length - (j + 1 + 1) + 1)
          case measure => have := HG.out; omega
          case rel => exact ⟨j + 1 + 1, by go_num, by omega, ⟨rfl⟩, ⟨by rw [HLX.out]; exact HO1.out⟩, HB1⟩
    · obtain rfl : i = l.length := by omega
      have h1 : decide ((l.length : Int) < (l.length : Int)) = false := by simp
      have ho := HO.out
      have hcb : compactUpTo (l.map Prod.fst).toArray l.length = binsOf l := by unfold binsOf compact; rw [List.length_map]
      rw [hcb] at ho
      obtain ⟨A2, c2, rfl, _, hC2⟩ := Kd.R_reads ho
      have HC2 := Aside0.mk hC2
      clear ho hC2 HO
      go_wp2
      go_ret
      exact ⟨_, _, rfl, HC2.out, below_then HB1.out HB1.out.size HB.out⟩
end Go.Proofs.Ytgofkhncaldheaa.SpO
namespace Go.Proofs.Ytgofkhncaldheaa.SpP
open Go Go.RowKit Go.Sort Go.Lib Go.Proofs.YtgofkhncaldheaaW.PrintWords Go.Proofs.Ytgofkhncaldheaa.K Go.Proofs.Ytgofkhncaldheaa.ReS Go.Proofs.Ytgofkhncaldheaa.ReR Go.Proofs.Ytgofkhncaldheaa.ReK Go.Proofs.Ytgofkhncaldheaa.ReL Go.Proofs.Ytgofkhncaldheaa.RmS Go.Proofs.Ytgofkhncaldheaa.SpK Go.Proofs.Ytgofkhncaldheaa.SpC Go.Proofs.Ytgofkhncaldheaa.SpE Go.Proofs.Ytgofkhncaldheaa.SpF Go.Proofs.Ytgofkhncaldheaa.SpG Go.Proofs.Ytgofkhncaldheaa.SpH Go.Proofs.Ytgofkhncaldheaa.SpI Go.Proofs.Ytgofkhncaldheaa.SpL Go.Proofs.Ytgofkhncaldheaa.SpM Go.Proofs.Ytgofkhncaldheaa.SpN Go.Proofs.Ytgofkhncaldheaa.SpO
set_option linter.unusedVariables false
set_option linter.unusedSimpArgs false
theorem di_cell {w : World} {A : Option Addr} {n : Nat} {xs : List Int} (h : dI.C w A n xs) (i : Nat) (hi : i < n) : ∃ ad, A = some ad ∧ w.cell? (ad.add i) = some (.int .i64 (xs.getD i 0)) := by
  obtain ⟨ad, had, hc⟩ := h.2.2 (by omega)
  have hl := h.1
  have hx : xs[i]? = some (xs.getD i 0) := by
    have : i < xs.length := by omega
    simp [this]
  obtain ⟨cs, _, hK, h3⟩ := hc i _ hx
  have hK : cs = [.int .i64 (xs.getD i 0)] := hK
  subst hK
  refine ⟨ad, had, ?_⟩
  have h0 := h3 0 _ rfl
  have h0 : w.cell? (ad.add (i * 1 + 0)) = some (.int .i64 (xs.getD i 0)) := h0
  rwa [Nat.mul_one, Nat.add_zero] at h0
set_option maxHeartbeats 2000000 in
theorem ints_calls (A B : Option Addr) (n c1 c2 : Nat) (xs : List Int) (w : World) (hA : dI.C w A n xs) (hB : dI.C w B n xs) : Calls Try.prog 28 #[.slice A n c1, .slice B n c2] w fun e w' => e = .returned (.bool true) ∧ Below w.heap.size w w' := by
  have HA := Aside0.mk hA
  have HB := Aside0.mk hB
  have hn := hA.2.1
  clear hA hB
  go_enter Try.func28, Try.ntmps28
  go_wp2
  go_loopg [5] (n + 1) (fun gk v5 wr => ∃ i : Nat, v5 = .int .i64 i ∧ i ≤ n ∧ Aside0 (gk = n - i + 1) ∧ Aside0 (Below w.heap.size w wr))
  case atStart => exact ⟨0, rfl, Nat.zero_le _, ⟨rfl⟩, ⟨Below.refl _ _⟩⟩
  case round =>
    obtain ⟨i, rfl, hi, HG, HBr⟩ := hrel
    by_cases hlt : i < n
    · have h1 : decide ((i : Int) < (n : Int)) = true := by simp; omega
      have hp1 : (0 : Int) ≤ (i : Int) := by omega
      have hp2 : (i : Int) < (n : Int) := by omega
      obtain ⟨ad, rfl, a0⟩ := di_cell (Kd.C_below HA.out HBr.out) i hlt
      obtain ⟨bd, rfl, b0⟩ := di_cell (Kd.C_below HB.out HBr.out) i hlt
      generalize xs.getD i 0 = x at *
      have hxx : (x != x) = false := by simp
      go_wp2_with fail
      go_quiet (fail)
      go_wp2
      go_roundg (n - (i + 1) + 1)
      case measure => have := HG.out; omega
      case rel => exact ⟨i + 1, by go_num, by omega, ⟨rfl⟩, ⟨below_then HBr.out HBr.out.size (pw_below_drewN (Below.refl _ _) nq)⟩⟩
    · obtain rfl : i = n := by omega
      have h1 : decide ((i : Int) < (i : Int)) = false := by simp
      go_wp2
      go_ret
      exact ⟨rfl, HBr.out⟩
set_option maxHeartbeats 8000000 in
set_option maxRecDepth 100000 in
theorem spots_row (A : Option Addr) (k c : Nat) (rs : List Ref) (w : World) (h : RefsC w A k rs) (hc : k ≤ c) (hk : k * 56 ≤ 140737488351232) :
    Calls Try.prog 7 #[.slice A k c] w fun e w' => e = .returned (.bool true) ∧ Below w.heap.size w w' := by
  have HS := Aside0.mk (spots_calls A k c rs w h hk)
  have HR := Aside0.mk (fun W (hW : Below w.heap.size w W) => rspots_calls A k c rs W (h.below hW) hk)
  have HI := Aside0.mk (fun W (hW : Below w.heap.size w W) => bins_calls A k c rs W (h.below hW) hk)
  have HJ := Aside0.mk (fun W (hW : Below w.heap.size w W) => rbins_calls A k c rs W (h.below hW) hk)
  have hln := spots_len rs
  rw [h.len] at hln
  rw [spots_same] at HS HI hln
  clear h
  generalize rspots (rs.map spotR) = l at *
  generalize binsOf l = bl at *
  go_enter Try.func7, Try.ntmps7
  go_wp2_with (first
    | (go_at_call 26; (with_reducible refine (HS.out).mono ?_); rintro e w' ⟨A1, c1, rfl, hC1, hb1⟩; have HC1 := Aside0.mk hC1; have HB1 := Aside0.mk hb1; clear hC1 hb1 HS)
    | (go_at_call 27; (with_reducible refine (HR.out _ HB1.out).mono ?_); rintro e w' ⟨v2, rfl, ho2, hb2⟩; have HB2 := Aside0.mk (below_then HB1.out HB1.out.size hb2); obtain ⟨A2, c2, rfl, _, hC2⟩ := Kd.R_reads ho2; have HC2 := Aside0.mk hC2; have HD1 := Aside0.mk (Kd.C_below HC1.out hb2); clear hC2 hb2 HR ho2))
  obtain ⟨ws, rfl⟩ : ∃ ws : World, ws = w' := ⟨_, rfl⟩
  go_loopg [5] (l.length + 1) (fun gk v5 wr => ∃ i : Nat, v5 = .int .i64 i ∧ i ≤ l.length ∧ Aside0 (gk = l.length - i + 1) ∧ Aside0 (Below ws.heap.size ws wr))
  case atStart => exact ⟨0, rfl, Nat.zero_le _, ⟨rfl⟩, ⟨Below.refl _ _⟩⟩
  case round =>
    obtain ⟨i, rfl, hi, HG, HBr⟩ := hrel
    by_cases hlt : i < l.length
    · have h1 : decide ((i : Int) < (l.length : Int)) = true := by simp; omega
      have hp1 : (0 : Int) ≤ (i : Int) := by omega
      have hp2 : (i : Int) < (l.length : Int) := by omega
      obtain ⟨ad, rfl, ho, a0, a1⟩ := sp_cells (Kd.C_below HD1.out HBr.out) i hlt
      obtain ⟨bd, rfl, _, b0, b1⟩ := sp_cells (Kd.C_below HC2.out HBr.out) i hlt
      have hne := sp_neq_same _ ho
      generalize l.getD i default = x at *
      clear ho
      go_wp2_with fail
      go_quiet (fail)
      go_wp2
      go_roundg (l.length - (i + 1) + 1)
      case measure => have := HG.out; omega
      case rel => exact ⟨i + 1, by go_num, by omega, ⟨rfl⟩, ⟨below_then HBr.out HBr.out.size (pw_below_drewN (Below.refl _ _) nq)⟩⟩
    · obtain rfl : i = l.length := by omega
      have h1 : decide ((l.length : Int) < (l.length : Int)) = false := by simp
      have HBw := Aside0.mk (below_then HB2.out HB2.out.size HBr.out)
      go_wp2_with (first
        | (go_at_call 10; (with_reducible refine (live_calls _).mono ?_); rintro e w' ⟨rfl, hb4⟩; have HB4 := Aside0.mk (below_then HBw.out HBw.out.size hb4); clear hb4)
        | (go_at_call 29; (with_reducible refine (HI.out _ HB4.out).mono ?_); rintro e w' ⟨A5, c5, rfl, hC5, hb5⟩; have HC5 := Aside0.mk hC5; have HB5 := Aside0.mk (below_then HB4.out HB4.out.size hb5); clear hC5 hb5 HI)
        | (go_at_call 30; (with_reducible refine (HJ.out _ HB5.out).mono ?_); rintro e w' ⟨A6, c6, rfl, hC6, hb6⟩; have HC6 := Aside0.mk hC6; have HD5 := Aside0.mk (Kd.C_below HC5.out hb6); have HB6 := Aside0.mk (below_then HB5.out HB5.out.size hb6); clear hC6 hb6 HJ)
        | (go_at_call 28; (with_reducible refine (ints_calls _ _ _ _ _ _ _ HD5.out HC6.out).mono ?_); rintro e w' ⟨rfl, hb7⟩; have HB7 := Aside0.mk (below_then HB6.out HB6.out.size hb7); clear hb7))
      go_ret
      exact ⟨rfl, HB7.out⟩
end Go.Proofs.Ytgofkhncaldheaa.SpP
