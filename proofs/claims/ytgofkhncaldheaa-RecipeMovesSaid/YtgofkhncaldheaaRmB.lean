/- What the reference's Move computes: the refs, moved, and how many; condition: the refs and the moves read as lists. -/
import Derived.Test.YtgofkhncaldheaaRmA
import Derived.Test.YtgofkhncaldheaaLit
namespace Go.Proofs.Ytgofkhncaldheaa.RmB
open Go Go.RowKit Go.Proofs.YtgofkhncaldheaaW.PrintWords Go.Proofs.Ytgofkhncaldheaa.K Go.Proofs.Ytgofkhncaldheaa.ReS Go.Proofs.Ytgofkhncaldheaa.ReR Go.Proofs.Ytgofkhncaldheaa.ReT Go.Proofs.Ytgofkhncaldheaa.ReK Go.Proofs.Ytgofkhncaldheaa.ReE Go.Proofs.Ytgofkhncaldheaa.ReO Go.Proofs.Ytgofkhncaldheaa.Mp Go.Proofs.Ytgofkhncaldheaa.Eq Go.Proofs.Ytgofkhncaldheaa.RmS Go.Proofs.Ytgofkhncaldheaa.RmA
set_option linter.unusedVariables false
set_option linter.unusedSimpArgs false
theorem first_take (ms : List Mv) (q : Nat) (h : q < ms.length) (a b : Int) (h0 : first (ms.take q) a b = none) : first (ms.take (q + 1)) a b = if (ms.getD q default).fb = a ∧ (ms.getD q default).fs = b then some ((ms.getD q default).tb, (ms.getD q default).ts) else none := by
  have e : ms.getD q default = ms[q] := by simp [h]
  rw [List.take_add_one, List.getElem?_eq_getElem h, e]
  show first (ms.take q ++ [ms[q]]) a b = _
  rw [first_snoc, h0]
theorem first_prefix (ms : List Mv) (q : Nat) (a b : Int) (p : Sp) (h : first (ms.take q) a b = some p) : first ms a b = some p := by
  have e : ms = ms.take q ++ ms.drop q := (List.take_append_drop q ms).symm
  unfold first at h ⊢
  rw [e, List.find?_append]
  cases hf : (ms.take q).find? (fun m => decide (m.fb = a ∧ m.fs = b)) with
  | none => rw [hf] at h; cases h
  | some x => rw [hf] at h; simpa using h
theorem rangeA_blk {w : World} {g : Nat} {C : List Value} {t : TypeId} (h : w.heap[g]? = some (.cells C.toArray t (0, 0))) : Hd.RangeA w ⟨g, 0, none⟩ C := fun j v hj => by
  rw [addr0]
  exact obj_cell h j (by rw [List.getElem?_toArray]; exact hj)
theorem moved_set (r : Ref) (h : r.Ok) (p1 p2 : Int) : (r.cells.toArray.setIfInBounds 33 (.int .i64 p1)).setIfInBounds 34 (.int .i64 p2) = ({ r with bin := p1, slot := p2 } : Ref).cells.toArray := by
  have hl : (nums .u8 r.s).length = 32 := by simp [nums, h.n]
  apply Array.toList_inj.1
  rw [Array.toList_setIfInBounds, Array.toList_setIfInBounds]
  show ((nums .u8 r.s ++ _).set 33 _).set 34 _ = _
  rw [List.set_append_right _ _ (by omega), List.set_append_right _ _ (by omega), hl]
  rfl
theorem map_take (ms : List Mv) (rs : List Ref) (i : Nat) (h : i < rs.length) : (rs.take (i + 1)).map (mvR ms) = (rs.take i).map (mvR ms) ++ [mvR ms (rs.getD i default)] := by
  have e : rs.getD i default = rs[i] := by simp [h]
  rw [List.take_add_one, List.getElem?_eq_getElem h, e]
  simp only [Option.toList_some, List.map_append, List.map_cons, List.map_nil]
set_option maxRecDepth 100000 in
set_option maxHeartbeats 16000000 in
theorem rmove_calls (A : Option Addr) (k c : Nat) (rs : List Ref) (B : Option Addr) (m c2 : Nat) (ms : List Mv) (w : World) (h : RefsC w A k rs) (hk : k * 56 ≤ 140737488351232) (hB : dMv.C w B m ms) (hm : m ≤ 1000000) :
    Calls Try.prog 25 #[.slice A k c, .slice B m c2] w fun e w' => ∃ v, e = .returned (.tuple #[v, .int .i64 (cnt ms rs : Nat)]) ∧ Kd.R dRef 56 w' w.heap.size (fun _ => True) (v) (rs.map (mvR ms)) ∧ Below w.heap.size w w' := by
  have H := Aside0.mk h
  have HL := Aside0.mk h.len
  have HB := Aside0.mk hB
  have HML := Aside0.mk (show ms.length = m from hB.1)
  have HMO := Aside0.mk (mv_ok hB)
  have HU := Aside0.mk Try.underlying56
  obtain ⟨Z, hz, hzv⟩ := zeroRef
  have HZ := Aside0.mk hz
  have HZV := Aside0.mk hzv
  clear h hB hz hzv
  go_enter Try.func25, Try.ntmps25
  go_wp2
  go_loopg [6, 7, 8] (k + 1) (fun gk v6 v7 v8 wr => ∃ j : Nat, v8 = .int .i64 j ∧ v7 = .int .i64 (cnt ms (rs.take j) : Nat) ∧ j ≤ k ∧ Aside0 (gk = k - j + 1) ∧ Aside0 (Kd.R dRef 56 wr w.heap.size (fun _ => True) (v6) ((rs.take j).map (mvR ms))) ∧ Aside0 (Below w.heap.size w wr))
  case atStart => exact ⟨0, rfl, by simp [cnt], Nat.zero_le _, ⟨rfl⟩, ⟨Kd.R_made_nil dRef w 56⟩, ⟨below_alloc (Below.refl _ _) _⟩⟩
  case round =>
    obtain ⟨j, rfl, rfl, hj, HG2, HOj, HBj⟩ := hrel
    obtain ⟨wj, rfl⟩ : ∃ wj : World, wj = wr := ⟨_, rfl⟩
    by_cases hjk : j < k
    · have h2 : decide ((j : Int) < (k : Int)) = true := by simp; omega
      have hjr : j < rs.length := by rw [HL.out]; exact hjk
      obtain ⟨ad, rfl⟩ := H.out.is (by omega)
      have hp1 : (0 : Int) ≤ (j : Int) := by omega
      have hp2 : (j : Int) < (k : Int) := by omega
      have hRA := (H.out.below HBj.out).cells ad rfl j hjk
      have hok := H.out.ok j hjk
      have HMT := Aside0.mk (map_take ms rs j hjr)
      have HCS := Aside0.mk (cnt_succ ms rs j hjr)
      have hcj := cnt_le ms rs j
      generalize hr0 : rs.getD j default = r at *
      clear hr0
      have HI := Aside0.mk (infoRef _ hok)
      have HRA := Aside0.mk hRA
      have HI2 : Aside0 ((Try.prog.info? 56).map (·.size) = some r.cells.toArray.size) := ⟨by rw [List.size_toArray]; exact HI.out⟩
      have HZC := Aside0.mk (show Z.size = r.cells.toArray.size from HZ.out.trans (by rw [List.size_toArray, Ref.cells_len hok]))
      have HON := Aside0.mk (Ref.cells_one (r := r))
      have HGX := Aside0.mk (heap_alloc_new wj (.cells r.cells.toArray 56))
      have HOK := Aside0.mk hok
      have HOA := Aside0.mk (Kd.R_alloc HOj.out (.cells r.cells.toArray 56))
      have HBA := Aside0.mk (below_alloc HBj.out (.cells r.cells.toArray 56))
      clear hRA hok
      obtain ⟨C, hC⟩ : ∃ C, C = r.cells := ⟨_, rfl⟩
      rw [← hC] at HI HRA HI2 HZC HON HOA HBA HGX
      have HCE := Aside0.mk hC
      clear hC
      generalize hwx : wj.alloc (.cells C.toArray 56) = wx at *
      have HWX := Aside0.mk hwx
      have HWS : Aside0 (wx.heap.size = wj.heap.size + 1) := ⟨by rw [← hwx]; simp⟩
      clear hwx
      go_wp2_with (first
        | ((with_reducible refine gate_ (.load 56 (.tmp 20)) rfl ?_); refine Hd.wpList_load_any rfl _ (.tmp 20) rfl _ rfl C _ HRA.out HU.out rfl HI.out ?_)
        | ((with_reducible refine gate_ (.alloc 56) rfl ?_); refine Hd.step_run rfl (Hd.exec_alloc _ rfl _ (HZV.out _)) ?_; refine Hd.wpList_store_new rfl _ _ _ rfl _ Z C.toArray rfl rfl HZC.out HI2.out HON.out ?_; rw [HWX.out]))
      go_loopg [7, 10] (m + 1) (fun gk v7 v10 wq => ∃ q : Nat, v10 = .int .i64 q ∧ v7 = .int .i64 (cnt ms (rs.take j) : Nat) ∧ q ≤ m ∧ Aside0 (gk = m - q + 1) ∧ Aside0 (first (ms.take q) r.bin r.slot = none) ∧ Aside0 (Below wx.heap.size wx wq))
      case atStart => exact ⟨0, rfl, rfl, Nat.zero_le _, ⟨rfl⟩, ⟨by simp [first]⟩, ⟨Below.refl _ _⟩⟩
      case round =>
        obtain ⟨q, rfl, rfl, hq, HG3, HFN, HBq⟩ := hrel
        have HOq := Aside0.mk (Kd.R_below HOA.out HBq.out)
        have HBqq := Aside0.mk (below_then HBA.out HBA.out.size HBq.out)
        have HGq : Aside0 (wr.heap[wj.heap.size]? = some (.cells C.toArray 56 (0, 0))) := ⟨(HBq.out.block _ (by have := HWS.out; omega)).trans HGX.out⟩
        by_cases hqm : q < m
        · have h3 : decide ((q : Int) < (m : Int)) = true := by simp; omega
          obtain ⟨bd, rfl, hmo, a0, a1, a2, a3⟩ := mv_cells (Kd.C_below HB.out HBqq.out) q hqm
          have HMC : Aside0 (∀ W, Below w.heap.size w W → W.cell? ⟨(bd.add (q * 4)).block, (bd.add (q * 4)).off + 2, none⟩ = some (.int .i64 (ms.getD q default).tb) ∧ W.cell? ⟨(bd.add (q * 4)).block, (bd.add (q * 4)).off + 3, none⟩ = some (.int .i64 (ms.getD q default).ts)) := ⟨fun W hW => by
            obtain ⟨bd', e', _, _, _, z2, z3⟩ := mv_cells (Kd.C_below HB.out hW) q hqm
            injection e' with e'
            subst e'
            exact ⟨z2, z3⟩⟩
          have hq1 : (0 : Int) ≤ (q : Int) := by omega
          have hq2 : (q : Int) < (m : Int) := by omega
          have HFT := Aside0.mk (first_take ms q (by rw [HML.out]; exact hqm) r.bin r.slot HFN.out)
          have HFP := Aside0.mk (first_prefix ms (q + 1) r.bin r.slot)
          generalize ms.getD q default = x at *
          obtain ⟨fb, fs, tb, ts⟩ := x
          simp only at a0 a1 a2 a3
          have c33 := obj_cell HGq.out 33 (by rw [HCE.out]; exact Ref.cell_bin HOK.out)
          have c34 := obj_cell HGq.out 34 (by rw [HCE.out]; exact Ref.cell_slot HOK.out)
          have f33 := obj_free HGq.out 33
          have f34 := obj_free HGq.out 34
          by_cases he1 : fb = r.bin
          · by_cases he2 : fs = r.slot
            · have hb1 : (fb == r.bin) = true := by simpa using he1
              have hb2 : (fs == r.slot) = true := by simpa using he2
              have HFX : Aside0 (first ms r.bin r.slot = some (tb, ts)) := ⟨HFP.out _ (by rw [HFT.out, if_pos ⟨he1, he2⟩])⟩
              have HMV : Aside0 (mvR ms r = { r with bin := tb, slot := ts }) := ⟨by unfold mvR; rw [HFX.out]⟩
              have HCN : Aside0 (cnt ms (rs.take (j + 1)) = cnt ms (rs.take j) + 1) := ⟨by rw [HCS.out, HFX.out]; rfl⟩
              have hmo2 := hmo
              have HOK2 : Aside0 (Ref.Ok { r with bin := tb, slot := ts }) := ⟨⟨HOK.out.n, HOK.out.wf, HOK.out.l, hmo2.c, hmo2.d⟩⟩
              have HST := Aside0.mk (moved_set r HOK.out tb ts)
              clear hmo2 HFX hmo
              obtain ⟨C2, hC2⟩ : ∃ C2, C2 = ({ r with bin := tb, slot := ts } : Ref).cells := ⟨_, rfl⟩
              rw [← hC2, ← HCE.out] at HST
              have HI2' : Aside0 ((Try.prog.info? 56).map (·.size) = some C2.length) := ⟨by rw [hC2]; exact infoRef _ HOK2.out⟩
              have HCL : Aside0 (C2.length = 35) := ⟨by rw [hC2]; exact Ref.cells_len HOK2.out⟩
              have HDK : Aside0 (∀ W, dRef.K W { r with bin := tb, slot := ts } C2) := ⟨fun W => ⟨HOK2.out, hC2⟩⟩
              clear hC2
              generalize hrb : r.bin = rb at hb1 c33
              generalize hrs : r.slot = rsl at hb2 c34
              have HRB := Aside0.mk hrb
              have HRS := Aside0.mk hrs
              clear he1 he2 hrb hrs
              go_wp2
              go_quiet (fail)
              have hz := pw_below_drewN (Below.refl wr.heap.size wr) nq
              generalize hwz : wr.drewN nq = wz at *
              clear hwz
              have c33z := (hz.cell (p := ⟨wj.heap.size, 33, none⟩) (World.block_lt_of_cell? _ _ c33)).trans c33
              have c34z := (hz.cell (p := ⟨wj.heap.size, 34, none⟩) (World.block_lt_of_cell? _ _ c34)).trans c34
              have HGz := Aside0.mk ((hz.block _ (Array.getElem?_eq_some_iff.1 HGq.out).1).trans HGq.out)
              have f33z := obj_free HGz.out 33
              have f34z := obj_free HGz.out 34
              obtain ⟨a2z, a3z⟩ := HMC.out _ (below_then HBqq.out HBqq.out.size hz)
              have HOz := Aside0.mk (Kd.R_below HOq.out hz)
              have HBz := Aside0.mk (below_then HBqq.out HBqq.out.size hz)
              have HBB := Aside0.mk (below_then HBq.out HBq.out.size hz)
              have hg3 := obj_grown wz wj.heap.size 33 (.int .i64 tb)
              have hb3 := obj_set HGz.out 33 (.int .i64 tb)
              have hg4 := obj_grown (wz.setCell ⟨wj.heap.size, 33, none⟩ (.int .i64 tb)) wj.heap.size 34 (.int .i64 ts)
              have hb4 := obj_set hb3 34 (.int .i64 ts)
              rw [HST.out] at hb4
              have hnb : ∀ kk, some wj.heap.size = some kk → some kk ≠ u6.ownBlock := fun kk e hb => by
                injection e with e
                subst e
                have := Kd.R_lt HOj.out _ hb.symm
                omega
              have HO4 := Aside0.mk (Kd.R_grown2 (Kd.R_grown2 HOz.out rfl hg3 hnb) rfl hg4 hnb)
              have HB4 := Aside0.mk (ReA.below_grown (ReA.below_grown HBz.out hg3 (fun r e => by injection e with e; have := HBj.out.size; omega)) hg4 (fun r e => by injection e with e; have := HBj.out.size; omega))
              have HRA9 := Aside0.mk (rangeA_blk hb4)
              have ha2w : ∀ x, (wz.setCell ⟨wj.heap.size, 33, none⟩ x).cell? ⟨(bd.add (q * 4)).block, (bd.add (q * 4)).off + 3, none⟩ = some (.int .i64 ts) := fun x => by
                obtain ⟨_, h3⟩ := HMC.out (wz.setCell ⟨wj.heap.size, 33, none⟩ x) (ReA.below_grown HBz.out (obj_grown wz wj.heap.size 33 x) (fun r e => by injection e with e; have := HBj.out.size; omega))
                exact h3
              clear hz hg3 hg4 hb3 hb4 hnb a0 a1 a2 a3 c33 c34 f33 f34
              go_wp2_with (first
                | ((with_reducible refine gate_ (.load 56 (.tmp 9)) rfl ?_); refine Hd.wpList_load_any rfl _ (.tmp 9) rfl _ rfl C2 _ HRA9.out HU.out rfl HI2'.out ?_)
                | ((with_reducible refine gate_ (.buildSlice 22 1 #[(0, .tmp 65)]) rfl ?_); refine Lit.wpList_lit1 rfl _ 56 (.tmp 65) rfl C2 rfl Try.underlying22 infoRef3 HCL.out (by decide) (by decide) ?_)
                | ((with_reducible refine gate_builtin (b := .append) (xs := #[.tmp 64, .tmp 66]) rfl ?_); at_builtin; refine app1 dRef flat_ref w.heap.size (w0 := w) (.tmp 64) (.tmp 66) 22 56 _ 56 rfl rfl Try.underlying22 infoRef3 rfl (by decide) (by decide) _ ((rs.take j).map (mvR ms)) { r with bin := tb, slot := ts } C2 rfl rfl (HDK.out _) HO4.out HB4.out HB4.out.size ?aL ?_; (case aL => simp; omega); intro v1 w1 ho1 hb1 hg1 hat1; have HO1 := Aside0.mk ho1; have HB1 := Aside0.mk hb1; clear ho1 hb1 hg1 hat1))
              go_roundg (k - (j + 1) + 1)
              case measure => have := HG2.out; omega
              case rel => exact ⟨j + 1, by go_num, by rw [HCN.out]; go_num, by omega, ⟨rfl⟩, ⟨by rw [HMT.out, HMV.out]; exact HO1.out⟩, HB1⟩
            · have hb1 : (fb == r.bin) = true := by simpa using he1
              have hb2 : (fs == r.slot) = false := by simpa using he2
              have HFX : Aside0 (first (ms.take (q + 1)) r.bin r.slot = none) := ⟨by rw [HFT.out, if_neg (fun h => he2 h.2)]⟩
              generalize r.bin = rb at *
              generalize r.slot = rsl at *
              clear he1 he2 hmo
              go_wp2
              go_quiet (fail)
              go_wp2
              go_roundg (m - (q + 1) + 1)
              case measure => have := HG3.out; omega
              case rel => exact ⟨q + 1, by go_num, rfl, by omega, ⟨rfl⟩, HFX, ⟨below_then HBq.out HBq.out.size (pw_below_drewN (Below.refl _ _) _)⟩⟩
          · have hb1 : (fb == r.bin) = false := by simpa using he1
            have HFX : Aside0 (first (ms.take (q + 1)) r.bin r.slot = none) := ⟨by rw [HFT.out, if_neg (fun h => he1 h.1)]⟩
            generalize r.bin = rb at *
            generalize r.slot = rsl at *
            clear he1 hmo
            go_wp2
            go_quiet (fail)
            go_wp2
            go_roundg (m - (q + 1) + 1)
            case measure => have := HG3.out; omega
            case rel => exact ⟨q + 1, by go_num, rfl, by omega, ⟨rfl⟩, HFX, ⟨below_then HBq.out HBq.out.size (pw_below_drewN (Below.refl _ _) _)⟩⟩
        · obtain rfl : q = m := by omega
          have h3 : decide ((q : Int) < (q : Int)) = false := by simp
          have HRA9 := Aside0.mk (rangeA_blk HGq.out)
          have HMV : Aside0 (mvR ms r = r) := ⟨by have := HFN.out; rw [List.take_of_length_le (by rw [HML.out]; exact Nat.le_refl _)] at this; unfold mvR; rw [this]⟩
          have HCN : Aside0 (cnt ms (rs.take (j + 1)) = cnt ms (rs.take j)) := ⟨by have := HFN.out; rw [List.take_of_length_le (by rw [HML.out]; exact Nat.le_refl _)] at this; rw [HCS.out, this]; rfl⟩
          have HCL : Aside0 (C.length = 35) := ⟨by rw [HCE.out]; exact Ref.cells_len HOK.out⟩
          have HDK : Aside0 (∀ W, dRef.K W r C) := ⟨fun W => ⟨HOK.out, HCE.out⟩⟩
          go_wp2_with (first
            | ((with_reducible refine gate_ (.load 56 (.tmp 9)) rfl ?_); refine Hd.wpList_load_any rfl _ (.tmp 9) rfl _ rfl C _ HRA9.out HU.out rfl HI.out ?_)
            | ((with_reducible refine gate_ (.buildSlice 22 1 #[(0, .tmp 65)]) rfl ?_); refine Lit.wpList_lit1 rfl _ 56 (.tmp 65) rfl C rfl Try.underlying22 infoRef3 HCL.out (by decide) (by decide) ?_)
            | ((with_reducible refine gate_builtin (b := .append) (xs := #[.tmp 64, .tmp 66]) rfl ?_); at_builtin; refine app1 dRef flat_ref w.heap.size (w0 := w) (.tmp 64) (.tmp 66) 22 56 _ 56 rfl rfl Try.underlying22 infoRef3 rfl (by decide) (by decide) _ ((rs.take j).map (mvR ms)) r C rfl rfl (HDK.out _) HOq.out HBqq.out HBqq.out.size ?aL ?_; (case aL => simp; omega); intro v1 w1 ho1 hb1 hg1 hat1; have HO1 := Aside0.mk ho1; have HB1 := Aside0.mk hb1; clear ho1 hb1 hg1 hat1))
          go_roundg (k - (j + 1) + 1)
          case measure => have := HG2.out; omega
          case rel => exact ⟨j + 1, by go_num, by rw [HCN.out], by omega, ⟨rfl⟩, ⟨by rw [HMT.out, HMV.out]; exact HO1.out⟩, HB1⟩
    · obtain rfl : j = k := by omega
      have h2 : decide ((j : Int) < (j : Int)) = false := by simp
      go_wp2
      go_ret2
      have e : rs.take j = rs := List.take_of_length_le (by rw [HL.out]; exact Nat.le_refl _)
      exact ⟨_, by rw [e]; rfl, by have := HOj.out; rwa [e] at this, HBj.out⟩
end Go.Proofs.Ytgofkhncaldheaa.RmB
