/- What recipe.Move computes: the refs, moved, and how many; condition: the refs and the moves read as lists. -/
import Derived.Test.YtgofkhncaldheaaRmS
namespace Go.Proofs.Ytgofkhncaldheaa.RmA
open Go Go.RowKit Go.Proofs.YtgofkhncaldheaaW.PrintWords Go.Proofs.Ytgofkhncaldheaa.K Go.Proofs.Ytgofkhncaldheaa.ReS Go.Proofs.Ytgofkhncaldheaa.ReR Go.Proofs.Ytgofkhncaldheaa.ReT Go.Proofs.Ytgofkhncaldheaa.ReK Go.Proofs.Ytgofkhncaldheaa.ReE Go.Proofs.Ytgofkhncaldheaa.ReO Go.Proofs.Ytgofkhncaldheaa.Mp Go.Proofs.Ytgofkhncaldheaa.Eq Go.Proofs.Ytgofkhncaldheaa.RmS
set_option linter.unusedVariables false
set_option linter.unusedSimpArgs false
theorem addr0 (g n : Nat) : (⟨g, 0, none⟩ : Addr).add n = ⟨g, n, none⟩ := by
  unfold Addr.add
  split
  · rename_i h; rw [h]
  · simp
set_option maxRecDepth 100000 in
set_option maxHeartbeats 16000000 in
theorem move_calls (A : Option Addr) (k c : Nat) (rs : List Ref) (B : Option Addr) (m c2 : Nat) (ms : List Mv) (w : World) (h : RefsC w A k rs) (hk : k * 56 ≤ 140737488351232) (hB : dMv.C w B m ms) (hm : m ≤ 3000000000000) :
    Calls Try.prog 24 #[.slice A k c, .slice B m c2] w fun e w' => ∃ v, e = .returned (.tuple #[v, .int .i64 (cnt ms rs : Nat)]) ∧ Kd.R dRef 56 w' w.heap.size (fun _ => True) (v) (rs.map (mvR ms)) ∧ Below w.heap.size w w' := by
  have H := Aside0.mk h
  have HL := Aside0.mk h.len
  have HB := Aside0.mk hB
  have HML := Aside0.mk (show ms.length = m from hB.1)
  have HMO := Aside0.mk (mv_ok hB)
  have HU := Aside0.mk Try.underlying56
  obtain ⟨Z, hz, hzv⟩ := zeroRef
  have HZ := Aside0.mk hz
  have HZV := Aside0.mk hzv
  have HZS := Aside0.mk zeroSpot
  have hmm := @run_makeMap Try.prog
  clear h hB hz hzv
  go_enter Try.func24, Try.ntmps24
  have HCL := Aside0.mk (cloneR A k c rs w (refs_C H.out) hk)
  go_wp2_with (go_at_call 31; (with_reducible refine (HCL.out).mono ?_); rintro e w' ⟨v1, rfl, ho1, hb1⟩; obtain ⟨A1, c1, rfl, hlc1, hC1⟩ := Kd.R_reads ho1; have HO1 := Aside0.mk ho1; have HB1 := Aside0.mk hb1; clear ho1 hb1 hC1 hlc1 HCL)
  obtain ⟨w1, rfl⟩ : ∃ W : World, W = w' := ⟨_, rfl⟩
  have HNB : Aside0 (some w1.heap.size ≠ (Value.slice A1 rs.length c1).ownBlock) := ⟨fun e => by have := Kd.R_lt HO1.out _ e.symm; omega⟩
  have HM0 : Aside0 (MapF Try.prog 61 (w1.alloc (.map #[] 0)) w1.heap.size (mfn (ms.take 0)) 0) := ⟨by rw [List.take_zero, mfn_nil]; exact MapF.made w1⟩
  have HO0 := Aside0.mk (Kd.R_alloc HO1.out (.map #[] 0))
  have HB0 := Aside0.mk (below_alloc HB1.out (.map #[] 0))
  have HSZ1 := Aside0.mk HB1.out.size
  rw [HL.out] at HO1 HNB HO0 ⊢
  go_loopg [22] (m + 1) (fun gk v22 wr => ∃ i : Nat, v22 = .int .i64 i ∧ i ≤ m ∧ Aside0 (gk = m - i + 1) ∧ Aside0 (MapF Try.prog 61 wr w1.heap.size (mfn (ms.take i)) i) ∧ Aside0 (Kd.R dRef 56 wr w.heap.size (fun _ => True) ((.slice A1 k c1)) (rs)) ∧ Aside0 (Below w.heap.size w wr))
  case atStart => exact ⟨0, rfl, Nat.zero_le _, ⟨rfl⟩, HM0, HO0, HB0⟩
  case round =>
    obtain ⟨i, rfl, hi, HG, HMr, HOr, HBr⟩ := hrel
    obtain ⟨wo, rfl⟩ : ∃ wo : World, wo = wr := ⟨_, rfl⟩
    by_cases hlt : i < m
    · have h1 : decide ((i : Int) < (m : Int)) = true := by simp; omega
      obtain ⟨ad, rfl, hok, a0, a1, a2, a3⟩ := mv_cells (Kd.C_below HB.out HBr.out) i hlt
      have hp1 : (0 : Int) ≤ (i : Int) := by omega
      have hp2 : (i : Int) < (m : Int) := by omega
      have htk : ms.take (i + 1) = ms.take i ++ [ms.getD i default] := by
        have : i < ms.length := by rw [HML.out]; exact hlt
        rw [List.take_add_one, List.getElem?_eq_getElem this]
        simp [this]
      have HTK := Aside0.mk htk
      clear htk
      generalize ms.getD i default = x at *
      obtain ⟨fb, fs, tb, ts⟩ := x
      simp only at a0 a1 a2 a3
      obtain ⟨lk, hkey⟩ := key_spot fb fs hok.a hok.b
      have HKEY := Aside0.mk hkey
      clear hkey hok
      have HMA := Aside0.mk (HMr.out.below (below_alloc (Below.refl wo.heap.size wo) (.cells #[.int .i64 fb, .int .i64 fs, .int .i64 tb, .int .i64 ts] 66)))
      have HOA := Aside0.mk (Kd.R_alloc HOr.out (.cells #[.int .i64 fb, .int .i64 fs, .int .i64 tb, .int .i64 ts] 66))
      have HBA := Aside0.mk (below_alloc HBr.out (.cells #[.int .i64 fb, .int .i64 fs, .int .i64 tb, .int .i64 ts] 66))
      cases hf : first (ms.take i) fb fs with
      | some p =>
        have HF : Aside0 (mfn (ms.take i) (spotV (fb, fs)) = some (spotV p)) := ⟨by rw [mfn_at, hf]; rfl⟩
        have HMK := Aside0.mk (mfn_known (ms.take i) ⟨fb, fs, tb, ts⟩ p hf)
        clear hf
        obtain ⟨p1, p2⟩ := p
        go_wp2_with ((with_reducible refine gate_ (.lookup 79 (.tmp 27) (.tmp 29) true) rfl ?_); refine Mp.wpList_look_some rfl keyed_spot _ 61 Try.underlying79 HZS.out (.tmp 27) (.tmp 29) w1.heap.size rfl rfl HMA.out rfl HKEY.out HF.out ?_; unfold spotV)
        go_roundg (m - (i + 1) + 1)
        case measure => have := HG.out; omega
        case rel => exact ⟨i + 1, by go_num, by omega, ⟨rfl⟩, ⟨by rw [HTK.out, HMK.out]; exact (HMA.out.below (below_alloc (Below.refl _ _) _)).mono (Nat.le_succ _)⟩, ⟨Kd.R_alloc HOA.out _⟩, ⟨below_alloc HBA.out _⟩⟩
      | none =>
        have HF : Aside0 (mfn (ms.take i) (spotV (fb, fs)) = none) := ⟨by rw [mfn_at, hf]; rfl⟩
        have HMK := Aside0.mk (mfn_put (ms.take i) ⟨fb, fs, tb, ts⟩ hf)
        clear hf
        have HMB := Aside0.mk (HMA.out.below (below_alloc (Below.refl _ _) (.cells #[.int .i64 0, .int .i64 0] 61)))
        have HOB := Aside0.mk (Kd.R_alloc HOA.out (.cells #[.int .i64 0, .int .i64 0] 61))
        have HBB := Aside0.mk (below_alloc HBA.out (.cells #[.int .i64 0, .int .i64 0] 61))
        have HRM : Aside0 (i < maxLen) := ⟨by unfold maxLen; omega⟩
        go_wp2_with (first
          | ((with_reducible refine gate_ (.lookup 79 (.tmp 27) (.tmp 29) true) rfl ?_); refine Mp.wpList_look_none rfl keyed_spot _ 61 Try.underlying79 HZS.out (.tmp 27) (.tmp 29) w1.heap.size rfl rfl HMA.out rfl HKEY.out HF.out ?_)
          | (at_mapUpdate; refine (Mp.wpList_store (b := w1.heap.size) (f := mfn (ms.take i)) (f' := mfn (ms.take i ++ [⟨fb, fs, tb, ts⟩])) (n := i) (key := spotV (fb, fs)) (val := spotV (tb, ts)) (l := lk) (hgd := rfl) (K := keyed_spot) (ht := Try.underlying79) (ho := rfl) (hm := rfl) (h := HMB.out) (hroom := HRM.out) (hx := rfl) (hv := rfl) (hkey := HKEY.out) (hp := HMK.out) (hK := ?_)); intro w2 hm2 hg2 hs2; have HM2 := Aside0.mk hm2; have HG2 := Aside0.mk hg2; clear hm2 hg2 hs2))
        go_roundg (m - (i + 1) + 1)
        case measure => have := HG.out; omega
        case rel => exact ⟨i + 1, by go_num, by omega, ⟨rfl⟩, ⟨by rw [HTK.out]; have := HM2.out; rwa [HF.out] at this⟩, ⟨Kd.R_grown2 HOB.out rfl HG2.out (fun kk e hb => by injection e with e; subst e; exact HNB.out hb)⟩, ⟨ReA.below_grown HBB.out HG2.out (fun r e => by injection e with e; have := HSZ1.out; omega)⟩⟩
    · obtain rfl : i = m := by omega
      have h1 : decide ((i : Int) < (i : Int)) = false := by simp
      have hms : ms.take i = ms := List.take_of_length_le (by rw [HML.out]; exact Nat.le_refl _)
      have HMW := HMr.out
      rw [hms] at HMW
      have HM1 := Aside0.mk HMW
      clear HMW hms HMr
      go_wp2
      go_loopg [7, 43] (k + 1) (fun gk v7 v43 wr => ∃ j : Nat, v43 = .int .i64 j ∧ v7 = .int .i64 (cnt ms (rs.take j) : Nat) ∧ j ≤ k ∧ Aside0 (gk = k - j + 1) ∧ Aside0 (MapF Try.prog 61 wr w1.heap.size (mfn ms) i) ∧ Aside0 (Kd.R dRef 56 wr w.heap.size (fun _ => True) ((.slice A1 k c1)) (mix ms rs j)) ∧ Aside0 (Below w.heap.size w wr))
      case atStart => exact ⟨0, rfl, by simp [cnt], Nat.zero_le _, ⟨rfl⟩, HM1, ⟨by rw [mix_zero]; exact HOr.out⟩, HBr⟩
      case round =>
        obtain ⟨j, rfl, rfl, hj, HG2, HMj, HOj, HBj⟩ := hrel
        obtain ⟨wj, rfl⟩ : ∃ wj : World, wj = wr := ⟨_, rfl⟩
        by_cases hjk : j < k
        · have h2 : decide ((j : Int) < (k : Int)) = true := by simp; omega
          have hjr : j < rs.length := by rw [HL.out]; exact hjk
          obtain ⟨g2, cap2, hv, hg2b, hg2l, cells2, hg2c⟩ := Kd.R_form HOj.out (by rw [mix_len]; omega)
          injection hv with hA1 hkl hcap
          clear hkl
          subst hA1
          subst hcap
          have hp1 : (0 : Int) ≤ (j : Int) := by omega
          have hp2 : (j : Int) < (k : Int) := by omega
          have hRC := refs_of_C (Kd.R_reads' HOj.out).2.2 (by rw [mix_len, HL.out]; unfold maxLen; omega)
          have hmg : (mix ms rs j).getD j default = rs.getD j default := by
            have := mix_get ms rs j hjr
            rw [List.getD_eq_getElem?_getD, this]; rfl
          have hRA := hRC.cells _ rfl j (by rw [mix_len]; exact hjr)
          have hok := hRC.ok j (by rw [mix_len]; exact hjr)
          rw [hmg, addr0] at hRA
          rw [hmg] at hok
          clear hRC hmg
          have HMS := Aside0.mk (mix_succ ms rs j hjr)
          have HME := Aside0.mk (mix_same ms rs j hjr)
          have HCS := Aside0.mk (cnt_succ ms rs j hjr)
          have HMG := Aside0.mk (mix_get ms rs j hjr)
          have hcj := cnt_le ms rs j
          generalize hr0 : rs.getD j default = r at *
          clear hr0
          have HI := Aside0.mk (infoRef _ hok)
          have HRA := Aside0.mk hRA
          have HI2 : Aside0 ((Try.prog.info? 56).map (·.size) = some r.cells.toArray.size) := ⟨by rw [List.size_toArray]; exact HI.out⟩
          have HZC := Aside0.mk (show Z.size = r.cells.toArray.size from HZ.out.trans (by rw [List.size_toArray, Ref.cells_len hok]))
          have HON := Aside0.mk (Ref.cells_one (r := r))
          have HGX := heap_alloc_new wj (.cells r.cells.toArray 56)
          have c33 := obj_cell HGX 33 (Ref.cell_bin hok)
          have c34 := obj_cell HGX 34 (Ref.cell_slot hok)
          obtain ⟨lk, hkey⟩ := key_spot r.bin r.slot hok.b hok.sl
          have HKEY := Aside0.mk hkey
          have HOK := Aside0.mk hok
          have HMA := Aside0.mk (HMj.out.below (below_alloc (Below.refl wj.heap.size wj) (.cells r.cells.toArray 56)))
          have HOA := Aside0.mk (Kd.R_alloc HOj.out (.cells r.cells.toArray 56))
          have HBA := Aside0.mk (below_alloc HBj.out (.cells r.cells.toArray 56))
          clear hkey hRA hok HGX
          obtain ⟨C, hC⟩ : ∃ C, C = r.cells := ⟨_, rfl⟩
          rw [← hC] at HI HRA HI2 HZC HON c33 c34 HMA HOA HBA
          have HCE := Aside0.mk hC
          clear hC
          generalize hwx : wj.alloc (.cells C.toArray 56) = wx at *
          have HWX := Aside0.mk hwx
          have hwxs : wx.heap.size = wj.heap.size + 1 := by rw [← hwx]; simp
          have HWS := Aside0.mk hwxs
          clear hwx hwxs
          cases hf : first ms r.bin r.slot with
          | none =>
            have HF : Aside0 (mfn ms (spotV (r.bin, r.slot)) = none) := ⟨by rw [mfn_at, hf]; rfl⟩
            have HMN := Aside0.mk (HME.out (by unfold mvR; rw [hf]))
            have HCN : Aside0 (cnt ms (rs.take (j + 1)) = cnt ms (rs.take j)) := ⟨by rw [HCS.out, hf]; rfl⟩
            clear hf
            generalize r.bin = rb at *
            generalize r.slot = rsl at *
            go_wp2_with (first
              | ((with_reducible refine gate_ (.load 56 (.tmp 46)) rfl ?_); refine Hd.wpList_load_any rfl _ (.tmp 46) rfl _ rfl C _ HRA.out HU.out rfl HI.out ?_)
              | ((with_reducible refine gate_ (.alloc 56) rfl ?_); refine Hd.step_run rfl (Hd.exec_alloc _ rfl _ (HZV.out _)) ?_; refine Hd.step_run (v := .int .i64 (j : Int)) rfl (by rfl) ?_; refine Hd.wpList_store_new rfl _ _ _ rfl _ Z C.toArray rfl rfl HZC.out HI2.out HON.out ?_; rw [HWX.out])
              | ((with_reducible refine gate_ (.lookup 79 (.tmp 49) (.tmp 54) true) rfl ?_); refine Mp.wpList_look_none rfl keyed_spot _ 61 Try.underlying79 HZS.out (.tmp 49) (.tmp 54) w1.heap.size rfl rfl HMA.out rfl HKEY.out HF.out ?_))
            go_roundg (k - (j + 1) + 1)
            case measure => have := HG2.out; omega
            case rel => exact ⟨j + 1, by go_num, by rw [HCN.out], by omega, ⟨rfl⟩, ⟨HMA.out.below (below_alloc (Below.refl _ _) _)⟩, ⟨by rw [← HMN.out]; exact Kd.R_alloc HOA.out _⟩, ⟨below_alloc HBA.out _⟩⟩
          | some p =>
            obtain ⟨p1, p2⟩ := p
            have HF : Aside0 (mfn ms (spotV (r.bin, r.slot)) = some (spotV (p1, p2))) := ⟨by rw [mfn_at, hf]; rfl⟩
            have HPO := Aside0.mk (first_ok ms HMO.out _ _ _ hf)
            have HMV : Aside0 (mvR ms r = { r with bin := p1, slot := p2 }) := ⟨by unfold mvR; rw [hf]⟩
            have HCN : Aside0 (cnt ms (rs.take (j + 1)) = cnt ms (rs.take j) + 1) := ⟨by rw [HCS.out, hf]; rfl⟩
            clear hf
            generalize hrb : r.bin = rb at *
            generalize hrsl : r.slot = rsl at *
            have HRB := Aside0.mk hrb
            have HRS := Aside0.mk hrsl
            clear hrb hrsl
            go_wp2_with (first
              | ((with_reducible refine gate_ (.load 56 (.tmp 46)) rfl ?_); refine Hd.wpList_load_any rfl _ (.tmp 46) rfl _ rfl C _ HRA.out HU.out rfl HI.out ?_)
              | ((with_reducible refine gate_ (.alloc 56) rfl ?_); refine Hd.step_run rfl (Hd.exec_alloc _ rfl _ (HZV.out _)) ?_; refine Hd.step_run (v := .int .i64 (j : Int)) rfl (by rfl) ?_; refine Hd.wpList_store_new rfl _ _ _ rfl _ Z C.toArray rfl rfl HZC.out HI2.out HON.out ?_; rw [HWX.out])
              | ((with_reducible refine gate_ (.lookup 79 (.tmp 49) (.tmp 54) true) rfl ?_); refine Mp.wpList_look_some rfl keyed_spot _ 61 Try.underlying79 HZS.out (.tmp 49) (.tmp 54) w1.heap.size rfl rfl HMA.out rfl HKEY.out HF.out ?_; unfold spotV))
            have HG2W := Aside0.mk hg2c
            have HRZ : Aside0 (∀ jj u, C[jj]? = some u → (wx.alloc (.cells #[.int .i64 p1, .int .i64 p2] 61)).cell? ⟨g2, j * 35 + jj, none⟩ = some u) := ⟨fun jj u hu => by
              have h1 := HRA.out jj u hu
              rw [← addr0, Addr.add_add, addr0] at h1
              have hb : Below wj.heap.size wj (wx.alloc (.cells #[.int .i64 p1, .int .i64 p2] 61)) := by rw [← HWX.out]; exact below_alloc (below_alloc (Below.refl _ _) _) _
              exact (hb.cell (p := ⟨g2, j * 35 + jj, none⟩) hg2l).trans h1⟩
            have HFZ : Aside0 (∀ jj, (wx.alloc (.cells #[.int .i64 p1, .int .i64 p2] 61)).frozen? ⟨g2, jj, none⟩ = false) := ⟨fun jj => by
              have hb : Below wj.heap.size wj (wx.alloc (.cells #[.int .i64 p1, .int .i64 p2] 61)) := by rw [← HWX.out]; exact below_alloc (below_alloc (Below.refl _ _) _) _
              exact obj_free ((hb.block g2 hg2l).trans hg2c) jj⟩
            have HCB : Aside0 (C[33]? = some (.int .i64 rb) ∧ C[34]? = some (.int .i64 rsl)) := ⟨by
              have b1 := Ref.cell_bin HOK.out
              have b2 := Ref.cell_slot HOK.out
              rw [List.getElem?_toArray, ← HCE.out] at b1 b2
              rw [HRB.out] at b1
              rw [HRS.out] at b2
              exact ⟨b1, b2⟩⟩
            have e33 := HRZ.out 33 _ HCB.out.1
            have e34 := HRZ.out 34 _ HCB.out.2
            have f33 := HFZ.out (j * 35 + 33)
            have f34 := HFZ.out (j * 35 + 34)
            have HMZ := Aside0.mk (HMA.out.below (below_alloc (Below.refl _ _) (.cells #[.int .i64 p1, .int .i64 p2] 61)))
            have HOZ := Aside0.mk (Kd.R_alloc HOA.out (.cells #[.int .i64 p1, .int .i64 p2] 61))
            have HBZ := Aside0.mk (below_alloc HBA.out (.cells #[.int .i64 p1, .int .i64 p2] 61))
            have hsz := heap_alloc_new wx (.cells #[.int .i64 p1, .int .i64 p2] 61)
            have s0 := obj_cell (v := .int .i64 p1) hsz 0 rfl
            have s1 := obj_cell (v := .int .i64 p2) hsz 1 rfl
            have hne : wx.heap.size ≠ g2 := by have := HWS.out; omega
            generalize hbs : wx.heap.size = bs at *
            generalize hwz : wx.alloc (.cells #[.int .i64 p1, .int .i64 p2] 61) = wz at *
            clear hsz hwz
            have hs0 : wz.cell? ⟨bs, 0, none⟩ = some (.int .i64 p1) ∧ wz.cell? ⟨bs, 1, none⟩ = some (.int .i64 p2) := ⟨s0, s1⟩
            (refine Hd.startE (S := (fun W => W.cell? ⟨bs, 0, none⟩ = some (.int .i64 p1) ∧ W.cell? ⟨bs, 1, none⟩ = some (.int .i64 p2))) 1000 (by kernel_rfl) (hs0) (fun hHeld => ?_))
            (refine Hd.takeE (i := 0) (v := ?_) rfl rfl (by kernel_rfl) (by kernel_rfl) (by kernel_rfl) (by kernel_rfl) (fun _ _ _ h => h) (Or.inl ⟨by rfl, ?_⟩) (by assumption) ?_; rotate_left; (focus (intro wS hS; (try go_split_ands); go_simp; all_goals (with_reducible rfl))); simp only [List.set_cons_zero, List.set_cons_succ, List.setIfInBounds_toArray]); (refine Hd.takeE (i := 1) (v := ?_) rfl rfl (by kernel_rfl) (by kernel_rfl) (by kernel_rfl) (by kernel_rfl) (fun _ _ _ h => h) (Or.inl ⟨by rfl, ?_⟩) (by assumption) ?_; rotate_left; (focus (intro wS hS; (try go_split_ands); go_simp; all_goals (with_reducible rfl))); simp only [List.set_cons_zero, List.set_cons_succ, List.setIfInBounds_toArray]); (refine Hd.takeE (i := 2) (v := ?_) rfl rfl (by kernel_rfl) (by kernel_rfl) (by kernel_rfl) (by kernel_rfl) (fun _ _ _ h => h) (Or.inl ⟨by rfl, ?_⟩) (by assumption) ?_; rotate_left; (focus (intro wS hS; (try go_split_ands); go_simp; all_goals (with_reducible rfl))); simp only [List.set_cons_zero, List.set_cons_succ, List.setIfInBounds_toArray]); (refine Hd.takeE (i := 3) (v := ?_) rfl rfl (by kernel_rfl) (by kernel_rfl) (by kernel_rfl) (by kernel_rfl) (fun _ _ _ h => h) (Or.inl ⟨by rfl, ?_⟩) (by assumption) ?_; rotate_left; (focus (intro wS hS; (try go_split_ands); go_simp; all_goals (with_reducible rfl))); simp only [List.set_cons_zero, List.set_cons_succ, List.setIfInBounds_toArray]); (refine Hd.takeE (i := 4) (v := ?_) rfl rfl (by kernel_rfl) (by kernel_rfl) (by kernel_rfl) (by kernel_rfl) (fun _ _ _ h => h) (Or.inl ⟨by rfl, ?_⟩) (by assumption) ?_; rotate_left; (focus (intro wS hS; (try go_split_ands); go_simp; all_goals (with_reducible rfl))); simp only [List.set_cons_zero, List.set_cons_succ, List.setIfInBounds_toArray]); (refine Hd.takeE (i := 5) (v := ?_) rfl rfl (by kernel_rfl) (by kernel_rfl) (by kernel_rfl) (by kernel_rfl) (fun _ _ _ h => h) (Or.inl ⟨by rfl, ?_⟩) (by assumption) ?_; rotate_left; (focus (intro wS hS; (try go_split_ands); go_simp; all_goals (with_reducible rfl))); simp only [List.set_cons_zero, List.set_cons_succ, List.setIfInBounds_toArray]); (refine Hd.takeE (i := 6) (v := ?_) rfl rfl (by kernel_rfl) (by kernel_rfl) (by kernel_rfl) (by kernel_rfl) (fun _ _ _ h => h) (Or.inl ⟨by rfl, ?_⟩) (by assumption) ?_; rotate_left; (focus (intro wS hS; (try go_split_ands); go_simp; all_goals (with_reducible rfl))); simp only [List.set_cons_zero, List.set_cons_succ, List.setIfInBounds_toArray]); (refine Hd.takeE (i := 7) (v := ?_) rfl rfl (by kernel_rfl) (by kernel_rfl) (by kernel_rfl) (by kernel_rfl) (fun _ _ _ h => h) (Or.inl ⟨by rfl, ?_⟩) (by assumption) ?_; rotate_left; (focus (intro wS hS; (try go_split_ands); go_simp; all_goals (with_reducible rfl))); simp only [List.set_cons_zero, List.set_cons_succ, List.setIfInBounds_toArray]); (refine Hd.takeE (i := 8) (v := ?_) rfl rfl (by kernel_rfl) (by kernel_rfl) (by kernel_rfl) (by kernel_rfl) (fun _ _ _ h => h) (Or.inl ⟨by rfl, ?_⟩) (by assumption) ?_; rotate_left; (focus (intro wS hS; (try go_split_ands); go_simp; all_goals (with_reducible rfl))); simp only [List.set_cons_zero, List.set_cons_succ, List.setIfInBounds_toArray]); (refine Hd.takeE (i := 9) (v := ?_) rfl rfl (by kernel_rfl) (by kernel_rfl) (by kernel_rfl) (by kernel_rfl) (fun _ _ _ h => h) (Or.inl ⟨by rfl, ?_⟩) (by assumption) ?_; rotate_left; (focus (intro wS hS; (try go_split_ands); go_simp; all_goals (with_reducible rfl))); simp only [List.set_cons_zero, List.set_cons_succ, List.setIfInBounds_toArray])
            (refine Hd.readyE (rs := [10]) (by kernel_rfl) (by simp) ?_; refine Hd.AllE.cons (i := 10) rfl (fun K hK => ?_) Hd.AllE.nil; go_simp; refine hK.out _ _ ((by refine ⟨?_, ?_⟩ <;> go_simp)) (fun hHeld => ?_); clear hK K; (try simp only [Act.put, List.setIfInBounds_toArray, List.set_cons_zero, List.set_cons_succ]))
            (refine Hd.takeE (i := 11) (v := ?_) rfl rfl (by kernel_rfl) (by kernel_rfl) (by kernel_rfl) (by kernel_rfl) (fun _ _ _ h => h) (Or.inl ⟨by rfl, ?_⟩) (by assumption) ?_; rotate_left; (focus (intro wS hS; (try go_split_ands); go_simp; all_goals (with_reducible rfl))); simp only [List.set_cons_zero, List.set_cons_succ, List.setIfInBounds_toArray]); (refine Hd.takeE (i := 12) (v := ?_) rfl rfl (by kernel_rfl) (by kernel_rfl) (by kernel_rfl) (by kernel_rfl) (fun _ _ _ h => h) (Or.inl ⟨by rfl, ?_⟩) (by assumption) ?_; rotate_left; (focus (intro wS hS; (try go_split_ands); go_simp; all_goals (with_reducible rfl))); simp only [List.set_cons_zero, List.set_cons_succ, List.setIfInBounds_toArray])
            (refine Hd.readyE (rs := [13]) (by kernel_rfl) (by simp) ?_; refine Hd.AllE.cons (i := 13) rfl (fun K hK => ?_) Hd.AllE.nil; go_simp; refine hK.out _ _ ((by refine ⟨?_, ?_⟩ <;> go_simp)) (fun hHeld => ?_); clear hK K; (try simp only [Act.put, List.setIfInBounds_toArray, List.set_cons_zero, List.set_cons_succ]))
            (refine Hd.endE (by kernel_rfl) ?_ _)
            have hseg := Kd.R_seg HOZ.out (j : Int) (by omega) (by omega) (c := C) (seg := [.int .i64 p1, .int .i64 p2]) (j := 33) (okp := fun _ => False) (by rw [HCE.out]; exact Ref.cells_len HOK.out) (fun jj u hu => HRZ.out jj u hu) (by show 33 + 2 ≤ 35; omega) (x' := { r with bin := p1, slot := p2 }) ⟨⟨HOK.out.n, HOK.out.wf, HOK.out.l, HPO.out.1, HPO.out.2⟩, by rw [HCE.out]; exact moved_cells r HOK.out p1 p2⟩ (fun _ h => h.elim)
            rw [Int.toNat_natCast, ← HMV.out, HMS.out] at hseg
            have HSG := Aside0.mk hseg
            clear hseg
            have hmne : w1.heap.size ≠ g2 := by
              intro e
              obtain ⟨es, clock, hb, _⟩ := HMj.out.is
              rw [e, HG2W.out] at hb
              cases hb
            have HMF := Aside0.mk (HMZ.out.kept HSG.out.2 (fun e => hmne (by injection e)))
            have HBF := Aside0.mk (ReA.below_grown HBZ.out HSG.out.2 (fun r e => by injection e with e; omega))
            clear hmne
            go_wp2
            go_roundg (k - (j + 1) + 1)
            case measure => have := HG2.out; omega
            case rel => exact ⟨j + 1, by go_num, by rw [HCN.out]; go_num, by omega, ⟨rfl⟩, ⟨HMF.out.move rfl⟩, ⟨Kd.R_drew HSG.out.1⟩, ⟨below_drew1 HBF.out⟩⟩
        · obtain rfl : j = k := by omega
          have h2 : decide ((j : Int) < (j : Int)) = false := by simp
          go_wp2
          go_ret2
          have hme := mix_end ms rs
          rw [HL.out] at hme
          exact ⟨_, by rw [List.take_of_length_le (by rw [HL.out]; exact Nat.le_refl _)]; rfl, by rw [← hme]; exact HOj.out, HBj.out⟩
end Go.Proofs.Ytgofkhncaldheaa.RmA
