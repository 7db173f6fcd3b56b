/- What segment.Put computes: refs' bytes, or why there are none. -/
import Derived.Test.YtkobolgbmfhpgaaReN
import Derived.Test.YtkobolgbmfhpgaaSgT
namespace Go.Proofs.Ytkobolgbmfhpgaa.ReP
open Go Go.RowKit Go.Proofs.YtkobolgbmfhpgaaW.PrintWords Go.Proofs.Ytkobolgbmfhpgaa.K Go.Proofs.Ytkobolgbmfhpgaa.OctS Go.Proofs.Ytkobolgbmfhpgaa.OctP Go.Proofs.Ytkobolgbmfhpgaa.Oct Go.Proofs.Ytkobolgbmfhpgaa.ReS Go.Proofs.Ytkobolgbmfhpgaa.ReR Go.Proofs.Ytkobolgbmfhpgaa.ReT Go.Proofs.Ytkobolgbmfhpgaa.ReN
set_option linter.unusedVariables false
set_option linter.unusedSimpArgs false
/-- A ref's bytes; refs' bytes. -/
def refB (r : Ref) : List Int := r.s ++ [r.len.toNat, r.bin.toNat, r.slot.toNat].flatMap numB
def refsB (rs : List Ref) : List Int := [rs.length].flatMap numB ++ rs.flatMap refB
theorem refB_take (rs : List Ref) (i : Nat) (h : i < rs.length) : (rs.take (i + 1)).flatMap refB = (rs.take i).flatMap refB ++ refB (rs.getD i default) := by
  rw [List.take_add_one, List.getElem?_eq_getElem h, List.flatMap_append]
  simp [h]
theorem refB_len (r : Ref) (h : r.Ok) (ho : okRef r) : (refB r).length ≤ 56 := by
  unfold okRef at ho
  unfold refB
  rw [List.length_append, h.n]
  have := flatB_le [r.len.toNat, r.bin.toNat, r.slot.toNat] (by simp; omega)
  simp only [List.length_cons, List.length_nil] at this
  omega
theorem refsB_le (rs : List Ref) (h : ∀ r ∈ rs, r.Ok) (ho : AllOk rs) : (rs.flatMap refB).length ≤ 56 * rs.length := by
  induction rs with
  | nil => simp
  | cons r rs ih =>
    rw [List.flatMap_cons, List.length_append, List.length_cons]
    have := refB_len r (h r (by simp)) (ho r (by simp))
    have := ih (fun m hm => h m (by simp [hm])) (fun m hm => ho m (by simp [hm]))
    omega
theorem sum_of_row {w : World} {g : Nat} {r : Ref} (h : w.heap[g]? = some (.cells r.cells.toArray 34 (0, 0))) (ho : r.Ok) : (Kd.int .u8).C w (some ⟨g, 0, none⟩) 32 r.s := by
  have hl := ho.n
  rw [← hl]
  refine Kd.C_of_reads (d := 0) ⟨rfl, by omega, fun _ => ⟨⟨g, 0, none⟩, rfl, fun j hj => ?_⟩⟩
  have : w.cell? ⟨g, 0 + j, none⟩ = some (.int .u8 (r.s.getD j 0)) := obj_cell h (0 + j) (by
    rw [List.getElem?_toArray, Nat.zero_add]
    show (nums .u8 r.s ++ _)[j]? = _
    rw [List.getElem?_append_left (by simp [nums]; exact hj)]
    simp [nums, hj])
  rw [Nat.zero_add] at this
  by_cases hj0 : j = 0
  · subst hj0; simpa [Addr.add] using this
  · simpa [Addr.add, hj0] using this
theorem cells_of_row {w : World} {g : Nat} {r : Ref} (h : w.heap[g]? = some (.cells r.cells.toArray 34 (0, 0))) (ho : r.Ok) :
    w.cell? ⟨g, 32, none⟩ = some (.int .i64 r.len) ∧ w.cell? ⟨g, 33, none⟩ = some (.int .i64 r.bin) ∧ w.cell? ⟨g, 34, none⟩ = some (.int .i64 r.slot) :=
  ⟨obj_cell h 32 (Ref.cell_len ho), obj_cell h 33 (Ref.cell_bin ho), obj_cell h 34 (Ref.cell_slot ho)⟩
theorem put_long (A : Option Addr) (k c : Nat) (w : World) (hk : 64 < k) (hm : k ≤ maxLen) : Calls Try.prog 22 #[.slice A k c] w fun e w' => e = .returned (.tuple #[.slice none 0 0, .int .i64 6]) ∧ w = w' := by
  have h1 : decide (64 < (k : Int)) = true := by simp; omega
  go_enter Try.func22, Try.ntmps22
  go_wp2
  go_ret2
  exact ⟨rfl, rfl⟩
set_option maxHeartbeats 4000000 in
theorem put_calls (A : Option Addr) (k c : Nat) (rs : List Ref) (w : World) (h : RefsC w A k rs) (hk : k ≤ 64) : Calls Try.prog 22 #[.slice A k c] w fun e w' =>
    Below w.heap.size w w' ∧ ((AllOk rs ∧ ∃ v, e = .returned (.tuple #[v, .int .i64 0]) ∧ Kd.R (Kd.int .u8) 5 w' w.heap.size (fun _ => True) (v) (refsB rs)) ∨ (¬ AllOk rs ∧ e = .returned (.tuple #[.slice none 0 0, .int .i64 2]))) := by
  have H := Aside0.mk h
  have HL := Aside0.mk h.len
  have HE := Aside0.mk h.each
  have HU := Aside0.mk Try.underlying34
  obtain ⟨Z, hz, hzv⟩ := zeroRef
  have HZ := Aside0.mk hz
  have HZV := Aside0.mk hzv
  have h64 : decide (64 < (k : Int)) = false := by simp; omega
  clear h hz hzv
  go_enter Try.func22, Try.ntmps22
  have HN0 := Aside0.mk (fun W (hb : w.heap.size ≤ W.heap.size) => nums_calls w.heap.size W.heap.size (.slice none 0 0) [] [k] 1 rfl (W.alloc (.cells #[.int .i64 k] 3)) (Kd.R_nil (Kd.int .u8) 5 _ _ _) (heap_alloc_new W _) (Nat.le_trans hb (by simp)) (by simp; omega) (by simp))
  go_wp2_with (go_at_call 36; (with_reducible refine (HN0.out _ (Nat.le_refl _)).mono ?_); rintro e w' ⟨v0, rfl, ho, hb1, hgw⟩; have HO0 := Aside0.mk ho; have HB0 := Aside0.mk ((below_alloc (Below.refl _ w) (.cells #[.int .i64 k] 3)).trans hb1); clear ho hb1 hgw HN0)
  go_loopg [4, 16] (k + 1) (fun gk v4 v16 wr => ∃ i : Nat, v16 = .int .i64 i ∧ i ≤ k ∧ Aside0 (gk = k - i + 1) ∧ Aside0 (AllOk (rs.take i)) ∧ Aside0 (Kd.R (Kd.int .u8) 5 wr w.heap.size (fun _ => True) (v4) (([k].flatMap numB ++ (rs.take i).flatMap refB))) ∧ Aside0 (Below w.heap.size w wr))
  case atStart => exact ⟨0, rfl, Nat.zero_le _, ⟨rfl⟩, ⟨fun r hr => by simp at hr⟩, ⟨by simpa using HO0.out⟩, HB0⟩
  case round =>
    obtain ⟨i, rfl, hi, HK, HA, HOr, HBr⟩ := hrel
    by_cases hlt : i < k
    · have h1 : decide ((i : Int) < (k : Int)) = true := by simp; omega
      obtain ⟨ad, hA⟩ := H.out.is (by omega)
      subst hA
      have hp1 : (0 : Int) ≤ (i : Int) := by omega
      have hp2 : (i : Int) < (k : Int) := by omega
      have hok := H.out.ok i hlt
      have hRA := (H.out.below HBr.out).cells ad rfl i hlt
      have HF := Aside0.mk (refB_take rs i (by rw [HL.out]; exact hlt))
      have HM : Aside0 (rs.getD i default ∈ rs) := by
        have : i < rs.length := by rw [HL.out]; exact hlt
        exact ⟨by simp [this]⟩
      have HTK : Aside0 (okRef (rs.getD i default) → AllOk (rs.take (i + 1))) := ⟨fun ho r hr => by
        have : i < rs.length := by rw [HL.out]; exact hlt
        rw [List.take_add_one, List.mem_append] at hr
        rcases hr with hr | hr
        · exact HA.out r hr
        · simp [this] at hr
          have e : rs.getD i default = rs[i] := by simp [this]
          rw [e] at ho
          rw [hr]; exact ho⟩
      generalize rs.getD i default = r at *
      have HI := Aside0.mk (infoRef _ hok)
      have HRA := Aside0.mk hRA
      have HOK := Aside0.mk hok
      have HI2 : Aside0 ((Try.prog.info? 34).map (·.size) = some r.cells.toArray.size) := ⟨by rw [List.size_toArray]; exact HI.out⟩
      have HZC := Aside0.mk (show Z.size = r.cells.toArray.size from HZ.out.trans (by rw [List.size_toArray, Ref.cells_len hok]))
      have HON := Aside0.mk (Ref.cells_one (r := r))
      have HRG := Aside0.mk (fun W => right_calls r hok W)
      have HRA2 : Aside0 (Hd.RangeA (wr.alloc (.cells r.cells.toArray 34)) ⟨wr.heap.size, 0, none⟩ r.cells) := ⟨fun j v hj => by
        have := obj_cell (heap_alloc_new wr (.cells r.cells.toArray 34)) j (v := v) (by simpa using hj)
        by_cases hj0 : j = 0
        · subst hj0; simpa [Addr.add] using this
        · simpa [Addr.add, hj0] using this⟩
      have HB1 := Aside0.mk (below_alloc HBr.out (.cells r.cells.toArray 34))
      have HO1 := Aside0.mk (Kd.R_alloc HOr.out (.cells r.cells.toArray 34))
      have HG1 := Aside0.mk (heap_alloc_new wr (.cells r.cells.toArray 34))
      have HGS := Aside0.mk (Nat.le_of_eq (World.size_alloc wr (.cells r.cells.toArray 34)).symm)
      clear hok hRA
      generalize hb : decide (okRef r) = b at *
      have HBB := Aside0.mk hb
      clear hb
      have HC : Aside0 (r.cells = r.cells) := ⟨rfl⟩
      generalize hC : r.cells = C at HI HRA HI2 HZC HON HRG HRA2 HB1 HO1 HG1 HGS HC
      have HCE := Aside0.mk hC
      clear hC
      generalize hwa : wr.alloc (.cells C.toArray 34) = wa at *
      have HWA := Aside0.mk hwa
      clear hwa
      cases b with
      | false =>
        go_wp2_with (first
          | ((with_reducible refine gate_ (.load 34 (.tmp 18)) rfl ?_); refine Hd.wpList_load_any rfl _ (.tmp 18) rfl _ rfl C _ HRA.out HU.out rfl HI.out ?_)
          | ((with_reducible refine gate_ (.alloc 34) rfl ?_); refine Hd.step_run rfl (Hd.exec_alloc _ rfl _ (HZV.out _)) ?_; refine Hd.wpList_store_new rfl _ _ _ rfl _ Z C.toArray rfl rfl HZC.out HI2.out HON.out ?_; rw [HWA.out])
          | ((with_reducible refine gate_ (.load 34 (.tmp 6)) rfl ?_); refine Hd.wpList_load_any rfl _ (.tmp 6) rfl _ rfl C _ HRA2.out HU.out rfl HI.out ?_)
          | (go_at_call 37; (with_reducible refine (HRG.out _).mono ?_); rintro e w' ⟨rfl, hb1⟩; have HB2 := Aside0.mk (below_then HB1.out HB1.out.size hb1); clear hb1))
        go_ret2
        exact ⟨HB2.out, .inr ⟨fun h => by have := h _ HM.out; have h2 := HBB.out; exact absurd ((decide_eq_true this).symm.trans h2) (by decide), rfl⟩⟩
      | true =>
        have hor : okRef r := of_decide_eq_true HBB.out
        have HRL := Aside0.mk (refB_len r HOK.out hor)
        obtain ⟨x0, h00, hx0⟩ : ∃ x : Nat, r.len = x ∧ x ≤ 512 := ⟨r.len.toNat, by unfold okRef at hor; omega, by unfold okRef at hor; omega⟩
        obtain ⟨y0, h01, hy0⟩ : ∃ x : Nat, r.bin = x ∧ x ≤ 4095 := ⟨r.bin.toNat, by unfold okRef at hor; omega, by unfold okRef at hor; omega⟩
        obtain ⟨z0, h02, hz0⟩ : ∃ x : Nat, r.slot = x ∧ x ≤ 63 := ⟨r.slot.toNat, by unfold okRef at hor; omega, by unfold okRef at hor; omega⟩
        have HRB : Aside0 (refB r = r.s ++ [x0, y0, z0].flatMap numB) := ⟨by unfold refB; rw [h00, h01, h02]; rfl⟩
        have HSL := Aside0.mk HOK.out.n
        have HXT := Aside0.mk (HTK.out hor)
        have HS3 : Aside0 (∀ W : World, W.heap[wr.heap.size]? = some (.cells C.toArray 34 (0, 0)) → W.cell? ⟨wr.heap.size, 32, none⟩ = some (.int .i64 (x0 : Int)) ∧ W.cell? ⟨wr.heap.size, 33, none⟩ = some (.int .i64 (y0 : Int)) ∧ W.cell? ⟨wr.heap.size, 34, none⟩ = some (.int .i64 (z0 : Int))) := ⟨fun W hW => by
          rw [← HCE.out] at hW
          have := cells_of_row hW HOK.out
          rwa [h00, h01, h02] at this⟩
        have HSM : Aside0 (∀ W : World, W.heap[wr.heap.size]? = some (.cells C.toArray 34 (0, 0)) → (Kd.int .u8).C W (some ⟨wr.heap.size, 0, none⟩) 32 r.s) := ⟨fun W hW => by
          rw [← HCE.out] at hW
          exact sum_of_row hW HOK.out⟩
        clear h00 h01 h02 hor
        generalize hgr : wr.heap.size = g6 at *
        have HGR := Aside0.mk hgr
        clear hgr
        go_wp2_with (first
          | ((with_reducible refine gate_ (.load 34 (.tmp 18)) rfl ?_); refine Hd.wpList_load_any rfl _ (.tmp 18) rfl _ rfl C _ HRA.out HU.out rfl HI.out ?_)
          | ((with_reducible refine gate_ (.alloc 34) rfl ?_); refine Hd.step_run rfl (Hd.exec_alloc _ rfl _ (HZV.out _)) ?_; refine Hd.wpList_store_new rfl _ _ _ rfl _ Z C.toArray rfl rfl HZC.out HI2.out HON.out ?_; rw [HWA.out, HGR.out])
          | ((with_reducible refine gate_ (.load 34 (.tmp 6)) rfl ?_); refine Hd.wpList_load_any rfl _ (.tmp 6) rfl _ rfl C _ HRA2.out HU.out rfl HI.out ?_)
          | (go_at_call 37; (with_reducible refine (HRG.out _).mono ?_); rintro e w' ⟨rfl, hb1⟩; have HB2 := Aside0.mk (below_then HB1.out HB1.out.size hb1); have HO2 := Aside0.mk (Kd.R_below HO1.out hb1); have HG2 := Aside0.mk ((hb1.block g6 (by have := HGS.out; omega)).trans HG1.out); clear hb1))
        have HLi : Aside0 (([k].flatMap numB).length + ((rs.take i).flatMap refB).length ≤ 8 + 56 * i) := ⟨by
          have h1 := flatB_le [k] (by simp; omega)
          have h2 := refsB_le (rs.take i) (fun r hr => HE.out r (List.mem_of_mem_take hr)) HA.out
          rw [List.length_take, HL.out] at h2
          simp only [List.length_cons, List.length_nil] at h1
          omega⟩
        have hs0 := HS3.out _ HG2.out
        (refine Hd.startE (S := (fun W => W.cell? ⟨g6, 32, none⟩ = some (.int .i64 (x0 : Int)) ∧ W.cell? ⟨g6, 33, none⟩ = some (.int .i64 (y0 : Int)) ∧ W.cell? ⟨g6, 34, none⟩ = some (.int .i64 (z0 : Int)))) 1000 (by kernel_rfl) (hs0) (fun hHeld => ?_))
        (refine Hd.takeE (i := 0) (v := ?_) rfl rfl (by kernel_rfl) (by kernel_rfl) (by kernel_rfl) (by kernel_rfl) (by first | exact fun _ _ _ h => h | exact fun _ _ _ h => HQP.out (by decide) h) (Or.inl ⟨by rfl, ?_⟩) (by assumption) ?_; rotate_left; (focus (intro wS hS; (try go_split_ands); go_simp; all_goals (with_reducible rfl))); simp only [List.set_cons_zero, List.set_cons_succ, List.setIfInBounds_toArray]); (refine Hd.takeE (i := 1) (v := ?_) rfl rfl (by kernel_rfl) (by kernel_rfl) (by kernel_rfl) (by kernel_rfl) (by first | exact fun _ _ _ h => h | exact fun _ _ _ h => HQP.out (by decide) h) (Or.inl ⟨by rfl, ?_⟩) (by assumption) ?_; rotate_left; (focus (intro wS hS; (try go_split_ands); go_simp; all_goals (with_reducible rfl))); simp only [List.set_cons_zero, List.set_cons_succ, List.setIfInBounds_toArray]); (refine Hd.takeE (i := 2) (v := ?_) rfl rfl (by kernel_rfl) (by kernel_rfl) (by kernel_rfl) (by kernel_rfl) (by first | exact fun _ _ _ h => h | exact fun _ _ _ h => HQP.out (by decide) h) (Or.inl ⟨by rfl, ?_⟩) (by assumption) ?_; rotate_left; (focus (intro wS hS; (try go_split_ands); go_simp; all_goals (with_reducible rfl))); simp only [List.set_cons_zero, List.set_cons_succ, List.setIfInBounds_toArray]); (refine Hd.takeE (i := 4) (v := ?_) rfl rfl (by kernel_rfl) (by kernel_rfl) (by kernel_rfl) (by kernel_rfl) (by first | exact fun _ _ _ h => h | exact fun _ _ _ h => HQP.out (by decide) h) (Or.inl ⟨by rfl, ?_⟩) (by assumption) ?_; rotate_left; (focus (intro wS hS; (try go_split_ands); go_simp; all_goals (with_reducible rfl))); simp only [List.set_cons_zero, List.set_cons_succ, List.setIfInBounds_toArray]); (refine Hd.takeE (i := 5) (v := ?_) rfl rfl (by kernel_rfl) (by kernel_rfl) (by kernel_rfl) (by kernel_rfl) (by first | exact fun _ _ _ h => h | exact fun _ _ _ h => HQP.out (by decide) h) (Or.inl ⟨by rfl, ?_⟩) (by assumption) ?_; rotate_left; (focus (intro wS hS; (try go_split_ands); go_simp; all_goals (with_reducible rfl))); simp only [List.set_cons_zero, List.set_cons_succ, List.setIfInBounds_toArray]); (refine Hd.takeE (i := 6) (v := ?_) rfl rfl (by kernel_rfl) (by kernel_rfl) (by kernel_rfl) (by kernel_rfl) (by first | exact fun _ _ _ h => h | exact fun _ _ _ h => HQP.out (by decide) h) (Or.inl ⟨by rfl, ?_⟩) (by assumption) ?_; rotate_left; (focus (intro wS hS; (try go_split_ands); go_simp; all_goals (with_reducible rfl))); simp only [List.set_cons_zero, List.set_cons_succ, List.setIfInBounds_toArray]); (refine Hd.takeE (i := 7) (v := ?_) rfl rfl (by kernel_rfl) (by kernel_rfl) (by kernel_rfl) (by kernel_rfl) (by first | exact fun _ _ _ h => h | exact fun _ _ _ h => HQP.out (by decide) h) (Or.inl ⟨by rfl, ?_⟩) (by assumption) ?_; rotate_left; (focus (intro wS hS; (try go_split_ands); go_simp; all_goals (with_reducible rfl))); simp only [List.set_cons_zero, List.set_cons_succ, List.setIfInBounds_toArray]); (refine Hd.takeE (i := 8) (v := ?_) rfl rfl (by kernel_rfl) (by kernel_rfl) (by kernel_rfl) (by kernel_rfl) (by first | exact fun _ _ _ h => h | exact fun _ _ _ h => HQP.out (by decide) h) (Or.inl ⟨by rfl, ?_⟩) (by assumption) ?_; rotate_left; (focus (intro wS hS; (try go_split_ands); go_simp; all_goals (with_reducible rfl))); simp only [List.set_cons_zero, List.set_cons_succ, List.setIfInBounds_toArray]); (refine Hd.takeE (i := 9) (v := ?_) rfl rfl (by kernel_rfl) (by kernel_rfl) (by kernel_rfl) (by kernel_rfl) (by first | exact fun _ _ _ h => h | exact fun _ _ _ h => HQP.out (by decide) h) (Or.inl ⟨by rfl, ?_⟩) (by assumption) ?_; rotate_left; (focus (intro wS hS; (try go_split_ands); go_simp; all_goals (with_reducible rfl))); simp only [List.set_cons_zero, List.set_cons_succ, List.setIfInBounds_toArray])
        have HBd := Aside0.mk (below_drew1 HB2.out)
        have HOd := Aside0.mk (Kd.R_drew HO2.out)
        have HGd : Aside0 (w'.drew.heap[g6]? = some (.cells C.toArray 34 (0, 0))) := ⟨HG2.out⟩
        (refine Hd.readyE (rs := [3, 10]) (by kernel_rfl) (by simp) ?_; refine Hd.AllE.cons (i := 3) rfl (fun K hK => ?_) (Hd.AllE.cons (i := 10) rfl (fun K hK => ?_) (Hd.AllE.nil)))
        · ((refine Hd.step_of_list rfl ?_; refine app (Kd.int .u8) (flat_int .u8) w.heap.size (w0 := w) (.tmp 23) (.tmp 25) 42 5 (.int .u8 0) 1 rfl rfl Try.underlying42 infoU8 rfl (by decide) (by decide) _ ([k].flatMap numB ++ (rs.take i).flatMap refB) r.s (some ⟨g6, 0, none⟩) 32 32 (by rfl) (by first | rfl | simp [Act.eval]) HOd.out (HSM.out _ HGd.out) HBd.out HBd.out.size (by have := HLi.out; have := HSL.out; simp only [List.length_append]; omega) ?_; intro v3 w3 ho3 hb3 hg3 hat3; refine wpList_nil ?_); refine hK.out _ _ (HS3.out _ ((hg3.block g6 (Array.getElem?_eq_some_iff.1 HGd.out).1 (Kd.R_ne HOd.out HGd.out (by decide))).trans HGd.out)) (fun hHeld => ?_); clear hK K; (try simp only [Act.put, List.setIfInBounds_toArray, List.set_cons_zero, List.set_cons_succ]))
          have HG3 := Aside0.mk ((hg3.block g6 (Array.getElem?_eq_some_iff.1 HGd.out).1 (Kd.R_ne HOd.out HGd.out (by decide))).trans HGd.out)
          have HO3 := Aside0.mk ho3
          have HB3 := Aside0.mk hb3
          clear ho3 hb3 hg3 hat3
          (refine Hd.readyE (rs := [10]) (by kernel_rfl) (by simp) ?_; refine Hd.AllE.cons (i := 10) rfl (fun K hK => ?_) Hd.AllE.nil; go_simp; refine hK.out _ _ (HS3.out _ ((Below.heap_alloc w3 _ g6 (Array.getElem?_eq_some_iff.1 HG3.out).1).trans HG3.out)) (fun hHeld => ?_); clear hK K; (try simp only [Act.put, List.setIfInBounds_toArray, List.set_cons_zero, List.set_cons_succ]))
          have HNM := Aside0.mk (nums_calls w.heap.size w3.heap.size v3 _ [x0, y0, z0] 3 rfl (w3.alloc (.cells #[.int .i64 (x0 : Int), .int .i64 (y0 : Int), .int .i64 (z0 : Int)] 3)) (Kd.R_alloc HO3.out _) (heap_alloc_new w3 _) (Nat.le_trans HB3.out.size (by simp)) (by simp; omega) (by have := HLi.out; have := HSL.out; simp only [List.length_append, List.length_cons, List.length_nil]; omega))
          have HG4 := Aside0.mk ((Below.heap_alloc w3 (.cells #[.int .i64 (x0 : Int), .int .i64 (y0 : Int), .int .i64 (z0 : Int)] 3) g6 (Array.getElem?_eq_some_iff.1 HG3.out).1).trans HG3.out)
          have HB4 := Aside0.mk (below_alloc HB3.out (.cells #[.int .i64 (x0 : Int), .int .i64 (y0 : Int), .int .i64 (z0 : Int)] 3))
          have HNE := Aside0.mk (Kd.R_ne HO3.out HG3.out (by decide))
          (refine Hd.readyE (rs := [11]) (by kernel_rfl) (by simp) ?_; refine Hd.AllE.cons (i := 11) rfl (fun K hK => ?_) Hd.AllE.nil; (go_simp; (go_at_call 36; (with_reducible refine (HNM.out).mono ?_); rintro e w5 ⟨v5, rfl, ho5, hb5, hgw5⟩)); refine hK.out _ _ (HS3.out _ (hgw5.block HG4.out HNE.out)) (fun hHeld => ?_); clear hK K; (try simp only [Act.put, List.setIfInBounds_toArray, List.set_cons_zero, List.set_cons_succ]))
          have HO5 := Aside0.mk ho5
          have HB5 := Aside0.mk (HB4.out.trans hb5)
          clear ho5 hb5 hgw5
          (refine Hd.takeE (i := 12) (v := ?_) rfl rfl (by kernel_rfl) (by kernel_rfl) (by kernel_rfl) (by kernel_rfl) (by first | exact fun _ _ _ h => h | exact fun _ _ _ h => HQP.out (by decide) h) (Or.inl ⟨by rfl, ?_⟩) (by assumption) ?_; rotate_left; (focus (intro wS hS; (try go_split_ands); go_simp; all_goals (with_reducible rfl))); simp only [List.set_cons_zero, List.set_cons_succ, List.setIfInBounds_toArray])
          (refine Hd.endE (by kernel_rfl) ?_ _)
          go_wp2
          go_roundg (k - (i + 1) + 1)
          case measure => have := HK.out; omega
          case rel => exact ⟨i + 1, by go_num, by omega, ⟨rfl⟩, HXT, ⟨by rw [HF.out, HRB.out]; have := HO5.out; rwa [← List.append_assoc, ← List.append_assoc]⟩, HB5⟩
        · (go_simp; refine hK.out _ _ (HS3.out _ ((Below.heap_alloc w'.drew _ g6 (Array.getElem?_eq_some_iff.1 HGd.out).1).trans HGd.out)) (fun hHeld => ?_); clear hK K; (try simp only [Act.put, List.setIfInBounds_toArray, List.set_cons_zero, List.set_cons_succ]))
          have HGe : Aside0 ((w'.alloc (.cells #[.int .i64 (x0 : Int), .int .i64 (y0 : Int), .int .i64 (z0 : Int)] 3)).drew.heap[g6]? = some (.cells C.toArray 34 (0, 0))) := ⟨(Below.heap_alloc w' (.cells #[.int .i64 (x0 : Int), .int .i64 (y0 : Int), .int .i64 (z0 : Int)] 3) g6 (Array.getElem?_eq_some_iff.1 HG2.out).1).trans HG2.out⟩
          have HNW : Aside0 ((w'.alloc (.cells #[.int .i64 (x0 : Int), .int .i64 (y0 : Int), .int .i64 (z0 : Int)] 3)).drew.heap[w'.heap.size]? = some (.cells #[.int .i64 (x0 : Int), .int .i64 (y0 : Int), .int .i64 (z0 : Int)] 3)) := ⟨heap_alloc_new w' (.cells #[.int .i64 (x0 : Int), .int .i64 (y0 : Int), .int .i64 (z0 : Int)] 3)⟩
          have HBe := Aside0.mk (below_drew1 (below_alloc HB2.out (.cells #[.int .i64 (x0 : Int), .int .i64 (y0 : Int), .int .i64 (z0 : Int)] 3)))
          have HOe := Aside0.mk (Kd.R_drew (Kd.R_alloc HO2.out (.cells #[.int .i64 (x0 : Int), .int .i64 (y0 : Int), .int .i64 (z0 : Int)] 3)))
          (refine Hd.readyE (rs := [3]) (by kernel_rfl) (by simp) ?_; refine Hd.AllE.cons (i := 3) rfl (fun K hK => ?_) Hd.AllE.nil; (refine Hd.step_of_list rfl ?_; refine app (Kd.int .u8) (flat_int .u8) w.heap.size (w0 := w) (.tmp 23) (.tmp 25) 42 5 (.int .u8 0) 1 rfl rfl Try.underlying42 infoU8 rfl (by decide) (by decide) _ ([k].flatMap numB ++ (rs.take i).flatMap refB) r.s (some ⟨g6, 0, none⟩) 32 32 (by rfl) (by first | rfl | simp [Act.eval]) HOe.out (HSM.out _ HGe.out) HBe.out HBe.out.size (by have := HLi.out; have := HSL.out; simp only [List.length_append]; omega) ?_; intro v3 w3 ho3 hb3 hg3 hat3; refine wpList_nil ?_); refine hK.out _ _ (HS3.out _ ((hg3.block g6 (Array.getElem?_eq_some_iff.1 HGe.out).1 (Kd.R_ne HOe.out HGe.out (by decide))).trans HGe.out)) (fun hHeld => ?_); clear hK K; (try simp only [Act.put, List.setIfInBounds_toArray, List.set_cons_zero, List.set_cons_succ]))
          have HG3 := Aside0.mk ((hg3.block g6 (Array.getElem?_eq_some_iff.1 HGe.out).1 (Kd.R_ne HOe.out HGe.out (by decide))).trans HGe.out)
          have HO3 := Aside0.mk ho3
          have HB3 := Aside0.mk hb3
          have HN3 := Aside0.mk ((hg3.block w'.heap.size (Array.getElem?_eq_some_iff.1 HNW.out).1 (Kd.R_ne HOe.out HNW.out (by decide))).trans HNW.out)
          clear ho3 hb3 hg3 hat3
          have HNM := Aside0.mk (nums_calls w.heap.size w'.heap.size v3 _ [x0, y0, z0] 3 rfl w3 HO3.out HN3.out HB3.out.size (by simp; omega) (by have := HLi.out; have := HSL.out; simp only [List.length_append, List.length_cons, List.length_nil]; omega))
          have HNE := Aside0.mk (Kd.R_ne HO3.out HG3.out (by decide))
          (refine Hd.readyE (rs := [11]) (by kernel_rfl) (by simp) ?_; refine Hd.AllE.cons (i := 11) rfl (fun K hK => ?_) Hd.AllE.nil; (go_simp; (go_at_call 36; (with_reducible refine (HNM.out).mono ?_); rintro e w5 ⟨v5, rfl, ho5, hb5, hgw5⟩)); refine hK.out _ _ (HS3.out _ (hgw5.block HG3.out HNE.out)) (fun hHeld => ?_); clear hK K; (try simp only [Act.put, List.setIfInBounds_toArray, List.set_cons_zero, List.set_cons_succ]))
          have HO5 := Aside0.mk ho5
          have HB5 := Aside0.mk (HB3.out.trans hb5)
          clear ho5 hb5 hgw5
          (refine Hd.takeE (i := 12) (v := ?_) rfl rfl (by kernel_rfl) (by kernel_rfl) (by kernel_rfl) (by kernel_rfl) (by first | exact fun _ _ _ h => h | exact fun _ _ _ h => HQP.out (by decide) h) (Or.inl ⟨by rfl, ?_⟩) (by assumption) ?_; rotate_left; (focus (intro wS hS; (try go_split_ands); go_simp; all_goals (with_reducible rfl))); simp only [List.set_cons_zero, List.set_cons_succ, List.setIfInBounds_toArray])
          (refine Hd.endE (by kernel_rfl) ?_ _)
          go_wp2
          go_roundg (k - (i + 1) + 1)
          case measure => have := HK.out; omega
          case rel => exact ⟨i + 1, by go_num, by omega, ⟨rfl⟩, HXT, ⟨by rw [HF.out, HRB.out]; have := HO5.out; rwa [← List.append_assoc, ← List.append_assoc]⟩, HB5⟩
    · obtain rfl : i = k := by omega
      have h1 : decide ((i : Int) < (i : Int)) = false := by simp
      go_wp2
      go_ret2
      rw [List.take_of_length_le (by rw [HL.out]; exact Nat.le_refl _)] at HA HOr
      refine ⟨HBr.out, .inl ⟨HA.out, _, rfl, ?_⟩⟩
      unfold refsB
      rw [HL.out]
      exact HOr.out
end Go.Proofs.Ytkobolgbmfhpgaa.ReP
