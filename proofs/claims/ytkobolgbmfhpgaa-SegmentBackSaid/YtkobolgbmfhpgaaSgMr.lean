/- The reference's Put, TakeRef and Take of segment, and that Take of Put are the refs. -/
import Derived.Test.YtkobolgbmfhpgaaSgMt
import Derived.Test.YtkobolgbmfhpgaaAp
import Derived.Test.YtkobolgbmfhpgaaSgHk
namespace Go.Proofs.Ytkobolgbmfhpgaa.SgRp
open Go Go.RowKit Go.Proofs.YtkobolgbmfhpgaaW.PrintWords Go.Proofs.Ytkobolgbmfhpgaa.K Go.Proofs.Ytkobolgbmfhpgaa.OctS Go.Proofs.Ytkobolgbmfhpgaa.OctP Go.Proofs.Ytkobolgbmfhpgaa.Oct Go.Proofs.Ytkobolgbmfhpgaa.ReS Go.Proofs.Ytkobolgbmfhpgaa.ReR Go.Proofs.Ytkobolgbmfhpgaa.ReT Go.Proofs.Ytkobolgbmfhpgaa.ReN Go.Proofs.Ytkobolgbmfhpgaa.ReP Go.Proofs.Ytkobolgbmfhpgaa.Ap Go.Proofs.Ytkobolgbmfhpgaa.SgHk
set_option linter.unusedVariables false
set_option linter.unusedSimpArgs false
theorem rput_long (A : Option Addr) (k c : Nat) (w : World) (hk : 64 < k) (hm : k ≤ maxLen) : Calls Try.prog 23 #[.slice A k c] w fun e w' => e = .returned (.tuple #[.slice none 0 0, .int .i64 6]) ∧ w = w' := by
  have h1 : decide (64 < (k : Int)) = true := by simp; omega
  go_enter Try.func23, Try.ntmps23
  go_wp2
  go_ret2
  exact ⟨rfl, rfl⟩
theorem infoS32 (s : List Int) (h : s.length = 32) : (Try.prog.info? 31).map (·.size) = some (nums .u8 s).length := by
  rw [show (nums .u8 s).length = 32 by simp [nums, h]]
  kernel_rfl
theorem zeroS32 : ∃ Z : Array Value, Z.size = 32 ∧ ∀ W, (zeroValue 31).run Try.prog W = .ok (.agg Z) W := by
  have h : (Try.prog.info? 31).map (fun i => i.zero) = some (some (.agg (List.replicate 32 (Value.int .u8 0)).toArray)) := by kernel_rfl
  refine ⟨(List.replicate 32 (Value.int .u8 0)).toArray, rfl, fun W => ?_⟩
  obtain ⟨i, h1, h2⟩ := Option.map_eq_some_iff.1 h
  simp [zeroValue, typeInfo, Sem.run_bind, h1, h2]
set_option maxHeartbeats 8000000 in
set_option maxRecDepth 100000 in
theorem rput_calls (A : Option Addr) (k c : Nat) (rs : List Ref) (w : World) (h : RefsC w A k rs) (hk : k ≤ 64) : Calls Try.prog 23 #[.slice A k c] w fun e w' =>
    Below w.heap.size w w' ∧ ((AllOk rs ∧ ∃ v, e = .returned (.tuple #[v, .int .i64 0]) ∧ Kd.R (Kd.int .u8) 5 w' w.heap.size (fun _ => True) (v) (refsB rs)) ∨ (¬ AllOk rs ∧ e = .returned (.tuple #[.slice none 0 0, .int .i64 2]))) := by
  have H := Aside0.mk h
  have HL := Aside0.mk h.len
  have HE := Aside0.mk h.each
  have HU := Aside0.mk Try.underlying34
  have HUS := Aside0.mk Try.underlying31
  obtain ⟨Z, hz, hzv⟩ := zeroS32
  have HZ := Aside0.mk hz
  have HZV := Aside0.mk hzv
  have h64 : decide (64 < (k : Int)) = false := by simp; omega
  clear h hz hzv
  go_enter Try.func23, Try.ntmps23
  go_wp2_with fail
  refine (rnum_ok k (by omega) w).mono ?_
  rintro e w0 ⟨v0, rfl, ho, hb0⟩
  have HO0 := Aside0.mk ho
  have HB0 := Aside0.mk hb0
  clear ho hb0
  go_wp2_with fail
  go_loopg [4, 6] (k + 1) (fun gk v4 v6 wr => ∃ i : Nat, v6 = .int .i64 i ∧ i ≤ k ∧ Aside0 (gk = k - i + 1) ∧ Aside0 (AllOk (rs.take i)) ∧ Aside0 (Kd.R (Kd.int .u8) 5 wr w.heap.size (fun _ => True) (v4) ((numB k ++ (rs.take i).flatMap refB))) ∧ Aside0 (Below w.heap.size w wr))
  case atStart => exact ⟨0, rfl, Nat.zero_le _, ⟨rfl⟩, ⟨fun r hr => by simp at hr⟩, ⟨by simpa using HO0.out⟩, HB0⟩
  case round =>
    obtain ⟨i, rfl, hi, HK, HA, HOr, HBr⟩ := hrel
    by_cases hlt : i < k
    · have h1 : decide ((i : Int) < (k : Int)) = true := by simp; omega
      obtain ⟨ad, hA⟩ := H.out.is (by omega)
      subst hA
      have hp1 : (0 : Int) ≤ (i : Int) := by omega
      have hp2 : (i : Int) < (k : Int) := by omega
      have hok := H.out.ok i hlt
      have hRA := fun W (hW : Below w.heap.size w W) => (H.out.below hW).cells ad rfl i hlt
      have HF := Aside0.mk (refB_take rs i (by rw [HL.out]; exact hlt))
      have HM : Aside0 (rs.getD i default ∈ rs) := by
        have : i < rs.length := by rw [HL.out]; exact hlt
        exact ⟨by simp [this]⟩
      have HTK : Aside0 (okRef (rs.getD i default) → AllOk (rs.take (i + 1))) := ⟨fun ho r hr => by
        have : i < rs.length := by rw [HL.out]; exact hlt
        rw [List.take_add_one, List.mem_append] at hr
        rcases hr with hr | hr
        · exact HA.out r hr
        · simp [this] at hr
          have e : rs.getD i default = rs[i] := by simp [this]
          rw [e] at ho
          rw [hr]; exact ho⟩
      generalize rs.getD i default = r at *
      have HI := Aside0.mk (infoRef _ hok)
      have HRA := Aside0.mk hRA
      have HOK := Aside0.mk hok
      have HRG := Aside0.mk (fun W => rright_calls r hok W)
      clear hok hRA
      generalize hb : decide (okRef r) = b at *
      have HBB := Aside0.mk hb
      clear hb
      cases b with
      | false =>
        go_wp2_with (first
          | ((with_reducible refine gate_ (.load 34 (.tmp 31)) rfl ?_); refine Hd.wpList_load_any rfl _ (.tmp 31) rfl _ rfl r.cells _ (HRA.out _ HBr.out) HU.out rfl HI.out ?_)
          | (go_at_call 39; (with_reducible refine (HRG.out _).mono ?_); rintro e w' ⟨rfl, hb1⟩; have HB2 := Aside0.mk (below_then HBr.out HBr.out.size hb1); clear hb1))
        go_ret2
        exact ⟨HB2.out, .inr ⟨fun h => by have := h _ HM.out; have h2 := HBB.out; exact absurd ((decide_eq_true this).symm.trans h2) (by decide), rfl⟩⟩
      | true =>
        have hor : okRef r := of_decide_eq_true HBB.out
        obtain ⟨x0, h00, hx0⟩ : ∃ x : Nat, r.len = x ∧ x ≤ 512 := ⟨r.len.toNat, by unfold okRef at hor; omega, by unfold okRef at hor; omega⟩
        obtain ⟨y0, h01, hy0⟩ : ∃ x : Nat, r.bin = x ∧ x ≤ 4095 := ⟨r.bin.toNat, by unfold okRef at hor; omega, by unfold okRef at hor; omega⟩
        obtain ⟨z0, h02, hz0⟩ : ∃ x : Nat, r.slot = x ∧ x ≤ 63 := ⟨r.slot.toNat, by unfold okRef at hor; omega, by unfold okRef at hor; omega⟩
        have HRB : Aside0 (refB r = r.s ++ [x0, y0, z0].flatMap numB) := ⟨by unfold refB; rw [h00, h01, h02]; rfl⟩
        have HSL := Aside0.mk HOK.out.n
        have HXT := Aside0.mk (HTK.out hor)
        have HS3 : Aside0 (∀ W : World, Below w.heap.size w W → W.cell? ⟨(ad.add (i * 35)).block, (ad.add (i * 35)).off + 32, none⟩ = some (.int .i64 (x0 : Int)) ∧ W.cell? ⟨(ad.add (i * 35)).block, (ad.add (i * 35)).off + 33, none⟩ = some (.int .i64 (y0 : Int)) ∧ W.cell? ⟨(ad.add (i * 35)).block, (ad.add (i * 35)).off + 34, none⟩ = some (.int .i64 (z0 : Int))) := ⟨fun W hW => by
          have h := HRA.out W hW
          have q32 := h 32 (.int .i64 r.len) (by simpa using Ref.cell_len HOK.out)
          have q33 := h 33 (.int .i64 r.bin) (by simpa using Ref.cell_bin HOK.out)
          have q34 := h 34 (.int .i64 r.slot) (by simpa using Ref.cell_slot HOK.out)
          rw [h00] at q32
          rw [h01] at q33
          rw [h02] at q34
          exact ⟨q32, q33, q34⟩⟩
        have HRS : Aside0 (∀ W : World, Below w.heap.size w W → Hd.RangeA W (ad.add (i * 35)) (nums .u8 r.s)) := ⟨fun W hW j v hj => HRA.out W hW j v (by
          show (nums .u8 r.s ++ _)[j]? = some v
          rw [List.getElem?_append_left (List.getElem?_eq_some_iff.1 hj).1]
          exact hj)⟩
        have HIS := Aside0.mk (infoS32 r.s HOK.out.n)
        have HLi : Aside0 ((numB k).length + ((rs.take i).flatMap refB).length ≤ 8 + 56 * i) := ⟨by
          have h1 := numB_len8 k (by omega)
          have h2 := refsB_le (rs.take i) (fun r hr => HE.out r (List.mem_of_mem_take hr)) HA.out
          rw [List.length_take, HL.out] at h2
          omega⟩
        have HSC : Aside0 (∀ (W : World) (g : Nat), W.heap[g]? = some (.cells (nums .u8 r.s).toArray 31 (0, 0)) → (Kd.int .u8).C W (some ⟨g, 0, none⟩) 32 r.s) := ⟨fun W g h => by have := row_C h (by rw [HSL.out]; decide); rwa [HSL.out] at this⟩
        have HZC := Aside0.mk (show Z.size = (nums .u8 r.s).toArray.size by rw [HZ.out]; simp [nums, HSL.out])
        have HIS2 := Aside0.mk (show (Try.prog.info? 31).map (·.size) = some (nums .u8 r.s).toArray.size by rw [List.size_toArray]; exact HIS.out)
        have HON := Aside0.mk (show (nums .u8 r.s).toArray.all (·.oneCell') = true from all_oneCell_toArray (fun v hv => by obtain ⟨x, _, rfl⟩ := List.mem_map.1 hv; rfl))
        clear h00 h01 h02 hor
        go_wp2_with (first
          | ((with_reducible refine gate_ (.load 34 (.tmp 31)) rfl ?_); refine Hd.wpList_load_any rfl _ (.tmp 31) rfl _ rfl r.cells _ (HRA.out _ HBr.out) HU.out rfl HI.out ?_)
          | (go_at_call 39; (with_reducible refine (HRG.out _).mono ?_); rintro e w' ⟨rfl, hb1⟩; have HB2 := Aside0.mk (below_then HBr.out HBr.out.size hb1); have HO2 := Aside0.mk (Kd.R_below HOr.out hb1); clear hb1)
          | ((with_reducible refine gate_ (.load 31 (.tmp 38)) rfl ?_); refine Hd.wpList_load_any rfl _ (.tmp 38) rfl _ rfl (nums .u8 r.s) _ (HRS.out _ HB2.out) HUS.out rfl HIS.out ?_)
          | ((with_reducible refine gate_ (.alloc 31) rfl ?_); refine Hd.step_run rfl (Hd.exec_alloc _ rfl _ (HZV.out _)) ?_; refine Hd.wpList_store_new rfl _ _ _ rfl _ Z (nums .u8 r.s).toArray rfl rfl HZC.out HIS2.out HON.out ?_; generalize hg6 : w'.heap.size = g6; have HG3 := Aside0.mk (show (w'.alloc (.cells (nums .u8 r.s).toArray 31)).heap[g6]? = some (.cells (nums .u8 r.s).toArray 31 (0, 0)) from by rw [← hg6]; exact heap_alloc_new w' _); have HB3 := Aside0.mk (below_alloc HB2.out (.cells (nums .u8 r.s).toArray 31)); have HO3 := Aside0.mk (Kd.R_alloc HO2.out (.cells (nums .u8 r.s).toArray 31)); clear hg6; refine Hold.out ?_))
        rename_i K0 h0
        refine ⟨?_⟩
        refine wpList_nil ?_
        refine h0 _ _ ?_
        clear h0 K0
        (try simp only [Act.put, List.setIfInBounds_toArray, List.set_cons_zero, List.set_cons_succ])
        refine wp_seq_k (fun K2 h2 => ?_)
        refine wp_region_lit ?_
        iterate 2 (refine wpList_step (fun K hK => ?_); go_simp; refine hK _ _ ?_; clear hK K; (try simp only [Act.put, List.setIfInBounds_toArray, List.set_cons_zero, List.set_cons_succ]))
        refine app (Kd.int .u8) (flat_int .u8) w.heap.size (w0 := w) (.tmp 40) (.tmp 41) 42 5 (.int .u8 0) 1 rfl rfl Try.underlying42 infoU8 rfl (by decide) (by decide) _ (numB k ++ (rs.take i).flatMap refB) r.s (some ⟨g6, 0, none⟩) 32 32 rfl rfl HO3.out (HSC.out _ _ HG3.out) HB3.out HB3.out.size (by have := HLi.out; simp only [List.length_append]; omega) ?_; intro v4 w4 ho4 hb4 hg4 hat4; have HO4 := Aside0.mk ho4; have HB4 := Aside0.mk hb4; obtain ⟨q32, q33, q34⟩ := HS3.out _ hb4; clear ho4 hb4 hg4 hat4
        (try simp only [Act.put, List.setIfInBounds_toArray, List.set_cons_zero, List.set_cons_succ])
        go_wp2_with fail
        refine (rnum_ok x0 (by omega) _).mono ?_
        rintro e w5 ⟨v5, rfl, ho, hb⟩
        have HP5 := Aside0.mk ho
        have HB5 := Aside0.mk (below_then HB4.out HB4.out.size hb)
        have HO5 := Aside0.mk (Kd.R_below HO4.out hb)
        have HA5 := Aside0.mk (apart_lt ho (R_lt_size HO4.out))
        obtain ⟨q32, q33, q34⟩ := HS3.out _ HB5.out
        clear ho hb
        clear q32 q33 q34
        obtain ⟨q32, q33, q34⟩ := HS3.out _ HB5.out
        go_wp2_with fail
        refine (rnum_ok y0 (by omega) _).mono ?_
        rintro e w6 ⟨v6, rfl, ho, hb⟩
        have HP6 := Aside0.mk ho
        have HB6 := Aside0.mk (below_then HB5.out HB5.out.size hb)
        have HO6 := Aside0.mk (Kd.R_below HO5.out hb)
        have HP56 := Aside0.mk (Kd.R_below HP5.out hb)
        have HA6 := Aside0.mk (apart_lt ho (R_lt_size HO5.out))
        obtain ⟨q32, q33, q34⟩ := HS3.out _ HB6.out
        clear ho hb
        go_wp2_with fail
        refine (rnum_ok z0 (by omega) _).mono ?_
        rintro e w7 ⟨v7, rfl, ho, hb⟩
        have HP7 := Aside0.mk ho
        have HB7 := Aside0.mk (below_then HB6.out HB6.out.size hb)
        have HO7 := Aside0.mk (Kd.R_below HO6.out hb)
        have HP57 := Aside0.mk (Kd.R_below HP56.out hb)
        have HP67 := Aside0.mk (Kd.R_below HP6.out hb)
        have HA7 := Aside0.mk (apart_lt ho (R_lt_size HO6.out))
        obtain ⟨q32, q33, q34⟩ := HS3.out _ HB7.out
        clear ho hb
        have HL5 := Aside0.mk (numB_len8 x0 (by omega))
        have HL6 := Aside0.mk (numB_len8 y0 (by omega))
        have HL7 := Aside0.mk (numB_len8 z0 (by omega))
        clear q32 q33 q34
        obtain ⟨A5, c5, rfl, -, hr5⟩ := Kd.R_reads HP57.out
        have HR5 := Aside0.mk hr5
        obtain ⟨A6, c6, rfl⟩ := Kd.R_slice HP67.out
        obtain ⟨A7, c7, rfl⟩ := Kd.R_slice HP7.out
        clear hr5
        go_wp2_with (first
          | ((with_reducible refine gate_builtin (b := .append) (xs := #[.tmp 70, .tmp 71]) rfl ?_); at_builtin; refine app (Kd.int .u8) (flat_int .u8) w.heap.size (w0 := w) (.tmp 70) (.tmp 71) 42 5 (.int .u8 0) 1 rfl rfl Try.underlying42 infoU8 rfl (by decide) (by decide) _ (numB k ++ (rs.take i).flatMap refB ++ r.s) (numB x0) A5 (numB x0).length c5 rfl rfl HO7.out HR5.out HB7.out HB7.out.size (by have := HLi.out; have := HSL.out; have := HL5.out; simp only [List.length_append]; omega) ?_; intro v8 w8 ho8 hb8 hg8 hat8; have HO8 := Aside0.mk ho8; have HB8 := Aside0.mk hb8; have hp8 := R_apart (flat_int _) HA6.out HP67.out hg8; have HR8 := Aside0.mk (Kd.R_reads' hp8).2.2; have HA8 := Aside0.mk (apart_next HA7.out HP7.out hat8); have HP8 := Aside0.mk (R_apart (flat_int _) HA7.out HP7.out hg8); clear ho8 hb8 hg8 hat8 hp8)
          | ((with_reducible refine gate_builtin (b := .append) (xs := #[.tmp 72, .tmp 73]) rfl ?_); at_builtin; refine app (Kd.int .u8) (flat_int .u8) w.heap.size (w0 := w) (.tmp 72) (.tmp 73) 42 5 (.int .u8 0) 1 rfl rfl Try.underlying42 infoU8 rfl (by decide) (by decide) _ ((numB k ++ (rs.take i).flatMap refB ++ r.s) ++ numB x0) (numB y0) A6 (numB y0).length c6 rfl rfl HO8.out HR8.out HB8.out HB8.out.size (by have := HLi.out; have := HSL.out; have := HL5.out; have := HL6.out; simp only [List.length_append]; omega) ?_; intro v9 w9 ho9 hb9 hg9 hat9; have HO9 := Aside0.mk ho9; have HB9 := Aside0.mk hb9; have hp9 := R_apart (flat_int _) HA8.out HP8.out hg9; have HR9 := Aside0.mk (Kd.R_reads' hp9).2.2; clear ho9 hb9 hg9 hat9 hp9)
          | ((with_reducible refine gate_builtin (b := .append) (xs := #[.tmp 74, .tmp 75]) rfl ?_); at_builtin; refine app (Kd.int .u8) (flat_int .u8) w.heap.size (w0 := w) (.tmp 74) (.tmp 75) 42 5 (.int .u8 0) 1 rfl rfl Try.underlying42 infoU8 rfl (by decide) (by decide) _ ((numB k ++ (rs.take i).flatMap refB ++ r.s) ++ numB x0 ++ numB y0) (numB z0) A7 (numB z0).length c7 rfl rfl HO9.out HR9.out HB9.out HB9.out.size (by have := HLi.out; have := HSL.out; have := HL5.out; have := HL6.out; have := HL7.out; simp only [List.length_append]; omega) ?_; intro v10 w10 ho10 hb10 hg10 hat10; have HO10 := Aside0.mk ho10; have HB10 := Aside0.mk hb10; clear ho10 hb10 hg10 hat10))
        go_roundg (k - (i + 1) + 1)
        case measure => have := HK.out; omega
        case rel => exact ⟨i + 1, by go_num, by omega, ⟨rfl⟩, HXT, ⟨by rw [HF.out, HRB.out]; have := HO10.out; simpa [List.append_assoc] using this⟩, HB10⟩
    · obtain rfl : i = k := by omega
      have h1 : decide ((i : Int) < (i : Int)) = false := by simp
      go_wp2
      go_ret2
      rw [List.take_of_length_le (by rw [HL.out]; exact Nat.le_refl _)] at HA HOr
      refine ⟨HBr.out, .inl ⟨HA.out, _, rfl, ?_⟩⟩
      unfold refsB
      rw [HL.out]
      simpa using HOr.out
end Go.Proofs.Ytkobolgbmfhpgaa.SgRp
namespace Go.Proofs.Ytkobolgbmfhpgaa.SgRt
open Go Go.RowKit Go.Proofs.YtkobolgbmfhpgaaW.PrintWords Go.Proofs.Ytkobolgbmfhpgaa.K Go.Proofs.Ytkobolgbmfhpgaa.OctS Go.Proofs.Ytkobolgbmfhpgaa.OctP Go.Proofs.Ytkobolgbmfhpgaa.Oct Go.Proofs.Ytkobolgbmfhpgaa.ReS Go.Proofs.Ytkobolgbmfhpgaa.ReR Go.Proofs.Ytkobolgbmfhpgaa.ReT Go.Proofs.Ytkobolgbmfhpgaa.ReN Go.Proofs.Ytkobolgbmfhpgaa.ReP Go.Proofs.Ytkobolgbmfhpgaa.Ap Go.Proofs.Ytkobolgbmfhpgaa.SgHk Go.Proofs.Ytkobolgbmfhpgaa.SgTr
set_option linter.unusedVariables false
set_option linter.unusedSimpArgs false
def ref0 : Ref := ⟨List.replicate 32 0, 0, 0, 0⟩
theorem ref0_ok : ref0.Ok := ⟨rfl, fun x hx => by rw [List.eq_of_mem_replicate hx]; decide, by decide, by decide, by decide⟩
theorem zero0 : ∀ W, (zeroValue 34).run Try.prog W = .ok (.agg ref0.cells.toArray) W := by
  intro W
  obtain ⟨i, h1, h2⟩ := Option.map_eq_some_iff.1 infoRefZ
  simp only [zeroValue, typeInfo, Sem.run_bind, h1, h2]
  simp [h1, h2]
  rfl
theorem built0 (W : World) : (Instr.build 34 #[]).run Try.prog W = .ok (.agg ref0.cells.toArray) W := run_build W _ _ _ (by kernel_rfl)
/-- The ref when j bytes of the sum have been laid. -/
def part (b : List Int) (pl j : Nat) : Ref := ⟨(b.drop pl).take j ++ List.replicate (32 - j) 0, 0, 0, 0⟩
theorem part_zero (b : List Int) (pl : Nat) : part b pl 0 = ref0 := by simp [part, ref0]
theorem part_succ {b : List Int} {pl j : Nat} (h : pl + 32 ≤ b.length) (hj : j < 32) : (part b pl j).cells.toArray.setIfInBounds j (.int .u8 (rd b ((pl + j : Nat) : Int))) = (part b pl (j + 1)).cells.toArray := by
  have h1 : ((b.drop pl).take j).length = j := by rw [List.length_take, List.length_drop]; omega
  have h2 : j < (b.drop pl).length := by rw [List.length_drop]; omega
  have h3 : rd b ((pl + j : Nat) : Int) = (b.drop pl)[j] := by
    show b.getD ((pl + j : Nat) : Int).toNat 0 = _
    rw [Int.toNat_natCast, List.getElem_drop, List.getD_eq_getElem?_getD, List.getElem?_eq_getElem (by omega)]
    rfl
  have h4 : ((b.drop pl).take j ++ List.replicate (32 - j) 0).set j (rd b ((pl + j : Nat) : Int)) = (b.drop pl).take (j + 1) ++ List.replicate (32 - (j + 1)) 0 := by
    rw [List.set_append_right _ _ (by omega), h1, Nat.sub_self, show 32 - j = (32 - (j + 1)) + 1 by omega, List.replicate_succ, List.set_cons_zero, h3, List.take_succ_eq_append_getElem h2, List.append_assoc]
    rfl
  rw [List.setIfInBounds_toArray]
  congr 1
  show (nums .u8 ((b.drop pl).take j ++ List.replicate (32 - j) 0) ++ _).set j _ = _
  rw [List.set_append_left _ _ (by simp [nums, h1]; omega)]
  show _ = nums .u8 ((b.drop pl).take (j + 1) ++ List.replicate (32 - (j + 1)) 0) ++ _
  rw [← h4]
  congr 1
  simp [nums, List.map_set]
theorem part_full {b : List Int} {pl : Nat} : part b pl 32 = ⟨(b.drop pl).take 32, 0, 0, 0⟩ := by simp [part]
def sN (b : List Int) (pl : Int) : Nat → Int × Int × Int
  | 0 => t1 b pl
  | 1 => t2 b pl
  | _ => t3 b pl
def sP (b : List Int) (pl : Int) : Nat → Int
  | 0 => pl + 32
  | 1 => (t1 b pl).2.1
  | 2 => (t2 b pl).2.1
  | _ => (t3 b pl).2.1
def sV (b : List Int) (pl : Int) (i : Nat) : Array Value := #[.int .i64 (if 0 < i then (t1 b pl).1 else 0), .int .i64 (if 1 < i then (t2 b pl).1 else 0), .int .i64 (if 2 < i then (t3 b pl).1 else 0)]
theorem sN_is {b : List Int} {pl : Int} {i : Nat} (h : i < 3) : takeNum b (sP b pl i) = sN b pl i := by
  match i, h with
  | 0, _ => rfl
  | 1, _ => rfl
  | 2, _ => rfl
theorem sP_succ {b : List Int} {pl : Int} {i : Nat} (h : i < 3) : sP b pl (i + 1) = (sN b pl i).2.1 := by
  match i, h with
  | 0, _ => rfl
  | 1, _ => rfl
  | 2, _ => rfl
theorem sV_set {b : List Int} {pl : Int} {i : Nat} (h : i < 3) : (sV b pl i).setIfInBounds i (.int .i64 (sN b pl i).1) = sV b pl (i + 1) := by
  match i, h with
  | 0, _ => rfl
  | 1, _ => rfl
  | 2, _ => rfl
theorem takeR_N {b : List Int} {pl : Int} (h : ¬ (b.length : Int) - pl < 32) {i : Nat} (hi : i < 3) (h0 : ∀ k, k < i → (sN b pl k).2.2 = 0) (h1 : (sN b pl i).2.2 ≠ 0) : takeR b pl = ((sN b pl i).2.2, default, 0) := by
  match i, hi with
  | 0, _ => exact takeR_1 h h1
  | 1, _ => exact takeR_2 h (h0 0 (by omega)) h1
  | 2, _ => exact takeR_3 h (h0 0 (by omega)) (h0 1 (by omega)) h1
theorem below_sets {w W : World} (h : Below w.heap.size w W) {b o : Nat} (hb : w.heap.size ≤ b) (vs : List Value) : Below w.heap.size w (W.setCells b o vs) := by
  obtain ⟨q1, q2, q3, q4⟩ := setCells_same b vs o W
  exact ⟨q1.trans h.os, q2.trans h.tape, q3.trans h.output, by rw [q4]; exact h.size, fun k hk => (setCells_far vs o k (by omega)).trans (h.block k hk)⟩
theorem results_ctt {P : Program} {fn : Func} {p q r : Tmp} {t : TypeId} (h : fn.results = #[.cell p t, .tmp q, .tmp r]) (tmps : Array Value) (w : World) (ad : Addr) (v : Value) (e : tmps.getD p undef = .pointer (some ad)) (hr : (loadVar t ad).run P w = .ok v w) :
    (results fn tmps).run P w = .ok (.tuple #[v, tmps.getD q undef, tmps.getD r undef]) w := by
  have e' : tmps[p]?.getD undef = .pointer (some ad) := by simpa using e
  simp [results, h, e', asAddr, hr]
theorem there_of {W : World} {g : Nat} {Z : Array Value} {t : TypeId} (h : W.heap[g]? = some (.cells Z t (0, 0))) {n : Nat} (hn : n = Z.size) : W.there g 0 n := fun j hj => by
  refine ⟨?_, frozen_of_row _ _ _ _ _ h⟩
  rw [cell_of_row _ _ _ _ _ _ h]
  simp; omega
theorem range_of {W : World} {g : Nat} {D : List Value} {t : TypeId} (h : W.heap[g]? = some (.cells D.toArray t (0, 0))) : Hd.RangeA W ⟨g, 0, none⟩ D := fun j v hj => by
  have := obj_cell h j (v := v) (by simpa using hj)
  by_cases hj0 : j = 0
  · subst hj0; simpa [Addr.add] using this
  · simpa [Addr.add, hj0] using this
theorem load_sets {W : World} {g : Nat} {Z : Array Value} {t : TypeId} (h : W.heap[g]? = some (.cells Z t (0, 0))) {D : List Value} (hz : D.length = Z.size) (hD : D.length = 35) : (loadVar 34 ⟨g, 0, none⟩).run Try.prog (W.setCells g 0 D) = .ok (.agg D.toArray) (W.setCells g 0 D) := by
  refine Hd.run_load_any _ ⟨g, 0, none⟩ 34 D _ (fun j v hj => ?_) Try.underlying34 rfl (by rw [hD]; kernel_rfl)
  have h1 := World.rangeAt_setCells_same W g 0 D (there_of h hz) j v hj
  rw [Nat.zero_add] at h1
  by_cases hj0 : j = 0
  · subst hj0; simpa [Addr.add] using h1
  · simpa [Addr.add, hj0] using h1
theorem part_cell {b : List Int} {pl j : Nat} (h : pl + 32 ≤ b.length) (hj : j < 32) : (part b pl j).cells.toArray[j]? = some (.int .u8 0) := by
  have h1 : ((b.drop pl).take j).length = j := by rw [List.length_take, List.length_drop]; omega
  rw [List.getElem?_toArray]
  show (nums .u8 ((b.drop pl).take j ++ List.replicate (32 - j) 0) ++ _)[j]? = _
  rw [List.getElem?_append_left (by simp [nums, h1]; omega)]
  simp only [nums, List.getElem?_map]
  rw [List.getElem?_append_right (by omega), h1, Nat.sub_self, List.getElem?_replicate]
  simp; omega
theorem cells0 {s : List Int} (h : s.length = 32) : (Ref.mk s 0 0 0).cells.toArray[32]? = some (.int .i64 0) ∧ (Ref.mk s 0 0 0).cells.toArray[33]? = some (.int .i64 0) ∧ (Ref.mk s 0 0 0).cells.toArray[34]? = some (.int .i64 0) := by
  obtain ⟨a0, a1, a2, a3, a4, a5, a6, a7, a8, a9, b0, b1, b2, b3, b4, b5, b6, b7, b8, b9, c0, c1, c2, c3, c4, c5, c6, c7, c8, c9, d0, d1, rfl⟩ := sum32 h
  exact ⟨rfl, rfl, rfl⟩
theorem sV_cell {b : List Int} {pl : Int} {i : Nat} (h : i < 3) : (sV b pl i)[i]? = some (.int .i64 0) := by
  match i, h with
  | 0, _ => rfl
  | 1, _ => rfl
  | 2, _ => rfl
set_option maxHeartbeats 8000000 in
set_option maxRecDepth 100000 in
theorem rtakeR_calls (A : Option Addr) (c : Nat) (b : List Int) (pl : Nat) (w : World) (hC : (Kd.int .u8).C w A b.length b) (hc : b.length ≤ c) (hb : Bytes b) (hm : b.length ≤ 140737488355328) (hp : pl ≤ b.length) :
    Calls Try.prog 45 #[.slice A b.length c, .int .i64 (pl : Int)] w fun e w' => Below w.heap.size w w' ∧ ∃ (x : Ref) (q : Int), x.cells.length = 35 ∧ e = .returned (.tuple #[.agg x.cells.toArray, .int .i64 q, .int .i64 (takeR b pl).1]) ∧ ((takeR b pl).1 = 0 → x = (takeR b pl).2.1 ∧ q = (takeR b pl).2.2) := by
  have HC := Aside0.mk hC
  have HZV := Aside0.mk zero0
  have HBU := Aside0.mk built0
  have HU := Aside0.mk Try.underlying34
  have HON := Aside0.mk (Ref.cells_one (r := ref0))
  have HL0 := Aside0.mk (Ref.cells_len ref0_ok)
  have HID : Aside0 ((Try.prog.info? 34).map (·.size) = some ref0.cells.length) := ⟨by rw [HL0.out]; kernel_rfl⟩
  have HID2 : Aside0 ((Try.prog.info? 34).map (·.size) = some ref0.cells.toArray.size) := ⟨by rw [List.size_toArray]; exact HID.out⟩
  clear hC
  obtain ⟨W1, hW1⟩ : ∃ W1, W1 = w.alloc (.cells ref0.cells.toArray 34) := ⟨_, rfl⟩
  obtain ⟨W2, hW2⟩ : ∃ W2, W2 = W1.alloc (.cells ref0.cells.toArray 34) := ⟨_, rfl⟩
  have hz1 : W1.heap.size = w.heap.size + 1 := by rw [hW1]; simp
  have HT1 := Aside0.mk (show W1.heap[w.heap.size]? = some (.cells ref0.cells.toArray 34 (0, 0)) by rw [hW1]; exact heap_alloc_new w _)
  have HT2 := Aside0.mk (show W2.heap[w.heap.size]? = some (.cells ref0.cells.toArray 34 (0, 0)) by rw [hW2]; exact (Below.heap_alloc W1 _ _ (by omega)).trans HT1.out)
  have HX2 := Aside0.mk (show W2.heap[w.heap.size + 1]? = some (.cells ref0.cells.toArray 34 (0, 0)) by rw [hW2, ← hz1]; exact heap_alloc_new W1 _)
  have HB2 := Aside0.mk (show Below w.heap.size w W2 by rw [hW2, hW1]; exact below_alloc (below_alloc (Below.refl _ _) _) _)
  have HW1 := Aside0.mk hW1
  have HW2 := Aside0.mk hW2
  have HZ1 := Aside0.mk hz1
  clear hW1 hW2
  by_cases hs : (b.length : Int) - pl < 32
  · have d1 : decide ((b.length : Int) - pl < 32) = true := decide_eq_true hs
    have hw1 : IntKind.i64.wrap ((b.length : Int) - (pl : Int)) = (b.length : Int) - (pl : Int) := IntWalk.i64_in _ (by omega)
    have HTS := Aside0.mk (takeR_s hs)
    have HRG2 := Aside0.mk (range_of HX2.out)
    have HTH := Aside0.mk (there_of HT2.out (n := ref0.cells.toArray.size) rfl)
    have HLD := Aside0.mk (load_sets HT2.out (D := ref0.cells) (by simp) HL0.out)
    go_enter Try.func45, Try.ntmps45
    go_wp2_with (first
      | ((with_reducible refine gate_ (.alloc 34) rfl ?_); refine Hd.step_run rfl (Hd.exec_alloc _ rfl _ (HZV.out _)) ?_; (try rw [show w.alloc (.cells (Value.agg ref0.cells.toArray).cells 34) = W1 from HW1.out.symm]))
      | ((with_reducible refine gate_ (.build 34 #[]) rfl ?_); refine Hd.step_run rfl (Hd.exec_build _ _ rfl (by simpa using HBU.out _)) ?_)
      | ((with_reducible refine gate_ (.store 34 (.tmp 7) (.tmp 14)) rfl ?_); refine Hd.wpList_store_new (W := W1) rfl _ _ _ rfl _ ref0.cells.toArray ref0.cells.toArray (by rw [HZ1.out]; rfl) rfl rfl HID2.out HON.out ?_; rw [HW2.out.symm])
      | ((with_reducible refine gate_ (.load 34 (.tmp 7)) rfl ?_); refine Hd.wpList_load_any rfl _ (.tmp 7) rfl _ rfl ref0.cells _ HRG2.out HU.out rfl HID.out ?_)
      | ((with_reducible refine gate_ (.store 34 (.tmp 4) (.tmp 20)) rfl ?_); refine wpList_store_mid rfl _ _ _ rfl w.heap.size 0 ref0.cells.toArray rfl rfl HTH.out HID2.out HON.out ?_))
    refine bodyPost_ret (results_ctt rfl _ _ ⟨w.heap.size, 0, none⟩ _ rfl HLD.out) rfl ⟨below_sets HB2.out (Nat.le_refl _) _, ref0, 0, HL0.out, ?_, fun h => ?_⟩
    · rw [HTS.out]; rfl
    · rw [HTS.out] at h; cases h
  · have d1 : decide ((b.length : Int) - pl < 32) = false := decide_eq_false hs
    have hw1 : IntKind.i64.wrap ((b.length : Int) - (pl : Int)) = (b.length : Int) - (pl : Int) := IntWalk.i64_in _ (by omega)
    go_enter Try.func45, Try.ntmps45
    go_wp2_with (first
      | ((with_reducible refine gate_ (.alloc 34) rfl ?_); refine Hd.step_run rfl (Hd.exec_alloc _ rfl _ (HZV.out _)) ?_; (try rw [show w.alloc (.cells (Value.agg ref0.cells.toArray).cells 34) = W1 from HW1.out.symm]))
      | ((with_reducible refine gate_ (.build 34 #[]) rfl ?_); refine Hd.step_run rfl (Hd.exec_build _ _ rfl (by simpa using HBU.out _)) ?_)
      | ((with_reducible refine gate_ (.store 34 (.tmp 7) (.tmp 14)) rfl ?_); refine Hd.wpList_store_new (W := W1) rfl _ _ _ rfl _ ref0.cells.toArray ref0.cells.toArray (by rw [HZ1.out]; rfl) rfl rfl HID2.out HON.out ?_; rw [HW2.out.symm]))
    go_loopg [8] 33 (fun gk v8 wr => ∃ j : Nat, v8 = .int .i64 j ∧ j ≤ 32 ∧ Aside0 (gk = 32 - j + 1) ∧ Aside0 (wr.heap[w.heap.size]? = some (.cells ref0.cells.toArray 34 (0, 0))) ∧ Aside0 (wr.heap[w.heap.size + 1]? = some (.cells (part b pl j).cells.toArray 34 (0, 0))) ∧ Aside0 (Below w.heap.size w wr) ∧ Aside0 (wr.heap.size = w.heap.size + 2))
    case atStart => exact ⟨0, rfl, by omega, ⟨rfl⟩, HT2, ⟨by rw [part_zero]; exact HX2.out⟩, HB2, ⟨by rw [HW2.out, World.size_alloc, HZ1.out]⟩⟩
    case round =>
      obtain ⟨j, rfl, hj, HG, HT, HX, HB, HZ⟩ := hrel
      by_cases hlt : j < 32
      · have e1 : decide ((j : Int) < 32) = true := by simp; omega
        obtain ⟨m, hm1⟩ : ∃ m, m = pl + j := ⟨_, rfl⟩
        have hwm : IntKind.i64.wrap ((pl : Int) + (j : Int)) = (m : Int) := by rw [IntWalk.i64_in _ (by omega)]; omega
        have hbig : m < b.length := by omega
        obtain ⟨ad, rfl, hcell⟩ := Kd.at_int (Kd.C_below HC.out HB.out) (m : Int) (by omega) (by omega)
        have hi1 : (0 : Int) ≤ (m : Int) := by omega
        have hi2 : (m : Int) < (b.length : Int) := by omega
        have hi3 : (0 : Int) ≤ (j : Int) := by omega
        have hi4 : (j : Int) < 32 := by omega
        have hf := obj_free HX.out j
        have hcc := obj_cell (v := .int .u8 0) HX.out j (part_cell (by omega) hlt)
        rw [Int.toNat_natCast] at hcell
        have HM1 := Aside0.mk hm1
        clear hbig hm1
        have HST := Aside0.mk (obj_set HX.out j (.int .u8 (rd b (m : Int))))
        rw [HM1.out, part_succ (by omega) hlt, ← HM1.out] at HST
        have hne : (w.heap.size : Nat) ≠ w.heap.size + 1 := by omega
        have HT3 := Aside0.mk ((Below.heap_setCell wr ⟨w.heap.size + 1, j, none⟩ (.int .u8 (rd b (m : Int))) w.heap.size hne).trans HT.out)
        have HB3 := Aside0.mk (HB.out.setCell (p := ⟨w.heap.size + 1, j, none⟩) (Nat.le_succ _) (.int .u8 (rd b (m : Int))))
        have HZ3 : Aside0 ((wr.setCell ⟨w.heap.size + 1, j, none⟩ (.int .u8 (rd b (m : Int)))).heap.size = w.heap.size + 2) := ⟨by simpa [World.setCell] using HZ.out⟩
        clear hne
        go_wp2
        go_roundg (32 - (j + 1) + 1)
        case measure => have := HG.out; omega
        case rel => exact ⟨j + 1, by go_num, by omega, ⟨rfl⟩, HT3, HST, HB3, HZ3⟩
      · obtain rfl : j = 32 := by omega
        have e1 : decide ((((32 : Nat) : Int)) < 32) = false := by decide
        rw [part_full] at HX
        have hw2 : IntKind.i64.wrap ((pl : Int) + 32) = ((pl + 32 : Nat) : Int) := by rw [IntWalk.i64_in _ (by omega)]; omega
        obtain ⟨p1, hp1⟩ : ∃ p, p = pl + 32 := ⟨_, rfl⟩
        rw [← hp1] at hw2
        have HP1 := Aside0.mk hp1
        clear hp1
        have hzz := HZ.out
        go_wp2_with fail
        obtain ⟨W4, hW4⟩ : ∃ W4, W4 = wr.alloc (.cells #[.int .i64 0, .int .i64 0, .int .i64 0] 79) := ⟨_, rfl⟩
        rw [← hW4]
        have HT4 := Aside0.mk (show W4.heap[w.heap.size]? = some (.cells ref0.cells.toArray 34 (0, 0)) by rw [hW4]; exact (Below.heap_alloc wr _ _ (by have := HZ.out; omega)).trans HT.out)
        have HX4 := Aside0.mk (show W4.heap[w.heap.size + 1]? = some (.cells (Ref.mk ((b.drop pl).take 32) 0 0 0).cells.toArray 34 (0, 0)) by rw [hW4]; exact (Below.heap_alloc wr _ _ (by have := HZ.out; omega)).trans HX.out)
        have HV4 := Aside0.mk (show W4.heap[w.heap.size + 2]? = some (.cells (sV b pl 0) 79 (0, 0)) by rw [hW4, ← HZ.out]; exact heap_alloc_new wr _)
        have HB4 := Aside0.mk (show Below w.heap.size w W4 by rw [hW4]; exact below_alloc HB.out _)
        have HZ4 := Aside0.mk (show W4.heap.size = w.heap.size + 3 by rw [hW4, World.size_alloc, HZ.out])
        clear hW4 hw2 hzz
        go_loopg [1, 10] 4 (fun gk v1 v10 wr => ∃ i q : Nat, v1 = .int .i64 q ∧ v10 = .int .i64 i ∧ i ≤ 3 ∧ q ≤ b.length ∧ Aside0 ((q : Int) = sP b pl i) ∧ Aside0 (gk = 3 - i + 1) ∧ Aside0 (∀ k, k < i → (sN b pl k).2.2 = 0) ∧ Aside0 (wr.heap[w.heap.size]? = some (.cells ref0.cells.toArray 34 (0, 0))) ∧ Aside0 (wr.heap[w.heap.size + 1]? = some (.cells (Ref.mk ((b.drop pl).take 32) 0 0 0).cells.toArray 34 (0, 0))) ∧ Aside0 (wr.heap[w.heap.size + 2]? = some (.cells (sV b pl i) 79 (0, 0))) ∧ Aside0 (Below w.heap.size w wr) ∧ Aside0 (w.heap.size + 3 ≤ wr.heap.size))
        case atStart => exact ⟨0, p1, rfl, rfl, by omega, by have := HP1.out; omega, ⟨by rw [HP1.out]; rfl⟩, ⟨rfl⟩, ⟨fun k hk => by omega⟩, HT4, HX4, HV4, HB4, ⟨by have := HZ4.out; omega⟩⟩
        case round =>
          obtain ⟨i, q, rfl, rfl, hi, hq, HQ, HG, H0, HT, HX, HV, HB, HZ⟩ := hrel
          by_cases hlt : i < 3
          · have e1 : decide ((i : Int) < 3) = true := by simp; omega
            have hN := sN_is (b := b) (pl := pl) hlt
            rw [← HQ.out] at hN
            have hSN := Aside0.mk hN
            clear hN
            by_cases hz : (sN b pl i).2.2 = 0
            · have e2 : ((sN b pl i).2.2 != 0) = false := by simp [hz]
              have hok := takeNum_ok b q hb (by rw [hSN.out]; exact hz)
              rw [hSN.out] at hok
              obtain ⟨q2, hq2⟩ := Int.eq_ofNat_of_zero_le (show 0 ≤ (sN b pl i).2.1 by omega)
              have hcv := obj_cell (v := .int .i64 0) HV.out i (sV_cell hlt)
              have hfv := obj_free HV.out i
              have hi3 : (0 : Int) ≤ (i : Int) := by omega
              have hi4 : (i : Int) < 3 := by omega
              have HCT := Aside0.mk (rtakeNum_calls A c b q wr (Kd.C_below HC.out HB.out) hc hb hm)
              rw [hSN.out, hq2] at HCT
              have hne1 : (w.heap.size : Nat) ≠ w.heap.size + 2 := by omega
              have hne2 : (w.heap.size + 1 : Nat) ≠ w.heap.size + 2 := by omega
              have HT5 := Aside0.mk ((Below.heap_setCell wr ⟨w.heap.size + 2, i, none⟩ (.int .i64 (sN b pl i).1) w.heap.size hne1).trans HT.out)
              have HX5 := Aside0.mk ((Below.heap_setCell wr ⟨w.heap.size + 2, i, none⟩ (.int .i64 (sN b pl i).1) (w.heap.size + 1) hne2).trans HX.out)
              have HV5 := Aside0.mk (obj_set HV.out i (.int .i64 (sN b pl i).1))
              rw [sV_set hlt] at HV5
              have HB5 := Aside0.mk (HB.out.setCell (p := ⟨w.heap.size + 2, i, none⟩) (by simp) (.int .i64 (sN b pl i).1))
              have HZ5 : Aside0 (w.heap.size + 3 ≤ (wr.setCell ⟨w.heap.size + 2, i, none⟩ (.int .i64 (sN b pl i).1)).heap.size) := ⟨by simpa [World.setCell] using HZ.out⟩
              have HQ2 : Aside0 ((q2 : Int) = sP b pl (i + 1)) := ⟨by rw [sP_succ hlt, hq2]⟩
              have HQL : Aside0 (q2 ≤ b.length) := ⟨by omega⟩
              have H1 : Aside0 (∀ k, k < i + 1 → (sN b pl k).2.2 = 0) := ⟨fun k hk => by
                by_cases e : k < i
                · exact H0.out k e
                · rw [show k = i by omega]; exact hz⟩
              clear hne1 hne2 hok hq2
              go_wp2_with (go_at_call 44; (with_reducible refine (HCT.out).mono ?_); rintro e w' ⟨rfl, rfl⟩)
              go_roundg (3 - (i + 1) + 1)
              case measure => have := HG.out; omega
              case rel => exact ⟨i + 1, q2, rfl, by go_num, by omega, HQL.out, HQ2, ⟨rfl⟩, H1, HT5, HX5, HV5, HB5, HZ5⟩
            · have e2 : ((sN b pl i).2.2 != 0) = true := by simpa using hz
              have hTR := takeR_N (by omega) hlt H0.out hz
              have HTR := Aside0.mk hTR
              have HTH := Aside0.mk (there_of HT.out (n := ref0.cells.toArray.size) rfl)
              have HLD := Aside0.mk (load_sets HT.out (D := ref0.cells) (by simp) HL0.out)
              have HBD := Aside0.mk (below_sets HB.out (b := w.heap.size) (o := 0) (Nat.le_refl _) ref0.cells)
              have HCT := Aside0.mk (rtakeNum_calls A c b q wr (Kd.C_below HC.out HB.out) hc hb hm)
              rw [hSN.out] at HCT
              clear hTR hz
              go_wp2_with (first
                | (go_at_call 44; (with_reducible refine (HCT.out).mono ?_); rintro e w' ⟨rfl, rfl⟩)
                | ((with_reducible refine gate_ (.build 34 #[]) rfl ?_); refine Hd.step_run rfl (Hd.exec_build _ _ rfl (by simpa using HBU.out _)) ?_)
                | ((with_reducible refine gate_ (.store 34 (.tmp 4) (.tmp 50)) rfl ?_); refine wpList_store_mid rfl _ _ _ rfl w.heap.size 0 ref0.cells.toArray rfl rfl HTH.out HID2.out HON.out ?_))
              refine bodyPost_ret (results_ctt rfl _ _ ⟨w.heap.size, 0, none⟩ _ rfl HLD.out) rfl ⟨HBD.out, ref0, 0, HL0.out, ?_, fun h => ?_⟩
              · rw [HTR.out]; rfl
              · rw [HTR.out] at h; exact absurd h (by simpa using e2)
          · obtain rfl : i = 3 := by omega
            have e1 : decide ((((3 : Nat) : Int)) < 3) = false := by decide
            have Z1 : (t1 b pl).2.2 = 0 := H0.out 0 (by omega)
            have Z2 : (t2 b pl).2.2 = 0 := H0.out 1 (by omega)
            have Z3 : (t3 b pl).2.2 = 0 := H0.out 2 (by omega)
            have hs32 : ((b.drop pl).take 32).length = 32 := by rw [List.length_take, List.length_drop]; omega
            have hrok : (refAt b pl).Ok := ⟨by show ((b.drop (pl : Int).toNat).take 32).length = 32; rw [Int.toNat_natCast]; exact hs32, fun x hx => wf_u8 ((hb.drop _).take _ x hx), takeNum_wf hb Z1, takeNum_wf hb Z2, takeNum_wf hb Z3⟩
            have hraw : refAt b pl = ⟨(b.drop pl).take 32, (t1 b pl).1, (t2 b pl).1, (t3 b pl).1⟩ := by unfold refAt; rw [Int.toNat_natCast]
            have hse := Ref.set3 hs32 (t1 b pl).1 (t2 b pl).1 (t3 b pl).1
            rw [← hraw] at hse
            have hD0 := Ref.cells_len hrok
            have HRG := Aside0.mk (rright_calls _ hrok)
            have hON := Ref.cells_one (r := refAt b pl)
            have hTO : okRef (refAt b pl) → takeR b pl = (0, refAt b pl, (t3 b pl).2.1) := takeR_o (by omega) Z1 Z2 Z3
            have hTA : ¬ okRef (refAt b pl) → takeR b pl = (2, default, 0) := takeR_a (by omega) Z1 Z2 Z3
            have hq3 : (q : Int) = (t3 b pl).2.1 := HQ.out
            have HTO := Aside0.mk hTO
            have HTA := Aside0.mk hTA
            have HQ3 := Aside0.mk hq3
            have v0 := obj_cell (v := .int .i64 (t1 b pl).1) HV.out 0 rfl
            have v1 := obj_cell (v := .int .i64 (t2 b pl).1) HV.out 1 rfl
            have v2 := obj_cell (v := .int .i64 (t3 b pl).1) HV.out 2 rfl
            clear hTO hTA hraw hq3 Z1 Z2 Z3
            obtain ⟨n1, hn1⟩ : ∃ n, n = (t1 b pl).1 := ⟨_, rfl⟩
            obtain ⟨n2, hn2⟩ : ∃ n, n = (t2 b pl).1 := ⟨_, rfl⟩
            obtain ⟨n3, hn3⟩ : ∃ n, n = (t3 b pl).1 := ⟨_, rfl⟩
            rw [← hn1, ← hn2, ← hn3] at hse
            rw [← hn1] at v0
            rw [← hn2] at v1
            rw [← hn3] at v2
            clear hn1 hn2 hn3
            generalize hr : refAt b pl = r at *
            have HR := Aside0.mk hr
            have HROK := Aside0.mk hrok
            obtain ⟨W5, hW5⟩ : ∃ W5, W5 = ((wr.setCell ⟨w.heap.size + 1, 32, none⟩ (.int .i64 n1)).setCell ⟨w.heap.size + 1, 33, none⟩ (.int .i64 n2)).setCell ⟨w.heap.size + 1, 34, none⟩ (.int .i64 n3) := ⟨_, rfl⟩
            have hD5 : W5.heap[w.heap.size + 1]? = some (.cells r.cells.toArray 34 (0, 0)) := by
              rw [hW5, ← hse]
              exact obj_set (obj_set (obj_set HX.out 32 _) 33 _) 34 _
            have hb5 : Below w.heap.size w W5 := by rw [hW5]; exact ((HB.out.setCell (Nat.le_succ _) _).setCell (Nat.le_succ _) _).setCell (Nat.le_succ _) _
            have hg5 : wr.grownBy W5 (some (w.heap.size + 1)) := by rw [hW5]; exact World.grownBy.trans (World.grownBy.trans (obj_grown _ _ _ _) (obj_grown _ _ _ _)) (obj_grown _ _ _ _)
            have hT5 := (hg5.block w.heap.size (by have := HZ.out; omega) (fun e => by injection e with e; omega)).trans HT.out
            have HRG5 := Aside0.mk (range_of hD5)
            have HB5 := Aside0.mk hb5
            have HT5 := Aside0.mk hT5
            have HDD5 := Aside0.mk hD5
            have HIDD : Aside0 ((Try.prog.info? 34).map (·.size) = some r.cells.length) := ⟨by rw [hD0]; kernel_rfl⟩
            have HID5 : Aside0 ((Try.prog.info? 34).map (·.size) = some r.cells.toArray.size) := ⟨by rw [List.size_toArray]; exact HIDD.out⟩
            have HON5 := Aside0.mk hON
            have HD0 := Aside0.mk hD0
            have c32 := obj_cell (v := .int .i64 0) HX.out 32 (cells0 hs32).1
            have c33 := obj_cell (v := .int .i64 0) HX.out 33 (cells0 hs32).2.1
            have c34 := obj_cell (v := .int .i64 0) HX.out 34 (cells0 hs32).2.2
            have f32 := obj_free HX.out 32
            have f33 := obj_free HX.out 33
            have f34 := obj_free HX.out 34
            have HW5 := Aside0.mk hW5
            clear hW5 hD5 hb5 hg5 hT5 hse hD0 hON hrok hr hs32
            generalize hdec : decide (okRef r) = dd at *
            have HDEC := Aside0.mk hdec
            clear hdec
            cases dd with
            | true =>
              have hor : okRef r := of_decide_eq_true HDEC.out
              have HTO2 := Aside0.mk (HTO.out hor)
              clear hor
              go_wp2_with (first
                | ((with_reducible refine gate_ (.load 34 (.tmp 7)) rfl ?_); (try rw [← HW5.out]); refine Hd.wpList_load_any rfl _ (.tmp 7) rfl _ rfl r.cells _ HRG5.out HU.out rfl HIDD.out ?_)
                | (go_at_call 39; (with_reducible refine (HRG.out _).mono ?_); rintro e w' ⟨rfl, hb6⟩; have HB6 := Aside0.mk (below_then HB5.out HB5.out.size hb6); have HRG6 := Aside0.mk (HRG5.out.below hb6); have HT6 := Aside0.mk ((hb6.block _ (Array.getElem?_eq_some_iff.1 HT5.out).1).trans HT5.out); have HTH := Aside0.mk (there_of HT6.out (n := r.cells.toArray.size) (by rw [List.size_toArray, List.size_toArray, HD0.out, HL0.out])); have HLD := Aside0.mk (load_sets HT6.out (D := r.cells) (by rw [List.size_toArray, HD0.out, HL0.out]) HD0.out); clear hb6)
                | ((with_reducible refine gate_ (.load 34 (.tmp 7)) rfl ?_); refine Hd.wpList_load_any rfl _ (.tmp 7) rfl _ rfl r.cells _ HRG6.out HU.out rfl HIDD.out ?_)
                | ((with_reducible refine gate_ (.store 34 (.tmp 4) (.tmp 69)) rfl ?_); refine wpList_store_mid rfl _ _ _ rfl w.heap.size 0 r.cells.toArray rfl rfl HTH.out HID5.out HON5.out ?_))
              refine bodyPost_ret (results_ctt rfl _ _ ⟨w.heap.size, 0, none⟩ _ rfl HLD.out) rfl ⟨below_sets HB6.out (Nat.le_refl _) _, r, q, HD0.out, ?_, fun h => ?_⟩
              · rw [HTO2.out]; rfl
              · rw [HTO2.out]; exact ⟨rfl, HQ3.out⟩
            | false =>
              have hor : ¬ okRef r := of_decide_eq_false HDEC.out
              have HTA2 := Aside0.mk (HTA.out hor)
              clear hor
              go_wp2_with (first
                | ((with_reducible refine gate_ (.load 34 (.tmp 7)) rfl ?_); (try rw [← HW5.out]); refine Hd.wpList_load_any rfl _ (.tmp 7) rfl _ rfl r.cells _ HRG5.out HU.out rfl HIDD.out ?_)
                | ((with_reducible refine gate_ (.build 34 #[]) rfl ?_); refine Hd.step_run rfl (Hd.exec_build _ _ rfl (by simpa using HBU.out _)) ?_)
                | (go_at_call 39; (with_reducible refine (HRG.out _).mono ?_); rintro e w' ⟨rfl, hb6⟩; have HB6 := Aside0.mk (below_then HB5.out HB5.out.size hb6); have HT6 := Aside0.mk ((hb6.block _ (Array.getElem?_eq_some_iff.1 HT5.out).1).trans HT5.out); have HTH := Aside0.mk (there_of HT6.out (n := ref0.cells.toArray.size) rfl); have HLD := Aside0.mk (load_sets HT6.out (D := ref0.cells) (by simp) HL0.out); clear hb6)
                | ((with_reducible refine gate_ (.store 34 (.tmp 4) (.tmp 68)) rfl ?_); refine wpList_store_mid rfl _ _ _ rfl w.heap.size 0 ref0.cells.toArray rfl rfl HTH.out HID2.out HON.out ?_))
              refine bodyPost_ret (results_ctt rfl _ _ ⟨w.heap.size, 0, none⟩ _ rfl HLD.out) rfl ⟨below_sets HB6.out (Nat.le_refl _) _, ref0, 0, HL0.out, ?_, fun h => ?_⟩
              · rw [HTA2.out]; rfl
              · rw [HTA2.out] at h; cases h
end Go.Proofs.Ytkobolgbmfhpgaa.SgRt
namespace Go.Proofs.Ytkobolgbmfhpgaa.SgRk
open Go Go.RowKit Go.Proofs.YtkobolgbmfhpgaaW.PrintWords Go.Proofs.Ytkobolgbmfhpgaa.K Go.Proofs.Ytkobolgbmfhpgaa.OctS Go.Proofs.Ytkobolgbmfhpgaa.OctP Go.Proofs.Ytkobolgbmfhpgaa.Oct Go.Proofs.Ytkobolgbmfhpgaa.ReS Go.Proofs.Ytkobolgbmfhpgaa.ReR Go.Proofs.Ytkobolgbmfhpgaa.ReT Go.Proofs.Ytkobolgbmfhpgaa.ReN Go.Proofs.Ytkobolgbmfhpgaa.ReP Go.Proofs.Ytkobolgbmfhpgaa.ReK Go.Proofs.Ytkobolgbmfhpgaa.Ap Go.Proofs.Ytkobolgbmfhpgaa.SgHk Go.Proofs.Ytkobolgbmfhpgaa.SgTr Go.Proofs.Ytkobolgbmfhpgaa.SgTa Go.Proofs.Ytkobolgbmfhpgaa.SgRt
set_option linter.unusedVariables false
set_option linter.unusedSimpArgs false
set_option maxHeartbeats 8000000 in
set_option maxRecDepth 100000 in
theorem rtake_calls (A : Option Addr) (c : Nat) (b : List Int) (w : World) (hC : (Kd.int .u8).C w A b.length b) (hc : b.length ≤ c) (hb : Bytes b) (hm : b.length ≤ 140737488355328) :
    Calls Try.prog 25 #[.slice A b.length c] w (Said w (takeF b).1 (takeF b).2) := by
  have HC := Aside0.mk hC
  have HU := Aside0.mk Try.underlying34
  have HZV := Aside0.mk zero0
  have HL0 := Aside0.mk (Ref.cells_len ref0_ok)
  have HCT := Aside0.mk (rtakeNum_calls A c b 0 w hC hc hb hm)
  clear hC
  by_cases hz : (takeNum b 0).2.2 = 0
  case neg =>
    have e2 : ((takeNum b 0).2.2 != 0) = true := by simpa using hz
    have e : takeF b = ((takeNum b 0).2.2, []) := by unfold takeF; rw [if_pos hz]
    rw [e]
    clear hz e
    go_enter Try.func25, Try.ntmps25
    go_wp2_with (go_at_call 44; (with_reducible refine (HCT.out).mono ?_); rintro e w' ⟨rfl, rfl⟩)
    go_ret2
    exact ⟨Below.refl _ _, _, rfl, Kd.R_nil _ _ _ _ _⟩
  have e2 : ((takeNum b 0).2.2 != 0) = false := by simp [hz]
  have hk := takeNum_ok b 0 hb hz
  obtain ⟨N, hN⟩ := Int.eq_ofNat_of_zero_le hk.1
  obtain ⟨p0, hp0⟩ := Int.eq_ofNat_of_zero_le (show 0 ≤ (takeNum b 0).2.1 by omega)
  have hpl : p0 ≤ b.length := by omega
  have Z := Aside0.mk hz
  have HN := Aside0.mk (And.intro hN hp0)
  rw [hN, hp0] at HCT
  clear hk hp0 hN hz
  by_cases h64 : 64 < N
  · have d1 : decide ((64 : Int) < (N : Int)) = true := by simp; omega
    have e : takeF b = (6, []) := by unfold takeF; rw [if_neg (by simp [Z.out]), if_pos (by rw [HN.out.1]; omega)]
    rw [e]
    clear e
    go_enter Try.func25, Try.ntmps25
    go_wp2_with (go_at_call 44; (with_reducible refine (HCT.out).mono ?_); rintro e w' ⟨rfl, rfl⟩)
    go_ret2
    exact ⟨Below.refl _ _, _, rfl, Kd.R_nil _ _ _ _ _⟩
  · have d1 : decide ((64 : Int) < (N : Int)) = false := by simp; omega
    have HE : Aside0 (takeF b = (if (takeRs b N p0 []).1 ≠ 0 then ((takeRs b N p0 []).1, []) else if (takeRs b N p0 []).2.2 < b.length then (4, []) else (0, (takeRs b N p0 []).2.1))) := ⟨by
      unfold takeF; rw [if_neg (by simp [Z.out]), if_neg (by rw [HN.out.1]; omega), HN.out.1, HN.out.2, Int.toNat_natCast]⟩
    have HN0 := Aside0.mk (Kd.R_made_nil dRef w 34)
    go_enter Try.func25, Try.ntmps25
    go_wp2_with (go_at_call 44; (with_reducible refine (HCT.out).mono ?_); rintro e w' ⟨rfl, rfl⟩)
    go_loopg [5, 7, 8] (N + 1) (fun gk v5 v7 v8 wr => ∃ (i q : Nat) (acc : List Ref), v5 = .int .i64 q ∧ v8 = .int .i64 i ∧ i ≤ N ∧ q ≤ b.length ∧ Aside0 (acc.length = i) ∧ Aside0 (gk = N - i + 1) ∧ Aside0 (takeRs b N p0 [] = takeRs b (N - i) q acc) ∧ Aside0 (Kd.R dRef 34 wr w.heap.size (fun _ => True) (v7) (acc)) ∧ Aside0 (Below w.heap.size w wr))
    case atStart => exact ⟨0, p0, [], rfl, rfl, Nat.zero_le _, hpl, ⟨rfl⟩, ⟨rfl⟩, ⟨rfl⟩, HN0, ⟨below_alloc (Below.refl _ _) _⟩⟩
    case round =>
      obtain ⟨i, q, acc, rfl, rfl, hi, hq, HAL, HG, HT, HO, HB⟩ := hrel
      by_cases hlt : i < N
      · have h1 : decide ((i : Int) < (N : Int)) = true := by simp; omega
        have hT : takeRs b (N - i) q acc = if (takeR b q).1 ≠ 0 then ((takeR b q).1, [], 0) else takeRs b (N - (i + 1)) (takeR b q).2.2 (acc ++ [(takeR b q).2.1]) := by
          rw [show N - i = (N - (i + 1)) + 1 by omega]; rfl
        have HTT := Aside0.mk hT
        have HCR := Aside0.mk (rtakeR_calls A c b q wr (Kd.C_below HC.out HB.out) hc hb hm hq)
        have HNX := Aside0.mk (@takeR_next b q hb)
        clear hT
        generalize ht : takeR b q = t at *
        obtain ⟨t1, r, p⟩ := t
        simp only at HTT HCR HNX
        have HTQ := Aside0.mk ht
        clear ht
        by_cases hz : t1 = 0
        · have e3 : (t1 != 0) = false := by simp [hz]
          obtain ⟨q2, hq2, hql, hpq, hrok, hro⟩ := HNX.out hz
          subst hq2
          rw [if_neg (by simpa using hz)] at HTT
          have HOK := Aside0.mk hrok
          have HCL := Aside0.mk (Ref.cells_len hrok)
          have HON := Aside0.mk (Ref.cells_one (r := r))
          have HIDD : Aside0 ((Try.prog.info? 34).map (·.size) = some r.cells.length) := ⟨by rw [HCL.out]; kernel_rfl⟩
          have HID5 : Aside0 ((Try.prog.info? 34).map (·.size) = some r.cells.toArray.size) := ⟨by rw [List.size_toArray]; exact HIDD.out⟩
          have HZC := Aside0.mk (show ref0.cells.toArray.size = r.cells.toArray.size by rw [List.size_toArray, List.size_toArray, HCL.out, HL0.out])
          clear hz hrok hro
          go_wp2_with fail
          refine HCR.out.mono ?_
          rintro e w1 ⟨hb1, x, q', hx, rfl, hxq⟩
          obtain ⟨rfl, rfl⟩ := hxq (by simpa using e3)
          have HB1 := Aside0.mk (below_then HB.out HB.out.size hb1)
          have HO1 := Aside0.mk (Kd.R_below HO.out hb1)
          obtain ⟨W2, hW2⟩ : ∃ W2, W2 = w1.alloc (.cells x.cells.toArray 34) := ⟨_, rfl⟩
          have HRG := Aside0.mk (range_of (show W2.heap[w1.heap.size]? = some (.cells x.cells.toArray 34 (0, 0)) by rw [hW2]; exact heap_alloc_new w1 _))
          have HB2 := Aside0.mk (show Below w.heap.size w W2 by rw [hW2]; exact below_alloc HB1.out _)
          have HO2 := Aside0.mk (show Kd.R dRef 34 W2 w.heap.size (fun _ => True) (u7) (acc) by rw [hW2]; exact Kd.R_alloc HO1.out _)
          have HW2 := Aside0.mk hW2
          clear hW2 hb1 hx hxq
          go_wp2_with (first
            | ((with_reducible refine gate_ (.alloc 34) rfl ?_); refine Hd.step_run rfl (Hd.exec_alloc _ rfl _ (HZV.out _)) ?_; refine Hd.wpList_store_new rfl _ _ _ rfl _ ref0.cells.toArray x.cells.toArray rfl rfl HZC.out HID5.out HON.out ?_; rw [← HW2.out])
            | ((with_reducible refine gate_ (.load 34 (.tmp 9)) rfl ?_); refine Hd.wpList_load_any rfl _ (.tmp 9) rfl _ rfl x.cells _ HRG.out HU.out rfl HIDD.out ?_)
            | ((with_reducible refine gate_ (.buildSlice 28 1 #[(0, .tmp 40)]) rfl ?_); refine Lit.wpList_lit1 rfl _ 34 (.tmp 40) rfl x.cells rfl Try.underlying28 infoRef3 HCL.out (by decide) (by decide) ?_)
            | ((with_reducible refine gate_builtin (b := .append) (xs := #[.tmp 39, .tmp 41]) rfl ?_); at_builtin; refine app1 dRef flat_ref w.heap.size (w0 := w) (.tmp 39) (.tmp 41) 28 34 _ 56 rfl rfl Try.underlying28 infoRef3 rfl (by decide) (by decide) _ acc x x.cells rfl rfl ?aP ?aO ?aB ?aS ?aL ?_; (case aP => first | exact rfl | exact ⟨trivial, rfl⟩ | exact ⟨HOK.out, rfl⟩); (case aO => exact HO2.out); (case aB => exact (by repeat (first | (with_reducible first | exact HB2.out | apply below_alloc | apply pw_below_drewN | apply below_drew1) | exact HB2.out))); (case aS => exact (below_size (by repeat (first | (with_reducible first | exact HB2.out | apply below_alloc | apply pw_below_drewN | apply below_drew1) | exact HB2.out)))); (case aL => exact (by have := HAL.out; omega)); intro v3 w3 ho3 hb3 hg3 hat3; have HO3 := Aside0.mk ho3; have HB3 := Aside0.mk hb3; clear ho3 hb3 hg3 hat3))
          go_roundg (N - (i + 1) + 1)
          case measure => have := HG.out; omega
          case rel => exact ⟨i + 1, q2, acc ++ [x], rfl, by go_num, by omega, hql, ⟨by rw [List.length_append, HAL.out]; rfl⟩, ⟨rfl⟩, ⟨HT.out.trans HTT.out⟩, HO3, HB3⟩
        · have e3 : (t1 != 0) = true := by simpa using hz
          have e : takeF b = (t1, []) := by rw [HE.out, HT.out, HTT.out, if_pos hz]; simp only; rw [if_pos hz]
          rw [e]
          clear hz e
          go_wp2_with fail
          refine HCR.out.mono ?_
          rintro e w1 ⟨hb1, x, q', hx, rfl, -⟩
          have HB1 := Aside0.mk (below_then HB.out HB.out.size hb1)
          have HON := Aside0.mk (Ref.cells_one (r := x))
          have HID5 : Aside0 ((Try.prog.info? 34).map (·.size) = some x.cells.toArray.size) := ⟨by rw [List.size_toArray, hx]; kernel_rfl⟩
          have HZC := Aside0.mk (show ref0.cells.toArray.size = x.cells.toArray.size by rw [List.size_toArray, List.size_toArray, hx, HL0.out])
          clear hb1 hx
          go_wp2_with ((with_reducible refine gate_ (.alloc 34) rfl ?_); refine Hd.step_run rfl (Hd.exec_alloc _ rfl _ (HZV.out _)) ?_; refine Hd.wpList_store_new rfl _ _ _ rfl _ ref0.cells.toArray x.cells.toArray rfl rfl HZC.out HID5.out HON.out ?_)
          go_ret2
          exact ⟨below_alloc HB1.out _, _, rfl, Kd.R_nil _ _ _ _ _⟩
      · obtain rfl : i = N := by omega
        have h1 : decide ((i : Int) < (i : Int)) = false := by simp
        have hT0 : takeRs b i p0 [] = (0, acc, (q : Int)) := by rw [HT.out, Nat.sub_self]; rfl
        by_cases hpl2 : q < b.length
        · have d2 : decide ((q : Int) < (b.length : Int)) = true := by simp; omega
          have e : takeF b = (4, []) := by rw [HE.out, hT0]; simp [hpl2]
          have E := Aside0.mk e
          clear e hT0
          go_wp2
          go_ret2
          rw [E.out]
          exact ⟨HB.out, _, rfl, Kd.R_nil _ _ _ _ _⟩
        · have d2 : decide ((q : Int) < (b.length : Int)) = false := by simp; omega
          have e : takeF b = (0, acc) := by rw [HE.out, hT0]; simp; omega
          have E := Aside0.mk e
          clear e hT0
          go_wp2
          go_ret2
          rw [E.out]
          exact ⟨HB.out, _, rfl, HO.out⟩
end Go.Proofs.Ytkobolgbmfhpgaa.SgRk
namespace Go.Proofs.Ytkobolgbmfhpgaa.SgTp
open Go Go.RowKit Go.Proofs.YtkobolgbmfhpgaaW.PrintWords Go.Proofs.Ytkobolgbmfhpgaa.K Go.Proofs.Ytkobolgbmfhpgaa.OctS Go.Proofs.Ytkobolgbmfhpgaa.OctP Go.Proofs.Ytkobolgbmfhpgaa.ReR Go.Proofs.Ytkobolgbmfhpgaa.ReP Go.Proofs.Ytkobolgbmfhpgaa.SgTr Go.Proofs.Ytkobolgbmfhpgaa.SgTa Go.Proofs.Ytkobolgbmfhpgaa.SgRt
set_option linter.unusedVariables false
set_option linter.unusedSimpArgs false
theorem takeNum_put {b u r : List Int} {n : Nat} {pl : Int} (hb : b = u ++ (numB n ++ r)) (hp : pl = u.length) (h : n ≤ 9007199254740991) : takeNum b pl = ((n : Int), ((u ++ numB n).length : Int), 0) := by
  rw [hb, hp, takeNum_numB u r n h, List.length_append]
  rfl
theorem takeR_put (u rest : List Int) (r : Ref) (h : r.Ok) (ho : okRef r) : takeR (u ++ (refB r ++ rest)) u.length = (0, r, ((u ++ refB r).length : Int)) := by
  have h32 := h.n
  have ho' := ho
  unfold okRef at ho'
  obtain ⟨l, hl⟩ := Int.eq_ofNat_of_zero_le (show 0 ≤ r.len by omega)
  obtain ⟨bn, hbn⟩ := Int.eq_ofNat_of_zero_le (show 0 ≤ r.bin by omega)
  obtain ⟨sl, hsl⟩ := Int.eq_ofNat_of_zero_le (show 0 ≤ r.slot by omega)
  have hB : refB r = r.s ++ (numB l ++ (numB bn ++ numB sl)) := by
    unfold refB
    rw [hl, hbn, hsl]
    simp
  generalize hbb : u ++ (refB r ++ rest) = b
  have e1 : b = (u ++ r.s) ++ (numB l ++ (numB bn ++ numB sl ++ rest)) := by rw [← hbb, hB]; simp only [List.append_assoc]
  have e2 : b = (u ++ r.s ++ numB l) ++ (numB bn ++ (numB sl ++ rest)) := by rw [e1]; simp only [List.append_assoc]
  have e3 : b = (u ++ r.s ++ numB l ++ numB bn) ++ (numB sl ++ rest) := by rw [e1]; simp only [List.append_assoc]
  have k1 : t1 b u.length = ((l : Int), ((u ++ r.s ++ numB l).length : Int), 0) := takeNum_put e1 (by rw [List.length_append, h32]; rfl) (by omega)
  have k2 : t2 b u.length = ((bn : Int), ((u ++ r.s ++ numB l ++ numB bn).length : Int), 0) := takeNum_put e2 (by rw [k1]) (by omega)
  have k3 : t3 b u.length = ((sl : Int), ((u ++ r.s ++ numB l ++ numB bn ++ numB sl).length : Int), 0) := takeNum_put e3 (by rw [k2]) (by omega)
  have hr : refAt b u.length = r := by
    unfold refAt
    rw [k1, k2, k3, Int.toNat_natCast]
    have : (b.drop u.length).take 32 = r.s := by rw [e1, List.append_assoc, List.drop_left, ← h32, List.take_left]
    rw [this]
    simp only [← hl, ← hbn, ← hsl]
  have hlen : ¬ (b.length : Int) - (u.length : Int) < 32 := by rw [e1]; simp only [List.length_append, h32]; omega
  rw [takeR_o hlen (by rw [k1]) (by rw [k2]) (by rw [k3]) (by rw [hr]; exact ho), hr, k3, hB]
  simp only [List.append_assoc]
theorem takeRs_put : ∀ (rs : List Ref) (u rest : List Int) (acc : List Ref), (∀ r ∈ rs, r.Ok) → AllOk rs → takeRs (u ++ (rs.flatMap refB ++ rest)) rs.length u.length acc = (0, acc ++ rs, ((u ++ rs.flatMap refB).length : Int))
  | [], u, rest, acc, _, _ => by simp [takeRs]
  | r :: rs, u, rest, acc, h, ho => by
    have h1 := takeR_put u (rs.flatMap refB ++ rest) r (h r List.mem_cons_self) (ho r List.mem_cons_self)
    have e : u ++ ((r :: rs).flatMap refB ++ rest) = u ++ (refB r ++ (rs.flatMap refB ++ rest)) := by simp
    rw [e]
    show (if (takeR (u ++ (refB r ++ (rs.flatMap refB ++ rest))) u.length).1 ≠ 0 then _ else _) = _
    rw [h1, if_neg (by simp)]
    have h2 := takeRs_put rs (u ++ refB r) rest (acc ++ [r]) (fun x hx => h x (List.mem_cons_of_mem _ hx)) (fun x hx => ho x (List.mem_cons_of_mem _ hx))
    rw [List.append_assoc] at h2
    simp only
    rw [h2]
    simp
theorem takeF_put (rs : List Ref) (h : ∀ r ∈ rs, r.Ok) (ho : AllOk rs) (hl : rs.length ≤ 64) : takeF (refsB rs) = (0, rs) := by
  have e : refsB rs = [] ++ (numB rs.length ++ rs.flatMap refB) := by simp [refsB]
  have e' : refsB rs = numB rs.length ++ (rs.flatMap refB ++ []) := by simp [refsB]
  have h0 : takeNum (refsB rs) 0 = ((rs.length : Int), ((numB rs.length).length : Int), 0) := by
    have := takeNum_put e (pl := 0) rfl (by omega)
    simpa using this
  have h1 : takeRs (refsB rs) rs.length ((numB rs.length).length : Int) [] = (0, rs, ((refsB rs).length : Int)) := by
    have := takeRs_put rs (numB rs.length) [] [] h ho
    rw [← e'] at this
    rw [this, e']
    simp
  unfold takeF
  rw [h0]
  simp only [Int.toNat_natCast]
  rw [h1, if_neg (by simp), if_neg (by omega), if_neg (by simp), if_neg (by simp)]
theorem takeNum_back_at {b : List Int} (hb : Bytes b) (pl : Nat) (h : (takeNum b pl).2.2 = 0) : ∃ m : Nat, (takeNum b pl).1 = (m : Int) ∧ (takeNum b pl).2.1 = ((pl + (numB m).length : Nat) : Int) ∧ b.drop pl = numB m ++ b.drop (pl + (numB m).length) := by
  have hok := takeNum_ok b pl hb h
  have e : takeNum b pl = tk pl 0 0 (b.drop pl) := by
    unfold takeNum
    rw [if_neg (by omega), Int.toNat_natCast]
  rw [e] at h hok ⊢
  obtain ⟨m, r, e1, e2, e3, _⟩ := tk_back pl _ 0 0 (hb.drop pl) (by omega) h
  refine ⟨m, by rw [e1]; simp, by rw [e3]; simp, ?_⟩
  rw [← List.drop_drop, e2, List.drop_left]
theorem takeR_back {b : List Int} (hb : Bytes b) (pl : Nat) (h : (takeR b pl).1 = 0) : ∃ q : Nat, (takeR b pl).2.2 = q ∧ b.drop pl = refB (takeR b pl).2.1 ++ b.drop q := by
  by_cases h0 : (b.length : Int) - pl < 32
  · rw [takeR_s h0] at h; cases h
  by_cases h1 : (t1 b pl).2.2 = 0
  case neg => rw [takeR_1 h0 h1] at h; exact absurd h h1
  by_cases h2 : (t2 b pl).2.2 = 0
  case neg => rw [takeR_2 h0 h1 h2] at h; exact absurd h h2
  by_cases h3 : (t3 b pl).2.2 = 0
  case neg => rw [takeR_3 h0 h1 h2 h3] at h; exact absurd h h3
  by_cases ho : okRef (refAt b pl)
  case neg => rw [takeR_a h0 h1 h2 h3 ho] at h; cases h
  rw [takeR_o h0 h1 h2 h3 ho]
  obtain ⟨l, a1, a2, a3⟩ := takeNum_back_at hb (pl + 32) h1
  obtain ⟨m, b1, b2, b3⟩ := takeNum_back_at hb (pl + 32 + (numB l).length) (by have : (takeNum b ((pl + 32 + (numB l).length : Nat) : Int)).2.2 = 0 := by rw [← a2]; exact h2
                                                                               exact this)
  have e2 : t2 b pl = takeNum b ((pl + 32 + (numB l).length : Nat) : Int) := by rw [← a2]; rfl
  rw [← e2] at b1 b2
  obtain ⟨n, c1, c2, c3⟩ := takeNum_back_at hb (pl + 32 + (numB l).length + (numB m).length) (by rw [← b2]; exact h3)
  have e3 : t3 b pl = takeNum b ((pl + 32 + (numB l).length + (numB m).length : Nat) : Int) := by rw [← b2]; rfl
  rw [← e3] at c1 c2
  refine ⟨_, c2, ?_⟩
  have hs : b.drop pl = (b.drop pl).take 32 ++ b.drop (pl + 32) := by rw [← List.drop_drop]; exact (List.take_append_drop 32 _).symm
  have hr : refAt b pl = ⟨(b.drop pl).take 32, l, m, n⟩ := by
    unfold refAt
    rw [show (t1 b pl).1 = (l : Int) from a1, b1, c1, Int.toNat_natCast]
  have e : refB ⟨(b.drop pl).take 32, (l : Int), (m : Int), (n : Int)⟩ = (b.drop pl).take 32 ++ (numB l ++ (numB m ++ numB n)) := by unfold refB; simp
  rw [hr, e]
  exact hs.trans (by rw [a3, b3, c3]; simp only [List.append_assoc])
theorem takeRs_back {b : List Int} (hb : Bytes b) : ∀ (n pl : Nat) (acc : List Ref), (takeRs b n pl acc).1 = 0 → pl ≤ b.length →
    ∃ (rs : List Ref) (q : Nat), takeRs b n pl acc = (0, acc ++ rs, (q : Int)) ∧ rs.length = n ∧ AllOk rs ∧ (∀ r ∈ rs, r.Ok) ∧ b.drop pl = rs.flatMap refB ++ b.drop q ∧ q ≤ b.length
  | 0, pl, acc, h, hp => ⟨[], pl, by simp [takeRs], rfl, (fun r hr => by cases hr), (fun r hr => by cases hr), by simp, hp⟩
  | n + 1, pl, acc, h, hp => by
    have e : takeRs b (n + 1) pl acc = if (takeR b pl).1 ≠ 0 then ((takeR b pl).1, [], 0) else takeRs b n (takeR b pl).2.2 (acc ++ [(takeR b pl).2.1]) := rfl
    rw [e] at h ⊢
    by_cases hz : (takeR b pl).1 = 0
    case neg => rw [if_pos hz] at h; exact absurd h hz
    rw [if_neg (by simpa using hz)] at h ⊢
    obtain ⟨q, hq, hql, hpq, hrok, hro⟩ := takeR_next hb hz
    obtain ⟨q', hq', hd⟩ := takeR_back hb pl hz
    rw [hq] at hq'
    obtain rfl : q = q' := by omega
    rw [hq] at h ⊢
    obtain ⟨rs, q2, k1, k2, k3, k4, k5, k6⟩ := takeRs_back hb n q _ h hql
    refine ⟨(takeR b pl).2.1 :: rs, q2, by rw [k1]; simp, by simp [k2], fun r hr => ?_, fun r hr => ?_, by rw [hd, k5]; simp, k6⟩
    · rcases List.mem_cons.1 hr with rfl | hr
      · exact hro
      · exact k3 r hr
    · rcases List.mem_cons.1 hr with rfl | hr
      · exact hrok
      · exact k4 r hr
theorem takeF_back {b : List Int} (hb : Bytes b) (h : (takeF b).1 = 0) : AllOk (takeF b).2 ∧ (takeF b).2.length ≤ 64 ∧ (∀ r ∈ (takeF b).2, r.Ok) ∧ refsB (takeF b).2 = b := by
  have key : ∀ r : Int × List Ref, takeF b = r → r.1 = 0 → AllOk r.2 ∧ r.2.length ≤ 64 ∧ (∀ x ∈ r.2, x.Ok) ∧ refsB r.2 = b := by
    intro r hr h0
    unfold takeF at hr
    by_cases z0 : (takeNum b 0).2.2 = 0
    case neg => rw [if_pos z0] at hr; subst hr; exact absurd h0 z0
    rw [if_neg (by simpa using z0)] at hr
    have hk := takeNum_ok b 0 hb z0
    obtain ⟨m, a1, a2, a3⟩ := takeNum_back_at hb 0 z0
    have a1' : (takeNum b 0).1 = (m : Int) := a1
    have a2' : (takeNum b 0).2.1 = ((numB m).length : Int) := by have := a2; simpa using this
    by_cases z1 : 64 < (takeNum b 0).1
    · rw [if_pos z1] at hr; subst hr; cases h0
    rw [if_neg z1, a1', a2', Int.toNat_natCast] at hr
    by_cases z2 : (takeRs b m ((numB m).length : Int) []).1 = 0
    case neg => rw [if_pos z2] at hr; subst hr; exact absurd h0 z2
    rw [if_neg (by simpa using z2)] at hr
    obtain ⟨rs, q, k1, k2, k3, k4, k5, k6⟩ := takeRs_back hb m (numB m).length [] z2 (by omega)
    rw [k1] at hr
    simp only [List.nil_append] at hr
    by_cases z3 : (q : Int) < b.length
    · rw [if_pos z3] at hr; subst hr; cases h0
    rw [if_neg z3] at hr
    subst hr
    refine ⟨k3, by simp only; omega, k4, ?_⟩
    have hq : b.drop q = [] := List.drop_eq_nil_of_le (by omega)
    rw [hq, List.append_nil] at k5
    show refsB rs = b
    unfold refsB
    rw [k2, ← k5]
    have a3' : b = numB m ++ b.drop (numB m).length := by simpa using a3
    simpa using a3'.symm
  exact key _ rfl h
end Go.Proofs.Ytkobolgbmfhpgaa.SgTp
