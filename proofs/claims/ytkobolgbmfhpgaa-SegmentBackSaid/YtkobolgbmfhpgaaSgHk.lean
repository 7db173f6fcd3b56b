/- The hooks of some refs: segment.Hooks; condition: the refs read as refs. -/
import Derived.Test.YtkobolgbmfhpgaaSgS
namespace Go.Proofs.Ytkobolgbmfhpgaa.SgHk
open Go Go.RowKit Go.Proofs.YtkobolgbmfhpgaaW.PrintWords Go.Proofs.Ytkobolgbmfhpgaa.K Go.Proofs.Ytkobolgbmfhpgaa.OctS Go.Proofs.Ytkobolgbmfhpgaa.OctP Go.Proofs.Ytkobolgbmfhpgaa.Oct Go.Proofs.Ytkobolgbmfhpgaa.ReR Go.Proofs.Ytkobolgbmfhpgaa.ReT Go.Proofs.Ytkobolgbmfhpgaa.ReK Go.Proofs.Ytkobolgbmfhpgaa.SgD Go.Proofs.Ytkobolgbmfhpgaa.SgM Go.Proofs.Ytkobolgbmfhpgaa.SgH Go.Proofs.Ytkobolgbmfhpgaa.SgE Go.Proofs.Ytkobolgbmfhpgaa.SgLv Go.Proofs.Ytkobolgbmfhpgaa.SgS
set_option linter.unusedVariables false
set_option linter.unusedSimpArgs false
/-- A goal at which the walk stops. -/
structure Hold (p : Prop) : Prop where
  out : p
def hookStep (rate : Int) (out : List Sm) (r : Ref) : List Sm := if out.length < 16 ∧ hookF r.s rate = true ∧ r.s ∉ out then out ++ [r.s] else out
def hooksF (rate : Int) (rs : List Ref) : List Sm := rs.foldl (hookStep rate) []
theorem hooks_snoc (rate : Int) (rs : List Ref) (i : Nat) (h : i < rs.length) : hooksF rate (rs.take (i + 1)) = hookStep rate (hooksF rate (rs.take i)) (rs.getD i default) := by
  unfold hooksF
  rw [List.take_add_one, List.foldl_append]
  simp [h]
theorem ok_sum {r : Ref} (h : r.Ok) : OkSum r.s := ⟨h.n, h.wf⟩
theorem bytes_wf {l : List Int} (h : ∀ x ∈ l, (Lit.int .u8 x).wf = true) : Bytes l := fun c hc => by
  have hb := h c hc
  simp only [Lit.wf, IntKind.min, IntKind.max, IntKind.signed, IntKind.bits, Bool.and_eq_true, decide_eq_true_eq] at hb
  simp at hb
  omega
theorem hooks_ok (rate : Int) : ∀ (rs : List Ref) (out : List Sm), (∀ r ∈ rs, r.Ok) → (∀ s ∈ out, OkSum s) → ∀ s ∈ rs.foldl (hookStep rate) out, OkSum s
  | [], out, _, ho => ho
  | r :: rs, out, h, ho => by
    rw [List.foldl_cons]
    refine hooks_ok rate rs _ (fun r hr => h r (by simp [hr])) ?_
    unfold hookStep
    split
    · intro s hs
      rcases List.mem_append.1 hs with hs | hs
      · exact ho s hs
      · simp at hs; subst hs; exact ok_sum (h r (by simp))
    · exact ho
theorem range_sum {W : World} {b : Nat} {r : Ref} (h : r.Ok) (hb : W.heap[b]? = some (.cells r.cells.toArray 34 (0, 0))) : Hd.RangeA W ⟨b, 0, none⟩ (nums .u8 r.s) := fun q v hv => by
  rw [addr0]
  refine obj_cell hb q ?_
  rw [List.getElem?_toArray]
  unfold Ref.cells
  rw [List.getElem?_append_left (List.getElem?_eq_some_iff.1 hv).1]
  exact hv
set_option maxHeartbeats 4000000 in
set_option maxRecDepth 100000 in
theorem hooks_calls (A : Option Addr) (k c : Nat) (rs : List Ref) (rate : Int) (w : World) (h : RefsC w A k rs) : Calls Try.prog 13 #[.slice A k c, .int .i64 rate] w fun e w' =>
    ∃ v, e = .returned v ∧ Kd.R dSum 31 w' w.heap.size (fun _ => True) (v) (hooksF rate rs) ∧ Below w.heap.size w w' := by
  have H := Aside0.mk h
  have hl : rs.length = k := h.len
  have hkm : k ≤ 9223372036854775807 := by have := h.lim; simp only [maxLen] at this; omega
  have HU := Aside0.mk Try.underlying34
  have HUS := Aside0.mk Try.underlying31
  obtain ⟨Z, hz, hzv⟩ := zeroRef
  have HZ := Aside0.mk hz
  have HZV := Aside0.mk hzv
  clear h hz hzv
  have HN0 := Aside0.mk (Kd.R_nil dSum 31 w w.heap.size (fun _ => True))
  go_enter Try.func13, Try.ntmps13
  go_wp2
  go_loopg [5, 10] (k + 1) (fun gk v5 v10 wr => ∃ i : Nat, v10 = .int .i64 i ∧ i ≤ k ∧ Aside0 (gk = k - i + 1) ∧ Aside0 (Kd.R dSum 31 wr w.heap.size (fun _ => True) (v5) (hooksF rate (rs.take i))) ∧ Aside0 (Below w.heap.size w wr))
  case atStart => exact ⟨0, rfl, Nat.zero_le _, ⟨rfl⟩, ⟨by rw [List.take_zero]; exact HN0.out⟩, ⟨Below.refl _ _⟩⟩
  case round =>
    obtain ⟨i, rfl, hi, HK, HOr, HBr⟩ := hrel
    obtain ⟨wo, rfl⟩ : ∃ X : World, X = wr := ⟨_, rfl⟩
    obtain ⟨Ao, co, rfl, hco, hro⟩ := Kd.R_reads HOr.out
    by_cases hlt : i < k
    · have h1 : decide ((i : Int) < (k : Int)) = true := by simp; omega
      obtain ⟨ad, hA⟩ := H.out.is (by omega)
      subst hA
      have hp1 : (0 : Int) ≤ (i : Int) := by omega
      have hp2 : (i : Int) < (k : Int) := by omega
      have hok := H.out.ok i hlt
      have hRA := (H.out.below HBr.out).cells ad rfl i hlt
      have HF := Aside0.mk (hooks_snoc rate rs i (by omega))
      have hsm := hooks_ok rate (rs.take i) [] (fun r hr => H.out.each r (List.mem_of_mem_take hr)) (fun s hs => by cases hs)
      generalize rs.getD i default = r at *
      change ∀ s ∈ hooksF rate (rs.take i), OkSum s at hsm
      generalize hooksF rate (rs.take i) = out at *
      have HI := Aside0.mk (infoRef _ hok)
      have HRA := Aside0.mk hRA
      have HOK := Aside0.mk hok
      have HI2 : Aside0 ((Try.prog.info? 34).map (·.size) = some r.cells.toArray.size) := ⟨by rw [List.size_toArray]; exact HI.out⟩
      have HZC := Aside0.mk (show Z.size = r.cells.toArray.size from HZ.out.trans (by rw [List.size_toArray, Ref.cells_len hok]))
      have HON := Aside0.mk (Ref.cells_one (r := r))
      have HB1 := Aside0.mk (below_alloc HBr.out (.cells r.cells.toArray 34))
      have HO1 := Aside0.mk (Kd.R_alloc HOr.out (.cells r.cells.toArray 34))
      have HG1 := Aside0.mk (heap_alloc_new wo (.cells r.cells.toArray 34))
      have HIS := Aside0.mk (infoSmS r.s (ok_sum hok))
      have HC1 := Aside0.mk (Kd.C_below hro (below_alloc (Below.refl wo.heap.size wo) (.cells r.cells.toArray 34)))
      clear hok hRA hro
      have HR1 := Aside0.mk (range_sum HOK.out HG1.out)
      have HRB := Aside0.mk (fun W (hW : Below (wo.heap.size + 1) (wo.alloc (.cells r.cells.toArray 34)) W) => range_sum HOK.out ((hW.block wo.heap.size (by omega)).trans HG1.out))
      generalize hC : r.cells = C at HI HRA HI2 HZC HON HB1 HO1 HG1 HC1 HRB HR1
      have HCE := Aside0.mk hC
      clear hC
      have hwz : (wo.alloc (.cells C.toArray 34)).heap.size = wo.heap.size + 1 := by simp
      generalize hwa : wo.alloc (.cells C.toArray 34) = wa at *
      have HWA := Aside0.mk hwa
      clear hwa
      by_cases h16 : out.length < 16
      · have g1 : decide ((out.length : Int) < 16) = true := by simp; omega
        go_wp2_with (first
          | ((with_reducible refine gate_ (.load 34 (.tmp 12)) rfl ?_); refine Hd.wpList_load_any rfl _ (.tmp 12) rfl _ rfl C _ HRA.out HU.out rfl HI.out ?_)
          | ((with_reducible refine gate_ (.alloc 34) rfl ?_); refine Hd.step_run rfl (Hd.exec_alloc _ rfl _ (HZV.out _)) ?_; refine Hd.wpList_store_new rfl _ _ _ rfl _ Z C.toArray rfl rfl HZC.out HI2.out HON.out ?_; rw [HWA.out]; refine Hold.out ?_))
        rename_i K0 h0
        refine ⟨?_⟩
        refine wpList_nil ?_
        refine h0 _ _ ?_
        clear h0 K0
        (try simp only [Act.put, List.setIfInBounds_toArray, List.set_cons_zero, List.set_cons_succ])
        refine wp_seq_k (fun K2 h2 => ?_)
        refine wp_region_lit ?_
        iterate 5 (refine wpList_step (fun K hK => ?_); go_simp; refine hK _ _ ?_; clear hK K)
        (refine wpList_step (fun K hK => ?_); refine Hd.load_wanted_any (by rfl) _ (.tmp 18) rfl _ rfl (nums .u8 r.s) _ HR1.out HUS.out rfl HIS.out ?_; refine hK _ _ ?_; clear hK K; (try simp only [Act.put, List.setIfInBounds_toArray, List.set_cons_zero, List.set_cons_succ]))
        iterate 1 (refine wpList_step (fun K hK => ?_); go_simp; refine hK _ _ ?_; clear hK K)
        (refine wpList_step (fun K hK => ?_); go_simp)
        refine (hook_calls r.s rate _ HOK.out.n (bytes_wf HOK.out.wf)).mono ?_
        rintro e W2 ⟨rfl, hb2⟩
        refine hK _ _ ?_
        clear hK K
        (try simp only [Act.put, List.setIfInBounds_toArray, List.set_cons_zero, List.set_cons_succ])
        have HB2 := Aside0.mk (below_then HB1.out HB1.out.size hb2)
        have HO2 := Aside0.mk (Kd.R_below HO1.out hb2)
        cases hhk : hookF r.s rate with
        | false =>
          have HF2 := Aside0.mk (show hooksF rate (rs.take (i + 1)) = out by rw [HF.out]; unfold hookStep; rw [if_neg (fun h => by rw [hhk] at h; exact absurd h.2.1 (by decide))])
          clear hhk
          iterate 8 (refine wpList_step (fun K hK => ?_); go_simp; refine hK _ _ ?_; clear hK K)
          refine wpList_nil ?_
          refine h2 _ _ ?_
          clear h2 K2
          (try simp only [Act.put, List.setIfInBounds_toArray, List.set_cons_zero, List.set_cons_succ])
          go_wp2
          go_roundg (k - (i + 1) + 1)
          case measure => have := HK.out; omega
          case rel => exact ⟨i + 1, by go_num, by omega, ⟨rfl⟩, ⟨by rw [HF2.out]; exact HO2.out⟩, HB2⟩
        | true =>
          have HR2 := Aside0.mk (HRB.out W2 (by rw [← hwz]; exact hb2))
          have HCC := Aside0.mk (containsS_calls Ao out.length co out r.s W2 (Kd.C_below HC1.out hb2) (ok_sum HOK.out))
          iterate 4 (refine wpList_step (fun K hK => ?_); go_simp; refine hK _ _ ?_; clear hK K)
          (refine wpList_step (fun K hK => ?_); refine Hd.load_wanted_any (by rfl) _ (.tmp 25) rfl _ rfl (nums .u8 r.s) _ HR2.out HUS.out rfl HIS.out ?_; refine hK _ _ ?_; clear hK K; (try simp only [Act.put, List.setIfInBounds_toArray, List.set_cons_zero, List.set_cons_succ]))
          (refine wpList_step (fun K hK => ?_); go_simp)
          refine HCC.out.mono ?_
          rintro e W3 ⟨rfl, hb3⟩
          refine hK _ _ ?_
          clear hK K
          (try simp only [Act.put, List.setIfInBounds_toArray, List.set_cons_zero, List.set_cons_succ])
          have HB3 := Aside0.mk (below_then HB2.out HB2.out.size hb3)
          have HO3 := Aside0.mk (Kd.R_below HO2.out hb3)
          have HB23 := Aside0.mk (below_then hb2 hb2.size hb3)
          by_cases hin : r.s ∈ out
          · have HF2 := Aside0.mk (show hooksF rate (rs.take (i + 1)) = out by rw [HF.out]; unfold hookStep; rw [if_neg (fun h => absurd hin h.2.2)])
            rw [show decide (r.s ∈ out) = true from decide_eq_true hin]
            clear hhk hin
            iterate 2 (refine wpList_step (fun K hK => ?_); go_simp; refine hK _ _ ?_; clear hK K)
            refine wpList_nil ?_
            refine h2 _ _ ?_
            clear h2 K2
            (try simp only [Act.put, List.setIfInBounds_toArray, List.set_cons_zero, List.set_cons_succ])
            go_wp2
            go_roundg (k - (i + 1) + 1)
            case measure => have := HK.out; omega
            case rel => exact ⟨i + 1, by go_num, by omega, ⟨rfl⟩, ⟨by rw [HF2.out]; exact HO3.out⟩, HB3⟩
          · have HF2 := Aside0.mk (show hooksF rate (rs.take (i + 1)) = out ++ [r.s] by rw [HF.out]; unfold hookStep; rw [if_pos ⟨h16, hhk, hin⟩])
            rw [show decide (r.s ∈ out) = false from decide_eq_false hin]
            have HR3 := Aside0.mk (HRB.out W3 (by rw [← hwz]; exact HB23.out))
            have HSL := Aside0.mk (show (nums .u8 r.s).length = 32 by simp [nums, HOK.out.n])
            have HOK := Aside0.mk (ok_sum HOK.out)
            clear hhk hin
            iterate 2 (refine wpList_step (fun K hK => ?_); go_simp; refine hK _ _ ?_; clear hK K)
            refine wpList_nil ?_
            refine h2 _ _ ?_
            clear h2 K2
            (try simp only [Act.put, List.setIfInBounds_toArray, List.set_cons_zero, List.set_cons_succ])
            go_wp2_with (first
              | ((with_reducible refine gate_ (.load 31 (.tmp 31)) rfl ?_); refine Hd.wpList_load_any rfl _ (.tmp 31) rfl _ rfl (nums .u8 r.s) _ HR3.out HUS.out rfl HIS.out ?_)
              | ((with_reducible refine gate_ (.buildSlice 29 1 #[(0, .tmp 32)]) rfl ?_); refine Lit.wpList_lit1 rfl _ 31 (.tmp 32) rfl (nums .u8 r.s) rfl Try.underlying29 infoSm HSL.out (by decide) (by decide) ?_)
              | ((with_reducible refine gate_builtin (b := .append) (xs := #[.tmp 30, .tmp 33]) rfl ?_); at_builtin; refine app1 dSum flat_sum w.heap.size (w0 := w) (.tmp 30) (.tmp 33) 29 31 _ 32 rfl rfl Try.underlying29 infoSm rfl (by decide) (by decide) _ out r.s (nums .u8 r.s) rfl rfl ?aP ?aO ?aB ?aS ?aL ?_; (case aP => first | exact rfl | exact ⟨trivial, rfl⟩ | exact ⟨HOK.out, rfl⟩); (case aO => exact HO3.out); (case aB => exact (by repeat (first | (with_reducible first | exact HB3.out | apply below_alloc | apply pw_below_drewN | apply below_drew1) | exact HB3.out))); (case aS => exact (below_size (by repeat (first | (with_reducible first | exact HB3.out | apply below_alloc | apply pw_below_drewN | apply below_drew1) | exact HB3.out)))); (case aL => exact (by omega)); intro v1 w1 ho1 hb1 hg1 hat1; have HO4 := Aside0.mk ho1; have HB4 := Aside0.mk hb1; clear ho1 hb1 hg1 hat1))
            go_roundg (k - (i + 1) + 1)
            case measure => have := HK.out; omega
            case rel => exact ⟨i + 1, by go_num, by omega, ⟨rfl⟩, ⟨by rw [HF2.out]; exact HO4.out⟩, HB4⟩
      · have g1 : decide ((out.length : Int) < 16) = false := by simp; omega
        have HF2 := Aside0.mk (show hooksF rate (rs.take (i + 1)) = out by rw [HF.out]; unfold hookStep; rw [if_neg (fun h => h16 h.1)])
        go_wp2_with (first
          | ((with_reducible refine gate_ (.load 34 (.tmp 12)) rfl ?_); refine Hd.wpList_load_any rfl _ (.tmp 12) rfl _ rfl C _ HRA.out HU.out rfl HI.out ?_)
          | ((with_reducible refine gate_ (.alloc 34) rfl ?_); refine Hd.step_run rfl (Hd.exec_alloc _ rfl _ (HZV.out _)) ?_; refine Hd.wpList_store_new rfl _ _ _ rfl _ Z C.toArray rfl rfl HZC.out HI2.out HON.out ?_; rw [HWA.out]))
        go_roundg (k - (i + 1) + 1)
        case measure => have := HK.out; omega
        case rel => exact ⟨i + 1, by go_num, by omega, ⟨rfl⟩, ⟨by rw [HF2.out]; exact HO1.out⟩, ⟨HB1.out⟩⟩
    · obtain rfl : i = k := by omega
      have h1 : decide ((i : Int) < (i : Int)) = false := by simp
      have HFin := Aside0.mk (show hooksF rate (rs.take i) = hooksF rate rs by rw [List.take_of_length_le (by omega)])
      go_wp2
      go_ret
      refine ⟨_, rfl, ?_, HBr.out⟩
      rw [← HFin.out]
      exact HOr.out
end Go.Proofs.Ytkobolgbmfhpgaa.SgHk
