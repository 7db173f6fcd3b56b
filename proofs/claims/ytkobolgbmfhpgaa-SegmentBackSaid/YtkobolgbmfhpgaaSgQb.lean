/- The reference's Split: refs in groups; condition: the refs read as refs, within the weight's reach. -/
import Derived.Test.YtkobolgbmfhpgaaSgQa
namespace Go.Proofs.Ytkobolgbmfhpgaa.SgQb
open Go Go.RowKit Go.Proofs.YtkobolgbmfhpgaaW.PrintWords Go.Proofs.Ytkobolgbmfhpgaa.K Go.Proofs.Ytkobolgbmfhpgaa.OctS Go.Proofs.Ytkobolgbmfhpgaa.OctP Go.Proofs.Ytkobolgbmfhpgaa.Oct Go.Proofs.Ytkobolgbmfhpgaa.ReR Go.Proofs.Ytkobolgbmfhpgaa.ReT Go.Proofs.Ytkobolgbmfhpgaa.ReK Go.Proofs.Ytkobolgbmfhpgaa.SgL Go.Proofs.Ytkobolgbmfhpgaa.SgD Go.Proofs.Ytkobolgbmfhpgaa.SgM Go.Proofs.Ytkobolgbmfhpgaa.SgH Go.Proofs.Ytkobolgbmfhpgaa.SgE Go.Proofs.Ytkobolgbmfhpgaa.SgHk Go.Proofs.Ytkobolgbmfhpgaa.SgQ Go.Proofs.Ytkobolgbmfhpgaa.SgQa
set_option linter.unusedVariables false
set_option linter.unusedSimpArgs false
/-- A row of groups, beside the row under way (v): none of a group's blocks is that row's. -/
structure Gs (W : World) (ds : List Ds) (gs : List (List Ref)) (v : Value) : Prop where
  grp : Grp W ds gs
  own : ∀ j, j < ds.length → ∀ a, (ds.getD j default).a = some a → (∃ cur, W.heap[a.block]? = some (Obj.cells cur 34 (0, 0))) ∧ some a.block ≠ v.ownBlock
theorem Gs.move {W W1 : World} {ds : List Ds} {gs : List (List Ref)} {v v1 : Value} (h : Gs W ds gs v) (hk : ∀ (g : Nat) (cur : Array Value), W.heap[g]? = some (Obj.cells cur 34 (0, 0)) → some g ≠ v.ownBlock → W1.heap[g]? = W.heap[g]?)
    (hv : ∀ g : Nat, g < W.heap.size → some g ≠ v.ownBlock → some g ≠ v1.ownBlock) : Gs W1 ds gs v1 := by
  refine ⟨⟨h.grp.len, fun j hj => ⟨C_same (h.grp.each j hj).1 (fun a ha => ?_), (h.grp.each j hj).2⟩⟩, fun j hj a ha => ?_⟩
  · obtain ⟨⟨cur, hc⟩, hne⟩ := h.own j hj a ha
    exact hk _ cur hc hne
  · obtain ⟨⟨cur, hc⟩, hne⟩ := h.own j hj a ha
    exact ⟨⟨cur, (hk _ cur hc hne).trans hc⟩, hv _ (Array.getElem?_eq_some_iff.1 hc).1 hne⟩
theorem Gs.below {W W1 : World} {ds : List Ds} {gs : List (List Ref)} {v : Value} (h : Gs W ds gs v) (hb : Below W.heap.size W W1) : Gs W1 ds gs v :=
  h.move (fun g cur hc _ => hb.block g (Array.getElem?_eq_some_iff.1 hc).1) (fun _ _ h => h)
theorem Gs.snoc {W : World} {ds : List Ds} {gs : List (List Ref)} {v : Value} (h : Gs W ds gs v) {d : Ds} {g : List Ref} (hd : dRef.C W d.a d.n g) (hc : d.n ≤ d.c) (ha : ∀ a, d.a = some a → (∃ cur, W.heap[a.block]? = some (Obj.cells cur 34 (0, 0))) ∧ some a.block ≠ v.ownBlock) : Gs W (ds ++ [d]) (gs ++ [g]) v := by
  refine ⟨h.grp.snoc hd hc, fun j hj => ?_⟩
  rw [List.length_append] at hj
  change j < ds.length + 1 at hj
  by_cases e : j < ds.length
  · rw [List.getD_eq_getElem?_getD, List.getElem?_append_left e, ← List.getD_eq_getElem?_getD]
    exact h.own j e
  · have e2 : j = ds.length := by omega
    subst e2
    rw [List.getD_eq_getElem?_getD, List.getElem?_append_right (Nat.le_refl _)]
    simp
    exact ha
theorem rsplit_arg (A : Option Addr) (k c : Nat) (most : Int) (w : World) (h : most < 1 ∨ 64 < most) : Calls Try.prog 18 #[.slice A k c, .int .i64 most] w fun e w' => e = .returned (.tuple #[.slice none 0 0, .int .i64 2]) ∧ Below w.heap.size w w' := by
  by_cases h1 : most < 1
  · have g1 : decide (most < 1) = true := decide_eq_true h1
    go_enter Try.func18, Try.ntmps18
    go_wp2
    go_ret2
    exact ⟨rfl, Below.refl _ _⟩
  · have g1 : decide (most < 1) = false := decide_eq_false h1
    have g2 : decide (64 < most) = true := decide_eq_true (by omega)
    go_enter Try.func18, Try.ntmps18
    go_wp2
    go_ret2
    exact ⟨rfl, Below.refl _ _⟩
theorem own_ref {W : World} {base : Nat} {v : Value} {xs : List Ref} {A : Option Addr} {n c : Nat} (h : Kd.R dRef 34 W base (fun _ => True) v xs) (e : v = .slice A n c) : ∀ a, A = some a → ∃ cur, W.heap[a.block]? = some (Obj.cells cur 34 (0, 0)) := fun a ha => by
  subst ha
  exact Kd.R_typed h a.block (by rw [e]; rfl)
theorem ne_of_types {W : World} {g : Nat} {cur : Array Value} {t e : TypeId} {v : Value} (hc : W.heap[g]? = some (Obj.cells cur t (0, 0))) (hty : ∀ k, v.ownBlock = some k → ∃ cells, W.heap[k]? = some (.cells cells e (0, 0))) (ht : t ≠ e) : some g ≠ v.ownBlock := fun h => by
  obtain ⟨cells, h1⟩ := hty g h.symm
  rw [hc] at h1
  injection h1 with h1
  injection h1 with _ h1
  exact ht h1
set_option maxHeartbeats 8000000 in
set_option maxRecDepth 100000 in
theorem rsplit_ok (A : Option Addr) (k c : Nat) (rs : List Ref) (most : Int) (w : World) (h : RefsC w A k rs) (hb : k * 56 ≤ 140737488351232) (hm1 : 1 ≤ most) (hm2 : most ≤ 64) : Calls Try.prog 18 #[.slice A k c, .int .i64 most] w fun e w' =>
    ∃ v ds, e = .returned (.tuple #[v, .int .i64 0]) ∧ Kd.R dSl 28 w' w.heap.size (fun _ => True) (v) (ds) ∧ Grp w' ds (splitF most rs) ∧ Below w.heap.size w w' := by
  have hl : rs.length = k := h.len
  have H := Aside0.mk h
  have HU := Aside0.mk Try.underlying34
  have g1 : decide (most < 1) = false := by simp; omega
  have g2 : decide (64 < most) = false := by simp; omega
  have hwf : (Lit.int .i64 most).wf = true := by
    simp only [Lit.wf, IntKind.min, IntKind.max, IntKind.signed, IntKind.bits, Bool.and_eq_true, decide_eq_true_eq, if_true]
    omega
  have HWF := Aside0.mk hwf
  clear h hwf
  go_enter Try.func18, Try.ntmps18
  go_wp2
  have HO0 := Aside0.mk (Kd.R_alloc (Kd.R_made_nil dSl w 28) (.cells #[] 34))
  have HN0 := Aside0.mk (Kd.R_lower (Kd.R_made_nil dRef (w.alloc (.cells #[] 28)) 34) (show w.heap.size ≤ (w.alloc (.cells #[] 28)).heap.size by simp))
  rw [World.size_alloc] at HN0
  go_loopg [6, 7, 8] (k + 1) (fun gk v6 v7 v8 wr => ∃ (outs : List (List Ref)) (ds : List Ds) (now : List Ref) (i : Nat), v8 = .int .i64 i ∧ i ≤ k ∧ Aside0 (gk = k - i + 1) ∧ Aside0 (Kd.R dSl 28 wr w.heap.size (fun _ => True) (v6) (ds)) ∧ Aside0 (Kd.R dRef 34 wr w.heap.size (fun _ => True) (v7) (now)) ∧
    Aside0 (Gs wr ds outs v7) ∧ ds.length ≤ i ∧ (now.length : Int) < most ∧ Aside0 (foldG most (rs.take i) = (outs, now)) ∧ Aside0 (Below w.heap.size w wr))
  case atStart => exact ⟨[], [], [], 0, rfl, Nat.zero_le _, ⟨rfl⟩, HO0, HN0, ⟨⟨Grp.nil _, fun j hj => by cases hj⟩⟩, Nat.le_refl _, (by show ((0 : Nat) : Int) < most; omega), ⟨by rw [List.take_zero]; rfl⟩, ⟨below_alloc (below_alloc (Below.refl _ _) _) _⟩⟩
  case round =>
    obtain ⟨outs, ds, now, i, rfl, hi, HG, HO, HN, HGS, hdl, hnl, HF, HB⟩ := hrel
    obtain ⟨wo, rfl⟩ : ∃ X : World, X = wr := ⟨_, rfl⟩
    obtain ⟨Ao, co, rfl, hco, hro⟩ := Kd.R_reads HO.out
    obtain ⟨An, cn, rfl, hcn, hrn⟩ := Kd.R_reads HN.out
    by_cases hlt : i < k
    · have h1 : decide ((i : Int) < (k : Int)) = true := by simp; omega
      obtain ⟨ad, hA⟩ := H.out.is (by omega)
      subst hA
      have hp1 : (0 : Int) ≤ (i : Int) := by omega
      have hp2 : (i : Int) < (k : Int) := by omega
      have hok := H.out.ok i hlt
      have HRA := Aside0.mk ((H.out.below HB.out).cells ad rfl i hlt)
      have HFN := Aside0.mk (show foldG most (rs.take (i + 1)) = grpStep most (outs, now) (rs.getD i default) by
        rw [List.take_add_one]
        have : i < rs.length := by omega
        simp only [this, List.getElem?_eq_getElem, Option.toList_some]
        rw [fold_snoc, HF.out]
        simp [this])
      generalize rs.getD i default = r at *
      have HI := Aside0.mk (infoRef _ hok)
      have HCL := Aside0.mk (Ref.cells_len hok)
      have HOK := Aside0.mk hok
      clear hok hrn hro
      go_wp2_with (first
        | ((with_reducible refine gate_ (.load 34 (.tmp 26)) rfl ?_); refine Hd.wpList_load_any rfl _ (.tmp 26) rfl _ rfl r.cells _ HRA.out HU.out rfl HI.out ?_)
        | ((with_reducible refine gate_ (.buildSlice 28 1 #[(0, .tmp 27)]) rfl ?_); refine Lit.wpList_lit1 rfl _ 34 (.tmp 27) rfl r.cells rfl Try.underlying28 infoRef3 HCL.out (by decide) (by decide) ?_)
        | ((with_reducible refine gate_builtin (b := .append) (xs := #[.tmp 23, .tmp 28]) rfl ?_); at_builtin; refine app1 dRef flat_ref w.heap.size (w0 := w) (.tmp 23) (.tmp 28) 28 34 _ 56 rfl rfl Try.underlying28 infoRef3 rfl (by decide) (by decide) _ now r r.cells rfl rfl ?aP ?aO ?aB ?aS ?aL ?_; (case aP => first | exact rfl | exact ⟨trivial, rfl⟩ | exact ⟨HOK.out, rfl⟩); (case aO => exact HN.out); (case aB => exact (by repeat (first | (with_reducible first | exact HB.out | apply below_alloc | apply pw_below_drewN | apply below_drew1) | exact HB.out))); (case aS => exact (below_size (by repeat (first | (with_reducible first | exact HB.out | apply below_alloc | apply pw_below_drewN | apply below_drew1) | exact HB.out)))); (case aL => exact (by omega)); intro v1 w1 ho1 hb1 hg1 hat1; have HN1 := Aside0.mk ho1; have HB1 := Aside0.mk hb1; have HG1 := Aside0.mk hg1; have HT1 := Aside0.mk hat1; clear ho1 hb1 hg1 hat1; refine Hold.out ?_))
      obtain ⟨A1, c1, rfl, hc1, hr1⟩ := Kd.R_reads HN1.out
      have hnl1 : (now ++ [r]).length = now.length + 1 := by rw [List.length_append]; rfl
      have HO1 := Aside0.mk (Kd.R_over' HO.out (Kd.R_typed HN.out) (by decide) HG1.out)
      have HGS1 := Aside0.mk (HGS.out.move (v1 := .slice A1 (now ++ [r]).length c1) (fun g cur hc hne => HG1.out.block g (Array.getElem?_eq_some_iff.1 hc).1 hne) (fun g hg hne => by
        rcases HT1.out with h | ⟨b, h, h2⟩
        · rw [h]; exact hne
        · rw [h]; exact fun e => by injection e with e; omega))
      have HE := Aside0.mk (rends_calls A1 (now ++ [r]).length c1 (now ++ [r]) most w1 (refs_of_C hr1 (le_max (by omega))) HWF.out)
      have HC1 := Aside0.mk hr1
      clear hr1
      have HFN2 := Aside0.mk (show foldG most (rs.take (i + 1)) = if endsF (now ++ [r]) most = true then (outs ++ [now ++ [r]], []) else (outs, now ++ [r]) from HFN.out)
      have HNM := Aside0.mk (show endsF (now ++ [r]) most = false → ((now.length + 1 : Nat) : Int) ≠ most from fun he e => by
        have h2 : ((now ++ [r]).length : Int) = most := by rw [hnl1]; exact e
        unfold endsF at he
        rw [decide_eq_true h2] at he
        simp at he)
      clear HFN
      generalize now ++ [r] = n2 at *
      have HNL := Aside0.mk hnl1
      clear hnl1
      refine ⟨?_⟩
      cases he : endsF n2 most with
      | true =>
        have HF2 := Aside0.mk (show foldG most (rs.take (i + 1)) = (outs ++ [n2], []) by rw [HFN2.out, if_pos he])
        rw [he] at HE
        clear HFN2 HNM he
        go_wp2_with (first
          | (go_at_call 20; (with_reducible refine (HE.out).mono ?_); rintro e w' ⟨rfl, hb4⟩; have HB4 := Aside0.mk (below_then HB1.out HB1.out.size hb4); have HO4 := Aside0.mk (Kd.R_below HO1.out hb4); have HN4 := Aside0.mk (Kd.R_below HN1.out hb4); have HGS4 := Aside0.mk (HGS1.out.below hb4); have HC4 := Aside0.mk (Kd.C_below HC1.out hb4); clear hb4)
          | ((with_reducible refine gate_builtin (b := .append) (xs := #[.tmp 33, .tmp 35]) rfl ?_); at_builtin; refine app1 dSl flat_sl w.heap.size (w0 := w) (.tmp 33) (.tmp 35) 36 28 _ 24 rfl rfl Try.underlying36 infoSr rfl (by decide) (by decide) _ ds (⟨A1, n2.length, c1⟩ : Ds) [.slice A1 n2.length c1] rfl rfl ?aP ?aO ?aB ?aS ?aL ?_; (case aP => first | exact rfl | exact ⟨trivial, rfl⟩ | exact ⟨HOK.out, rfl⟩); (case aO => exact HO4.out); (case aB => exact (by repeat (first | (with_reducible first | exact HB4.out | apply below_alloc | apply pw_below_drewN | apply below_drew1) | exact HB4.out))); (case aS => exact (below_size (by repeat (first | (with_reducible first | exact HB4.out | apply below_alloc | apply pw_below_drewN | apply below_drew1) | exact HB4.out)))); (case aL => exact (by omega)); intro v5 w5 ho5 hb5 hg5 hat5; have HO5 := Aside0.mk ho5; have HB5 := Aside0.mk hb5; have HG5 := Aside0.mk hg5; clear ho5 hb5 hg5 hat5))
        have HTY := Aside0.mk (Kd.R_typed HO4.out)
        have HON := Aside0.mk (own_ref HN4.out rfl)
        have hk5 : ∀ (g : Nat) (cur : Array Value), w'.heap[g]? = some (Obj.cells cur 34 (0, 0)) → w5.heap[g]? = w'.heap[g]? := fun g cur hc => HG5.out.block g (Array.getElem?_eq_some_iff.1 hc).1 (ne_of_types hc HTY.out (by decide))
        have hkk : ∀ (g : Nat) (cur : Array Value), w'.heap[g]? = some (Obj.cells cur 34 (0, 0)) → (w5.alloc (.cells #[] 34)).heap[g]? = w'.heap[g]? := fun g cur hc => (Below.heap_alloc _ _ _ (Nat.lt_of_lt_of_le (Array.getElem?_eq_some_iff.1 hc).1 HG5.out.size)).trans (hk5 g cur hc)
        have HGS5 := Aside0.mk (HGS4.out.move (W1 := w5.alloc (.cells #[] 34)) (v1 := .slice (some ⟨w5.heap.size, 0, none⟩) 0 0) (fun g cur hc _ => hkk g cur hc) (fun g hg _ e => by have e2 : g = w5.heap.size := Option.some.inj e; have := HG5.out.size; omega))
        have HC5 : Aside0 (dRef.C (w5.alloc (.cells #[] 34)) A1 n2.length n2) := ⟨C_same HC4.out (fun a ha => by obtain ⟨cur, hc⟩ := HON.out a ha; exact hkk _ cur hc)⟩
        have HOA : Aside0 (∀ a, A1 = some a → (∃ cur, (w5.alloc (.cells #[] 34)).heap[a.block]? = some (Obj.cells cur 34 (0, 0))) ∧ some a.block ≠ (Value.slice (some ⟨w5.heap.size, 0, none⟩) 0 0).ownBlock) := ⟨fun a ha => by
          obtain ⟨cur, hc⟩ := HON.out a ha
          exact ⟨⟨cur, (hkk _ cur hc).trans hc⟩, fun e => by have e2 : a.block = w5.heap.size := Option.some.inj e; have := HG5.out.size; have := (Array.getElem?_eq_some_iff.1 hc).1; omega⟩⟩
        go_roundg (k - (i + 1) + 1)
        case measure => have := HG.out; omega
        case rel => exact ⟨outs ++ [n2], ds ++ [⟨A1, n2.length, c1⟩], [], i + 1, by go_num, by omega, ⟨rfl⟩, ⟨Kd.R_alloc HO5.out _⟩, ⟨Kd.R_lower (Kd.R_made_nil dRef w5 34) HB5.out.size⟩, ⟨HGS5.out.snoc (d := ⟨A1, n2.length, c1⟩) HC5.out hc1 HOA.out⟩, by rw [List.length_append]; show ds.length + 1 ≤ _; omega, (by show ((0 : Nat) : Int) < most; omega), HF2, ⟨below_alloc HB5.out _⟩⟩
      | false =>
        have hne := HNM.out he
        have HF2 := Aside0.mk (show foldG most (rs.take (i + 1)) = (outs, n2) by rw [HFN2.out, if_neg (by rw [he]; simp)])
        rw [he] at HE
        clear HFN2 HNM he
        go_wp2_with (go_at_call 20; (with_reducible refine (HE.out).mono ?_); rintro e w' ⟨rfl, hb4⟩; have HB4 := Aside0.mk (below_then HB1.out HB1.out.size hb4); have HO4 := Aside0.mk (Kd.R_below HO1.out hb4); have HN4 := Aside0.mk (Kd.R_below HN1.out hb4); have HGS4 := Aside0.mk (HGS1.out.below hb4); clear hb4)
        go_roundg (k - (i + 1) + 1)
        case measure => have := HG.out; omega
        case rel => exact ⟨outs, ds, n2, i + 1, by go_num, by omega, ⟨rfl⟩, HO4, HN4, HGS4, by omega, by rw [HNL.out]; omega, HF2, HB4⟩
    · obtain rfl : i = k := by omega
      have h1 : decide ((i : Int) < (i : Int)) = false := by simp
      have HF2 := HF.out
      rw [List.take_of_length_le (by omega)] at HF2
      have HSP := Aside0.mk (show splitF most rs = if now = [] then outs else outs ++ [now] by unfold splitF; rw [HF2])
      clear HF HF2
      cases now with
      | nil =>
        have HS2 := Aside0.mk (show splitF most rs = outs by rw [HSP.out, if_pos rfl])
        clear HSP
        go_wp2
        go_ret2
        refine ⟨_, rfl, ds, HO.out, ?_, HB.out⟩
        rw [HS2.out]
        exact HGS.out.grp
      | cons x xs =>
        have HS2 := Aside0.mk (show splitF most rs = outs ++ [x :: xs] by rw [HSP.out, if_neg (by simp)])
        have HX := Aside0.mk hrn
        have HON := Aside0.mk (own_ref HN.out rfl)
        have HNL := Aside0.mk (show (x :: xs).length = xs.length + 1 from rfl)
        clear HSP hrn
        generalize hn2 : x :: xs = n2 at *
        have hn3 : 0 < n2.length := by rw [HNL.out]; omega
        have g3 : decide (0 < (n2.length : Int)) = true := by simp; omega
        go_wp2_with ((with_reducible refine gate_builtin (b := .append) (xs := #[.tmp 41, .tmp 43]) rfl ?_); at_builtin; refine app1 dSl flat_sl w.heap.size (w0 := w) (.tmp 41) (.tmp 43) 36 28 _ 24 rfl rfl Try.underlying36 infoSr rfl (by decide) (by decide) _ ds (⟨An, n2.length, cn⟩ : Ds) [.slice An n2.length cn] rfl rfl ?aP ?aO ?aB ?aS ?aL ?_; (case aP => first | exact rfl | exact ⟨trivial, rfl⟩ | exact ⟨HOK.out, rfl⟩); (case aO => exact HO.out); (case aB => exact (by repeat (first | (with_reducible first | exact HB.out | apply below_alloc | apply pw_below_drewN | apply below_drew1) | exact HB.out))); (case aS => exact (below_size (by repeat (first | (with_reducible first | exact HB.out | apply below_alloc | apply pw_below_drewN | apply below_drew1) | exact HB.out)))); (case aL => exact (by omega)); intro v5 w5 ho5 hb5 hg5 hat5; have HO5 := Aside0.mk ho5; have HB5 := Aside0.mk hb5; have HG5 := Aside0.mk hg5; clear ho5 hb5 hg5 hat5)
        go_ret2
        refine ⟨_, rfl, ds ++ [(⟨An, n2.length, cn⟩ : Ds)], HO5.out, ?_, HB5.out⟩
        rw [HS2.out]
        have hk5 : ∀ (g : Nat) (cur : Array Value), wo.heap[g]? = some (Obj.cells cur 34 (0, 0)) → w5.heap[g]? = wo.heap[g]? := fun g cur hc => HG5.out.block g (Array.getElem?_eq_some_iff.1 hc).1 (ne_of_types hc (Kd.R_typed HO.out) (by decide))
        refine (HGS.out.move (W1 := w5) (v1 := .slice none 0 0) (fun g cur hc _ => hk5 g cur hc) (fun g hg _ e => by cases e)).grp.snoc (d := ⟨An, n2.length, cn⟩) ?_ hcn
        exact C_same HX.out (fun a ha => by obtain ⟨cur, hc⟩ := HON.out a ha; exact hk5 _ cur hc)
end Go.Proofs.Ytkobolgbmfhpgaa.SgQb
