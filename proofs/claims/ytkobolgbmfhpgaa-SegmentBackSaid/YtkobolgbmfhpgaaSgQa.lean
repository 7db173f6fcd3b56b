/- segment.Split: refs in groups; condition: the refs read as refs, within the weight's reach. -/
import Derived.Test.YtkobolgbmfhpgaaSgQ
namespace Go.Proofs.Ytkobolgbmfhpgaa.SgQa
open Go Go.RowKit Go.Proofs.YtkobolgbmfhpgaaW.PrintWords Go.Proofs.Ytkobolgbmfhpgaa.K Go.Proofs.Ytkobolgbmfhpgaa.OctS Go.Proofs.Ytkobolgbmfhpgaa.OctP Go.Proofs.Ytkobolgbmfhpgaa.Oct Go.Proofs.Ytkobolgbmfhpgaa.ReR Go.Proofs.Ytkobolgbmfhpgaa.ReT Go.Proofs.Ytkobolgbmfhpgaa.ReK Go.Proofs.Ytkobolgbmfhpgaa.SgL Go.Proofs.Ytkobolgbmfhpgaa.SgD Go.Proofs.Ytkobolgbmfhpgaa.SgM Go.Proofs.Ytkobolgbmfhpgaa.SgH Go.Proofs.Ytkobolgbmfhpgaa.SgE Go.Proofs.Ytkobolgbmfhpgaa.SgQ
set_option linter.unusedVariables false
set_option linter.unusedSimpArgs false
theorem infoSr : (Try.prog.info? 28).map (fun i => (i.zero, i.size, i.bytes)) = some (some (.slice none 0 0), 1, 24) := by kernel_rfl
theorem le_max {n : Nat} (h : n ≤ 9223372036854775807) : n ≤ maxLen := Nat.le_trans h (by simp [maxLen])
theorem cutHM (A : Option Addr) (n c i : Nat) (h : i ≤ c) : ∀ W : World, (Instr.slice 28 (.slice A n c) none (some (.int .i64 (i : Int))) (some (.int .i64 (i : Int)))).run Try.prog W = .ok (.slice A i i) W := fun W => by
  obtain ⟨i0, hi0, hzz⟩ := Option.map_eq_some_iff.1 infoRef3
  simp only [Prod.mk.injEq] at hzz
  obtain ⟨_, hsz, _⟩ := hzz
  have hel : Try.prog.elem 28 = 34 := by simp [Program.elem, Try.underlying28]
  have hu : Try.prog.underlying 28 = some (.slice (Try.prog.elem 28)) := by rw [hel]; exact Try.underlying28
  rw [run_slice_hm W 28 A n c hu .i64 .i64 i i (by omega) (by omega) (by omega), hel]
  simp [sizeOf, typeInfo, hi0, hsz, sliced, Result.andThen]
  intro _; cases A <;> simp [Addr.add]
theorem fold_next (most : Int) (rs rest : List Ref) (q i : Nat) (outs : List (List Ref)) (hr : rest = rs.drop q) (h1 : 1 ≤ i) (h2 : i ≤ rest.length) (hf : foldG most (rs.take (q + (i - 1))) = (outs, rest.take (i - 1))) :
    foldG most (rs.take (q + i)) = if endsF (rest.take i) most = true then (outs ++ [rest.take i], []) else (outs, rest.take i) := by
  obtain ⟨j, rfl⟩ : ∃ j, i = j + 1 := ⟨i - 1, by omega⟩
  rw [Nat.add_sub_cancel] at hf
  have hql : q + j < rs.length := by rw [hr, List.length_drop] at h2; omega
  have hjl : j < rest.length := by omega
  have hx : rs[q + j] = rest[j] := by simp [hr]
  have e1 : rs.take (q + (j + 1)) = rs.take (q + j) ++ [rest[j]] := by
    rw [show q + (j + 1) = q + j + 1 by omega, List.take_add_one, List.getElem?_eq_getElem hql, hx]; rfl
  have e2 : rest.take (j + 1) = rest.take j ++ [rest[j]] := by
    rw [List.take_add_one, List.getElem?_eq_getElem hjl]; rfl
  rw [e1, fold_snoc, hf, e2]
  rfl
theorem split_arg (A : Option Addr) (k c : Nat) (most : Int) (w : World) (h : most < 1 ∨ 64 < most) : Calls Try.prog 17 #[.slice A k c, .int .i64 most] w fun e w' => e = .returned (.tuple #[.slice none 0 0, .int .i64 2]) ∧ Below w.heap.size w w' := by
  by_cases h1 : most < 1
  · have g1 : decide (most < 1) = true := decide_eq_true h1
    go_enter Try.func17, Try.ntmps17
    go_wp2
    go_ret2
    exact ⟨rfl, Below.refl _ _⟩
  · have g1 : decide (most < 1) = false := decide_eq_false h1
    have g2 : decide (64 < most) = true := decide_eq_true (by omega)
    go_enter Try.func17, Try.ntmps17
    go_wp2
    go_ret2
    exact ⟨rfl, Below.refl _ _⟩
set_option maxHeartbeats 4000000 in
set_option maxRecDepth 100000 in
theorem split_ok (A : Option Addr) (k c : Nat) (rs : List Ref) (most : Int) (w : World) (h : RefsC w A k rs) (hb : k * 56 ≤ 140737488351232) (hm1 : 1 ≤ most) (hm2 : most ≤ 64) : Calls Try.prog 17 #[.slice A k c, .int .i64 most] w fun e w' =>
    ∃ v ds, e = .returned (.tuple #[v, .int .i64 0]) ∧ Kd.R dSl 28 w' w.heap.size (fun _ => True) (v) (ds) ∧ Grp w' ds (splitF most rs) ∧ Below w.heap.size w w' := by
  have hl : rs.length = k := h.len
  have HC := Aside0.mk (cloneR A k c rs w (refs_C h) hb)
  have g1 : decide (most < 1) = false := by simp; omega
  have g2 : decide (64 < most) = false := by simp; omega
  have hwf : (Lit.int .i64 most).wf = true := by
    simp only [Lit.wf, IntKind.min, IntKind.max, IntKind.signed, IntKind.bits, Bool.and_eq_true, decide_eq_true_eq, if_true]
    omega
  have HWF := Aside0.mk hwf
  clear h hwf
  go_enter Try.func17, Try.ntmps17
  go_wp2_with (go_at_call 35; (with_reducible refine (HC.out).mono ?_); rintro e w' ⟨v2, rfl, ho2, hb2⟩; obtain ⟨A2, c2, rfl, hl2, hr2⟩ := Kd.R_reads ho2; have HC2 := Aside0.mk hr2; have HB2 := Aside0.mk hb2; clear ho2 hr2 hb2)
  obtain ⟨w2, rfl⟩ : ∃ X : World, X = w' := ⟨_, rfl⟩
  have HN := Aside0.mk (Kd.R_nil dSl 28 w2 w2.heap.size (fun _ => True))
  clear HC
  go_loopg [6, 7, 8] (k + 1) (fun gk v6 v7 v8 wr => ∃ (outs : List (List Ref)) (ds : List Ds) (B : Option Addr) (cb : Nat) (rest : List Ref) (i : Nat), v7 = .slice B rest.length cb ∧ v8 = .int .i64 i ∧ 1 ≤ i ∧ (i ≤ rest.length ∨ rest = [] ∧ i = 1) ∧ rest.length ≤ cb ∧ Aside0 (gk = rest.length + 1 - i + 1) ∧
    Aside0 (Kd.R dSl 28 wr w2.heap.size (fun _ => True) (v6) (ds)) ∧ Aside0 (dRef.C w2 B rest.length rest) ∧ Aside0 (Grp w2 ds outs) ∧ ds.length + rest.length ≤ k ∧
    Aside0 ((∃ q, rest = rs.drop q ∧ q + rest.length = rs.length ∧ foldG most (rs.take (q + (i - 1))) = (outs, rest.take (i - 1))) ∨ (rest = [] ∧ i = 1 ∧ outs = splitF most rs)) ∧ Aside0 (Below w2.heap.size w2 wr))
  case atStart => exact ⟨[], [], A2, c2, rs, 1, by rw [hl], rfl, Nat.le_refl _, (by rcases rs with _ | ⟨a, l⟩; exact .inr ⟨rfl, rfl⟩; exact .inl (by simp)), by omega, ⟨by omega⟩, HN, HC2, ⟨Grp.nil _⟩, by simp; omega, ⟨.inl ⟨0, by simp, by omega, rfl⟩⟩, ⟨Below.refl _ _⟩⟩
  case round =>
    obtain ⟨outs, ds, B, cb, rest, i, rfl, rfl, hi1, hi2, hcb, HG, HO, HR, HGR, hlen, HP, HB⟩ := hrel
    obtain ⟨wo, rfl⟩ : ∃ X : World, X = wr := ⟨_, rfl⟩
    obtain ⟨Ao, co, rfl, hco, hro⟩ := Kd.R_reads HO.out
    by_cases hlt : i ≤ rest.length
    · have h1 : decide ((i : Int) ≤ (rest.length : Int)) = true := by simp; omega
      have hq := HR.out.2.1
      have hcutH := cutH dRef 28 34 Try.underlying28 infoRef3 B rest.length cb i hlt hcb
      obtain ⟨B3, hcl1, hcl2⟩ := cutL dRef 28 34 Try.underlying28 infoRef3 B rest.length cb i hlt hcb
      have hcm := cutHM B rest.length cb i (by omega)
      have HX := Aside0.mk (hcutH.2 w2 rest HR.out)
      have HY := Aside0.mk (hcl2 w2 rest HR.out)
      have hch := hcutH.1
      have HE := Aside0.mk (fun W (hW : Below w2.heap.size w2 W) => ends_calls B i cb (rest.take i) most W (refs_of_C (Kd.C_below HX.out hW) (le_max (by omega))) HWF.out)
      clear hcutH hcl2
      have hro2 : ds.length ≤ k := by omega
      have HNX := Aside0.mk (show ∃ q, rest = rs.drop q ∧ q + rest.length = rs.length ∧ foldG most (rs.take (q + i)) = if endsF (rest.take i) most = true then (outs ++ [rest.take i], []) else (outs, rest.take i) by
        rcases HP.out with ⟨q, e1, e2, e3⟩ | ⟨e1, e2, e3⟩
        · exact ⟨q, e1, e2, fold_next most rs rest q i outs e1 hi1 hlt e3⟩
        · subst e1; simp at hlt; omega)
      have hdl : (rest.drop i).length = rest.length - i := List.length_drop
      have htl : (rest.take i).length = i := by rw [List.length_take]; omega
      cases he : endsF (rest.take i) most with
      | true =>
        rw [he] at HNX HE
        go_wp2_with (first
          | (go_at_call 19; (with_reducible refine (HE.out _ (by repeat (first | (with_reducible first | exact HB.out | apply below_alloc | apply pw_below_drewN | apply below_drew1) | exact HB.out))).mono ?_); rintro e w' ⟨rfl, hb4⟩; have HB4 := Aside0.mk (below_then (by repeat (first | (with_reducible first | exact HB.out | apply below_alloc | apply pw_below_drewN | apply below_drew1) | exact HB.out)) (below_size (by repeat (first | (with_reducible first | exact HB.out | apply below_alloc | apply pw_below_drewN | apply below_drew1) | exact HB.out))) hb4); have HO4 := Aside0.mk (Kd.R_below HO.out hb4); clear hb4)
          | ((with_reducible refine gate_builtin (b := .append) (xs := #[.tmp 34, .tmp 39]) rfl ?_); at_builtin; refine app1 dSl flat_sl w2.heap.size (w0 := w2) (.tmp 34) (.tmp 39) 36 28 _ 24 rfl rfl Try.underlying36 infoSr rfl (by decide) (by decide) _ ds (⟨B, i, i⟩ : Ds) [.slice B i i] rfl rfl ?aP ?aO ?aB ?aS ?aL ?_; (case aP => first | exact rfl | exact ⟨trivial, rfl⟩ | exact ⟨HOK.out, rfl⟩); (case aO => exact HO4.out); (case aB => exact (by repeat (first | (with_reducible first | exact HB4.out | apply below_alloc | apply pw_below_drewN | apply below_drew1) | exact HB4.out))); (case aS => exact (below_size (by repeat (first | (with_reducible first | exact HB4.out | apply below_alloc | apply pw_below_drewN | apply below_drew1) | exact HB4.out)))); (case aL => exact (by omega)); intro v1 w1 ho1 hb1 hg1 hat1; have HO5 := Aside0.mk ho1; have HB5 := Aside0.mk hb1; clear ho1 hb1 hg1 hat1))
        go_roundg (rest.length - i + 1)
        case measure => have := HG.out; omega
        case rel =>
          refine ⟨outs ++ [rest.take i], ds ++ [⟨B, i, i⟩], B3, cb - i, rest.drop i, 1, by rw [hdl], rfl, Nat.le_refl _, ?_, by omega, ⟨by omega⟩, HO5, ⟨by rw [hdl]; exact HY.out⟩, ⟨HGR.out.snoc (d := ⟨B, i, i⟩) HX.out (Nat.le_refl _)⟩, by rw [List.length_append, hdl]; show ds.length + 1 + _ ≤ k; omega, ⟨.inl ?_⟩, HB5⟩
          · rcases Nat.eq_zero_or_pos (rest.length - i) with h0 | h0
            · exact .inr ⟨List.eq_nil_of_length_eq_zero (hdl.trans h0), rfl⟩
            · exact .inl (by rw [hdl]; exact h0)
          · obtain ⟨q, e1, e2, e3⟩ := HNX.out
            exact ⟨q + i, by rw [e1, List.drop_drop], by rw [hdl]; omega, by rw [show q + i + (1 - 1) = q + i by omega, e3]; rfl⟩
      | false =>
        rw [he] at HNX HE
        by_cases hil : i = rest.length
        · have g3 : ((i : Int) == (rest.length : Int)) = true := by simp; omega
          have HIL := Aside0.mk hil
          clear hil
          go_wp2_with (first
            | (go_at_call 19; (with_reducible refine (HE.out _ (by repeat (first | (with_reducible first | exact HB.out | apply below_alloc | apply pw_below_drewN | apply below_drew1) | exact HB.out))).mono ?_); rintro e w' ⟨rfl, hb4⟩; have HB4 := Aside0.mk (below_then (by repeat (first | (with_reducible first | exact HB.out | apply below_alloc | apply pw_below_drewN | apply below_drew1) | exact HB.out)) (below_size (by repeat (first | (with_reducible first | exact HB.out | apply below_alloc | apply pw_below_drewN | apply below_drew1) | exact HB.out))) hb4); have HO4 := Aside0.mk (Kd.R_below HO.out hb4); clear hb4)
            | ((with_reducible refine gate_builtin (b := .append) (xs := #[.tmp 34, .tmp 39]) rfl ?_); at_builtin; refine app1 dSl flat_sl w2.heap.size (w0 := w2) (.tmp 34) (.tmp 39) 36 28 _ 24 rfl rfl Try.underlying36 infoSr rfl (by decide) (by decide) _ ds (⟨B, i, i⟩ : Ds) [.slice B i i] rfl rfl ?aP ?aO ?aB ?aS ?aL ?_; (case aP => first | exact rfl | exact ⟨trivial, rfl⟩ | exact ⟨HOK.out, rfl⟩); (case aO => exact HO4.out); (case aB => exact (by repeat (first | (with_reducible first | exact HB4.out | apply below_alloc | apply pw_below_drewN | apply below_drew1) | exact HB4.out))); (case aS => exact (below_size (by repeat (first | (with_reducible first | exact HB4.out | apply below_alloc | apply pw_below_drewN | apply below_drew1) | exact HB4.out)))); (case aL => exact (by omega)); intro v1 w1 ho1 hb1 hg1 hat1; have HO5 := Aside0.mk ho1; have HB5 := Aside0.mk hb1; clear ho1 hb1 hg1 hat1))
          go_roundg (rest.length - i + 1)
          case measure => have := HG.out; omega
          case rel =>
            have hil := HIL.out
            refine ⟨outs ++ [rest.take i], ds ++ [⟨B, i, i⟩], B3, cb - i, rest.drop i, 1, by rw [hdl], rfl, Nat.le_refl _, .inr ⟨List.eq_nil_of_length_eq_zero (by rw [hdl]; omega), rfl⟩, by omega, ⟨by omega⟩, HO5, ⟨by rw [hdl]; exact HY.out⟩, ⟨HGR.out.snoc (d := ⟨B, i, i⟩) HX.out (Nat.le_refl _)⟩, by rw [List.length_append, hdl]; show ds.length + 1 + _ ≤ k; omega, ⟨.inr ⟨List.eq_nil_of_length_eq_zero (by rw [hdl]; omega), rfl, ?_⟩⟩, HB5⟩
            obtain ⟨q, e1, e2, e3⟩ := HNX.out
            have e4 : rs.take (q + i) = rs := List.take_of_length_le (by omega)
            rw [e4] at e3
            unfold splitF
            rw [e3]
            have e5 : rest.take i ≠ [] := fun e => by rw [e] at htl; simp at htl; omega
            simp [e5]
        · have g3 : ((i : Int) == (rest.length : Int)) = false := by simp; omega
          go_wp2_with (go_at_call 19; (with_reducible refine (HE.out _ (by repeat (first | (with_reducible first | exact HB.out | apply below_alloc | apply pw_below_drewN | apply below_drew1) | exact HB.out))).mono ?_); rintro e w' ⟨rfl, hb4⟩; have HB4 := Aside0.mk (below_then (by repeat (first | (with_reducible first | exact HB.out | apply below_alloc | apply pw_below_drewN | apply below_drew1) | exact HB.out)) (below_size (by repeat (first | (with_reducible first | exact HB.out | apply below_alloc | apply pw_below_drewN | apply below_drew1) | exact HB.out))) hb4); have HO4 := Aside0.mk (Kd.R_below HO.out hb4); clear hb4)
          go_roundg (rest.length + 1 - (i + 1) + 1)
          case measure => have := HG.out; omega
          case rel =>
            refine ⟨outs, ds, B, cb, rest, i + 1, rfl, by go_num, by omega, .inl (by omega), hcb, ⟨rfl⟩, HO4, HR, HGR, hlen, ⟨.inl ?_⟩, HB4⟩
            obtain ⟨q, e1, e2, e3⟩ := HNX.out
            exact ⟨q, e1, e2, by rw [Nat.add_sub_cancel, e3]; rfl⟩
    · obtain ⟨hrn, rfl⟩ : rest = [] ∧ i = 1 := by rcases hi2 with h | h; exact absurd h hlt; exact h
      subst hrn
      have h1 : decide ((1 : Int) ≤ ((([] : List Ref).length : Nat) : Int)) = false := by simp
      have HQ := Aside0.mk (show outs = splitF most rs by
        rcases HP.out with ⟨q, e1, e2, e3⟩ | ⟨e1, e2, e3⟩
        · have h5 : rs.take (q + (1 - 1)) = rs := List.take_of_length_le (by simp at e2; omega)
          rw [h5] at e3
          unfold splitF
          rw [e3]; rfl
        · exact e3)
      clear HP
      go_wp2
      go_ret2
      refine ⟨_, rfl, ds, Kd.R_lower HO.out HB2.out.size, ?_, below_then HB2.out HB2.out.size HB.out⟩
      rw [← HQ.out]
      exact HGR.out.below HB.out
end Go.Proofs.Ytkobolgbmfhpgaa.SgQa
