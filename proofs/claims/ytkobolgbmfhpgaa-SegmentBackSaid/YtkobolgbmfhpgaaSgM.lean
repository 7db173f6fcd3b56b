/- segment.Champions: the numbers chosen; condition: few lists, each short. -/
import Derived.Test.YtkobolgbmfhpgaaSgD
namespace Go.Proofs.Ytkobolgbmfhpgaa.SgM
open Go Go.RowKit Go.Maps Go.Proofs.YtkobolgbmfhpgaaW.PrintWords Go.Proofs.Ytkobolgbmfhpgaa.K Go.Proofs.Ytkobolgbmfhpgaa.SgC Go.Proofs.Ytkobolgbmfhpgaa.SgL Go.Proofs.Ytkobolgbmfhpgaa.SgB Go.Proofs.Ytkobolgbmfhpgaa.SgV Go.Proofs.Ytkobolgbmfhpgaa.SgD
set_option linter.unusedVariables false
set_option linter.unusedSimpArgs false
theorem C_same {α : Type} {sz : Nat} {ok : α → Prop} {cells : α → List Value} {hl : ∀ x, ok x → (cells x).length = sz} {h1 : ∀ x, ok x → ∀ u ∈ cells x, u.oneCell' = true} {w w1 : World} {A : Option Addr} {n : Nat} {xs : List α}
    (h : (Kd.flatK sz ok cells hl h1).C w A n xs) (hb : ∀ a, A = some a → w1.heap[a.block]? = w.heap[a.block]?) : (Kd.flatK sz ok cells hl h1).C w1 A n xs := by
  refine ⟨h.1, h.2.1, fun h0 => ?_⟩
  obtain ⟨ad, had, hc⟩ := h.2.2 h0
  refine ⟨ad, had, fun j x hj => ?_⟩
  obtain ⟨cs, e1, e2, e3⟩ := hc j x hj
  refine ⟨cs, e1, e2, fun i u hu => ?_⟩
  rw [← e3 i u hu]
  have hbl : (ad.add (j * sz + i)).block = ad.block := by
    unfold Addr.add
    split <;> rfl
  have := hb ad had
  show World.cell? w1 (ad.add (j * sz + i)) = World.cell? w (ad.add (j * sz + i))
  unfold World.cell?
  rw [hbl, this]
section
variable {P : Program} {ops : Array Oper} {rest : List Oper} {o : Oper} {a : Act} {Q : Exit → Act → World → Prop} {W : World} {α : Type}
/-- append(v, p): the one new element lies in the box that was just made for it, behind other new ones. -/
theorem app1k (d : Kd α) (hd : Flat d) {w0 : World} (base : Nat) (s x : Operand) (t e : TypeId) (z : Value) (bytes : Nat) (hgd : o.guard = none)
    (ho : o.op = .call { callee := .builtin .append, args := #[s, x], argTypes := #[t, t] })
    (ht : P.underlying t = some (.slice e)) (hinfo : (P.info? e).map (fun i => (i.zero, i.size, i.bytes)) = some (some z, d.sz, bytes)) (hz : z.cells.size = d.sz) (hs0 : 0 < d.sz) (hb0 : 0 < bytes)
    (v : Value) (xs : List α) (p : α) (cs : List Value) {k : Nat} (hs : a.eval s = v) (hx : a.eval x = .slice (some ⟨k, 0, none⟩) 1 1) (hk : k = W.heap.size) (hp : d.K W p cs)
    (HO : d.R e W base (fun _ => True) v xs) (HB : Below base w0 W) (hbase : base ≤ W.heap.size) (hl : (xs.length + 1) * bytes ≤ 140737488355328)
    (h : ∀ v1 w1, d.R e w1 base (fun _ => True) v1 (xs ++ [p]) → Below base w0 w1 → W.grownBy w1 v.ownBlock → (v1.ownBlock = v.ownBlock ∨ ∃ b, v1.ownBlock = some b ∧ W.heap.size ≤ b) → wpList P ops Q rest (a.put o.dst v1) w1) :
    wpList P ops Q (o :: rest) a (W.alloc (.cells cs.toArray e)) := by
  subst hk
  exact app1 d hd base s x t e z bytes hgd ho ht hinfo hz hs0 hb0 v xs p cs hs hx hp HO HB hbase hl h
end
/-- A row of lists that is nil or a block of the call's own. -/
def Lf (W : World) (b : Nat) (v : Value) (ds : List Ds) : Prop :=
  ∃ A cap, v = .slice A ds.length cap ∧ ds.length ≤ cap ∧ cap ≤ 9223372036854775807 ∧ dSl.C W A ds.length ds ∧ (A = none ∨ ∃ g cur, A = some ⟨g, 0, none⟩ ∧ b ≤ g ∧ W.heap[g]? = some (.cells cur 24 (0, 0)))
theorem Lf.of_R {W : World} {b : Nat} {v : Value} {ds : List Ds} (h : Kd.R dSl 24 W b (fun _ => True) v ds) : Lf W b v ds := by
  obtain ⟨A, cap, rfl, hl, hc⟩ := Kd.R_reads h
  obtain ⟨inner, ho⟩ := Kd.R_own h
  refine ⟨A, cap, rfl, hl, ?_, hc, ?_⟩
  · rcases ho.2 with ⟨e, _⟩ | ⟨g, cap', cur, e, hb, hh, hn, hm, _⟩
    · injection e with _ _ e
      subst e; decide
    · injection e with _ _ e
      subst e
      have : maxLen = 9223372036854775807 := by decide
      omega
  · rcases ho.2 with ⟨e, _⟩ | ⟨g, cap', cur, e, hb, hh, hn, hm, _⟩
    · injection e with e
      exact .inl e
    · injection e with e
      exact .inr ⟨g, cur, e, hb, hh⟩
theorem Lf.move {W W1 : World} {b : Nat} {v : Value} {ds : List Ds} (h : Lf W b v ds) (hk : ∀ (g : Nat) (cur : Array Value), W.heap[g]? = some (Obj.cells cur 24 (0, 0)) → W1.heap[g]? = W.heap[g]?) : Lf W1 b v ds := by
  obtain ⟨A, cap, e, h1, h2, h3, h4⟩ := h
  refine ⟨A, cap, e, h1, h2, C_same h3 (fun a ha => ?_), h4.imp id (fun ⟨g, cur, e1, e2, e3⟩ => ⟨g, cur, e1, e2, (hk g cur e3).trans e3⟩)⟩
  rcases h4 with h4 | ⟨g, cur, e1, e2, e3⟩
  · rw [ha] at h4; cases h4
  · rw [ha] at e1
    injection e1 with e1
    subst e1
    exact hk g cur e3
theorem Lf.below {W W1 : World} {b : Nat} {v : Value} {ds : List Ds} (h : Lf W b v ds) (hb : Below W.heap.size W W1) : Lf W1 b v ds := h.move (fun g cur hg => hb.block g (Array.getElem?_eq_some_iff.1 hg).1)
theorem cloneL (A0 : Option Addr) (n c0 : Nat) (l0 : List Ds) (w : World) (hr : dSl.C w A0 n l0) (hb : n ≤ 12) :
    Calls Try.prog 26 #[.slice A0 n c0] w fun e w' => ∃ v, e = .returned v ∧ Kd.R dSl 24 w' w.heap.size (fun _ => True) (v) (l0) ∧ Below w.heap.size w w' := by
  have HB := Aside0.mk (Below.refl w.heap.size w)
  have hq := fun (w : World) a n c n' c' => Lib.run_eql_slice_nil (P := Try.prog) w 22 _ a n c n' c' Try.underlying22
  cases A0 with
  | none =>
    obtain rfl : l0 = [] := C_none hr
    go_enter Try.func26, Try.ntmps26
    go_wp2
    go_ret
    exact ⟨_, rfl, Kd.R_nil _ _ _ _ _, HB.out⟩
  | some a =>
    have HR := Aside0.mk hr
    clear hr
    have HN := Aside0.mk (Kd.R_made_nil dSl w 24)
    go_enter Try.func26, Try.ntmps26
    go_wp2_with ((with_reducible refine gate_builtin (b := .append) (xs := #[.tmp 5, .tmp 6]) rfl ?_); at_builtin; refine app dSl flat_sl w.heap.size (w0 := w) (.tmp 5) (.tmp 6) 22 24 _ 24 rfl rfl Try.underlying22 infoSl rfl (by decide) (by decide) _ [] l0 (some a) n c0 rfl rfl ?aO ?aR ?aB ?aS ?aL ?_; (case aO => exact HN.out); (case aR => exact (Kd.C_below HR.out (by repeat (first | (with_reducible first | exact HB.out | apply below_alloc | apply pw_below_drewN | apply below_drew1) | exact HB.out)))); (case aB => exact (by repeat (first | (with_reducible first | exact HB.out | apply below_alloc | apply pw_below_drewN | apply below_drew1) | exact HB.out))); (case aS => exact (below_size (by repeat (first | (with_reducible first | exact HB.out | apply below_alloc | apply pw_below_drewN | apply below_drew1) | exact HB.out)))); (case aL => exact (by simp; omega)); intro v1 w1 ho hb1 hg hat)
    go_ret
    exact ⟨_, rfl, by simpa using ho, hb1⟩
theorem left_kept {w' w1 : World} {gl n co base : Nat} {cur : Array Value} {Ao : Option Addr} {outs : List Int} {t : Int} (hO : Kd.R (Kd.int .i64) 3 w' base (fun _ => True) (.slice Ao n co) outs) (hcur : w'.heap[gl]? = some (.cells cur 24 (0, 0)))
    (hg1 : (w'.alloc (.cells #[.int .i64 t] 3)).grownBy w1 (Value.slice Ao n co).ownBlock) : w1.heap[gl]? = some (.cells cur 24 (0, 0)) ∧ w1.cell? ⟨w'.heap.size, 0, none⟩ = some (.int .i64 t) := by
  have hlt := (Array.getElem?_eq_some_iff.1 hcur).1
  have hA : (w'.alloc (.cells #[.int .i64 t] 3)).heap.size = w'.heap.size + 1 := by simp
  constructor
  · rw [hg1.block gl (by omega) (fun e => by
      obtain ⟨cells, hc⟩ := Kd.R_typed hO gl e.symm
      rw [hcur] at hc
      injection hc with hc
      injection hc with _ hc
      exact absurd hc (by decide))]
    rw [Below.heap_alloc w' _ gl hlt]; exact hcur
  · have hnew : (w'.alloc (.cells #[.int .i64 t] 3)).heap[w'.heap.size]? = some (.cells #[.int .i64 t] 3 (0, 0)) := heap_alloc_new w' _
    have hb := hg1.block w'.heap.size (by omega) (fun e => by
      have := Kd.R_lt hO w'.heap.size e.symm
      omega)
    exact obj_cell (hb.trans hnew) 0 rfl
set_option maxHeartbeats 1000000 in
theorem champs_calls (A : Option Addr) (k c : Nat) (ds : List Ds) (f : Ds → List Int) (most : Int) (w : World) (h : dSl.C w A k ds) (ht : Tls w f ds) (hk : k ≤ 12) :
    Calls Try.prog 10 #[.slice A k c, .int .i64 most] w fun e w' => ∃ v, e = .returned v ∧ Kd.R (Kd.int .i64) 3 w' w.heap.size (fun _ => True) (v) (champs (min most 8).toNat (ds.map f)) ∧ Below w.heap.size w w' := by
  have HC := Aside0.mk (cloneL A k c ds w h hk)
  have HT := Aside0.mk ht
  have hl : ds.length = k := h.1
  obtain ⟨M, hM⟩ : ∃ M, M = (min most 8).toNat := ⟨_, rfl⟩
  rw [← hM]
  have hM8 : M ≤ 8 := by omega
  clear h ht
  go_enter Try.func10, Try.ntmps10
  go_wp2_with (go_at_call 26; (with_reducible refine (HC.out).mono ?_); rintro e w' ⟨vl, rfl, hol, hb4⟩; have HLf := Aside0.mk (Lf.of_R hol); have HB4 := Aside0.mk hb4; clear hb4 hol)
  have HN := Aside0.mk (Kd.R_nil (Kd.int .i64) 3 w' w.heap.size (fun _ => True))
  go_loopg [5, 6] (M + 1) (fun gk v5 v6 wr => ∃ (outs : List Int) (ds' : List Ds) (m : Nat), Aside0 (gk = m + 1) ∧ Aside0 (Kd.R (Kd.int .i64) 3 wr w.heap.size (fun _ => True) (v5) (outs)) ∧ Aside0 (Lf wr w.heap.size v6 ds') ∧ Aside0 (∀ d ∈ ds', d ∈ ds) ∧ Aside0 (ds'.length ≤ 12) ∧
    Aside0 (champs M (ds.map f) = outs ++ champs m (ds'.map f)) ∧ outs.length + m = M ∧ Aside0 (Below w.heap.size w wr))
  case atStart => exact ⟨[], ds, M, ⟨rfl⟩, HN, HLf, ⟨fun _ h => h⟩, ⟨by omega⟩, ⟨rfl⟩, by simp, HB4⟩
  case round =>
    clear HB4 HLf HN HC
    obtain ⟨outs, ds', m, HG, HO, HL, HS, HD, HCH, hlen, HB⟩ := hrel
    obtain ⟨Ao, co, rfl, hco, hro⟩ := Kd.R_reads HO.out
    obtain ⟨Al, cl, rfl, hcl, hcm, hrl, hAl⟩ := HL.out
    cases m with
    | zero =>
      have h1 : decide ((outs.length : Int) < min most 8) = false := by simp only [decide_eq_false_iff_not]; omega
      go_wp2
      go_ret
      refine ⟨_, rfl, ?_, (by repeat (first | (with_reducible first | exact HB.out | apply below_alloc | apply pw_below_drewN | apply below_drew1) | exact HB.out))⟩
      rw [HCH.out, champs_zero, List.append_nil]
      exact HO.out
    | succ m =>
      have h1 : decide ((outs.length : Int) < min most 8) = true := by simp only [decide_eq_true_eq]; omega
      have HTr := Aside0.mk (show Tls wr f ds' from fun d hd => (HT.out d (HS.out d hd)).lower HB.out (Nat.le_refl _))
      have HBE := Aside0.mk (best_calls Al ds'.length cl ds' f wr hrl HTr.out HD.out)
      cases hbf : bestF (ds'.map f) with
      | mk t b =>
      rw [hbf] at HBE
      cases b with
      | false =>
        have HCH2 := Aside0.mk (show champs M (ds.map f) = outs by rw [HCH.out, champs_none _ (by rw [hbf]), List.append_nil])
        clear HCH hbf
        go_wp2_with (go_at_call 27; (with_reducible refine (HBE.out).mono ?_); rintro e w' ⟨rfl, hb4⟩; have HB4 := Aside0.mk (below_then (by repeat (first | (with_reducible first | exact HB.out | apply below_alloc | apply pw_below_drewN | apply below_drew1) | exact HB.out)) (below_size (by repeat (first | (with_reducible first | exact HB.out | apply below_alloc | apply pw_below_drewN | apply below_drew1) | exact HB.out))) hb4); have HO4 := Aside0.mk (Kd.R_below HO.out hb4); clear hb4)
        go_ret
        refine ⟨_, rfl, ?_, (by repeat (first | (with_reducible first | exact HB4.out | apply below_alloc | apply pw_below_drewN | apply below_drew1) | exact HB4.out))⟩
        rw [HCH2.out]
        exact (by (with_reducible repeat (first | apply Kd.R_alloc | apply Kd.R_drewN | apply Kd.R_drew)); exact HO4.out)
      | true =>
        obtain ⟨gl, cur, rfl, hgl, hcur⟩ : ∃ g cur, Al = some ⟨g, 0, none⟩ ∧ w.heap.size ≤ g ∧ wr.heap[g]? = some (Obj.cells cur 24 (0, 0)) := by
          rcases hAl with rfl | h
          · have := C_none hrl
            subst this
            cases hbf
          · exact h
        have HCH2 := Aside0.mk (show champs M (ds.map f) = (outs ++ [t]) ++ champs m ((ds'.filter (fun d => !decide (t ∈ f d))).map f) by
          rw [HCH.out, champs_more m hbf, List.append_assoc, List.filter_map]; rfl)
        clear HCH hbf hAl
        go_wp2_with (first
          | (go_at_call 27; (with_reducible refine (HBE.out).mono ?_); rintro e w' ⟨rfl, hb4⟩; have HB4 := Aside0.mk (below_then (by repeat (first | (with_reducible first | exact HB.out | apply below_alloc | apply pw_below_drewN | apply below_drew1) | exact HB.out)) (below_size (by repeat (first | (with_reducible first | exact HB.out | apply below_alloc | apply pw_below_drewN | apply below_drew1) | exact HB.out))) hb4); have HBr := Aside0.mk hb4; have HO4 := Aside0.mk (Kd.R_below HO.out hb4); clear hb4)
          | ((with_reducible refine gate_builtin (b := .append) (xs := #[.tmp 23, .tmp 25]) rfl ?_); at_builtin; refine app1k (Kd.int .i64) (flat_int _) w.heap.size (w0 := w) (.tmp 23) (.tmp 25) 24 3 (.int .i64 0) 8 rfl rfl Try.underlying24 infoInt6 rfl (by decide) (by decide) _ outs t [.int .i64 t] rfl rfl (by simp) ?aP ?aO ?aB ?aS ?aL ?_; (case aP => first | exact rfl | exact ⟨trivial, rfl⟩ | exact ⟨HOK.out, rfl⟩); (case aO => exact (by (with_reducible repeat (first | apply Kd.R_alloc | apply Kd.R_drewN | apply Kd.R_drew)); exact HO4.out)); (case aB => exact (by repeat (first | (with_reducible first | exact HB4.out | apply below_alloc | apply pw_below_drewN | apply below_drew1) | exact HB4.out))); (case aS => exact (below_size (by repeat (first | (with_reducible first | exact HB4.out | apply below_alloc | apply pw_below_drewN | apply below_drew1) | exact HB4.out)))); (case aL => exact (by omega)); intro v1 w1 ho1 hb1 hg1 hat1; obtain ⟨hk1, hp1⟩ := left_kept HO4.out (by rw [HBr.out.block gl (Array.getElem?_eq_some_iff.1 hcur).1]; exact hcur) hg1; have HDE := Aside0.mk (delete_calls (w := w1) (w0 := w) (t := t) (C_same hrl (fun a ha => by injection ha with ha; subst ha; exact hk1.trans hcur.symm)) hk1 hcl hcm (fun d hd => HT.out d (HS.out d hd)) hb1 hgl hp1 (fun e => by have := HBr.out.size; have := (Array.getElem?_eq_some_iff.1 hcur).1; omega)); have HO1 := Aside0.mk ho1; have HB1 := Aside0.mk hb1; have HK1 := Aside0.mk hk1; clear ho1 hb1 hg1 hat1 hk1 hp1)
          | (go_at_call 28; (with_reducible refine (HDE.out).mono ?_); rintro e w' ⟨rfl, hc5, hg5, hu5⟩; have HU5 := Aside0.mk hu5; have HC5 := Aside0.mk hc5; have HG5 := Aside0.mk hg5; clear hc5 hg5 hu5)
          | go_in)
        go_roundg (m + 1)
        case measure => have := HG.out; omega
        case rel => exact ⟨outs ++ [t], ds'.filter (fun d => !decide (t ∈ f d)), m, ⟨rfl⟩, ⟨R_kept_t (flat_int _) HO1.out HK1.out (by decide) HG5.out⟩, ⟨⟨_, cl, rfl, Nat.le_trans (List.length_filter_le _ _) hcl, hcm, HC5.out, .inr (by obtain ⟨u, hu⟩ := HU5.out; exact ⟨gl, u, rfl, hgl, hu⟩)⟩⟩, ⟨fun d hd => HS.out d (List.mem_filter.1 hd).1⟩, ⟨Nat.le_trans (List.length_filter_le _ _) HD.out⟩, HCH2, by rw [List.length_append]; show _ + 1 + _ = _; omega, ⟨HB1.out.grown HG5.out HB1.out.size (fun k hk => by cases hk; exact hgl)⟩⟩
end Go.Proofs.Ytkobolgbmfhpgaa.SgM
