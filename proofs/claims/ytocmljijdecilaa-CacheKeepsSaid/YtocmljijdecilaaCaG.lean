/- Bins of the cache, walked: the last first; condition: the cache stands. -/
import Derived.Test.YtocmljijdecilaaCaF
import Derived.RangeFuncBox
namespace Go.Proofs.Ytocmljijdecilaa.CaG
open Go Go.RowKit Go.Shelf Go.Proofs.YtocmljijdecilaaW.PrintWords Go.Proofs.Ytocmljijdecilaa.K Go.Proofs.Ytocmljijdecilaa.Mp Go.Proofs.Ytocmljijdecilaa.Eq Go.Proofs.Ytocmljijdecilaa.CaS Go.Proofs.Ytocmljijdecilaa.CaC Go.Proofs.Ytocmljijdecilaa.CaD Go.Proofs.Ytocmljijdecilaa.CaA Go.Proofs.Ytocmljijdecilaa.CaO Go.Proofs.Ytocmljijdecilaa.CaB Go.Proofs.Ytocmljijdecilaa.CaB2 Go.Proofs.Ytocmljijdecilaa.CaP Go.Proofs.Ytocmljijdecilaa.CaQ Go.Proofs.Ytocmljijdecilaa.CaF Go.Proofs.Ytocmljijdecilaa.It
set_option linter.unusedVariables false
set_option linter.unusedSimpArgs false
attribute [local go_sem] Oper.semAt_some
def binsOf (ts : List Kn) (pre : List (Fin ts.length)) : List Int := pre.map (fun x => ts[x.1].bin)
theorem binsOf_all (ts : List Kn) (xs : List (Fin ts.length)) (h : xs.map (·.val) = (List.range ts.length).reverse) : binsOf ts xs = (ts.map (·.bin)).reverse := by
  have e : binsOf ts xs = (xs.map (·.val)).map (fun i => (ts.getD i default).bin) := by
    unfold binsOf
    rw [List.map_map]
    refine List.map_congr_left (fun x _ => ?_)
    simp [x.2]
  rw [e, h, List.map_reverse]
  congr 1
  refine List.ext_getElem (by simp) (fun i h1 h2 => ?_)
  simp at h1
  simp [h1]
theorem ownFrom_grown {β : Type} (w : World) : OwnFrom w.heap.size (fun (_ : β) (W : World) => w.grownBy W none) := fun _ W W' row h hg hr => grown_row h hg (fun r e => (hr r e).1)
theorem owns_lower {W : World} {base b2 : Nat} {e : TypeId} {size : Nat} {v : Value} {k : Nat} {xs : List Value} (h : W.ownsRow base e size v k xs) (hb : b2 ≤ base) : W.ownsRow b2 e size v k xs := by
  refine ⟨h.1, ?_⟩
  rcases h.2 with h2 | ⟨g, cap, cur, e1, e2, h3⟩
  · exact .inl h2
  · exact .inr ⟨g, cap, cur, e1, Nat.le_trans hb e2, h3⟩
def BinI (w : World) (B : Nat) {ts : List Kn} (pre : List (Fin ts.length)) (W : World) : Prop := (∃ v, Boxed W B 54 v ∧ W.ownsRow B 3 1 v pre.length (nums .i64 (binsOf ts pre)) ∧ True) ∧ Below B w W
set_option maxHeartbeats 8000000 in
set_option maxRecDepth 100000 in
theorem bins_in {w : World} {T : Nat → Prop} {g : Nat} {room : Int} {ts : List Kn} (h : Ca w T g room ts) (hn : ts.length ≤ 900) :
    CallsIn Fence.wide 3 Try.prog 23 #[.pointer (some ⟨g, 0, none⟩)] w fun e w' =>
      ∃ v, e = .returned v ∧ w'.ownsRow w.heap.size 3 1 v ts.length (nums .i64 (ts.map (·.bin)).reverse) ∧ Below w.heap.size w w' := by
  obtain ⟨A, c, hg, hC, hc, hA⟩ := h
  have hgl := (Array.getElem?_eq_some_iff.1 hg).1
  have a1 := obj_cell hg 1 (v := .slice A ts.length c) rfl
  have HC := Aside0.mk hC
  have HA := Aside0.mk hA
  obtain ⟨i0, hi, hz0, hz1, hz2⟩ := info_parts infoInt0
  clear hg hC hA
  have hal : Below w.heap.size w (w.alloc (.cells #[.slice none 0 0] 54)) := below_alloc (Below.refl w.heap.size w) _
  have a1w := (hal.cell (p := ⟨g, 1, none⟩) hgl).trans a1
  refine callsIn_of_wp_marks Try.func23 rfl trivial ?_ rfl
  simp only [Try.ntmps23, List.size_toArray, List.length_cons, List.length_nil, Nat.reduceAdd, Nat.reduceSub, Array.replicate_succ, Array.replicate_zero, List.push_toArray, List.append_toArray, List.nil_append, List.cons_append]
  refine wpIn_wide.2 ?_
  go_wp2_with (go_at_call 24; (with_reducible refine (backK_calls _ _ _ _).mono ?_); rintro e w' ⟨rfl, rfl⟩)
  have HWB : Aside0 (Below w.heap.size w ((w.alloc (.cells #[.slice none 0 0] 54)).alloc (.cells #[.slice A ts.length c] 57))) := ⟨below_alloc hal _⟩
  have hws : ((w.alloc (.cells #[.slice none 0 0] 54)).alloc (.cells #[.slice A ts.length c] 57)).heap.size = w.heap.size + 2 := by simp
  have HB0 : Aside0 (((w.alloc (.cells #[.slice none 0 0] 54)).alloc (.cells #[.slice A ts.length c] 57)).heap[w.heap.size]? = some (.cells #[.slice none 0 0] 54 (0, 0))) := ⟨old_al (new_at _ _ _ (by simp))⟩
  have HBX : Aside0 (((w.alloc (.cells #[.slice none 0 0] 54)).alloc (.cells #[.slice A ts.length c] 57)).heap[w.heap.size + 1]? = some (.cells #[.slice A ts.length c] 57 (0, 0))) := ⟨new_at _ _ _ (by simp)⟩
  clear hal a1w
  generalize (w.alloc (.cells #[.slice none 0 0] 54)).alloc (.cells #[.slice A ts.length c] 57) = wr at *
  refine (wpIn_wide (n := 3)).1 ?_
  refine wpIn_rangeFunc_ownH rfl (by decide) (gf := 34) (lb := #[.pointer (some ⟨w.heap.size + 1, 0, none⟩)]) rfl trivial (enters_of Try.func34 (by kernel_rfl) rfl)
    (backK_stops (3 - 1) (by decide) (w.heap.size + 1) A c ts (fun k => k = w.heap.size + 1 ∨ ∃ a, A = some a ∧ k = a.block) wr (.inl rfl) (fun a ha => .inr ⟨a, ha, rfl⟩) (by omega) (fun a ha => by have := (HA.out a ha).1; omega) (obj_cell HBX.out 0 rfl) (Kd.C_below HC.out HWB.out))
    keepR_t (keepR_b (fun k hk => by rcases hk with rfl | ⟨a, ha, rfl⟩; (· omega); (· have := (HA.out a ha).1; omega))) (Below.refl _ _) (fun _ => rfl)
    (fun pre W => (∃ v, Boxed W w.heap.size 54 v ∧ W.ownsRow wr.heap.size 3 1 v pre.length (nums .i64 (binsOf ts pre)) ∧ True) ∧ Below w.heap.size w W ∧ wr.heap.size ≤ W.heap.size)
    (fun _ _ _ => False)
    (OwnFrom.and (Own.from (holdsRow_own wr.heap.size w.heap.size 54 3 1 (fun pre => pre.length) (fun pre => nums .i64 (binsOf ts pre)) (fun pre v => True)) _) (OwnFrom.and (ownFrom_below (Nat.le_refl _) (by omega)) (fun _ _ _ _ hs hg _ => Nat.le_trans hs hg.size))) (fun _ _ _ _ _ h _ _ => h) ⟨⟨_, HB0.out, World.ownsRow_nil _ _ _ _, trivial⟩, HWB.out, Nat.le_refl _⟩
    (fun x a' W => ∃ p : Nat, wr.heap.size ≤ p ∧ W.heap[p]? = some (.cells #[.int .i64 ts[x.1].bin, .slice ts[x.1].sa ts[x.1].sn ts[x.1].sc, .map (some ts[x.1].m)] 68 (0, 0)) ∧ a' = { tmps := #[.pointer (some ⟨g, 0, none⟩), undef, .slice none 0 0, .pointer (some ⟨w.heap.size, 0, none⟩), undef, .pointer (some ⟨p, 0, none⟩), .pointer (some ⟨g, 0, none⟩), .bool true, .pointer (some ⟨g, 0, none⟩), .pointer (some ⟨g, 0, none⟩), .pointer (some ⟨g, 1, none⟩), .slice A ts.length c, .func (.func 34) #[] #[.pointer (some ⟨w.heap.size + 1, 0, none⟩)], .int .i64 (x.1 : Int), .agg #[.int .i64 ts[x.1].bin, .slice ts[x.1].sa ts[x.1].sn ts[x.1].sc, .map (some ts[x.1].m)], undef, undef, undef, undef, undef, undef], defers := [] }) ?ax ?assign ?body ?done (fun _ _ _ _ _ _ h _ => h.elim)
  case ax =>
    intro x a' _ W W' row hI hg hr
    obtain ⟨p, hpl, hp, rfl⟩ := hI
    refine ⟨p, hpl, (hg.block p (Array.getElem?_eq_some_iff.1 hp).1 (fun e => ?_)).trans hp, rfl⟩
    obtain ⟨_, o, ho, hc⟩ := hr p e.symm
    rw [hp] at ho
    cases ho
    cases hc
  case assign =>
    intro l pre x W K hI hK
    have HK := Aside0.mk (hK _ (W.alloc (.cells #[.int .i64 ts[x.1].bin, .slice ts[x.1].sa ts[x.1].sn ts[x.1].sc, .map (some ts[x.1].m)] 68)) (KeepsOthers.from (KeepsOthers.alloc W _) _) (keepR_below (below_alloc (Below.refl _ _) _)) ⟨(holdsRow_own wr.heap.size w.heap.size 54 3 1 (fun pre => pre.length) (fun pre => nums .i64 (binsOf ts pre)) (fun pre v => True)) pre W _ none hI.1 (World.grownBy_alloc _ _ none) (fun r e => by cases e), below_alloc hI.2.1 _, Nat.le_trans hI.2.2 (by simp)⟩ ⟨W.heap.size, hI.2.2, heap_alloc_new _ _, rfl⟩)
    clear hI hK
    simp only [encK] at HK ⊢
    gi_wp2
    exact HK.out
  case body =>
    rintro l pre x a' W hlw hlr ⟨⟨v, hv, hrow, _⟩, hB, hWz⟩ ⟨p, hpl, hp, rfl⟩ hlt
    have hc := hv.cell
    have c1 := obj_cell (v := .int .i64 ts[x.1].bin) hp 0 rfl
    have hpre : pre.length ≤ 900 := by omega
    gi_wp2_with (gi_at_builtin; refine wpListIn_append_own _ rfl _ _ 54 rfl wr.heap.size 3 i0 (.int .i64 0) 1 8 Try.underlying54 hi hz0 hz1 hz2 rfl (by decide) _ _ _ rfl (hrow.alloc _) ⟨W.heap.size, 0, none⟩ 1 1 [.int .i64 ts[x.1].bin] rfl rfl (cell_one_new _ _ _) (by simp [Value.oneCell']) (by simp only [maxLen]; omega) (by omega) (by simp; omega) ?_; intro v' w1 hown' hgrow _; obtain ⟨g', cap', rfl⟩ := ownsRow_succ hown'; obtain ⟨hv1, hv2, hr2, hk2, hb2⟩ := hv.appended (by decide) (owns_lower hrow (by omega : w.heap.size ≤ wr.heap.size)) hB.size (Nat.le_refl _) (owns_lower hown' (by omega : w.heap.size ≤ wr.heap.size)) hgrow; have hc1 := hv1.cell; have hf1 := hv1.frozen)
    have hgrow2 : (W.alloc (.cells #[.int .i64 ts[x.1].bin] 3)).grownBy w1 v.ownBlock := hgrow
    clear hgrow
    rw [hws] at *
    refine ⟨hk2.from _, ⟨hb2.size, fun k hk hkl => ?_⟩, ⟨_, hv2, ?_⟩, hB.trans hb2, Nat.le_trans hWz hb2.size⟩
    · have hkr : k ≠ w.heap.size ∧ k < w.heap.size + 2 := by
        rcases hk with rfl | ⟨a, ha, rfl⟩
        · omega
        · have := (HA.out a ha).1; omega
      refine (Below.heap_setCell _ _ _ _ (by show k ≠ w.heap.size; exact hkr.1)).trans ((hgrow2.block k (by simp; omega) (fun e => ?_)).trans (Below.heap_alloc _ _ _ hkl))
      rcases hrow.2 with ⟨rfl, _⟩ | ⟨g3, cap3, cur3, rfl, hb3, _, _⟩
      · simp [Value.ownBlock] at e
      · simp [Value.ownBlock] at e
        omega
    · have h9 : (w1.setCell ⟨w.heap.size, 0, none⟩ (Value.slice (some ⟨g', 0, none⟩) (pre.length + 1) cap')).ownsRow (w.heap.size + 2) 3 1 (Value.slice (some ⟨g', 0, none⟩) (pre.length + 1) cap') (pre.length + 1) (nums .i64 (binsOf ts pre) ++ [.int .i64 ts[x.1].bin]) := ownsRow_setCell_below hown' (by show w.heap.size < w.heap.size + 2; omega) _
      simpa [binsOf, nums] using h9
  case done =>
    rintro D ys W hD hS ⟨⟨v, hv, hrow, _⟩, hB, hWz⟩ hK
    have hc := hv.cell
    go_wp2
    have hall := binsOf_all ts ys hS
    have hyl : ys.length = ts.length := by
      have := congrArg List.length hS
      simpa using this
    refine ⟨by simp, .inl ⟨_, _, rfl, run_takeDeferred hK, ?_⟩⟩
    rw [hall, hyl] at hrow
    exact ⟨_, results_tmp rfl _ _ _, v, rfl, ownsRow_putObj (owns_lower hrow (by omega)) _ hK rfl, hB.trans (belowK_b (w := w) (Nat.le_refl _) W D _ _ (by omega) hK rfl rfl)⟩
end Go.Proofs.Ytocmljijdecilaa.CaG
