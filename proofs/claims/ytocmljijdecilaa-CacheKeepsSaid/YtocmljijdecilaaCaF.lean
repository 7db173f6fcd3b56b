/- Find of the cache, walked; condition: the cache stands, each known tells its sums. -/
import Derived.Test.YtocmljijdecilaaCaV
namespace Go.Proofs.Ytocmljijdecilaa.CaF
open Go Go.RowKit Go.Shelf Go.Proofs.YtocmljijdecilaaW.PrintWords Go.Proofs.Ytocmljijdecilaa.K Go.Proofs.Ytocmljijdecilaa.Mp Go.Proofs.Ytocmljijdecilaa.Eq Go.Proofs.Ytocmljijdecilaa.CaS Go.Proofs.Ytocmljijdecilaa.CaC Go.Proofs.Ytocmljijdecilaa.CaD Go.Proofs.Ytocmljijdecilaa.CaA Go.Proofs.Ytocmljijdecilaa.CaO Go.Proofs.Ytocmljijdecilaa.CaB Go.Proofs.Ytocmljijdecilaa.CaB2 Go.Proofs.Ytocmljijdecilaa.CaP Go.Proofs.Ytocmljijdecilaa.CaQ Go.Proofs.Ytocmljijdecilaa.It
set_option linter.unusedVariables false
set_option linter.unusedSimpArgs false
attribute [local go_sem] Oper.semAt_some
/-- The last known that has the sum, and where. -/
def findD (fs : Nat → List Sm) (s : Sm) : Nat → Option (Nat × Nat)
  | 0 => none
  | i + 1 => match firstAt (fs i) s 0 with
    | some j => some (i, j)
    | none => findD fs s i
theorem findD_skip (fs : Nat → List Sm) (s : Sm) : ∀ (n i : Nat), i ≤ n → (∀ k, i ≤ k → k < n → firstAt (fs k) s 0 = none) → findD fs s n = findD fs s i
  | 0, i, h, _ => by
    obtain rfl : i = 0 := by omega
    rfl
  | n + 1, i, h, hk => by
    by_cases e : i = n + 1
    · subst e; rfl
    · have := hk n (by omega) (by omega)
      conv => lhs; unfold findD
      rw [this]
      exact findD_skip fs s n i (by omega) (fun k h1 h2 => hk k h1 (by omega))
/-- What holds between the rounds: the knowns that were seen have it not. -/
def FindI (wr : World) (s : Sm) (fs : Nat → List Sm) {n : Nat} (pre : List (Fin n)) (W : World) : Prop := wr.grownBy W none ∧ ∀ x ∈ pre, firstAt (fs x.1) s 0 = none
theorem findI_own (wr : World) (s : Sm) (fs : Nat → List Sm) {n : Nat} : OwnFrom wr.heap.size (FindI wr s fs (n := n)) := fun pre W W' row h hg hr =>
  ⟨grown_row h.1 hg (fun r e => (hr r e).1), h.2⟩
theorem mem_down (n i k : Nat) (h1 : i ≤ k) (h2 : k < n) : k ∈ downTo n i := by
  unfold downTo
  rw [List.mem_reverse]
  refine List.mem_iff_getElem?.2 ⟨k - i, ?_⟩
  rw [List.getElem?_drop, List.getElem?_range (by omega)]
  congr 1
  omega
theorem pre_down {n : Nat} {l : List Nat} (h : l <+: (List.range n).reverse) : l = downTo n (n - l.length) := by
  have h1 := List.prefix_iff_eq_take.1 h
  have h2 := h.length_le
  simp only [List.length_reverse, List.length_range] at h2
  unfold downTo
  rw [List.reverse_drop]
  simp only [List.length_range]
  rw [show n - (n - l.length) = l.length by omega]
  exact h1
theorem find_stop (fs : Nat → List Sm) (s : Sm) {n : Nat} (pre : List (Fin n)) (x : Fin n) (j : Nat) (hp : (pre ++ [x]).map (·.val) <+: (List.range n).reverse) (h1 : ∀ y ∈ pre, firstAt (fs y.1) s 0 = none) (h2 : firstAt (fs x.1) s 0 = some j) : findD fs s n = some (x.1, j) := by
  have h3 := pre_down hp
  have hl : 0 < ((pre ++ [x]).map (·.val)).length := by simp
  have hl2 := hp.length_le
  simp only [List.length_reverse, List.length_range] at hl2
  generalize hi : n - ((pre ++ [x]).map (·.val)).length = i at *
  rw [down_step n i (by omega), List.map_append] at h3
  obtain ⟨h4, h5⟩ := List.append_inj' h3 (by simp)
  have hx : x.1 = i := by simpa using h5
  rw [findD_skip fs s n (x.1 + 1) (by omega) (fun k hk1 hk2 => ?_)]
  · unfold findD
    rw [h2]
  · have hm := mem_down n (i + 1) k (by omega) hk2
    rw [← h4] at hm
    obtain ⟨y, hy, rfl⟩ := List.mem_map.1 hm
    exact h1 y hy
theorem find_none (fs : Nat → List Sm) (s : Sm) {n : Nat} (xs : List (Fin n)) (hp : xs.map (·.val) = (List.range n).reverse) (h1 : ∀ y ∈ xs, firstAt (fs y.1) s 0 = none) : findD fs s n = none := by
  rw [findD_skip fs s n 0 (Nat.zero_le _) (fun k _ hk2 => ?_)]
  · rfl
  · have hm : k ∈ xs.map (·.val) := by
      rw [hp]
      simpa using hk2
    obtain ⟨y, hy, rfl⟩ := List.mem_map.1 hm
    exact h1 y hy
/-- What the round that finds it leaves. -/
def FindX (w : World) (T : Nat → Prop) (g : Nat) (room : Int) (ts : List Kn) (fs : Nat → List Sm) (s : Sm) (B : Nat) {n : Nat} (c : Code) (pre : List (Fin n)) (W : World) : Prop :=
  c = .ret ∧ ∃ (pre' : List (Fin n)) (x : Fin n) (j : Nat), pre = pre' ++ [x] ∧ (∀ y ∈ pre', firstAt (fs y.1) s 0 = none) ∧ firstAt (fs x.1) s 0 = some j ∧ Ca W T g room (ts.take x.1 ++ ts.drop (x.1 + 1) ++ [ts.getD x.1 default]) ∧ w.grownBy W (some g) ∧ W.heap[B]? = some (.cells #[.int .i64 (ts.getD x.1 default).bin] 3 (0, 0)) ∧ W.heap[B + 1]? = some (.cells #[.int .i64 (j : Int)] 3 (0, 0)) ∧ W.heap[B + 1 + 1]? = some (.cells #[.bool true] 4 (0, 0))
theorem findX_own (w : World) (T : Nat → Prop) (g : Nat) (room : Int) (ts : List Kn) (fs : Nat → List Sm) (s : Sm) (B : Nat) {n : Nat} (c : Code) (m : Nat) (hm : w.heap.size ≤ m) : OwnFrom m (FindX w T g room ts fs s B (n := n) c) := fun pre W W' row h hg hr => by
  obtain ⟨rfl, pre', x, j, h0, h1, h1b, h2, h3, h4, h5, h6⟩ := h
  have kp : ∀ (q : Nat) (cs : Array Value) (t : TypeId), W.heap[q]? = some (.cells cs t (0, 0)) → W'.heap[q]? = some (.cells cs t (0, 0)) := fun q cs t hq =>
    (hg.block q (Array.getElem?_eq_some_iff.1 hq).1 (fun e => by
      obtain ⟨_, o, ho, hc⟩ := hr q e.symm
      rw [hq] at ho
      cases ho
      cases hc)).trans hq
  exact ⟨rfl, pre', x, j, h0, h1, h1b, ca_row h2 hg (fun r e => let ⟨_, o, ho, hc⟩ := hr r e; ⟨o, ho, hc⟩), grown_row h3 hg (fun r e => Nat.le_trans hm (hr r e).1), kp _ _ _ h4, kp _ _ _ h5, kp _ _ _ h6⟩
theorem old_al {w : World} {o q : Obj} {k : Nat} (h : w.heap[k]? = some q) : (w.alloc o).heap[k]? = some q := by
  exact (Below.heap_alloc _ _ _ (Array.getElem?_eq_some_iff.1 h).1).trans h
theorem new_at (w : World) (o : Obj) (k : Nat) (h : w.heap.size = k) : (w.alloc o).heap[k]? = some o := by
  subst h
  exact heap_alloc_new w o
theorem results_cells3 {P : Program} {fn : Func} {p q r : Tmp} {t1 t2 t3 : TypeId} (h : fn.results = #[.cell p t1, .cell q t2, .cell r t3]) (tmps : Array Value) (w : World) (B : Nat) (v1 v2 v3 : Value)
    (e1 : tmps.getD p undef = .pointer (some ⟨B, 0, none⟩)) (e2 : tmps.getD q undef = .pointer (some ⟨B + 1, 0, none⟩)) (e3 : tmps.getD r undef = .pointer (some ⟨B + 1 + 1, 0, none⟩))
    (r1 : (loadVar t1 ⟨B, 0, none⟩).run P w = .ok v1 w) (r2 : (loadVar t2 ⟨B + 1, 0, none⟩).run P w = .ok v2 w) (r3 : (loadVar t3 ⟨B + 1 + 1, 0, none⟩).run P w = .ok v3 w) :
    (results fn tmps).run P w = .ok (.tuple #[v1, v2, v3]) w := by
  have e1' : tmps[p]?.getD undef = .pointer (some ⟨B, 0, none⟩) := by simpa using e1
  have e2' : tmps[q]?.getD undef = .pointer (some ⟨B + 1, 0, none⟩) := by simpa using e2
  have e3' : tmps[r]?.getD undef = .pointer (some ⟨B + 1 + 1, 0, none⟩) := by simpa using e3
  simp [results, h, e1', e2', e3', asAddr, r1, r2, r3]
theorem load_int (w : World) (B : Nat) (x : Int) (h : w.heap[B]? = some (.cells #[.int .i64 x] 3 (0, 0))) : (loadVar 3 ⟨B, 0, none⟩).run Try.prog w = .ok (.int .i64 x) w := by
  have := obj_cell h 0 (v := .int .i64 x) rfl
  go_simp
theorem load_bool (w : World) (B : Nat) (x : Bool) (h : w.heap[B]? = some (.cells #[.bool x] 4 (0, 0))) : (loadVar 4 ⟨B, 0, none⟩).run Try.prog w = .ok (.bool x) w := by
  have := obj_cell h 0 (v := .bool x) rfl
  go_simp
theorem row_in2 {W w6 : World} {T : Nat → Prop} {g : Nat} {room : Int} {ts L : List Kn} {v6 : Value} (hca : Ca W T g room ts) (hb6 : Below W.heap.size W w6) (ho6 : Kd.R dKn 68 w6 W.heap.size (fun _ => True) (v6) (L)) (hL : 0 < L.length) :
    ∃ g2 c6, ∃ cur : Array Value, ∃ e : TypeId, v6 = .slice (some ⟨g2, 0, none⟩) L.length c6 ∧ (w6.setCell ⟨g, 1, none⟩ (.slice (some ⟨g2, 0, none⟩) L.length c6)).heap[g]? = some (.cells #[.int .i64 room, .slice (some ⟨g2, 0, none⟩) L.length c6] 59 (0, 0)) ∧ dKn.C (w6.setCell ⟨g, 1, none⟩ (.slice (some ⟨g2, 0, none⟩) L.length c6)) (some ⟨g2, 0, none⟩) L.length L ∧ (w6.setCell ⟨g, 1, none⟩ (.slice (some ⟨g2, 0, none⟩) L.length c6)).heap[g2]? = some (.cells cur e (0, 0)) ∧ L.length ≤ c6 ∧ c6 ≤ 9223372036854775807 ∧ W.heap.size ≤ g2 ∧ W.grownBy (w6.setCell ⟨g, 1, none⟩ (.slice (some ⟨g2, 0, none⟩) L.length c6)) (some g) ∧ (∃ u, w6.cell? ⟨g, 1, none⟩ = some u) ∧ w6.frozen? ⟨g, 1, none⟩ = false := by
  obtain ⟨A, c, hg, hC, hc, hA⟩ := hca
  have hgl := (Array.getElem?_eq_some_iff.1 hg).1
  have hg6 := (hb6.block g hgl).trans hg
  obtain ⟨g2, cap2, rfl, hgb, hgl2, cur, hcur⟩ := Kd.R_form ho6 hL
  have hR := Kd.R_reads' ho6
  obtain ⟨inner, hown⟩ := Kd.R_own ho6
  have hcm : cap2 ≤ maxLen := by
    rcases hown.2 with ⟨hv, _⟩ | ⟨g', cap', cur', hv, _, _, _, hcm, _⟩
    · cases hv
    · injection hv with _ _ e3
      rw [e3]; exact hcm
  unfold maxLen at hcm
  have hne : g2 ≠ g := by omega
  exact ⟨g2, cap2, cur, _, rfl, (obj_set hg6 1 _).trans rfl, C_same hR.2.2 (fun a ha => by
    injection ha with ha
    subst ha
    exact Below.heap_setCell _ _ _ _ hne), (Below.heap_setCell _ _ _ _ hne).trans hcur, hR.2.1, by omega, hgb, World.grownBy.trans (grown_below hb6) (obj_grown w6 g 1 _), ⟨_, obj_cell hg6 1 (v := .slice A ts.length c) rfl⟩, obj_free hg6 1⟩
theorem infoInt0 : (Try.prog.info? 3).map (fun i => (i.zero, i.size, i.bytes)) = some (some (.int .i64 0), 1, 8) := by kernel_rfl
theorem zeroInt (W : World) : (zeroValue 3).run Try.prog W = .ok (.int .i64 0) W := by
  obtain ⟨i, h1, h2⟩ := Option.map_eq_some_iff.1 infoInt0
  simp only [Prod.mk.injEq] at h2
  simp [zeroValue, typeInfo, Sem.run_bind, h1, h2.1]
set_option maxHeartbeats 8000000 in
set_option maxRecDepth 100000 in
theorem find_in {w : World} {T : Nat → Prop} {g : Nat} {room : Nat} {ts : List Kn} (h : Ca w T g room ts) (fs : Nat → List Sm) (hf : ∀ i, i < ts.length → CaS.Told w T (ts.getD i default) (ts.getD i default).bin (fs i)) (s : Sm) (hs : OkSum s) (hn : ts.length ≤ 900) (hT : ∀ k, T k → k < w.heap.size) (hTg : T g) :
    CallsIn Fence.wide 3 Try.prog 12 #[.pointer (some ⟨g, 0, none⟩), sumV s] w fun e w' =>
      (findD fs s ts.length = none ∧ e = .returned (.tuple #[.int .i64 0, .int .i64 0, .bool false]) ∧ w.grownBy w' none) ∨
      (∃ i j : Nat, findD fs s ts.length = some (i, j) ∧ e = .returned (.tuple #[.int .i64 (ts.getD i default).bin, .int .i64 (j : Int), .bool true]) ∧ Ca w' T g room (ts.take i ++ ts.drop (i + 1) ++ [ts.getD i default]) ∧ w.grownBy w' (some g)) := by
  obtain ⟨A, c, hg, hC, hc, hA⟩ := h
  have hgl := (Array.getElem?_eq_some_iff.1 hg).1
  have a1 := obj_cell hg 1 (v := .slice A ts.length c) rfl
  have HG := Aside0.mk hg
  have HC := Aside0.mk hC
  have HA := Aside0.mk hA
  have HF := Aside0.mk hf
  have hal : Below w.heap.size w ((((((w.alloc (.cells #[.pointer (some ⟨g, 0, none⟩)] 22)).alloc (.cells (nums .u8 s).toArray 35)).alloc (.cells #[.int .i64 0] 3)).alloc (.cells #[.int .i64 0] 3)).alloc (.cells #[.bool false] 4))) := below_alloc (below_alloc (below_alloc (below_alloc (below_alloc (Below.refl w.heap.size w) _) _) _) _) _
  have a1w := (hal.cell (p := ⟨g, 1, none⟩) hgl).trans a1
  unfold sumV
  clear hg hC hA hf
  refine callsIn_of_wp_marks Try.func12 rfl trivial ?_ rfl
  simp only [Try.ntmps12, List.size_toArray, List.length_cons, List.length_nil, Nat.reduceAdd, Nat.reduceSub, Array.replicate_succ, Array.replicate_zero, List.push_toArray, List.append_toArray, List.nil_append, List.cons_append]
  refine wpIn_wide.2 ?_
  go_wp2_with (go_at_call 24; (with_reducible refine (backK_calls _ _ _ _).mono ?_); rintro e w' ⟨rfl, rfl⟩)
  have HWB : Aside0 (Below w.heap.size w ((((((w.alloc (.cells #[.pointer (some ⟨g, 0, none⟩)] 22)).alloc (.cells (nums .u8 s).toArray 35)).alloc (.cells #[.int .i64 0] 3)).alloc (.cells #[.int .i64 0] 3)).alloc (.cells #[.bool false] 4)).alloc (.cells #[.slice A ts.length c] 57))) := ⟨below_alloc hal _⟩
  have hws : ((((((w.alloc (.cells #[.pointer (some ⟨g, 0, none⟩)] 22)).alloc (.cells (nums .u8 s).toArray 35)).alloc (.cells #[.int .i64 0] 3)).alloc (.cells #[.int .i64 0] 3)).alloc (.cells #[.bool false] 4)).alloc (.cells #[.slice A ts.length c] 57)).heap.size = w.heap.size + 6 := by simp
  have HB0 : Aside0 (((((((w.alloc (.cells #[.pointer (some ⟨g, 0, none⟩)] 22)).alloc (.cells (nums .u8 s).toArray 35)).alloc (.cells #[.int .i64 0] 3)).alloc (.cells #[.int .i64 0] 3)).alloc (.cells #[.bool false] 4)).alloc (.cells #[.slice A ts.length c] 57)).heap[w.heap.size]? = some (.cells #[.pointer (some ⟨g, 0, none⟩)] 22 (0, 0))) := ⟨(old_al (old_al (old_al (old_al (old_al (new_at _ _ _ (by simp)))))))⟩
  have HB1 : Aside0 (((((((w.alloc (.cells #[.pointer (some ⟨g, 0, none⟩)] 22)).alloc (.cells (nums .u8 s).toArray 35)).alloc (.cells #[.int .i64 0] 3)).alloc (.cells #[.int .i64 0] 3)).alloc (.cells #[.bool false] 4)).alloc (.cells #[.slice A ts.length c] 57)).heap[w.heap.size + 1]? = some (.cells (nums .u8 s).toArray 35 (0, 0))) := ⟨(old_al (old_al (old_al (old_al (new_at _ _ _ (by simp))))))⟩
  have HB2 : Aside0 (((((((w.alloc (.cells #[.pointer (some ⟨g, 0, none⟩)] 22)).alloc (.cells (nums .u8 s).toArray 35)).alloc (.cells #[.int .i64 0] 3)).alloc (.cells #[.int .i64 0] 3)).alloc (.cells #[.bool false] 4)).alloc (.cells #[.slice A ts.length c] 57)).heap[w.heap.size + 1 + 1]? = some (.cells #[.int .i64 0] 3 (0, 0))) := ⟨(old_al (old_al (old_al (new_at _ _ _ (by simp)))))⟩
  have HB3 : Aside0 (((((((w.alloc (.cells #[.pointer (some ⟨g, 0, none⟩)] 22)).alloc (.cells (nums .u8 s).toArray 35)).alloc (.cells #[.int .i64 0] 3)).alloc (.cells #[.int .i64 0] 3)).alloc (.cells #[.bool false] 4)).alloc (.cells #[.slice A ts.length c] 57)).heap[w.heap.size + 1 + 1 + 1]? = some (.cells #[.int .i64 0] 3 (0, 0))) := ⟨(old_al (old_al (new_at _ _ _ (by simp))))⟩
  have HB4 : Aside0 (((((((w.alloc (.cells #[.pointer (some ⟨g, 0, none⟩)] 22)).alloc (.cells (nums .u8 s).toArray 35)).alloc (.cells #[.int .i64 0] 3)).alloc (.cells #[.int .i64 0] 3)).alloc (.cells #[.bool false] 4)).alloc (.cells #[.slice A ts.length c] 57)).heap[w.heap.size + 1 + 1 + 1 + 1]? = some (.cells #[.bool false] 4 (0, 0))) := ⟨(old_al (new_at _ _ _ (by simp)))⟩
  have HBX : Aside0 (((((((w.alloc (.cells #[.pointer (some ⟨g, 0, none⟩)] 22)).alloc (.cells (nums .u8 s).toArray 35)).alloc (.cells #[.int .i64 0] 3)).alloc (.cells #[.int .i64 0] 3)).alloc (.cells #[.bool false] 4)).alloc (.cells #[.slice A ts.length c] 57)).heap[w.heap.size + 1 + 1 + 1 + 1 + 1]? = some (.cells #[.slice A ts.length c] 57 (0, 0))) := ⟨(new_at _ _ _ (by simp))⟩
  clear hal a1w
  generalize ((((((w.alloc (.cells #[.pointer (some ⟨g, 0, none⟩)] 22)).alloc (.cells (nums .u8 s).toArray 35)).alloc (.cells #[.int .i64 0] 3)).alloc (.cells #[.int .i64 0] 3)).alloc (.cells #[.bool false] 4)).alloc (.cells #[.slice A ts.length c] 57)) = wr at *
  refine (wpIn_wide (n := 3)).1 ?_
  refine wpIn_rangeFunc_ownH rfl (by decide) (gf := 34) (lb := #[.pointer (some ⟨w.heap.size + 1 + 1 + 1 + 1 + 1, 0, none⟩)]) rfl trivial (enters_of Try.func34 (by kernel_rfl) rfl)
    (backK_stops (3 - 1) (by decide) (w.heap.size + 1 + 1 + 1 + 1 + 1) A c ts (fun k => k = w.heap.size + 1 + 1 + 1 + 1 + 1 ∨ ∃ a, A = some a ∧ k = a.block) wr (.inl rfl) (fun a ha => .inr ⟨a, ha, rfl⟩) (by omega) (fun a ha => by have := (HA.out a ha).1; omega) (obj_cell HBX.out 0 rfl) (Kd.C_below HC.out HWB.out))
    keepR_t (keepR_b (fun k hk => by rcases hk with rfl | ⟨a, ha, rfl⟩; (· omega); (· have := (HA.out a ha).1; omega))) (Below.refl _ _) (fun _ => rfl) (FindI wr s fs) (FindX w T g room ts fs s (w.heap.size + 1 + 1)) (findI_own _ _ _) (fun cc => findX_own _ _ _ _ _ _ _ _ cc _ (by omega)) ⟨World.grownBy.refl _ _, fun _ h => (by cases h)⟩
    (fun x a' W => ∃ p : Nat, W.heap[p]? = some (.cells #[.int .i64 ts[x.1].bin, .slice ts[x.1].sa ts[x.1].sn ts[x.1].sc, .map (some ts[x.1].m)] 68 (0, 0)) ∧ a' = { tmps := #[.pointer (some ⟨g, 0, none⟩), .agg (nums .u8 s).toArray, .pointer (some ⟨w.heap.size, 0, none⟩), .pointer (some ⟨w.heap.size + 1, 0, none⟩), .pointer (some ⟨w.heap.size + 1 + 1, 0, none⟩), .pointer (some ⟨w.heap.size + 1 + 1 + 1, 0, none⟩), .pointer (some ⟨w.heap.size + 1 + 1 + 1 + 1, 0, none⟩), .int .i64 (x.1 : Int), .pointer (some ⟨p, 0, none⟩), undef, undef, .pointer (some ⟨g, 0, none⟩), .bool false, .pointer (some ⟨g, 0, none⟩), .pointer (some ⟨g, 0, none⟩), .pointer (some ⟨g, 1, none⟩), .slice A ts.length c, .func (.func 34) #[] #[.pointer (some ⟨w.heap.size + 1 + 1 + 1 + 1 + 1, 0, none⟩)], .int .i64 (x.1 : Int), .agg #[.int .i64 ts[x.1].bin, .slice ts[x.1].sa ts[x.1].sn ts[x.1].sc, .map (some ts[x.1].m)], undef, undef, undef, undef, undef, undef, undef, undef, undef, undef, undef, undef, undef, undef, undef, undef, undef, undef, undef, undef, undef, undef, undef, undef, undef, undef, undef, undef, undef, undef, undef, undef, undef, undef, undef, undef, undef, undef, undef], defers := [] }) ?ax ?assign ?body ?done ?stop
  case ax =>
    intro x a' _ W W' row hI hg hr
    obtain ⟨p, hp, rfl⟩ := hI
    refine ⟨p, (hg.block p (Array.getElem?_eq_some_iff.1 hp).1 (fun e => ?_)).trans hp, rfl⟩
    obtain ⟨_, o, ho, hc⟩ := hr p e.symm
    rw [hp] at ho
    cases ho
    cases hc
  case assign =>
    intro l pre x W K hI hK
    have HK := Aside0.mk (hK _ (W.alloc (.cells #[.int .i64 ts[x.1].bin, .slice ts[x.1].sa ts[x.1].sn ts[x.1].sc, .map (some ts[x.1].m)] 68)) (KeepsOthers.from (KeepsOthers.alloc W _) _) (keepR_below (below_alloc (Below.refl _ _) _)) (findI_own wr s fs pre W _ none hI (World.grownBy_alloc _ _ none) (fun r e => by cases e)) ⟨W.heap.size, heap_alloc_new _ _, rfl⟩)
    clear hI hK
    simp only [encK] at HK ⊢
    gi_wp2
    exact HK.out
  case body =>
    intro l pre x a' W hlw hlr hI hAx hlt
    obtain ⟨p, hp, rfl⟩ := hAx
    have hget : ts.getD x.1 default = ts[x.1] := by simp [x.2]
    have htold := HF.out x.1 x.2
    rw [hget] at htold
    have hgr : w.grownBy W none := grown_row (grown_below HWB.out) hI.1 (fun r e => by cases e)
    have htold2 := htold.move hgr.size (fun q hq _ => hgr.block q hq (fun e => by cases e))
    obtain ⟨nm, hm⟩ := htold2.map
    obtain ⟨lk, hkey⟩ := key_sm s hs
    have hla := slot_at (fs x.1) 0 s
    have c0 := obj_cell (v := .map (some ts[x.1].m)) hp 2 rfl
    have c1 := obj_cell (v := .int .i64 ts[x.1].bin) hp 0 rfl
    have hb1 := (hI.1.block _ (Array.getElem?_eq_some_iff.1 HB1.out).1 (fun e => by cases e)).trans HB1.out
    have hb0 := (hI.1.block _ (Array.getElem?_eq_some_iff.1 HB0.out).1 (fun e => by cases e)).trans HB0.out
    have b0 := obj_cell (v := .pointer (some ⟨g, 0, none⟩)) hb0 0 rfl
    have HRA := Aside0.mk (show Hd.RangeA W ⟨w.heap.size + 1, 0, none⟩ (nums .u8 s) from fun j v hj => by
      rw [addr0]
      exact obj_cell hb1 j (by rw [List.getElem?_toArray]; exact hj))
    have HIS := Aside0.mk (infoSmS s hs)
    have HUS := Aside0.mk Try.underlying35
    have HI := Aside0.mk hI
    have HM := Aside0.mk hm
    have HKEY := Aside0.mk hkey
    have HGW := Aside0.mk hgr
    have HP := Aside0.mk hp
    have hwW := hgr.size
    unfold sumV at HKEY
    clear hI hp hb1 hb0 hm hkey htold htold2 hgr
    generalize hN : nums .u8 s = N at *
    cases hfa : firstAt (fs x.1) s 0 with
    | none =>
      rw [hfa] at hla
      unfold sumV at hla
      rw [hN] at hla
      have HLA := Aside0.mk hla
      clear hla
      gi_wp2_with (first
        | ((with_reducible refine gateIn (.load 35 (.tmp 3)) rfl ?_); refine listIn_plain rfl (by intro c h; cases h) (fun KK hKK => ?_); refine Hd.wpList_load_any rfl _ (.tmp 3) rfl _ rfl N _ HRA.out HUS.out rfl HIS.out ?_; refine wpList_nil (hKK _ _ ?_))
        | ((with_reducible refine gateIn (.lookup 66 (.tmp 22) (.tmp 23) true) rfl ?_); refine listIn_plain rfl (by intro c h; cases h) (fun KK hKK => ?_); refine Mp.wpList_look_none rfl keyed_sm _ 3 Try.underlying66 zeroInt (.tmp 22) (.tmp 23) ts[x.1].m rfl rfl HM.out rfl HKEY.out HLA.out ?_; refine wpList_nil (hKK _ _ ?_)))
      exact ⟨KeepsFrom.refl _ _, ⟨Nat.le_refl _, fun _ _ _ => rfl⟩, ⟨HI.out.1, fun y hy => by
        rcases List.mem_append.1 hy with hy | hy
        · exact HI.out.2 y hy
        · rw [List.mem_singleton.1 hy]; exact hfa⟩⟩
    | some j =>
      rw [hfa] at hla
      unfold sumV at hla
      rw [hN] at hla
      have HLA := Aside0.mk hla
      have hCW := Kd.C_below HC.out HWB.out
      have hCW2 : dKn.C W A ts.length ts := C_same hCW (fun a ha => HI.out.1.block _ (by have := (HA.out a ha).1; have := HWB.out.size; omega) (fun e => by cases e))
      have hgW : W.heap[g]? = some (.cells #[.int .i64 (room : Int), .slice A ts.length c] 59 (0, 0)) := (HGW.out.block g hgl (fun e => by cases e)).trans HG.out
      have g1 := obj_cell hgW 1 (v := .slice A ts.length c) rfl
      have HCW := Aside0.mk hCW2
      have HCA : Aside0 (Ca W T g room ts) := ⟨⟨A, c, hgW, hCW2, hc, fun a ha => ⟨Nat.lt_of_lt_of_le (HA.out a ha).1 hwW, (HA.out a ha).2⟩⟩⟩
      have hi := x.2
      obtain ⟨ad, rfl, q0, q1, q2⟩ := kn_at hCW2 x.1 x.2
      have hki : ts.getD x.1 default = ts[x.1] := hget
      have hp1 : (0 : Int) ≤ (x.1 : Int) := by omega
      have hp2 : (x.1 : Int) < (ts.length : Int) := by omega
      have HCLN := Aside0.mk (fun (X : World) (hX : Below W.heap.size W X) => cloneKn (some ad) ts.length c ts X (Kd.C_below HCW.out hX) (by omega))
      have HGWB := Aside0.mk hgW
      have hbW0 : w.heap.size < W.heap.size := World.block_lt_of_cell? _ _ b0
      have hadW := World.block_lt_of_cell? _ _ q0
      rw [hki] at q0 q1 q2
      have HFD : Aside0 (firstAt (fs x.1) s 0 = some j) := ⟨hfa⟩
      clear hla hCW hCW2 hgW hfa
      generalize hk : ts[x.1] = k at *
      have HK1 := Aside0.mk hk
      obtain ⟨kb, ka, kn, kc, km⟩ := k
      simp only at q0 q1 q2 c0 c1 HP HM
      have hgW1 : g < W.heap.size := Nat.lt_of_lt_of_le hgl hwW
      have HSB := Aside0.mk (fun (X : World) (hX : Below W.heap.size W X) => (show X.cell? ⟨w.heap.size, 0, none⟩ = some (.pointer (some ⟨g, 0, none⟩)) ∧ X.cell? ⟨g, 1, none⟩ = some (.slice (some ad) ts.length c) ∧ X.cell? (ad.add (x.1 * 3)) = some (.int .i64 kb) ∧ X.cell? ⟨(ad.add (x.1 * 3)).block, (ad.add (x.1 * 3)).off + 1, none⟩ = some (.slice ka kn kc) ∧ X.cell? ⟨(ad.add (x.1 * 3)).block, (ad.add (x.1 * 3)).off + 2, none⟩ = some (.map (some km)) from ⟨(hX.cell (p := ⟨w.heap.size, 0, none⟩) hbW0).trans b0, (hX.cell (p := ⟨g, 1, none⟩) hgW1).trans g1, (hX.cell hadW).trans q0, (hX.cell (p := ⟨(ad.add (x.1 * 3)).block, (ad.add (x.1 * 3)).off + 1, none⟩) hadW).trans q1, (hX.cell (p := ⟨(ad.add (x.1 * 3)).block, (ad.add (x.1 * 3)).off + 2, none⟩) hadW).trans q2⟩))
      clear hk hget hki
      gi_wp2_with (first
        | ((with_reducible refine gateIn (.load 35 (.tmp 3)) rfl ?_); refine listIn_plain rfl (by intro c h; cases h) (fun KK hKK => ?_); refine Hd.wpList_load_any rfl _ (.tmp 3) rfl _ rfl N _ HRA.out HUS.out rfl HIS.out ?_; refine wpList_nil (hKK _ _ ?_))
        | ((with_reducible refine gateIn (.lookup 66 (.tmp 22) (.tmp 23) true) rfl ?_); refine listIn_plain rfl (by intro c h; cases h) (fun KK hKK => ?_); refine Mp.wpList_look_some rfl keyed_sm _ 3 Try.underlying66 zeroInt (.tmp 22) (.tmp 23) km rfl rfl HM.out rfl HKEY.out HLA.out ?_; refine wpList_nil (hKK _ _ ?_)))
      rename_i K1 hK1
      have REST : Aside0 (∀ (v33 v41 v42 : Value) (g2 c6 : Nat) (cur : Array Value) (e : TypeId) (W7 : World), W7.heap[g]? = some (.cells #[.int .i64 (room : Int), .slice (some ⟨g2, 0, none⟩) (ts.length + 1) c6] 59 (0, 0)) → dKn.C W7 (some ⟨g2, 0, none⟩) (ts.length + 1) (ts ++ [⟨kb, ka, kn, kc, km⟩]) → W7.heap[g2]? = some (.cells cur e (0, 0)) → ts.length + 1 ≤ c6 → c6 ≤ 9223372036854775807 → W.heap.size ≤ g2 → W.grownBy W7 (some g) → K1 { tmps := #[.pointer (some ⟨g, 0, none⟩), .agg N.toArray, .pointer (some ⟨w.heap.size, 0, none⟩), .pointer (some ⟨w.heap.size + 1, 0, none⟩), .pointer (some ⟨w.heap.size + 1 + 1, 0, none⟩), .pointer (some ⟨w.heap.size + 1 + 1 + 1, 0, none⟩), .pointer (some ⟨w.heap.size + 1 + 1 + 1 + 1, 0, none⟩), .int .i64 (x.1 : Int), .pointer (some ⟨p, 0, none⟩), .int .i64 (j : Int), .bool true, .pointer (some ⟨g, 0, none⟩), .bool false, .pointer (some ⟨g, 0, none⟩), .pointer (some ⟨g, 0, none⟩), .pointer (some ⟨g, 1, none⟩), .slice (some ad) ts.length c, .func (.func 34) #[] #[.pointer (some ⟨w.heap.size + 1 + 1 + 1 + 1 + 1, 0, none⟩)], .int .i64 (x.1 : Int), .agg #[.int .i64 kb, .slice ka kn kc, .map (some km)], .tuple #[.int .i64 (j : Int), .bool true], .pointer (some ⟨p, 2, none⟩), .map (some km), .agg N.toArray, .tuple #[.int .i64 (j : Int), .bool true], .int .i64 (j : Int), .bool true, .bool true, .pointer (some ⟨g, 0, none⟩), .pointer (some ⟨g, 0, none⟩), .pointer (some ⟨g, 0, none⟩), .pointer (some ⟨g, 1, none⟩), .slice (some ad) ts.length c, v33, .pointer (some ⟨g, 0, none⟩), .pointer (some ⟨g, 0, none⟩), .pointer (some ⟨g, 1, none⟩), .slice (some ad) ts.length c, .int .i64 (x.1 : Int), .pointer (some (ad.add (x.1 * 3))), .agg #[.int .i64 kb, .slice ka kn kc, .map (some km)], v41, v42, .pointer (some ⟨g, 0, none⟩), .pointer (some ⟨g, 1, none⟩), undef, undef, undef, undef, undef, undef, undef, undef, undef, undef, undef, undef, undef, undef], defers := [] } W7) := ⟨by
        intro v33 v41 v42 g2 c6 cur e W7 hg7 hC7 hcur hlc hcm hg2 hgr7
        refine hK1 _ _ ?_
        clear hK1
        have hdel := del_calls (show dKn.C W7.drew (some ⟨g2, 0, none⟩) (ts.length + 1) (ts ++ [⟨kb, ka, kn, kc, km⟩]) from C_same hC7 (fun _ _ => rfl)) (show W7.drew.heap[g2]? = some (.cells cur e (0, 0)) from hcur) (show x.1 < ts.length + 1 by omega) hlc hcm
        have HDEL := Aside0.mk hdel
        have hwx : IntKind.i64.wrap ((x.1 : Int) + 1) = (x.1 : Int) + 1 := by rw [IntKind.wrap_i64]; omega
        have k1 := obj_cell hg7 1 (v := .slice (some ⟨g2, 0, none⟩) (ts.length + 1) c6) rfl
        have k0 := (show W7.cell? ⟨w.heap.size, 0, none⟩ = some (.pointer (some ⟨g, 0, none⟩)) from by
          rw [← b0]
          unfold World.cell?
          rw [hgr7.block w.heap.size hbW0 (fun e => by injection e with e; omega)])
        have HG7 := Aside0.mk hg7
        have HGR7 := Aside0.mk hgr7
        clear hg7 hC7 hcur hdel hgr7
        gi_wp2_with fail
        rename_i K2 hK2
        (refine Hd.startI (S := (fun X => X.cell? ⟨w.heap.size, 0, none⟩ = some (.pointer (some ⟨g, 0, none⟩)) ∧ X.cell? ⟨g, 1, none⟩ = some (.slice (some ⟨g2, 0, none⟩) (ts.length + 1) c6))) 11 (by kernel_rfl) (by kernel_rfl) (⟨k0, k1⟩) (fun hHeld => ?_))
        (refine Hd.takeE (i := 0) (v := ?_) rfl rfl (by kernel_rfl) (by kernel_rfl) (by kernel_rfl) (by kernel_rfl) (fun _ _ _ h => h) (Or.inl ⟨by rfl, ?_⟩) (by assumption) ?_; rotate_left; (focus (intro wS hS; (try go_split_ands); go_simp; all_goals (with_reducible rfl))); simp only [List.set_cons_zero, List.set_cons_succ, List.setIfInBounds_toArray]); (refine Hd.takeE (i := 1) (v := ?_) rfl rfl (by kernel_rfl) (by kernel_rfl) (by kernel_rfl) (by kernel_rfl) (fun _ _ _ h => h) (Or.inl ⟨by rfl, ?_⟩) (by assumption) ?_; rotate_left; (focus (intro wS hS; (try go_split_ands); go_simp; all_goals (with_reducible rfl))); simp only [List.set_cons_zero, List.set_cons_succ, List.setIfInBounds_toArray]); (refine Hd.takeE (i := 2) (v := ?_) rfl rfl (by kernel_rfl) (by kernel_rfl) (by kernel_rfl) (by kernel_rfl) (fun _ _ _ h => h) (Or.inl ⟨by rfl, ?_⟩) (by assumption) ?_; rotate_left; (focus (intro wS hS; (try go_split_ands); go_simp; all_goals (with_reducible rfl))); simp only [List.set_cons_zero, List.set_cons_succ, List.setIfInBounds_toArray]); (refine Hd.takeE (i := 3) (v := ?_) rfl rfl (by kernel_rfl) (by kernel_rfl) (by kernel_rfl) (by kernel_rfl) (fun _ _ _ h => h) (Or.inl ⟨by rfl, ?_⟩) (by assumption) ?_; rotate_left; (focus (intro wS hS; (try go_split_ands); go_simp; all_goals (with_reducible rfl))); simp only [List.set_cons_zero, List.set_cons_succ, List.setIfInBounds_toArray]); (refine Hd.takeE (i := 4) (v := ?_) rfl rfl (by kernel_rfl) (by kernel_rfl) (by kernel_rfl) (by kernel_rfl) (fun _ _ _ h => h) (Or.inl ⟨by rfl, ?_⟩) (by assumption) ?_; rotate_left; (focus (intro wS hS; (try go_split_ands); go_simp; all_goals (with_reducible rfl))); simp only [List.set_cons_zero, List.set_cons_succ, List.setIfInBounds_toArray]); (refine Hd.takeE (i := 5) (v := ?_) rfl rfl (by kernel_rfl) (by kernel_rfl) (by kernel_rfl) (by kernel_rfl) (fun _ _ _ h => h) (Or.inl ⟨by rfl, ?_⟩) (by assumption) ?_; rotate_left; (focus (intro wS hS; (try go_split_ands); go_simp; all_goals (with_reducible rfl))); simp only [List.set_cons_zero, List.set_cons_succ, List.setIfInBounds_toArray]); (refine Hd.takeE (i := 6) (v := ?_) rfl rfl (by kernel_rfl) (by kernel_rfl) (by kernel_rfl) (by kernel_rfl) (fun _ _ _ h => h) (Or.inl ⟨by rfl, ?_⟩) (by assumption) ?_; rotate_left; (focus (intro wS hS; (try go_split_ands); go_simp; all_goals (with_reducible rfl))); simp only [List.set_cons_zero, List.set_cons_succ, List.setIfInBounds_toArray]); (refine Hd.takeE (i := 7) (v := ?_) rfl rfl (by kernel_rfl) (by kernel_rfl) (by kernel_rfl) (by kernel_rfl) (fun _ _ _ h => h) (Or.inl ⟨by rfl, ?_⟩) (by assumption) ?_; rotate_left; (focus (intro wS hS; (try go_split_ands); go_simp; all_goals (with_reducible rfl))); simp only [List.set_cons_zero, List.set_cons_succ, List.setIfInBounds_toArray])
        (refine Hd.readyE (rs := [8]) (by kernel_rfl) (by simp) ?_; refine Hd.AllE.cons (i := 8) rfl (fun K hK => ?_) Hd.AllE.nil; (go_simp; refine HDEL.out.mono ?_; rintro e w8 ⟨rfl, hC8, hg8⟩; have S8 : w8.cell? ⟨w.heap.size, 0, none⟩ = some (.pointer (some ⟨g, 0, none⟩)) ∧ w8.cell? ⟨g, 1, none⟩ = some (.slice (some ⟨g2, 0, none⟩) (ts.length + 1) c6) := ⟨by rw [← k0]; unfold World.cell?; rw [hg8.block w.heap.size (Nat.lt_of_lt_of_le hbW0 HGR7.out.size) (fun e => by injection e with e; omega)]; rfl, by rw [← k1]; unfold World.cell?; rw [hg8.block g (Nat.lt_of_lt_of_le hgW1 HGR7.out.size) (fun e => by injection e with e; omega)]; rfl⟩); refine hK.out _ _ (S8) (fun hHeld => ?_); clear hK K; (try simp only [Act.put, List.setIfInBounds_toArray, List.set_cons_zero, List.set_cons_succ]))
        (refine Hd.readyE (rs := [9]) (by kernel_rfl) (by simp) ?_; refine Hd.AllE.cons (i := 9) rfl (fun K hK => ?_) Hd.AllE.nil; go_simp; refine hK.out _ _ (S8) (fun hHeld => ?_); clear hK K; (try simp only [Act.put, List.setIfInBounds_toArray, List.set_cons_zero, List.set_cons_succ]))
        (refine Hd.readyE (rs := [10]) (by kernel_rfl) (by simp) ?_; refine Hd.AllE.cons (i := 10) rfl (fun K hK => ?_) Hd.AllE.nil; go_simp; refine hK.out _ _ (S8) (fun hHeld => ?_); clear hK K; (try simp only [Act.put, List.setIfInBounds_toArray, List.set_cons_zero, List.set_cons_succ]))
        have hgg8 : w8.heap[g]? = some (.cells #[.int .i64 (room : Int), .slice (some ⟨g2, 0, none⟩) (ts.length + 1) c6] 59 (0, 0)) := (hg8.block g (Nat.lt_of_lt_of_le hgW1 HGR7.out.size) (fun e => by injection e with e; omega)).trans HG7.out
        have hff8 := obj_free hgg8 1
        have hcc8 := S8.2
        (refine Hd.readyE (rs := [11]) (by kernel_rfl) (by simp) ?_; refine Hd.AllE.last (i := 11) rfl (fun K hK => ?_); go_simp; refine hK.out _ _ ?_; clear hK K; (try simp only [Act.put, List.setIfInBounds_toArray, List.set_cons_zero, List.set_cons_succ]))
        (refine Hd.endE (by kernel_rfl) ?_ _)
        have hne2 : g2 ≠ g := by omega
        have hg2l : g2 < w8.heap.size := by
          have h1 := HG7.out
          have h2 := hg8.size
          obtain ⟨ad2, e2, hcc⟩ := hC8.2.2 (by omega)
          injection e2 with e2
          subst e2
          obtain ⟨cs, e1, ⟨_, e2⟩, e3⟩ := hcc 0 _ (List.getElem?_eq_getElem (by have := hC8.1; omega))
          subst e2
          exact World.block_lt_of_cell? _ _ (e3 0 _ rfl)
        have hs9 : ∀ k, k < W.heap.size → k ≠ g → (w8.setCell ⟨g, 1, none⟩ (.slice (some ⟨g2, 0, none⟩) ts.length c6)).heap[k]? = W.heap[k]? := fun k hk hkg => (Below.heap_setCell _ _ _ _ hkg).trans ((hg8.block k (Nat.lt_of_lt_of_le hk HGR7.out.size) (fun e => by injection e with e; omega)).trans (HGR7.out.block k hk (fun e => by injection e with e; omega)))
        have hz9 : W.heap.size ≤ (w8.setCell ⟨g, 1, none⟩ (.slice (some ⟨g2, 0, none⟩) ts.length c6)).heap.size := by
          have h1 := HGR7.out.size
          have h2 := hg8.size
          have h3 : W7.drew.heap.size = W7.heap.size := rfl
          simp [World.setCell]
          omega
        have hgg9 := obj_set hgg8 1 (.slice (some ⟨g2, 0, none⟩) ts.length c6)
        have hC9 : dKn.C (w8.setCell ⟨g, 1, none⟩ (.slice (some ⟨g2, 0, none⟩) ts.length c6)) (some ⟨g2, 0, none⟩) ts.length ((ts ++ [(⟨kb, ka, kn, kc, km⟩ : Kn)]).take x.1 ++ (ts ++ [(⟨kb, ka, kn, kc, km⟩ : Kn)]).drop (x.1 + 1)) := C_same hC8 (fun a ha => by
          injection ha with ha
          subst ha
          exact Below.heap_setCell _ _ _ _ hne2)
        have hl9 : g2 < (w8.setCell ⟨g, 1, none⟩ (.slice (some ⟨g2, 0, none⟩) ts.length c6)).heap.size := by simpa [World.setCell] using hg2l
        have hgr9 : w.grownBy (w8.setCell ⟨g, 1, none⟩ (.slice (some ⟨g2, 0, none⟩) ts.length c6)) (some g) :=
          ⟨hg8.os.trans (HGR7.out.os.trans HGW.out.os), hg8.tape.trans (HGR7.out.tape.trans HGW.out.tape), hg8.output.trans (HGR7.out.output.trans HGW.out.output), by omega, fun k hk hne => (hs9 k (by omega) (fun e => hne (by rw [e]))).trans (HGW.out.block k hk (fun e => by cases e))⟩
        clear hC8 hg8 S8 hgg8 hff8 hcc8 k0 k1 HDEL HSB HCLN hg2l
        generalize w8.setCell ⟨g, 1, none⟩ (.slice (some ⟨g2, 0, none⟩) ts.length c6) = W9 at *
        have hwr := HI.out.1
        have hwrz := hwr.size
        have hn2 : W9.heap[w.heap.size + 1 + 1]? = some (.cells #[.int .i64 0] 3 (0, 0)) := (hs9 _ (by omega) (by omega)).trans ((hwr.block _ (by omega) (fun e => by cases e)).trans HB2.out)
        have hn3 : W9.heap[w.heap.size + 1 + 1 + 1]? = some (.cells #[.int .i64 0] 3 (0, 0)) := (hs9 _ (by omega) (by omega)).trans ((hwr.block _ (by omega) (fun e => by cases e)).trans HB3.out)
        have hn4 : W9.heap[w.heap.size + 1 + 1 + 1 + 1]? = some (.cells #[.bool false] 4 (0, 0)) := (hs9 _ (by omega) (by omega)).trans ((hwr.block _ (by omega) (fun e => by cases e)).trans HB4.out)
        have hpp : W9.heap[p]? = some (.cells #[.int .i64 kb, .slice ka kn kc, .map (some km)] 68 (0, 0)) := by
          refine (hs9 p (Array.getElem?_eq_some_iff.1 HP.out).1 (fun e => ?_)).trans HP.out
          subst e
          have h1 := HGWB.out
          rw [HP.out] at h1
          simp at h1
        have r0 := obj_cell (v := .int .i64 kb) hpp 0 rfl
        have s2 := obj_cell (v := .int .i64 0) hn2 0 rfl
        have f2 := obj_free hn2 0
        have hn3b : (W9.setCell ⟨w.heap.size + 1 + 1, 0, none⟩ (.int .i64 kb)).heap[w.heap.size + 1 + 1 + 1]? = some (.cells #[.int .i64 0] 3 (0, 0)) := (Below.heap_setCell _ _ _ _ (by show w.heap.size + 1 + 1 + 1 ≠ w.heap.size + 1 + 1; omega)).trans hn3
        have s3 := obj_cell (v := .int .i64 0) hn3b 0 rfl
        have f3 := obj_free hn3b 0
        have hn4b : ((W9.setCell ⟨w.heap.size + 1 + 1, 0, none⟩ (.int .i64 kb)).setCell ⟨w.heap.size + 1 + 1 + 1, 0, none⟩ (.int .i64 (j : Int))).heap[w.heap.size + 1 + 1 + 1 + 1]? = some (.cells #[.bool false] 4 (0, 0)) := (Below.heap_setCell _ _ _ _ (by show w.heap.size + 1 + 1 + 1 + 1 ≠ w.heap.size + 1 + 1 + 1; omega)).trans ((Below.heap_setCell _ _ _ _ (by show w.heap.size + 1 + 1 + 1 + 1 ≠ w.heap.size + 1 + 1; omega)).trans hn4)
        have s4 := obj_cell (v := .bool false) hn4b 0 rfl
        have f4 := obj_free hn4b 0
        have HN2 := Aside0.mk hn2
        have HN3 := Aside0.mk hn3b
        have HN4 := Aside0.mk hn4b
        have HC9 := Aside0.mk hC9
        have HS9 := Aside0.mk hs9
        have HGR9 := Aside0.mk hgr9
        have HGG9 := Aside0.mk hgg9
        clear hn2 hn3 hn3b hn4 hn4b hC9 hs9 hgr9 hgg9 hwr hpp
        refine hK2 _ _ ?_
        gi_wp2
        have HN4b := obj_set HN4.out 0 (.bool true)
        have HN3b := obj_set HN3.out 0 (.int .i64 (j : Int))
        have HN2b := obj_set HN2.out 0 (.int .i64 kb)
        have hz12 : ∀ u2 u3 u4 : Value, ((((W9.setCell ⟨w.heap.size + 1 + 1, 0, none⟩ u2).setCell ⟨w.heap.size + 1 + 1 + 1, 0, none⟩ u3).setCell ⟨w.heap.size + 1 + 1 + 1 + 1, 0, none⟩ u4)).heap.size = W9.heap.size := fun _ _ _ => by simp [World.setCell]
        have hs12 : ∀ (u2 u3 u4 : Value) (k : Nat), k ≠ w.heap.size + 1 + 1 → k ≠ w.heap.size + 1 + 1 + 1 → k ≠ w.heap.size + 1 + 1 + 1 + 1 → ((((W9.setCell ⟨w.heap.size + 1 + 1, 0, none⟩ u2).setCell ⟨w.heap.size + 1 + 1 + 1, 0, none⟩ u3).setCell ⟨w.heap.size + 1 + 1 + 1 + 1, 0, none⟩ u4)).heap[k]? = W9.heap[k]? := fun u2 u3 u4 k e2 e3 e4 => (Below.heap_setCell _ _ _ _ e4).trans ((Below.heap_setCell _ _ _ _ e3).trans (Below.heap_setCell _ _ _ _ e2))
        have hgx : ts.getD x.1 default = ⟨kb, ka, kn, kc, km⟩ := by rw [← HK1.out]; simp [x.2]
        have hll : (ts.take x.1 ++ ts.drop (x.1 + 1) ++ [ts.getD x.1 default]).length = ts.length := by
          rw [List.length_append, List.length_append, List.length_take, List.length_drop]
          simp only [List.length_singleton]
          omega
        have hle : ((ts ++ [(⟨kb, ka, kn, kc, km⟩ : Kn)]).take x.1 ++ (ts ++ [(⟨kb, ka, kn, kc, km⟩ : Kn)]).drop (x.1 + 1)) = ts.take x.1 ++ ts.drop (x.1 + 1) ++ [ts.getD x.1 default] := by
          rw [List.take_append_of_le_length (by omega), List.drop_append_of_le_length (by omega), hgx, List.append_assoc]
        have hwl : w.heap.size + 5 < W.heap.size := by omega
        refine ⟨⟨by rw [hz12]; exact hz9, fun k o hk ho hc => ?_⟩, rfl, pre, x, j, rfl, HI.out.2, HFD.out, ⟨some ⟨g2, 0, none⟩, c6, ?_, ?_, by rw [hll]; omega, fun a ha => ?_⟩, ?_, ?_, ?_, ?_⟩
        · have hkl := (Array.getElem?_eq_some_iff.1 ho).1
          exact (hs12 _ _ _ k (by omega) (by omega) (by omega)).trans ((HS9.out k hkl (by omega)).trans ho)
        · rw [hs12 _ _ _ g (by omega) (by omega) (by omega), hll]
          exact HGG9.out.trans rfl
        · rw [hll, ← hle]
          exact C_same HC9.out (fun a ha => by
            injection ha with ha
            subst ha
            exact hs12 _ _ _ g2 (by omega) (by omega) (by omega))
        · injection ha with ha
          subst ha
          refine ⟨by rw [hz12]; exact hl9, fun e => ?_⟩
          have := hT _ e
          simp only at this
          omega
        · exact ⟨HGR9.out.os, HGR9.out.tape, HGR9.out.output, by rw [hz12]; exact HGR9.out.size, fun k hk hne => (hs12 _ _ _ k (by omega) (by omega) (by omega)).trans (HGR9.out.block k hk hne)⟩
        · rw [hgx]
          exact (Below.heap_setCell _ _ _ _ (by show w.heap.size + 1 + 1 ≠ w.heap.size + 1 + 1 + 1 + 1; omega)).trans ((Below.heap_setCell _ _ _ _ (by show w.heap.size + 1 + 1 ≠ w.heap.size + 1 + 1 + 1; omega)).trans HN2b)
        · exact (Below.heap_setCell _ _ _ _ (by show w.heap.size + 1 + 1 + 1 ≠ w.heap.size + 1 + 1 + 1 + 1; omega)).trans HN3b
        · exact HN4b⟩
      (refine Hd.startI (S := (fun X => X.cell? ⟨w.heap.size, 0, none⟩ = some (.pointer (some ⟨g, 0, none⟩)) ∧ X.cell? ⟨g, 1, none⟩ = some (.slice (some ad) ts.length c) ∧ X.cell? (ad.add (x.1 * 3)) = some (.int .i64 kb) ∧ X.cell? ⟨(ad.add (x.1 * 3)).block, (ad.add (x.1 * 3)).off + 1, none⟩ = some (.slice ka kn kc) ∧ X.cell? ⟨(ad.add (x.1 * 3)).block, (ad.add (x.1 * 3)).off + 2, none⟩ = some (.map (some km)))) 17 (by kernel_rfl) (by kernel_rfl) (HSB.out _ (below_drew1 (Below.refl _ _))) (fun hHeld => ?_))
      (refine Hd.takeE (i := 0) (v := ?_) rfl rfl (by kernel_rfl) (by kernel_rfl) (by kernel_rfl) (by kernel_rfl) (fun _ _ _ h => h) (Or.inl ⟨by rfl, ?_⟩) (by assumption) ?_; rotate_left; (focus (intro wS hS; (try go_split_ands); go_simp; all_goals (with_reducible rfl))); simp only [List.set_cons_zero, List.set_cons_succ, List.setIfInBounds_toArray]); (refine Hd.takeE (i := 1) (v := ?_) rfl rfl (by kernel_rfl) (by kernel_rfl) (by kernel_rfl) (by kernel_rfl) (fun _ _ _ h => h) (Or.inl ⟨by rfl, ?_⟩) (by assumption) ?_; rotate_left; (focus (intro wS hS; (try go_split_ands); go_simp; all_goals (with_reducible rfl))); simp only [List.set_cons_zero, List.set_cons_succ, List.setIfInBounds_toArray]); (refine Hd.takeE (i := 2) (v := ?_) rfl rfl (by kernel_rfl) (by kernel_rfl) (by kernel_rfl) (by kernel_rfl) (fun _ _ _ h => h) (Or.inl ⟨by rfl, ?_⟩) (by assumption) ?_; rotate_left; (focus (intro wS hS; (try go_split_ands); go_simp; all_goals (with_reducible rfl))); simp only [List.set_cons_zero, List.set_cons_succ, List.setIfInBounds_toArray]); (refine Hd.takeE (i := 3) (v := ?_) rfl rfl (by kernel_rfl) (by kernel_rfl) (by kernel_rfl) (by kernel_rfl) (fun _ _ _ h => h) (Or.inl ⟨by rfl, ?_⟩) (by assumption) ?_; rotate_left; (focus (intro wS hS; (try go_split_ands); go_simp; all_goals (with_reducible rfl))); simp only [List.set_cons_zero, List.set_cons_succ, List.setIfInBounds_toArray]); (refine Hd.takeE (i := 4) (v := ?_) rfl rfl (by kernel_rfl) (by kernel_rfl) (by kernel_rfl) (by kernel_rfl) (fun _ _ _ h => h) (Or.inl ⟨by rfl, ?_⟩) (by assumption) ?_; rotate_left; (focus (intro wS hS; (try go_split_ands); go_simp; all_goals (with_reducible rfl))); simp only [List.set_cons_zero, List.set_cons_succ, List.setIfInBounds_toArray]); (refine Hd.takeE (i := 6) (v := ?_) rfl rfl (by kernel_rfl) (by kernel_rfl) (by kernel_rfl) (by kernel_rfl) (fun _ _ _ h => h) (Or.inl ⟨by rfl, ?_⟩) (by assumption) ?_; rotate_left; (focus (intro wS hS; (try go_split_ands); go_simp; all_goals (with_reducible rfl))); simp only [List.set_cons_zero, List.set_cons_succ, List.setIfInBounds_toArray]); (refine Hd.takeE (i := 7) (v := ?_) rfl rfl (by kernel_rfl) (by kernel_rfl) (by kernel_rfl) (by kernel_rfl) (fun _ _ _ h => h) (Or.inl ⟨by rfl, ?_⟩) (by assumption) ?_; rotate_left; (focus (intro wS hS; (try go_split_ands); go_simp; all_goals (with_reducible rfl))); simp only [List.set_cons_zero, List.set_cons_succ, List.setIfInBounds_toArray]); (refine Hd.takeE (i := 8) (v := ?_) rfl rfl (by kernel_rfl) (by kernel_rfl) (by kernel_rfl) (by kernel_rfl) (fun _ _ _ h => h) (Or.inl ⟨by rfl, ?_⟩) (by assumption) ?_; rotate_left; (focus (intro wS hS; (try go_split_ands); go_simp; all_goals (with_reducible rfl))); simp only [List.set_cons_zero, List.set_cons_succ, List.setIfInBounds_toArray]); (refine Hd.takeE (i := 9) (v := ?_) rfl rfl (by kernel_rfl) (by kernel_rfl) (by kernel_rfl) (by kernel_rfl) (fun _ _ _ h => h) (Or.inl ⟨by rfl, ?_⟩) (by assumption) ?_; rotate_left; (focus (intro wS hS; (try go_split_ands); go_simp; all_goals (with_reducible rfl))); simp only [List.set_cons_zero, List.set_cons_succ, List.setIfInBounds_toArray]); (refine Hd.takeE (i := 10) (v := ?_) rfl rfl (by kernel_rfl) (by kernel_rfl) (by kernel_rfl) (by kernel_rfl) (fun _ _ _ h => h) (Or.inl ⟨by rfl, ?_⟩) (by assumption) ?_; rotate_left; (focus (intro wS hS; (try go_split_ands); go_simp; all_goals (with_reducible rfl))); simp only [List.set_cons_zero, List.set_cons_succ, List.setIfInBounds_toArray]); (refine Hd.takeE (i := 11) (v := ?_) rfl rfl (by kernel_rfl) (by kernel_rfl) (by kernel_rfl) (by kernel_rfl) (fun _ _ _ h => h) (Or.inl ⟨by rfl, ?_⟩) (by assumption) ?_; rotate_left; (focus (intro wS hS; (try go_split_ands); go_simp; all_goals (with_reducible rfl))); simp only [List.set_cons_zero, List.set_cons_succ, List.setIfInBounds_toArray]); (refine Hd.takeE (i := 12) (v := ?_) rfl rfl (by kernel_rfl) (by kernel_rfl) (by kernel_rfl) (by kernel_rfl) (fun _ _ _ h => h) (Or.inl ⟨by rfl, ?_⟩) (by assumption) ?_; rotate_left; (focus (intro wS hS; (try go_split_ands); go_simp; all_goals (with_reducible rfl))); simp only [List.set_cons_zero, List.set_cons_succ, List.setIfInBounds_toArray])
      (refine Hd.readyE (rs := [5, 13]) (by kernel_rfl) (by simp) ?_; refine Hd.AllE.cons (i := 5) rfl (fun K hK => ?_) (Hd.AllE.cons (i := 13) rfl (fun K hK => ?_) (Hd.AllE.nil)))
      · ((go_simp; refine (HCLN.out _ (below_drew1 (Below.refl _ _))).mono ?_; rintro e w5 ⟨v5, rfl, ho5, hb5⟩); refine hK.out _ _ (HSB.out _ (below_then (below_drew1 (Below.refl _ _)) (Nat.le_refl _) hb5)) (fun hHeld => ?_); clear hK K; (try simp only [Act.put, List.setIfInBounds_toArray, List.set_cons_zero, List.set_cons_succ]))
        have hb5w := below_then (below_drew1 (Below.refl W.heap.size W)) (Nat.le_refl _) hb5
        (refine Hd.readyE (rs := [13]) (by kernel_rfl) (by simp) ?_; refine Hd.AllE.cons (i := 13) rfl (fun K hK => ?_) Hd.AllE.nil; go_simp; refine hK.out _ _ (HSB.out _ (below_alloc hb5w _)) (fun hHeld => ?_); clear hK K; (try simp only [Act.put, List.setIfInBounds_toArray, List.set_cons_zero, List.set_cons_succ]))
        (refine Hd.readyE (rs := [14]) (by kernel_rfl) (by simp) ?_; refine Hd.AllE.cons (i := 14) rfl (fun K hK => ?_) Hd.AllE.nil; (refine Hd.step_of_list rfl ?_; refine app1 dKn flat_kn W.heap.size (w0 := W) (W := w5) (.tmp 33) (.tmp 41) 57 68 (.agg #[.int .i64 0, .slice none 0 0, .map none]) 40 rfl rfl Try.underlying57 infoKn rfl (by decide) (by decide) v5 ts ⟨kb, ka, kn, kc, km⟩ (Kn.cells ⟨kb, ka, kn, kc, km⟩) (by rfl) (by rfl) ⟨trivial, rfl⟩ ho5 hb5w hb5.size (by omega) ?_; intro v6 w6 ho6 hb6 hg6 hat6; refine wpList_nil ?_); refine hK.out _ _ (HSB.out _ hb6) (fun hHeld => ?_); clear hK K; (try simp only [Act.put, List.setIfInBounds_toArray, List.set_cons_zero, List.set_cons_succ]))
        obtain ⟨g2, c6, cur, e6, rfl, hg7, hC7, hcur7, hlc7, hcm7, hgb7, hgr7, ⟨u6, hc6⟩, hf6⟩ := row_in2 HCA.out hb6 ho6 (by simp)
        (refine Hd.readyE (rs := [15]) (by kernel_rfl) (by simp) ?_; refine Hd.AllE.cons (i := 15) rfl (fun K hK => ?_) Hd.AllE.nil; go_simp; refine hK.out _ _ (HSB.out _ hb6) (fun hHeld => ?_); clear hK K; (try simp only [Act.put, List.setIfInBounds_toArray, List.set_cons_zero, List.set_cons_succ]))
        (refine Hd.readyE (rs := [16]) (by kernel_rfl) (by simp) ?_; refine Hd.AllE.cons (i := 16) rfl (fun K hK => ?_) Hd.AllE.nil; go_simp; refine hK.out _ _ (HSB.out _ hb6) (fun hHeld => ?_); clear hK K; (try simp only [Act.put, List.setIfInBounds_toArray, List.set_cons_zero, List.set_cons_succ]))
        (refine Hd.readyE (rs := [17]) (by kernel_rfl) (by simp) ?_; refine Hd.AllE.last (i := 17) rfl (fun K hK => ?_); go_simp; refine hK.out _ _ ?_; clear hK K; (try simp only [Act.put, List.setIfInBounds_toArray, List.set_cons_zero, List.set_cons_succ]))
        (refine Hd.endE (by kernel_rfl) ?_ _)
        rw [List.length_append, List.length_singleton] at *
        exact REST.out _ _ _ _ _ _ _ _ hg7 hC7 hcur7 hlc7 hcm7 hgb7 hgr7
      · (go_simp; refine hK.out _ _ (HSB.out _ (below_alloc (below_drew1 (Below.refl _ _)) _)) (fun hHeld => ?_); clear hK K; (try simp only [Act.put, List.setIfInBounds_toArray, List.set_cons_zero, List.set_cons_succ]))
        have hbx := below_alloc (below_drew1 (Below.refl W.heap.size W)) (.cells #[.int .i64 kb, .slice ka kn kc, .map (some km)] 68)
        have hnw : (W.drew.alloc (.cells #[.int .i64 kb, .slice ka kn kc, .map (some km)] 68)).heap[W.heap.size]? = some (.cells (Kn.cells ⟨kb, ka, kn, kc, km⟩).toArray 68 (0, 0)) := heap_alloc_new W.drew _
        (refine Hd.readyE (rs := [5]) (by kernel_rfl) (by simp) ?_; refine Hd.AllE.cons (i := 5) rfl (fun K hK => ?_) Hd.AllE.nil; (go_simp; refine (HCLN.out _ (below_alloc (below_drew1 (Below.refl _ _)) _)).mono ?_; rintro e w5 ⟨v5, rfl, ho5, hb5⟩); refine hK.out _ _ (HSB.out _ (below_then hbx hbx.size hb5)) (fun hHeld => ?_); clear hK K; (try simp only [Act.put, List.setIfInBounds_toArray, List.set_cons_zero, List.set_cons_succ]))
        have hb5w := below_then hbx hbx.size hb5
        have hbox := box_C ((hb5.block W.heap.size (by simp)).trans hnw)
        have ho5l := Kd.R_lower ho5 hbx.size
        (refine Hd.readyE (rs := [14]) (by kernel_rfl) (by simp) ?_; refine Hd.AllE.cons (i := 14) rfl (fun K hK => ?_) Hd.AllE.nil; (refine Hd.step_of_list rfl ?_; refine app dKn flat_kn W.heap.size (w0 := W) (W := w5) (.tmp 33) (.tmp 41) 57 68 (.agg #[.int .i64 0, .slice none 0 0, .map none]) 40 rfl rfl Try.underlying57 infoKn rfl (by decide) (by decide) v5 ts [⟨kb, ka, kn, kc, km⟩] (some ⟨W.heap.size, 0, none⟩) 1 1 (by rfl) (by rfl) ho5l hbox hb5w hb5w.size (by omega) ?_; intro v6 w6 ho6 hb6 hg6 hat6; refine wpList_nil ?_); refine hK.out _ _ (HSB.out _ hb6) (fun hHeld => ?_); clear hK K; (try simp only [Act.put, List.setIfInBounds_toArray, List.set_cons_zero, List.set_cons_succ]))
        obtain ⟨g2, c6, cur, e6, rfl, hg7, hC7, hcur7, hlc7, hcm7, hgb7, hgr7, ⟨u6, hc6⟩, hf6⟩ := row_in2 HCA.out hb6 ho6 (by simp)
        (refine Hd.readyE (rs := [15]) (by kernel_rfl) (by simp) ?_; refine Hd.AllE.cons (i := 15) rfl (fun K hK => ?_) Hd.AllE.nil; go_simp; refine hK.out _ _ (HSB.out _ hb6) (fun hHeld => ?_); clear hK K; (try simp only [Act.put, List.setIfInBounds_toArray, List.set_cons_zero, List.set_cons_succ]))
        (refine Hd.readyE (rs := [16]) (by kernel_rfl) (by simp) ?_; refine Hd.AllE.cons (i := 16) rfl (fun K hK => ?_) Hd.AllE.nil; go_simp; refine hK.out _ _ (HSB.out _ hb6) (fun hHeld => ?_); clear hK K; (try simp only [Act.put, List.setIfInBounds_toArray, List.set_cons_zero, List.set_cons_succ]))
        (refine Hd.readyE (rs := [17]) (by kernel_rfl) (by simp) ?_; refine Hd.AllE.last (i := 17) rfl (fun K hK => ?_); go_simp; refine hK.out _ _ ?_; clear hK K; (try simp only [Act.put, List.setIfInBounds_toArray, List.set_cons_zero, List.set_cons_succ]))
        (refine Hd.endE (by kernel_rfl) ?_ _)
        rw [List.length_append, List.length_singleton] at *
        exact REST.out _ _ _ _ _ _ _ _ hg7 hC7 hcur7 hlc7 hcm7 hgb7 hgr7
  case done =>
    intro D xs W hDl hS hI hD
    have hfn := find_none fs s xs hS hI.2
    have hwr := hI.1
    have hsz := hwr.size
    have hn2 : W.heap[w.heap.size + 1 + 1]? = some (.cells #[.int .i64 0] 3 (0, 0)) := (hwr.block _ (by omega) (fun e => by cases e)).trans HB2.out
    have hn3 : W.heap[w.heap.size + 1 + 1 + 1]? = some (.cells #[.int .i64 0] 3 (0, 0)) := (hwr.block _ (by omega) (fun e => by cases e)).trans HB3.out
    have hn4 : W.heap[w.heap.size + 1 + 1 + 1 + 1]? = some (.cells #[.bool false] 4 (0, 0)) := (hwr.block _ (by omega) (fun e => by cases e)).trans HB4.out
    have s2 := obj_cell (v := .int .i64 0) hn2 0 rfl
    have f2 := obj_free hn2 0
    have hn3b : (W.setCell ⟨w.heap.size + 1 + 1, 0, none⟩ (.int .i64 0)).heap[w.heap.size + 1 + 1 + 1]? = some (.cells #[.int .i64 0] 3 (0, 0)) := (Below.heap_setCell _ _ _ _ (by show w.heap.size + 1 + 1 + 1 ≠ w.heap.size + 1 + 1; omega)).trans hn3
    have s3 := obj_cell (v := .int .i64 0) hn3b 0 rfl
    have f3 := obj_free hn3b 0
    have hn4b : ((W.setCell ⟨w.heap.size + 1 + 1, 0, none⟩ (.int .i64 0)).setCell ⟨w.heap.size + 1 + 1 + 1, 0, none⟩ (.int .i64 0)).heap[w.heap.size + 1 + 1 + 1 + 1]? = some (.cells #[.bool false] 4 (0, 0)) := (Below.heap_setCell _ _ _ _ (by show w.heap.size + 1 + 1 + 1 + 1 ≠ w.heap.size + 1 + 1 + 1; omega)).trans ((Below.heap_setCell _ _ _ _ (by show w.heap.size + 1 + 1 + 1 + 1 ≠ w.heap.size + 1 + 1; omega)).trans hn4)
    have s4 := obj_cell (v := .bool false) hn4b 0 rfl
    have f4 := obj_free hn4b 0
    have HN2 := Aside0.mk hn2
    have HN3 := Aside0.mk hn3b
    have HN4 := Aside0.mk hn4b
    have HWR := Aside0.mk hwr
    have HDD := Aside0.mk hD
    clear hn2 hn3 hn3b hn4 hn4b hwr hD hI
    go_wp2
    have HN4b := obj_set HN4.out 0 (.bool false)
    have HN3b := obj_set HN3.out 0 (.int .i64 0)
    have HN2b := obj_set HN2.out 0 (.int .i64 0)
    have h3 := (Below.heap_setCell _ ⟨w.heap.size + 1 + 1 + 1 + 1, 0, none⟩ (.bool false) _ (by show w.heap.size + 1 + 1 + 1 ≠ w.heap.size + 1 + 1 + 1 + 1; omega)).trans HN3b
    have h2 := (Below.heap_setCell _ ⟨w.heap.size + 1 + 1 + 1 + 1, 0, none⟩ (.bool false) _ (by show w.heap.size + 1 + 1 ≠ w.heap.size + 1 + 1 + 1 + 1; omega)).trans ((Below.heap_setCell _ ⟨w.heap.size + 1 + 1 + 1, 0, none⟩ (.int .i64 0) _ (by show w.heap.size + 1 + 1 ≠ w.heap.size + 1 + 1 + 1; omega)).trans HN2b)
    have hg12 : w.grownBy (((W.setCell ⟨w.heap.size + 1 + 1, 0, none⟩ (.int .i64 0)).setCell ⟨w.heap.size + 1 + 1 + 1, 0, none⟩ (.int .i64 0)).setCell ⟨w.heap.size + 1 + 1 + 1 + 1, 0, none⟩ (.bool false)) none :=
      grown_new (grown_new (grown_new (grown_row (grown_below HWB.out) HWR.out (fun r e => by cases e)) (obj_grown _ _ _ _) (by omega)) (obj_grown _ _ _ _) (by omega)) (obj_grown _ _ _ _) (by omega)
    have hd12 : (((W.setCell ⟨w.heap.size + 1 + 1, 0, none⟩ (.int .i64 0)).setCell ⟨w.heap.size + 1 + 1 + 1, 0, none⟩ (.int .i64 0)).setCell ⟨w.heap.size + 1 + 1 + 1 + 1, 0, none⟩ (.bool false)).heap[D]? = some (.deferred (some [])) :=
      (Below.heap_setCell _ _ _ _ (by show D ≠ w.heap.size + 1 + 1 + 1 + 1; omega)).trans ((Below.heap_setCell _ _ _ _ (by show D ≠ w.heap.size + 1 + 1 + 1; omega)).trans ((Below.heap_setCell _ _ _ _ (by show D ≠ w.heap.size + 1 + 1; omega)).trans HDD.out))
    generalize ((W.setCell ⟨w.heap.size + 1 + 1, 0, none⟩ (.int .i64 0)).setCell ⟨w.heap.size + 1 + 1 + 1, 0, none⟩ (.int .i64 0)).setCell ⟨w.heap.size + 1 + 1 + 1 + 1, 0, none⟩ (.bool false) = W12 at *
    refine ⟨by simp, .inl ⟨_, _, rfl, run_takeDeferred hd12, ?_⟩⟩
    have hgd := grownBy_putObj' W12 D (.deferred none)
    have kp : ∀ (q : Nat) (o : Obj), W12.heap[q]? = some o → q ≠ D → (W12.putObj D (.deferred none)).heap[q]? = some o := fun q o hq hne => (hgd.block q (Array.getElem?_eq_some_iff.1 hq).1 (fun e => hne (by injection e))).trans hq
    exact ⟨_, results_cells3 rfl _ _ (w.heap.size + 1 + 1) _ _ _ rfl rfl rfl (load_int _ _ _ (kp _ _ h2 (by omega))) (load_int _ _ _ (kp _ _ h3 (by omega))) (load_bool _ _ _ (kp _ _ HN4b (by omega))), .inl ⟨hfn, rfl, grown_new hg12 hgd (by omega)⟩⟩
  case stop =>
    intro D cc pre W hDl hS hX hD
    obtain ⟨rfl, pre', x, j, rfl, h1, h2, hca, hgr, m2, m3, m4⟩ := hX
    have hfd := find_stop fs s pre' x j hS h1 h2
    have HC9 := Aside0.mk hca
    have HDD := Aside0.mk hD
    have M2 := Aside0.mk m2
    have M3 := Aside0.mk m3
    have M4 := Aside0.mk m4
    have HGR := Aside0.mk hgr
    clear hca hD m2 m3 m4 hgr
    gi_wp2
    refine ⟨by simp, .inl ⟨_, _, rfl, run_takeDeferred HDD.out, ?_⟩⟩
    have hgd := grownBy_putObj' W D (.deferred none)
    have kp : ∀ (q : Nat) (o : Obj), W.heap[q]? = some o → q ≠ D → (W.putObj D (.deferred none)).heap[q]? = some o := fun q o hq hne => (hgd.block q (Array.getElem?_eq_some_iff.1 hq).1 (fun e => hne (by injection e))).trans hq
    exact ⟨_, results_cells3 rfl _ _ (w.heap.size + 1 + 1) _ _ _ rfl rfl rfl (load_int _ _ _ (kp _ _ M2.out (by omega))) (load_int _ _ _ (kp _ _ M3.out (by omega))) (load_bool _ _ _ (kp _ _ M4.out (by omega))), .inr ⟨x.1, j, hfd, rfl, ca_row HC9.out hgd (fun r e => by injection e with e; subst e; exact ⟨_, HDD.out, rfl⟩), grown_new HGR.out hgd (by omega)⟩⟩
end Go.Proofs.Ytocmljijdecilaa.CaF
