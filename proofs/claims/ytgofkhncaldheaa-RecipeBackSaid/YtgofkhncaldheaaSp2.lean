/- How two spots compare; slices.SortFunc at spots; recipe.Spots, walked; condition: the refs read as a list within the weight's reach. -/
import Derived.Test.YtgofkhncaldheaaSp1
import Derived.Test.YtgofkhncaldheaaRmA
import Derived.Shelf.SlSortCmp.NoneTotal
namespace Go.Proofs.Ytgofkhncaldheaa.SpE
open Go Go.RowKit Go.Sort Go.Proofs.YtgofkhncaldheaaW.PrintWords Go.Proofs.Ytgofkhncaldheaa.K Go.Proofs.Ytgofkhncaldheaa.ReS Go.Proofs.Ytgofkhncaldheaa.RmS Go.Proofs.Ytgofkhncaldheaa.SpK
set_option linter.unusedVariables false
set_option linter.unusedSimpArgs false
def orI (a b : Int) : Int := if a = 0 then b else a
def cmpS (x y : Sp) : Int := orI (Lib.compareInt x.1 y.1) (Lib.compareInt x.2 y.2)
def ltS (x y : Sp) : Prop := x.1 < y.1 ∨ (x.1 = y.1 ∧ x.2 < y.2)
instance (x y : Sp) : Decidable (ltS x y) := by unfold ltS; exact inferInstance
theorem lt_is (x y : Sp) : ltOf cmpS x y = decide (ltS x y) := by
  unfold ltOf cmpS orI Lib.compareInt ltS
  by_cases h1 : x.1 < y.1
  · simp [h1]
  · by_cases h2 : y.1 < x.1
    · have h3 : x.1 ≠ y.1 := by omega
      simp [h1, h2, h3]
    · have h3 : x.1 = y.1 := by omega
      by_cases h4 : x.2 < y.2
      · simp [h3, h4]
      · by_cases h5 : y.2 < x.2 <;> simp [h3, h4, h5]
theorem lt_t (x y : Sp) : ltOf cmpS x y = true ↔ (x.1 < y.1 ∨ (x.1 = y.1 ∧ x.2 < y.2)) := by rw [lt_is, decide_eq_true_eq]; exact Iff.rfl
theorem lt_f (x y : Sp) : ltOf cmpS x y = false ↔ ¬ (x.1 < y.1 ∨ (x.1 = y.1 ∧ x.2 < y.2)) := by rw [lt_is, decide_eq_false_iff_not]; exact Iff.rfl
theorem swoS : SWO (ltOf cmpS) where
  irrefl x := (lt_f x x).2 (by omega)
  trans x y z h1 h2 := by
    have := (lt_t x y).1 h1
    have := (lt_t y z).1 h2
    exact (lt_t x z).2 (by omega)
  ntrans x y z h1 h2 := by
    have := (lt_f x y).1 h1
    have := (lt_f y z).1 h2
    exact (lt_f x z).2 (by omega)
theorem totS (x y : Sp) (h1 : ltOf cmpS x y = false) (h2 : ltOf cmpS y x = false) : x = y := by
  have := (lt_f x y).1 h1
  have := (lt_f y x).1 h2
  exact Prod.ext (by omega) (by omega)
set_option maxHeartbeats 1000000 in
theorem or_calls (g : Nat) (a b : Int) (w : World) (c0 : w.cell? ⟨g, 0, none⟩ = some (.int .i64 a)) (c1 : w.cell? ⟨g, 1, none⟩ = some (.int .i64 b)) : Calls Try.prog 38 #[.slice (some ⟨g, 0, none⟩) 2 2] w fun e w' => e = .returned (.int .i64 (orI a b)) ∧ w' = w := by
  unfold orI
  by_cases ha : a = 0
  · subst ha
    by_cases hb : b = 0
    · subst hb
      go_enter Try.func38, Try.ntmps38
      go_wp2
      refine wp_loop_rounds 3 ?_
      rw [rounds_succ]
      go_wp2
      rw [rounds_succ]
      go_wp2
      rw [rounds_succ]
      go_wp2
      go_ret
      exact ⟨rfl, rfl⟩
    · go_enter Try.func38, Try.ntmps38
      go_wp2
      refine wp_loop_rounds 2 ?_
      rw [rounds_succ]
      go_wp2
      rw [rounds_succ]
      go_wp2
      go_ret
      exact ⟨rfl, rfl⟩
  · go_enter Try.func38, Try.ntmps38
    go_wp2
    refine wp_loop_rounds 1 ?_
    rw [rounds_succ]
    go_wp2
    go_ret
    exact ⟨rfl, rfl⟩
set_option maxHeartbeats 2000000 in
theorem clo_calls (x y : Sp) (w : World) : Calls Try.prog 37 #[.agg #[.int .i64 x.1, .int .i64 x.2], .agg #[.int .i64 y.1, .int .i64 y.2]] w fun e w' => e = .returned (.int .i64 (cmpS x y)) ∧ ∃ q os', w' = grow (w.drewN q) os' := by
  have HC1 := Aside0.mk (fun W => AnyG.cmp_Compare_int Try.cmpInt x.1 y.1 W)
  have HC2 := Aside0.mk (fun W => AnyG.cmp_Compare_int Try.cmpInt x.2 y.2 W)
  unfold cmpS
  generalize Lib.compareInt x.1 y.1 = r1 at *
  generalize Lib.compareInt x.2 y.2 = r2 at *
  have HOR := Aside0.mk (fun g W h0 h1 => or_calls g r1 r2 W h0 h1)
  go_enter Try.func37, Try.ntmps37
  go_wp2_with fail
  obtain ⟨w0, hw0⟩ : ∃ w0 : World, w0 = (w.alloc (.cells #[.int .i64 x.1, .int .i64 x.2] 61)).alloc (.cells #[.int .i64 y.1, .int .i64 y.2] 61) := ⟨_, rfl⟩
  have hg := heap_alloc_new w (.cells #[.int .i64 x.1, .int .i64 x.2] 61)
  have hg2 := heap_alloc_new (w.alloc (.cells #[.int .i64 x.1, .int .i64 x.2] 61)) (.cells #[.int .i64 y.1, .int .i64 y.2] 61)
  have hs1 : (w.alloc (.cells #[.int .i64 x.1, .int .i64 x.2] 61)).heap.size = w.heap.size + 1 := by simp
  rw [hs1] at hg2
  have HW0 := Aside0.mk hw0
  have c0 : w0.cell? ⟨w.heap.size, 0, none⟩ = some (.int .i64 x.1) := by rw [hw0]; exact Lib.cell?_alloc_some _ (obj_cell hg 0 rfl)
  have c1 : w0.cell? ⟨w.heap.size, 1, none⟩ = some (.int .i64 x.2) := by rw [hw0]; exact Lib.cell?_alloc_some _ (obj_cell hg 1 rfl)
  have d0 : w0.cell? ⟨w.heap.size + 1, 0, none⟩ = some (.int .i64 y.1) := by rw [hw0]; exact obj_cell hg2 0 rfl
  have d1 : w0.cell? ⟨w.heap.size + 1, 1, none⟩ = some (.int .i64 y.2) := by rw [hw0]; exact obj_cell hg2 1 rfl
  rw [← hw0]
  clear hw0 hg hg2 hs1
  (refine Hd.startE (S := (fun W => W.cell? ⟨w.heap.size, 0, none⟩ = some (.int .i64 x.1) ∧ W.cell? ⟨w.heap.size, 1, none⟩ = some (.int .i64 x.2) ∧ W.cell? ⟨w.heap.size + 1, 0, none⟩ = some (.int .i64 y.1) ∧ W.cell? ⟨w.heap.size + 1, 1, none⟩ = some (.int .i64 y.2))) 1000 (by kernel_rfl) (⟨c0, c1, d0, d1⟩) (fun hHeld => ?_))
  (refine Hd.takeE (i := 0) (v := ?_) rfl rfl (by kernel_rfl) (by kernel_rfl) (by kernel_rfl) (by kernel_rfl) (fun _ _ _ h => h) (Or.inl ⟨by rfl, ?_⟩) (by assumption) ?_; rotate_left; (focus (intro wS hS; (try go_split_ands); go_simp; all_goals (with_reducible rfl))); simp only [List.set_cons_zero, List.set_cons_succ, List.setIfInBounds_toArray]); (refine Hd.takeE (i := 1) (v := ?_) rfl rfl (by kernel_rfl) (by kernel_rfl) (by kernel_rfl) (by kernel_rfl) (fun _ _ _ h => h) (Or.inl ⟨by rfl, ?_⟩) (by assumption) ?_; rotate_left; (focus (intro wS hS; (try go_split_ands); go_simp; all_goals (with_reducible rfl))); simp only [List.set_cons_zero, List.set_cons_succ, List.setIfInBounds_toArray]); (refine Hd.takeE (i := 2) (v := ?_) rfl rfl (by kernel_rfl) (by kernel_rfl) (by kernel_rfl) (by kernel_rfl) (fun _ _ _ h => h) (Or.inl ⟨by rfl, ?_⟩) (by assumption) ?_; rotate_left; (focus (intro wS hS; (try go_split_ands); go_simp; all_goals (with_reducible rfl))); simp only [List.set_cons_zero, List.set_cons_succ, List.setIfInBounds_toArray]); (refine Hd.takeE (i := 3) (v := ?_) rfl rfl (by kernel_rfl) (by kernel_rfl) (by kernel_rfl) (by kernel_rfl) (fun _ _ _ h => h) (Or.inl ⟨by rfl, ?_⟩) (by assumption) ?_; rotate_left; (focus (intro wS hS; (try go_split_ands); go_simp; all_goals (with_reducible rfl))); simp only [List.set_cons_zero, List.set_cons_succ, List.setIfInBounds_toArray]); (refine Hd.takeE (i := 5) (v := ?_) rfl rfl (by kernel_rfl) (by kernel_rfl) (by kernel_rfl) (by kernel_rfl) (fun _ _ _ h => h) (Or.inl ⟨by rfl, ?_⟩) (by assumption) ?_; rotate_left; (focus (intro wS hS; (try go_split_ands); go_simp; all_goals (with_reducible rfl))); simp only [List.set_cons_zero, List.set_cons_succ, List.setIfInBounds_toArray]); (refine Hd.takeE (i := 6) (v := ?_) rfl rfl (by kernel_rfl) (by kernel_rfl) (by kernel_rfl) (by kernel_rfl) (fun _ _ _ h => h) (Or.inl ⟨by rfl, ?_⟩) (by assumption) ?_; rotate_left; (focus (intro wS hS; (try go_split_ands); go_simp; all_goals (with_reducible rfl))); simp only [List.set_cons_zero, List.set_cons_succ, List.setIfInBounds_toArray]); (refine Hd.takeE (i := 7) (v := ?_) rfl rfl (by kernel_rfl) (by kernel_rfl) (by kernel_rfl) (by kernel_rfl) (fun _ _ _ h => h) (Or.inl ⟨by rfl, ?_⟩) (by assumption) ?_; rotate_left; (focus (intro wS hS; (try go_split_ands); go_simp; all_goals (with_reducible rfl))); simp only [List.set_cons_zero, List.set_cons_succ, List.setIfInBounds_toArray]); (refine Hd.takeE (i := 8) (v := ?_) rfl rfl (by kernel_rfl) (by kernel_rfl) (by kernel_rfl) (by kernel_rfl) (fun _ _ _ h => h) (Or.inl ⟨by rfl, ?_⟩) (by assumption) ?_; rotate_left; (focus (intro wS hS; (try go_split_ands); go_simp; all_goals (with_reducible rfl))); simp only [List.set_cons_zero, List.set_cons_succ, List.setIfInBounds_toArray])
  (refine Hd.readyE (rs := [4]) (by kernel_rfl) (by simp) ?_; refine Hd.AllE.cons (i := 4) rfl (fun K hK => ?_) Hd.AllE.nil; (go_simp; refine (HC1.out _).mono ?_; rintro e W6 ⟨rfl, rfl⟩); refine hK.out _ _ (hHeld) (fun hHeld => ?_); clear hK K; (try simp only [Act.put, List.setIfInBounds_toArray, List.set_cons_zero, List.set_cons_succ]))
  (refine Hd.readyE (rs := [9]) (by kernel_rfl) (by simp) ?_; refine Hd.AllE.cons (i := 9) rfl (fun K hK => ?_) Hd.AllE.nil; (go_simp; refine (HC2.out _).mono ?_; rintro e W7 ⟨rfl, rfl⟩); refine hK.out _ _ (hHeld) (fun hHeld => ?_); clear hK K; (try simp only [Act.put, List.setIfInBounds_toArray, List.set_cons_zero, List.set_cons_succ]))
  (refine Hd.readyE (rs := [10]) (by kernel_rfl) (by simp) ?_; refine Hd.AllE.cons (i := 10) rfl (fun K hK => ?_) Hd.AllE.nil; go_simp; refine hK.out _ _ (⟨Lib.cell?_alloc_some _ hHeld.1, Lib.cell?_alloc_some _ hHeld.2.1, Lib.cell?_alloc_some _ hHeld.2.2.1, Lib.cell?_alloc_some _ hHeld.2.2.2⟩) (fun hHeld => ?_); clear hK K; (try simp only [Act.put, List.setIfInBounds_toArray, List.set_cons_zero, List.set_cons_succ]))
  (refine Hd.readyE (rs := [11]) (by kernel_rfl) (by simp) ?_; refine Hd.AllE.cons (i := 11) rfl (fun K hK => ?_) Hd.AllE.nil; (go_simp; refine (HOR.out _ _ (obj_cell (heap_alloc_new w0.drew (.cells #[.int .i64 r1, .int .i64 r2] 3)) 0 rfl) (obj_cell (heap_alloc_new w0.drew (.cells #[.int .i64 r1, .int .i64 r2] 3)) 1 rfl)).mono ?_; rintro e W8 ⟨rfl, rfl⟩); refine hK.out _ _ (hHeld) (fun hHeld => ?_); clear hK K; (try simp only [Act.put, List.setIfInBounds_toArray, List.set_cons_zero, List.set_cons_succ]))
  (refine Hd.takeE (i := 12) (v := ?_) rfl rfl (by kernel_rfl) (by kernel_rfl) (by kernel_rfl) (by kernel_rfl) (fun _ _ _ h => h) (Or.inl ⟨by rfl, ?_⟩) (by assumption) ?_; rotate_left; (focus (intro wS hS; (try go_split_ands); go_simp; all_goals (with_reducible rfl))); simp only [List.set_cons_zero, List.set_cons_succ, List.setIfInBounds_toArray])
  (refine Hd.endE (by kernel_rfl) ?_ _)
  go_wp2
  go_ret
  refine ⟨rfl, 1, #[.cells #[.int .i64 x.1, .int .i64 x.2] 61, .cells #[.int .i64 y.1, .int .i64 y.2] 61, .cells #[.int .i64 r1, .int .i64 r2] 3], ?_⟩
  rw [HW0.out]
  show (((w.drewN 1).alloc _).alloc _).alloc _ = _
  rw [alloc_eq_grow, alloc_eq_grow, alloc_eq_grow, grow_grow, grow_grow]
  rfl
theorem cmpLays (blk off size : Nat) (w : World) : CmpLays Try.prog 37 #[] spE 2 cmpS blk off size w := fun m os dk _ x y => clo_calls x y _
theorem sort_calls (blk off cap : Nat) (d : Array Sp) (w : World) (hH : HoldsK spE 2 w blk off d) (hblk : blk < w.heap.size) (hsz : d.size < 4611686018427387904) :
    Calls Try.prog 36 #[.slice (some ⟨blk, off, none⟩) d.size cap, .func (.func 37) #[] #[]] w fun e w' => e = .returned (.tuple #[]) ∧ ∃ n os, w' = sortWorldK spE 2 w blk off n (d.toList.mergeSort fun x y => !(ltOf cmpS) y x).toArray os := by
  have eg : ∀ args w, (callFunc 37 args).run Try.prog w = .ok (.enter 37 args) w := enters_of Try.func37 (by kernel_rfl) rfl
  exact AnyQ.slices_SortFunc_total Try.sortSp 2 Try.isAgg61 Try.sizeOf61 spE spE_len spE_one cmpS swoS 37 #[] blk off cap d w eg (cmpLays blk off d.size w) hH hblk hsz totS
end Go.Proofs.Ytgofkhncaldheaa.SpE
namespace Go.Proofs.Ytgofkhncaldheaa.SpF
open Go Go.RowKit Go.Sort Go.Lib Go.Proofs.YtgofkhncaldheaaW.PrintWords Go.Proofs.Ytgofkhncaldheaa.K Go.Proofs.Ytgofkhncaldheaa.ReS Go.Proofs.Ytgofkhncaldheaa.ReR Go.Proofs.Ytgofkhncaldheaa.ReT Go.Proofs.Ytgofkhncaldheaa.ReK Go.Proofs.Ytgofkhncaldheaa.RmS Go.Proofs.Ytgofkhncaldheaa.SpK Go.Proofs.Ytgofkhncaldheaa.SpC Go.Proofs.Ytgofkhncaldheaa.SpD Go.Proofs.Ytgofkhncaldheaa.SpE
set_option linter.unusedVariables false
set_option linter.unusedSimpArgs false
def spotR (r : Ref) : Sp := (r.bin, r.slot)
def sortS (l : List Sp) : List Sp := l.mergeSort fun x y => !(ltOf cmpS) y x
def spotsOf (rs : List Ref) : List Sp := compactUpTo (sortS (rs.map spotR)).toArray (sortS (rs.map spotR)).length
theorem sort_len (l : List Sp) : (sortS l).length = l.length := by unfold sortS; simp
theorem sort_mem (l : List Sp) (p : Sp) : p ∈ sortS l ↔ p ∈ l := by unfold sortS; exact List.mem_mergeSort
theorem compact_mem (d : Array Sp) (m : Nat) (hm : m ≤ d.size) (p : Sp) (h : p ∈ compactUpTo d m) : p ∈ d.toList := by
  unfold compactUpTo at h
  obtain ⟨i, hi, rfl⟩ := List.mem_map.1 h
  have hi := List.mem_range.1 (List.mem_filter.1 hi).1
  rw [getElem!_pos d i (by omega), ← Array.getElem_toList]
  exact List.getElem_mem _
theorem infoSp : (Try.prog.info? 61).map (fun i => (i.zero, i.size, i.bytes)) = some (some (.agg #[.int .i64 0, .int .i64 0]), 2, 16) := infoSpot
theorem holds_C {w : World} {g n : Nat} {xs : List Sp} {cur : Array Value} {e : TypeId} (h : dSp.C w (some ⟨g, 0, none⟩) n xs) (hb : w.heap[g]? = some (.cells cur e (0, 0))) : HoldsK spE 2 w g 0 xs.toArray := by
  intro t ht
  have ht2 : t < xs.length * 2 := by simpa using ht
  have hl := h.1
  refine ⟨?_, by simp [World.frozen?, hb]⟩
  obtain ⟨ad, e1, _, c0, c1⟩ := sp_cells h (t / 2) (by omega)
  injection e1 with e1
  subst e1
  rw [Go.Proofs.Ytgofkhncaldheaa.RmA.addr0] at c0 c1
  have hx : xs.toArray[t / 2]! = xs.getD (t / 2) default := by
    rw [getElem!_pos xs.toArray (t / 2) (by simp; omega)]
    simp [show t / 2 < xs.length from by omega]
  rw [get_flatK _ _ _ _ ht2, hx, Nat.zero_add]
  rcases (by omega : t % 2 = 0 ∨ t % 2 = 1) with h2 | h2
  · rw [h2, show t = t / 2 * 2 by omega]
    have e2 : t / 2 * 2 / 2 = t / 2 := by omega
    rw [e2]
    exact c0
  · rw [h2, show t = t / 2 * 2 + 1 by omega]
    have e2 : (t / 2 * 2 + 1) / 2 = t / 2 := by omega
    rw [e2]
    exact c1
theorem grown_row (w : World) (q g : Nat) (F : Array Value) : w.grownBy (putRow id (Sort.ahead w q) g 0 F) (some g) := by
  refine ⟨rfl, rfl, rfl, by simp, fun k hk hne => ?_⟩
  have : g ≠ k := fun e => hne (by rw [e])
  simp [putRow, mapBlock, Sort.ahead, Array.getElem?_modify, this]
theorem grown_sort (w : World) (q g : Nat) (d : Array Sp) (os : Array Obj) : w.grownBy (sortWorldK spE 2 w g 0 q d os) (some g) := by
  unfold sortWorldK putRowK
  refine ⟨rfl, rfl, rfl, by simp, fun k hk hne => ?_⟩
  rw [heap_grow_old _ _ (by simpa using hk)]
  have : g ≠ k := fun e => hne (by rw [e])
  simp [putRow, mapBlock, Sort.ahead, Array.getElem?_modify, this]
/-- What lies at the row's head reads as spots. -/
theorem reads_low {w : World} {q g : Nat} {F F0 : Array Value} {l : List Sp} (h0 : Holds id w g 0 F0) (hs : F.size = F0.size) (hl : Low l F) (hn : l.length * 2 ≤ F.size) (hmax : l.length ≤ maxLen) (ho : ∀ p, p ∈ l → OkS p) : dSp.C (putRow id (Sort.ahead w q) g 0 F) (some ⟨g, 0, none⟩) l.length l := by
  refine ⟨rfl, by unfold maxLen at hmax; omega, fun _ => ⟨_, rfl, fun j p hj => ?_⟩⟩
  obtain ⟨hjl, hjp⟩ := List.getElem?_eq_some_iff.1 hj
  have H := holds_putRow id (Sort.ahead w q) g 0 F0 F h0 hs
  obtain ⟨l0, l1⟩ := hl j p hj
  refine ⟨spE p, rfl, ⟨ho p (by rw [← hjp]; exact List.getElem_mem _), rfl⟩, fun i u hu => ?_⟩
  rw [Go.Proofs.Ytgofkhncaldheaa.RmA.addr0]
  show World.cell? _ ⟨g, j * 2 + i, none⟩ = _
  have hi : i < 2 := by
    have := (List.getElem?_eq_some_iff.1 hu).1
    exact this
  have h1 := (H (j * 2 + i) (by omega)).1
  rw [Nat.zero_add] at h1
  rw [h1]
  rcases (by omega : i = 0 ∨ i = 1) with rfl | rfl
  · simp [spE] at hu
    rw [← hu]
    exact congrArg some l0
  · simp [spE] at hu
    rw [← hu]
    exact congrArg some l1
end Go.Proofs.Ytgofkhncaldheaa.SpF
namespace Go.Proofs.Ytgofkhncaldheaa.SpG
open Go Go.RowKit Go.Sort Go.Lib Go.Proofs.YtgofkhncaldheaaW.PrintWords Go.Proofs.Ytgofkhncaldheaa.K Go.Proofs.Ytgofkhncaldheaa.ReS Go.Proofs.Ytgofkhncaldheaa.ReR Go.Proofs.Ytgofkhncaldheaa.ReT Go.Proofs.Ytgofkhncaldheaa.ReK Go.Proofs.Ytgofkhncaldheaa.RmS Go.Proofs.Ytgofkhncaldheaa.SpK Go.Proofs.Ytgofkhncaldheaa.SpC Go.Proofs.Ytgofkhncaldheaa.SpD Go.Proofs.Ytgofkhncaldheaa.SpE Go.Proofs.Ytgofkhncaldheaa.SpF
set_option linter.unusedVariables false
set_option linter.unusedSimpArgs false
set_option maxHeartbeats 1000000 in
theorem cpt_none (p : Option Addr) (cap : Nat) (w : World) : Calls Try.prog 40 #[.slice p 0 cap] w fun e w' => e = .returned (.slice p 0 cap) ∧ w' = w := by
  go_enter Try.func40, Try.ntmps40
  go_wp2
  go_ret
  exact ⟨rfl, rfl⟩
theorem sort_none (p : Option Addr) (cap : Nat) (fv : Value) (w : World) : Calls Try.prog 36 #[.slice p 0 cap, fv] w fun e w' => e = .returned (.tuple #[]) ∧ w' = w := AnyF.slices_SortFunc_none Try.sortSp p cap fv w
theorem spots_nil : spotsOf [] = [] := by
  unfold spotsOf sortS
  simp [compactUpTo]
theorem sort_list (g cap : Nat) (l : List Sp) (w : World) (hH : HoldsK spE 2 w g 0 l.toArray) (hg : g < w.heap.size) (hsz : l.length < 4611686018427387904) :
    Calls Try.prog 36 #[.slice (some ⟨g, 0, none⟩) l.length cap, .func (.func 37) #[] #[]] w fun e w' => e = .returned (.tuple #[]) ∧ ∃ n os, w' = sortWorldK spE 2 w g 0 n (sortS l).toArray os :=
  sort_calls g 0 cap l.toArray w hH hg hsz
theorem sorted_low {wo : World} {lo g i cap : Nat} {l : List Sp} {cur : Array Value} {e : TypeId} (hli : l.length = i) (hi : i * 56 ≤ 140737488351232) (hC : dSp.C wo (some ⟨g, 0, none⟩) l.length l) (hcap : l.length ≤ cap) (hcur : wo.heap[g]? = some (.cells cur e (0, 0))) (n : Nat) (os : Array Obj) :
    Calls Try.prog 40 #[.slice (some ⟨g, 0, none⟩) l.length cap] (sortWorldK spE 2 wo g 0 n (sortS l).toArray os) fun e w' => e = .returned (.slice (some ⟨g, 0, none⟩) (compactUpTo (sortS l).toArray (sortS l).length).length cap) ∧ dSp.C w' (some ⟨g, 0, none⟩) (compactUpTo (sortS l).toArray (sortS l).length).length (compactUpTo (sortS l).toArray (sortS l).length) ∧ wo.grownBy w' (some g) := by
  have hg := (Array.getElem?_eq_some_iff.1 hcur).1
  have hH := holds_C hC hcur
  have hsz : (sortS l).toArray.size = l.toArray.size := by simp [sort_len]
  have hH2 := Go.Proofs.holdsK_sortWorldK_c spE 2 wo g 0 l.toArray (sortS l).toArray n os hH hg hsz
  have hok : ∀ p, p ∈ l → OkS p := fun p hp => by
    obtain ⟨j, hj, rfl⟩ := List.getElem_of_mem hp
    obtain ⟨_, _, ho, _⟩ := sp_cells hC j hj
    rwa [show l.getD j default = l[j] from by simp [hj]] at ho
  have hos : ∀ i, i < (sortS l).toArray.size → OkS (sortS l).toArray[i]! := fun i hi => by
    rw [getElem!_pos _ i hi]
    exact hok _ ((sort_mem l _).1 (by simp))
  have hc := cpt_calls g 0 cap (sortS l).toArray _ hH2 hos (by rw [hsz, List.size_toArray]; omega) (by rw [hsz, List.size_toArray]; exact hcap)
  rw [hsz, List.size_toArray] at hc
  have e1 : (sortS l).toArray.size = (sortS l).length := List.size_toArray
  refine hc.mono ?_
  rintro e w' ⟨rfl, q, F, hF, rfl, hlow⟩
  rw [sort_len]
  have hlen : (compactUpTo (sortS l).toArray l.length).length ≤ l.length := by
    unfold compactUpTo
    rw [List.length_map]
    exact Nat.le_trans (List.length_filter_le _ _) (by rw [List.length_range]; exact Nat.le_refl _)
  refine ⟨rfl, ?_, ?_⟩
  · have e3 : l.toArray.size = l.length := List.size_toArray
    rw [hsz, e3] at hlow hF
    exact reads_low (F0 := flatK spE 2 (sortS l).toArray) hH2 (by rw [hF, size_flatK, hsz, List.size_toArray]) hlow (by rw [hF]; omega) (by unfold maxLen; omega) (fun p hp => hok p ((sort_mem l p).1 (by
      have := compact_mem (sortS l).toArray l.length (by rw [hsz, List.size_toArray]; exact Nat.le_refl _) p hp
      simpa using this)))
  · exact World.grownBy.trans (grown_sort wo n g (sortS l).toArray os) (grown_row _ q g F)
theorem spot_take (rs : List Ref) (i : Nat) (h : i < rs.length) : (rs.take (i + 1)).map spotR = (rs.take i).map spotR ++ [spotR (rs.getD i default)] := by
  have e : rs.getD i default = rs[i] := by simp [h]
  rw [List.take_add_one, List.getElem?_eq_getElem h, e]
  simp only [Option.toList_some, List.map_append, List.map_cons, List.map_nil]
set_option maxHeartbeats 8000000 in
set_option maxRecDepth 100000 in
theorem spots_calls (A : Option Addr) (k c : Nat) (rs : List Ref) (w : World) (h : RefsC w A k rs) (hk : k * 56 ≤ 140737488351232) :
    Calls Try.prog 26 #[.slice A k c] w fun e w' => ∃ A' c', e = .returned (.slice A' (spotsOf rs).length c') ∧ dSp.C w' A' (spotsOf rs).length (spotsOf rs) ∧ Below w.heap.size w w' := by
  have H := Aside0.mk h
  have HL := Aside0.mk h.len
  have HU := Aside0.mk Try.underlying56
  obtain ⟨Z, hz, hzv⟩ := zeroRef
  have HZ := Aside0.mk hz
  have HZV := Aside0.mk hzv
  clear h hz hzv
  go_enter Try.func26, Try.ntmps26
  go_wp2
  go_loopg [3, 8] (k + 1) (fun gk v3 v8 wr => ∃ i : Nat, v8 = .int .i64 i ∧ i ≤ k ∧ Aside0 (gk = k - i + 1) ∧ Aside0 (Kd.R dSp 61 wr w.heap.size (fun _ => True) (v3) ((rs.take i).map spotR)) ∧ Aside0 (Below w.heap.size w wr))
  case atStart => exact ⟨0, rfl, Nat.zero_le _, ⟨rfl⟩, ⟨Kd.R_nil _ _ _ _ _⟩, ⟨Below.refl _ _⟩⟩
  case round =>
    obtain ⟨i, rfl, hi, HG, HO, HB⟩ := hrel
    obtain ⟨wo, rfl⟩ : ∃ wo : World, wo = wr := ⟨_, rfl⟩
    by_cases hlt : i < k
    · have h1 : decide ((i : Int) < (k : Int)) = true := by simp; omega
      have hir : i < rs.length := by rw [HL.out]; exact hlt
      obtain ⟨ad, rfl⟩ := H.out.is (by omega)
      have hp1 : (0 : Int) ≤ (i : Int) := by omega
      have hp2 : (i : Int) < (k : Int) := by omega
      have hRA := (H.out.below HB.out).cells ad rfl i hlt
      have hok := H.out.ok i hlt
      have HST := Aside0.mk (show (rs.take (i + 1)).map spotR = (rs.take i).map spotR ++ [((rs.getD i default).bin, (rs.getD i default).slot)] from spot_take rs i hir)
      generalize hr0 : rs.getD i default = r at *
      clear hr0
      have HI := Aside0.mk (infoRef _ hok)
      have HRA := Aside0.mk hRA
      have HI2 : Aside0 ((Try.prog.info? 56).map (·.size) = some r.cells.toArray.size) := ⟨by rw [List.size_toArray]; exact HI.out⟩
      have HZC := Aside0.mk (show Z.size = r.cells.toArray.size from HZ.out.trans (by rw [List.size_toArray, Ref.cells_len hok]))
      have HON := Aside0.mk (Ref.cells_one (r := r))
      have HGX := heap_alloc_new wo (.cells r.cells.toArray 56)
      have c33 := obj_cell HGX 33 (Ref.cell_bin hok)
      have c34 := obj_cell HGX 34 (Ref.cell_slot hok)
      have HOK : Aside0 (OkS (r.bin, r.slot)) := ⟨⟨hok.b, hok.sl⟩⟩
      have HOA := Aside0.mk (Kd.R_alloc HO.out (.cells r.cells.toArray 56))
      have HBA := Aside0.mk (below_alloc HB.out (.cells r.cells.toArray 56))
      clear hRA hok HGX
      obtain ⟨C, hC⟩ : ∃ C, C = r.cells := ⟨_, rfl⟩
      rw [← hC] at HI HRA HI2 HZC HON c33 c34 HOA HBA
      clear hC
      generalize hwx : wo.alloc (.cells C.toArray 56) = wx at *
      have HWX := Aside0.mk hwx
      have hwxs : wx.heap.size = wo.heap.size + 1 := by rw [← hwx]; simp
      have HWS := Aside0.mk hwxs
      clear hwx hwxs
      generalize r.bin = rb at *
      generalize r.slot = rsl at *
      go_wp2_with (first
        | ((with_reducible refine gate_ (.load 56 (.tmp 10)) rfl ?_); refine Hd.wpList_load_any rfl _ (.tmp 10) rfl _ rfl C _ HRA.out HU.out rfl HI.out ?_)
        | ((with_reducible refine gate_ (.alloc 56) rfl ?_); refine Hd.step_run rfl (Hd.exec_alloc _ rfl _ (HZV.out _)) ?_; refine Hd.wpList_store_new rfl _ _ _ rfl _ Z C.toArray rfl rfl HZC.out HI2.out HON.out ?_; rw [HWX.out])
        | ((with_reducible refine gate_builtin (b := .append) (xs := #[.tmp 12, .tmp 18]) rfl ?_); at_builtin; refine app1 dSp flat_sp w.heap.size (w0 := w) (.tmp 12) (.tmp 18) 58 61 (.agg #[.int .i64 0, .int .i64 0]) 16 rfl rfl Try.underlying58 infoSpot rfl (by decide) (by decide) _ ((rs.take i).map spotR) (rb, rsl) (spE (rb, rsl)) rfl rfl ?aP ?aO ?aB ?aS ?aL ?_; (case aP => first | exact rfl | exact ⟨trivial, rfl⟩ | exact ⟨HOK.out, rfl⟩); (case aO => exact HOA.out); (case aB => exact (by repeat (first | (with_reducible first | exact HBA.out | apply below_alloc | apply pw_below_drewN | apply below_drew1) | exact HBA.out))); (case aS => exact (below_size (by repeat (first | (with_reducible first | exact HBA.out | apply below_alloc | apply pw_below_drewN | apply below_drew1) | exact HBA.out)))); (case aL => exact (by rw [List.length_map, List.length_take]; omega)); intro v1 w1 ho1 hb1 hg1 hat1; have HO1 := Aside0.mk ho1; have HB1 := Aside0.mk hb1; clear ho1 hb1 hg1 hat1))
      go_roundg (k - (i + 1) + 1)
      case measure => have := HG.out; omega
      case rel => exact ⟨i + 1, by go_num, by omega, ⟨rfl⟩, ⟨by rw [HST.out]; exact HO1.out⟩, HB1⟩
    · obtain rfl : i = k := by omega
      have h1 : decide ((i : Int) < (i : Int)) = false := by simp
      have hall : rs.take i = rs := List.take_of_length_le (by rw [HL.out]; exact Nat.le_refl _)
      have ho := HO.out
      rw [hall] at ho
      have HO1 := Aside0.mk ho
      clear ho hall HO
      by_cases hz : i = 0
      · subst hz
        have hrs : rs = [] := List.eq_nil_of_length_eq_zero HL.out
        subst hrs
        obtain ⟨A1, c1, hv, hlc, hC1⟩ := Kd.R_reads HO1.out
        have hv' : u3 = .slice A1 0 c1 := hv
        subst hv'
        have HC1 := Aside0.mk hC1
        clear hC1 hv hlc
        go_wp2_with (first
          | (go_at_call 36; (with_reducible refine (sort_none _ _ _ _).mono ?_); rintro e w' ⟨rfl, rfl⟩)
          | (go_at_call 40; (with_reducible refine (cpt_none _ _ _).mono ?_); rintro e w' ⟨rfl, rfl⟩))
        go_ret
        rw [spots_nil]
        exact ⟨A1, c1, rfl, HC1.out, HB.out⟩
      · obtain ⟨g, cap, hv, hgb, hgl, cur, hcur⟩ := Kd.R_form HO1.out (by rw [List.length_map, HL.out]; omega)
        subst hv
        have hln : (rs.map spotR).length = i := by rw [List.length_map, HL.out]
        have hR := Kd.R_reads' HO1.out
        have hC := hR.2.2
        rw [hln] at hR
        have hH := holds_C hC hcur
        have hs := sort_list g cap (rs.map spotR) wo hH hgl (by rw [hln]; omega)
        have hcp := fun n os => sorted_low (lo := 0) hln hk hC (by rw [hln]; exact hR.2.1) hcur n os
        rw [hln] at hs hcp
        have HS := Aside0.mk hs
        have HCP := Aside0.mk hcp
        have HGB := Aside0.mk hgb
        rw [hln]
        clear hs hcp hH hC hR hgb hcur HO1 hgl hln
        go_wp2_with (first
          | (go_at_call 36; (with_reducible refine (HS.out).mono ?_); rintro e w' ⟨rfl, n, os, rfl⟩)
          | (go_at_call 40; (with_reducible refine (HCP.out n os).mono ?_); rintro e w' ⟨rfl, hC9, hg9⟩; have HC9 := Aside0.mk hC9; have HG9 := Aside0.mk hg9; clear hC9 hg9))
        go_ret
        refine ⟨_, _, rfl, HC9.out, ?_⟩
        exact ReA.below_grown HB.out HG9.out (fun r e => by injection e with e; have := HGB.out; omega)
end Go.Proofs.Ytgofkhncaldheaa.SpG
