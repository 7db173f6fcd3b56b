/- What wire's named computes; condition: none. -/
import Derived.Test.YtbncmffifbcbjaaWiC
namespace Go.Proofs.Ytbncmffifbcbjaa.WiA
open Go Go.RowKit Go.Proofs.YtbncmffifbcbjaaW.PrintWords Go.Proofs.Ytbncmffifbcbjaa.K Go.Proofs.Ytbncmffifbcbjaa.WiC
set_option linter.unusedVariables false
set_option linter.unusedSimpArgs false
theorem lit_C (w : World) (l : List Int) (t : TypeId) (hl : l.length ≤ maxLen) : (Kd.int .i64).C (w.alloc (.cells (nums .i64 l).toArray t)) (some ⟨w.heap.size, 0, none⟩) l.length l := by
  refine Kd.C_of_reads (d := 0) ⟨rfl, by simpa [maxLen] using hl, fun _ => ⟨⟨w.heap.size, 0, none⟩, rfl, fun j hj => ?_⟩⟩
  have : (w.alloc (.cells (nums .i64 l).toArray t)).cell? ⟨w.heap.size, 0 + j, none⟩ = some (.int .i64 (l.getD j 0)) := by
    unfold World.cell?
    simp only [heap_alloc_new]
    simp [nums, hj]
  rw [Nat.zero_add] at this
  by_cases hj0 : j = 0
  · subst hj0; simpa [Addr.add] using this
  · simpa [Addr.add, hj0] using this
theorem is_calls (A : Option Addr) (k c : Nat) (l : List Int) (g : Nat) (s : Int) (w : World) (h : (Kd.int .i64).C w A k l) (hg : w.heap[g]? = some (.cells #[.int .i64 s] 22 (0, 0))) :
    Calls Try.prog 36 #[.slice A k c, .pointer (some ⟨g, 0, none⟩)] w fun e w' => e = .returned (.bool (decide (s ∈ l))) ∧ Below w.heap.size w w' := by
  have HC := Aside0.mk (contains_calls A k c l s w h)
  have q := obj_cell (v := .int .i64 s) hg 0 rfl
  clear h hg
  go_enter Try.func36, Try.ntmps36
  go_wp2_with (go_at_call 37; (with_reducible refine (HC.out).mono ?_); rintro e w' ⟨rfl, hb4⟩; have HB4 := Aside0.mk hb4; clear hb4)
  go_ret
  exact ⟨rfl, HB4.out⟩
theorem is_at (W : World) (g : Nat) (s : Int) (hg : W.heap[g]? = some (.cells #[.int .i64 s] 22 (0, 0))) (l : List Int) (hl : l.length ≤ maxLen) :
    Calls Try.prog 36 #[.slice (some ⟨W.heap.size, 0, none⟩) l.length l.length, .pointer (some ⟨g, 0, none⟩)] (W.alloc (.cells (nums .i64 l).toArray 22)) fun e w' => e = .returned (.bool (decide (s ∈ l))) ∧ Below W.heap.size W w' :=
  (is_calls _ _ _ l g s _ (lit_C W l _ hl) ((Below.heap_alloc W _ g (Array.getElem?_eq_some_iff.1 hg).1).trans hg)).mono fun e w' ⟨h1, h2⟩ => ⟨h1, below_then (below_alloc (Below.refl _ W) _) (by simp) h2⟩
def hasF (s : Int) : Bool := decide (s ∈ [3, 4, 5, 6, 7])
def hasI (s : Int) : Bool := decide (s ∈ [6, 7])
def hasH (s : Int) : Bool := decide (s ∈ [2])
def hasP (s : Int) : Bool := decide (s ∈ [4])
def hasB (s : Int) : Bool := decide (s ∈ [7])
def namesV (s : Int) : Value := .agg #[.bool (hasF s), .bool (hasI s), .bool (hasH s), .bool (hasP s), .bool (hasB s)]
theorem infoNames : (Try.prog.info? 40).map (·.size) = some 5 := by kernel_rfl
set_option maxHeartbeats 2000000 in
theorem named_calls (s : Int) (w : World) : Calls Try.prog 15 #[.int .i64 s] w fun e w' => e = .returned (namesV s) ∧ Below w.heap.size w w' := by
  have hmf : ∀ (fn : Fn) (first cap : Array Value) (w : World), (Instr.makeFunc fn first cap).run Try.prog w = .ok (.func fn first cap) w := fun _ _ _ _ => rfl
  go_enter Try.func15, Try.ntmps15
  go_wp2_with fail
  obtain ⟨W0, hW0⟩ : ∃ W0, W0 = (w.alloc (.cells #[.int .i64 s] 22)).alloc (.cells #[.bool false, .bool false, .bool false, .bool false, .bool false] 40) := ⟨_, rfl⟩
  rw [← hW0]
  have hz0 : W0.heap.size = w.heap.size + 1 + 1 := by rw [hW0]; simp
  have hb0 : Below w.heap.size w W0 := by rw [hW0]; exact below_alloc (below_alloc (Below.refl _ _) _) _
  have hg0 : W0.heap[w.heap.size]? = some (.cells #[.int .i64 s] 22 (0, 0)) := by rw [hW0]; exact (Below.heap_alloc _ _ _ (by simp)).trans (heap_alloc_new w _)
  have hr0 : W0.heap[w.heap.size + 1]? = some (.cells #[.bool false, .bool false, .bool false, .bool false, .bool false] 40 (0, 0)) := by
    rw [hW0]
    have := heap_alloc_new (w.alloc (.cells #[.int .i64 s] 22)) (.cells #[.bool false, .bool false, .bool false, .bool false, .bool false] 40)
    rwa [World.size_alloc] at this
  rw [show w.heap.size + 1 + 1 = W0.heap.size from hz0.symm]
  clear hW0 hmf
  refine (is_at W0 w.heap.size s hg0 [3, 4, 5, 6, 7] (by decide)).mono ?_
  rintro e W1 ⟨rfl, hb⟩
  rw [show decide (s ∈ [3, 4, 5, 6, 7]) = hasF s from rfl]
  generalize hqhasF : hasF s = bhasF
  have HQhasF := Aside0.mk hqhasF
  clear hqhasF
  have hb1 := below_then hb0 hb0.size hb
  have hg1 := (hb.block _ (Array.getElem?_eq_some_iff.1 hg0).1).trans hg0
  have hr1 := (hb.block _ (Array.getElem?_eq_some_iff.1 hr0).1).trans hr0
  clear hb hb0 hg0 hr0
  clear hz0
  have HB1 := Aside0.mk hb1
  have HG1 := Aside0.mk hg1
  have HR1 := Aside0.mk hr1
  clear hb1 hg1 hr1
  go_wp2_with fail
  have hb1 := HB1.out
  have hg1 := HG1.out
  have hr1 := HR1.out
  refine (is_at W1 w.heap.size s hg1 [6, 7] (by decide)).mono ?_
  rintro e W2 ⟨rfl, hb⟩
  rw [show decide (s ∈ [6, 7]) = hasI s from rfl]
  generalize hqhasI : hasI s = bhasI
  have HQhasI := Aside0.mk hqhasI
  clear hqhasI
  have hb2 := below_then hb1 hb1.size hb
  have hg2 := (hb.block _ (Array.getElem?_eq_some_iff.1 hg1).1).trans hg1
  have hr2 := (hb.block _ (Array.getElem?_eq_some_iff.1 hr1).1).trans hr1
  clear hb hb1 hg1 hr1
  have HB2 := Aside0.mk hb2
  have HG2 := Aside0.mk hg2
  have HR2 := Aside0.mk hr2
  clear hb2 hg2 hr2
  go_wp2_with fail
  have hb2 := HB2.out
  have hg2 := HG2.out
  have hr2 := HR2.out
  refine (is_at W2 w.heap.size s hg2 [2] (by decide)).mono ?_
  rintro e W3 ⟨rfl, hb⟩
  rw [show decide (s ∈ [2]) = hasH s from rfl]
  generalize hqhasH : hasH s = bhasH
  have HQhasH := Aside0.mk hqhasH
  clear hqhasH
  have hb3 := below_then hb2 hb2.size hb
  have hg3 := (hb.block _ (Array.getElem?_eq_some_iff.1 hg2).1).trans hg2
  have hr3 := (hb.block _ (Array.getElem?_eq_some_iff.1 hr2).1).trans hr2
  clear hb hb2 hg2 hr2
  have HB3 := Aside0.mk hb3
  have HG3 := Aside0.mk hg3
  have HR3 := Aside0.mk hr3
  clear hb3 hg3 hr3
  go_wp2_with fail
  have hb3 := HB3.out
  have hg3 := HG3.out
  have hr3 := HR3.out
  refine (is_at W3 w.heap.size s hg3 [4] (by decide)).mono ?_
  rintro e W4 ⟨rfl, hb⟩
  rw [show decide (s ∈ [4]) = hasP s from rfl]
  generalize hqhasP : hasP s = bhasP
  have HQhasP := Aside0.mk hqhasP
  clear hqhasP
  have hb4 := below_then hb3 hb3.size hb
  have hg4 := (hb.block _ (Array.getElem?_eq_some_iff.1 hg3).1).trans hg3
  have hr4 := (hb.block _ (Array.getElem?_eq_some_iff.1 hr3).1).trans hr3
  clear hb hb3 hg3 hr3
  have HB4 := Aside0.mk hb4
  have HG4 := Aside0.mk hg4
  have HR4 := Aside0.mk hr4
  clear hb4 hg4 hr4
  go_wp2_with fail
  have hb4 := HB4.out
  have hg4 := HG4.out
  have hr4 := HR4.out
  refine (is_at W4 w.heap.size s hg4 [7] (by decide)).mono ?_
  rintro e W5 ⟨rfl, hb⟩
  rw [show decide (s ∈ [7]) = hasB s from rfl]
  generalize hqhasB : hasB s = bhasB
  have HQhasB := Aside0.mk hqhasB
  clear hqhasB
  have hb5 := below_then hb4 hb4.size hb
  have hg5 := (hb.block _ (Array.getElem?_eq_some_iff.1 hg4).1).trans hg4
  have hr5 := (hb.block _ (Array.getElem?_eq_some_iff.1 hr4).1).trans hr4
  clear hb hb4 hg4 hr4
  have c0 := obj_cell (v := .bool false) hr5 0 rfl
  have c1 := obj_cell (v := .bool false) hr5 1 rfl
  have c2 := obj_cell (v := .bool false) hr5 2 rfl
  have c3 := obj_cell (v := .bool false) hr5 3 rfl
  have c4 := obj_cell (v := .bool false) hr5 4 rfl
  have f0 := obj_free hr5 0
  have f1 := obj_free hr5 1
  have f2 := obj_free hr5 2
  have f3 := obj_free hr5 3
  have f4 := obj_free hr5 4
  have HB5 := Aside0.mk hb5
  have HR5 := Aside0.mk hr5
  clear hb5 hg5 hr5
  go_wp2
  obtain ⟨W6, hW6⟩ : ∃ W6, W6 = ((((W5.setCell ⟨w.heap.size + 1, 0, none⟩ (.bool bhasF)).setCell ⟨w.heap.size + 1, 1, none⟩ (.bool bhasI)).setCell ⟨w.heap.size + 1, 2, none⟩ (.bool bhasH)).setCell ⟨w.heap.size + 1, 3, none⟩ (.bool bhasP)).setCell ⟨w.heap.size + 1, 4, none⟩ (.bool bhasB) := ⟨_, rfl⟩
  rw [← hW6]
  have e6 : W6.heap[w.heap.size + 1]? = some (.cells #[.bool bhasF, .bool bhasI, .bool bhasH, .bool bhasP, .bool bhasB] 40 (0, 0)) := by
    rw [hW6]
    exact obj_set (obj_set (obj_set (obj_set (obj_set HR5.out 0 _) 1 _) 2 _) 3 _) 4 _
  have b6 : Below w.heap.size w W6 := by
    rw [hW6]
    exact ((((HB5.out.setCell (Nat.le_succ _) _).setCell (Nat.le_succ _) _).setCell (Nat.le_succ _) _).setCell (Nat.le_succ _) _).setCell (Nat.le_succ _) _
  exact bodyPost_ret (results_cell_row rfl _ _ (w.heap.size + 1) 40 _ (0, 0) _ rfl e6 Try.underlying40 rfl infoNames) rfl ⟨by unfold namesV; rw [HQhasF.out, HQhasI.out, HQhasH.out, HQhasP.out, HQhasB.out], b6⟩
end Go.Proofs.Ytbncmffifbcbjaa.WiA
