/- Find and Bins of a nil cache; no condition. -/
import Derived.Test.YtocmljijdecilaaCaG
namespace Go.Proofs.Ytocmljijdecilaa.CaH
open Go Go.RowKit Go.Proofs.YtocmljijdecilaaW.PrintWords Go.Proofs.Ytocmljijdecilaa.K Go.Proofs.Ytocmljijdecilaa.CaS Go.Proofs.Ytocmljijdecilaa.CaO Go.Proofs.Ytocmljijdecilaa.CaQ Go.Proofs.Ytocmljijdecilaa.CaF
set_option linter.unusedVariables false
set_option linter.unusedSimpArgs false
attribute [local go_sem] Oper.semAt_some
theorem nil_bins (w : World) : Calls Try.prog 23 #[.pointer none] w fun e w' => e = .returned (.slice none 0 0) ∧ w' = w.alloc (.cells #[.slice none 0 0] 54) := by
  refine (callsIn_wide (n := 3)).1 ?_
  refine callsIn_of_wp_marks Try.func23 rfl trivial ?_ rfl
  simp only [Try.ntmps23, List.size_toArray, List.length_cons, List.length_nil, Nat.reduceAdd, Nat.reduceSub, Array.replicate_succ, Array.replicate_zero, List.push_toArray, List.append_toArray, List.nil_append, List.cons_append]
  refine wpIn_wide.2 ?_
  go_wp2
  exact ⟨_, results_tmp rfl _ _ _, rfl, rfl⟩
set_option maxHeartbeats 2000000 in
set_option maxRecDepth 100000 in
theorem nil_find (s : Sm) (w : World) : Calls Try.prog 12 #[.pointer none, sumV s] w fun e w' => e = .returned (.tuple #[.int .i64 0, .int .i64 0, .bool false]) ∧ w.grownBy w' none := by
  have n2 : (((((w.alloc (.cells #[.pointer none] 22)).alloc (.cells (nums .u8 s).toArray 35)).alloc (.cells #[.int .i64 0] 3)).alloc (.cells #[.int .i64 0] 3)).alloc (.cells #[.bool false] 4)).heap[w.heap.size + 1 + 1]? = some (.cells #[.int .i64 0] 3 (0, 0)) := old_al (old_al (new_at _ _ _ (by simp)))
  have n3 : (((((w.alloc (.cells #[.pointer none] 22)).alloc (.cells (nums .u8 s).toArray 35)).alloc (.cells #[.int .i64 0] 3)).alloc (.cells #[.int .i64 0] 3)).alloc (.cells #[.bool false] 4)).heap[w.heap.size + 1 + 1 + 1]? = some (.cells #[.int .i64 0] 3 (0, 0)) := old_al (new_at _ _ _ (by simp))
  have n4 : (((((w.alloc (.cells #[.pointer none] 22)).alloc (.cells (nums .u8 s).toArray 35)).alloc (.cells #[.int .i64 0] 3)).alloc (.cells #[.int .i64 0] 3)).alloc (.cells #[.bool false] 4)).heap[w.heap.size + 1 + 1 + 1 + 1]? = some (.cells #[.bool false] 4 (0, 0)) := new_at _ _ _ (by simp)
  have hb : Below w.heap.size w (((((w.alloc (.cells #[.pointer none] 22)).alloc (.cells (nums .u8 s).toArray 35)).alloc (.cells #[.int .i64 0] 3)).alloc (.cells #[.int .i64 0] 3)).alloc (.cells #[.bool false] 4)) := below_alloc (below_alloc (below_alloc (below_alloc (below_alloc (Below.refl w.heap.size w) _) _) _) _) _
  have HN2 := Aside0.mk n2
  have HN3 := Aside0.mk n3
  have HN4 := Aside0.mk n4
  have HB := Aside0.mk hb
  unfold sumV
  clear n2 n3 n4 hb
  refine (callsIn_wide (n := 3)).1 ?_
  refine callsIn_of_wp_marks Try.func12 rfl trivial ?_ rfl
  simp only [Try.ntmps12, List.size_toArray, List.length_cons, List.length_nil, Nat.reduceAdd, Nat.reduceSub, Array.replicate_succ, Array.replicate_zero, List.push_toArray, List.append_toArray, List.nil_append, List.cons_append]
  refine wpIn_wide.2 ?_
  go_wp2
  exact ⟨_, results_cells3 rfl _ _ (w.heap.size + 1 + 1) _ _ _ rfl rfl rfl (load_int _ _ _ HN2.out) (load_int _ _ _ HN3.out) (load_bool _ _ _ HN4.out), rfl, grown_below HB.out⟩
end Go.Proofs.Ytocmljijdecilaa.CaH
