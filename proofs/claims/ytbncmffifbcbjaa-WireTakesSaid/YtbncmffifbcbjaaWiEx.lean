/- The early returns of the reference's Take of wire: no note, and why; each region once, for every frame. -/
import Derived.Test.YtbncmffifbcbjaaWiU
namespace Go.Proofs.Ytbncmffifbcbjaa.WiEx
open Go Go.RowKit Go.Proofs.YtbncmffifbcbjaaW.PrintWords Go.Proofs.Ytbncmffifbcbjaa.K Go.Proofs.Ytbncmffifbcbjaa.WiU
set_option linter.unusedVariables false
set_option linter.unusedSimpArgs false
abbrev zE : List Value := [.int .i64 0, .string ⟨#[]⟩, .int .i64 0, .int .i64 0, .slice none 0 0, .slice none 0 0, .slice none 0 0]
theorem built (W : World) : (Instr.build 27 #[]).run Try.prog W = .ok (.agg zE.toArray) W := run_build W _ _ _ (by kernel_rfl)
theorem one : zE.toArray.all (·.oneCell') = true := by kernel_rfl
theorem run_built {o : Oper} {ev : Operand → Value} {W : World} (h : o.op = .build 27 #[]) : (execOp ev o).run Try.prog W = .ok (.value (.agg zE.toArray)) W := Hd.exec_build _ _ h (by simpa using built W)
theorem run_move {o : Oper} {ev : Operand → Value} {x : Operand} {W : World} (h : o.op = .move x) : (execOp ev o).run Try.prog W = .ok (.value (ev x)) W := by
  unfold execOp; simp only [h]; rfl
theorem run_assign {o : Oper} {ev : Operand → Value} {x : Operand} {W : World} (h : o.op = .assign x) : (execOp ev o).run Try.prog W = .ok (.value (ev x)) W := by
  unfold execOp; simp only [h]; rfl
theorem getD_set {T : Array Value} {i j : Nat} {v : Value} (h : i ≠ j) : (T.setIfInBounds i v).getD j undef = T.getD j undef := by
  simp [Array.getD_eq_getD_getElem?, Array.getElem?_setIfInBounds_ne h]
theorem getD_self {T : Array Value} {i : Nat} {v : Value} (h : i < T.size) : (T.setIfInBounds i v).getD i undef = v := by
  simp [Array.getD_eq_getD_getElem?, h]
section
variable {id : Nat} {o0 o1 o2 o3 : Oper} {x y z g0 : Nat} {T : Array Value} {ds : List Deferred} {W : World} {Q : Exit → Act → World → Prop} {K : Act → World → Prop} {e : Int} {t : TypeId}
theorem exit4 (h0 : o0.op = .build 27 #[]) (d0 : o0.dst = some x) (n0 : o0.guard = none) (h1 : o1.op = .move (.tmp z)) (d1 : o1.dst = some y) (n1 : o1.guard = none)
    (h2 : o2.op = .store 27 (.tmp 2) (.tmp x)) (d2 : o2.dst = none) (n2 : o2.guard = none) (h3 : o3.op = .assign (.tmp y)) (d3 : o3.dst = some 3) (n3 : o3.guard = none)
    (hx : (3 < x ∧ x < y ∧ y < T.size ∧ x ≠ z : Bool) = true) (t2 : T.getD 2 undef = .pointer (some ⟨g0, 0, none⟩)) (tz : T.getD z undef = .int .i64 e)
    (hb : W.heap[g0]? = some (.cells zE.toArray t (0, 0))) (hK : ∀ a w, Code.ret.wp Try.prog Q a w → K a w)
    (h : ∀ T' : Array Value, T'.getD 2 undef = .pointer (some ⟨g0, 0, none⟩) → T'.getD 3 undef = .int .i64 e → Q .ret ⟨T', ds⟩ (W.setCells g0 0 zE)) :
    (Code.region id #[o0, o1, o2, o3] false).wp Try.prog (Exit.then K Q) ⟨T, ds⟩ W := by
  simp only [Bool.decide_and, Bool.and_eq_true, decide_eq_true_eq] at hx
  obtain ⟨x3, xy, ys, xz⟩ := hx
  refine wp_region_lit ?_
  refine Hd.step_run n0 (run_built h0) ?_
  refine Hd.step_run n1 (run_move h1) ?_
  rw [d0, d1]
  simp only [Act.put]
  have ev : (Act.mk (T.setIfInBounds x (.agg zE.toArray)) ds).eval (.tmp z) = .int .i64 e := (getD_set xz).trans tz
  rw [ev]
  refine wpList_store_mid n2 _ _ _ h2 g0 0 zE.toArray ?_ ?_ (there_of hb rfl) infoNote one ?_
  · exact (getD_set (by omega)).trans ((getD_set (by omega)).trans t2)
  · exact (getD_set (by omega)).trans (getD_self (by omega))
  refine Hd.step_run n3 (run_assign h3) ?_
  rw [d2, d3]
  simp only [Act.put]
  refine wpList_nil (hK _ _ (wp_ret (h _ ?_ ?_)))
  · exact (getD_set (by omega)).trans ((getD_set (by omega)).trans ((getD_set (by omega)).trans t2))
  · rw [getD_self (by simp; omega)]
    exact getD_self (by simpa using ys)
theorem exit3 (h0 : o0.op = .build 27 #[]) (d0 : o0.dst = some x) (n0 : o0.guard = none)
    (h2 : o2.op = .store 27 (.tmp 2) (.tmp x)) (d2 : o2.dst = none) (n2 : o2.guard = none) (h3 : o3.op = .assign (.const (.int .i64 e))) (d3 : o3.dst = some 3) (n3 : o3.guard = none)
    (hx : (3 < x ∧ x < T.size : Bool) = true) (t2 : T.getD 2 undef = .pointer (some ⟨g0, 0, none⟩))
    (hb : W.heap[g0]? = some (.cells zE.toArray t (0, 0))) (hK : ∀ a w, Code.ret.wp Try.prog Q a w → K a w)
    (h : ∀ T' : Array Value, T'.getD 2 undef = .pointer (some ⟨g0, 0, none⟩) → T'.getD 3 undef = .int .i64 e → Q .ret ⟨T', ds⟩ (W.setCells g0 0 zE)) :
    (Code.region id #[o0, o2, o3] false).wp Try.prog (Exit.then K Q) ⟨T, ds⟩ W := by
  simp only [Bool.decide_and, Bool.and_eq_true, decide_eq_true_eq] at hx
  obtain ⟨x3, xs⟩ := hx
  refine wp_region_lit ?_
  refine Hd.step_run n0 (run_built h0) ?_
  rw [d0]
  simp only [Act.put]
  refine wpList_store_mid n2 _ _ _ h2 g0 0 zE.toArray ?_ ?_ (there_of hb rfl) infoNote one ?_
  · exact (getD_set (by omega)).trans t2
  · exact getD_self xs
  refine Hd.step_run n3 (run_assign h3) ?_
  rw [d2, d3]
  simp only [Act.put]
  refine wpList_nil (hK _ _ (wp_ret (h _ ?_ ?_)))
  · exact (getD_set (by omega)).trans ((getD_set (by omega)).trans t2)
  · exact getD_self (by simp; omega)
end
end Go.Proofs.Ytbncmffifbcbjaa.WiEx
