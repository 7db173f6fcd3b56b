/- slices.Backward at numbers: the last first; condition: the row reads as a list. -/
import Derived.Test.YtlmcompoalhpnaaSqJ
import Derived.RangeFuncKeeps
import Derived.RangeFuncLeaves
import Derived.RangeFuncNested
import Derived.RangeFuncBound
import Derived.RangeFuncCalls
import Derived.Shelf.Abstract
import Derived.WalkKit
import Derived.OwnWalkIn
import Derived.TacticsInMore
import Derived.LoopNIn
import Derived.LoopIn
namespace Go.Proofs.Ytlmcompoalhpnaa.SqR
open Go Go.RowKit Go.Shelf Go.Proofs.YtlmcompoalhpnaaW.PrintWords Go.Proofs.Ytlmcompoalhpnaa.K Go.Proofs.Ytlmcompoalhpnaa.OctS Go.Proofs.Ytlmcompoalhpnaa.OctP Go.Proofs.Ytlmcompoalhpnaa.Oct Go.Proofs.Ytlmcompoalhpnaa.Ap Go.Proofs.Ytlmcompoalhpnaa.SqF Go.Proofs.Ytlmcompoalhpnaa.SqJ
set_option linter.unusedVariables false
set_option linter.unusedSimpArgs false
attribute [local go_sem] Oper.semAt_some
/-- What the iterator asks of a round: the blocks of R lie as they lay. -/
def KeepR (R : Nat → Prop) (W W' : World) : Prop := W.heap.size ≤ W'.heap.size ∧ ∀ k, R k → k < W.heap.size → W'.heap[k]? = W.heap[k]?
theorem keepR_t {R : Nat → Prop} {A B C : World} (h : KeepR R A B) (k : KeepR R B C) : KeepR R A C := ⟨Nat.le_trans h.1 k.1, fun i hi hl => (k.2 i hi (Nat.lt_of_lt_of_le hl h.1)).trans (h.2 i hi hl)⟩
theorem keepR_b {R : Nat → Prop} {w : World} (hR : ∀ k, R k → k < w.heap.size) (W : World) (l : Nat) (o o' : Obj) (hl : w.heap.size ≤ l) (h : W.heap[l]? = some o) (_ : o.isCells = false) (_ : o.isWalk = false) : KeepR R W (W.putObj l o') :=
  ⟨(grownBy_putObj' W l o').size, fun k hk hlt => (grownBy_putObj' W l o').block k hlt (fun e => by injection e with e; have := hR k hk; omega)⟩
theorem keepR_below {R : Nat → Prop} {W W' : World} (h : Below W.heap.size W W') : KeepR R W W' := ⟨h.size, fun k _ hl => h.block k hl⟩
theorem keepR_grown {R : Nat → Prop} {W W' : World} {r : Nat} (h : W.grownBy W' (some r)) (hr : ¬ R r) : KeepR R W W' := ⟨h.size, fun k hk hl => h.block k hl (fun e => by injection e with e; subst e; exact hr hk)⟩
theorem cell_of {R : Nat → Prop} {W W' : World} (h : KeepR R W W') {b : Nat} (hb : R b) (hl : b < W.heap.size) (i : Nat) : W'.cell? ⟨b, i, none⟩ = W.cell? ⟨b, i, none⟩ := by
  unfold World.cell?
  rw [show W'.heap[b]? = W.heap[b]? from h.2 b hb hl]
def encI (ts : List Int) (x : Fin ts.length) : Array Value := #[.int .i64 (x.1 : Int), .int .i64 ts[x.1]]
/-- The places from i on, the last first. -/
def downTo (n i : Nat) : List Nat := ((List.range n).drop i).reverse
theorem down_end (n : Nat) : downTo n n = [] := by unfold downTo; rw [List.drop_of_length_le (by simp)]; rfl
theorem down_all (n : Nat) : downTo n 0 = (List.range n).reverse := by unfold downTo; rw [List.drop_zero]
theorem down_step (n j : Nat) (h : j < n) : downTo n j = downTo n (j + 1) ++ [j] := by
  unfold downTo
  rw [List.drop_eq_getElem_cons (by simpa using h), List.reverse_cons]
  simp
theorem down_pre (n j : Nat) : downTo n j <+: (List.range n).reverse := by
  unfold downTo
  rw [← List.reverse_reverse ((List.range n).drop j).reverse, List.reverse_reverse]
  conv => rhs; rw [← List.take_append_drop j (List.range n), List.reverse_append]
  exact List.prefix_append _ _
def nOf : Value → Nat
  | .int _ x => (x + 1).toNat
  | _ => 0
set_option maxRecDepth 100000 in
set_option maxHeartbeats 2000000 in
theorem backI_in (F : Fence) (n : Nat) (hf : F.fn 27) (hro : F.round = none) (hn : 1 ≤ n) (l Bn : Nat) (A : Option Addr) (c : Nat) (ts : List Int) (R : Nat → Prop) (J Jx : List (Fin ts.length) → World → Prop)
    (hY : ∀ pre x W, J pre W → pre.length < ts.length → YieldAt F (n - 1) Try.prog l (encI ts x) W fun e W' => (e = .returned (.bool true) ∧ J (pre ++ [x]) W' ∧ KeepR R W W') ∨ (e = .returned (.bool false) ∧ Jx (pre ++ [x]) W'))
    (W : World) (hR : R Bn) (hRA : ∀ a, A = some a → R a.block) (hBl : Bn < W.heap.size) (hAl : ∀ a, A = some a → a.block < W.heap.size) (hBn : W.cell? ⟨Bn, 0, none⟩ = some (.slice A ts.length c)) (hC : (Kd.int .i64).C W A ts.length ts) (h0 : J [] W) :
    CallsIn F n Try.prog 27 #[.func (.yield l) #[] #[], .pointer (some ⟨Bn, 0, none⟩)] W fun e W' => (∃ v, e = .returned v) ∧
      ((∃ ys : List (Fin ts.length), ys.map (·.val) = (List.range ts.length).reverse ∧ J ys W') ∨ (∃ pre : List (Fin ts.length), pre.map (·.val) <+: (List.range ts.length).reverse ∧ Jx pre W')) := by
  have hm := hC.2.1
  refine callsIn_of_wp Try.func27 rfl hf ?_ hro
  simp only [Try.ntmps27, List.size_toArray, List.length_cons, List.length_nil, Nat.reduceAdd, Nat.reduceSub, Array.replicate_succ, Array.replicate_zero, List.push_toArray, List.append_toArray, List.nil_append, List.cons_append]
  have hw0 : IntKind.i64.wrap ((ts.length : Int) - 1) = (ts.length : Int) - 1 := by rw [IntKind.wrap_i64]; omega
  gi_wp2
  gi_loopw [3] (fun v wr => ∃ (i : Nat) (pre : List (Fin ts.length)), v = .int .i64 ((i : Int) - 1) ∧ i ≤ ts.length ∧ Aside0 (pre.map (·.val) = downTo ts.length i) ∧ W.heap.size ≤ wr.heap.size ∧ wr.cell? ⟨Bn, 0, none⟩ = some (.slice A ts.length c) ∧ Aside0 ((Kd.int .i64).C wr A ts.length ts) ∧ Aside0 (J pre wr)) (fun v _ => nOf v)
  case atStart => exact ⟨ts.length, [], rfl, Nat.le_refl _, ⟨(down_end _).symm⟩, Nat.le_refl _, hBn, ⟨hC⟩, ⟨h0⟩⟩
  case round =>
    obtain ⟨i, pre, rfl, hi, HP, hsz, hbn, HC, HJ⟩ := hrel
    cases i with
    | zero =>
      have hd : decide ((0 : Int) ≤ ((0 : Nat) : Int) - 1) = false := by simp
      gi_wp2
      go_end0
      exact ⟨⟨_, rfl⟩, .inl ⟨pre, by rw [HP.out, down_all], HJ.out⟩⟩
    | succ j =>
      have hz : (((j + 1 : Nat) : Int) - 1) = (j : Int) := by omega
      rw [hz]
      have hd : decide ((0 : Int) ≤ (j : Int)) = true := by simp
      have hj : j < ts.length := by omega
      have hp1 : (0 : Int) ≤ (j : Int) := by omega
      have hp2 : (j : Int) < (ts.length : Int) := by omega
      have hwj : IntKind.i64.wrap ((j : Int) - 1) = (j : Int) - 1 := by rw [IntKind.wrap_i64]; omega
      obtain ⟨ad, rfl, b0⟩ := Kd.at_int HC.out (j : Int) (by omega) (by omega)
      have hg : rd ts (j : Int) = ts[j] := by show ts.getD ((j : Int).toNat) 0 = _; rw [Int.toNat_natCast]; simp [hj]
      rw [hg, Int.toNat_natCast] at b0
      obtain ⟨fn, tmps, assign, body, hy, hRn⟩ := hY pre ⟨j, hj⟩ wr HJ.out (by
        have := congrArg List.length HP.out
        simp [downTo] at this
        omega)
      have hy2 : (Instr.yield l #[.int .i64 (j : Int), .int .i64 ts[j]]).run Try.prog wr = .ok (Next.round l fn tmps assign body) wr := hy
      clear hy hg
      gi_wp2
      refine hRn.mono ?_
      rintro e W3 (⟨rfl, hJ3, hk3⟩ | ⟨rfl, hJx3⟩)
      · have hsz3 := Nat.le_trans hsz hk3.1
        have hbn3 := (cell_of hk3 hR (Nat.lt_of_lt_of_le hBl hsz) 0).trans hbn
        have HC3 := Aside0.mk (C_same HC.out (fun a ha => hk3.2 _ (hRA a ha) (Nat.lt_of_lt_of_le (hAl a ha) hsz)))
        gi_wp2
        go_roundw
        case rel => exact ⟨j, pre ++ [⟨j, hj⟩], rfl, by omega, ⟨by rw [List.map_append, HP.out, down_step _ j hj]; rfl⟩, hsz3, hbn3, HC3, ⟨hJ3⟩⟩
        case measure => simp [nOf]
      · gi_wp2
        refine bodyPost_ret (results_none rfl _ _ _) rfl ?_
        refine ⟨⟨_, rfl⟩, .inr ⟨pre ++ [⟨j, hj⟩], ?_, hJx3⟩⟩
        rw [List.map_append, HP.out]
        show downTo _ _ ++ [j] <+: _
        rw [← down_step _ j hj]
        exact down_pre _ _
theorem backI_stops (n : Nat) (hn : 1 ≤ n) (Bn : Nat) (A : Option Addr) (c : Nat) (ts : List Int) (R : Nat → Prop) (w : World) (hR : R Bn) (hRA : ∀ a, A = some a → R a.block) (hBl : Bn < w.heap.size) (hAl : ∀ a, A = some a → a.block < w.heap.size) (hBn : w.cell? ⟨Bn, 0, none⟩ = some (.slice A ts.length c)) (hC : (Kd.int .i64).C w A ts.length ts) :
    SeqStopsK Fence.wide n Try.prog 27 #[.pointer (some ⟨Bn, 0, none⟩)] (encI ts) (KeepR R) (fun ys => ys.map (·.val) = (List.range ts.length).reverse) (fun pre => pre.map (·.val) <+: (List.range ts.length).reverse) ts.length w := fun l J Jx W hW _ _ hY h0 =>
  backI_in Fence.wide n trivial rfl hn l Bn A c ts R J Jx hY W hR hRA (Nat.lt_of_lt_of_le hBl hW.size) (fun a ha => Nat.lt_of_lt_of_le (hAl a ha) hW.size) ((hW.cell (p := ⟨Bn, 0, none⟩) hBl).trans hBn) (Kd.C_below hC hW) h0
theorem backI_calls (A : Option Addr) (n c : Nat) (w : World) : Calls Try.prog 25 #[.slice A n c] w fun e w' => e = .returned (.func (.func 27) #[] #[.pointer (some ⟨w.heap.size, 0, none⟩)]) ∧ w' = w.alloc (.cells #[.slice A n c] 57) := by
  go_enter Try.func25, Try.ntmps25
  go_wp2
  go_ret
  exact ⟨rfl, rfl⟩
end Go.Proofs.Ytlmcompoalhpnaa.SqR
