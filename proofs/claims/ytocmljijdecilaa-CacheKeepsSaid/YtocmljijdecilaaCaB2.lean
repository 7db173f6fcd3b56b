/- slices.Backward at sums: the last first; condition: the row reads as a list. -/
import Derived.Test.YtocmljijdecilaaCaB
namespace Go.Proofs.Ytocmljijdecilaa.CaB2
open Go Go.RowKit Go.Shelf Go.Proofs.YtocmljijdecilaaW.PrintWords Go.Proofs.Ytocmljijdecilaa.K Go.Proofs.Ytocmljijdecilaa.Mp Go.Proofs.Ytocmljijdecilaa.Eq Go.Proofs.Ytocmljijdecilaa.CaS Go.Proofs.Ytocmljijdecilaa.CaC Go.Proofs.Ytocmljijdecilaa.CaD Go.Proofs.Ytocmljijdecilaa.CaA Go.Proofs.Ytocmljijdecilaa.CaB
set_option linter.unusedVariables false
set_option linter.unusedSimpArgs false
attribute [local go_sem] Oper.semAt_some
section
variable {P : Program}
theorem gateIn {F : Fence} {n : Nat} {ops : Array Oper} {Q : Exit → Act → World → Prop} {o : Oper} {rest : List Oper} {a : Act} {w : World} (op : Op) (_ : o.op = op) (h : wpListIn F n P ops Q (o :: rest) a w) : wpListIn F n P ops Q (o :: rest) a w := h
theorem listIn_load_any {n : Nat} {ops : Array Oper} {Q : Exit → Act → World → Prop} {o : Oper} {rest : List Oper} {a : Act} {w : World} (hgd : o.guard = none) (ty : TypeId) (x : Operand) (ho : o.op = .load ty x) (ad : Addr) (hx : a.eval x = .pointer (some ad)) (cs : List Value) (d : TypeDesc) (hc : Hd.RangeA w ad cs)
    (hu : P.underlying ty = some d) (hd : d.isRow = true) (hi : (P.info? ty).map (·.size) = some cs.length) (h : wpListIn Fence.wide n P ops Q rest (a.put o.dst (.agg cs.toArray)) w) : wpListIn Fence.wide n P ops Q (o :: rest) a w := by
  have hw : Region.wanted o (yielded ops a.tmps) = true := by simp [Region.wanted, hgd]
  have hrun : (execOp a.eval o).run P w = .ok (.value (.agg cs.toArray)) w := by
    unfold execOp
    simp only [ho, hx, Instr.loadAt, Instr.sureAddr, Sem.run_bind, Sem.run_pure, Result.andThen_ok, Hd.run_load_any w ad ty cs d hc hu hd hi]
  unfold wpListIn
  rw [if_pos hw]
  refine ⟨fun _ _ => trivial, ?_⟩
  rw [Oper.semAt_eq _ _ _ (by intro c hcd; rw [ho] at hcd; cases hcd), hrun]
  exact h
end
theorem sm_at {w : World} {A : Option Addr} {n : Nat} {xs : List Sm} (h : dSum.C w A n xs) (i : Nat) (hi : i < xs.length) : ∃ ad, A = some ad ∧ OkSum xs[i] ∧ Hd.RangeA w (ad.add (i * 32)) (nums .u8 xs[i]) := by
  have hl := h.1
  obtain ⟨ad, had, hc⟩ := h.2.2 (by omega)
  obtain ⟨cs, h1, ⟨ho, rfl⟩, h3⟩ := hc i _ (List.getElem?_eq_getElem hi)
  refine ⟨ad, had, ho, fun j v hv => ?_⟩
  rw [Addr.add_add]
  exact h3 j v hv
theorem info32 : (Try.prog.info? 35).map (·.size) = some 32 := by kernel_rfl
theorem infoSmS (s : Sm) (h : OkSum s) : (Try.prog.info? 35).map (·.size) = some (nums .u8 s).length := by
  have e : (nums .u8 s).length = 32 := by simp [nums, h.1]
  exact info32.trans (by rw [e])
def encS (ss : List Sm) (x : Fin ss.length) : Array Value := #[.int .i64 (x.1 : Int), .agg (nums .u8 ss[x.1]).toArray]
set_option maxRecDepth 100000 in
set_option maxHeartbeats 2000000 in
theorem backS_in (n : Nat) (hn : 1 ≤ n) (l Bn : Nat) (A : Option Addr) (c : Nat) (ts : List Sm) (R : Nat → Prop) (J Jx : List (Fin ts.length) → World → Prop)
    (hY : ∀ pre x W, J pre W → pre.length < ts.length → YieldAt Fence.wide (n - 1) Try.prog l (encS ts x) W fun e W' => (e = .returned (.bool true) ∧ J (pre ++ [x]) W' ∧ KeepR R W W') ∨ (e = .returned (.bool false) ∧ Jx (pre ++ [x]) W'))
    (W : World) (hR : R Bn) (hRA : ∀ a, A = some a → R a.block) (hBl : Bn < W.heap.size) (hAl : ∀ a, A = some a → a.block < W.heap.size) (hBn : W.cell? ⟨Bn, 0, none⟩ = some (.slice A ts.length c)) (hC : dSum.C W A ts.length ts) (h0 : J [] W) :
    CallsIn Fence.wide n Try.prog 37 #[.func (.yield l) #[] #[], .pointer (some ⟨Bn, 0, none⟩)] W fun e W' => (∃ v, e = .returned v) ∧
      ((∃ ys : List (Fin ts.length), ys.map (·.val) = (List.range ts.length).reverse ∧ J ys W') ∨ (∃ pre : List (Fin ts.length), pre.map (·.val) <+: (List.range ts.length).reverse ∧ Jx pre W')) := by
  have hm := hC.2.1
  refine callsIn_of_wp Try.func37 rfl trivial ?_ rfl
  simp only [Try.ntmps37, List.size_toArray, List.length_cons, List.length_nil, Nat.reduceAdd, Nat.reduceSub, Array.replicate_succ, Array.replicate_zero, List.push_toArray, List.append_toArray, List.nil_append, List.cons_append]
  have hw0 : IntKind.i64.wrap ((ts.length : Int) - 1) = (ts.length : Int) - 1 := by rw [IntKind.wrap_i64]; omega
  gi_wp2
  gi_loopw [3] (fun v wr => ∃ (i : Nat) (pre : List (Fin ts.length)), v = .int .i64 ((i : Int) - 1) ∧ i ≤ ts.length ∧ Aside0 (pre.map (·.val) = downTo ts.length i) ∧ W.heap.size ≤ wr.heap.size ∧ wr.cell? ⟨Bn, 0, none⟩ = some (.slice A ts.length c) ∧ Aside0 (dSum.C wr A ts.length ts) ∧ Aside0 (J pre wr)) (fun v _ => nOf v)
  case atStart => exact ⟨ts.length, [], rfl, Nat.le_refl _, ⟨(down_end _).symm⟩, Nat.le_refl _, hBn, ⟨hC⟩, ⟨h0⟩⟩
  case round =>
    obtain ⟨i, pre, rfl, hi, HP, hsz, hbn, HC, HJ⟩ := hrel
    cases i with
    | zero =>
      have hd : decide ((0 : Int) ≤ ((0 : Nat) : Int) - 1) = false := by simp
      gi_wp2
      go_end0
      exact ⟨⟨_, rfl⟩, .inl ⟨pre, by rw [HP.out, down_all], HJ.out⟩⟩
    | succ j =>
      have hz : (((j + 1 : Nat) : Int) - 1) = (j : Int) := by omega
      rw [hz]
      have hd : decide ((0 : Int) ≤ (j : Int)) = true := by simp
      have hj : j < ts.length := by omega
      have hp1 : (0 : Int) ≤ (j : Int) := by omega
      have hp2 : (j : Int) < (ts.length : Int) := by omega
      have hwj : IntKind.i64.wrap ((j : Int) - 1) = (j : Int) - 1 := by rw [IntKind.wrap_i64]; omega
      obtain ⟨ad, rfl, hok, hra⟩ := sm_at HC.out j hj
      have HRA := Aside0.mk hra
      have HIS := Aside0.mk (infoSmS ts[j] hok)
      clear hra hok
      obtain ⟨fn, tmps, assign, body, hy, hRn⟩ := hY pre ⟨j, hj⟩ wr HJ.out (by
        have := congrArg List.length HP.out
        simp [downTo] at this
        omega)
      have hy2 : (Instr.yield l #[.int .i64 (j : Int), .agg (nums .u8 ts[j]).toArray]).run Try.prog wr = .ok (Next.round l fn tmps assign body) wr := hy
      clear hy
      have HUS := Aside0.mk Try.underlying35
      generalize nums .u8 ts[j] = N at *
      gi_wp2_with ((with_reducible refine gateIn (.load 35 (.tmp 15)) rfl ?_); refine listIn_load_any rfl _ (.tmp 15) rfl _ rfl N _ HRA.out HUS.out rfl HIS.out ?_)
      refine hRn.mono ?_
      rintro e W3 (⟨rfl, hJ3, hk3⟩ | ⟨rfl, hJx3⟩)
      · have hsz3 := Nat.le_trans hsz hk3.1
        have hbn3 := (cell_of hk3 hR (Nat.lt_of_lt_of_le hBl hsz) 0).trans hbn
        have HC3 := Aside0.mk (C_same HC.out (fun a ha => hk3.2 _ (hRA a ha) (Nat.lt_of_lt_of_le (hAl a ha) hsz)))
        gi_wp2
        go_roundw
        case rel => exact ⟨j, pre ++ [⟨j, hj⟩], rfl, by omega, ⟨by rw [List.map_append, HP.out, down_step _ j hj]; rfl⟩, hsz3, hbn3, HC3, ⟨hJ3⟩⟩
        case measure => simp [nOf]
      · gi_wp2
        refine bodyPost_ret (results_none rfl _ _ _) rfl ?_
        refine ⟨⟨_, rfl⟩, .inr ⟨pre ++ [⟨j, hj⟩], ?_, hJx3⟩⟩
        rw [List.map_append, HP.out]
        show downTo _ _ ++ [j] <+: _
        rw [← down_step _ j hj]
        exact down_pre _ _
theorem backS_stops (n : Nat) (hn : 1 ≤ n) (Bn : Nat) (A : Option Addr) (c : Nat) (ss : List Sm) (R : Nat → Prop) (w : World) (hR : R Bn) (hRA : ∀ a, A = some a → R a.block) (hBl : Bn < w.heap.size) (hAl : ∀ a, A = some a → a.block < w.heap.size) (hBn : w.cell? ⟨Bn, 0, none⟩ = some (.slice A ss.length c)) (hC : dSum.C w A ss.length ss) :
    SeqStopsK Fence.wide n Try.prog 37 #[.pointer (some ⟨Bn, 0, none⟩)] (encS ss) (KeepR R) (fun ys => ys.map (·.val) = (List.range ss.length).reverse) (fun pre => pre.map (·.val) <+: (List.range ss.length).reverse) ss.length w := fun l J Jx W hW _ _ hY h0 =>
  backS_in n hn l Bn A c ss R J Jx hY W hR hRA (Nat.lt_of_lt_of_le hBl hW.size) (fun a ha => Nat.lt_of_lt_of_le (hAl a ha) hW.size) ((hW.cell (p := ⟨Bn, 0, none⟩) hBl).trans hBn) (Kd.C_below hC hW) h0
theorem backK_stops (n : Nat) (hn : 1 ≤ n) (Bn : Nat) (A : Option Addr) (c : Nat) (ts : List Kn) (R : Nat → Prop) (w : World) (hR : R Bn) (hRA : ∀ a, A = some a → R a.block) (hBl : Bn < w.heap.size) (hAl : ∀ a, A = some a → a.block < w.heap.size) (hBn : w.cell? ⟨Bn, 0, none⟩ = some (.slice A ts.length c)) (hC : dKn.C w A ts.length ts) :
    SeqStopsK Fence.wide n Try.prog 34 #[.pointer (some ⟨Bn, 0, none⟩)] (encK ts) (KeepR R) (fun ys => ys.map (·.val) = (List.range ts.length).reverse) (fun pre => pre.map (·.val) <+: (List.range ts.length).reverse) ts.length w := fun l J Jx W hW _ _ hY h0 =>
  backK_in Fence.wide n trivial rfl hn l Bn A c ts R J Jx hY W hR hRA (Nat.lt_of_lt_of_le hBl hW.size) (fun a ha => Nat.lt_of_lt_of_le (hAl a ha) hW.size) ((hW.cell (p := ⟨Bn, 0, none⟩) hBl).trans hBn) (Kd.C_below hC hW) h0
theorem backS_calls (A : Option Addr) (n c : Nat) (w : World) : Calls Try.prog 30 #[.slice A n c] w fun e w' => e = .returned (.func (.func 37) #[] #[.pointer (some ⟨w.heap.size, 0, none⟩)]) ∧ w' = w.alloc (.cells #[.slice A n c] 38) := by
  go_enter Try.func30, Try.ntmps30
  go_wp2
  go_ret
  exact ⟨rfl, rfl⟩
theorem backK_calls (A : Option Addr) (n c : Nat) (w : World) : Calls Try.prog 24 #[.slice A n c] w fun e w' => e = .returned (.func (.func 34) #[] #[.pointer (some ⟨w.heap.size, 0, none⟩)]) ∧ w' = w.alloc (.cells #[.slice A n c] 57) := by
  go_enter Try.func24, Try.ntmps24
  go_wp2
  go_ret
  exact ⟨rfl, rfl⟩
end Go.Proofs.Ytocmljijdecilaa.CaB2
