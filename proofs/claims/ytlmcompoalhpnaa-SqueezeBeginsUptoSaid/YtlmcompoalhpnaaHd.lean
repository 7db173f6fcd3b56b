/- Steps of a drawn region that is walked by hand: takes with the slot's number, and a plain region's append laws at such a step. -/
import Derived.Test.YtlmcompoalhpnaaK
import Derived.Deep.RegionHeld3
import Derived.Deep.MidRow
import Derived.RangeFuncCalls
import Derived.OwnWalkIn
import Derived.OrdersIn
namespace Go.Proofs.Ytlmcompoalhpnaa.Hd
open Go Go.RowKit Go.Proofs.YtlmcompoalhpnaaW.PrintWords
section
variable {P : Program} {ops : Array Oper} {Q : Exit → Act → World → Prop} {md : Region.Mode} {S : World → Prop}
/-- An operation is taken first; its slot is named. -/
theorem take_at {i d : Nat} {oi : Oper} {v : Value} {fuel : Nat} {listed : Array Bool} {t : List Value} {w : World} (hi : ops[i]? = some oi) (hd : oi.dst = some d)
    (hs : Region.noSelect ops = true) (hf : Region.free md ops listed i = true) (hr : (Region.ready md ops listed).contains i = true)
    (hQ : ∀ c a w, Q (.panic c) (a.put oi.dst v) w → Q (.panic c) a w) (hy : YieldsIf P ops S oi v ⟨t.toArray, []⟩) (hS : S w)
    (h : wpAnyH P md ops Q S fuel (listed.setIfInBounds i true) ⟨(t.set d v).toArray, []⟩ w) : wpAnyH P md ops Q S (fuel + 1) listed ⟨t.toArray, []⟩ w :=
  wpAnyH_take hi hs hf hr hQ hy hS (by rw [hd]; simpa [Act.put] using h)
/-! A held condition that is not asked behind the region's last operation: for regions that end in a store. -/
/-- Does operation D (if there is one) wait for operation i? -/
def waitsFor (md : Region.Mode) (ops : Array Oper) (D i : Nat) : Bool := ((ops[D]?).map (fun o => o.after.toList.any fun e => Region.binds md e && e.on == i)).getD true
/-- Whatever order comes: S holds behind each operation but number D. -/
def wpAnyE (P : Program) (md : Region.Mode) (ops : Array Oper) (Q : Exit → Act → World → Prop) (S : World → Prop) (D : Nat) : Nat → Array Bool → Act → World → Prop
  | 0, listed, a, w => Region.ready md ops listed = [] ∧ Q .normal a w
  | fuel + 1, listed, a, w =>
    (Region.ready md ops listed = [] → Q .normal a w) ∧
    ∀ i ∈ Region.ready md ops listed, wpOp P ops Q i (fun a' w' => (i = D ∨ S w') ∧ wpAnyE P md ops Q S D fuel (listed.setIfInBounds i true) a' w') a w
theorem any_of_E {D : Nat} : ∀ (fuel : Nat) (listed : Array Bool) (a : Act) (w : World), wpAnyE P md ops Q S D fuel listed a w → wpAny P md ops Q fuel listed a w := by
  intro fuel
  induction fuel with
  | zero => exact fun _ _ _ h => h
  | succ n ih => exact fun listed a w h => ⟨h.1, fun i hi => wpOp_mono (fun a' w' h' => ih _ a' w' h'.2) (h.2 i hi)⟩
theorem E_step {i : Nat} {oi : Oper} {v : Value} (hi : ops[i]? = some oi) (hsel : ∀ (j : Nat) (o : Oper) cs b, ops[j]? = some o → o.op ≠ .select cs b)
    (hQ : ∀ c a w, Q (.panic c) (a.put oi.dst v) w → Q (.panic c) a w) {D : Nat} (hD : waitsFor md ops D i = true) (fuel : Nat) : ∀ (listed : Array Bool) (a : Act) (w : World),
      (∀ j oj, ops[j]? = some oj → j ≠ i → listed.getD j true = false → (∀ e ∈ oj.after, Region.binds md e = true → e.on ≠ i) → oi.apart ops oj = true) →
      i ∈ Region.ready md ops listed → YieldsIf P ops S oi v a → S w →
      wpAnyE P md ops Q S D fuel (listed.setIfInBounds i true) (a.put oi.dst v) w → wpAnyE P md ops Q S D (fuel + 1) listed a w := by
  induction fuel with
  | zero =>
    intro listed a w _ hr hy hS H
    refine ⟨fun h => absurd (h ▸ hr) (by simp), fun j hj => ?_⟩
    by_cases e : j = i
    · subst e; exact hy.wpOp hi hS ⟨.inr hS, H⟩
    · exact absurd (H.1 ▸ ready_mono hj e) (by simp)
  | succ n ih =>
    intro listed a w hap hr hy hS H
    refine ⟨fun h => absurd (h ▸ hr) (by simp), fun j hj => ?_⟩
    by_cases e : j = i
    · subst e; exact hy.wpOp hi hS ⟨.inr hS, H⟩
    · obtain ⟨hun, oj, hoj, hall⟩ := mem_ready.1 hj
      have hi0 := (mem_ready.1 hr).1
      have hwait : ∀ e ∈ oj.after, Region.binds md e = true → e.on ≠ i := by
        intro d hd hb hq
        have h1 := hall d hd hb
        rw [hq] at h1
        by_cases hlt : i < listed.size
        · simp only [Array.getD, hlt, dite_true] at h1 hi0
          rw [h1] at hi0
          cases hi0
        · simp [Array.getD, hlt] at h1
      have h2 := wpOp_putIf hoj (hap j oj hoj e hun hwait) (fun cs b => hsel i oi cs b hi) (fun cs b => hsel j oj cs b hoj) hQ hy (H.2 j (ready_mono hj e))
      refine wpOp_mono (fun a' w' h3 => ?_) h2
      have hri := ready_mono hr (Ne.symm e)
      have h4 : S w' := h3.2.1.resolve_left (fun h0 => by
        subst h0
        unfold waitsFor at hD
        rw [hoj] at hD
        simp only [Option.map_some, Option.getD_some, beq_iff_eq, List.any_eq_true, Bool.and_eq_true] at hD
        obtain ⟨d, hd, hb, hq⟩ := hD
        exact hwait d (by simpa using hd) hb hq)
      refine ⟨.inr h4, ih (listed.setIfInBounds j true) a' w' (fun k ok hk hne hu hw => hap k ok hk hne ?_ hw) hri h3.1 h4 ?_⟩
      · by_cases hjk : j = k
        · subst hjk; exact hun
        · rwa [getD_set_ne true hjk] at hu
      · rw [Array.setIfInBounds_comm _ _ e]
        exact h3.2.2
/-- The same moves under this walk. -/
theorem takeE {D i d : Nat} {oi : Oper} {v : Value} {fuel : Nat} {listed : Array Bool} {t : List Value} {ds : List Deferred} {w : World} (hi : ops[i]? = some oi) (hd : oi.dst = some d)
    (hs : Region.noSelect ops = true) (hf : Region.free md ops listed i = true) (hr : (Region.ready md ops listed).contains i = true) (hD : waitsFor md ops D i = true)
    (hQ : ∀ c a w, Q (.panic c) (a.put oi.dst v) w → Q (.panic c) a w) (hy : YieldsIf P ops S oi v ⟨t.toArray, ds⟩) (hS : S w)
    (h : wpAnyE P md ops Q S D fuel (listed.setIfInBounds i true) ⟨(t.set d v).toArray, ds⟩ w) : wpAnyE P md ops Q S D (fuel + 1) listed ⟨t.toArray, ds⟩ w :=
  E_step hi (Region.noSelect_spec hs) hQ hD fuel listed _ w (Region.free_spec hi hf) (by simpa using hr) hy hS (by rw [hd]; simpa [Act.put] using h)
theorem startE (D : Nat) {id : Nat} {a : Act} {w : World} (hm : P.follows .mixedOrders = true) (hS : S w.drew)
    (h : S w.drew → wpAnyE P .any ops Q S D ops.size (Array.replicate ops.size false) a w.drew) : (Code.region id ops true).wp P Q a w :=
  wp_region_any hm (any_of_E _ _ _ _ (h hS))
theorem endE {D : Nat} {listed : Array Bool} {a : Act} {w : World} (hr : Region.ready md ops listed = []) (h : Q .normal a w) (fuel : Nat) : wpAnyE P md ops Q S D fuel listed a w := by
  cases fuel with
  | zero => exact ⟨hr, h⟩
  | succ n => exact ⟨fun _ => h, fun i hi => absurd (hr ▸ hi) (by simp)⟩
/-- The operations that may come up now, one by one. -/
def AllE (P : Program) (md : Region.Mode) (ops : Array Oper) (Q : Exit → Act → World → Prop) (S : World → Prop) (D : Nat) (fuel : Nat) (listed : Array Bool) (a : Act) (w : World) (rs : List Nat) : Prop :=
  ∀ i ∈ rs, wpOp P ops Q i (fun a' w' => (i = D ∨ S w') ∧ wpAnyE P md ops Q S D fuel (listed.setIfInBounds i true) a' w') a w
theorem readyE {D : Nat} {rs : List Nat} {fuel : Nat} {listed : Array Bool} {a : Act} {w : World} (hr : Region.ready md ops listed = rs) (hne : rs ≠ [])
    (h : AllE P md ops Q S D fuel listed a w rs) : wpAnyE P md ops Q S D (fuel + 1) listed a w := ⟨fun h0 => absurd (hr ▸ h0) hne, hr ▸ h⟩
theorem AllE.nil {D fuel : Nat} {listed : Array Bool} {a : Act} {w : World} : AllE P md ops Q S D fuel listed a w [] := fun _ h => by cases h
theorem AllE.cons {D fuel : Nat} {listed : Array Bool} {a : Act} {w : World} {i : Nat} {o : Oper} {rs : List Nat} (ho : ops[i]? = some o)
    (h : ∀ K' : Act → World → Prop, Shut (∀ a w, S w → (S w → wpAnyE P md ops Q S D fuel (listed.setIfInBounds i true) a w) → K' a w) → if Region.wanted o (yielded ops a.tmps) = true then Oper.wp P o a w K' Q else K' (a.put o.dst undef) w)
    (hs : AllE P md ops Q S D fuel listed a w rs) : AllE P md ops Q S D fuel listed a w (i :: rs) := fun j hj => by
  rcases List.mem_cons.1 hj with rfl | hj
  · exact wpOp_step ho (fun K' hK => h K' (fun a w hS hW => hK a w ⟨.inr hS, hW hS⟩))
  · exact hs j hj
theorem AllE.last {fuel : Nat} {listed : Array Bool} {a : Act} {w : World} {i : Nat} {o : Oper} (ho : ops[i]? = some o)
    (h : ∀ K' : Act → World → Prop, Shut (∀ a w, wpAnyE P md ops Q S i fuel (listed.setIfInBounds i true) a w → K' a w) → if Region.wanted o (yielded ops a.tmps) = true then Oper.wp P o a w K' Q else K' (a.put o.dst undef) w) :
    AllE P md ops Q S i fuel listed a w [i] := fun j hj => by
  rcases List.mem_cons.1 hj with rfl | hj
  · exact wpOp_step ho (fun K' hK => h K' (fun a w hW => hK a w ⟨.inl rfl, hW⟩))
  · cases hj
/-! The same walk within a round of a range over a function. -/
def Only (K : Act → World → Prop) : Exit → Act → World → Prop
  | .normal, a, w => K a w
  | _, _, _ => False
def noDefer (ops : Array Oper) : Bool := ops.toList.all fun o => match o.op with | .defer _ => false | _ => true
theorem noDefer_spec (h : noDefer ops = true) {i : Nat} {o : Oper} (ho : ops[i]? = some o) : ∀ c, o.op ≠ .defer c := by
  intro c e
  have hm : o ∈ ops.toList := by
    rw [← Array.getElem?_toList] at ho
    exact List.mem_of_getElem? ho
  have := (List.all_eq_true.1 h) o hm
  rw [e] at this
  cases this
theorem opIn_of_op {l n i : Nat} {K : Act → World → Prop} {a : Act} {w : World} (hd : noDefer ops = true) (h : wpOp P ops (Only (Q .normal)) i K a w) : wpOpIn (Fence.wide.inRound l) n P ops Q i K a w := by
  unfold wpOp at h
  unfold wpOpIn
  split
  · rename_i ho; rw [ho] at h; exact h
  · rename_i o ho
    rw [ho] at h
    simp only at h
    split
    · rename_i hw
      rw [if_pos hw] at h
      rcases h with h | ⟨_, _, _, h⟩
      · refine ⟨fun _ _ => trivial, ?_⟩
        rw [Oper.semAt_eq _ _ _ (noDefer_spec hd ho)]
        unfold Oper.wp at h
        generalize (execOp a.eval o).run P w = r at *
        cases r with
        | ok x w' =>
          cases x <;> simp only [Oper.upon, Oper.uponIn] at h ⊢ <;>
            first
              | exact h
              | exact ⟨fun h => (by cases h), CallsIn.inRound l (callsIn_wide.2 (Calls.mono h (fun e w'' he => by cases e <;> first | exact he | exact he.elim | exact (by obtain ⟨_, _, he⟩ := he; exact he.elim))))⟩
              | exact ⟨fun h => (by cases h), fun c cs _ => let ⟨v, w1, r, s⟩ := h c cs; ⟨v, w1, r, stepsIn_wide.2 s⟩⟩
        | halt x w' => cases x <;> simp only [Oper.upon, Oper.uponIn] at h ⊢ <;> exact h.elim
      · exact h.elim
    · rename_i hw
      rw [if_neg hw] at h
      exact ⟨fun _ _ => trivial, h⟩
theorem anyIn_of_any {l n : Nat} (hd : noDefer ops = true) : ∀ (fuel : Nat) (listed : Array Bool) (a : Act) (w : World), wpAny P md ops (Only (Q .normal)) fuel listed a w → wpAnyIn (Fence.wide.inRound l) n P md ops Q fuel listed a w := by
  intro fuel
  induction fuel with
  | zero => exact fun _ _ _ h => h
  | succ m ih => exact fun listed a w h => ⟨h.1, fun i hi => wpOpIn_mono (fun a' w' h' => ih _ a' w' h') (opIn_of_op hd (h.2 i hi))⟩
theorem startI (D : Nat) {l n id : Nat} {a : Act} {w : World} (hm : P.follows .mixedOrders = true) (hd : noDefer ops = true) (hS : S w.drew)
    (h : S w.drew → wpAnyE P .any ops (Only (Q .normal)) S D ops.size (Array.replicate ops.size false) a w.drew) : (Code.region id ops true).wpIn (Fence.wide.inRound l) n P Q a w :=
  wpIn_region_any hm (anyIn_of_any hd _ _ _ _ (any_of_E _ _ _ _ (h hS)))
/-- A law on a plain region's list, at one operation. -/
theorem wp_of_list {o : Oper} {a : Act} {w : World} {K : Act → World → Prop} (hg : o.guard = none)
    (h : wpList P ops (fun e a' w' => match e with | .normal => K a' w' | .panic c => Q (.panic c) a' w' | _ => False) [o] a w) : o.wp P a w K Q := by
  unfold wpList at h
  rw [if_pos (by simp [Region.wanted, hg])] at h
  rcases h with h | ⟨_, _, _, h⟩
  · unfold Oper.wp at *
    generalize (execOp a.eval o).run P w = r at *
    cases r with
    | ok n w' =>
      cases n <;> simp only [Oper.upon] at h ⊢ <;>
        first
          | exact h
          | exact Calls.mono h (fun e w'' he => by cases e <;> first | exact he | exact (by obtain ⟨_, _, he⟩ := he; exact he.elim))
          | exact Rows.mono h (fun _ _ he => he)
    | halt x w' => cases x <;> simp only [Oper.upon] at h ⊢ <;> exact h
  · exact h.elim
theorem step_of_list {o : Oper} {a : Act} {w : World} {K : Act → World → Prop} {E : Prop} (hg : o.guard = none)
    (h : wpList P ops (fun e a' w' => match e with | .normal => K a' w' | .panic c => Q (.panic c) a' w' | _ => False) [o] a w) :
    if Region.wanted o (yielded ops a.tmps) = true then o.wp P a w K Q else E := by
  rw [if_pos (by simp [Region.wanted, hg])]
  exact wp_of_list hg h
end
section
variable {P : Program} {ops : Array Oper} {Q : Exit → Act → World → Prop} {rest : List Oper} {o : Oper} {a : Act} {W W' : World} {v : Value}
/-- One operation of a plain region, its run given. -/
theorem step_run (hgd : o.guard = none) (h : (execOp a.eval o).run P W = .ok (.value v) W') (k : wpList P ops Q rest (a.put o.dst v) W') : wpList P ops Q (o :: rest) a W :=
  wpList_plain hgd fun K hK => by unfold Oper.wp; rw [h]; exact hK _ _ k
/-- A guarded operation that is wanted: a long array's load. -/
theorem load_wanted {K : Act → World → Prop} {E : Prop} (hw : Region.wanted o (yielded ops a.tmps) = true) (ty : TypeId) (x : Operand) (ho : o.op = .load ty x) (b k : Nat) (hx : a.eval x = .pointer (some ⟨b, k, none⟩)) (cs : List Value) (d : TypeDesc) (hc : W.rangeAt b k cs)
    (hu : P.underlying ty = some d) (hd : d.isRow = true) (hi : (P.info? ty).map (·.size) = some cs.length) (h : K (a.put o.dst (.agg cs.toArray)) W) : if Region.wanted o (yielded ops a.tmps) = true then o.wp P a W K Q else E := by
  rw [if_pos hw]
  exact wp_load_mid ty x ho b k hx cs d hc hu hd hi h
theorem exec_build {ev : Operand → Value} (t : TypeId) (parts : Array (Nat × Operand)) (ho : o.op = .build t parts) (h : (Instr.build t (parts.map fun (i, x) => (i, ev x))).run P W = .ok v W') : (execOp ev o).run P W = .ok (.value v) W' := by
  unfold execOp; simp only [ho, Sem.run_bind, h, Result.andThen_ok, Sem.run_pure]
theorem exec_alloc {ev : Operand → Value} (t : TypeId) (ho : o.op = .alloc t) (z : Value) (h : (zeroValue t).run P W = .ok z W) : (execOp ev o).run P W = .ok (.value (.pointer (some ⟨W.heap.size, 0, none⟩))) (W.alloc (.cells z.cells t)) := by
  unfold execOp; simp [ho, Instr.alloc, Sem.run_bind, h, newVar, go_sem]
/-- A row's cells from an address on. -/
def RangeA (w : World) (ad : Addr) (cs : List Value) : Prop := ∀ j v, cs[j]? = some v → w.cell? (ad.add j) = some v
theorem run_load_any (w : World) (ad : Addr) (ty : TypeId) (cs : List Value) (d : TypeDesc) (hc : RangeA w ad cs)
    (hu : P.underlying ty = some d) (hd : d.isRow = true) (hi : (P.info? ty).map (·.size) = some cs.length) : (loadVar ty ad).run P w = .ok (.agg cs.toArray) w := by
  have hl : (loadCells ad cs.length).run P w = .ok cs.toArray w := run_loadCells_list (P := P) w ad cs hc
  cases hq : P.info? ty with
  | none => simp [hq] at hi
  | some i =>
    have hs : i.size = cs.length := by simpa [hq] using hi
    have hagg : (isAgg ty).run P w = .ok true w := by
      unfold isAgg
      rw [Sem.run_bind, run_underlying hu w]
      cases d <;> simp_all
    simp [loadVar, Sem.run_bind, hagg, sizeOf, typeInfo, hq, hs, hl]
theorem wp_load_any {K : Act → World → Prop} (ty : TypeId) (x : Operand) (ho : o.op = .load ty x) (ad : Addr) (hx : a.eval x = .pointer (some ad)) (cs : List Value) (d : TypeDesc) (hc : RangeA W ad cs)
    (hu : P.underlying ty = some d) (hd : d.isRow = true) (hi : (P.info? ty).map (·.size) = some cs.length) (h : K (a.put o.dst (.agg cs.toArray)) W) : o.wp P a W K Q := by
  unfold Oper.wp execOp
  simp only [ho, hx, Instr.loadAt, Instr.sureAddr, Sem.run_bind, Sem.run_pure, Result.andThen_ok, run_load_any W ad ty cs d hc hu hd hi]
  exact h
theorem wpList_load_any (hgd : o.guard = none) (ty : TypeId) (x : Operand) (ho : o.op = .load ty x) (ad : Addr) (hx : a.eval x = .pointer (some ad)) (cs : List Value) (d : TypeDesc) (hc : RangeA W ad cs)
    (hu : P.underlying ty = some d) (hd : d.isRow = true) (hi : (P.info? ty).map (·.size) = some cs.length) (h : wpList P ops Q rest (a.put o.dst (.agg cs.toArray)) W) : wpList P ops Q (o :: rest) a W :=
  wpList_plain hgd fun _ hK => wp_load_any ty x ho ad hx cs d hc hu hd hi (hK _ _ h)
theorem load_wanted_any {K : Act → World → Prop} {E : Prop} (hw : Region.wanted o (yielded ops a.tmps) = true) (ty : TypeId) (x : Operand) (ho : o.op = .load ty x) (ad : Addr) (hx : a.eval x = .pointer (some ad)) (cs : List Value) (d : TypeDesc) (hc : RangeA W ad cs)
    (hu : P.underlying ty = some d) (hd : d.isRow = true) (hi : (P.info? ty).map (·.size) = some cs.length) (h : K (a.put o.dst (.agg cs.toArray)) W) : if Region.wanted o (yielded ops a.tmps) = true then o.wp P a W K Q else E := by
  rw [if_pos hw]
  exact wp_load_any ty x ho ad hx cs d hc hu hd hi h
theorem yieldsIf_load_any {S : World → Prop} (hw : Region.wanted o (yielded ops a.tmps) = true) (ty : TypeId) (x : Operand) (ho : o.op = .load ty x) (ad : Addr) (hx : a.eval x = .pointer (some ad)) (cs : List Value) (d : TypeDesc) (hS : ∀ w, S w → RangeA w ad cs)
    (hu : P.underlying ty = some d) (hd : d.isRow = true) (hi : (P.info? ty).map (·.size) = some cs.length) : YieldsIf P ops S o (.agg cs.toArray) a :=
  .inl ⟨hw, fun w hw' => by
    unfold execOp
    simp only [ho, hx, Instr.loadAt, Instr.sureAddr, Sem.run_bind, Sem.run_pure, Result.andThen_ok, run_load_any w ad ty cs d (hS w hw') hu hd hi]⟩
theorem RangeA.below {w w1 : World} {ad : Addr} {cs : List Value} (h : RangeA w ad cs) (hb : Below w.heap.size w w1) : RangeA w1 ad cs := fun j v hv => by
  have h1 := h j v hv
  exact (hb.cell (p := ad.add j) (World.block_lt_of_cell? w _ h1)).trans h1
theorem setCell_new (w : World) (t : TypeId) (Z : Array Value) (j : Nat) (v : Value) : (w.alloc (.cells Z t)).setCell ⟨w.heap.size, j, none⟩ v = w.alloc (.cells (Z.setIfInBounds j v) t) := World.setCell_alloc_at Z t _ j v rfl
theorem setCells_new (w : World) (t : TypeId) : ∀ (vs : List Value) (o : Nat) (Z : Array Value), o + vs.length ≤ Z.size → (w.alloc (.cells Z t)).setCells w.heap.size o vs = w.alloc (.cells (Z.toList.take o ++ vs ++ Z.toList.drop (o + vs.length)).toArray t)
  | [], o, Z, _ => by simp [World.setCells]
  | v :: r, o, Z, h => by
    simp only [List.length_cons] at h
    rw [World.setCells, setCell_new, setCells_new w t r (o + 1) _ (by simp; omega)]
    congr 3
    have ho : o < Z.toList.length := by rw [Array.length_toList]; omega
    rw [Array.toList_setIfInBounds, List.take_set, List.drop_set_of_lt (by omega)]
    simp only [List.length_cons]
    rw [show o + 1 + r.length = o + (r.length + 1) by omega]
    congr 1
    rw [List.take_succ_eq_append_getElem ho, List.set_append_right _ _ (by rw [List.length_take]; omega)]
    have ho' : o < Z.size := by omega
    simp [Nat.min_eq_left (Nat.le_of_lt ho')]
/-- 'x := v' of a long struct: the store into the variable that was made just now. -/
theorem wpList_store_new (hgd : o.guard = none) (ty : TypeId) (x y : Operand) (ho : o.op = .store ty x y) (t : TypeId) (Z C : Array Value) (hx : a.eval x = .pointer (some ⟨W.heap.size, 0, none⟩)) (hy : a.eval y = .agg C) (hZ : Z.size = C.size)
    (hi : (P.info? ty).map (·.size) = some C.size) (h1 : C.all (·.oneCell') = true) (h : wpList P ops Q rest (a.put o.dst undef) (W.alloc (.cells C t))) : wpList P ops Q (o :: rest) a (W.alloc (.cells Z t)) := by
  refine wpList_store_mid hgd ty x y ho W.heap.size 0 C hx hy (fun j hj => ?_) hi h1 ?_
  · have h2 : (W.alloc (.cells Z t)).heap[W.heap.size]? = some (.cells Z t (0, 0)) := World.alloc_heap_new W _
    have hj2 : 0 + j < Z.size := by omega
    refine ⟨?_, frozen_of_row _ _ _ _ _ h2⟩
    rw [cell_of_row _ _ _ _ _ _ h2]
    simp; omega
  · rw [setCells_new W t C.toList 0 Z (by simp; omega)]
    have e : (Z.toList.take 0 ++ C.toList ++ Z.toList.drop (0 + C.toList.length)).toArray = C := by
      rw [List.take_zero, List.nil_append, List.drop_of_length_le (by simp; omega), List.append_nil]
    rw [e]
    exact h
end
end Go.Proofs.Ytlmcompoalhpnaa.Hd
