/- A block that is a map, told by the function that it answers: look-ups, stores, deletes; condition: the keys are of a type whose keys read. -/
import Derived.Test.YtlmcompoalhpnaaHd
import Derived.Maps.Keyed
import Derived.Maps.Own
import Derived.WideKeyArr2
namespace Go.Proofs.Ytlmcompoalhpnaa.Mp
open Go Go.RowKit Go.Maps Go.MapKept Go.WideShapes Go.ChangeShapes
open Go.ChangeMaps (setBlock heap_setBlock_same heap_setBlock_other)
set_option linter.unusedVariables false
section
variable {P : Program} {k : TypeId}
/-- Block b is a map of at most n entries that answers f. -/
structure MapF (P : Program) (k : TypeId) (w : World) (b : Nat) (f : Value → Option Value) (n : Nat) : Prop where
  is : ∃ es clock, w.heap[b]? = some (.map es clock) ∧ es.size ≤ n ∧ Stamped es clock ∧ (∀ e ∈ es.toList, ∃ l, keyOf P k e.key = some l) ∧ (∀ e ∈ es.toList, f e.key = some e.val) ∧ ∀ v, (∀ e ∈ es.toList, e.key ≠ v) → f v = none
theorem MapF.lt {w : World} {b : Nat} {f : Value → Option Value} {n : Nat} (h : MapF P k w b f n) : b < w.heap.size := by
  obtain ⟨es, clock, hb, _⟩ := h.is
  exact (Array.getElem?_eq_some_iff.1 hb).1
theorem MapF.move {w w1 : World} {b : Nat} {f : Value → Option Value} {n : Nat} (h : MapF P k w b f n) (hb : w1.heap[b]? = w.heap[b]?) : MapF P k w1 b f n := by
  obtain ⟨es, clock, h1, h2⟩ := h.is
  exact ⟨es, clock, hb.trans h1, h2⟩
theorem MapF.below {w w1 : World} {b : Nat} {f : Value → Option Value} {n : Nat} (h : MapF P k w b f n) (hb : Below w.heap.size w w1) : MapF P k w1 b f n := h.move (hb.block b h.lt)
theorem MapF.kept {w w1 : World} {b : Nat} {f : Value → Option Value} {n : Nat} {row : Option Nat} (h : MapF P k w b f n) (hg : w.grownBy w1 row) (hne : some b ≠ row) : MapF P k w1 b f n := h.move (hg.block b h.lt hne)
theorem MapF.mono {w : World} {b : Nat} {f : Value → Option Value} {n m : Nat} (h : MapF P k w b f n) (hm : n ≤ m) : MapF P k w b f m := by
  obtain ⟨es, clock, h1, h2, h3⟩ := h.is
  exact ⟨es, clock, h1, Nat.le_trans h2 hm, h3⟩
theorem MapF.made (w : World) : MapF P k (w.alloc (.map #[] 0)) w.heap.size (fun _ => none) 0 :=
  ⟨#[], 0, heap_alloc_new w (.map #[] 0), by simp, stamped_empty 0, by simp, by simp, fun _ _ => rfl⟩
/-- What a store makes of the answers. -/
def Put (f : Value → Option Value) (key val : Value) (f' : Value → Option Value) : Prop := f' key = some val ∧ ∀ v, v ≠ key → f' v = f v
theorem MapF.find {w : World} {b : Nat} {f : Value → Option Value} {n : Nat} {es : Array MapEntry} (K : Keyed P k) (hk : ∀ e ∈ es.toList, ∃ l, keyOf P k e.key = some l) (hf : ∀ e ∈ es.toList, f e.key = some e.val) (hn : ∀ v, (∀ e ∈ es.toList, e.key ≠ v) → f v = none) {key : Value} {l : Lit} (hkey : keyOf P k key = some l) :
    ((Instr.findKey k key es.toList).run P w = .ok none w ∧ f key = none ∧ ∀ e ∈ es.toList, e.key ≠ key) ∨ ∃ (j : Nat) (e : MapEntry), (Instr.findKey k key es.toList).run P w = .ok (some (j, e.val)) w ∧ es.toList[j]? = some e ∧ e.key = key ∧ f key = some e.val := by
  rcases K.find w hkey es.toList hk with ⟨h1, h2⟩ | ⟨j, e, h1, h2, h3⟩
  · exact .inl ⟨h1, hn key h2, h2⟩
  · refine .inr ⟨j, e, h1, h2, h3, ?_⟩
    have := hf e (List.mem_of_getElem? h2)
    rwa [h3] at this
theorem MapF.look {w : World} {b : Nat} {f : Value → Option Value} {n : Nat} (h : MapF P k w b f n) (K : Keyed P k) {t e : TypeId} (ht : P.underlying t = some (.map k e)) {z : Value} (hz : ∀ u : World, (zeroValue e).run P u = .ok z u) {key : Value} {l : Lit} (hkey : keyOf P k key = some l) :
    (∀ v, f key = some v → (Instr.lookup t (.map (some b)) key true).run P w = .ok (.tuple #[v, .bool true]) w) ∧ (f key = none → (Instr.lookup t (.map (some b)) key true).run P w = .ok (.tuple #[z, .bool false]) w) ∧
    (∀ v, f key = some v → (Instr.lookup t (.map (some b)) key false).run P w = .ok v w) ∧ (f key = none → (Instr.lookup t (.map (some b)) key false).run P w = .ok z w) := by
  obtain ⟨es, clock, hb, _, _, hk, hf, hn⟩ := h.is
  rcases MapF.find (w := w) (b := b) (n := n) K hk hf hn hkey with ⟨h1, h2, _⟩ | ⟨j, e0, h1, h2, h3, h4⟩
  · refine ⟨fun v hv => (by rw [h2] at hv; cases hv), fun _ => ?_, fun v hv => (by rw [h2] at hv; cases hv), fun _ => ?_⟩ <;>
      simp [Instr.lookup, run_underlying ht, MapKept.run_getObj_map hb, K.check w _ hkey, h1, hz w, Result.andThen]
  · refine ⟨fun v hv => ?_, fun hv => (by rw [h4] at hv; cases hv), fun v hv => ?_, fun hv => (by rw [h4] at hv; cases hv)⟩ <;>
      (rw [h4] at hv; injection hv with hv; subst hv; simp [Instr.lookup, run_underlying ht, MapKept.run_getObj_map hb, K.check w _ hkey, h1, Result.andThen])
theorem setBlock_grown {w : World} {b : Nat} {es : Array MapEntry} {clock : Nat} (hb : w.heap[b]? = some (.map es clock)) (o : Obj) : w.grownBy (setBlock w b o) (some b) :=
  ⟨rfl, rfl, rfl, by simp [setBlock], fun i hi hne => heap_setBlock_other hb o (fun e => hne (by rw [e]))⟩
theorem MapF.store {w : World} {b : Nat} {f f' : Value → Option Value} {n : Nat} (h : MapF P k w b f n) (K : Keyed P k) {t e : TypeId} (ht : P.underlying t = some (.map k e)) (hroom : n < maxLen) {key val : Value} {l : Lit} (hkey : keyOf P k key = some l) (hp : Put f key val f') :
    ∃ w', (Instr.mapUpdate t (.map (some b)) key val).run P w = .ok () w' ∧ MapF P k w' b f' (if (f key).isSome then n else n + 1) ∧ w.grownBy w' (some b) ∧ w'.heap.size = w.heap.size := by
  obtain ⟨es, clock, hb, hsz, hst, hk, hf, hn⟩ := h.is
  have hlt := h.lt
  rcases MapF.find (w := w) (b := b) (n := n) K hk hf hn hkey with ⟨h1, h2, hne⟩ | ⟨j, e0, h1, h2, h3, h4⟩
  · refine ⟨setBlock w b (.map (es.push ⟨key, val, clock⟩) (clock + 1)), ?_, ⟨es.push ⟨key, val, clock⟩, clock + 1, heap_setBlock_same hb _, ?_, stamped_push hst hne, ?_, ?_, ?_⟩, setBlock_grown hb _, by simp [setBlock]⟩
    · simp [Instr.mapUpdate, run_underlying ht, MapKept.run_getObj_map hb, K.check w false hkey, h1, MapKept.run_setObj_map _ hb, Result.andThen, setBlock]
    · rw [h2]; simp; omega
    · intro x hx
      simp only [Array.toList_push, List.mem_append, List.mem_singleton] at hx
      rcases hx with hx | rfl
      · exact hk x hx
      · exact ⟨l, hkey⟩
    · intro x hx
      simp only [Array.toList_push, List.mem_append, List.mem_singleton] at hx
      rcases hx with hx | rfl
      · rw [hp.2 _ (hne x hx)]
        exact hf x hx
      · exact hp.1
    · intro v hv
      have hv1 := hv ⟨key, val, clock⟩ (by simp)
      rw [hp.2 v (fun e => hv1 e.symm)]
      exact hn v (fun x hx => hv x (by simp [hx]))
  · have hj : es[j]? = some e0 := by simpa using h2
    have hjl : j < es.toList.length := (List.getElem?_eq_some_iff.1 h2).1
    have hkeyf : ∀ e', es[j]? = some e' → ({ e' with key := key, val := val } : MapEntry).key = e'.key := fun e' he' => by rw [hj] at he'; cases he'; exact h3.symm
    have hst' := stamped_modify hst j (fun e' => { e' with key := key, val := val }) (fun _ _ => rfl) (fun e' _ he' => hkeyf e' he')
    have hapart := ((stamped_iff es clock).1 hst).2.2
    have hml : (es.modify j (fun e' => { e' with key := key, val := val })).toList = es.toList.set j { e0 with key := key, val := val } := by
      rw [Array.toList_modify]
      exact ChangeMaps.modify_eq_set _ _ _ _ h2
    refine ⟨setBlock w b (.map (es.modify j (fun e' => { e' with key := key, val := val })) clock), ?_, ⟨_, clock, heap_setBlock_same hb _, ?_, hst', ?_, ?_, ?_⟩, setBlock_grown hb _, by simp [setBlock]⟩
    · simp [Instr.mapUpdate, run_underlying ht, MapKept.run_getObj_map hb, K.check w false hkey, h1, hj, h3, K.stays w hkey, MapKept.run_setObj_map _ hb, Result.andThen, setBlock]
    · rw [h4]; simpa using hsz
    · intro x hx
      rw [hml] at hx
      rcases List.mem_or_eq_of_mem_set hx with hx | rfl
      · exact hk x hx
      · exact ⟨l, hkey⟩
    · intro x hx
      rw [hml] at hx
      obtain ⟨i, hi, hxi⟩ := List.getElem_of_mem hx
      rw [List.getElem_set] at hxi
      by_cases hij : j = i
      · rw [if_pos hij] at hxi
        subst hxi
        exact hp.1
      · rw [if_neg hij] at hxi
        have hil : i < es.toList.length := by simpa using hi
        have hne : es.toList[i].key ≠ key := by
          rw [← h3]
          have h0 : es.toList[j] = e0 := (List.getElem?_eq_some_iff.1 h2).2
          rw [← h0]
          have hpw := List.pairwise_iff_getElem.1 hapart
          rcases Nat.lt_or_ge i j with hlt2 | hge
          · exact hpw i j hil hjl hlt2
          · exact (hpw j i hjl hil (by omega)).symm
        subst hxi
        rw [hp.2 _ hne]
        exact hf _ (List.getElem_mem _)
    · intro v hv
      have hvk : v ≠ key := fun e => by
        refine hv { e0 with key := key, val := val } ?_ e.symm
        rw [hml]
        exact List.mem_set hjl _
      rw [hp.2 v hvk]
      refine hn v (fun x hx e => ?_)
      obtain ⟨i, hi, rfl⟩ := List.getElem_of_mem hx
      by_cases hij : j = i
      · subst hij
        have h0 : es.toList[j] = e0 := (List.getElem?_eq_some_iff.1 h2).2
        rw [h0, h3] at e
        exact hvk e.symm
      · refine hv es.toList[i] ?_ e
        rw [hml]
        have : (es.toList.set j { e0 with key := key, val := val })[i]'(by simpa using hi) = es.toList[i] := by rw [List.getElem_set, if_neg hij]
        rw [← this]
        exact List.getElem_mem _
end
section
variable {P : Program} {k : TypeId} {ops : Array Oper} {Q : Exit → Act → World → Prop} {rest : List Oper} {o : Oper} {a : Act} {w : World}
/-- 'v, is := m[k]' and 'm[k]' at the operation. -/
theorem wpList_look (hgd : o.guard = none) (K : Keyed P k) (t e : TypeId) (ht : P.underlying t = some (.map k e)) {z : Value} (hz : ∀ u : World, (zeroValue e).run P u = .ok z u) (m x : Operand) (b : Nat) {f : Value → Option Value} {n : Nat}
    (ho : o.op = .lookup t m x true) (hm : a.eval m = .map (some b)) (h : MapF P k w b f n) {key : Value} {l : Lit} (hx : a.eval x = key) (hkey : keyOf P k key = some l)
    (hK : wpList P ops Q rest (a.put o.dst (match f key with | some v => .tuple #[v, .bool true] | none => .tuple #[z, .bool false])) w) : wpList P ops Q (o :: rest) a w := by
  refine Hd.step_run (v := match f key with | some v => .tuple #[v, .bool true] | none => .tuple #[z, .bool false]) hgd ?_ hK
  obtain ⟨h1, h2, _⟩ := h.look K ht hz hkey
  unfold execOp
  simp only [ho, hm, hx, Sem.run_bind]
  cases hf : f key with
  | some v => simp [h1 v hf, Result.andThen]
  | none => simp [h2 hf, Result.andThen]
theorem wpList_look_some (hgd : o.guard = none) (K : Keyed P k) (t e : TypeId) (ht : P.underlying t = some (.map k e)) {z : Value} (hz : ∀ u : World, (zeroValue e).run P u = .ok z u) (m x : Operand) (b : Nat) {f : Value → Option Value} {n : Nat}
    (ho : o.op = .lookup t m x true) (hm : a.eval m = .map (some b)) (h : MapF P k w b f n) {key v : Value} {l : Lit} (hx : a.eval x = key) (hkey : keyOf P k key = some l) (hf : f key = some v)
    (hK : wpList P ops Q rest (a.put o.dst (.tuple #[v, .bool true])) w) : wpList P ops Q (o :: rest) a w :=
  wpList_look hgd K t e ht hz m x b ho hm h hx hkey (by rw [hf]; exact hK)
theorem wpList_look_none (hgd : o.guard = none) (K : Keyed P k) (t e : TypeId) (ht : P.underlying t = some (.map k e)) {z : Value} (hz : ∀ u : World, (zeroValue e).run P u = .ok z u) (m x : Operand) (b : Nat) {f : Value → Option Value} {n : Nat}
    (ho : o.op = .lookup t m x true) (hm : a.eval m = .map (some b)) (h : MapF P k w b f n) {key : Value} {l : Lit} (hx : a.eval x = key) (hkey : keyOf P k key = some l) (hf : f key = none)
    (hK : wpList P ops Q rest (a.put o.dst (.tuple #[z, .bool false])) w) : wpList P ops Q (o :: rest) a w :=
  wpList_look hgd K t e ht hz m x b ho hm h hx hkey (by rw [hf]; exact hK)
theorem wpList_store (hgd : o.guard = none) (K : Keyed P k) (t e : TypeId) (ht : P.underlying t = some (.map k e)) (m x v : Operand) (b : Nat) {f : Value → Option Value} (f' : Value → Option Value) {n : Nat}
    (ho : o.op = .mapUpdate t m x v) (hm : a.eval m = .map (some b)) (h : MapF P k w b f n) (hroom : n < maxLen) {key val : Value} {l : Lit} (hx : a.eval x = key) (hv : a.eval v = val) (hkey : keyOf P k key = some l) (hp : Put f key val f')
    (hK : ∀ w', MapF P k w' b f' (if (f key).isSome then n else n + 1) → w.grownBy w' (some b) → w'.heap.size = w.heap.size → wpList P ops Q rest (a.put o.dst undef) w') : wpList P ops Q (o :: rest) a w := by
  refine wpList_plain hgd fun K' hK' => ?_
  obtain ⟨w', hrun, r1, r2, r3⟩ := h.store K ht hroom hkey hp
  unfold Oper.wp
  simp [execOp, ho, hm, hx, hv, hrun, Result.andThen]
  exact hK' _ _ (hK w' r1 r2 r3)
end
/-- An array of whole numbers as a key. -/
theorem mapM_some {α β : Type} {f : α → Option β} {g : α → β} : ∀ (l : List α), (∀ x ∈ l, f x = some (g x)) → l.mapM f = some (l.map g)
  | [], _ => rfl
  | x :: l, h => by
    rw [List.mapM_cons, h x (by simp), mapM_some l (fun y hy => h y (by simp [hy]))]
    rfl
theorem key_arr {P : Program} {k e : TypeId} {n : Nat} {q : IntKind} (A : WideMaps.ArrKey P k e n) (he : P.underlying e = some (.int q)) {xs : List Int} (hn : xs.length = n) (hw : ∀ x ∈ xs, (Lit.int q x).wf = true) (hsz : ∃ m, P.types.size = m + 1) : ∃ l, keyOf P k (.agg (xs.map (Value.int q)).toArray) = some l := by
  have hkt := A.keyType hsz
  unfold keyOf
  simp only [A.hu]
  rw [if_pos (by simp [hkt, Value.formed, A.hu, A.size, hn])]
  unfold Program.keyLits
  simp only [A.hu, Value.cells]
  rw [if_pos (by rw [A.size]; simp [hn])]
  have hm : (List.range n).mapM (fun i => P.keyLits P.types.size e (((xs.map (Value.int q)).drop (i * P.cellsOf e)).take (P.cellsOf e))) = some ((List.range n).map (fun i => [Lit.int q (xs.getD i 0)])) := by
    refine mapM_some _ (fun i hi => ?_)
    have hi2 : i < xs.length := by rw [hn]; exact List.mem_range.1 hi
    have e1 : ((xs.map (Value.int q)).drop (i * P.cellsOf e)).take (P.cellsOf e) = [Value.int q (xs.getD i 0)] := by
      rw [A.one, Nat.mul_one, List.drop_eq_getElem_cons (by simpa using hi2)]
      simp [hi2]
    rw [e1]
    obtain ⟨m, hm⟩ := hsz
    rw [hm]
    unfold Program.keyLits
    simp only [he]
    rw [if_pos ⟨trivial, hw _ (by simp [hi2])⟩]
  have hm' : (List.range n).mapM (fun i => P.keyLits P.types.size e (((xs.map (Value.int q)).toArray.toList.drop (i * P.cellsOf e)).take (P.cellsOf e))) = some ((List.range n).map (fun i => [Lit.int q (xs.getD i 0)])) := hm
  exact ⟨_, by rw [hm']; rfl⟩
end Go.Proofs.Ytlmcompoalhpnaa.Mp
