/- Equality of arrays and structs whose values read as keys; condition: the type is an array or a struct of plain ones. -/
import Derived.Test.YtlmcompoalhpnaaMp
import Derived.DeepKeys5
namespace Go.Proofs.Ytlmcompoalhpnaa.Eq
open Go Go.RowKit Go.Proofs.Ytlmcompoalhpnaa.Mp
set_option linter.unusedVariables false
/-- Types that are compared cell by cell. -/
structure Wide (P : Program) (k : TypeId) : Prop where
  at_ : ∃ m, m + 1 ≤ 10000 ∧ P.keyTypeAt m k = true ∧ P.tiled m k = true
  wide : (match P.underlying k with | some (.array _ _) | some (.struct _) => true | _ => false) = true
theorem Wide.law {P : Program} {k : TypeId} (h : Wide P k) : WideMaps.KeyLaw P k := by
  obtain ⟨m, h1, h2, h3⟩ := h.at_
  exact deep_law h1 h2 h3 h.wide
section
variable {P : Program} {k : TypeId}
theorem run_equal_same (W : Wide P k) {x : Value} {l : Lit} (hx : keyOf P k x = some l) (w : World) : (Op.equal k x x).run P w = .ok true w := by
  obtain ⟨m, h1, h2, _⟩ := W.at_
  obtain ⟨r, hr, hi⟩ := run_equal_deep w (by omega) h2 W.wide hx hx
  rw [hr, hi.2 rfl]
theorem run_equal_other (W : Wide P k) {x y : Value} {lx ly : Lit} (hx : keyOf P k x = some lx) (hy : keyOf P k y = some ly) (hne : x ≠ y) (w : World) : (Op.equal k x y).run P w = .ok false w := by
  obtain ⟨m, h1, h2, _⟩ := W.at_
  obtain ⟨r, hr, hi⟩ := run_equal_deep w (by omega) h2 W.wide hx hy
  cases r with
  | false => exact hr
  | true => exact absurd (W.law.inj hx (by rw [hi.1 rfl]; exact hy)) hne
theorem eql_same (W : Wide P k) {x : Value} {l : Lit} (hx : keyOf P k x = some l) (hnn : x ≠ .nilIface) (w : World) : (binOp .eql k x x).run P w = .ok (.bool true) w := by
  have h := run_equal_same W hx w
  obtain ⟨xs, _, rfl, _⟩ := keyOf_top W.wide hx
  simp only [binOp]
  simp [h]
theorem neq_same (W : Wide P k) {x : Value} {l : Lit} (hx : keyOf P k x = some l) (w : World) : (binOp .neq k x x).run P w = .ok (.bool false) w := by
  have h := run_equal_same W hx w
  obtain ⟨xs, _, rfl, _⟩ := keyOf_top W.wide hx
  simp only [binOp]
  simp [h]
theorem eql_other (W : Wide P k) {x y : Value} {lx ly : Lit} (hx : keyOf P k x = some lx) (hy : keyOf P k y = some ly) (hne : x ≠ y) (w : World) : (binOp .eql k x y).run P w = .ok (.bool false) w := by
  have h := run_equal_other W hx hy hne w
  obtain ⟨xs, _, rfl, _⟩ := keyOf_top W.wide hx
  simp only [binOp]
  simp [h]
theorem neq_other (W : Wide P k) {x y : Value} {lx ly : Lit} (hx : keyOf P k x = some lx) (hy : keyOf P k y = some ly) (hne : x ≠ y) (w : World) : (binOp .neq k x y).run P w = .ok (.bool true) w := by
  have h := run_equal_other W hx hy hne w
  obtain ⟨xs, _, rfl, _⟩ := keyOf_top W.wide hx
  simp only [binOp]
  simp [h]
end
/-! Which values read as keys. -/
section
variable {P : Program}
theorem lits_int {t : TypeId} {q : IntKind} (hu : P.underlying t = some (.int q)) (d : Nat) {x : Int} (hw : (Lit.int q x).wf = true) : P.keyLits (d + 1) t [.int q x] = some [.int q x] := by
  unfold Program.keyLits
  simp only [hu]
  rw [if_pos ⟨trivial, hw⟩]
theorem mapM_ex {α β : Type} {f : α → Option β} : ∀ (l : List α), (∀ x ∈ l, ∃ y, f x = some y) → ∃ ys, l.mapM f = some ys
  | [], _ => ⟨[], rfl⟩
  | x :: l, h => by
    obtain ⟨y, hy⟩ := h x (by simp)
    obtain ⟨ys, hys⟩ := mapM_ex l (fun z hz => h z (by simp [hz]))
    exact ⟨y :: ys, by rw [List.mapM_cons, hy, hys]; rfl⟩
theorem lits_arr {k e : TypeId} {n : Nat} {q : IntKind} (hu : P.underlying k = some (.array n e)) (he : P.underlying e = some (.int q)) (h1 : P.cellsOf e = 1) (hk : P.cellsOf k = n) (d : Nat) {xs : List Int} (hn : xs.length = n) (hw : ∀ x ∈ xs, (Lit.int q x).wf = true) : ∃ L, P.keyLits (d + 2) k (xs.map (Value.int q)) = some L := by
  unfold Program.keyLits
  simp only [hu]
  rw [if_pos (by rw [hk]; simp [hn])]
  obtain ⟨ys, hys⟩ := mapM_ex (f := fun i => P.keyLits (d + 1) e (((xs.map (Value.int q)).drop (i * P.cellsOf e)).take (P.cellsOf e))) (List.range n) (fun i hi => by
    have hi2 : i < xs.length := by rw [hn]; exact List.mem_range.1 hi
    have e1 : ((xs.map (Value.int q)).drop (i * P.cellsOf e)).take (P.cellsOf e) = [Value.int q (xs.getD i 0)] := by
      rw [h1, Nat.mul_one, List.drop_eq_getElem_cons (by simpa using hi2)]
      simp [hi2]
    exact ⟨_, by rw [e1]; exact lits_int he d (hw _ (by simp [hi2]))⟩)
  exact ⟨_, by rw [hys]; rfl⟩
theorem lits_struct {k : TypeId} {fs : Array Field} (hu : P.underlying k = some (.struct fs)) {cs : List Value} (hl : cs.length = P.cellsOf k) (hb : fs.all (·.name != "_") = true) (d : Nat) (h : ∀ f ∈ fs.toList, ∃ L, P.keyLits d f.type ((cs.drop f.offset).take (P.cellsOf f.type)) = some L) : ∃ L, P.keyLits (d + 1) k cs = some L := by
  unfold Program.keyLits
  simp only [hu]
  rw [if_pos ⟨hl, hb⟩]
  obtain ⟨ys, hys⟩ := mapM_ex (f := fun f : Field => P.keyLits d f.type ((cs.drop f.offset).take (P.cellsOf f.type))) fs.toList h
  exact ⟨_, by rw [hys]; rfl⟩
theorem key_of_lits {k : TypeId} (W : Wide P k) (hkt : P.keyType k = true) {cs : List Value} (hl : cs.length = P.cellsOf k) {L : List Lit} (h : P.keyLits (P.types.size + 1) k cs = some L) : ∃ l, keyOf P k (.agg cs.toArray) = some l := by
  have hw := W.wide
  unfold keyOf
  split
  · rename_i hu
    rw [if_pos (by simp [hkt, Value.formed, hu, hl])]
    have h' : P.keyLits (P.types.size + 1) k (Value.agg cs.toArray).cells.toList = some L := h
    exact ⟨_, by rw [h']; rfl⟩
  · rename_i hu
    rw [if_pos (by simp [hkt, Value.formed, hu, hl])]
    have h' : P.keyLits (P.types.size + 1) k (Value.agg cs.toArray).cells.toList = some L := h
    exact ⟨_, by rw [h']; rfl⟩
  · rename_i h1 h2
    split at hw <;> simp_all
end
end Go.Proofs.Ytlmcompoalhpnaa.Eq
