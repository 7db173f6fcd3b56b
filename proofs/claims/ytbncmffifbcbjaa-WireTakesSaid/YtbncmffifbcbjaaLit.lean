/- A slice literal of one struct whose cells are a name; no condition. -/
import Derived.Test.YtbncmffifbcbjaaHd
import Derived.Great.BuildSlice
namespace Go.Proofs.Ytbncmffifbcbjaa.Lit
open Go Go.RowKit
section
variable {P : Program} {ops : Array Oper} {Q : Exit → Act → World → Prop} {rest : List Oper} {o : Oper} {a : Act} {W : World}
theorem fill1 (n : Nat) (hn : 0 < n) (C : List Value) (hC : C.length = n) (Z : Array Value) (hZ : Z.size = n) : Instr.fill (fun i => some (i * n, n)) Z [(0, .agg C.toArray)] = some C.toArray := by
  have h := Great.fill_whole hn [Value.agg C.toArray] Z (fun v hv => by simp at hv; subst hv; simp [Value.cells, hC]) (by simp [hZ])
  simpa [Value.cells] using h
theorem wpList_lit1 (hgd : o.guard = none) (t e : TypeId) (x : Operand) (ho : o.op = .buildSlice t 1 #[(0, x)]) (C : List Value) (hx : a.eval x = .agg C.toArray) (ht : P.underlying t = some (.slice e)) {z : Value} {n bytes : Nat}
    (hinfo : (P.info? e).map (fun i => (i.zero, i.size, i.bytes)) = some (some z, n, bytes)) (hC : C.length = n) (h0 : 0 < n) (h24 : n ≤ 16777216)
    (h : wpList P ops Q rest (a.put o.dst (.slice (some ⟨W.heap.size, 0, none⟩) 1 1)) (W.alloc (.cells C.toArray e))) : wpList P ops Q (o :: rest) a W := by
  obtain ⟨i0, hi, hzz⟩ := Option.map_eq_some_iff.1 hinfo
  simp only [Prod.mk.injEq] at hzz
  obtain ⟨hz0, hz1, _⟩ := hzz
  refine wpList_buildSlice hgd t e 1 _ ho C.toArray i0 z ht hi hz0 (by rw [hz1]; simp; omega) (by rw [hz1]; omega) ?_ h
  rw [hz1]
  have e1 : (#[((0 : Nat), x)].map fun (i, x) => (i, a.eval x)).toList = [(0, .agg C.toArray)] := by simp [hx]
  rw [e1]
  exact fill1 n h0 C hC _ (by simp)
end
end Go.Proofs.Ytbncmffifbcbjaa.Lit
