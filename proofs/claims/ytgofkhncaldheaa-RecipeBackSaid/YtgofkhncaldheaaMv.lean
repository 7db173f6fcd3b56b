/- What a row's slice of moves reads as; condition: it is read as the form reads it. -/
import Derived.Test.YtgofkhncaldheaaRf
import Derived.Test.YtgofkhncaldheaaKr
namespace Go.Proofs.YtgofkhncaldheaaW.PrintWords
set_option linter.unusedVariables false
open Go Go.ChangeShapes Go.WideShapes Go.RowKit
structure Mv where
  fb : Int
  fs : Int
  tb : Int
  ts : Int
instance : Inhabited Mv := ⟨⟨0, 0, 0, 0⟩⟩
def Mv.cells (m : Mv) : List Value := [.int .i64 m.fb, .int .i64 m.fs, .int .i64 m.tb, .int .i64 m.ts]
structure Mv.Ok (m : Mv) : Prop where
  a : (Lit.int .i64 m.fb).wf = true
  b : (Lit.int .i64 m.fs).wf = true
  c : (Lit.int .i64 m.tb).wf = true
  d : (Lit.int .i64 m.ts).wf = true
def dMv : Kd Mv := Kd.flatK 4 Mv.Ok Mv.cells (fun _ _ => rfl) (fun x _ u hu => by
  simp [Mv.cells] at hu
  rcases hu with rfl | rfl | rfl | rfl <;> rfl)
theorem spot_open {H : Type} {enc : TypeId × Value → H} {P : Program} {st it : TypeId} {f0 f1 : Field} {W : World} {base : Nat} {sp : Nat → Bool} {held : Bool}
    (hd : P.underlying st = some (.struct #[f0, f1])) (hi : P.underlying it = some (.int .i64)) (t0 : f0.type = it) (t1 : f1.type = it) (o0 : f0.offset = 0) (o1 : f1.offset = 1) (c0 : P.cellsOf it = 1)
    {cs : List Value} {fuel : Nat} {y : DataW H × List MemPlace} (hl : cs.length = 2) (hf : DataW.trod enc P W base sp held fuel st cs = some y) : ∃ a b : Int, cs = [.int .i64 a, .int .i64 b] ∧ (Lit.int .i64 a).wf = true ∧ (Lit.int .i64 b).wf = true := by
  obtain ⟨xs, n, _, _, _, hxl, hx⟩ := DataW.trod_struct hd hf
  match xs, hxl with
  | [y0, y1], _ =>
    have g0 := hx 0 f0 rfl
    have g1 := hx 1 f1 rfl
    rw [t0, o0, c0] at g0
    rw [t1, o1, c0] at g1
    obtain ⟨a0, e0, _, w0⟩ := DataW.trod_int hi g0
    obtain ⟨a1, e1, _, w1⟩ := DataW.trod_int hi g1
    refine ⟨a0, a1, ?_, w0, w1⟩
    match cs, hl with
    | [x, z], _ =>
      simp at e0 e1
      rw [e0, e1]
theorem mv_open {H : Type} {enc : TypeId × Value → H} {P : Program} {mt st it : TypeId} {g0 g1 f0 f1 : Field} {W : World} {base : Nat} {sp : Nat → Bool} {held : Bool}
    (hm : P.underlying mt = some (.struct #[g0, g1])) (hd : P.underlying st = some (.struct #[f0, f1])) (hi : P.underlying it = some (.int .i64)) (s0 : g0.type = st) (s1 : g1.type = st) (p0 : g0.offset = 0) (p1 : g1.offset = 2)
    (t0 : f0.type = it) (t1 : f1.type = it) (o0 : f0.offset = 0) (o1 : f1.offset = 1) (c0 : P.cellsOf it = 1) (c1 : P.cellsOf st = 2)
    {cs : List Value} {fuel : Nat} {y : DataW H × List MemPlace} (hl : cs.length = 4) (hf : DataW.trod enc P W base sp held fuel mt cs = some y) : ∃ m : Mv, cs = m.cells ∧ m.Ok := by
  obtain ⟨xs, n, _, _, _, hxl, hx⟩ := DataW.trod_struct hm hf
  match xs, hxl with
  | [y0, y1], _ =>
    have h0 := hx 0 g0 rfl
    have h1 := hx 1 g1 rfl
    rw [s0, p0, c1] at h0
    rw [s1, p1, c1] at h1
    obtain ⟨a, b, e0, w0, w1⟩ := spot_open hd hi t0 t1 o0 o1 c0 (by rw [List.length_take, List.length_drop, hl]; rfl) h0
    obtain ⟨c, d, e1, w2, w3⟩ := spot_open hd hi t0 t1 o0 o1 c0 (by rw [List.length_take, List.length_drop, hl]; rfl) h1
    refine ⟨⟨a, b, c, d⟩, ?_, ⟨w0, w1, w2, w3⟩⟩
    match cs, hl with
    | [x0, x1, x2, x3], _ =>
      simp at e0 e1
      obtain ⟨rfl, rfl⟩ := e0
      obtain ⟨rfl, rfl⟩ := e1
      rfl
theorem moves_open {H : Type} {enc : TypeId × Value → H} {P : Program} {rl mt st it : TypeId} {g0 g1 f0 f1 : Field} {W : World} {base : Nat} {sp : Nat → Bool} {held : Bool}
    (hm : P.underlying mt = some (.struct #[g0, g1])) (hd : P.underlying st = some (.struct #[f0, f1])) (hi : P.underlying it = some (.int .i64)) (s0 : g0.type = st) (s1 : g1.type = st) (p0 : g0.offset = 0) (p1 : g1.offset = 2)
    (t0 : f0.type = it) (t1 : f1.type = it) (o0 : f0.offset = 0) (o1 : f1.offset = 1) (c0 : P.cellsOf it = 1) (c1 : P.cellsOf st = 2) (cd : P.cellsOf mt = 4)
    (hdl : P.underlying rl = some (.slice mt)) {a : Option Addr} {len cap : Nat} {fuel : Nat} {y : DataW H × List MemPlace} (hf : DataW.trod enc P W base sp held fuel rl [.slice a len cap] = some y) : ∃ ms, dMv.C W a len ms ∧ len ≤ cap ∧ len ≤ maxLen := by
  rcases Go.Deep.open_slice hdl hf with ⟨hcs, _⟩ | ⟨x, l, c, m, n, D, Pl, hcs, _, hl, hmm, hmm2, _, hx⟩
  · injection hcs with h1 _
    injection h1 with h1 h2 h3
    subst h1; subst h2; subst h3
    exact ⟨[], ⟨rfl, by decide, fun h => by omega⟩, Nat.le_refl _, by simp [maxLen]⟩
  · injection hcs with h1 _
    injection h1 with h1 h2 h3
    subst h1; subst h2; subst h3
    have hlm : len ≤ m := by rw [hmm2]; split <;> omega
    obtain ⟨rs, hls, hp⟩ := choose_list (p := fun i (r : Mv) => r.Ok ∧ ∀ j v, r.cells[j]? = some v → W.cell? (x.add (i * 4 + j)) = some v) len (fun i hi' => by
      obtain ⟨cs', q1, q2⟩ := hx i (by omega)
      rw [cd] at q1
      obtain ⟨_, hlen, hcell⟩ := World.cells?_some q1
      obtain ⟨d, e1, e2⟩ := mv_open hm hd hi s0 s1 p0 p1 t0 t1 o0 o1 c0 c1 hlen q2
      refine ⟨d, e2, fun j v hv => ?_⟩
      rw [← e1] at hv
      obtain ⟨hj, hv⟩ := List.getElem?_eq_some_iff.1 hv
      have := hcell j (by omega)
      rw [← hv]
      rw [Addr.add_add] at this
      simpa [hj] using this)
    refine ⟨rs, ⟨hls, by have := Nat.le_trans hl hmm; simp only [maxLen] at this; omega, fun h0 => ⟨x, rfl, fun j p hj => ?_⟩⟩, hl, Nat.le_trans hl hmm⟩
    obtain ⟨hjl, hjp⟩ := List.getElem?_eq_some_iff.1 hj
    have hq := hp j (by omega)
    rw [show rs.getD j default = p from by simp [hj]] at hq
    exact ⟨p.cells, rfl, ⟨hq.1, rfl⟩, fun i u hu => hq.2 i u hu⟩
end Go.Proofs.YtgofkhncaldheaaW.PrintWords
