/- What a row's note reads as; condition: it is read as the form reads it. -/
import Derived.Test.YtbncmffifbcbjaaWiL1
import Derived.Deep.Slices
import Derived.ChangeSlices
import Derived.Test.YtbncmffifbcbjaaSums
namespace Go.Proofs.YtbncmffifbcbjaaW.PrintWords
set_option linter.unusedVariables false
open Go Go.ChangeShapes Go.WideShapes Go.RowKit Go.Proofs.Ytbncmffifbcbjaa.Hl Go.Proofs.Ytbncmffifbcbjaa.WiD Go.Proofs.Ytbncmffifbcbjaa.WiE
theorem held_open {H : Type} {enc : TypeId × Value → H} {P : Program} {rt st it : TypeId} {f0 f1 : Field} {W : World} {base : Nat} {sp : Nat → Bool} {held : Bool} (hd : P.underlying rt = some (.struct #[f0, f1])) (hs : P.underlying st = some .string) (hi : P.underlying it = some (.int .i64))
    (t0 : f0.type = st) (t1 : f1.type = it) (o0 : f0.offset = 0) (o1 : f1.offset = 1) (cS : P.cellsOf st = 1) (cI : P.cellsOf it = 1) {cs : List Value} {fuel : Nat} {y : DataW H × List MemPlace} (hl : cs.length = 2) (hf : DataW.trod enc P W base sp held fuel rt cs = some y) : ∃ h : Hl, cs = h.cells ∧ h.Ok := by
  obtain ⟨xs, n, _, _, _, hxl, hx⟩ := DataW.trod_struct hd hf
  match xs, hxl, cs, hl with
  | [y0, y1], _, [c0, c1], _ =>
    have g0 := hx 0 f0 rfl
    have g1 := hx 1 f1 rfl
    rw [t0, o0, cS] at g0
    rw [t1, o1, cI] at g1
    obtain ⟨s, e0, _, w0⟩ := DataW.trod_string hs g0
    obtain ⟨a, e1, _, w1⟩ := DataW.trod_int hi g1
    simp at e0 e1
    subst e0 e1
    exact ⟨⟨s, a⟩, rfl, ⟨by simpa [maxLen] using w0, w1⟩⟩
theorem part_open {H : Type} {enc : TypeId × Value → H} {P : Program} {k e rt it : TypeId} {f0 f1 : Field} {W : World} {base : Nat} {sp : Nat → Bool} {held : Bool} (A : WideMaps.ArrKey P k e 32) (he : P.underlying e = some (.int .u8)) (hd : P.underlying rt = some (.struct #[f0, f1])) (hi : P.underlying it = some (.int .i64))
    (t0 : f0.type = k) (t1 : f1.type = it) (o0 : f0.offset = 0) (o1 : f1.offset = 32) (cI : P.cellsOf it = 1) {cs : List Value} {fuel : Nat} {y : DataW H × List MemPlace} (hl : cs.length = 33) (hf : DataW.trod enc P W base sp held fuel rt cs = some y) : ∃ p : Pt, cs = p.cells ∧ p.Ok := by
  obtain ⟨xs, n, _, _, _, hxl, hx⟩ := DataW.trod_struct hd hf
  match xs, hxl with
  | [y0, y1], _ =>
    have g0 := hx 0 f0 rfl
    have g1 := hx 1 f1 rfl
    rw [t0, o0, A.size] at g0
    rw [t1, o1, cI] at g1
    obtain ⟨s, e0, l0, w0⟩ := arr_cells A he (by rw [List.length_take, List.length_drop, hl]; rfl) g0
    obtain ⟨a, e1, _, w1⟩ := DataW.trod_int hi g1
    refine ⟨⟨s, a⟩, ?_, ⟨l0, w0, w1⟩⟩
    show cs = nums .u8 s ++ [.int .i64 a]
    rw [List.drop_zero] at e0
    have p0 : cs = cs.take 32 ++ cs.drop 32 := (List.take_append_drop 32 cs).symm
    have p1 : cs.drop 32 = (cs.drop 32).take 1 := by rw [List.take_of_length_le (by rw [List.length_drop, hl]; decide)]
    rw [e1] at p1
    rw [e0, p1] at p0
    exact p0
theorem flat_open {H α : Type} [Inhabited α] {enc : TypeId × Value → H} {P : Program} {rl rt : TypeId} {W : World} {base : Nat} {sp : Nat → Bool} {held : Bool} (m0 : Nat) (Ok : α → Prop) (cells : α → List Value) (q1) (q2) (hdl : P.underlying rl = some (.slice rt)) (cd : P.cellsOf rt = m0)
    (ho : ∀ {cs : List Value} {fuel : Nat} {y : DataW H × List MemPlace} , cs.length = m0 → DataW.trod enc P W base sp held fuel rt cs = some y → ∃ x : α, cs = cells x ∧ Ok x)
    {cs : List Value} {fuel : Nat} {y : DataW H × List MemPlace} (hf : DataW.trod enc P W base sp held fuel rl cs = some y) : ∃ (a : Option Addr) (len cap : Nat) (l : List α), cs = [.slice a len cap] ∧ (Kd.flatK m0 Ok cells q1 q2).C W a len l ∧ l.length = len ∧ len ≤ cap ∧ len ≤ 9223372036854775807 := by
  have hml : maxLen = 9223372036854775807 := by decide
  rcases Go.Deep.open_slice hdl hf with ⟨rfl, _⟩ | ⟨x, len, cap, m, n, D, Pl, rfl, _, hl, hm, hmm, _, hx⟩
  · exact ⟨none, 0, 0, [], rfl, ⟨rfl, Nat.zero_le _, fun h => absurd h (Nat.lt_irrefl 0)⟩, rfl, Nat.le_refl _, Nat.zero_le _⟩
  · have hlm : len ≤ m := by rw [hmm]; split <;> omega
    obtain ⟨l, hls, hp⟩ := choose_list (p := fun i (d : α) => Ok d ∧ ∀ r u, (cells d)[r]? = some u → W.cell? (x.add (i * m0 + r)) = some u) len (fun i hi' => by
      obtain ⟨cs', g1, g2⟩ := hx i (by omega)
      rw [cd] at g1
      obtain ⟨_, hlen, hcell⟩ := World.cells?_some g1
      obtain ⟨d, e1, e2⟩ := ho hlen g2
      refine ⟨d, e2, fun j v hv => ?_⟩
      rw [← e1] at hv
      obtain ⟨hj, hv⟩ := List.getElem?_eq_some_iff.1 hv
      have := hcell j (by omega)
      rw [← hv, ← Addr.add_add]
      simpa [hj] using this)
    refine ⟨some x, len, cap, l, rfl, ⟨hls, show len ≤ 9223372036854775807 by omega, fun _ => ⟨x, rfl, fun j d hj => ?_⟩⟩, hls, hl, by omega⟩
    have hjl : j < len := by have := (List.getElem?_eq_some_iff.1 hj).1; omega
    have h1 := hp j hjl
    rw [List.getD_eq_getElem?_getD, hj] at h1
    exact ⟨cells d, q1 _ h1.1, ⟨h1.1, rfl⟩, h1.2⟩
theorem bytes_open {H : Type} {enc : TypeId × Value → H} {P : Program} {t e : TypeId} {W : World} {base : Nat} {sp : Nat → Bool} {held : Bool} (ht : P.underlying t = some (.slice e)) (he : P.underlying e = some (.int .u8)) (hc : P.cellsOf e = 1)
    {cs : List Value} {fuel : Nat} {y : DataW H × List MemPlace} (hf : DataW.trod enc P W base sp held fuel t cs = some y) : ∃ (a : Option Addr) (len cap : Nat) (l : List Int), cs = [.slice a len cap] ∧ (Kd.int .u8).C W a len l ∧ l.length = len ∧ len ≤ cap ∧ ∀ x ∈ l, (Lit.int .u8 x).wf = true := by
  rcases open_ints ht he hc hf with ⟨rfl, _⟩ | ⟨x, len, cap, zs, rfl, _, hl, hm, hz, _, hcell, hwz⟩
  · exact ⟨none, 0, 0, [], rfl, ⟨rfl, Nat.zero_le _, fun h => absurd h (Nat.lt_irrefl 0)⟩, rfl, Nat.le_refl _, fun x hx => by cases hx⟩
  · have hlz : len ≤ zs.length := by rw [hz]; split <;> omega
    have hml : maxLen = 9223372036854775807 := by decide
    have hlt : (zs.take len).length = len := by rw [List.length_take]; omega
    refine ⟨some x, len, cap, zs.take len, rfl, ⟨hlt, show len ≤ 9223372036854775807 by omega, fun _ => ⟨x, rfl, fun j v hj => ?_⟩⟩, hlt, hl, fun v hv => hwz v (List.mem_of_mem_take hv)⟩
    have hjl : j < len := by have := (List.getElem?_eq_some_iff.1 hj).1; rw [List.length_take] at this; omega
    have hv : zs[j]? = some v := by rw [List.getElem?_take_of_lt hjl] at hj; exact hj
    refine ⟨[.int .u8 v], rfl, rfl, fun i u hu => ?_⟩
    have hi : i = 0 := by
      have := (List.getElem?_eq_some_iff.1 hu).1
      simp at this
      exact this
    subst hi
    obtain rfl : Value.int .u8 v = u := by simpa using hu
    have h1 := hcell j (by omega)
    rw [List.getD_eq_getElem?_getD, hv] at h1
    show W.cell? (x.add (j * 1 + 0)) = _
    rw [Nat.mul_one, Nat.add_zero]
    exact h1
theorem note_open {H : Type} {enc : TypeId × Value → H} {P : Program} {nt sy st it hl ht pl pt bl e k : TypeId} {f0 f1 f2 f3 f4 f5 f6 g0 g1 p0 p1 : Field} {W : World} {base : Nat} {sp : Nat → Bool} {held : Bool}
    (A : WideMaps.ArrKey P k e 32) (he : P.underlying e = some (.int .u8)) (cE : P.cellsOf e = 1)
    (hn : P.underlying nt = some (.struct #[f0, f1, f2, f3, f4, f5, f6])) (hsy : P.underlying sy = some (.int .i64)) (hst : P.underlying st = some .string) (hit : P.underlying it = some (.int .i64))
    (hhl : P.underlying hl = some (.slice ht)) (hht : P.underlying ht = some (.struct #[g0, g1])) (hpl : P.underlying pl = some (.slice pt)) (hpt : P.underlying pt = some (.struct #[p0, p1])) (hbl : P.underlying bl = some (.slice e))
    (a0 : g0.type = st) (a1 : g1.type = it) (a2 : g0.offset = 0) (a3 : g1.offset = 1) (b0 : p0.type = k) (b1 : p1.type = it) (b2 : p0.offset = 0) (b3 : p1.offset = 32)
    (t0 : f0.type = sy) (t1 : f1.type = st) (t2 : f2.type = it) (t3 : f3.type = it) (t4 : f4.type = hl) (t5 : f5.type = pl) (t6 : f6.type = bl)
    (o0 : f0.offset = 0) (o1 : f1.offset = 1) (o2 : f2.offset = 2) (o3 : f3.offset = 3) (o4 : f4.offset = 4) (o5 : f5.offset = 5) (o6 : f6.offset = 6)
    (cY : P.cellsOf sy = 1) (cS : P.cellsOf st = 1) (cI : P.cellsOf it = 1) (cH : P.cellsOf hl = 1) (cP : P.cellsOf pl = 1) (cB : P.cellsOf bl = 1) (cHt : P.cellsOf ht = 2) (cPt : P.cellsOf pt = 33)
    {cs : List Value} {fuel : Nat} {y : DataW H × List MemPlace} (hlen : cs.length = 7) (hf : DataW.trod enc P W base sp held fuel nt cs = some y) : ∃ (n : Nt) (a : Ads), cs = (noteV n a).toList ∧ NtC W n a ∧ n.held.length ≤ 9223372036854775807 ∧ n.parts.length ≤ 9223372036854775807 := by
  obtain ⟨xs, n, _, _, _, hxl, hx⟩ := DataW.trod_struct hn hf
  match xs, hxl, cs, hlen with
  | [y0, y1, y2, y3, y4, y5, y6], _, [c0, c1, c2, c3, c4, c5, c6], _ =>
    have r0 := hx 0 f0 rfl
    have r1 := hx 1 f1 rfl
    have r2 := hx 2 f2 rfl
    have r3 := hx 3 f3 rfl
    have r4 := hx 4 f4 rfl
    have r5 := hx 5 f5 rfl
    have r6 := hx 6 f6 rfl
    rw [t0, o0, cY] at r0
    rw [t1, o1, cS] at r1
    rw [t2, o2, cI] at r2
    rw [t3, o3, cI] at r3
    rw [t4, o4, cH] at r4
    rw [t5, o5, cP] at r5
    rw [t6, o6, cB] at r6
    obtain ⟨v0, e0, _, w0⟩ := DataW.trod_int hsy r0
    obtain ⟨v1, e1, _, w1⟩ := DataW.trod_string hst r1
    obtain ⟨v2, e2, _, w2⟩ := DataW.trod_int hit r2
    obtain ⟨v3, e3, _, w3⟩ := DataW.trod_int hit r3
    obtain ⟨x4, n4, k4, l4, e4, u4, q4, m4, z4⟩ := flat_open 2 Hl.Ok Hl.cells (fun _ _ => rfl) (fun h _ u hu => by
      simp only [Hl.cells, List.mem_cons, List.not_mem_nil, or_false] at hu
      rcases hu with rfl | rfl <;> rfl) hhl cHt (fun hl hf => held_open hht hst hit a0 a1 a2 a3 cS cI hl hf) r4
    obtain ⟨x5, n5, k5, l5, e5, u5, q5, m5, z5⟩ := flat_open 33 Pt.Ok Pt.cells (fun _ h => Pt.cells_len h) (fun p _ => p.one) hpl cPt (fun hl hf => part_open A he hpt hit b0 b1 b2 b3 cI hl hf) r5
    obtain ⟨x6, n6, k6, l6, e6, u6, q6, m6, z6⟩ := bytes_open hbl he cE r6
    simp at e0 e1 e2 e3 e4 e5 e6
    subst e0 e1 e2 e3 e4 e5 e6 q4 q5 q6
    exact ⟨⟨v0, v1, v2, v3, l4, l5, l6⟩, ⟨x4, k4, x5, k5, x6, k6⟩, rfl, ⟨by simpa [maxLen] using w1, u4, m4, u5, m5, u6, m6, fun c hc => by have h := (by simpa [Lit.wf] using z6 c hc : IntKind.u8.min ≤ c ∧ c ≤ IntKind.u8.max); exact ⟨h.1, h.2⟩⟩, z4, z5⟩
end Go.Proofs.YtbncmffifbcbjaaW.PrintWords
