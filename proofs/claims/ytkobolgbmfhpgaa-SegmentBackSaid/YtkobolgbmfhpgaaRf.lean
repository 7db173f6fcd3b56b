/- What a row's slice of refs reads as; condition: it is read as the form reads it. -/
import Derived.Test.YtkobolgbmfhpgaaSums
namespace Go.Proofs.YtkobolgbmfhpgaaW.PrintWords
set_option linter.unusedVariables false
open Go Go.ChangeShapes Go.WideShapes Go.RowKit
structure Ref where
  s : List Int
  len : Int
  bin : Int
  slot : Int
instance : Inhabited Ref := ⟨⟨[], 0, 0, 0⟩⟩
def Ref.cells (r : Ref) : List Value := nums .u8 r.s ++ [.int .i64 r.len, .int .i64 r.bin, .int .i64 r.slot]
structure Ref.Ok (r : Ref) : Prop where
  n : r.s.length = 32
  wf : ∀ x ∈ r.s, (Lit.int .u8 x).wf = true
  l : (Lit.int .i64 r.len).wf = true
  b : (Lit.int .i64 r.bin).wf = true
  sl : (Lit.int .i64 r.slot).wf = true
theorem Ref.cells_len {r : Ref} (h : r.Ok) : r.cells.length = 35 := by simp [Ref.cells, nums, h.n]
theorem Ref.cells_one {r : Ref} : r.cells.toArray.all (·.oneCell') = true := all_oneCell_toArray (fun v hv => by
  rcases List.mem_append.1 hv with hv | hv
  · obtain ⟨x, _, rfl⟩ := List.mem_map.1 hv; rfl
  · simp only [List.mem_cons, List.not_mem_nil, or_false] at hv
    rcases hv with rfl | rfl | rfl <;> rfl)
theorem Ref.cell_len {r : Ref} (h : r.Ok) : r.cells.toArray[32]? = some (.int .i64 r.len) := by
  rw [List.getElem?_toArray]
  have : (nums .u8 r.s).length = 32 := by simp [nums, h.n]
  show (nums .u8 r.s ++ _)[32]? = _
  rw [List.getElem?_append_right (by omega), this]; rfl
theorem Ref.cell_bin {r : Ref} (h : r.Ok) : r.cells.toArray[33]? = some (.int .i64 r.bin) := by
  rw [List.getElem?_toArray]
  have : (nums .u8 r.s).length = 32 := by simp [nums, h.n]
  show (nums .u8 r.s ++ _)[33]? = _
  rw [List.getElem?_append_right (by omega), this]; rfl
theorem Ref.cell_slot {r : Ref} (h : r.Ok) : r.cells.toArray[34]? = some (.int .i64 r.slot) := by
  rw [List.getElem?_toArray]
  have : (nums .u8 r.s).length = 32 := by simp [nums, h.n]
  show (nums .u8 r.s ++ _)[34]? = _
  rw [List.getElem?_append_right (by omega), this]; rfl
structure RefsC (w : World) (A : Option Addr) (k : Nat) (rs : List Ref) : Prop where
  len : rs.length = k
  lim : k ≤ maxLen
  each : ∀ r, r ∈ rs → r.Ok
  is : 0 < k → ∃ ad, A = some ad
  cells : ∀ ad, A = some ad → ∀ i, i < k → Go.Proofs.Ytkobolgbmfhpgaa.Hd.RangeA w (ad.add (i * 35)) (rs.getD i default).cells
theorem RefsC.below {w w1 : World} {A : Option Addr} {k : Nat} {rs : List Ref} (h : RefsC w A k rs) (hb : Below w.heap.size w w1) : RefsC w1 A k rs :=
  ⟨h.len, h.lim, h.each, h.is, fun ad ha i hi => (h.cells ad ha i hi).below hb⟩
theorem RefsC.ok {w : World} {A : Option Addr} {k : Nat} {rs : List Ref} (h : RefsC w A k rs) (i : Nat) (hi : i < k) : (rs.getD i default).Ok := h.each _ (by
  have : i < rs.length := by rw [h.len]; exact hi
  simp [this])
theorem ref_open {H : Type} {enc : TypeId × Value → H} {P : Program} {k e rt it : TypeId} {f0 f1 f2 f3 : Field} {W : World} {base : Nat} {sp : Nat → Bool} {held : Bool} (A : WideMaps.ArrKey P k e 32) (he : P.underlying e = some (.int .u8))
    (hd : P.underlying rt = some (.struct #[f0, f1, f2, f3])) (hi : P.underlying it = some (.int .i64)) (t0 : f0.type = k) (t1 : f1.type = it) (t2 : f2.type = it) (t3 : f3.type = it) (o0 : f0.offset = 0) (o1 : f1.offset = 32) (o2 : f2.offset = 33) (o3 : f3.offset = 34) (c0 : P.cellsOf it = 1)
    {cs : List Value} {fuel : Nat} {y : DataW H × List MemPlace} (hl : cs.length = 35) (hf : DataW.trod enc P W base sp held fuel rt cs = some y) : ∃ r : Ref, cs = r.cells ∧ r.Ok := by
  obtain ⟨xs, n, _, _, _, hxl, hx⟩ := DataW.trod_struct hd hf
  match xs, hxl with
  | [y0, y1, y2, y3], _ =>
    have g0 := hx 0 f0 rfl
    have g1 := hx 1 f1 rfl
    have g2 := hx 2 f2 rfl
    have g3 := hx 3 f3 rfl
    rw [t0, o0, A.size] at g0
    rw [t1, o1, c0] at g1
    rw [t2, o2, c0] at g2
    rw [t3, o3, c0] at g3
    obtain ⟨s, e0, l0, w0⟩ := arr_cells A he (by rw [List.length_take, List.length_drop, hl]; rfl) g0
    obtain ⟨a1, e1, _, w1⟩ := DataW.trod_int hi g1
    obtain ⟨a2, e2, _, w2⟩ := DataW.trod_int hi g2
    obtain ⟨a3, e3, _, w3⟩ := DataW.trod_int hi g3
    refine ⟨⟨s, a1, a2, a3⟩, ?_, ⟨l0, w0, w1, w2, w3⟩⟩
    show cs = nums .u8 s ++ [.int .i64 a1, .int .i64 a2, .int .i64 a3]
    rw [List.drop_zero] at e0
    have p0 : cs = cs.take 32 ++ cs.drop 32 := (List.take_append_drop 32 cs).symm
    have p1 : cs.drop 32 = (cs.drop 32).take 1 ++ cs.drop 33 := by
      have := (List.take_append_drop 1 (cs.drop 32)).symm
      rwa [List.drop_drop] at this
    have p2 : cs.drop 33 = (cs.drop 33).take 1 ++ cs.drop 34 := by
      have := (List.take_append_drop 1 (cs.drop 33)).symm
      rwa [List.drop_drop] at this
    have p3 : cs.drop 34 = (cs.drop 34).take 1 := by rw [List.take_of_length_le (by rw [List.length_drop, hl]; decide)]
    rw [e3] at p3
    rw [e2, p3] at p2
    rw [e1, p2] at p1
    rw [e0, p1] at p0
    exact p0
theorem refs_open {H : Type} {enc : TypeId × Value → H} {P : Program} {k e rt it rl : TypeId} {f0 f1 f2 f3 : Field} {W : World} {base : Nat} {sp : Nat → Bool} {held : Bool} (A : WideMaps.ArrKey P k e 32) (he : P.underlying e = some (.int .u8))
    (hd : P.underlying rt = some (.struct #[f0, f1, f2, f3])) (hi : P.underlying it = some (.int .i64)) (t0 : f0.type = k) (t1 : f1.type = it) (t2 : f2.type = it) (t3 : f3.type = it) (o0 : f0.offset = 0) (o1 : f1.offset = 32) (o2 : f2.offset = 33) (o3 : f3.offset = 34) (c0 : P.cellsOf it = 1) (cd : P.cellsOf rt = 35)
    (hdl : P.underlying rl = some (.slice rt)) {a : Option Addr} {len cap : Nat} {fuel : Nat} {y : DataW H × List MemPlace} (hf : DataW.trod enc P W base sp held fuel rl [.slice a len cap] = some y) : ∃ rs, RefsC W a len rs ∧ len ≤ cap := by
  rcases Go.Deep.open_slice hdl hf with ⟨hcs, _⟩ | ⟨x, l, c, m, n, D, Pl, hcs, _, hl, hm, hmm, _, hx⟩
  · injection hcs with h1 _
    injection h1 with h1 h2 h3
    subst h1; subst h2; subst h3
    exact ⟨[], ⟨rfl, by simp [maxLen], fun s hs => (by cases hs), fun h => (by omega), fun ad ha => (by cases ha)⟩, Nat.le_refl _⟩
  · injection hcs with h1 _
    injection h1 with h1 h2 h3
    subst h1; subst h2; subst h3
    have hlm : len ≤ m := by rw [hmm]; split <;> omega
    obtain ⟨rs, hls, hp⟩ := choose_list (p := fun i (r : Ref) => r.Ok ∧ Go.Proofs.Ytkobolgbmfhpgaa.Hd.RangeA W (x.add (i * 35)) r.cells) len (fun i hi' => by
      obtain ⟨cs', g1, g2⟩ := hx i (by omega)
      rw [cd] at g1
      obtain ⟨_, hlen, hcell⟩ := World.cells?_some g1
      obtain ⟨d, e1, e2⟩ := ref_open A he hd hi t0 t1 t2 t3 o0 o1 o2 o3 c0 hlen g2
      refine ⟨d, e2, fun j v hv => ?_⟩
      rw [← e1] at hv
      obtain ⟨hj, hv⟩ := List.getElem?_eq_some_iff.1 hv
      have := hcell j (by omega)
      rw [← hv]
      simpa [hj] using this)
    refine ⟨rs, ⟨hls, Nat.le_trans hl hm, fun d hd => ?_, fun _ => ⟨x, rfl⟩, fun ad ha i hi => ?_⟩, hl⟩
    · obtain ⟨i, hi, rfl⟩ := List.getElem_of_mem hd
      have := hp i (by omega)
      rw [show rs.getD i default = rs[i] from by simp [hi]] at this
      exact this.1
    · injection ha with ha
      subst ha
      exact (hp i hi).2
end Go.Proofs.YtkobolgbmfhpgaaW.PrintWords
