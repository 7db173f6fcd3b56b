/- What a script of deeds reads as; condition: it is read as the form reads it. -/
import Derived.Test.YtnpcngnmjbhhaaaSums
namespace Go.Proofs.YtnpcngnmjbhhaaaW.PrintWords
set_option linter.unusedVariables false
open Go Go.ChangeShapes Go.WideShapes Go.RowKit
structure Deed where
  op : Int
  s : List Int
  A : Option Addr
  k : Nat
  c : Nat
  ls : List (List Int)
instance : Inhabited Deed := ⟨⟨0, [], none, 0, 0, []⟩⟩
def Deed.cells (d : Deed) : List Value := .int .i64 d.op :: (nums .u8 d.s ++ [.slice d.A d.k d.c])
structure Deed.Ok (w : World) (d : Deed) : Prop where
  op : (Lit.int .i64 d.op).wf = true
  len : d.s.length = 32
  wf : ∀ x ∈ d.s, (Lit.int .u8 x).wf = true
  l : SumsC w d.A d.k d.ls
  kc : d.k ≤ d.c
theorem Deed.cells_len {d : Deed} (h : d.s.length = 32) : d.cells.length = 34 := by simp [Deed.cells, nums, h]
structure DeedsC (w : World) (A : Option Addr) (k : Nat) (ds : List Deed) : Prop where
  len : ds.length = k
  lim : k ≤ maxLen
  each : ∀ d, d ∈ ds → d.Ok w
  is : 0 < k → ∃ ad, A = some ad
  cells : ∀ ad, A = some ad → ∀ i, i < k → Go.Proofs.Ytnpcngnmjbhhaaa.Hd.RangeA w (ad.add (i * 34)) (ds.getD i default).cells
theorem Deed.Ok.below {w w1 : World} {d : Deed} (h : d.Ok w) (hb : Below w.heap.size w w1) : d.Ok w1 := ⟨h.op, h.len, h.wf, h.l.below hb, h.kc⟩
theorem DeedsC.below {w w1 : World} {A : Option Addr} {k : Nat} {ds : List Deed} (h : DeedsC w A k ds) (hb : Below w.heap.size w w1) : DeedsC w1 A k ds :=
  ⟨h.len, h.lim, fun d hd => (h.each d hd).below hb, h.is, fun ad ha i hi => (h.cells ad ha i hi).below hb⟩
theorem deed_open {H : Type} {enc : TypeId × Value → H} {P : Program} {t k e dt it : TypeId} {f0 f1 f2 : Field} {W : World} {base : Nat} {sp : Nat → Bool} {held : Bool} (A : WideMaps.ArrKey P k e 32) (he : P.underlying e = some (.int .u8)) (ht : P.underlying t = some (.slice k))
    (hd : P.underlying dt = some (.struct #[f0, f1, f2])) (hi : P.underlying it = some (.int .i64)) (t0 : f0.type = it) (t1 : f1.type = k) (t2 : f2.type = t) (o0 : f0.offset = 0) (o1 : f1.offset = 1) (o2 : f2.offset = 33) (c0 : P.cellsOf it = 1) (c2 : P.cellsOf t = 1) (cd : P.cellsOf dt = 34)
    {cs : List Value} {fuel : Nat} {y : DataW H × List MemPlace} (hl : cs.length = 34) (hf : DataW.trod enc P W base sp held fuel dt cs = some y) : ∃ d : Deed, cs = d.cells ∧ d.Ok W := by
  obtain ⟨xs, n, _, _, _, hxl, hx⟩ := DataW.trod_struct hd hf
  match xs, hxl with
  | [y0, y1, y2], _ =>
    have g0 := hx 0 f0 rfl
    have g1 := hx 1 f1 rfl
    have g2 := hx 2 f2 rfl
    rw [t0, o0, c0] at g0
    rw [t1, o1, A.size] at g1
    rw [t2, o2, c2] at g2
    obtain ⟨a, e0, _, w0⟩ := DataW.trod_int hi g0
    obtain ⟨s, e1, l1, w1⟩ := arr_cells A he (by rw [List.length_take, List.length_drop, hl]; rfl) g1
    have e2 : ∃ B len cap, (cs.drop 33).take 1 = [.slice B len cap] := by
      rcases DataW.trod_slice ht g2 with ⟨h, _⟩ | ⟨x, len, cap, _, _, _, _, h, _⟩
      · exact ⟨_, _, _, h⟩
      · exact ⟨_, _, _, h⟩
    obtain ⟨B, len, cap, e2⟩ := e2
    rw [e2] at g2
    obtain ⟨ls, h1, h2⟩ := sums_open A he ht g2
    refine ⟨⟨a, s, B, len, cap, ls⟩, ?_, ⟨w0, l1, w1, h1, h2⟩⟩
    show cs = .int .i64 a :: (nums .u8 s ++ [.slice B len cap])
    rw [← e1, ← e2]
    have e3 : (cs.drop 0).take 1 = [.int .i64 a] := e0
    rw [List.drop_zero] at e3
    have p1 : cs = cs.take 1 ++ cs.drop 1 := (List.take_append_drop 1 cs).symm
    have p2 : cs.drop 1 = (cs.drop 1).take 32 ++ (cs.drop 1).drop 32 := (List.take_append_drop 32 _).symm
    have p3 : (cs.drop 1).drop 32 = (cs.drop 33).take 1 := by
      rw [List.drop_drop, List.take_of_length_le (by rw [List.length_drop, hl]; decide)]
    rw [p3] at p2
    rw [← p2]
    rw [e3] at p1
    exact p1
theorem deeds_open {H : Type} {enc : TypeId × Value → H} {P : Program} {t k e dt it dl : TypeId} {f0 f1 f2 : Field} {W : World} {base : Nat} {sp : Nat → Bool} {held : Bool} (A : WideMaps.ArrKey P k e 32) (he : P.underlying e = some (.int .u8)) (ht : P.underlying t = some (.slice k))
    (hd : P.underlying dt = some (.struct #[f0, f1, f2])) (hi : P.underlying it = some (.int .i64)) (t0 : f0.type = it) (t1 : f1.type = k) (t2 : f2.type = t) (o0 : f0.offset = 0) (o1 : f1.offset = 1) (o2 : f2.offset = 33) (c0 : P.cellsOf it = 1) (c2 : P.cellsOf t = 1) (cd : P.cellsOf dt = 34)
    (hdl : P.underlying dl = some (.slice dt)) {a : Option Addr} {len cap : Nat} {fuel : Nat} {y : DataW H × List MemPlace} (hf : DataW.trod enc P W base sp held fuel dl [.slice a len cap] = some y) : ∃ ds, DeedsC W a len ds ∧ len ≤ cap := by
  rcases Go.Deep.open_slice hdl hf with ⟨hcs, _⟩ | ⟨x, l, c, m, n, D, Pl, hcs, _, hl, hm, hmm, _, hx⟩
  · injection hcs with h1 _
    injection h1 with h1 h2 h3
    subst h1; subst h2; subst h3
    exact ⟨[], ⟨rfl, by simp [maxLen], fun s hs => (by cases hs), fun h => (by omega), fun ad ha => (by cases ha)⟩, Nat.le_refl _⟩
  · injection hcs with h1 _
    injection h1 with h1 h2 h3
    subst h1; subst h2; subst h3
    have hlm : len ≤ m := by rw [hmm]; split <;> omega
    obtain ⟨ds, hls, hp⟩ := choose_list (p := fun i (d : Deed) => d.Ok W ∧ Go.Proofs.Ytnpcngnmjbhhaaa.Hd.RangeA W (x.add (i * 34)) d.cells) len (fun i hi' => by
      obtain ⟨cs', g1, g2⟩ := hx i (by omega)
      rw [cd] at g1
      obtain ⟨_, hlen, hcell⟩ := World.cells?_some g1
      obtain ⟨d, e1, e2⟩ := deed_open A he ht hd hi t0 t1 t2 o0 o1 o2 c0 c2 cd hlen g2
      refine ⟨d, e2, fun j v hv => ?_⟩
      rw [← e1] at hv
      obtain ⟨hj, hv⟩ := List.getElem?_eq_some_iff.1 hv
      have := hcell j (by omega)
      rw [← hv]
      simpa [hj] using this)
    refine ⟨ds, ⟨hls, Nat.le_trans hl hm, fun d hd => ?_, fun _ => ⟨x, rfl⟩, fun ad ha i hi => ?_⟩, hl⟩
    · obtain ⟨i, hi, rfl⟩ := List.getElem_of_mem hd
      have := hp i (by omega)
      rw [show ds.getD i default = ds[i] from by simp [hi]] at this
      exact this.1
    · injection ha with ha
      subst ha
      exact (hp i hi).2
end Go.Proofs.YtnpcngnmjbhhaaaW.PrintWords
