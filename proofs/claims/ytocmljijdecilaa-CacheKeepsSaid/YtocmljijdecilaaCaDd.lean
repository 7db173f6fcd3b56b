/- What a script of deeds reads as; condition: it is read as the form reads it. -/
import Derived.Test.YtocmljijdecilaaSums
import Derived.SizedLaws
namespace Go.Proofs.YtocmljijdecilaaW.PrintWords
set_option linter.unusedVariables false
open Go Go.ChangeShapes Go.WideShapes Go.RowKit
structure Deed where
  op : Int
  n : Int
  s : List Int
  A : Option Addr
  k : Nat
  c : Nat
  ls : List (List Int)
instance : Inhabited Deed := ⟨⟨0, 0, [], none, 0, 0, []⟩⟩
def Deed.cells (d : Deed) : List Value := (.int .i64 d.op) :: (.int .i64 d.n) :: (nums .u8 d.s ++ [.slice d.A d.k d.c])
structure Deed.Ok (w : World) (d : Deed) : Prop where
  op : (Lit.int .i64 d.op).wf = true
  nn : (Lit.int .i64 d.n).wf = true
  len : d.s.length = 32
  wf : ∀ x ∈ d.s, (Lit.int .u8 x).wf = true
  l : SumsC w d.A d.k d.ls
  kc : d.k ≤ d.c
  small : d.k * 32 ≤ 140737488351232
theorem Deed.cells_len {d : Deed} (h : d.s.length = 32) : d.cells.length = 35 := by simp [Deed.cells, nums, h]
structure DeedsC (w : World) (A : Option Addr) (k : Nat) (ds : List Deed) : Prop where
  len : ds.length = k
  lim : k ≤ maxLen
  each : ∀ d, d ∈ ds → d.Ok w
  is : 0 < k → ∃ ad, A = some ad
  cells : ∀ ad, A = some ad → ∀ i, i < k → Go.Proofs.Ytocmljijdecilaa.Hd.RangeA w (ad.add (i * 35)) (ds.getD i default).cells
theorem Deed.Ok.below {w w1 : World} {d : Deed} (h : d.Ok w) (hb : Below w.heap.size w w1) : d.Ok w1 := ⟨h.op, h.nn, h.len, h.wf, h.l.below hb, h.kc, h.small⟩
theorem DeedsC.below {w w1 : World} {A : Option Addr} {k : Nat} {ds : List Deed} (h : DeedsC w A k ds) (hb : Below w.heap.size w w1) : DeedsC w1 A k ds :=
  ⟨h.len, h.lim, fun d hd => (h.each d hd).below hb, h.is, fun ad ha i hi => (h.cells ad ha i hi).below hb⟩
theorem weights_mem_all {H : Type} {P : Program} {e : TypeId} : ∀ {ds : List (DataW H)} {d : DataW H}, d ∈ ds → ∀ n ∈ d.weights P e, n ∈ DataW.weightsAll P e ds
  | [], _, h, _, _ => by cases h
  | d0 :: ds, d, h, n, hn => by
    simp only [DataW.weightsAll, List.mem_append]
    rcases List.mem_cons.1 h with rfl | h
    · exact Or.inl hn
    · exact Or.inr (weights_mem_all h n hn)
theorem slice_small {H : Type} {enc : TypeId × Value → H} {P : Program} {t e : TypeId} {W : World} {base : Nat} {sp : Nat → Bool} {held : Bool} (ht : P.underlying t = some (.slice e)) {B : Nat} (hB : P.bytesOf e = B) {a : Option Addr} {len cap : Nat} {fuel : Nat} {y : DataW H × List MemPlace}
    (hf : DataW.trod enc P W base sp held fuel t [.slice a len cap] = some y) (hw : ∀ n ∈ y.1.weights P t, n ≤ reachBytes) : len * B ≤ 140737488351232 := by
  rcases Go.Deep.open_slice ht hf with ⟨hcs, _⟩ | ⟨x, l, c, m, n, D, Pl, hcs, _, hl, hm, hmm, hy, hx⟩
  · injection hcs with h1 _
    injection h1 with h1 h2 h3
    subst h2
    simp
  · injection hcs with h1 _
    injection h1 with h1 h2 h3
    subst h2
    subst hy
    have := hw ((((List.range len).map D).length + ((List.range (m - len)).map fun j => D (len + j)).length) * P.bytesOf e) (by simp [DataW.weights, ht])
    rw [hB] at this
    exact Nat.le_trans (Nat.mul_le_mul_right _ (by simp)) this
theorem deed_open {H : Type} {enc : TypeId × Value → H} {P : Program} {t k e dt it : TypeId} {f0 f1 f2 f3 : Field} {W : World} {base : Nat} {sp : Nat → Bool} {held : Bool} (A : WideMaps.ArrKey P k e 32) (he : P.underlying e = some (.int .u8)) (ht : P.underlying t = some (.slice k))
    (hd : P.underlying dt = some (.struct #[f0, f1, f2, f3])) (hi : P.underlying it = some (.int .i64)) (t0 : f0.type = it) (tn : f1.type = it) (t1 : f2.type = k) (t2 : f3.type = t) (o0 : f0.offset = 0) (on : f1.offset = 1) (o1 : f2.offset = 2) (o2 : f3.offset = 34) (c0 : P.cellsOf it = 1) (c2 : P.cellsOf t = 1) (cd : P.cellsOf dt = 35) (cB : P.bytesOf k = 32)
    {cs : List Value} {fuel : Nat} {y : DataW H × List MemPlace} (hl : cs.length = 35) (hf : DataW.trod enc P W base sp held fuel dt cs = some y) (hw : ∀ n ∈ y.1.weights P dt, n ≤ reachBytes) : ∃ d : Deed, cs = d.cells ∧ d.Ok W := by
  obtain ⟨xs, n, _, hy, _, hxl, hx⟩ := DataW.trod_struct hd hf
  match xs, hxl with
  | [y0, yn, y1, y2], _ =>
    have hw2 : ∀ n ∈ y2.1.weights P t, n ≤ reachBytes := fun n hn => hw n (by
      rw [hy]
      simp only [DataW.weights, hd]
      exact DataW.weights_mem_each (j := 3) (t := t) (d := y2.1) (by simp [t2]) rfl n hn)
    have g0 := hx 0 f0 rfl
    have gn := hx 1 f1 rfl
    have g1 := hx 2 f2 rfl
    have g2 := hx 3 f3 rfl
    rw [t0, o0, c0] at g0
    rw [tn, on, c0] at gn
    rw [t1, o1, A.size] at g1
    rw [t2, o2, c2] at g2
    obtain ⟨a, e0, _, w0⟩ := DataW.trod_int hi g0
    obtain ⟨b, en, _, wn⟩ := DataW.trod_int hi gn
    obtain ⟨s, e1, l1, w1⟩ := arr_cells A he (by rw [List.length_take, List.length_drop, hl]; rfl) g1
    have e2 : ∃ B len cap, (cs.drop 34).take 1 = [.slice B len cap] := by
      rcases DataW.trod_slice ht g2 with ⟨h, _⟩ | ⟨x, len, cap, _, _, _, _, h, _⟩
      · exact ⟨_, _, _, h⟩
      · exact ⟨_, _, _, h⟩
    obtain ⟨B, len, cap, e2⟩ := e2
    rw [e2] at g2
    obtain ⟨ls, h1, h2⟩ := sums_open A he ht g2
    refine ⟨⟨a, b, s, B, len, cap, ls⟩, ?_, ⟨w0, wn, l1, w1, h1, h2, slice_small ht cB g2 hw2⟩⟩
    show cs = .int .i64 a :: .int .i64 b :: (nums .u8 s ++ [.slice B len cap])
    rw [← e1, ← e2]
    have e3 : (cs.drop 0).take 1 = [.int .i64 a] := e0
    rw [List.drop_zero] at e3
    have p1 : cs = cs.take 1 ++ cs.drop 1 := (List.take_append_drop 1 cs).symm
    have p1b : cs.drop 1 = (cs.drop 1).take 1 ++ (cs.drop 1).drop 1 := (List.take_append_drop 1 _).symm
    have p1c : (cs.drop 1).drop 1 = cs.drop 2 := by rw [List.drop_drop]
    have p2 : cs.drop 2 = (cs.drop 2).take 32 ++ (cs.drop 2).drop 32 := (List.take_append_drop 32 _).symm
    have p3 : (cs.drop 2).drop 32 = (cs.drop 34).take 1 := by
      rw [List.drop_drop, List.take_of_length_le (by rw [List.length_drop, hl]; decide)]
    rw [p3] at p2
    rw [← p2]
    rw [e3] at p1
    rw [p1c, en] at p1b
    rw [p1b] at p1
    exact p1
theorem deeds_open {H : Type} {enc : TypeId × Value → H} {P : Program} {t k e dt it dl : TypeId} {f0 f1 f2 f3 : Field} {W : World} {base : Nat} {sp : Nat → Bool} {held : Bool} (A : WideMaps.ArrKey P k e 32) (he : P.underlying e = some (.int .u8)) (ht : P.underlying t = some (.slice k))
    (hd : P.underlying dt = some (.struct #[f0, f1, f2, f3])) (hi : P.underlying it = some (.int .i64)) (t0 : f0.type = it) (tn : f1.type = it) (t1 : f2.type = k) (t2 : f3.type = t) (o0 : f0.offset = 0) (on : f1.offset = 1) (o1 : f2.offset = 2) (o2 : f3.offset = 34) (c0 : P.cellsOf it = 1) (c2 : P.cellsOf t = 1) (cd : P.cellsOf dt = 35) (cB : P.bytesOf k = 32)
    (hdl : P.underlying dl = some (.slice dt)) {a : Option Addr} {len cap : Nat} {fuel : Nat} {y : DataW H × List MemPlace} (hf : DataW.trod enc P W base sp held fuel dl [.slice a len cap] = some y) (hw : ∀ n ∈ y.1.weights P dl, n ≤ reachBytes) : ∃ ds, DeedsC W a len ds ∧ len ≤ cap := by
  rcases Go.Deep.open_slice hdl hf with ⟨hcs, _⟩ | ⟨x, l, c, m, n, D, Pl, hcs, _, hl, hm, hmm, hy, hx⟩
  · injection hcs with h1 _
    injection h1 with h1 h2 h3
    subst h1; subst h2; subst h3
    exact ⟨[], ⟨rfl, by simp [maxLen], fun s hs => (by cases hs), fun h => (by omega), fun ad ha => (by cases ha)⟩, Nat.le_refl _⟩
  · injection hcs with h1 _
    injection h1 with h1 h2 h3
    subst h1; subst h2; subst h3
    have hlm : len ≤ m := by rw [hmm]; split <;> omega
    obtain ⟨ds, hls, hp⟩ := choose_list (p := fun i (d : Deed) => d.Ok W ∧ Go.Proofs.Ytocmljijdecilaa.Hd.RangeA W (x.add (i * 35)) d.cells) len (fun i hi' => by
      obtain ⟨cs', g1, g2⟩ := hx i (by omega)
      rw [cd] at g1
      obtain ⟨_, hlen, hcell⟩ := World.cells?_some g1
      obtain ⟨d, e1, e2⟩ := deed_open A he ht hd hi t0 tn t1 t2 o0 on o1 o2 c0 c2 cd cB hlen g2 (fun n hn => hw n (by
        rw [hy]
        simp only [DataW.weights, hdl]
        refine List.mem_cons_of_mem _ (List.mem_append_left _ (weights_mem_all (d := D i) (List.mem_map.2 ⟨i, List.mem_range.2 hi', rfl⟩) n hn))))
      refine ⟨d, e2, fun j v hv => ?_⟩
      rw [← e1] at hv
      obtain ⟨hj, hv⟩ := List.getElem?_eq_some_iff.1 hv
      have := hcell j (by omega)
      rw [← hv]
      simpa [hj] using this)
    refine ⟨ds, ⟨hls, Nat.le_trans hl hm, fun d hd => ?_, fun _ => ⟨x, rfl⟩, fun ad ha i hi => ?_⟩, hl⟩
    · obtain ⟨i, hi, rfl⟩ := List.getElem_of_mem hd
      have := hp i (by omega)
      rw [show ds.getD i default = ds[i] from by simp [hi]] at this
      exact this.1
    · injection ha with ha
      subst ha
      exact (hp i hi).2
end Go.Proofs.YtocmljijdecilaaW.PrintWords
