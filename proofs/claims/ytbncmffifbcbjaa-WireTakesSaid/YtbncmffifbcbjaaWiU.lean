/- wire.Take under way: the reading, the bytes ahead, and what else was made; its steps. -/
import Derived.Test.YtbncmffifbcbjaaWiR
import Derived.Test.YtbncmffifbcbjaaWiT
import Derived.Deep.MidRow
namespace Go.Proofs.Ytbncmffifbcbjaa.WiU
open Go Go.RowKit Go.Proofs.YtbncmffifbcbjaaW.PrintWords Go.Proofs.Ytbncmffifbcbjaa.K Go.Proofs.Ytbncmffifbcbjaa.OctS Go.Proofs.Ytbncmffifbcbjaa.OctP Go.Proofs.Ytbncmffifbcbjaa.Oct Go.Proofs.Ytbncmffifbcbjaa.Ap Go.Proofs.Ytbncmffifbcbjaa.WiR Go.Proofs.Ytbncmffifbcbjaa.WiT
set_option linter.unusedVariables false
set_option linter.unusedSimpArgs false
/-- The bytes b lie ahead of w; the reading's block is g; the blocks of L lie as they do. -/
structure Ts (w W : World) (g : Nat) (A : Option Addr) (c : Nat) (b : List Int) (s : Rs) (L : List (Nat × Array Value × TypeId)) : Prop where
  rd : Rd W g A b.length c s
  b : Below w.heap.size w W
  lt : w.heap.size ≤ g
  keep : ∀ x ∈ L, x.1 ≠ g ∧ w.heap.size ≤ x.1 ∧ W.heap[x.1]? = some (.cells x.2.1 x.2.2 (0, 0))
/-- Bytes that are given. -/
structure Given (w : World) (A : Option Addr) (c : Nat) (b : List Int) : Prop where
  C : (Kd.int .u8).C w A b.length b
  hc : b.length ≤ c
  hb : Bytes b
  hm : b.length ≤ 140737488351232
section
variable {w W W1 : World} {g c : Nat} {A : Option Addr} {b : List Int} {s s1 : Rs} {L : List (Nat × Array Value × TypeId)}
theorem Ts.get (h : Ts w W g A c b s L) (x : Nat × Array Value × TypeId) (hx : x ∈ L) : W.heap[x.1]? = some (.cells x.2.1 x.2.2 (0, 0)) := (h.keep x hx).2.2
theorem Ts.below (h : Ts w W g A c b s L) (hb : Below W.heap.size W W1) : Ts w W1 g A c b s L :=
  ⟨h.rd.below hb, below_then h.b h.b.size hb, h.lt, fun x hx => ⟨(h.keep x hx).1, (h.keep x hx).2.1, (hb.block _ (Array.getElem?_eq_some_iff.1 (h.keep x hx).2.2).1).trans (h.keep x hx).2.2⟩⟩
theorem Ts.drew (h : Ts w W g A c b s L) : Ts w W.drew g A c b s L := h.below (below_drew1 (Below.refl _ _))
theorem Ts.alloc (h : Ts w W g A c b s L) (o : Obj) : Ts w (W.alloc o) g A c b s L := h.below (below_alloc (Below.refl _ _) o)
theorem Ts.lit (h : Ts w W g A c b s L) (cs : Array Value) (t : TypeId) : Ts w (W.alloc (.cells cs t)) g A c b s ((W.heap.size, cs, t) :: L) := by
  refine ⟨(h.alloc (.cells cs t)).rd, (h.alloc (.cells cs t)).b, h.lt, fun x hx => ?_⟩
  rcases List.mem_cons.1 hx with rfl | hx
  · exact ⟨fun e => by have := h.rd.lt; simp only at e; omega, h.b.size, heap_alloc_new W _⟩
  · exact (h.alloc (.cells cs t)).keep x hx
theorem Ts.less (h : Ts w W g A c b s L) {L1 : List (Nat × Array Value × TypeId)} (hl : ∀ x ∈ L1, x ∈ L) : Ts w W g A c b s L1 := ⟨h.rd, h.b, h.lt, fun x hx => h.keep x (hl x hx)⟩
theorem Ts.read (h : Ts w W g A c b s L) (hr : Rd W1 g A b.length c s1) (hg : W.grownBy W1 (some g)) : Ts w W1 g A c b s1 L :=
  ⟨hr, h.b.grown hg h.b.size (fun k e => by injection e with e; have := h.lt; omega), h.lt, fun x hx => ⟨(h.keep x hx).1, (h.keep x hx).2.1, (hg.block _ (Array.getElem?_eq_some_iff.1 (h.keep x hx).2.2).1 (fun e => by injection e with e; exact (h.keep x hx).1 e)).trans (h.keep x hx).2.2⟩⟩
/-- A block of its own is written. -/
theorem Ts.put {a : Nat} {cs : Array Value} {t : TypeId} (h : Ts w W g A c b s ((a, cs, t) :: L)) (hne : ∀ y ∈ L, y.1 ≠ a) (k : Nat) (v : Value) : Ts w (W.setCell ⟨a, k, none⟩ v) g A c b s ((a, cs.setIfInBounds k v, t) :: L) := by
  have ha := h.keep _ List.mem_cons_self
  have hg := obj_grown W a k v
  refine ⟨h.rd.kept hg (fun e => by injection e with e; exact ha.1 e.symm), h.b.grown hg h.b.size (fun k e => by injection e with e; have := ha.2.1; simp only at this; omega), h.lt, fun x hx => ?_⟩
  rcases List.mem_cons.1 hx with rfl | hx
  · exact ⟨ha.1, ha.2.1, obj_set ha.2.2 k v⟩
  · have hx' := h.keep x (List.mem_cons_of_mem _ hx)
    exact ⟨hx'.1, hx'.2.1, (hg.block _ (Array.getElem?_eq_some_iff.1 hx'.2.2).1 (fun e => by injection e with e; exact hne x hx e)).trans hx'.2.2⟩
theorem Ts.num (h : Ts w W g A c b s L) (hG : Given w A c b) : Calls Try.prog 29 #[.pointer (some ⟨g, 0, none⟩)] W fun e W1 => e = .returned (.int .i64 (numR b s).1) ∧ Ts w W1 g A c b (numR b s).2 L ∧ W.grownBy W1 (some g) :=
  (num_calls h.rd (Kd.C_below hG.C h.b) hG.hc hG.hb (Nat.le_trans hG.hm (by decide))).mono fun e W1 ⟨h1, h2, h3⟩ => ⟨h1, h.read h2 h3, h3⟩
theorem Ts.must (h : Ts w W g A c b s L) (ok : Bool) (x : Int) : Calls Try.prog 30 #[.pointer (some ⟨g, 0, none⟩), .bool ok, .int .i64 x] W fun e W1 => e = .returned (.tuple #[]) ∧ Ts w W1 g A c b (mustR s ok x) L ∧ W.grownBy W1 (some g) :=
  (must_calls h.rd ok x).mono fun e W1 ⟨h1, h2, h3⟩ => ⟨h1, h.read h2 h3, h3⟩
theorem Ts.text (h : Ts w W g A c b s L) (hG : Given w A c b) (most : Int) : Calls Try.prog 31 #[.pointer (some ⟨g, 0, none⟩), .int .i64 most] W fun e W1 => ∃ v, e = .returned v ∧ Ts w W1 g A c b (textR b s most).2 L ∧ W.grownBy W1 (some g) ∧ Kd.R (Kd.int .u8) 5 W1 W.heap.size (fun _ => True) (v) ((textR b s most).1) :=
  (WiR.text_calls h.rd (Kd.C_below hG.C h.b) hG.hc hG.hb hG.hm most).mono fun e W1 ⟨v, h1, h2, h3, h4⟩ => ⟨v, h1, h.read h2 h3, h3, h4⟩
theorem Ts.rcells (h : Ts w W g A c b s L) : W.cell? ⟨g, 0, none⟩ = some (.slice A b.length c) ∧ W.cell? ⟨g, 1, none⟩ = some (.int .i64 s.at_) ∧ W.cell? ⟨g, 2, none⟩ = some (.int .i64 s.e) ∧ W.frozen? ⟨g, 2, none⟩ = false :=
  ⟨obj_cell h.rd.blk 0 rfl, obj_cell h.rd.blk 1 rfl, obj_cell h.rd.blk 2 rfl, obj_free h.rd.blk 2⟩
end
theorem below_sets {w W : World} (h : Below w.heap.size w W) {b o : Nat} (hb : w.heap.size ≤ b) (vs : List Value) : Below w.heap.size w (W.setCells b o vs) := by
  obtain ⟨q1, q2, q3, q4⟩ := setCells_same b vs o W
  exact ⟨q1.trans h.os, q2.trans h.tape, q3.trans h.output, by rw [q4]; exact h.size, fun k hk => (setCells_far vs o k (by omega)).trans (h.block k hk)⟩
theorem results_ct {P : Program} {fn : Func} {p q : Tmp} {t : TypeId} (h : fn.results = #[.cell p t, .tmp q]) (tmps : Array Value) (w : World) (ad : Addr) (v : Value) (e : tmps.getD p undef = .pointer (some ad)) (hr : (loadVar t ad).run P w = .ok v w) :
    (results fn tmps).run P w = .ok (.tuple #[v, tmps.getD q undef]) w := by
  have e' : tmps[p]?.getD undef = .pointer (some ad) := by simpa using e
  simp [results, h, e', asAddr, hr]
theorem there_of {W : World} {g : Nat} {Z : Array Value} {t : TypeId} (h : W.heap[g]? = some (.cells Z t (0, 0))) {n : Nat} (hn : n = Z.size) : W.there g 0 n := fun j hj => by
  refine ⟨?_, frozen_of_row _ _ _ _ _ h⟩
  rw [cell_of_row _ _ _ _ _ _ h]
  simp; omega
theorem infoNote : (Try.prog.info? 27).map (·.size) = some 7 := by kernel_rfl
theorem load_sets {W : World} {g : Nat} {Z : Array Value} {t : TypeId} (h : W.heap[g]? = some (.cells Z t (0, 0))) {D : List Value} (hz : D.length = Z.size) (hD : D.length = 7) : (loadVar 27 ⟨g, 0, none⟩).run Try.prog (W.setCells g 0 D) = .ok (.agg D.toArray) (W.setCells g 0 D) := by
  refine Hd.run_load_any _ ⟨g, 0, none⟩ 27 D _ (fun j v hj => ?_) Try.underlying27 rfl (by rw [hD]; exact infoNote)
  have h1 := World.rangeAt_setCells_same W g 0 D (there_of h hz) j v hj
  rw [Nat.zero_add] at h1
  by_cases hj0 : j = 0
  · subst hj0; simpa [Addr.add] using h1
  · simpa [Addr.add, hj0] using h1
end Go.Proofs.Ytbncmffifbcbjaa.WiU
