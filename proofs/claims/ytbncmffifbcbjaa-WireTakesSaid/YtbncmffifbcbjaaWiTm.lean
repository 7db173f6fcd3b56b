/- The reference's Take of wire under way: the note so far, in rows of its own; its steps. -/
import Derived.Test.YtbncmffifbcbjaaWiW
namespace Go.Proofs.Ytbncmffifbcbjaa.WiTm
open Go Go.RowKit Go.Proofs.YtbncmffifbcbjaaW.PrintWords Go.Proofs.Ytbncmffifbcbjaa.K Go.Proofs.Ytbncmffifbcbjaa.OctS Go.Proofs.Ytbncmffifbcbjaa.OctP Go.Proofs.Ytbncmffifbcbjaa.Oct Go.Proofs.Ytbncmffifbcbjaa.Ap Go.Proofs.Ytbncmffifbcbjaa.Hl Go.Proofs.Ytbncmffifbcbjaa.WiA Go.Proofs.Ytbncmffifbcbjaa.WiD Go.Proofs.Ytbncmffifbcbjaa.WiE Go.Proofs.Ytbncmffifbcbjaa.WiF Go.Proofs.Ytbncmffifbcbjaa.WiR Go.Proofs.Ytbncmffifbcbjaa.WiU Go.Proofs.Ytbncmffifbcbjaa.WiV Go.Proofs.Ytbncmffifbcbjaa.WiM Go.Proofs.Ytbncmffifbcbjaa.WiW
set_option linter.unusedVariables false
set_option linter.unusedSimpArgs false
structure Tm0 (w W : World) (an : Nat) (L : List (Nat × Array Value × TypeId)) (n : Nt) (a : Ads) : Prop where
  b : Below w.heap.size w W
  keep : ∀ x ∈ (an, noteV n a, 27) :: L, w.heap.size ≤ x.1 ∧ W.heap[x.1]? = some (.cells x.2.1 x.2.2 (0, 0))
structure Tm (w W : World) (an : Nat) (L : List (Nat × Array Value × TypeId)) (n : Nt) (a : Ads) : Prop extends Tm0 w W an L n a where
  r : NtR W w.heap.size n a
  ne : ∀ x ∈ L, x.1 ≠ an
  ty : ∀ x ∈ L, x.2.2 ≠ 46 ∧ x.2.2 ≠ 51 ∧ x.2.2 ≠ 5
section
variable {w W W1 : World} {an : Nat} {L : List (Nat × Array Value × TypeId)} {n : Nt} {a : Ads}
theorem Tm0.put (h : Tm0 w W an L n a) (hne : ∀ x ∈ L, x.1 ≠ an) (k : Nat) (v : Value) : Below w.heap.size w (W.setCell ⟨an, k, none⟩ v) ∧ ∀ x ∈ (an, (noteV n a).setIfInBounds k v, 27) :: L, w.heap.size ≤ x.1 ∧ (W.setCell ⟨an, k, none⟩ v).heap[x.1]? = some (.cells x.2.1 x.2.2 (0, 0)) := by
  have ha := h.keep _ List.mem_cons_self
  have hg := obj_grown W an k v
  refine ⟨h.b.grown hg h.b.size (fun j e => by injection e with e; have := ha.1; simp only at this; omega), fun x hx => ?_⟩
  rcases List.mem_cons.1 hx with rfl | hx
  · exact ⟨ha.1, obj_set ha.2 k v⟩
  · have hx' := h.keep x (List.mem_cons_of_mem _ hx)
    exact ⟨hx'.1, (hg.block _ (Array.getElem?_eq_some_iff.1 hx'.2).1 (fun e => by injection e with e; exact hne x hx e)).trans hx'.2⟩
theorem Tm.put (h : Tm w W an L n a) (k : Nat) (v : Value) : Below w.heap.size w (W.setCell ⟨an, k, none⟩ v) ∧ ∀ x ∈ (an, (noteV n a).setIfInBounds k v, 27) :: L, w.heap.size ≤ x.1 ∧ (W.setCell ⟨an, k, none⟩ v).heap[x.1]? = some (.cells x.2.1 x.2.2 (0, 0)) := h.toTm0.put h.ne k v
theorem Tm.note (h : Tm w W an L n a) : W.heap[an]? = some (.cells (noteV n a) 27 (0, 0)) := (h.keep _ List.mem_cons_self).2
theorem Tm.below (h : Tm w W an L n a) (hb : Below W.heap.size W W1) : Tm w W1 an L n a := ⟨⟨below_then h.b h.b.size hb, fun x hx => ⟨(h.keep x hx).1, (hb.block _ (Array.getElem?_eq_some_iff.1 (h.keep x hx).2).1).trans (h.keep x hx).2⟩⟩, h.r.below hb, h.ne, h.ty⟩
theorem Tm.alloc (h : Tm w W an L n a) (o : Obj) : Tm w (W.alloc o) an L n a := h.below (below_alloc (Below.refl _ _) o)
/-- A block that was made besides is written. -/
theorem Tm.side (h : Tm w W an L n a) {g t : Nat} {cells : Array Value} (hb : W.heap[g]? = some (.cells cells t (0, 0))) (h0 : w.heap.size ≤ g) (h1 : 46 ≠ t) (h2 : 51 ≠ t) (h3 : 5 ≠ t) (hne : ∀ x ∈ (an, noteV n a, 27) :: L, x.1 ≠ g) (hg : W.grownBy W1 (some g)) : Tm w W1 an L n a :=
  ⟨⟨h.b.grown hg h.b.size (fun k e => by injection e with e; omega), fun x hx => ⟨(h.keep x hx).1, (hg.block _ (Array.getElem?_eq_some_iff.1 (h.keep x hx).2).1 (fun e => by injection e with e; exact hne x hx e)).trans (h.keep x hx).2⟩⟩, h.r.other hb h1 h2 h3 hg, h.ne, h.ty⟩
theorem Tm.setName (h : Tm w W an L n a) (x : ByteArray) (hx : x.size ≤ 9223372036854775807) : Tm w (W.setCell ⟨an, 1, none⟩ (.string x)) an L { n with name := x } a :=
  ⟨⟨(h.put 1 (.string x)).1, (h.put 1 (.string x)).2⟩, ⟨(h.r.other h.note (by decide) (by decide) (by decide) (grown_set W an 1 (.string x))).h, (h.r.other h.note (by decide) (by decide) (by decide) (grown_set W an 1 (.string x))).p, (h.r.other h.note (by decide) (by decide) (by decide) (grown_set W an 1 (.string x))).bb, hx, h.r.by_⟩, h.ne, h.ty⟩
theorem Tm.setGen (h : Tm w W an L n a) (x : Int) : Tm w (W.setCell ⟨an, 2, none⟩ (.int .i64 x)) an L { n with gen := x } a :=
  ⟨⟨(h.put 2 (.int .i64 x)).1, (h.put 2 (.int .i64 x)).2⟩, ⟨(h.r.other h.note (by decide) (by decide) (by decide) (grown_set W an 2 (.int .i64 x))).h, (h.r.other h.note (by decide) (by decide) (by decide) (grown_set W an 2 (.int .i64 x))).p, (h.r.other h.note (by decide) (by decide) (by decide) (grown_set W an 2 (.int .i64 x))).bb, h.r.nm, h.r.by_⟩, h.ne, h.ty⟩
theorem Tm.setI (h : Tm w W an L n a) (x : Int) : Tm w (W.setCell ⟨an, 3, none⟩ (.int .i64 x)) an L { n with i := x } a :=
  ⟨⟨(h.put 3 (.int .i64 x)).1, (h.put 3 (.int .i64 x)).2⟩, ⟨(h.r.other h.note (by decide) (by decide) (by decide) (grown_set W an 3 (.int .i64 x))).h, (h.r.other h.note (by decide) (by decide) (by decide) (grown_set W an 3 (.int .i64 x))).p, (h.r.other h.note (by decide) (by decide) (by decide) (grown_set W an 3 (.int .i64 x))).bb, h.r.nm, h.r.by_⟩, h.ne, h.ty⟩
theorem Tm.setB (h : Tm w W an L n a) {A1 : Option Addr} {c1 : Nat} {l : List Int} (hl : Kd.R (Kd.int .u8) 5 W w.heap.size (fun _ => True) (.slice A1 l.length c1) (l)) (hb : Bytes l) : Tm w (W.setCell ⟨an, 6, none⟩ (.slice A1 l.length c1)) an L { n with bytes := l } { a with ab := A1, cb := c1 } :=
  ⟨⟨(h.put 6 (.slice A1 l.length c1)).1, (h.put 6 (.slice A1 l.length c1)).2⟩, ⟨(h.r.other h.note (by decide) (by decide) (by decide) (grown_set W an 6 _)).h, (h.r.other h.note (by decide) (by decide) (by decide) (grown_set W an 6 _)).p, R_other (flat_int .u8) hl (fun k hk => by injection hk with hk; subst hk; exact ⟨_, _, h.note, by decide⟩) (grown_set W an 6 _), h.r.nm, hb⟩, h.ne, h.ty⟩
theorem Tm.pushH (h : Tm w W an L n a) {A1 : Option Addr} {c1 : Nat} {xs : List Hl} (ho : Kd.R dHl 46 W1 w.heap.size (fun _ => True) (.slice A1 xs.length c1) (xs)) (hg : W.grownBy W1 (Value.slice a.ah n.held.length a.ch).ownBlock) : Tm w (W1.setCell ⟨an, 4, none⟩ (.slice A1 xs.length c1)) an L { n with held := xs } { a with ah := A1, ch := c1 } := by
  have ht := own_type h.r.h
  have hb : ∀ k, (Value.slice a.ah n.held.length a.ch).ownBlock = some k → w.heap.size ≤ k := fun k hk => ((Kd.R_bound h.r.h).1 k hk).2.1
  have hne : ∀ x ∈ (an, noteV n a, 27) :: L, some x.1 ≠ (Value.slice a.ah n.held.length a.ch).ownBlock := fun x hx => Kd.R_ne h.r.h (h.keep x hx).2 (by
    rcases List.mem_cons.1 hx with rfl | hx
    · simp only; decide
    · exact fun e => (h.ty x hx).1 e.symm)
  have hts : Tm0 w W1 an L n a := ⟨h.b.grown hg h.b.size hb, fun x hx => ⟨(h.keep x hx).1, (hg.block _ (Array.getElem?_eq_some_iff.1 (h.keep x hx).2).1 (hne x hx)).trans (h.keep x hx).2⟩⟩
  have hn : W1.heap[an]? = some (.cells (noteV n a) 27 (0, 0)) := (hts.keep _ List.mem_cons_self).2
  have h0 := R_other flat_pt h.r.p (fun k hk => by obtain ⟨cells, hc⟩ := ht k hk; exact ⟨cells, _, hc, by decide⟩) hg
  have h1 := R_other (flat_int .u8) h.r.bb (fun k hk => by obtain ⟨cells, hc⟩ := ht k hk; exact ⟨cells, _, hc, by decide⟩) hg
  have hg2 := grown_set W1 an 4 (.slice A1 xs.length c1)
  obtain ⟨p1, p2⟩ := hts.put h.ne 4 (.slice A1 xs.length c1)
  exact ⟨⟨p1, p2⟩, ⟨R_other flat_hl ho (fun k hk => by injection hk with hk; subst hk; exact ⟨_, _, hn, by decide⟩) hg2, R_other flat_pt h0 (fun k hk => by injection hk with hk; subst hk; exact ⟨_, _, hn, by decide⟩) hg2, R_other (flat_int .u8) h1 (fun k hk => by injection hk with hk; subst hk; exact ⟨_, _, hn, by decide⟩) hg2, h.r.nm, h.r.by_⟩, h.ne, h.ty⟩
theorem Tm.pushP (h : Tm w W an L n a) {A1 : Option Addr} {c1 : Nat} {xs : List Pt} (ho : Kd.R dPt 51 W1 w.heap.size (fun _ => True) (.slice A1 xs.length c1) (xs)) (hg : W.grownBy W1 (Value.slice a.ap n.parts.length a.cp).ownBlock) : Tm w (W1.setCell ⟨an, 5, none⟩ (.slice A1 xs.length c1)) an L { n with parts := xs } { a with ap := A1, cp := c1 } := by
  have ht := own_type h.r.p
  have hb : ∀ k, (Value.slice a.ap n.parts.length a.cp).ownBlock = some k → w.heap.size ≤ k := fun k hk => ((Kd.R_bound h.r.p).1 k hk).2.1
  have hne : ∀ x ∈ (an, noteV n a, 27) :: L, some x.1 ≠ (Value.slice a.ap n.parts.length a.cp).ownBlock := fun x hx => Kd.R_ne h.r.p (h.keep x hx).2 (by
    rcases List.mem_cons.1 hx with rfl | hx
    · simp only; decide
    · exact fun e => (h.ty x hx).2.1 e.symm)
  have hts : Tm0 w W1 an L n a := ⟨h.b.grown hg h.b.size hb, fun x hx => ⟨(h.keep x hx).1, (hg.block _ (Array.getElem?_eq_some_iff.1 (h.keep x hx).2).1 (hne x hx)).trans (h.keep x hx).2⟩⟩
  have hn : W1.heap[an]? = some (.cells (noteV n a) 27 (0, 0)) := (hts.keep _ List.mem_cons_self).2
  have h0 := R_other flat_hl h.r.h (fun k hk => by obtain ⟨cells, hc⟩ := ht k hk; exact ⟨cells, _, hc, by decide⟩) hg
  have h1 := R_other (flat_int .u8) h.r.bb (fun k hk => by obtain ⟨cells, hc⟩ := ht k hk; exact ⟨cells, _, hc, by decide⟩) hg
  have hg2 := grown_set W1 an 5 (.slice A1 xs.length c1)
  obtain ⟨p1, p2⟩ := hts.put h.ne 5 (.slice A1 xs.length c1)
  exact ⟨⟨p1, p2⟩, ⟨R_other flat_hl h0 (fun k hk => by injection hk with hk; subst hk; exact ⟨_, _, hn, by decide⟩) hg2, R_other flat_pt ho (fun k hk => by injection hk with hk; subst hk; exact ⟨_, _, hn, by decide⟩) hg2, R_other (flat_int .u8) h1 (fun k hk => by injection hk with hk; subst hk; exact ⟨_, _, hn, by decide⟩) hg2, h.r.nm, h.r.by_⟩, h.ne, h.ty⟩
/-- A block that was made behind W0 is written. -/
theorem Tm.fresh {W0 : World} (h : Tm w W an L n a) (h0 : Tm w W0 an L n a) {g : Nat} (hg : W0.heap.size ≤ g) (hgr : W.grownBy W1 (some g)) : Tm w W1 an L n a := by
  have ho : ∀ {α : Type} {d : Kd α} {e : Nat} {v : Value} {xs : List α}, d.R e W0 w.heap.size (fun _ => True) v xs → ∀ k, some g = some k → v.ownBlock ≠ some k := fun hr k hk he => by
    injection hk with hk
    have := R_lt_size hr k he
    omega
  exact ⟨⟨h.b.grown hgr h.b.size (fun k e => by injection e with e; have := h0.b.size; omega), fun x hx => ⟨(h.keep x hx).1, (hgr.block _ (Array.getElem?_eq_some_iff.1 (h.keep x hx).2).1 (fun e => by injection e with e; have := (Array.getElem?_eq_some_iff.1 (h0.keep x hx).2).1; omega)).trans (h.keep x hx).2⟩⟩,
    ⟨R_kept_row flat_hl h.r.h (ho h0.r.h) hgr, R_kept_row flat_pt h.r.p (ho h0.r.p) hgr, R_kept_row (flat_int .u8) h.r.bb (ho h0.r.bb) hgr, h.r.nm, h.r.by_⟩, h.ne, h.ty⟩
theorem Tm.noteH (h : Tm w W an L n a) (hg : W.grownBy W1 (Value.slice a.ah n.held.length a.ch).ownBlock) : W1.heap[an]? = some (.cells (noteV n a) 27 (0, 0)) := (hg.block _ (Array.getElem?_eq_some_iff.1 h.note).1 (Kd.R_ne h.r.h h.note (by decide))).trans h.note
theorem Tm.noteP (h : Tm w W an L n a) (hg : W.grownBy W1 (Value.slice a.ap n.parts.length a.cp).ownBlock) : W1.heap[an]? = some (.cells (noteV n a) 27 (0, 0)) := (hg.block _ (Array.getElem?_eq_some_iff.1 h.note).1 (Kd.R_ne h.r.p h.note (by decide))).trans h.note
end
abbrev zN : Array Value := #[.int .i64 0, .string ⟨#[]⟩, .int .i64 0, .int .i64 0, .slice none 0 0, .slice none 0 0, .slice none 0 0]
/-- What lies by: the result's place. -/
abbrev Lz (g0 : Nat) : List (Nat × Array Value × TypeId) := [(g0, zN, 27)]
theorem Tm.ret {w W : World} {an g0 : Nat} {n : Nt} {a : Ads} (h : Tm w W an (Lz g0) n a) : W.heap[g0]? = some (.cells zN 27 (0, 0)) := (h.keep (g0, zN, 27) (by simp)).2
/-- The cells of the result's place. -/
theorem zs {W : World} {g0 : Nat} (h : W.heap[g0]? = some (.cells zN 27 (0, 0))) : (W.cell? ⟨g0, 0, none⟩ = some (.int .i64 0) ∧ W.cell? ⟨g0, 1, none⟩ = some (.string ⟨#[]⟩) ∧ W.cell? ⟨g0, 2, none⟩ = some (.int .i64 0) ∧ W.cell? ⟨g0, 3, none⟩ = some (.int .i64 0) ∧ W.cell? ⟨g0, 4, none⟩ = some (.slice none 0 0) ∧ W.cell? ⟨g0, 5, none⟩ = some (.slice none 0 0) ∧ W.cell? ⟨g0, 6, none⟩ = some (.slice none 0 0)) ∧
    W.frozen? ⟨g0, 0, none⟩ = false ∧ W.frozen? ⟨g0, 1, none⟩ = false ∧ W.frozen? ⟨g0, 2, none⟩ = false ∧ W.frozen? ⟨g0, 3, none⟩ = false ∧ W.frozen? ⟨g0, 4, none⟩ = false ∧ W.frozen? ⟨g0, 5, none⟩ = false ∧ W.frozen? ⟨g0, 6, none⟩ = false :=
  ⟨⟨obj_cell h 0 rfl, obj_cell h 1 rfl, obj_cell h 2 rfl, obj_cell h 3 rfl, obj_cell h 4 rfl, obj_cell h 5 rfl, obj_cell h 6 rfl⟩, obj_free h 0, obj_free h 1, obj_free h 2, obj_free h 3, obj_free h 4, obj_free h 5, obj_free h 6⟩
/-- A note is written there. -/
theorem zend {w W : World} {g0 : Nat} (h : W.heap[g0]? = some (.cells zN 27 (0, 0))) (hb : Below w.heap.size w W) (hg : w.heap.size ≤ g0) (n : Nt) (a : Ads) (hr : NtR W w.heap.size n a) : ∃ WZ, (((((((W.setCell ⟨g0, 0, none⟩ (.int .i64 n.say)).setCell ⟨g0, 1, none⟩ (.string n.name)).setCell ⟨g0, 2, none⟩ (.int .i64 n.gen)).setCell ⟨g0, 3, none⟩ (.int .i64 n.i)).setCell ⟨g0, 4, none⟩ (.slice a.ah n.held.length a.ch)).setCell ⟨g0, 5, none⟩ (.slice a.ap n.parts.length a.cp)).setCell ⟨g0, 6, none⟩ (.slice a.ab n.bytes.length a.cb)) = WZ ∧
    (loadVar 27 ⟨g0, 0, none⟩).run Try.prog WZ = .ok (.agg (noteV n a)) WZ ∧ Below w.heap.size w WZ ∧ NtR WZ w.heap.size n a := by
  refine ⟨W.setCells g0 0 [.int .i64 n.say, .string n.name, .int .i64 n.gen, .int .i64 n.i, .slice a.ah n.held.length a.ch, .slice a.ap n.parts.length a.cp, .slice a.ab n.bytes.length a.cb], by simp only [World.setCells, Nat.zero_add, Nat.reduceAdd], load_sets h rfl rfl, below_sets hb hg _, hr.other h (by decide) (by decide) (by decide) (grown_sets _ _ _ _)⟩
theorem slice_nil (W : World) (base : Nat) : NtR W base ⟨0, ⟨#[]⟩, 0, 0, [], [], []⟩ ⟨none, 0, none, 0, none, 0⟩ := ⟨Kd.R_nil _ _ _ _ _, Kd.R_nil _ _ _ _ _, Kd.R_nil _ _ _ _ _, by decide, fun c hc => by cases hc⟩
/-- .. the note that is no note. -/
theorem zexit {w W : World} {g0 : Nat} (h : W.heap[g0]? = some (.cells zN 27 (0, 0))) (hb : Below w.heap.size w W) (hg : w.heap.size ≤ g0) : ∃ WZ, (((((((W.setCell ⟨g0, 0, none⟩ (.int .i64 0)).setCell ⟨g0, 1, none⟩ (.string ⟨#[]⟩)).setCell ⟨g0, 2, none⟩ (.int .i64 0)).setCell ⟨g0, 3, none⟩ (.int .i64 0)).setCell ⟨g0, 4, none⟩ (.slice none 0 0)).setCell ⟨g0, 5, none⟩ (.slice none 0 0)).setCell ⟨g0, 6, none⟩ (.slice none 0 0)) = WZ ∧
    (loadVar 27 ⟨g0, 0, none⟩).run Try.prog WZ = .ok (.agg zN) WZ ∧ Below w.heap.size w WZ ∧ NtR WZ w.heap.size nZ ⟨none, 0, none, 0, none, 0⟩ := zend h hb hg nZ ⟨none, 0, none, 0, none, 0⟩ (slice_nil _ _)
end Go.Proofs.Ytbncmffifbcbjaa.WiTm
