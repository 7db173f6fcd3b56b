/- wire.Take under way: the note so far, in rows of its own; its steps. -/
import Derived.Test.YtbncmffifbcbjaaWiM
namespace Go.Proofs.Ytbncmffifbcbjaa.WiW
open Go Go.RowKit Go.Proofs.YtbncmffifbcbjaaW.PrintWords Go.Proofs.Ytbncmffifbcbjaa.K Go.Proofs.Ytbncmffifbcbjaa.OctS Go.Proofs.Ytbncmffifbcbjaa.OctP Go.Proofs.Ytbncmffifbcbjaa.Oct Go.Proofs.Ytbncmffifbcbjaa.Ap Go.Proofs.Ytbncmffifbcbjaa.Hl Go.Proofs.Ytbncmffifbcbjaa.WiA Go.Proofs.Ytbncmffifbcbjaa.WiD Go.Proofs.Ytbncmffifbcbjaa.WiE Go.Proofs.Ytbncmffifbcbjaa.WiF Go.Proofs.Ytbncmffifbcbjaa.WiR Go.Proofs.Ytbncmffifbcbjaa.WiU Go.Proofs.Ytbncmffifbcbjaa.WiV Go.Proofs.Ytbncmffifbcbjaa.WiM
set_option linter.unusedVariables false
set_option linter.unusedSimpArgs false
theorem own_type {α : Type} {d : Kd α} {e : Nat} {w : World} {base : Nat} {ok : Nat → Prop} {v : Value} {xs : List α} (h : d.R e w base ok v xs) : ∀ k, v.ownBlock = some k → ∃ cells, w.heap[k]? = some (.cells cells e (0, 0)) := fun k hk => by
  obtain ⟨inner, ho⟩ := Kd.R_own h
  exact own_typed ho k hk
/-- A row is as it was where a block of another type is written. -/
theorem R_other {α : Type} {d : Kd α} (hd : Flat d) {e : Nat} {w w1 : World} {base : Nat} {v : Value} {xs : List α} (h : d.R e w base (fun _ => True) v xs) {row : Option Nat} (hr : ∀ k, row = some k → ∃ cells t, w.heap[k]? = some (.cells cells t (0, 0)) ∧ e ≠ t) (hg : w.grownBy w1 row) : d.R e w1 base (fun _ => True) v xs :=
  R_kept_row hd h (fun k hk he => by
    obtain ⟨cells, t, hc, hne⟩ := hr k hk
    exact Kd.R_ne h hc hne he.symm) hg
/-- A note whose lists lie in rows of their own. -/
structure NtR (W : World) (base : Nat) (n : Nt) (a : Ads) : Prop where
  h : Kd.R dHl 46 W base (fun _ => True) (.slice a.ah n.held.length a.ch) (n.held)
  p : Kd.R dPt 51 W base (fun _ => True) (.slice a.ap n.parts.length a.cp) (n.parts)
  bb : Kd.R (Kd.int .u8) 5 W base (fun _ => True) (.slice a.ab n.bytes.length a.cb) (n.bytes)
  nm : n.name.size ≤ 9223372036854775807
  by_ : Bytes n.bytes
theorem NtR.C {W : World} {base : Nat} {n : Nt} {a : Ads} (h : NtR W base n a) : NtC W n a :=
  ⟨h.nm, (Kd.R_reads' h.h).2.2, (Kd.R_reads' h.h).2.1, (Kd.R_reads' h.p).2.2, (Kd.R_reads' h.p).2.1, (Kd.R_reads' h.bb).2.2, (Kd.R_reads' h.bb).2.1, h.by_⟩
theorem NtR.below {W W1 : World} {base : Nat} {n : Nt} {a : Ads} (h : NtR W base n a) (hb : Below W.heap.size W W1) : NtR W1 base n a := ⟨Kd.R_below h.h hb, Kd.R_below h.p hb, Kd.R_below h.bb hb, h.nm, h.by_⟩
/-- .. where a block of another type is written. -/
theorem NtR.other {W W1 : World} {base : Nat} {n : Nt} {a : Ads} (h : NtR W base n a) {g t : Nat} {cells : Array Value} (hb : W.heap[g]? = some (.cells cells t (0, 0))) (h1 : 46 ≠ t) (h2 : 51 ≠ t) (h3 : 5 ≠ t) (hg : W.grownBy W1 (some g)) : NtR W1 base n a :=
  ⟨R_other flat_hl h.h (fun k hk => by injection hk with hk; subst hk; exact ⟨_, _, hb, h1⟩) hg, R_other flat_pt h.p (fun k hk => by injection hk with hk; subst hk; exact ⟨_, _, hb, h2⟩) hg, R_other (flat_int .u8) h.bb (fun k hk => by injection hk with hk; subst hk; exact ⟨_, _, hb, h3⟩) hg, h.nm, h.by_⟩
structure Tn (w W : World) (g an : Nat) (A : Option Addr) (c : Nat) (b : List Int) (L : List (Nat × Array Value × TypeId)) (n : Nt) (a : Ads) (s : Rs) : Prop where
  ts : Ts w W g A c b s ((an, noteV n a, 27) :: L)
  r : NtR W w.heap.size n a
  ne : ∀ x ∈ L, x.1 ≠ an
  ty : ∀ x ∈ L, x.2.2 ≠ 46 ∧ x.2.2 ≠ 51 ∧ x.2.2 ≠ 5
  i : In b s
section
variable {w W W1 : World} {g an c : Nat} {A : Option Addr} {b : List Int} {s s1 : Rs} {L : List (Nat × Array Value × TypeId)} {n : Nt} {a : Ads}
theorem Tn.below (h : Tn w W g an A c b L n a s) (hb : Below W.heap.size W W1) : Tn w W1 g an A c b L n a s := ⟨h.ts.below hb, h.r.below hb, h.ne, h.ty, h.i⟩
theorem Tn.drew (h : Tn w W g an A c b L n a s) : Tn w W.drew g an A c b L n a s := h.below (below_drew1 (Below.refl _ _))
theorem Tn.alloc (h : Tn w W g an A c b L n a s) (o : Obj) : Tn w (W.alloc o) g an A c b L n a s := h.below (below_alloc (Below.refl _ _) o)
theorem Tn.note (h : Tn w W g an A c b L n a s) : W.heap[an]? = some (.cells (noteV n a) 27 (0, 0)) := h.ts.get _ List.mem_cons_self
theorem Tn.read (h : Tn w W g an A c b L n a s) (hr : Ts w W1 g A c b s1 ((an, noteV n a, 27) :: L)) (hg : W.grownBy W1 (some g)) (hi : In b s1) : Tn w W1 g an A c b L n a s1 :=
  ⟨hr, h.r.other h.ts.rd.blk (by decide) (by decide) (by decide) hg, h.ne, h.ty, hi⟩
theorem Tn.num (h : Tn w W g an A c b L n a s) (hG : Given w A c b) : Calls Try.prog 29 #[.pointer (some ⟨g, 0, none⟩)] W fun e W1 => e = .returned (.int .i64 (numR b s).1) ∧ Tn w W1 g an A c b L n a (numR b s).2 ∧ W.grownBy W1 (some g) :=
  (h.ts.num hG).mono fun e W1 ⟨h1, h2, h3⟩ => ⟨h1, h.read h2 h3 (h.i.num hG.hb), h3⟩
theorem Tn.must (h : Tn w W g an A c b L n a s) (ok : Bool) (x : Int) : Calls Try.prog 30 #[.pointer (some ⟨g, 0, none⟩), .bool ok, .int .i64 x] W fun e W1 => e = .returned (.tuple #[]) ∧ Tn w W1 g an A c b L n a (mustR s ok x) :=
  (h.ts.must ok x).mono fun e W1 ⟨h1, h2, h3⟩ => ⟨h1, h.read h2 h3 (h.i.must _ _)⟩
theorem Tn.text (h : Tn w W g an A c b L n a s) (hG : Given w A c b) (most : Int) : Calls Try.prog 31 #[.pointer (some ⟨g, 0, none⟩), .int .i64 most] W fun e W1 => ∃ v, e = .returned v ∧ Tn w W1 g an A c b L n a (textR b s most).2 ∧ Kd.R (Kd.int .u8) 5 W1 W.heap.size (fun _ => True) (v) ((textR b s most).1) :=
  (h.ts.text hG most).mono fun e W1 ⟨v, h1, h2, h3, h4⟩ => ⟨v, h1, h.read h2 h3 (h.i.text hG.hb most), h4⟩
theorem Tn.many (h : Tn w W g an A c b L n a s) (hG : Given w A c b) (most : Int) : Calls Try.prog 32 #[.pointer (some ⟨g, 0, none⟩), .int .i64 most] W fun e W1 => e = .returned (.int .i64 (manyR b s most).1) ∧ Tn w W1 g an A c b L n a (manyR b s most).2 :=
  (many_calls h.ts.rd (Kd.C_below hG.C h.ts.b) hG.hc hG.hb (Nat.le_trans hG.hm (by decide)) most).mono fun e W1 ⟨h1, h2, h3⟩ => ⟨h1, h.read (h.ts.read h2 h3) h3 (h.i.many hG.hb most)⟩
theorem Tn.part (h : Tn w W g an A c b L n a s) (hG : Given w A c b) (he : s.e = 0) : Calls Try.prog 33 #[.pointer (some ⟨g, 0, none⟩)] W fun e W1 => e = .returned (.agg (partR b s).1.cells.toArray) ∧ Tn w W1 g an A c b L n a (partR b s).2 := by
  obtain ⟨at_, se⟩ := s
  obtain rfl : se = 0 := he
  have hi := h.i
  obtain ⟨k, rfl⟩ := Int.eq_ofNat_of_zero_le (show 0 ≤ at_ from hi.1)
  exact (part_calls h.ts.rd (Kd.C_below hG.C h.ts.b) hG.hc hG.hb (Nat.le_trans hG.hm (by decide)) (by have := hi.2; simp only at this; omega)).mono fun e W1 ⟨h1, h2, h3⟩ => ⟨h1, h.read (h.ts.read h2 h3) h3 (h.i.part hG.hb)⟩
theorem Tn.rcells (h : Tn w W g an A c b L n a s) : W.cell? ⟨g, 0, none⟩ = some (.slice A b.length c) ∧ W.cell? ⟨g, 1, none⟩ = some (.int .i64 s.at_) ∧ W.cell? ⟨g, 2, none⟩ = some (.int .i64 s.e) ∧ W.frozen? ⟨g, 2, none⟩ = false := h.ts.rcells
/-- The reading's error is written. -/
theorem Tn.setE (h : Tn w W g an A c b L n a s) (x : Int) : Tn w (W.setCell ⟨g, 2, none⟩ (.int .i64 x)) g an A c b L n a ⟨s.at_, x⟩ := h.read (h.ts.read (h.ts.rd.setE x) (grown_set W g 2 _)) (grown_set W g 2 _) h.i
theorem Tn.setName (h : Tn w W g an A c b L n a s) (x : ByteArray) (hx : x.size ≤ 9223372036854775807) : Tn w (W.setCell ⟨an, 1, none⟩ (.string x)) g an A c b L { n with name := x } a s :=
  ⟨h.ts.put h.ne 1 (.string x), ⟨(h.r.other h.note (by decide) (by decide) (by decide) (grown_set W an 1 (.string x))).h, (h.r.other h.note (by decide) (by decide) (by decide) (grown_set W an 1 (.string x))).p, (h.r.other h.note (by decide) (by decide) (by decide) (grown_set W an 1 (.string x))).bb, hx, h.r.by_⟩, h.ne, h.ty, h.i⟩
theorem Tn.setGen (h : Tn w W g an A c b L n a s) (x : Int) : Tn w (W.setCell ⟨an, 2, none⟩ (.int .i64 x)) g an A c b L { n with gen := x } a s :=
  ⟨h.ts.put h.ne 2 (.int .i64 x), ⟨(h.r.other h.note (by decide) (by decide) (by decide) (grown_set W an 2 (.int .i64 x))).h, (h.r.other h.note (by decide) (by decide) (by decide) (grown_set W an 2 (.int .i64 x))).p, (h.r.other h.note (by decide) (by decide) (by decide) (grown_set W an 2 (.int .i64 x))).bb, h.r.nm, h.r.by_⟩, h.ne, h.ty, h.i⟩
theorem Tn.setI (h : Tn w W g an A c b L n a s) (x : Int) : Tn w (W.setCell ⟨an, 3, none⟩ (.int .i64 x)) g an A c b L { n with i := x } a s :=
  ⟨h.ts.put h.ne 3 (.int .i64 x), ⟨(h.r.other h.note (by decide) (by decide) (by decide) (grown_set W an 3 (.int .i64 x))).h, (h.r.other h.note (by decide) (by decide) (by decide) (grown_set W an 3 (.int .i64 x))).p, (h.r.other h.note (by decide) (by decide) (by decide) (grown_set W an 3 (.int .i64 x))).bb, h.r.nm, h.r.by_⟩, h.ne, h.ty, h.i⟩
theorem Tn.setB (h : Tn w W g an A c b L n a s) {A1 : Option Addr} {c1 : Nat} {l : List Int} (hl : Kd.R (Kd.int .u8) 5 W w.heap.size (fun _ => True) (.slice A1 l.length c1) (l)) (hb : Bytes l) : Tn w (W.setCell ⟨an, 6, none⟩ (.slice A1 l.length c1)) g an A c b L { n with bytes := l } { a with ab := A1, cb := c1 } s :=
  ⟨h.ts.put h.ne 6 _, ⟨(h.r.other h.note (by decide) (by decide) (by decide) (grown_set W an 6 _)).h, (h.r.other h.note (by decide) (by decide) (by decide) (grown_set W an 6 _)).p, R_other (flat_int .u8) hl (fun k hk => by injection hk with hk; subst hk; exact ⟨_, _, h.note, by decide⟩) (grown_set W an 6 _), h.r.nm, hb⟩, h.ne, h.ty, h.i⟩
/-- Blocks of types that no row has stand as they are where a row is written. -/
theorem Ts.row (h : Ts w W g A c b s L) {row : Option Nat} {e : Nat} (he : ∀ k, row = some k → ∃ cells, W.heap[k]? = some (.cells cells e (0, 0))) (hb : ∀ k, row = some k → w.heap.size ≤ k) (h1 : 60 ≠ e) (h2 : ∀ x ∈ L, x.2.2 ≠ e) (hg : W.grownBy W1 row) : Ts w W1 g A c b s L := by
  have hne : ∀ {k t cells}, W.heap[k]? = some (.cells cells t (0, 0)) → t ≠ e → some k ≠ row := fun {k t cells} hk ht hr => by
    obtain ⟨cells2, hc⟩ := he k hr.symm
    rw [hk] at hc
    injection hc with hc
    injection hc with _ hc
    exact ht hc
  exact ⟨h.rd.kept hg (hne h.rd.blk h1), h.b.grown hg h.b.size hb, h.lt, fun x hx => ⟨(h.keep x hx).1, (h.keep x hx).2.1, (hg.block _ (Array.getElem?_eq_some_iff.1 (h.keep x hx).2.2).1 (hne (h.keep x hx).2.2 (h2 x hx))).trans (h.keep x hx).2.2⟩⟩
theorem Tn.pushH (h : Tn w W g an A c b L n a s) {A1 : Option Addr} {c1 : Nat} {xs : List Hl} (ho : Kd.R dHl 46 W1 w.heap.size (fun _ => True) (.slice A1 xs.length c1) (xs)) (hg : W.grownBy W1 (Value.slice a.ah n.held.length a.ch).ownBlock) : Tn w (W1.setCell ⟨an, 4, none⟩ (.slice A1 xs.length c1)) g an A c b L { n with held := xs } { a with ah := A1, ch := c1 } s := by
  have ht := own_type h.r.h
  have hb : ∀ k, (Value.slice a.ah n.held.length a.ch).ownBlock = some k → w.heap.size ≤ k := fun k hk => ((Kd.R_bound h.r.h).1 k hk).2.1
  have hts := Ts.row h.ts ht hb (by decide) (fun x hx => by
    rcases List.mem_cons.1 hx with rfl | hx
    · simp only; decide
    · exact (h.ty x hx).1) hg
  have hn : W1.heap[an]? = some (.cells (noteV n a) 27 (0, 0)) := hts.get _ List.mem_cons_self
  have hp := R_other flat_pt h.r.p (fun k hk => by obtain ⟨cells, hc⟩ := ht k hk; exact ⟨cells, _, hc, by decide⟩) hg
  have hbb := R_other (flat_int .u8) h.r.bb (fun k hk => by obtain ⟨cells, hc⟩ := ht k hk; exact ⟨cells, _, hc, by decide⟩) hg
  have hg2 := grown_set W1 an 4 (.slice A1 xs.length c1)
  exact ⟨hts.put h.ne 4 _, ⟨R_other flat_hl ho (fun k hk => by injection hk with hk; subst hk; exact ⟨_, _, hn, by decide⟩) hg2, R_other flat_pt hp (fun k hk => by injection hk with hk; subst hk; exact ⟨_, _, hn, by decide⟩) hg2, R_other (flat_int .u8) hbb (fun k hk => by injection hk with hk; subst hk; exact ⟨_, _, hn, by decide⟩) hg2, h.r.nm, h.r.by_⟩, h.ne, h.ty, h.i⟩
theorem Tn.pushP (h : Tn w W g an A c b L n a s) {A1 : Option Addr} {c1 : Nat} {xs : List Pt} (ho : Kd.R dPt 51 W1 w.heap.size (fun _ => True) (.slice A1 xs.length c1) (xs)) (hg : W.grownBy W1 (Value.slice a.ap n.parts.length a.cp).ownBlock) : Tn w (W1.setCell ⟨an, 5, none⟩ (.slice A1 xs.length c1)) g an A c b L { n with parts := xs } { a with ap := A1, cp := c1 } s := by
  have ht := own_type h.r.p
  have hb : ∀ k, (Value.slice a.ap n.parts.length a.cp).ownBlock = some k → w.heap.size ≤ k := fun k hk => ((Kd.R_bound h.r.p).1 k hk).2.1
  have hts := Ts.row h.ts ht hb (by decide) (fun x hx => by
    rcases List.mem_cons.1 hx with rfl | hx
    · simp only; decide
    · exact (h.ty x hx).2.1) hg
  have hn : W1.heap[an]? = some (.cells (noteV n a) 27 (0, 0)) := hts.get _ List.mem_cons_self
  have hp := R_other flat_hl h.r.h (fun k hk => by obtain ⟨cells, hc⟩ := ht k hk; exact ⟨cells, _, hc, by decide⟩) hg
  have hbb := R_other (flat_int .u8) h.r.bb (fun k hk => by obtain ⟨cells, hc⟩ := ht k hk; exact ⟨cells, _, hc, by decide⟩) hg
  have hg2 := grown_set W1 an 5 (.slice A1 xs.length c1)
  exact ⟨hts.put h.ne 5 _, ⟨R_other flat_hl hp (fun k hk => by injection hk with hk; subst hk; exact ⟨_, _, hn, by decide⟩) hg2, R_other flat_pt ho (fun k hk => by injection hk with hk; subst hk; exact ⟨_, _, hn, by decide⟩) hg2, R_other (flat_int .u8) hbb (fun k hk => by injection hk with hk; subst hk; exact ⟨_, _, hn, by decide⟩) hg2, h.r.nm, h.r.by_⟩, h.ne, h.ty, h.i⟩
theorem Tn.lit (h : Tn w W g an A c b L n a s) (cs : Array Value) {t : TypeId} (h1 : t ≠ 46) (h2 : t ≠ 51) (h3 : t ≠ 5) : Tn w (W.alloc (.cells cs t)) g an A c b ((W.heap.size, cs, t) :: L) n a s := by
  have hl := (Array.getElem?_eq_some_iff.1 h.note).1
  refine ⟨(h.ts.lit cs t).less (fun x hx => ?_), (h.alloc _).r, fun x hx => ?_, fun x hx => ?_, h.i⟩
  · rcases List.mem_cons.1 hx with rfl | hx
    · exact List.mem_cons_of_mem _ List.mem_cons_self
    · rcases List.mem_cons.1 hx with rfl | hx
      · exact List.mem_cons_self
      · exact List.mem_cons_of_mem _ (List.mem_cons_of_mem _ hx)
  · rcases List.mem_cons.1 hx with rfl | hx
    · simp only; omega
    · exact h.ne x hx
  · rcases List.mem_cons.1 hx with rfl | hx
    · exact ⟨h1, h2, h3⟩
    · exact h.ty x hx
/-- What lies by: what the note names, and the result's place. -/
abbrev Lx (gx g0 : Nat) (say : Int) : List (Nat × Array Value × TypeId) := [(gx, #[.bool (hasF say), .bool (hasI say), .bool (hasH say), .bool (hasP say), .bool (hasB say)], 40), (g0, #[.int .i64 0, .string ⟨#[]⟩, .int .i64 0, .int .i64 0, .slice none 0 0, .slice none 0 0, .slice none 0 0], 27)]
theorem Tn.x {gx g0 : Nat} {say : Int} (h : Tn w W g an A c b (Lx gx g0 say) n a s) : W.cell? ⟨gx, 0, none⟩ = some (.bool (hasF say)) ∧ W.cell? ⟨gx, 1, none⟩ = some (.bool (hasI say)) ∧ W.cell? ⟨gx, 2, none⟩ = some (.bool (hasH say)) ∧ W.cell? ⟨gx, 3, none⟩ = some (.bool (hasP say)) ∧ W.cell? ⟨gx, 4, none⟩ = some (.bool (hasB say)) := by
  have h2 := h.ts.get (gx, #[.bool (hasF say), .bool (hasI say), .bool (hasH say), .bool (hasP say), .bool (hasB say)], 40) (by simp)
  exact ⟨obj_cell h2 0 rfl, obj_cell h2 1 rfl, obj_cell h2 2 rfl, obj_cell h2 3 rfl, obj_cell h2 4 rfl⟩
theorem Tn.ret {gx g0 : Nat} {say : Int} (h : Tn w W g an A c b (Lx gx g0 say) n a s) : W.heap[g0]? = some (.cells #[.int .i64 0, .string ⟨#[]⟩, .int .i64 0, .int .i64 0, .slice none 0 0, .slice none 0 0, .slice none 0 0] 27 (0, 0)) := h.ts.get (g0, _, 27) (by simp)
theorem Tn.noteH (h : Tn w W g an A c b L n a s) (hg : W.grownBy W1 (Value.slice a.ah n.held.length a.ch).ownBlock) : W1.heap[an]? = some (.cells (noteV n a) 27 (0, 0)) := (hg.block _ (Array.getElem?_eq_some_iff.1 h.note).1 (Kd.R_ne h.r.h h.note (by decide))).trans h.note
theorem Tn.noteP (h : Tn w W g an A c b L n a s) (hg : W.grownBy W1 (Value.slice a.ap n.parts.length a.cp).ownBlock) : W1.heap[an]? = some (.cells (noteV n a) 27 (0, 0)) := (hg.block _ (Array.getElem?_eq_some_iff.1 h.note).1 (Kd.R_ne h.r.p h.note (by decide))).trans h.note
end
end Go.Proofs.Ytbncmffifbcbjaa.WiW
