/- A row of bytes under way: the row, what else lies by, and bytes that are read beside it. -/
import Derived.Test.YtbncmffifbcbjaaWiT
namespace Go.Proofs.Ytbncmffifbcbjaa.Pw
open Go Go.RowKit Go.Proofs.YtbncmffifbcbjaaW.PrintWords Go.Proofs.Ytbncmffifbcbjaa.K Go.Proofs.Ytbncmffifbcbjaa.OctS Go.Proofs.Ytbncmffifbcbjaa.OctP Go.Proofs.Ytbncmffifbcbjaa.Oct Go.Proofs.Ytbncmffifbcbjaa.WiN Go.Proofs.Ytbncmffifbcbjaa.Ap Go.Proofs.Ytbncmffifbcbjaa.WiT
set_option linter.unusedVariables false
set_option linter.unusedSimpArgs false
/-- The row v of the bytes xs, made since w; the blocks of L lie as they do. -/
structure Pw (w W : World) (L : List (Nat × Array Value × TypeId)) (v : Value) (xs : List Int) : Prop where
  own : Kd.R (Kd.int .u8) 5 W w.heap.size (fun _ => True) (v) (xs)
  b : Below w.heap.size w W
  keep : ∀ x ∈ L, 5 ≠ x.2.2 ∧ W.heap[x.1]? = some (.cells x.2.1 x.2.2 (0, 0))
section
variable {w W W1 : World} {L : List (Nat × Array Value × TypeId)} {v v1 : Value} {xs xs1 : List Int}
theorem Pw.get (h : Pw w W L v xs) (x : Nat × Array Value × TypeId) (hx : x ∈ L) : W.heap[x.1]? = some (.cells x.2.1 x.2.2 (0, 0)) := (h.keep x hx).2
theorem Pw.below (h : Pw w W L v xs) (hb : Below W.heap.size W W1) : Pw w W1 L v xs :=
  ⟨Kd.R_below h.own hb, below_then h.b h.b.size hb, fun x hx => ⟨(h.keep x hx).1, (hb.block _ (Array.getElem?_eq_some_iff.1 (h.keep x hx).2).1).trans (h.keep x hx).2⟩⟩
theorem Pw.drew (h : Pw w W L v xs) : Pw w W.drew L v xs := h.below (below_drew1 (Below.refl _ _))
theorem Pw.alloc (h : Pw w W L v xs) (o : Obj) : Pw w (W.alloc o) L v xs := h.below (below_alloc (Below.refl _ _) o)
theorem Pw.conv (h : Pw w W L v xs) (s : ByteArray) : Pw w (Lib.bytesWorld W 5 s) L v xs := h.below (conv_below W _ s)
theorem Pw.more (h : Pw w W L v xs) {g : Nat} {cs : Array Value} {t : TypeId} (ht : 5 ≠ t) (hg : W.heap[g]? = some (.cells cs t (0, 0))) : Pw w W ((g, cs, t) :: L) v xs :=
  ⟨h.own, h.b, fun x hx => by
    rcases List.mem_cons.1 hx with rfl | hx
    · exact ⟨ht, hg⟩
    · exact h.keep x hx⟩
theorem Pw.less (h : Pw w W L v xs) {L1 : List (Nat × Array Value × TypeId)} (hl : ∀ x ∈ L1, x ∈ L) : Pw w W L1 v xs := ⟨h.own, h.b, fun x hx => h.keep x (hl x hx)⟩
theorem Pw.lit (h : Pw w W L v xs) (cs : Array Value) {t : TypeId} (ht : 5 ≠ t) : Pw w (W.alloc (.cells cs t)) ((W.heap.size, cs, t) :: L) v xs := (h.alloc _).more ht (heap_alloc_new W _)
theorem Pw.grew (h : Pw w W L v xs) (ho : Kd.R (Kd.int .u8) 5 W1 w.heap.size (fun _ => True) (v1) (xs1)) (hb : Below w.heap.size W W1) (hg : Grew W W1 v v1) : Pw w W1 L v1 xs1 :=
  ⟨ho, h.b.trans hb, fun x hx => ⟨(h.keep x hx).1, hg.block (h.keep x hx).2 (Kd.R_ne h.own (h.keep x hx).2 (h.keep x hx).1)⟩⟩
/-- Bytes that are read as ever, whatever is written into v's block. -/
def Src (W : World) (v : Value) (A : Option Addr) (n : Nat) (ps : List Int) : Prop := ∀ W', W.grownBy W' v.ownBlock → (Kd.int .u8).C W' A n ps
theorem Src.below {A : Option Addr} {n : Nat} {ps : List Int} (h : Src W v A n ps) (hb : Below W.heap.size W W1) : Src W1 v A n ps := fun W' hg =>
  h W' ⟨hg.os.trans hb.os, hg.tape.trans hb.tape, hg.output.trans hb.output, Nat.le_trans hb.size hg.size, fun k hk hne => (hg.block k (Nat.lt_of_lt_of_le hk hb.size) hne).trans (hb.block k hk)⟩
theorem Src.conv (h : Pw w W L v xs) (s : ByteArray) (hm : s.size ≤ maxLen) : Src (Lib.bytesWorld W 5 s) v (some ⟨W.heap.size, 0, none⟩) s.size (strB s) := fun W' hg =>
  conv_C W s hm (hg.block _ (by rw [Lib.bytesWorld_size]; omega) (fun e => by have := R_lt_size h.own _ e.symm; omega))
/-- Bytes that lay there ahead of w. -/
theorem Src.came (h : Pw w W L v xs) {A : Option Addr} {n : Nat} {ps : List Int} (hC : (Kd.int .u8).C w A n ps) : Src W v A n ps := fun W' hg =>
  Kd.C_below hC ⟨hg.os.trans h.b.os, hg.tape.trans h.b.tape, hg.output.trans h.b.output, Nat.le_trans h.b.size hg.size, fun k hk => (hg.block k (Nat.lt_of_lt_of_le hk h.b.size) (fun e => by have := ((Kd.R_bound h.own).1 k e.symm).2.1; omega)).trans (h.b.block k hk)⟩
/-- One number behind the row. -/
theorem Pw.num (h : Pw w W L v xs) {g q : Nat} (hg : (g, #[.int .i64 (q : Int)], 3) ∈ L) (hq : q ≤ 9007199254740991) (hl : xs.length ≤ 900000) :
    Calls Try.prog 25 #[v, .slice (some ⟨g, 0, none⟩) 1 1] W fun e W1 => ∃ v1, e = .returned v1 ∧ Pw w W1 L v1 (xs ++ numB q) :=
  (nums_calls w.heap.size g v xs [q] 1 rfl W h.own (h.get _ hg) h.b.size (by simpa using hq) (by simp; omega)).mono fun e W1 ⟨v1, e1, ho, hb, hg⟩ => ⟨v1, e1, h.grew (by simpa using ho) hb hg⟩
theorem Pw.num1 (h : Pw w W L v xs) (z : Int) (h0 : 0 ≤ z) (h1 : z ≤ 9007199254740991) (hl : xs.length ≤ 900000) :
    Calls Try.prog 25 #[v, .slice (some ⟨W.heap.size, 0, none⟩) 1 1] (W.alloc (.cells #[.int .i64 z] 3)) fun e W1 => ∃ v1, e = .returned v1 ∧ Pw w W1 L v1 (xs ++ numB z.toNat) := by
  obtain ⟨q, rfl⟩ := Int.eq_ofNat_of_zero_le h0
  refine ((h.lit #[.int .i64 (q : Int)] (t := 3) (by decide)).num (g := W.heap.size) (q := q) (by simp) (by omega) hl).mono fun e W1 ⟨v1, e1, hp⟩ => ⟨v1, e1, ?_⟩
  rw [Int.toNat_natCast]
  exact hp.less (fun x hx => List.mem_cons_of_mem _ hx)
theorem Pw.numl (h : Pw w W L v xs) {g : Nat} {z : Int} (hg : (g, #[.int .i64 z], 3) ∈ L) (h0 : 0 ≤ z) (h1 : z ≤ 9007199254740991) (hl : xs.length ≤ 900000) :
    Calls Try.prog 25 #[v, .slice (some ⟨g, 0, none⟩) 1 1] W fun e W1 => ∃ v1, e = .returned v1 ∧ Pw w W1 L v1 (xs ++ numB z.toNat) := by
  obtain ⟨q, rfl⟩ := Int.eq_ofNat_of_zero_le h0
  exact (h.num (q := q) hg (by omega) hl).mono fun e W1 ⟨v1, e1, hp⟩ => ⟨v1, e1, by rw [Int.toNat_natCast]; exact hp⟩
/-- .. behind a text that was laid just now. -/
theorem Pw.numt {m : Nat} {ps : List Int} (h : Pw w W L v (xs ++ (numB m ++ ps))) (hps : ps.length = m) {g : Nat} {z : Int} (hg : (g, #[.int .i64 z], 3) ∈ L) (h0 : 0 ≤ z) (h1 : z ≤ 9007199254740991) (hl : xs.length + m ≤ 800000) :
    Calls Try.prog 25 #[v, .slice (some ⟨g, 0, none⟩) 1 1] W fun e W1 => ∃ v1, e = .returned v1 ∧ Pw w W1 L v1 (xs ++ (numB m ++ ps) ++ numB z.toNat) :=
  h.numl hg h0 h1 (by
    have := numB_len8 m (by omega)
    rw [List.length_append, List.length_append]
    omega)
/-- A text behind the row. -/
theorem Pw.text (h : Pw w W L v xs) {A : Option Addr} {n c : Nat} {ps : List Int} (hs : Src W v A n ps) (hl : xs.length + n ≤ 900000) :
    Calls Try.prog 26 #[v, .slice A n c] W fun e W1 => ∃ v1, e = .returned v1 ∧ Pw w W1 L v1 (xs ++ (numB n ++ ps)) :=
  (text_calls w.heap.size v xs A n c ps W h.own h.b.size hs hl).mono fun e W1 ⟨v1, e1, ho, hb, hg⟩ => ⟨v1, e1, h.grew ho hb hg⟩
end
theorem exec_conv {o : Oper} {ev : Operand → Value} {W : World} {b : ByteArray} {x : Operand} (ho : o.op = .convert 9 25 x) (hx : ev x = .string b) :
    (execOp ev o).run Try.prog W = .ok (.value (.slice (some ⟨W.heap.size, 0, none⟩) b.size (grownCap W b.size 0 5))) (Lib.bytesWorld W 5 b) := by
  have h := Lib.run_convert_string_bytes (P := Try.prog) W 9 25 5 b Try.underlying9 Try.underlying25 Try.underlying5
  unfold execOp
  simp only [ho, hx, Sem.run_bind, h, Result.andThen_ok, Sem.run_pure]
end Go.Proofs.Ytbncmffifbcbjaa.Pw
