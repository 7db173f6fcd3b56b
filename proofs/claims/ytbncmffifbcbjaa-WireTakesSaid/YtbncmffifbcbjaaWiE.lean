/- A note; what wire's bare computes. -/
import Derived.Test.YtbncmffifbcbjaaWiD
import Derived.Test.YtbncmffifbcbjaaWiA
namespace Go.Proofs.Ytbncmffifbcbjaa.WiE
open Go Go.RowKit Go.Proofs.YtbncmffifbcbjaaW.PrintWords Go.Proofs.Ytbncmffifbcbjaa.K Go.Proofs.Ytbncmffifbcbjaa.OctS Go.Proofs.Ytbncmffifbcbjaa.Nm Go.Proofs.Ytbncmffifbcbjaa.Hl Go.Proofs.Ytbncmffifbcbjaa.WiA Go.Proofs.Ytbncmffifbcbjaa.WiB Go.Proofs.Ytbncmffifbcbjaa.WiD
set_option linter.unusedVariables false
set_option linter.unusedSimpArgs false
structure Nt where
  say : Int
  name : ByteArray
  gen : Int
  i : Int
  held : List Hl
  parts : List Pt
  bytes : List Int
/-- Where a note's lists lie. -/
structure Ads where
  ah : Option Addr
  ch : Nat
  ap : Option Addr
  cp : Nat
  ab : Option Addr
  cb : Nat
def noteV (n : Nt) (a : Ads) : Array Value := #[.int .i64 n.say, .string n.name, .int .i64 n.gen, .int .i64 n.i, .slice a.ah n.held.length a.ch, .slice a.ap n.parts.length a.cp, .slice a.ab n.bytes.length a.cb]
structure NtC (w : World) (n : Nt) (a : Ads) : Prop where
  nm : n.name.size ≤ 9223372036854775807
  h : dHl.C w a.ah n.held.length n.held
  hc : n.held.length ≤ a.ch
  p : dPt.C w a.ap n.parts.length n.parts
  pc : n.parts.length ≤ a.cp
  b : (Kd.int .u8).C w a.ab n.bytes.length n.bytes
  bc : n.bytes.length ≤ a.cb
  by_ : Bytes n.bytes
theorem NtC.below {w w1 : World} {n : Nt} {a : Ads} (h : NtC w n a) (hb : Below w.heap.size w w1) : NtC w1 n a := ⟨h.nm, Kd.C_below h.h hb, h.hc, Kd.C_below h.p hb, h.pc, Kd.C_below h.b hb, h.bc, h.by_⟩
def bareF (f i h p b : Bool) (n : Nt) : Bool := (f || (n.name.toList.isEmpty && n.gen == 0)) && (i || n.i == 0) && (h || n.held.isEmpty) && (p || n.parts.isEmpty) && (b || n.bytes.isEmpty)
theorem isE {α : Type} (l : List α) : ((l.length : Int) == 0) = l.isEmpty := by cases l <;> simp; omega
set_option maxHeartbeats 4000000 in
theorem bare_calls (f i h p b : Bool) (n : Nt) (a : Ads) (w : World) (hc : (f, i, h, p, b) = (false, false, false, false, false) ∨ (f, i, h, p, b) = (false, false, true, false, false) ∨ (f, i, h, p, b) = (true, false, false, false, false) ∨ (f, i, h, p, b) = (true, false, false, true, false) ∨ (f, i, h, p, b) = (true, true, false, false, false) ∨ (f, i, h, p, b) = (true, true, false, false, true)) :
    Calls Try.prog 16 #[.agg (noteV n a), .agg #[.bool f, .bool i, .bool h, .bool p, .bool b]] w fun e w' => e = .returned (.bool (bareF f i h p b n)) ∧ Below w.heap.size w w' := by
  have HB := Aside0.mk (fun (x y : Obj) => below_alloc (below_alloc (Below.refl w.heap.size w) x) y)
  obtain ⟨say, name, gen, ni, held, parts, bytes⟩ := n
  obtain ⟨ah, ch, ap, cp, ab, cb⟩ := a
  unfold noteV
  simp only at *
  rcases hc with hc | hc | hc | hc | hc | hc <;> (simp only [Prod.mk.injEq] at hc; obtain ⟨rfl, rfl, rfl, rfl, rfl⟩ := hc)
  all_goals (
    go_enter Try.func16, Try.ntmps16
    go_wp2)
  all_goals (
    go_ret
    refine ⟨?_, HB.out _ _⟩
    simp [bareF, isE, *])
end Go.Proofs.Ytbncmffifbcbjaa.WiE
