/- The law WireChecks; condition: the note reads as a note. -/
import Derived.Test.YtbncmffifbcbjaaWiLv
import Derived.Test.YtbncmffifbcbjaaWiG
namespace Go.Proofs.Ytbncmffifbcbjaa.WiL1
open Go Go.RowKit Go.Proofs.YtbncmffifbcbjaaW.PrintWords Go.Proofs.Ytbncmffifbcbjaa.K Go.Proofs.Ytbncmffifbcbjaa.OctS Go.Proofs.Ytbncmffifbcbjaa.OctP Go.Proofs.Ytbncmffifbcbjaa.Nm Go.Proofs.Ytbncmffifbcbjaa.Hl Go.Proofs.Ytbncmffifbcbjaa.WiD Go.Proofs.Ytbncmffifbcbjaa.WiE Go.Proofs.Ytbncmffifbcbjaa.WiF Go.Proofs.Ytbncmffifbcbjaa.WiG Go.Proofs.Ytbncmffifbcbjaa.WiLv
set_option linter.unusedVariables false
set_option linter.unusedSimpArgs false
set_option maxHeartbeats 2000000 in
theorem checks_calls (n : Nt) (a : Ads) (w : World) (h : NtC w n a) (hs : n.held.length ≤ 9223372036854775807) (hsp : n.parts.length ≤ 9223372036854775807) : Calls Try.prog 3 #[.agg (noteV n a)] w fun e w' => e = .returned (.bool true) ∧ Below w.heap.size w w' := by
  have H := Aside0.mk h
  have HB := Aside0.mk (below_drew1 (below_alloc (Below.refl w.heap.size w) (.cells (noteV n a) 27)))
  have HG := Aside0.mk (heap_alloc_new w (.cells (noteV n a) 27))
  have HC1 := Aside0.mk (fun W (hW : Below w.heap.size w W) => check_calls n a W (h.below hW))
  have HC2 := Aside0.mk (fun W (hW : Below w.heap.size w W) => rcheck_calls n a W (h.below hW) hs hsp)
  clear h hs hsp
  simp only [noteV] at HG HC1 HC2
  rw [show noteV n a = #[.int .i64 n.say, .string n.name, .int .i64 n.gen, .int .i64 n.i, .slice a.ah n.held.length a.ch, .slice a.ap n.parts.length a.cp, .slice a.ab n.bytes.length a.cb] from rfl]
  go_enter Try.func3, Try.ntmps3
  go_wp2_with fail
  have q0 : ∀ x : Held (fun w' => Below w.heap.size w w' ∧ w'.heap[w.heap.size]? = some (.cells #[.int .i64 n.say, .string n.name, .int .i64 n.gen, .int .i64 n.i, .slice a.ah n.held.length a.ch, .slice a.ap n.parts.length a.cp, .slice a.ab n.bytes.length a.cb] 27 (0, 0))), x.w.cell? ⟨w.heap.size, 0, none⟩ = some (.int .i64 n.say) := fun x => obj_cell x.h.2 0 rfl
  have q1 : ∀ x : Held (fun w' => Below w.heap.size w w' ∧ w'.heap[w.heap.size]? = some (.cells #[.int .i64 n.say, .string n.name, .int .i64 n.gen, .int .i64 n.i, .slice a.ah n.held.length a.ch, .slice a.ap n.parts.length a.cp, .slice a.ab n.bytes.length a.cb] 27 (0, 0))), x.w.cell? ⟨w.heap.size, 1, none⟩ = some (.string n.name) := fun x => obj_cell x.h.2 1 rfl
  have q2 : ∀ x : Held (fun w' => Below w.heap.size w w' ∧ w'.heap[w.heap.size]? = some (.cells #[.int .i64 n.say, .string n.name, .int .i64 n.gen, .int .i64 n.i, .slice a.ah n.held.length a.ch, .slice a.ap n.parts.length a.cp, .slice a.ab n.bytes.length a.cb] 27 (0, 0))), x.w.cell? ⟨w.heap.size, 2, none⟩ = some (.int .i64 n.gen) := fun x => obj_cell x.h.2 2 rfl
  have q3 : ∀ x : Held (fun w' => Below w.heap.size w w' ∧ w'.heap[w.heap.size]? = some (.cells #[.int .i64 n.say, .string n.name, .int .i64 n.gen, .int .i64 n.i, .slice a.ah n.held.length a.ch, .slice a.ap n.parts.length a.cp, .slice a.ab n.bytes.length a.cb] 27 (0, 0))), x.w.cell? ⟨w.heap.size, 3, none⟩ = some (.int .i64 n.i) := fun x => obj_cell x.h.2 3 rfl
  have q4 : ∀ x : Held (fun w' => Below w.heap.size w w' ∧ w'.heap[w.heap.size]? = some (.cells #[.int .i64 n.say, .string n.name, .int .i64 n.gen, .int .i64 n.i, .slice a.ah n.held.length a.ch, .slice a.ap n.parts.length a.cp, .slice a.ab n.bytes.length a.cb] 27 (0, 0))), x.w.cell? ⟨w.heap.size, 4, none⟩ = some (.slice a.ah n.held.length a.ch) := fun x => obj_cell x.h.2 4 rfl
  have q5 : ∀ x : Held (fun w' => Below w.heap.size w w' ∧ w'.heap[w.heap.size]? = some (.cells #[.int .i64 n.say, .string n.name, .int .i64 n.gen, .int .i64 n.i, .slice a.ah n.held.length a.ch, .slice a.ap n.parts.length a.cp, .slice a.ab n.bytes.length a.cb] 27 (0, 0))), x.w.cell? ⟨w.heap.size, 5, none⟩ = some (.slice a.ap n.parts.length a.cp) := fun x => obj_cell x.h.2 5 rfl
  have q6 : ∀ x : Held (fun w' => Below w.heap.size w w' ∧ w'.heap[w.heap.size]? = some (.cells #[.int .i64 n.say, .string n.name, .int .i64 n.gen, .int .i64 n.i, .slice a.ah n.held.length a.ch, .slice a.ap n.parts.length a.cp, .slice a.ab n.bytes.length a.cb] 27 (0, 0))), x.w.cell? ⟨w.heap.size, 6, none⟩ = some (.slice a.ab n.bytes.length a.cb) := fun x => obj_cell x.h.2 6 rfl
  (refine wp_region_class (fun w' => Below w.heap.size w w' ∧ w'.heap[w.heap.size]? = some (.cells #[.int .i64 n.say, .string n.name, .int .i64 n.gen, .int .i64 n.i, .slice a.ah n.held.length a.ch, .slice a.ap n.parts.length a.cp, .slice a.ab n.bytes.length a.cb] 27 (0, 0))) (by kernel_rfl) (by kernel_rfl) (⟨HB.out, HG.out⟩) (fun _ => ?_); (repeat (go_big_quiet_step (((rename_i x; first | (go_at_call 7; refine (live_calls _).mono ?_; rintro e w8 ⟨rfl, hb7⟩; exact ⟨rfl, ⟨w8, below_then x.h.1 x.h.1.size hb7, (hb7.block _ (Array.getElem?_eq_some_iff.1 x.h.2).1).trans x.h.2⟩, rfl⟩) | (go_at_call 8; refine (HC1.out _ x.h.1).mono ?_; rintro e w8 ⟨rfl, hb7⟩; exact ⟨rfl, ⟨w8, below_then x.h.1 x.h.1.size hb7, (hb7.block _ (Array.getElem?_eq_some_iff.1 x.h.2).1).trans x.h.2⟩, rfl⟩) | (go_at_call 9; refine (HC2.out _ x.h.1).mono ?_; rintro e w8 ⟨rfl, hb7⟩; exact ⟨rfl, ⟨w8, below_then x.h.1 x.h.1.size hb7, (hb7.block _ (Array.getElem?_eq_some_iff.1 x.h.2).1).trans x.h.2⟩, rfl⟩)))))); refine wpQuiet_nil ?_; intro w' hS)
  go_wp2
  go_ret
  exact ⟨rfl, hS.1⟩
end Go.Proofs.Ytbncmffifbcbjaa.WiL1
