/- The law WirePuts; condition: the note reads as a note. -/
import Derived.Test.YtbncmffifbcbjaaWiLv
import Derived.Test.YtbncmffifbcbjaaWiQp
namespace Go.Proofs.Ytbncmffifbcbjaa.WiL2
open Go Go.RowKit Go.Proofs.YtbncmffifbcbjaaW.PrintWords Go.Proofs.Ytbncmffifbcbjaa.K Go.Proofs.Ytbncmffifbcbjaa.OctS Go.Proofs.Ytbncmffifbcbjaa.OctP Go.Proofs.Ytbncmffifbcbjaa.Nm Go.Proofs.Ytbncmffifbcbjaa.Hl Go.Proofs.Ytbncmffifbcbjaa.WiD Go.Proofs.Ytbncmffifbcbjaa.WiE Go.Proofs.Ytbncmffifbcbjaa.WiF Go.Proofs.Ytbncmffifbcbjaa.WiG Go.Proofs.Ytbncmffifbcbjaa.WiP Go.Proofs.Ytbncmffifbcbjaa.WiQp Go.Proofs.Ytbncmffifbcbjaa.WiLv
set_option linter.unusedVariables false
set_option linter.unusedSimpArgs false
set_option maxHeartbeats 2000000 in
theorem puts_calls (n : Nt) (a : Ads) (w : World) (h : NtC w n a) (hs : n.held.length ≤ 9223372036854775807) (hsp : n.parts.length ≤ 9223372036854775807) : Calls Try.prog 4 #[.agg (noteV n a)] w fun e w' => e = .returned (.bool true) ∧ Below w.heap.size w w' := by
  have hblk := heap_alloc_new w (.cells (noteV n a) 27)
  obtain ⟨c0, c1, c2, c3, c4, c5, c6⟩ := note_cells hblk
  have HG := Aside0.mk hblk
  have HB := Aside0.mk (below_alloc (Below.refl w.heap.size w) (.cells (noteV n a) 27))
  generalize hw1 : w.alloc (.cells (noteV n a) 27) = w1 at *
  have HC1 := Aside0.mk (put_calls n a w1 (h.below HB.out))
  have HC2 := Aside0.mk (fun W (hW : Below w.heap.size w W) => rput_calls n a W (h.below hW) hs hsp)
  have hw1' : w.alloc (.cells #[.int .i64 n.say, .string n.name, .int .i64 n.gen, .int .i64 n.i, .slice a.ah n.held.length a.ch, .slice a.ap n.parts.length a.cp, .slice a.ab n.bytes.length a.cb] 27) = w1 := hw1
  clear h hs hsp hw1 hblk
  simp only [noteV] at HC1 HC2
  rw [show noteV n a = #[.int .i64 n.say, .string n.name, .int .i64 n.gen, .int .i64 n.i, .slice a.ah n.held.length a.ch, .slice a.ap n.parts.length a.cp, .slice a.ab n.bytes.length a.cb] from rfl]
  go_enter Try.func4, Try.ntmps4
  go_wp2_with fail
  refine HC1.out.mono ?_
  rintro e w2 ⟨v, rfl, ho, hb⟩
  have HG2 := Aside0.mk ((hb.block _ (Array.getElem?_eq_some_iff.1 HG.out).1).trans HG.out)
  have HB2 := Aside0.mk (below_then HB.out HB.out.size hb)
  obtain ⟨A1, k1, rfl⟩ := Kd.R_slice ho
  have HO := Aside0.mk ho
  clear ho hb c0 c1 c2 c3 c4 c5 c6 hw1'
  obtain ⟨c0, c1, c2, c3, c4, c5, c6⟩ := note_cells HG2.out
  go_wp2_with fail
  refine (HC2.out _ HB2.out).mono ?_
  rintro e w3 ⟨v, rfl, ho, hb⟩
  obtain ⟨A2, k2, rfl⟩ := Kd.R_slice ho
  have HB3 := Aside0.mk (below_then HB2.out HB2.out.size hb)
  have HR1 := Aside0.mk (Kd.C_below (Kd.R_reads' HO.out).2.2 hb)
  have HR2 := Aside0.mk (Kd.R_reads' ho).2.2
  clear ho hb c0 c1 c2 c3 c4 c5 c6
  go_wp2_with fail
  refine (live_calls _).mono ?_
  rintro e w4 ⟨rfl, hb⟩
  have HB4 := Aside0.mk (below_then HB3.out HB3.out.size hb)
  have hcv1 := conv_read (P := Try.prog) (c := k1) 25 9 5 Try.underlying25 Try.underlying5 Try.underlying9 (Kd.C_below HR1.out hb) rfl
  have hcv2 := conv_read (P := Try.prog) (c := k2) 25 9 5 Try.underlying25 Try.underlying5 Try.underlying9 (Kd.C_below HR2.out hb) rfl
  clear hb
  go_wp2_with fail
  go_ret
  exact ⟨by simp, HB4.out⟩
end Go.Proofs.Ytbncmffifbcbjaa.WiL2
