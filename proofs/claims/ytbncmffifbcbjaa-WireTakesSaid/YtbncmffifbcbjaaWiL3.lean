/- The laws WireTakes and WireBack; condition: the note reads as a note, the bytes as bytes. -/
import Derived.Test.YtbncmffifbcbjaaWiX
import Derived.Test.YtbncmffifbcbjaaWiY
import Derived.Test.YtbncmffifbcbjaaWiZ
import Derived.Test.YtbncmffifbcbjaaWiLv
namespace Go.Proofs.Ytbncmffifbcbjaa.WiL3
open Go Go.RowKit Go.Proofs.YtbncmffifbcbjaaW.PrintWords Go.Proofs.Ytbncmffifbcbjaa.K Go.Proofs.Ytbncmffifbcbjaa.OctS Go.Proofs.Ytbncmffifbcbjaa.OctP Go.Proofs.Ytbncmffifbcbjaa.Oct Go.Proofs.Ytbncmffifbcbjaa.Ap Go.Proofs.Ytbncmffifbcbjaa.Nm Go.Proofs.Ytbncmffifbcbjaa.Hl Go.Proofs.Ytbncmffifbcbjaa.WiD Go.Proofs.Ytbncmffifbcbjaa.WiE Go.Proofs.Ytbncmffifbcbjaa.WiF Go.Proofs.Ytbncmffifbcbjaa.WiT Go.Proofs.Ytbncmffifbcbjaa.WiR Go.Proofs.Ytbncmffifbcbjaa.WiU Go.Proofs.Ytbncmffifbcbjaa.WiP Go.Proofs.Ytbncmffifbcbjaa.WiV Go.Proofs.Ytbncmffifbcbjaa.WiM Go.Proofs.Ytbncmffifbcbjaa.WiW Go.Proofs.Ytbncmffifbcbjaa.WiMf Go.Proofs.Ytbncmffifbcbjaa.WiX Go.Proofs.Ytbncmffifbcbjaa.WiY Go.Proofs.Ytbncmffifbcbjaa.WiZ Go.Proofs.Ytbncmffifbcbjaa.WiLv
set_option linter.unusedVariables false
set_option linter.unusedSimpArgs false
theorem bytes_wf {l : List Int} (h : ∀ x ∈ l, (Lit.int .u8 x).wf = true) : Bytes l := fun c hc => by
  have := h c hc
  simp [Lit.wf, IntKind.min, IntKind.max, IntKind.signed, IntKind.bits] at this
  omega
theorem loop_names {b : List Int} (hb : Bytes b) : ∀ (k : Nat) (t : Nt × Rs), (∀ x ∈ t.1.held, x.name.size ≤ maxLen) → ∀ x ∈ (loopS (heldS b) k t).1.held, x.name.size ≤ maxLen
  | 0, _, h => h
  | k + 1, t, h => by
    unfold loopS
    split
    · refine loop_names hb k _ (fun x hx => ?_)
      unfold heldS at hx
      simp only [List.mem_append, List.mem_cons, List.not_mem_nil, or_false] at hx
      rcases hx with hx | rfl
      · exact h x hx
      · simp only [WiMf.strOf_size]
        have := textR_len hb t.2 32
        simp only [maxLen, Int.cast_ofNat_Int] at this ⊢
        omega
    · exact h
theorem loop_held (b : List Int) : ∀ (k : Nat) (t : Nt × Rs), (loopS (partS b) k t).1.held = t.1.held
  | 0, _ => rfl
  | k + 1, t => by
    unfold loopS
    split
    · exact loop_held b k _
    · rfl
theorem takeF_names {b : List Int} (hb : Bytes b) : ∀ x ∈ (takeF b).1.held, x.name.size ≤ maxLen := by
  have h3 : ∀ x ∈ (s3 b).1.held, x.name.size ≤ maxLen := by
    unfold s3 listS
    split
    · exact loop_names hb _ _ (fun x hx => by rw [(WiMf.s2_held b).1] at hx; cases hx)
    · intro x hx; rw [(WiMf.s2_held b).1] at hx; cases hx
  have h5 : (s5 b).1.held = (s3 b).1.held := by
    have h4 : (s4 b).1.held = (s3 b).1.held := by
      unfold s4 listS
      split
      · exact loop_held b _ _
      · rfl
    unfold s5 bytesS
    split
    · exact h4
    · exact h4
  unfold takeF
  split
  · simp only; rw [h5]; exact h3
  · intro x hx; cases hx
/-- A byte ahead of the rows is written. -/
theorem NtR.byte {W W1 : World} {base j : Nat} {n : Nt} {a : Ads} (h : NtR W base n a) {cells : Array Value} (hb : W.heap[j]? = some (.cells cells 5 (0, 0))) (hj : j < base) (hg : W.grownBy W1 (some j)) : NtR W1 base n a :=
  ⟨R_other flat_hl h.h (fun k hk => by injection hk with hk; subst hk; exact ⟨_, _, hb, by decide⟩) hg, R_other flat_pt h.p (fun k hk => by injection hk with hk; subst hk; exact ⟨_, _, hb, by decide⟩) hg, R_kept_row (flat_int .u8) h.bb (fun k hk he => by injection hk with hk; have := ((Kd.R_bound h.bb).1 k he).2.1; omega) hg, h.nm, h.by_⟩
set_option maxHeartbeats 8000000 in
set_option maxRecDepth 100000 in
theorem takes_row (B : Option Addr) (kb cb : Nat) (b : List Int) (w : World) (hr : Kd.C (Kd.int .u8) w B kb b) (hc : kb ≤ cb) (hb : ∀ x ∈ b, (Lit.int .u8 x).wf = true) (hm : kb * 1 ≤ 140737488351232) :
    Calls Try.prog 5 #[.slice B kb cb] w fun e w' => e = .returned (.bool true) ∧ Below w.heap.size w w' := by
  obtain rfl : b.length = kb := hr.1
  have hm2 : b.length ≤ 140737488351232 := by omega
  clear hm
  have HY := Aside0.mk (bytes_wf hb)
  have HRb := Aside0.mk hr
  have HGV := Aside0.mk (fun W (hW : Below w.heap.size w W) => (⟨Kd.C_below hr hW, hc, bytes_wf hb, hm2⟩ : Given W B cb b))
  have HNM := Aside0.mk (takeF_names (bytes_wf hb))
  have HN := Aside0.mk (Kd.R_made_nil (Kd.int .u8) w 5)
  have HM := Aside0.mk (below_alloc (Below.refl w.heap.size w) (.cells #[] 5))
  clear hr hb
  go_enter Try.func5, Try.ntmps5
  go_wp2_with ((with_reducible refine gate_builtin (b := .append) (xs := #[.tmp 9, .tmp 10]) rfl ?_); at_builtin; refine app (Kd.int .u8) (flat_int _) w.heap.size (w0 := w) (.tmp 9) (.tmp 10) 25 5 (.int .u8 0) 1 rfl rfl Try.underlying25 infoU8 rfl (by decide) (by decide) _ ([] : List Int) b B b.length cb rfl rfl ?aO ?aR ?aB ?aS ?aL ?_; (case aO => exact HN.out); (case aR => exact (Kd.C_below HRb.out HM.out)); (case aB => exact (by repeat (first | (with_reducible first | exact HM.out | apply below_alloc | apply pw_below_drewN | apply below_drew1) | exact HM.out))); (case aS => exact (below_size (by repeat (first | (with_reducible first | exact HM.out | apply below_alloc | apply pw_below_drewN | apply below_drew1) | exact HM.out)))); (case aL => exact (by simp; omega)); intro v3 w3 ho3 hb3 hg3 hat3; rw [List.nil_append] at ho3; have HO3 := Aside0.mk ho3; have HB3 := Aside0.mk hb3; clear ho3 hb3 hg3 hat3)
  obtain ⟨A3, c3, rfl, hc3, hr3⟩ := Kd.R_reads HO3.out
  have HG3 : Aside0 (Given w3 A3 c3 b) := ⟨⟨hr3, hc3, HY.out, hm2⟩⟩
  have HLT := Aside0.mk (R_lt_size HO3.out)
  clear hr3 hc3
  have hTK := take_calls A3 c3 b w3 HG3.out
  have hTR := fun W (hW : Below w.heap.size w W) => rtake_calls B cb b W (HGV.out W hW)
  generalize takeF b = TF at *
  obtain ⟨n, ee⟩ := TF
  dsimp only at *
  have HTR := Aside0.mk hTR
  clear hTR
  refine hTK.mono ?_
  clear hTK
  rintro e w4 ⟨a4, rfl, hn4, hb4⟩
  have HN4 := Aside0.mk (hn4.below (below_alloc (Below.refl _ _) (.cells (noteV n a4) 27)))
  have HX4 := Aside0.mk (heap_alloc_new w4 (.cells (noteV n a4) 27))
  have HB4 := Aside0.mk (below_alloc (below_then HB3.out HB3.out.size hb4) (.cells (noteV n a4) 27))
  have HO4 := Aside0.mk (Kd.R_alloc (Kd.R_below HO3.out hb4) (.cells (noteV n a4) 27))
  clear hn4 hb4
  simp only [noteV] at HN4 HX4 HB4 HO4
  simp only [noteV]
  go_wp2_with fail
  obtain ⟨W5, hW5⟩ : ∃ X, X = w4.alloc (.cells #[.int .i64 n.say, .string n.name, .int .i64 n.gen, .int .i64 n.i, .slice a4.ah n.held.length a4.ch, .slice a4.ap n.parts.length a4.cp, .slice a4.ab n.bytes.length a4.cb] 27) := ⟨_, rfl⟩
  rw [← hW5] at HN4 HX4 HB4 HO4 ⊢
  clear hW5
  generalize hg4 : w4.heap.size = g4 at *
  clear hg4
  go_loopg [6] (b.length + 1) (fun gk v6 wr => ∃ (i : Nat) (ys : List Int), v6 = .int .i64 i ∧ i ≤ b.length ∧ Aside0 (gk = b.length - i + 1) ∧ Aside0 (ys.length = b.length) ∧ Aside0 (Kd.R (Kd.int .u8) 5 wr w.heap.size (fun _ => True) (.slice A3 b.length c3) (ys)) ∧ Aside0 (NtR wr w3.heap.size n a4) ∧ Aside0 (wr.heap[g4]? = some (.cells (noteV n a4) 27 (0, 0))) ∧ Aside0 (Below w.heap.size w wr))
  case atStart => exact ⟨0, b, rfl, Nat.zero_le _, ⟨rfl⟩, ⟨rfl⟩, HO4, HN4, HX4, HB4⟩
  case round =>
    obtain ⟨i, ys, rfl, hi, HG, HYL, HO, HN, HX, HBR⟩ := hrel
    by_cases hlt : i < b.length
    · have h1 : decide ((i : Int) < (b.length : Int)) = true := by simp; omega
      obtain ⟨j, rfl, hjb, hcell, hfz, hst⟩ := own_byte HO.out i hlt
      have hi1 : (0 : Int) ≤ (i : Int) := by omega
      have hi2 : (i : Int) < (b.length : Int) := by omega
      have hst2 := hst (bits .xor .u8 (rd ys i) 1)
      obtain ⟨cells, hcj⟩ := own_type HO.out j rfl
      have HST := Aside0.mk hst2
      have HN2 := Aside0.mk (NtR.byte HN.out hcj (HLT.out j rfl) hst2.2)
      have HX2 := Aside0.mk ((hst2.2.block g4 (Array.getElem?_eq_some_iff.1 HX.out).1 (fun e => by injection e with e; subst e; rw [hcj] at HX; have h2 := HX.out; injection h2 with h2; injection h2 with _ h2; exact absurd h2 (by decide))).trans HX.out)
      have HJ := Aside0.mk hjb
      clear hst hst2 hjb hcj
      go_wp2
      go_roundg (b.length - (i + 1) + 1)
      case measure => have := HG.out; omega
      case rel => exact ⟨i + 1, ys.set i (bits .xor .u8 (rd ys i) 1), by go_num, by omega, ⟨rfl⟩, ⟨by rw [List.length_set]; exact HYL.out⟩, ⟨HST.out.1⟩, HN2, HX2, ⟨HBR.out.grown HST.out.2 HBR.out.size (fun m e => by injection e with e; rw [← e]; exact HJ.out)⟩⟩
    · obtain rfl : i = b.length := by omega
      have h1 : decide ((b.length : Int) < (b.length : Int)) = false := by simp
      clear HO HO4 HN4 HX4 HB4 hlt
      go_wp2_with fail
      refine (HTR.out wr HBR.out).mono ?_
      rintro e w5 ⟨a5, rfl, hn5, hb5⟩
      have HN45 := Aside0.mk (HN.out.below hb5)
      have HN5 := Aside0.mk hn5
      have HX5 := Aside0.mk ((hb5.block _ (Array.getElem?_eq_some_iff.1 HX.out).1).trans HX.out)
      have HB5 := Aside0.mk (below_then HBR.out HBR.out.size hb5)
      clear hn5 hb5 HN HX HBR
      simp only [noteV]
      go_wp2_with fail
      obtain ⟨W6, hW6⟩ : ∃ X, X = w5.alloc (.cells #[.int .i64 n.say, .string n.name, .int .i64 n.gen, .int .i64 n.i, .slice a5.ah n.held.length a5.ch, .slice a5.ap n.parts.length a5.cp, .slice a5.ab n.bytes.length a5.cb] 27) := ⟨_, rfl⟩
      have HB6 : Aside0 (Below w5.heap.size w5 W6) := ⟨by rw [hW6]; exact below_alloc (Below.refl _ _) _⟩
      have HY6 : Aside0 (W6.heap[w5.heap.size]? = some (.cells (noteV n a5) 27 (0, 0))) := ⟨by rw [hW6]; exact heap_alloc_new w5 _⟩
      rw [← hW6]
      clear hW6
      generalize hg5 : w5.heap.size = g5 at *
      have HG5 := Aside0.mk hg5
      clear hg5
      refine (live_calls W6).mono ?_
      rintro e w7 ⟨rfl, hb7⟩
      have HB56 : Aside0 (Below w5.heap.size w5 w7) := ⟨below_then (by first | exact HB6.out | (rw [HG5.out]; exact HB6.out)) (by first | exact HB6.out.size | (rw [HG5.out]; exact HB6.out.size)) hb7⟩
      have HX7 := Aside0.mk ((HB56.out.block _ (Array.getElem?_eq_some_iff.1 HX5.out).1).trans HX5.out)
      have HY7 := Aside0.mk ((hb7.block _ (Array.getElem?_eq_some_iff.1 HY6.out).1).trans HY6.out)
      have HSM := Aside0.mk (same_calls n a4 a5 w7 (HN45.out.below HB56.out).C (HN5.out.below HB56.out).C HNM.out)
      have HB7 := Aside0.mk (below_then HB5.out HB5.out.size HB56.out)
      obtain ⟨c0, c1, c2, c3', c4, c5, c6⟩ := note_cells HX7.out
      obtain ⟨e0, e1, e2, e3, e4, e5, e6⟩ := note_cells HY7.out
      simp only [noteV] at HSM
      clear hb7
      go_wp2_with (go_at_call 14; (with_reducible refine (HSM.out).mono ?_); rintro e w' ⟨rfl, hb8⟩; have HB8 := Aside0.mk (below_then HB7.out HB7.out.size hb8); clear hb8)
      go_ret
      exact ⟨by simp, HB8.out⟩
end Go.Proofs.Ytbncmffifbcbjaa.WiL3
