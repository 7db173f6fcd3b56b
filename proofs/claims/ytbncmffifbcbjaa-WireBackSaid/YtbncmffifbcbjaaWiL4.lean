/- The law WireBack; condition: the note reads as a note, the bytes as bytes. -/
import Derived.Test.YtbncmffifbcbjaaWiX
import Derived.Test.YtbncmffifbcbjaaWiZ
import Derived.Test.YtbncmffifbcbjaaWiBb
import Derived.Test.YtbncmffifbcbjaaWiLv
namespace Go.Proofs.Ytbncmffifbcbjaa.WiL4
open Go Go.RowKit Go.Proofs.YtbncmffifbcbjaaW.PrintWords Go.Proofs.Ytbncmffifbcbjaa.K Go.Proofs.Ytbncmffifbcbjaa.OctS Go.Proofs.Ytbncmffifbcbjaa.OctP Go.Proofs.Ytbncmffifbcbjaa.Oct Go.Proofs.Ytbncmffifbcbjaa.Ap Go.Proofs.Ytbncmffifbcbjaa.Nm Go.Proofs.Ytbncmffifbcbjaa.Hl Go.Proofs.Ytbncmffifbcbjaa.WiA Go.Proofs.Ytbncmffifbcbjaa.WiD Go.Proofs.Ytbncmffifbcbjaa.WiE Go.Proofs.Ytbncmffifbcbjaa.WiF Go.Proofs.Ytbncmffifbcbjaa.WiT Go.Proofs.Ytbncmffifbcbjaa.WiR Go.Proofs.Ytbncmffifbcbjaa.WiU Go.Proofs.Ytbncmffifbcbjaa.WiP Go.Proofs.Ytbncmffifbcbjaa.WiV Go.Proofs.Ytbncmffifbcbjaa.WiM Go.Proofs.Ytbncmffifbcbjaa.WiW Go.Proofs.Ytbncmffifbcbjaa.WiX Go.Proofs.Ytbncmffifbcbjaa.WiZ Go.Proofs.Ytbncmffifbcbjaa.WiBk Go.Proofs.Ytbncmffifbcbjaa.WiBb Go.Proofs.Ytbncmffifbcbjaa.WiLv
set_option linter.unusedVariables false
set_option linter.unusedSimpArgs false
theorem bytes_wf {l : List Int} (h : ∀ x ∈ l, (Lit.int .u8 x).wf = true) : Bytes l := fun c hc => by
  have := h c hc
  simp [Lit.wf, IntKind.min, IntKind.max, IntKind.signed, IntKind.bits] at this
  omega
theorem nil_bytes : Bytes [] := fun c hc => by cases hc
theorem flat_bytes {α : Type} {f : α → List Int} {l : List α} (h : ∀ x ∈ l, Bytes (f x)) : Bytes (l.flatMap f) := fun c hc => by
  obtain ⟨x, hx, hc⟩ := List.mem_flatMap.1 hc
  exact h x hx c hc
theorem textB_bytes {s : List Int} (h : Bytes s) : Bytes (textB s) := bytes_app (numB_bytes _) h
theorem noteB_bytes {n : Nt} (hp : ∀ x ∈ n.parts, Bytes x.s) (hb : Bytes n.bytes) : Bytes (noteB n) := by
  have hi : ∀ (c : Bool) (l : List Int), Bytes l → Bytes (if c = true then l else []) := fun c l h => by split; exact h; exact nil_bytes
  unfold noteB n6 n5 n4 n3 n2 n1 n0
  refine bytes_app (bytes_app (bytes_app (bytes_app (bytes_app (bytes_app (bytes_app (numB_bytes _) (hi _ _ ?_)) (hi _ _ (numB_bytes _))) (hi _ _ (numB_bytes _))) (flat_bytes (fun x hx => ?_))) (hi _ _ (numB_bytes _))) (flat_bytes (fun x hx => ?_))) (hi _ _ (textB_bytes hb))
  · exact bytes_app (textB_bytes (strB_bytes _)) (numB_bytes _)
  · exact bytes_app (textB_bytes (strB_bytes _)) (numB_bytes _)
  · exact bytes_app (hp x (List.mem_of_mem_take hx)) (numB_bytes _)
theorem parts_ok {w : World} {n : Nt} {a : Ads} (h : NtC w n a) : ∀ x ∈ n.parts, x.Ok := fun x hx => by
  obtain ⟨j, hj, rfl⟩ := List.getElem_of_mem hx
  obtain ⟨_, _, ho, _⟩ := pt_at h.p j hj
  simpa [hj] using ho
theorem ok_bytes {x : Pt} (h : x.Ok) : Bytes x.s := bytes_wf h.wf
theorem putF_given {w : World} {n : Nt} {a : Ads} (h : NtC w n a) : Bytes (putF n).2 ∧ (putF n).2.length ≤ 140737488351232 := by
  unfold putF
  split
  · rename_i hz
    have hR := right_of hz
    have hp := parts_ok h
    refine ⟨noteB_bytes (fun x hx => ok_bytes (hp x hx)) h.by_, ?_⟩
    have h6 := n6_len hR (fun x hx => (hp x hx).n) n.parts.length
    have hb := hR.b
    unfold noteB
    rw [List.length_append]
    split
    · have := numB_len8 n.bytes.length (by omega)
      unfold textB
      rw [List.length_append]
      omega
    · simp only [List.length_nil]; omega
  · exact ⟨nil_bytes, by simp⟩
theorem put_take {w : World} {n : Nt} {a : Ads} (h : NtC w n a) (hz : (putF n).1 = 0) : takeF (putF n).2 = (n, 0) ∧ ∀ x ∈ n.held, x.name.size ≤ maxLen := by
  have hc : checkF n = 0 := by
    unfold putF at hz
    split at hz
    · rename_i hc; exact hc
    · exact hz
  have hR := right_of hc
  have e : putF n = (0, noteB n) := by unfold putF; rw [if_pos hc]
  rw [e]
  exact ⟨takeF_put n hR (fun x hx => (parts_ok h x hx).n) hc, fun x hx => by have := (hR.hs x hx).1.2.1; simp only [maxLen]; omega⟩
theorem take_put {b : List Int} (hb : Bytes b) (hz : (takeF b).2 = 0) : putF (takeF b).1 = (0, b) := by
  obtain ⟨hc, hn⟩ := takeF_back hb hz
  unfold putF
  rw [if_pos hc, hn]
set_option maxHeartbeats 8000000 in
set_option maxRecDepth 100000 in
theorem back_row (n : Nt) (a : Ads) (B : Option Addr) (kb cb : Nat) (b : List Int) (w : World) (h : NtC w n a) (_ : n.held.length ≤ 9223372036854775807) (_ : n.parts.length ≤ 9223372036854775807) (hr : Kd.C (Kd.int .u8) w B kb b) (hc : kb ≤ cb) (hb : ∀ x ∈ b, (Lit.int .u8 x).wf = true) (hm : kb * 1 ≤ 140737488351232) :
    Calls Try.prog 6 #[.agg (noteV n a), .slice B kb cb] w fun e w' => e = .returned (.bool true) ∧ Below w.heap.size w w' := by
  obtain rfl : b.length = kb := hr.1
  have hm2 : b.length ≤ 140737488351232 := by omega
  clear hm
  have H := Aside0.mk h
  have HRb := Aside0.mk hr
  have HGV := Aside0.mk (fun W (hW : Below w.heap.size w W) => (⟨Kd.C_below hr hW, hc, bytes_wf hb, hm2⟩ : Given W B cb b))
  have HPT := Aside0.mk (fun hz => put_take h hz)
  have HTP := Aside0.mk (fun hz => take_put (bytes_wf hb) hz)
  have HPG := Aside0.mk (putF_given h)
  have hblk := heap_alloc_new w (.cells (noteV n a) 27)
  obtain ⟨c0, c1, c2, c3, c4, c5, c6⟩ := note_cells hblk
  have HG := Aside0.mk hblk
  have HB := Aside0.mk (below_alloc (Below.refl w.heap.size w) (.cells (noteV n a) 27))
  generalize hw1 : w.alloc (.cells (noteV n a) 27) = w1 at *
  have hP := put_calls n a w1 (h.below HB.out)
  have hw1' : w.alloc (.cells #[.int .i64 n.say, .string n.name, .int .i64 n.gen, .int .i64 n.i, .slice a.ah n.held.length a.ch, .slice a.ap n.parts.length a.cp, .slice a.ab n.bytes.length a.cb] 27) = w1 := hw1
  have HTA := Aside0.mk (fun A c W (hG : Given W A c (putF n).2) => take_calls A c (putF n).2 W hG)
  have HTB := Aside0.mk (fun W (hW : Below w.heap.size w W) => take_calls B cb b W (HGV.out W hW))
  clear h hr hb hw1 hblk
  generalize takeF (putF n).2 = T1 at *
  generalize takeF b = T2 at *
  generalize putF n = P at *
  obtain ⟨m, f⟩ := T1
  obtain ⟨o, g⟩ := T2
  obtain ⟨e1, x⟩ := P
  dsimp only at *
  simp only [noteV] at hP
  have HP := Aside0.mk hP
  clear hP
  rw [show noteV n a = #[.int .i64 n.say, .string n.name, .int .i64 n.gen, .int .i64 n.i, .slice a.ah n.held.length a.ch, .slice a.ap n.parts.length a.cp, .slice a.ab n.bytes.length a.cb] from rfl]
  go_enter Try.func6, Try.ntmps6
  go_wp2_with fail
  refine HP.out.mono ?_
  rintro e w2 ⟨v2, rfl, ho2, hb2⟩
  obtain ⟨A2, k2, rfl, hc2, hr2⟩ := Kd.R_reads ho2
  have HG2 := Aside0.mk ((hb2.block _ (Array.getElem?_eq_some_iff.1 HG.out).1).trans HG.out)
  have HB2 := Aside0.mk (below_then HB.out HB.out.size hb2)
  have HGI := Aside0.mk (show Given w2 A2 k2 x from ⟨hr2, hc2, HPG.out.1, HPG.out.2⟩)
  clear c0 c1 c2 c3 c4 c5 c6 hw1' ho2 hb2 hr2 hc2
  go_wp2_with fail
  refine (HTA.out A2 k2 w2 HGI.out).mono ?_
  rintro e w3 ⟨a3, rfl, hn3, hb3⟩
  simp only [noteV]
  have HN3 := Aside0.mk (hn3.below (below_alloc (Below.refl _ _) (.cells (noteV m a3) 27)))
  have HX3 := Aside0.mk (heap_alloc_new w3 (.cells (noteV m a3) 27))
  have HB3 := Aside0.mk (below_alloc (below_then HB2.out HB2.out.size hb3) (.cells (noteV m a3) 27))
  have HG3 := Aside0.mk ((Below.heap_alloc w3 (.cells (noteV m a3) 27) _ (Nat.lt_of_lt_of_le (Array.getElem?_eq_some_iff.1 HG2.out).1 hb3.size)).trans ((hb3.block _ (Array.getElem?_eq_some_iff.1 HG2.out).1).trans HG2.out))
  clear hn3 hb3 HG2
  go_wp2_with fail
  obtain ⟨W3, hW3⟩ : ∃ X, X = w3.alloc (.cells (noteV m a3) 27) := ⟨_, rfl⟩
  rw [← hW3] at HN3 HX3 HB3 HG3
  simp only [noteV] at hW3
  rw [← hW3]
  clear hW3
  generalize hg3 : w3.heap.size = g3 at *
  clear hg3
  refine (HTB.out W3 HB3.out).mono ?_
  rintro e w4 ⟨a4, rfl, hn4, hb4⟩
  simp only [noteV]
  obtain ⟨W4, hW4⟩ : ∃ X, X = w4.alloc (.cells (noteV o a4) 27) := ⟨_, rfl⟩
  have hal : Below w4.heap.size w4 W4 := by rw [hW4]; exact below_alloc (Below.refl _ _) _
  have hb34 : Below W3.heap.size W3 W4 := below_then hb4 hb4.size hal
  have HN4 := Aside0.mk (hn4.below hal)
  have HX4 : Aside0 (W4.heap[w4.heap.size]? = some (.cells (noteV o a4) 27 (0, 0))) := ⟨by rw [hW4]; exact heap_alloc_new w4 _⟩
  have HN34 := Aside0.mk (HN3.out.below hb34)
  have HX34 := Aside0.mk ((hb34.block _ (Array.getElem?_eq_some_iff.1 HX3.out).1).trans HX3.out)
  have HG34 := Aside0.mk ((hb34.block _ (Array.getElem?_eq_some_iff.1 HG3.out).1).trans HG3.out)
  have HB4 := Aside0.mk (below_then HB3.out HB3.out.size hb34)
  have hw4' := hW4.symm
  simp only [noteV] at hw4'
  clear hW4 hal hb34 hn4 hb4 HN3 HX3 HG3 HB3 HB2 HTB HTA HP
  obtain ⟨c0, c1, c2, c3, c4, c5, c6⟩ := note_cells HX4.out
  have hPo := put_calls o a4 W4 HN4.out.C
  generalize hpo : putF o = Po at *
  obtain ⟨e5, y⟩ := Po
  dsimp only at *
  simp only [noteV] at hPo
  have HPo := Aside0.mk hPo
  clear hPo
  have HPO := Aside0.mk hpo
  clear hpo
  go_wp2_with fail
  refine HPo.out.mono ?_
  rintro e w5 ⟨v5, rfl, ho5, hb5⟩
  obtain ⟨A5, k5, rfl, hc5, hr5⟩ := Kd.R_reads ho5
  have HR5 := Aside0.mk hr5
  have HN5 := Aside0.mk (HN34.out.below hb5)
  have HX5 := Aside0.mk ((hb5.block _ (Array.getElem?_eq_some_iff.1 HX34.out).1).trans HX34.out)
  have HG5 := Aside0.mk ((hb5.block _ (Array.getElem?_eq_some_iff.1 HG34.out).1).trans HG34.out)
  have HB5 := Aside0.mk (below_then HB4.out HB4.out.size hb5)
  clear c0 c1 c2 c3 c4 c5 c6 hw4' ho5 hb5 hr5 hc5 HN34 HX34 HG34 HX4 HN4 HB4 HPo
  go_wp2_with fail
  refine (live_calls w5).mono ?_
  rintro e w6 ⟨rfl, hb6⟩
  have HX6 := Aside0.mk ((hb6.block _ (Array.getElem?_eq_some_iff.1 HX5.out).1).trans HX5.out)
  have HG6 := Aside0.mk ((hb6.block _ (Array.getElem?_eq_some_iff.1 HG5.out).1).trans HG5.out)
  have HB6 := Aside0.mk (below_then HB5.out HB5.out.size hb6)
  have HNC := Aside0.mk (HN5.out.below hb6).C
  obtain ⟨c0, c1, c2, c3, c4, c5, c6⟩ := note_cells HX6.out
  obtain ⟨d0, d1, d2, d3, d4, d5, d6⟩ := note_cells HG6.out
  have hcv1 := conv_read (P := Try.prog) (c := k5) 25 9 5 Try.underlying25 Try.underlying5 Try.underlying9 (Kd.C_below HR5.out hb6) rfl
  have hcv2 := fun W (hW : Below w.heap.size w W) => conv_read (P := Try.prog) (c := cb) 25 9 5 Try.underlying25 Try.underlying5 Try.underlying9 (Kd.C_below HRb.out hW) rfl
  have HCV1 := Aside0.mk (fun W (hW : Below w6.heap.size w6 W) => conv_read (P := Try.prog) (c := k5) 25 9 5 Try.underlying25 Try.underlying5 Try.underlying9 (Kd.C_below (Kd.C_below HR5.out hb6) hW) rfl)
  have HCV2 := Aside0.mk hcv2
  have hcw2 := hcv2 w6 HB6.out
  clear hcv2 hb6 HX5 HG5 HB5 HN5 HR5
  by_cases hz : e1 = 0
  · obtain ⟨hT, hNM⟩ := HPT.out hz
    obtain ⟨rfl, rfl⟩ := Prod.mk.inj hT
    subst hz
    have HSM := Aside0.mk (same_calls m a a3 w6 (H.out.below HB6.out) HNC.out hNM)
    simp only [noteV] at HSM
    clear hT hNM
    by_cases hq : g = 0
    · have hQ := HTP.out hq
      obtain ⟨rfl, rfl⟩ := Prod.mk.inj hQ
      subst hq
      clear hQ hcv1 hcw2
      go_wp2_with (go_at_call 14; (with_reducible refine (HSM.out).mono ?_); rintro e w' ⟨rfl, hb7⟩; have HB7 := Aside0.mk (below_then HB6.out HB6.out.size hb7); have hcv3 := HCV1.out _ hb7; have hcv4 := HCV2.out _ HB7.out; clear hb7)
      go_ret
      exact ⟨by simp, HB7.out⟩
    · have h2 : (g != 0) = true := by simpa using hq
      clear hq hcv1 hcw2
      go_wp2_with (go_at_call 14; (with_reducible refine (HSM.out).mono ?_); rintro e w' ⟨rfl, hb7⟩; have HB7 := Aside0.mk (below_then HB6.out HB6.out.size hb7); clear hb7)
      go_ret
      exact ⟨by simp, HB7.out⟩
  · have h1 : (e1 != 0) = true := by simpa using hz
    clear hz
    by_cases hq : g = 0
    · have hQ := HTP.out hq
      obtain ⟨rfl, rfl⟩ := Prod.mk.inj hQ
      subst hq
      clear hQ
      go_wp2_with fail
      go_ret
      exact ⟨by simp, HB6.out⟩
    · have h2 : (g != 0) = true := by simpa using hq
      clear hq hcv1 hcw2
      go_wp2_with fail
      go_ret
      exact ⟨by simp, HB6.out⟩
end Go.Proofs.Ytbncmffifbcbjaa.WiL4
