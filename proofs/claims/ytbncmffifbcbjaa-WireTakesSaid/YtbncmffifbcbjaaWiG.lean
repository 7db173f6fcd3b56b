/- What the reference's Check of wire computes; condition: the note reads as a note. -/
import Derived.Test.YtbncmffifbcbjaaWiF
namespace Go.Proofs.Ytbncmffifbcbjaa.WiG
open Go Go.RowKit Go.Proofs.YtbncmffifbcbjaaW.PrintWords Go.Proofs.Ytbncmffifbcbjaa.K Go.Proofs.Ytbncmffifbcbjaa.OctS Go.Proofs.Ytbncmffifbcbjaa.Nm Go.Proofs.Ytbncmffifbcbjaa.Hl Go.Proofs.Ytbncmffifbcbjaa.WiA Go.Proofs.Ytbncmffifbcbjaa.WiB Go.Proofs.Ytbncmffifbcbjaa.WiD Go.Proofs.Ytbncmffifbcbjaa.WiE Go.Proofs.Ytbncmffifbcbjaa.WiF
set_option linter.unusedVariables false
set_option linter.unusedSimpArgs false
theorem finb {x y : Bool} (h : x = y) : Ending.returned (Value.bool x) = .returned (.bool y) := by rw [h]
theorem hasF_is (s : Int) : hasF s = (decide (3 ≤ s) && decide (s ≤ 7)) := by
  unfold hasF
  rw [Bool.eq_iff_iff]
  simp only [List.mem_cons, List.not_mem_nil, or_false, decide_eq_true_eq, Bool.and_eq_true]
  omega
theorem hasI_is (s : Int) : hasI s = (decide (s = 6) || decide (s = 7)) := by simp [hasI]
theorem hasFile_calls (s : Int) (w : World) : Calls Try.prog 22 #[.int .i64 s] w fun e w' => e = .returned (.bool (hasF s)) ∧ w = w' := by
  rw [hasF_is]
  go_enter Try.func22, Try.ntmps22
  go_wp2
  all_goals (
    go_ret
    refine ⟨finb ?_, rfl⟩
    simp_all
    try omega)
theorem hasI_calls (s : Int) (w : World) : Calls Try.prog 23 #[.int .i64 s] w fun e w' => e = .returned (.bool (hasI s)) ∧ w = w' := by
  rw [hasI_is]
  by_cases z1 : s = 6
  · subst z1
    go_enter Try.func23, Try.ntmps23
    go_wp2
    go_ret
    exact ⟨rfl, rfl⟩
  · have g1 : (s == 6) = false := by simpa using z1
    rw [decide_eq_false z1, Bool.false_or]
    by_cases z2 : s = 7
    · subst z2
      go_enter Try.func23, Try.ntmps23
      go_wp2
      go_ret
      exact ⟨rfl, rfl⟩
    · have g2 : (s == 7) = false := by simpa using z2
      rw [decide_eq_false z2]
      clear z1 z2
      go_enter Try.func23, Try.ntmps23
      go_wp2
      go_ret
      exact ⟨rfl, rfl⟩
theorem hasH_is (s : Int) : hasH s = decide (s = 2) := by simp [hasH]
theorem hasP_is (s : Int) : hasP s = decide (s = 4) := by simp [hasP]
theorem hasB_is (s : Int) : hasB s = decide (s = 7) := by simp [hasB]
theorem nameE (s : ByteArray) : s.toList.isEmpty = decide (s.size = 0) := by
  rw [← toList_len]
  cases s.toList <;> simp
theorem isEd {α : Type} (l : List α) : l.isEmpty = decide (l.length = 0) := by cases l <;> simp
/-- All but the lists is right. -/
def pre (n : Nt) : Prop := ¬ (n.say < 1 ∨ 7 < n.say ∨ bareF (hasF n.say) (hasI n.say) (hasH n.say) (hasP n.say) (hasB n.say) n = false) ∧ ¬ (64 < n.held.length ∨ 256 < n.parts.length ∨ 512 < n.bytes.length) ∧ ¬ (hasF n.say = true ∧ ¬ fileOk n.name n.gen) ∧ ¬ n.i < 0 ∧ ¬ 255 < n.i ∧ ¬ (hasB n.say = true ∧ n.bytes = [])
theorem check_tail {n : Nt} (h : pre n) : checkF n = if n.held.any badH = true ∨ n.parts.any badP = true then 2 else 0 := by
  obtain ⟨h1, h2, h3, h4, h5, h6⟩ := h
  unfold checkF
  rw [if_neg h1, if_neg h2]
  by_cases h7 : n.held.any badH = true ∨ n.parts.any badP = true
  · rw [if_pos (.inr (.inr (.inr (.inr h7)))), if_pos h7]
  · rw [if_neg (by rintro (h | h | h | h | h); exact h3 h; exact h4 h; exact h5 h; exact h6 h; exact h7 h), if_neg h7]
theorem any_no {α : Type} [Inhabited α] {p : α → Bool} {l : List α} (h : ∀ j, j < l.length → p (l.getD j default) = false) : l.any p = false := by
  rw [List.any_eq_false]
  intro x hx
  obtain ⟨j, hj, rfl⟩ := List.getElem_of_mem hx
  have := h j hj
  simp only [List.getD_eq_getElem?_getD, List.getElem?_eq_getElem hj, Option.getD_some] at this
  simp [this]
theorem any_yes {α : Type} [Inhabited α] {p : α → Bool} {l : List α} {j : Nat} (hj : j < l.length) (h : p (l.getD j default) = true) : l.any p = true := by
  rw [List.any_eq_true]
  exact ⟨l[j], List.getElem_mem hj, by simpa [hj] using h⟩
set_option maxHeartbeats 8000000 in
set_option maxRecDepth 100000 in
theorem rcheck_calls (n : Nt) (a : Ads) (w : World) (h : NtC w n a) (hs : n.held.length ≤ 9223372036854775807) (hsp : n.parts.length ≤ 9223372036854775807) : Calls Try.prog 9 #[.agg (noteV n a)] w fun e w' => e = .returned (.int .i64 (checkF n)) ∧ Below w.heap.size w w' := by
  have hblk := heap_alloc_new w (.cells (noteV n a) 27)
  have HG := Aside0.mk hblk
  have HB := Aside0.mk (below_alloc (Below.refl w.heap.size w) (.cells (noteV n a) 27))
  have H := Aside0.mk h
  have HF := Aside0.mk (hasFile_calls n.say)
  have HI := Aside0.mk (hasI_calls n.say)
  have HFI := Aside0.mk (rfile_calls n.name h.nm n.gen)
  obtain ⟨c0, c1, c2, c3, c4, c5, c6⟩ := note_cells hblk
  clear h hblk
  generalize hw1 : w.alloc (.cells (noteV n a) 27) = w1 at *
  have hw1' : w.alloc (.cells #[.int .i64 n.say, .string n.name, .int .i64 n.gen, .int .i64 n.i, .slice a.ah n.held.length a.ch, .slice a.ap n.parts.length a.cp, .slice a.ab n.bytes.length a.cb] 27) = w1 := hw1
  clear hw1
  obtain ⟨m0, hm0⟩ : ∃ m, m = n.name.size := ⟨_, rfl⟩
  obtain ⟨m1, hm1⟩ : ∃ m, m = n.held.length := ⟨_, rfl⟩
  obtain ⟨m2, hm2⟩ : ∃ m, m = n.parts.length := ⟨_, rfl⟩
  obtain ⟨m3, hm3⟩ : ∃ m, m = n.bytes.length := ⟨_, rfl⟩
  have HM := Aside0.mk (And.intro hm0 (And.intro hm1 (And.intro hm2 hm3)))
  have hv : #[Value.agg (noteV n a)] = #[Value.agg #[.int .i64 n.say, .string n.name, .int .i64 n.gen, .int .i64 n.i, .slice a.ah m1 a.ch, .slice a.ap m2 a.cp, .slice a.ab m3 a.cb]] := by rw [hm1, hm2, hm3]; rfl
  rw [hv]
  rw [← hm1, ← hm2, ← hm3] at hw1'
  rw [← hm1] at c4
  rw [← hm2] at c5
  rw [← hm3] at c6
  have hsz : (n.name.size : Int) = (m0 : Int) := by rw [hm0]
  clear hv hm0 hm1 hm2 hm3
  by_cases z1 : n.say < 1
  · have g1 : decide (n.say < 1) = true := decide_eq_true z1
    have HE := Aside0.mk (show checkF n = 4 by unfold checkF; rw [if_pos (.inl z1)])
    clear z1
    go_enter Try.func9, Try.ntmps9
    go_wp2
    go_ret
    exact ⟨by rw [HE.out]; rfl, HB.out⟩
  by_cases z2 : 7 < n.say
  · have g1 : decide (n.say < 1) = false := decide_eq_false z1
    have g2 : decide (7 < n.say) = true := decide_eq_true z2
    have HE := Aside0.mk (show checkF n = 4 by unfold checkF; rw [if_pos (.inr (.inl z2))])
    clear z1 z2
    go_enter Try.func9, Try.ntmps9
    go_wp2
    go_ret
    exact ⟨by rw [HE.out]; rfl, HB.out⟩
  have hsay : n.say = 1 ∨ n.say = 2 ∨ n.say = 3 ∨ n.say = 4 ∨ n.say = 5 ∨ n.say = 6 ∨ n.say = 7 := by omega
  have HS := Aside0.mk hsay
  clear z1 z2
  obtain ⟨sy, hsy⟩ : ∃ sy, sy = n.say := ⟨_, rfl⟩
  rw [← hsy] at hsay c0 hw1' HF HI ⊢
  have HSY := Aside0.mk hsy
  clear hsy
  rcases hsay with rfl | rfl | rfl | rfl | rfl | rfl | rfl
--DBG
  case' inl =>
    rw [show hasF 1 = false from rfl] at HF
    rw [show hasI 1 = false from rfl] at HI
  case' inr.inl =>
    rw [show hasF 2 = false from rfl] at HF
    rw [show hasI 2 = false from rfl] at HI
  case' inr.inr.inl =>
    rw [show hasF 3 = true from rfl] at HF
    rw [show hasI 3 = false from rfl] at HI
  case' inr.inr.inr.inl =>
    rw [show hasF 4 = true from rfl] at HF
    rw [show hasI 4 = false from rfl] at HI
  case' inr.inr.inr.inr.inl =>
    rw [show hasF 5 = true from rfl] at HF
    rw [show hasI 5 = false from rfl] at HI
  case' inr.inr.inr.inr.inr.inl =>
    rw [show hasF 6 = true from rfl] at HF
    rw [show hasI 6 = true from rfl] at HI
  case' inr.inr.inr.inr.inr.inr =>
    rw [show hasF 7 = true from rfl] at HF
    rw [show hasI 7 = true from rfl] at HI
  all_goals (
    go_enter Try.func9, Try.ntmps9
    go_wp2_with (first
      | (go_at_call 22; (with_reducible refine (HF.out _).mono ?_); rintro e w' ⟨rfl, rfl⟩)
      | (go_at_call 23; (with_reducible refine (HI.out _).mono ?_); rintro e w' ⟨rfl, rfl⟩)
      | (go_at_call 24; (with_reducible refine (HFI.out _).mono ?_); rintro e w' ⟨rfl, rfl⟩)))
  all_goals (first
    | (go_ret
       refine ⟨fin ?_, HB.out⟩
       obtain ⟨hm0, hm1, hm2, hm3⟩ := HM.out
       have hsy := HSY.out
       clear HG HB H HF HI HFI HM HSY HS c0 c1 c2 c3 c4 c5 c6 hw1'
       simp only [checkF, bareF, isEd, toList_len, ← List.length_eq_zero_iff, ← hm0, ← hm1, ← hm2, ← hm3, ← hsy]
       clear hm0 hm1 hm2 hm3 hsy hsz hs hsp
       simp_all [hasF, hasI, hasH, hasP, hasB, Nat.pos_iff_ne_zero, Int.natCast_eq_zero]
       try omega
       done)
    | skip)
  all_goals (
    have HPRE : Aside0 (pre n) := ⟨by
      obtain ⟨hm0, hm1, hm2, hm3⟩ := HM.out
      have hsy := HSY.out
      clear HG HB H HF HI HFI HM HSY HS c0 c1 c2 c3 c4 c5 c6 hw1'
      simp only [pre, bareF, isEd, toList_len, ← List.length_eq_zero_iff, ← hm0, ← hm1, ← hm2, ← hm3, ← hsy]
      clear hm0 hm1 hm2 hm3 hsy hsz hs hsp
      simp_all [hasF, hasI, hasH, hasP, hasB, Nat.pos_iff_ne_zero, Int.natCast_eq_zero]
      try omega
      done⟩)
  all_goals (
    have HKM := Aside0.mk hsz
    go_loopg [4] (m1 + 1) (fun gk v4 wr => ∃ i : Nat, v4 = .int .i64 i ∧ i ≤ m1 ∧ Aside0 (gk = m1 - i + 1) ∧ Aside0 (∀ j, j < i → badH (n.held.getD j default) = false) ∧ Aside0 (wr.heap[w.heap.size]? = some (.cells (noteV n a) 27 (0, 0))) ∧ Aside0 (Below w.heap.size w wr))
    case atStart => exact ⟨0, rfl, Nat.zero_le _, ⟨rfl⟩, ⟨fun j hj => by omega⟩, HG, HB⟩)
  all_goals (
    clear c0 c1 c2 c3 c4 c5 c6
    obtain ⟨i, rfl, hi, HK, HA, HGr, HBr⟩ := hrel
    obtain ⟨c0, c1, c2, c3, c4, c5, c6⟩ := note_cells HGr.out
    rw [← HM.out.2.1] at c4
    rw [← HM.out.2.2.1] at c5
    have hml : m1 ≤ 9223372036854775807 := by rw [HM.out.2.1]; exact hs
    by_cases hlt : i < m1
    case pos =>
     first
     | (exfalso; omega)
     | (
      have h1 : decide ((i : Int) < (m1 : Int)) = true := by simp; omega
      have hp1 : (0 : Int) ≤ (i : Int) := by omega
      have hp2 : (i : Int) < (m1 : Int) := by omega
      have hli : i < n.held.length := by rw [← HM.out.2.1]; exact hlt
      obtain ⟨ad, had, hok, b0, b1⟩ := hl_at (Kd.C_below H.out.h HBr.out) i hli
      rw [had] at c4
      have HY := Aside0.mk (show badH (n.held.getD i default) = true → checkF n = 2 from fun h => by rw [check_tail HPRE.out, if_pos (.inl (any_yes hli h))])
      have HX : Aside0 (badH (n.held.getD i default) = false → ∀ j, j < i + 1 → badH (n.held.getD j default) = false) := ⟨fun h j hj => by
        by_cases e : j < i
        · exact HA.out j e
        · rw [show j = i by omega]; exact h⟩
      generalize n.held.getD i default = k at *
      have HRF := Aside0.mk (rfile_calls k.name hok.n k.gen)
      have HLT := Aside0.mk hlt
      clear hok had hli hlt HA
      obtain ⟨knm, kgen⟩ := k
      simp only [badH] at HY HX HRF b0 b1
      cases hb : decide (fileOk knm kgen) with
      | true =>
        rw [hb] at HX HRF
        have HXX := Aside0.mk (HX.out rfl)
        clear hb HX HY
        go_wp2_with fail
        go_quiet ((go_at_call 24; exact Calls.quiet_of_same ((HRF.out _).mono fun _ _ h => ⟨h.1, h.2.symm⟩)))
        go_wp2_with fail
        have hlt := HLT.out
        go_roundg (m1 - (i + 1) + 1)
        case measure => have := HK.out; omega
        case rel => exact ⟨i + 1, by go_num, by omega, ⟨rfl⟩, HXX, HGr, ⟨pw_below_drewN HBr.out _⟩⟩
      | false =>
        rw [hb] at HY HRF
        have HYY := Aside0.mk (HY.out rfl)
        clear hb HX HY
        go_wp2_with fail
        go_quiet ((go_at_call 24; exact Calls.quiet_of_same ((HRF.out _).mono fun _ _ h => ⟨h.1, h.2.symm⟩)))
        go_wp2_with fail
        go_ret
        exact ⟨by rw [HYY.out]; rfl, pw_below_drewN HBr.out _⟩)
    case neg =>
      obtain rfl : i = m1 := by omega
      have h1 : decide ((i : Int) < (i : Int)) = false := by simp
      have HAH : Aside0 (n.held.any badH = false) := ⟨any_no (fun j hj => HA.out j (by rw [HM.out.2.1]; exact hj))⟩
      clear HA hlt
      go_wp2_with fail
      clear c0 c1 c2 c3 c4 c5 c6
      go_loopg [5] (m2 + 1) (fun gk v5 wr => ∃ i : Nat, v5 = .int .i64 i ∧ i ≤ m2 ∧ Aside0 (gk = m2 - i + 1) ∧ Aside0 (∀ j, j < i → badP (n.parts.getD j default) = false) ∧ Aside0 (wr.heap[w.heap.size]? = some (.cells (noteV n a) 27 (0, 0))) ∧ Aside0 (Below w.heap.size w wr))
      case atStart => exact ⟨0, rfl, Nat.zero_le _, ⟨rfl⟩, ⟨fun j hj => by omega⟩, HGr, HBr⟩
      case round =>
        clear HGr HBr HK
        obtain ⟨q, rfl, hq, HK, HA, HGr, HBr⟩ := hrel
        obtain ⟨c0, c1, c2, c3, c4, c5, c6⟩ := note_cells HGr.out
        rw [← HM.out.2.1] at c4
        rw [← HM.out.2.2.1] at c5
        have hml2 : m2 ≤ 9223372036854775807 := by rw [HM.out.2.2.1]; exact hsp
        by_cases hlt : q < m2
        case pos =>
         first
         | (exfalso; omega)
         | (
          have h2 : decide ((q : Int) < (m2 : Int)) = true := by simp; omega
          have hp1 : (0 : Int) ≤ (q : Int) := by omega
          have hp2 : (q : Int) < (m2 : Int) := by omega
          have hli : q < n.parts.length := by rw [← HM.out.2.2.1]; exact hlt
          obtain ⟨ad, had, hok, hra⟩ := pt_at (Kd.C_below H.out.p HBr.out) q hli
          have b1 := part_len hok hra
          rw [had] at c5
          have HY := Aside0.mk (show badP (n.parts.getD q default) = true → checkF n = 2 from fun h => by rw [check_tail HPRE.out, if_pos (.inr (any_yes hli h))])
          have HX : Aside0 (badP (n.parts.getD q default) = false → ∀ j, j < q + 1 → badP (n.parts.getD j default) = false) := ⟨fun h j hj => by
            by_cases e : j < q
            · exact HA.out j e
            · rw [show j = q by omega]; exact h⟩
          generalize n.parts.getD q default = k at *
          have HLT := Aside0.mk hlt
          clear hok had hli hlt HA hra
          obtain ⟨ks, kl⟩ := k
          simp only [badP] at HY HX b1
          by_cases y1 : kl < 1
          · have g1 : decide (kl < 1) = true := decide_eq_true y1
            have HYY := Aside0.mk (HY.out (by rw [decide_eq_false (by omega)]; rfl))
            clear y1 HX HY
            go_wp2_with fail
            go_ret
            exact ⟨by rw [HYY.out]; rfl, HBr.out⟩
          · have g1 : decide (kl < 1) = false := decide_eq_false y1
            by_cases y2 : 512 < kl
            · have g2 : decide (512 < kl) = true := decide_eq_true y2
              have HYY := Aside0.mk (HY.out (by rw [decide_eq_false (by omega)]; rfl))
              clear y1 y2 HX HY
              go_wp2_with fail
              go_ret
              exact ⟨by rw [HYY.out]; rfl, HBr.out⟩
            · have g2 : decide (512 < kl) = false := decide_eq_false y2
              have HXX := Aside0.mk (HX.out (by rw [decide_eq_true (by omega)]; rfl))
              clear y1 y2 HX HY
              go_wp2_with fail
              have hlt := HLT.out
              go_roundg (m2 - (q + 1) + 1)
              case measure => have := HK.out; omega
              case rel => exact ⟨q + 1, by go_num, by omega, ⟨rfl⟩, HXX, HGr, HBr⟩)
        case neg =>
          obtain rfl : q = m2 := by omega
          have h2 : decide ((q : Int) < (q : Int)) = false := by simp
          have HAP : Aside0 (n.parts.any badP = false) := ⟨any_no (fun j hj => HA.out j (by rw [HM.out.2.2.1]; exact hj))⟩
          have HE := Aside0.mk (show checkF n = 0 by rw [check_tail HPRE.out, if_neg (by rw [HAH.out, HAP.out]; simp)])
          clear HA hlt
          go_wp2_with fail
          go_ret
          exact ⟨by rw [HE.out]; rfl, HBr.out⟩)
end Go.Proofs.Ytbncmffifbcbjaa.WiG
