/- The finder's long, walked: how many bytes are the same from two places on; condition: the finder's bytes read as bytes. -/
import Derived.Test.YtlmcompoalhpnaaSqN
namespace Go.Proofs.Ytlmcompoalhpnaa.SqK
open Go Go.RowKit Go.Proofs.YtlmcompoalhpnaaW.PrintWords Go.Proofs.Ytlmcompoalhpnaa.K Go.Proofs.Ytlmcompoalhpnaa.OctS Go.Proofs.Ytlmcompoalhpnaa.OctP Go.Proofs.Ytlmcompoalhpnaa.Oct Go.Proofs.Ytlmcompoalhpnaa.Ap Go.Proofs.Ytlmcompoalhpnaa.SqA Go.Proofs.Ytlmcompoalhpnaa.SqC
set_option linter.unusedVariables false
set_option linter.unusedSimpArgs false
/-- The finder's block: its bytes, and its map. -/
def fd (A : Option Addr) (n c m : Nat) : Obj := .cells #[.slice A n c, .map (some m)] 49 (0, 0)
theorem fd_cell {w : World} {f : Nat} {A : Option Addr} {n c m : Nat} (h : w.heap[f]? = some (fd A n c m)) : w.cell? ⟨f, 0, none⟩ = some (.slice A n c) := obj_cell h 0 rfl
theorem fd_map {w : World} {f : Nat} {A : Option Addr} {n c m : Nat} (h : w.heap[f]? = some (fd A n c m)) : w.cell? ⟨f, 1, none⟩ = some (.map (some m)) := obj_cell h 1 rfl
set_option maxHeartbeats 4000000 in
set_option maxRecDepth 20000 in
theorem long_calls (f m c : Nat) (A : Option Addr) (p : List Int) (i d : Nat) (w : World) (hF : w.heap[f]? = some (fd A p.length c m)) (hC : (Kd.int .u8).C w A p.length p) (hm : p.length ≤ 8192) (hi : i ≤ p.length) (hd : d ≤ i) :
    Calls Try.prog 26 #[.pointer (some ⟨f, 0, none⟩), .int .i64 ((i - d : Nat) : Int), .int .i64 (i : Int)] w fun e w' => e = .returned (.int .i64 (lenD p i d : Int)) ∧ Below w.heap.size w w' := by
  have HC := Aside0.mk hC
  have HF := Aside0.mk hF
  have hfl := (Array.getElem?_eq_some_iff.1 hF).1
  obtain ⟨fr, hfr⟩ : ∃ fr, fr = i - d := ⟨_, rfl⟩
  have HFR := Aside0.mk hfr
  rw [← hfr]
  have hfr2 : fr + d = i := by omega
  have HFD := Aside0.mk hfr2
  have hfrb : fr ≤ 8192 := by omega
  clear hC hF hfr hfr2 hd
  go_enter Try.func26, Try.ntmps26
  go_wp2_with fail
  go_loopg [7] (132) (fun gj v7 wq => ∃ n : Nat, v7 = .int .i64 (n : Int) ∧ n ≤ 131 ∧ i + n ≤ p.length ∧ Aside0 (gj = 131 - n + 1) ∧ Aside0 (cnt p i d (131 - n) n = lenD p i d) ∧ Aside0 (Below w.heap.size w wq))
  case atStart => exact ⟨0, rfl, by omega, by omega, ⟨rfl⟩, ⟨rfl⟩, ⟨Below.refl _ _⟩⟩
  case round =>
    obtain ⟨n, rfl, hn, hin, HGJ, HCT, HBq⟩ := hrel
    have hp0 := fd_cell ((HBq.out.block f hfl).trans HF.out)
    have HEND : Aside0 (¬ (n < 131 ∧ i + n < p.length ∧ p.getD (i + n) 0 = p.getD (i + n - d) 0) → n = lenD p i d) := ⟨fun h => by
      rw [← HCT.out]
      obtain h131 | ⟨m, hm⟩ : n = 131 ∨ ∃ m, 131 - n = m + 1 := by
        by_cases h : n = 131
        · exact .inl h
        · exact .inr ⟨130 - n, by omega⟩
      · subst h131; rfl
      · rw [hm]
        unfold cnt
        rw [if_neg (fun h2 => h ⟨by omega, h2.1, h2.2⟩)]⟩
    have HBD := Aside0.mk (fun (k : Nat) => pw_below_drewN HBq.out k)
    by_cases h131 : n < 131
    · have d1 : decide ((n : Int) < 131) = true := by simp only [decide_eq_true_eq]; omega
      have d1' : decide (n < 131) = true := decide_eq_true h131
      obtain ⟨s, hs⟩ : ∃ s, s = i + n := ⟨_, rfl⟩
      have hws : IntKind.i64.wrap ((i : Int) + (n : Int)) = (s : Int) := by rw [IntWalk.i64_in _ (by omega)]; omega
      by_cases hsl : s < p.length
      · have d2 : decide ((s : Int) < (p.length : Int)) = true := by simp only [decide_eq_true_eq]; omega
        have d2' : decide (s < p.length) = true := decide_eq_true hsl
        obtain ⟨q, hq⟩ : ∃ q, q = s - d := ⟨_, rfl⟩
        have hq2 : q = fr + n := by have := HFD.out; omega
        have hwq : IntKind.i64.wrap ((fr : Int) + (n : Int)) = (q : Int) := by rw [IntWalk.i64_in _ (by omega)]; omega
        obtain ⟨ad, rfl, hc1⟩ := Kd.at_int (Kd.C_below HC.out HBq.out) (s : Int) (by omega) (by omega)
        obtain ⟨ad', had, hc2⟩ := Kd.at_int (Kd.C_below HC.out HBq.out) (q : Int) (by omega) (by omega)
        obtain rfl : ad = ad' := by injection had
        rw [Int.toNat_natCast] at hc1 hc2
        have r1' : rd p (s : Int) = p.getD s 0 := rfl
        have r2' : rd p (q : Int) = p.getD q 0 := rfl
        rw [r1'] at hc1
        rw [r2'] at hc2
        have hi1 : (0 : Int) ≤ (s : Int) := by omega
        have hi2 : (s : Int) < (p.length : Int) := by omega
        have hi3 : (0 : Int) ≤ (q : Int) := by omega
        have hi4 : (q : Int) < (p.length : Int) := by omega
        by_cases he : p.getD s 0 = p.getD q 0
        · have HNX : Aside0 (cnt p i d (131 - (n + 1)) (n + 1) = lenD p i d) := ⟨by
            rw [← HCT.out, show 131 - n = (131 - (n + 1)) + 1 by omega]
            conv => rhs; unfold cnt
            rw [if_pos ⟨by omega, by rw [← hs, ← hq]; exact he⟩]⟩
          have e1 : (p.getD q 0 == p.getD s 0) = true := by simpa using he.symm
          have HSI : Aside0 (s = i + n ∧ n < 131 ∧ s < p.length) := ⟨hs, h131, hsl⟩
          rw [← he] at hc2
          clear r1' r2' hs hq had e1 hsl h131 hq2
          generalize p.getD s 0 = ch at *
          go_wp2_with fail
          go_quiet (fail)
          go_wp2
          go_roundg (131 - (n + 1) + 1)
          case measure => have := HGJ.out; have := HSI.out; omega
          case rel => exact ⟨n + 1, by go_num, by have := HSI.out; omega, by have := HSI.out; omega, ⟨rfl⟩, HNX, ⟨HBD.out _⟩⟩
        · have HL : Aside0 (n = lenD p i d) := ⟨HEND.out (fun h => he (by rw [hs, hq, hs]; exact h.2.2))⟩
          have e1 : (p.getD q 0 == p.getD s 0) = false := by simpa using (fun h => he (Eq.symm h))
          clear r1' r2' hs hq had hsl h131 he hq2
          generalize p.getD s 0 = ch1 at *
          generalize p.getD q 0 = ch2 at *
          go_wp2_with fail
          go_quiet (fail)
          go_wp2
          go_ret
          exact ⟨by rw [← HL.out]; rfl, HBD.out _⟩
      · have d2 : decide ((s : Int) < (p.length : Int)) = false := by simp only [decide_eq_false_iff_not]; omega
        have d2' : decide (s < p.length) = false := decide_eq_false hsl
        have HL : Aside0 (n = lenD p i d) := ⟨HEND.out (fun h => by omega)⟩
        clear hs hsl h131
        go_wp2_with fail
        go_quiet (fail)
        go_wp2
        go_ret
        exact ⟨by rw [← HL.out]; rfl, HBD.out _⟩
    · obtain rfl : n = 131 := by omega
      have HL : Aside0 (131 = lenD p i d) := ⟨HEND.out (fun h => by omega)⟩
      clear h131
      go_wp2_with fail
      go_quiet (fail)
      go_wp2
      go_ret
      exact ⟨by rw [← HL.out]; rfl, HBD.out _⟩
end Go.Proofs.Ytlmcompoalhpnaa.SqK
