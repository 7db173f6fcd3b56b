/- What the reference's match of squeeze computes: the longest match at a place; condition: the bytes read as bytes. -/
import Derived.Test.YtlmcompoalhpnaaSqA
namespace Go.Proofs.Ytlmcompoalhpnaa.SqC
open Go Go.RowKit Go.Proofs.YtlmcompoalhpnaaW.PrintWords Go.Proofs.Ytlmcompoalhpnaa.K Go.Proofs.Ytlmcompoalhpnaa.OctS Go.Proofs.Ytlmcompoalhpnaa.OctP Go.Proofs.Ytlmcompoalhpnaa.Oct Go.Proofs.Ytlmcompoalhpnaa.Ap Go.Proofs.Ytlmcompoalhpnaa.SqA
set_option linter.unusedVariables false
set_option linter.unusedSimpArgs false
/-- How many bytes from i on are as those d ahead; from the n-th on, at most f more. -/
def cnt (p : List Int) (i d : Nat) : Nat → Nat → Nat
  | 0, n => n
  | f + 1, n => if i + n < p.length ∧ p.getD (i + n) 0 = p.getD (i + n - d) 0 then cnt p i d f (n + 1) else n
def lenD (p : List Int) (i d : Nat) : Nat := cnt p i d 131 0
def bestD (p : List Int) (i d : Nat) (r : Nat × Nat) : Nat × Nat := if 4 ≤ lenD p i d ∧ r.1 < lenD p i d then (lenD p i d, d) else r
/-- The best of the distances from d on, f of them. -/
def scanD (p : List Int) (i : Nat) : Nat → Nat → Nat × Nat → Nat × Nat
  | 0, _, r => r
  | f + 1, d, r => scanD p i f (d + 1) (bestD p i d r)
def matchR (p : List Int) (i : Nat) : Nat × Nat := scanD p i (min i 4096) 1 (0, 0)
theorem cnt_le (p : List Int) (i d : Nat) : ∀ (f n : Nat), cnt p i d f n ≤ n + f
  | 0, n => Nat.le_refl _
  | f + 1, n => by
    unfold cnt
    split
    · have := cnt_le p i d f (n + 1); omega
    · omega
theorem lenD_le (p : List Int) (i d : Nat) : lenD p i d ≤ 131 := by have := cnt_le p i d 131 0; unfold lenD; omega
theorem scan_le (p : List Int) (i : Nat) : ∀ (f d : Nat) (r : Nat × Nat), r.1 ≤ 131 → (scanD p i f d r).1 ≤ 131
  | 0, _, _, h => h
  | f + 1, d, r, h => scan_le p i f (d + 1) _ (by
    unfold bestD
    split
    · exact lenD_le p i d
    · exact h)
set_option maxHeartbeats 4000000 in
set_option maxRecDepth 20000 in
theorem rmatch_calls (A : Option Addr) (c : Nat) (p : List Int) (i : Nat) (w : World) (hC : (Kd.int .u8).C w A p.length p) (hc : p.length ≤ c) (hm : p.length ≤ 140737488351232) (hi : i ≤ p.length) :
    Calls Try.prog 16 #[.slice A p.length c, .int .i64 (i : Int)] w fun e w' => e = .returned (.tuple #[.int .i64 ((matchR p i).1 : Int), .int .i64 ((matchR p i).2 : Int)]) ∧ Below w.heap.size w w' := by
  have HC := Aside0.mk hC
  clear hC
  go_enter Try.func16, Try.ntmps16
  go_wp2_with fail
  go_loopg [6, 7, 8] (min i 4096 + 1) (fun gk v6 v7 v8 wr => ∃ (d f : Nat) (r : Nat × Nat), v6 = .int .i64 (r.1 : Int) ∧ v7 = .int .i64 (r.2 : Int) ∧ v8 = .int .i64 (d : Int) ∧ 1 ≤ d ∧ d + f = min i 4096 + 1 ∧ Aside0 (gk = f + 1) ∧ Aside0 (scanD p i f d r = matchR p i) ∧ r.1 ≤ 131 ∧ Aside0 (Below w.heap.size w wr))
  case atStart => exact ⟨1, min i 4096, (0, 0), rfl, rfl, rfl, Nat.le_refl _, by omega, ⟨rfl⟩, ⟨rfl⟩, by omega, ⟨Below.refl _ _⟩⟩
  case round =>
    obtain ⟨d, f, ⟨r1, r2⟩, rfl, rfl, rfl, hd1, hdf, HGK, HSC, hr1, HBr⟩ := hrel
    simp only at hr1
    cases f with
    | zero =>
      have HF : Aside0 (matchR p i = (r1, r2)) := ⟨HSC.out.symm⟩
      by_cases hdi : d ≤ i
      · have d1 : decide ((d : Int) ≤ (i : Int)) = true := by simp only [decide_eq_true_eq]; omega
        have d2 : decide ((d : Int) ≤ 4096) = false := by simp only [decide_eq_false_iff_not]; omega
        have d3 : decide (d ≤ i) = true := decide_eq_true hdi
        have d4 : decide (d ≤ 4096) = false := decide_eq_false (by omega)
        clear hdi hdf hd1
        go_wp2_with fail
        go_ret2
        exact ⟨by rw [HF.out]; rfl, HBr.out⟩
      · have d1 : decide ((d : Int) ≤ (i : Int)) = false := by simp only [decide_eq_false_iff_not]; omega
        have d3 : decide (d ≤ i) = false := decide_eq_false hdi
        clear hdi hdf hd1
        go_wp2_with fail
        go_ret2
        exact ⟨by rw [HF.out]; rfl, HBr.out⟩
    | succ f =>
      have d1 : decide ((d : Int) ≤ (i : Int)) = true := by simp only [decide_eq_true_eq]; omega
      have d2 : decide ((d : Int) ≤ 4096) = true := by simp only [decide_eq_true_eq]; omega
      have d3 : decide (d ≤ i) = true := decide_eq_true (by omega)
      have d4 : decide (d ≤ 4096) = true := decide_eq_true (by omega)
      go_wp2_with fail
      clear d1 d2 d3 d4
      go_loopg [9] (132) (fun gj v9 wq => ∃ n : Nat, v9 = .int .i64 (n : Int) ∧ n ≤ 131 ∧ i + n ≤ p.length ∧ Aside0 (gj = 131 - n + 1) ∧ Aside0 (cnt p i d (131 - n) n = lenD p i d) ∧ Aside0 (Below w.heap.size w wq))
      case atStart => exact ⟨0, rfl, by omega, by omega, ⟨rfl⟩, ⟨rfl⟩, HBr⟩
      case round =>
        obtain ⟨n, rfl, hn, hin, HGJ, HCT, HBq⟩ := hrel
        have HEND : Aside0 (¬ (n < 131 ∧ i + n < p.length ∧ p.getD (i + n) 0 = p.getD (i + n - d) 0) → n = lenD p i d) := ⟨fun h => by
          rw [← HCT.out]
          obtain h131 | ⟨m, hm⟩ : n = 131 ∨ ∃ m, 131 - n = m + 1 := by
            by_cases h : n = 131
            · exact .inl h
            · exact .inr ⟨130 - n, by omega⟩
          · subst h131; rfl
          · rw [hm]
            unfold cnt
            rw [if_neg (fun h2 => h ⟨by omega, h2.1, h2.2⟩)]⟩
        have HBD := Aside0.mk (fun (k : Nat) => pw_below_drewN HBq.out k)
        by_cases h131 : n < 131
        · have d1 : decide ((n : Int) < 131) = true := by simp only [decide_eq_true_eq]; omega
          have d1' : decide (n < 131) = true := decide_eq_true h131
          obtain ⟨s, hs⟩ : ∃ s, s = i + n := ⟨_, rfl⟩
          have hws : IntKind.i64.wrap ((i : Int) + (n : Int)) = (s : Int) := by rw [IntWalk.i64_in _ (by omega)]; omega
          by_cases hsl : s < p.length
          · have d2 : decide ((s : Int) < (p.length : Int)) = true := by simp only [decide_eq_true_eq]; omega
            have d2' : decide (s < p.length) = true := decide_eq_true hsl
            obtain ⟨q, hq⟩ : ∃ q, q = s - d := ⟨_, rfl⟩
            have hwq : IntKind.i64.wrap ((s : Int) - (d : Int)) = (q : Int) := by rw [IntWalk.i64_in _ (by omega)]; omega
            obtain ⟨ad, rfl, hc1⟩ := Kd.at_int (Kd.C_below HC.out HBq.out) (s : Int) (by omega) (by omega)
            obtain ⟨ad', had, hc2⟩ := Kd.at_int (Kd.C_below HC.out HBq.out) (q : Int) (by omega) (by omega)
            obtain rfl : ad = ad' := by injection had
            rw [Int.toNat_natCast] at hc1 hc2
            have r1' : rd p (s : Int) = p.getD s 0 := rfl
            have r2' : rd p (q : Int) = p.getD q 0 := rfl
            rw [r1'] at hc1
            rw [r2'] at hc2
            have hi1 : (0 : Int) ≤ (s : Int) := by omega
            have hi2 : (s : Int) < (p.length : Int) := by omega
            have hi3 : (0 : Int) ≤ (q : Int) := by omega
            have hi4 : (q : Int) < (p.length : Int) := by omega
            by_cases he : p.getD s 0 = p.getD q 0
            · have HNX : Aside0 (cnt p i d (131 - (n + 1)) (n + 1) = lenD p i d) := ⟨by
                rw [← HCT.out, show 131 - n = (131 - (n + 1)) + 1 by omega]
                conv => rhs; unfold cnt
                rw [if_pos ⟨by omega, by rw [← hs, ← hq]; exact he⟩]⟩
              have e1 : (p.getD s 0 == p.getD q 0) = true := by simpa using he
              have HSI : Aside0 (s = i + n ∧ n < 131 ∧ s < p.length) := ⟨hs, h131, hsl⟩
              rw [← he] at hc2
              clear r1' r2' hs hq had e1 hsl h131
              generalize p.getD s 0 = ch at *
              go_wp2_with fail
              go_quiet (fail)
              go_wp2
              go_roundg (131 - (n + 1) + 1)
              case measure => have := HGJ.out; have := HSI.out; omega
              case rel => exact ⟨n + 1, by go_num, by have := HSI.out; omega, by have := HSI.out; omega, ⟨rfl⟩, HNX, ⟨HBD.out _⟩⟩
            · have HL : Aside0 (n = lenD p i d) := ⟨HEND.out (fun h => he (by rw [hs, hq, hs]; exact h.2.2))⟩
              have e1 : (p.getD s 0 == p.getD q 0) = false := by simpa using he
              clear r1' r2' hs hq had hsl h131 he
              generalize p.getD s 0 = ch1 at *
              generalize p.getD q 0 = ch2 at *
              have HDF : Aside0 (d + 1 + f = min i 4096 + 1) := ⟨by omega⟩
              have hdb : d ≤ 4096 := by omega
              by_cases h4 : 4 ≤ n
              · have g1 : decide ((4 : Int) ≤ (n : Int)) = true := by simp only [decide_eq_true_eq]; omega
                have g1' : decide (4 ≤ n) = true := decide_eq_true h4
                by_cases hb : r1 < n
                · have HB1 : Aside0 (bestD p i d (r1, r2) = (n, d)) := ⟨by unfold bestD; rw [← HL.out, if_pos ⟨h4, hb⟩]⟩
                  have g2 : decide ((r1 : Int) < (n : Int)) = true := by simp only [decide_eq_true_eq]; omega
                  have g2' : decide (r1 < n) = true := decide_eq_true hb
                  clear h4 hb hdf
                  go_wp2_with fail
                  go_quiet (fail)
                  go_wp2
                  go_roundg (f + 1)
                  case measure => have := HGK.out; omega
                  case rel => exact ⟨d + 1, f, (n, d), rfl, rfl, by go_num, by omega, by have := HDF.out; omega, ⟨rfl⟩, ⟨by rw [← HB1.out]; exact HSC.out⟩, by first | exact hr1 | (simp only; omega), ⟨HBD.out _⟩⟩
                · have HB1 : Aside0 (bestD p i d (r1, r2) = (r1, r2)) := ⟨by unfold bestD; rw [← HL.out, if_neg (fun h => hb h.2)]⟩
                  have g2 : decide ((r1 : Int) < (n : Int)) = false := by simp only [decide_eq_false_iff_not]; omega
                  have g2' : decide (r1 < n) = false := decide_eq_false hb
                  clear h4 hb hdf
                  go_wp2_with fail
                  go_quiet (fail)
                  go_wp2
                  go_roundg (f + 1)
                  case measure => have := HGK.out; omega
                  case rel => exact ⟨d + 1, f, (r1, r2), rfl, rfl, by go_num, by omega, by have := HDF.out; omega, ⟨rfl⟩, ⟨by rw [← HB1.out]; exact HSC.out⟩, by first | exact hr1 | (simp only; omega), ⟨HBD.out _⟩⟩
              · have HB1 : Aside0 (bestD p i d (r1, r2) = (r1, r2)) := ⟨by unfold bestD; rw [← HL.out, if_neg (fun h => h4 h.1)]⟩
                have g1 : decide ((4 : Int) ≤ (n : Int)) = false := by simp only [decide_eq_false_iff_not]; omega
                have g1' : decide (4 ≤ n) = false := decide_eq_false h4
                clear h4 hdf
                go_wp2_with fail
                go_quiet (fail)
                go_wp2
                go_roundg (f + 1)
                case measure => have := HGK.out; omega
                case rel => exact ⟨d + 1, f, (r1, r2), rfl, rfl, by go_num, by omega, by have := HDF.out; omega, ⟨rfl⟩, ⟨by rw [← HB1.out]; exact HSC.out⟩, by first | exact hr1 | (simp only; omega), ⟨HBD.out _⟩⟩
          · have d2 : decide ((s : Int) < (p.length : Int)) = false := by simp only [decide_eq_false_iff_not]; omega
            have d2' : decide (s < p.length) = false := decide_eq_false hsl
            have HL : Aside0 (n = lenD p i d) := ⟨HEND.out (fun h => by omega)⟩
            clear hs hsl h131
            have HDF : Aside0 (d + 1 + f = min i 4096 + 1) := ⟨by omega⟩
            have hdb : d ≤ 4096 := by omega
            by_cases h4 : 4 ≤ n
            · have g1 : decide ((4 : Int) ≤ (n : Int)) = true := by simp only [decide_eq_true_eq]; omega
              have g1' : decide (4 ≤ n) = true := decide_eq_true h4
              by_cases hb : r1 < n
              · have HB1 : Aside0 (bestD p i d (r1, r2) = (n, d)) := ⟨by unfold bestD; rw [← HL.out, if_pos ⟨h4, hb⟩]⟩
                have g2 : decide ((r1 : Int) < (n : Int)) = true := by simp only [decide_eq_true_eq]; omega
                have g2' : decide (r1 < n) = true := decide_eq_true hb
                clear h4 hb hdf
                go_wp2_with fail
                go_quiet (fail)
                go_wp2
                go_roundg (f + 1)
                case measure => have := HGK.out; omega
                case rel => exact ⟨d + 1, f, (n, d), rfl, rfl, by go_num, by omega, by have := HDF.out; omega, ⟨rfl⟩, ⟨by rw [← HB1.out]; exact HSC.out⟩, by first | exact hr1 | (simp only; omega), ⟨HBD.out _⟩⟩
              · have HB1 : Aside0 (bestD p i d (r1, r2) = (r1, r2)) := ⟨by unfold bestD; rw [← HL.out, if_neg (fun h => hb h.2)]⟩
                have g2 : decide ((r1 : Int) < (n : Int)) = false := by simp only [decide_eq_false_iff_not]; omega
                have g2' : decide (r1 < n) = false := decide_eq_false hb
                clear h4 hb hdf
                go_wp2_with fail
                go_quiet (fail)
                go_wp2
                go_roundg (f + 1)
                case measure => have := HGK.out; omega
                case rel => exact ⟨d + 1, f, (r1, r2), rfl, rfl, by go_num, by omega, by have := HDF.out; omega, ⟨rfl⟩, ⟨by rw [← HB1.out]; exact HSC.out⟩, by first | exact hr1 | (simp only; omega), ⟨HBD.out _⟩⟩
            · have HB1 : Aside0 (bestD p i d (r1, r2) = (r1, r2)) := ⟨by unfold bestD; rw [← HL.out, if_neg (fun h => h4 h.1)]⟩
              have g1 : decide ((4 : Int) ≤ (n : Int)) = false := by simp only [decide_eq_false_iff_not]; omega
              have g1' : decide (4 ≤ n) = false := decide_eq_false h4
              clear h4 hdf
              go_wp2_with fail
              go_quiet (fail)
              go_wp2
              go_roundg (f + 1)
              case measure => have := HGK.out; omega
              case rel => exact ⟨d + 1, f, (r1, r2), rfl, rfl, by go_num, by omega, by have := HDF.out; omega, ⟨rfl⟩, ⟨by rw [← HB1.out]; exact HSC.out⟩, by first | exact hr1 | (simp only; omega), ⟨HBD.out _⟩⟩
        · obtain rfl : n = 131 := by omega
          have HL : Aside0 (131 = lenD p i d) := ⟨HEND.out (fun h => by omega)⟩
          have hb4 : (4 : Nat) ≤ 131 := by omega
          have HDF : Aside0 (d + 1 + f = min i 4096 + 1) := ⟨by omega⟩
          have hdb : d ≤ 4096 := by omega
          by_cases hb : r1 < 131
          · have HB1 : Aside0 (bestD p i d (r1, r2) = (131, d)) := ⟨by unfold bestD; rw [← HL.out, if_pos ⟨hb4, hb⟩]⟩
            have g2 : decide ((r1 : Int) < 131) = true := by simp only [decide_eq_true_eq]; omega
            have g2' : decide (r1 < 131) = true := decide_eq_true hb
            clear hb hdf hb4 h131
            go_wp2_with fail
            go_quiet (fail)
            go_wp2
            go_roundg (f + 1)
            case measure => have := HGK.out; omega
            case rel => exact ⟨d + 1, f, (131, d), rfl, rfl, by go_num, by omega, by have := HDF.out; omega, ⟨rfl⟩, ⟨by rw [← HB1.out]; exact HSC.out⟩, by simp, ⟨HBD.out _⟩⟩
          · have HB1 : Aside0 (bestD p i d (r1, r2) = (r1, r2)) := ⟨by unfold bestD; rw [← HL.out, if_neg (fun h => hb h.2)]⟩
            have g2 : decide ((r1 : Int) < 131) = false := by simp only [decide_eq_false_iff_not]; omega
            have g2' : decide (r1 < 131) = false := decide_eq_false hb
            clear hb hdf hb4 h131
            go_wp2_with fail
            go_quiet (fail)
            go_wp2
            go_roundg (f + 1)
            case measure => have := HGK.out; omega
            case rel => exact ⟨d + 1, f, (r1, r2), rfl, rfl, by go_num, by omega, by have := HDF.out; omega, ⟨rfl⟩, ⟨by rw [← HB1.out]; exact HSC.out⟩, hr1, ⟨HBD.out _⟩⟩
end Go.Proofs.Ytlmcompoalhpnaa.SqC
