/- Which sums are hooks, in both packages; condition: a sum is 32 bytes. -/
import Derived.Test.YtkobolgbmfhpgaaSgM
import Derived.Test.YtkobolgbmfhpgaaOTF
namespace Go.Proofs.Ytkobolgbmfhpgaa.SgH
open Go Go.RowKit Go.Proofs.YtkobolgbmfhpgaaW.PrintWords Go.Proofs.Ytkobolgbmfhpgaa.K Go.Proofs.Ytkobolgbmfhpgaa.OctS Go.Proofs.Ytkobolgbmfhpgaa.OctP Go.Proofs.Ytkobolgbmfhpgaa.Oct
set_option linter.unusedVariables false
set_option linter.unusedSimpArgs false
/-- Is a sum a hook? -/
def hookF (bs : List Int) (rate : Int) : Bool := decide (1 ≤ rate ∧ rate ≤ 256) && ((val 0 (bs.take 4) : Int) % rate == 0)
theorem take4 (bs : List Int) (hl : bs.length = 32) (hb : Bytes bs) : takeFixed (bs.take 4) 0 4 = (((val 0 (bs.take 4) : Nat) : Int), 4, 0) ∧ val 0 (bs.take 4) < 4294967296 := by
  have h4 : (bs.take 4).length = 4 := by rw [List.length_take]; omega
  have hv := val_lt (bs.take 4) 0 0 (hb.take 4) (by decide)
  rw [h4] at hv
  have e : ((bs.take 4).drop (0 : Int).toNat).take (4 : Int).toNat = bs.take 4 := by
    show ((bs.take 4).drop 0).take 4 = bs.take 4
    rw [List.drop_zero, List.take_of_length_le (by omega)]
  have hv2 : val 0 (bs.take 4) < 4294967296 := hv
  refine ⟨?_, hv2⟩
  unfold takeFixed
  rw [e, h4, if_neg (by omega), if_neg (by omega), if_neg (by omega)]
  rfl
set_option maxHeartbeats 1000000 in
theorem hook_calls (bs : List Int) (rate : Int) (w : World) (hl : bs.length = 32) (hb : Bytes bs) : Calls Try.prog 15 #[.agg (nums .u8 bs).toArray, .int .i64 rate] w fun e w' =>
    e = .returned (.bool (hookF bs rate)) ∧ Below w.heap.size w w' := by
  have h1 := own_lit w w.heap.size 31 .u8 bs (Nat.le_refl _) (by rw [hl]; decide)
  obtain ⟨ht, hv⟩ := take4 bs hl hb
  have HC : Aside0 ((Kd.int .u8).C (w.alloc (.cells (nums .u8 bs).toArray 31)) (some ⟨w.heap.size, 0, none⟩) 4 (bs.take 4)) := ⟨by
    have hR : (Kd.int .u8).R 31 (w.alloc (.cells (nums .u8 bs).toArray 31)) w.heap.size (fun _ => True) (.slice (some ⟨w.heap.size, 0, none⟩) bs.length bs.length) bs := Kd.R_of_own h1 (fun _ _ => trivial)
    have h2 := Kd.C_take (m := 4) (Kd.R_reads' hR).2.2 (by omega)
    rw [List.length_take, hl] at h2
    exact h2⟩
  have HT := Aside0.mk (takeFixed_calls (some ⟨w.heap.size, 0, none⟩) 4 32 (bs.take 4) 0 4 _ HC.out (by decide) (hb.take 4) (by decide))
  rw [ht] at HT
  unfold hookF
  generalize val 0 (bs.take 4) = v at *
  clear ht h1
  by_cases hr1 : 1 ≤ rate
  · by_cases hr2 : rate ≤ 256
    · have g1 : decide (1 ≤ rate) = true := decide_eq_true hr1
      have g2 : decide (rate ≤ 256) = true := decide_eq_true hr2
      have g3 : (rate == 0) = false := by simp; omega
      go_enter Try.func15, Try.ntmps15
      go_wp2_with (go_at_call 34; (with_reducible refine (HT.out).mono ?_); rintro e w' ⟨rfl, rfl⟩)
      go_ret
      refine ⟨?_, below_alloc (Below.refl _ _) _⟩
      rw [decide_eq_true (⟨hr1, hr2⟩ : 1 ≤ rate ∧ rate ≤ 256)]; rfl
    · have g1 : decide (1 ≤ rate) = true := decide_eq_true hr1
      have g2 : decide (rate ≤ 256) = false := decide_eq_false hr2
      go_enter Try.func15, Try.ntmps15
      go_wp2_with (go_at_call 34; (with_reducible refine (HT.out).mono ?_); rintro e w' ⟨rfl, rfl⟩)
      go_ret
      refine ⟨?_, below_alloc (Below.refl _ _) _⟩
      rw [decide_eq_false (fun h => absurd h.2 (by omega))]; rfl
  · have g1 : decide (1 ≤ rate) = false := decide_eq_false hr1
    go_enter Try.func15, Try.ntmps15
    go_wp2_with (go_at_call 34; (with_reducible refine (HT.out).mono ?_); rintro e w' ⟨rfl, rfl⟩)
    go_ret
    refine ⟨?_, below_alloc (Below.refl _ _) _⟩
    rw [decide_eq_false (fun h => absurd h.1 (by omega))]; rfl
theorem val4 (bs : List Int) (hl : bs.length = 32) : val 0 (bs.take 4) = (((bs.getD 0 0).toNat * 256 + (bs.getD 1 0).toNat) * 256 + (bs.getD 2 0).toNat) * 256 + (bs.getD 3 0).toNat := by
  rcases bs with _ | ⟨a, _ | ⟨b, _ | ⟨c, _ | ⟨d, l⟩⟩⟩⟩ <;> simp at hl
  simp [val]
set_option maxHeartbeats 1000000 in
theorem rhook_calls (bs : List Int) (rate : Int) (w : World) (hl : bs.length = 32) (hb : Bytes bs) : Calls Try.prog 16 #[.agg (nums .u8 bs).toArray, .int .i64 rate] w fun e w' =>
    e = .returned (.bool (hookF bs rate)) ∧ Below w.heap.size w w' := by
  have h1 := own_lit w w.heap.size 31 .u8 bs (Nat.le_refl _) (by rw [hl]; decide)
  have hv := val4 bs hl
  have hc : ∀ i : Nat, i < 4 → (w.alloc (.cells (nums .u8 bs).toArray 31)).cell? ⟨w.heap.size, i, none⟩ = some (.int .u8 (bs.getD i 0)) ∧ 0 ≤ bs.getD i 0 ∧ bs.getD i 0 ≤ 255 := fun i hi => by
    have h2 := own_at h1 (i : Int) (by omega) (by rw [hl]; omega)
    obtain ⟨h3, _⟩ := h2
    rw [Int.toNat_natCast] at h3
    have hrd : rd bs (i : Int) = bs.getD i 0 := by unfold rd; rw [Int.toNat_natCast]
    rw [hrd] at h3
    exact ⟨h3, hb.getD i⟩
  obtain ⟨c0, l0, u0⟩ := hc 0 (by omega)
  obtain ⟨c1, l1, u1⟩ := hc 1 (by omega)
  obtain ⟨c2, l2, u2⟩ := hc 2 (by omega)
  obtain ⟨c3, l3, u3⟩ := hc 3 (by omega)
  obtain ⟨ans, ha⟩ : ∃ a, a = hookF bs rate := ⟨_, rfl⟩
  rw [← ha]
  unfold hookF at ha
  rw [hv] at ha
  have HA := Aside0.mk ha
  clear ha
  generalize bs.getD 0 0 = x0 at *
  generalize bs.getD 1 0 = x1 at *
  generalize bs.getD 2 0 = x2 at *
  generalize bs.getD 3 0 = x3 at *
  obtain ⟨x0, rfl⟩ := Int.eq_ofNat_of_zero_le l0
  obtain ⟨x1, rfl⟩ := Int.eq_ofNat_of_zero_le l1
  obtain ⟨x2, rfl⟩ := Int.eq_ofNat_of_zero_le l2
  obtain ⟨x3, rfl⟩ := Int.eq_ofNat_of_zero_le l3
  clear h1 hv hc hb
  by_cases hr1 : rate < 1
  · have g1 : decide (rate < 1) = true := decide_eq_true hr1
    go_enter Try.func16, Try.ntmps16
    go_wp2
    go_ret
    refine ⟨?_, below_alloc (Below.refl _ _) _⟩
    rw [HA.out, decide_eq_false (show ¬ (1 ≤ rate ∧ rate ≤ 256) by omega)]; rfl
  · by_cases hr2 : 256 < rate
    · have g1 : decide (rate < 1) = false := decide_eq_false hr1
      have g2 : decide (256 < rate) = true := decide_eq_true hr2
      go_enter Try.func16, Try.ntmps16
      go_wp2
      go_ret
      refine ⟨?_, below_alloc (Below.refl _ _) _⟩
      rw [HA.out, decide_eq_false (show ¬ (1 ≤ rate ∧ rate ≤ 256) by omega)]; rfl
    · have g1 : decide (rate < 1) = false := decide_eq_false hr1
      have g2 : decide (256 < rate) = false := decide_eq_false hr2
      have g3 : (rate == 0) = false := by simp; omega
      go_enter Try.func16, Try.ntmps16
      go_wp2
      go_ret
      refine ⟨?_, below_alloc (Below.refl _ _) _⟩
      rw [HA.out, decide_eq_true (show 1 ≤ rate ∧ rate ≤ 256 by omega)]
      simp
end Go.Proofs.Ytkobolgbmfhpgaa.SgH
