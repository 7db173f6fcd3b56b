/- What a recipe's methods compute: Size, Find. -/
import Derived.Test.YtgofkhncaldheaaReW
namespace Go.Proofs.Ytgofkhncaldheaa.ReF
open Go Go.RowKit Go.Proofs.YtgofkhncaldheaaW.PrintWords Go.Proofs.Ytgofkhncaldheaa.K Go.Proofs.Ytgofkhncaldheaa.OctS Go.Proofs.Ytgofkhncaldheaa.OctP Go.Proofs.Ytgofkhncaldheaa.Oct Go.Proofs.Ytgofkhncaldheaa.ReS Go.Proofs.Ytgofkhncaldheaa.ReR Go.Proofs.Ytgofkhncaldheaa.ReT Go.Proofs.Ytgofkhncaldheaa.ReN Go.Proofs.Ytgofkhncaldheaa.ReP Go.Proofs.Ytgofkhncaldheaa.ReC Go.Proofs.Ytgofkhncaldheaa.ReK Go.Proofs.Ytgofkhncaldheaa.ReW
set_option linter.unusedVariables false
set_option linter.unusedSimpArgs false
theorem sz_nil (w : World) : Calls Try.prog 17 #[.pointer none] w fun e w' => e = .returned (.int .i64 0) ∧ Below w.heap.size w w' := by
  go_enter Try.func17, Try.ntmps17
  go_wp2
  go_ret
  exact ⟨rfl, Below.refl _ _⟩
theorem sz_calls {w : World} {g : Nat} {rs : List Ref} {A : Option Addr} {c : Nat} {Ab : Option Addr} {cb : Nat} (h : Rec w g rs A c Ab cb) : Calls Try.prog 17 #[.pointer (some ⟨g, 0, none⟩)] w fun e w' => e = .returned (.int .i64 ((lens rs).sum : Nat)) ∧ Below w.heap.size w w' := by
  have a0 := obj_cell (v := .slice A rs.length c) h.blk 0 rfl
  have a1 := obj_cell (v := .slice Ab (rs.length + 1) cb) h.blk 1 rfl
  obtain ⟨ab, rfl, hcb⟩ := Kd.at_int h.beg (rs.length : Int) (by omega) (by omega)
  have hrd : rd (begs rs rs.length) (rs.length : Int) = (((lens rs).sum : Nat) : Int) := by
    have := begs_get rs rs.length rs.length (Nat.le_refl _)
    rwa [List.take_of_length_le (by simp [lens])] at this
  rw [hrd, Int.toNat_natCast] at hcb
  have hf := h.few
  clear h hrd
  generalize (lens rs).sum = s at *
  generalize rs.length = k at *
  go_enter Try.func17, Try.ntmps17
  go_wp2_with fail
  go_quiet (fail)
  go_wp2
  go_ret
  exact ⟨rfl, pw_below_drewN (Below.refl _ _) _⟩
theorem find_nil (w : World) (o : Int) : Calls Try.prog 12 #[.pointer none, .int .i64 o] w fun e w' => e = .returned (.tuple #[.int .i64 0, .int .i64 0, .bool false]) ∧ Below w.heap.size w w' := by
  go_enter Try.func12, Try.ntmps12
  go_wp2
  go_ret3
  exact ⟨rfl, Below.refl _ _⟩
theorem find_neg {w : World} (g : Nat) (o : Int) (ho : o < 0) : Calls Try.prog 12 #[.pointer (some ⟨g, 0, none⟩), .int .i64 o] w fun e w' => e = .returned (.tuple #[.int .i64 0, .int .i64 0, .bool false]) ∧ Below w.heap.size w w' := by
  have h1 : decide (o < 0) = true := by simpa using ho
  go_enter Try.func12, Try.ntmps12
  go_wp2
  go_ret3
  exact ⟨rfl, Below.refl _ _⟩
theorem find_past {w : World} {g : Nat} {rs : List Ref} {A : Option Addr} {c : Nat} {Ab : Option Addr} {cb : Nat} (h : Rec w g rs A c Ab cb) (o : Nat) (ho : (lens rs).sum ≤ o) : Calls Try.prog 12 #[.pointer (some ⟨g, 0, none⟩), .int .i64 (o : Int)] w fun e w' => e = .returned (.tuple #[.int .i64 0, .int .i64 0, .bool false]) ∧ Below w.heap.size w w' := by
  have h1 : decide ((o : Int) < 0) = false := by simp
  have HC := Aside0.mk (sz_calls h)
  have h2 : decide ((lens rs).sum ≤ o) = true := by simp; omega
  clear h ho
  generalize (lens rs).sum = s at *
  go_enter Try.func12, Try.ntmps12
  go_wp2_with fail
  refine HC.out.mono ?_
  rintro e w1 ⟨rfl, hb1⟩
  have HB1 := Aside0.mk hb1
  clear hb1
  go_wp2
  go_ret3
  exact ⟨rfl, HB1.out⟩
theorem sum_mono (l : List Nat) : ∀ (i j : Nat), i ≤ j → (l.take i).sum ≤ (l.take j).sum := by
  intro i j h
  obtain ⟨d, rfl⟩ := Nat.le.dest h
  rw [List.take_add, List.sum_append]
  omega
set_option maxRecDepth 100000 in
set_option maxHeartbeats 4000000 in
/-- Find: the chunk between whose beginning and end the byte stands. -/
theorem find_is {w : World} {g : Nat} {rs : List Ref} {A : Option Addr} {c : Nat} {Ab : Option Addr} {cb : Nat} (h : Rec w g rs A c Ab cb) (o : Nat) (ho : o < (lens rs).sum) : Calls Try.prog 12 #[.pointer (some ⟨g, 0, none⟩), .int .i64 (o : Int)] w fun e w' =>
    ∃ i : Nat, i < rs.length ∧ ((lens rs).take i).sum ≤ o ∧ o < ((lens rs).take (i + 1)).sum ∧ e = .returned (.tuple #[.int .i64 i, .int .i64 (o - ((lens rs).take i).sum : Nat), .bool true]) ∧ Below w.heap.size w w' := by
  have h1 : decide ((o : Int) < 0) = false := by simp
  have HC := Aside0.mk (sz_calls h)
  have hk0 : 0 < rs.length := by
    rcases Nat.eq_zero_or_pos rs.length with e | e
    · rw [List.eq_nil_of_length_eq_zero e] at ho; simp [lens] at ho
    · exact e
  have HS := Aside0.mk (show (lens rs).sum = ((lens rs).take rs.length).sum from by rw [List.take_of_length_le (by simp [lens])])
  have h2 : decide ((lens rs).sum ≤ o) = false := by simp; omega
  have HO := Aside0.mk ho
  have HR := Aside0.mk h
  have hf := h.few
  have hsm : (lens rs).sum ≤ 131072 := by
    have := lens_le rs h.ok rs.length
    rw [← HS.out] at this
    omega
  have ho2 : o ≤ 131072 := by omega
  have HLE := Aside0.mk (lens_le rs h.ok)
  clear h ho
  generalize hsl : (lens rs).sum = sl at *
  have HSL := Aside0.mk hsl
  clear hsl
  generalize hkl : rs.length = k at *
  have HKL := Aside0.mk hkl
  clear hkl
  go_enter Try.func12, Try.ntmps12
  go_wp2_with fail
  refine HC.out.mono ?_
  rintro e w1 ⟨rfl, hb1⟩
  have HB1 := Aside0.mk hb1
  have HR1 := Aside0.mk (HR.out.below hb1)
  have a0 := obj_cell (v := .slice A k c) HR1.out.blk 0 (by rw [← HKL.out]; rfl)
  clear hb1
  go_wp2_with fail
  go_quiet (fail)
  go_wp2
  go_loopg [7, 8] (k + 1) (fun gk v7 v8 wr => ∃ low high : Nat, v7 = .int .i64 low ∧ v8 = .int .i64 high ∧ low < high ∧ high ≤ k ∧ ((lens rs).take low).sum ≤ o ∧ o < ((lens rs).take high).sum ∧ Aside0 (gk = high - low + 1) ∧ Aside0 (Rec wr g rs A c Ab cb) ∧ Aside0 (Below w.heap.size w wr))
  case atStart => exact ⟨0, k, rfl, rfl, hk0, Nat.le_refl _, by simp, by have := HO.out; have := HS.out; omega, ⟨rfl⟩, ⟨HR1.out.below (pw_below_drewN (Below.refl _ w1) _)⟩, ⟨below_then HB1.out HB1.out.size (pw_below_drewN (Below.refl _ w1) _)⟩⟩
  case round =>
    obtain ⟨low, high, rfl, rfl, hlh, hhk, hl1, hl2, HK, HRr, HBr⟩ := hrel
    have a1 := obj_cell (v := .slice Ab (k + 1) cb) HRr.out.blk 1 (by rw [← HKL.out]; rfl)
    have hbg := HRr.out.beg
    rw [HKL.out] at hbg
    by_cases hlt : 1 < high - low
    · have h3 : decide ((1 : Int) < (high : Int) - (low : Int)) = true := by simp; omega
      obtain ⟨mid, hmid⟩ : ∃ m, m = (low + high) / 2 := ⟨_, rfl⟩
      have hdiv : ((low : Int) + (high : Int)) / 2 = (mid : Int) := by omega
      obtain ⟨ab, rfl, hcb⟩ := Kd.at_int hbg (mid : Int) (by omega) (by omega)
      have hrd : rd (begs rs k) (mid : Int) = ((((lens rs).take mid).sum : Nat) : Int) := begs_get rs k mid (by omega)
      rw [hrd, Int.toNat_natCast] at hcb
      have hlm : ((lens rs).take mid).sum ≤ 131072 := by have := HLE.out mid; omega
      have HHL := Aside0.mk hl1
      have HHH := Aside0.mk hl2
      have hmk : (low + high) / 2 ≤ k := by omega
      have HD := Aside0.mk hdiv
      have hp1 : (0 : Int) ≤ ((low : Int) + (high : Int)) / 2 := by omega
      have hp2 : ((low : Int) + (high : Int)) / 2 < (k : Int) + 1 := by omega
      rw [hmid] at hcb hlm
      have HM := Aside0.mk hmid
      clear hbg hrd hl1 hl2 hdiv hmid
      by_cases hq : ((lens rs).take ((low + high) / 2)).sum ≤ o
      · have h4 : decide (((lens rs).take ((low + high) / 2)).sum ≤ o) = true := by simp; omega
        have HQ := Aside0.mk hq
        clear hq
        generalize hsm' : ((lens rs).take ((low + high) / 2)).sum = sm at *
        have HSM := Aside0.mk hsm'
        clear hsm'
        go_wp2
        go_roundg (high - mid + 1)
        case measure => have := HK.out; have := HM.out; omega
        case rel => exact ⟨mid, high, by rw [HD.out], rfl, by have := HM.out; omega, hhk, by rw [HM.out, HSM.out]; exact HQ.out, HHH.out, ⟨rfl⟩, HRr, HBr⟩
      · have h4 : decide (((lens rs).take ((low + high) / 2)).sum ≤ o) = false := by simp; omega
        have HQ := Aside0.mk hq
        clear hq
        generalize hsm' : ((lens rs).take ((low + high) / 2)).sum = sm at *
        have HSM := Aside0.mk hsm'
        clear hsm'
        go_wp2
        go_roundg (mid - low + 1)
        case measure => have := HK.out; have := HM.out; omega
        case rel => exact ⟨low, mid, rfl, by rw [HD.out], by have := HM.out; omega, by have := HM.out; omega, HHL.out, by rw [HM.out, HSM.out]; have := HQ.out; omega, ⟨rfl⟩, HRr, HBr⟩
    · obtain rfl : high = low + 1 := by omega
      have h3 : decide ((1 : Int) < ((low + 1 : Nat) : Int) - (low : Int)) = false := by simp; omega
      have h3' : (1 : Int) < (low : Int) + 1 - (low : Int) ↔ False := ⟨fun h => by omega, fun h => h.elim⟩
      obtain ⟨ab, rfl, hcb⟩ := Kd.at_int hbg (low : Int) (by omega) (by omega)
      have hrd : rd (begs rs k) (low : Int) = ((((lens rs).take low).sum : Nat) : Int) := begs_get rs k low (by omega)
      rw [hrd, Int.toNat_natCast] at hcb
      have HHL := Aside0.mk hl1
      have HHH := Aside0.mk hl2
      have hp1 : (0 : Int) ≤ (low : Int) := by omega
      have hp2 : (low : Int) < (k : Int) + 1 := by omega
      clear hbg hrd hl2
      generalize hsm' : ((lens rs).take low).sum = sm at *
      have HSM := Aside0.mk hsm'
      clear hsm'
      go_wp2_with fail
      go_quiet (fail)
      go_wp2
      go_ret3
      exact ⟨low, by omega, by rw [HSM.out]; exact HHL.out, HHH.out, by rw [HSM.out]; simp; omega, below_then HBr.out HBr.out.size (pw_below_drewN (Below.refl _ _) _)⟩
end Go.Proofs.Ytgofkhncaldheaa.ReF
