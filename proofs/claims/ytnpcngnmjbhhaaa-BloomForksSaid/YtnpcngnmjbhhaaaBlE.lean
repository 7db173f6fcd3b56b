/- What the reference's number and Places compute; condition: a sum is 32 bytes. -/
import Derived.Test.YtnpcngnmjbhhaaaBlD
import Derived.Test.YtnpcngnmjbhhaaaOctP
namespace Go.Proofs.Ytnpcngnmjbhhaaa.BlE
open Go Go.RowKit Go.Proofs.YtnpcngnmjbhhaaaW.PrintWords Go.Proofs.Ytnpcngnmjbhhaaa.K Go.Proofs.Ytnpcngnmjbhhaaa.OctS Go.Proofs.Ytnpcngnmjbhhaaa.OctP Go.Proofs.Ytnpcngnmjbhhaaa.BlS Go.Proofs.Ytnpcngnmjbhhaaa.BlP Go.Proofs.Ytnpcngnmjbhhaaa.BlC Go.Proofs.Ytnpcngnmjbhhaaa.BlD Go.Proofs.Ytnpcngnmjbhhaaa.Oct
set_option linter.unusedVariables false
theorem take_snoc (l : List Int) (j : Nat) (h : j < l.length) : l.take (j + 1) = l.take j ++ [l.getD j 0] := by
  rw [List.take_add_one, List.getElem?_eq_getElem h, List.getD_eq_getElem?_getD, List.getElem?_eq_getElem h]
  rfl
set_option maxHeartbeats 1000000 in
theorem number_calls (bs : List Int) (q : Nat) (w : World) (hl : bs.length = 32) (hb : Bytes bs) (hq : q + 6 ≤ 32) : Calls Try.prog 29 #[.agg (nums .u8 bs).toArray, .int .i64 q] w fun e w' =>
    e = .returned (.int .i64 (val 0 ((bs.drop q).take 6) : Nat)) ∧ w.alloc (.cells (nums .u8 bs).toArray 22) = w' := by
  have h1 := own_lit w w.heap.size 22 .u8 bs (Nat.le_refl _) (by rw [hl]; decide)
  have HO := Aside0.mk h1
  have HB := Aside0.mk hb
  have HL := Aside0.mk hl
  clear h1 hb hl
  go_enter Try.func29, Try.ntmps29
  go_wp2_with fail
  go_loopg [5, 6] 7 (fun gk v5 v6 wr => ∃ j : Nat, v6 = .int .i64 (q + j : Nat) ∧ v5 = .int .i64 (val 0 ((bs.drop q).take j) : Nat) ∧ j ≤ 6 ∧ gk = 7 - j ∧ wr = w.alloc (.cells (nums .u8 bs).toArray 22))
  case atStart => exact ⟨0, by simp, by simp [val], by omega, rfl, rfl⟩
  case round =>
    obtain ⟨j, rfl, rfl, hj, hgk, rfl⟩ := hrel
    have HG := Aside0.mk hgk
    clear hgk
    by_cases hlt : j < 6
    · have hc := own_at HO.out ((q + j : Nat) : Int) (by omega) (by rw [HL.out]; omega)
      rw [Int.toNat_natCast] at hc
      obtain ⟨hc1, hc2⟩ := hc
      have hbd := HB.out.getD (q + j)
      have hrd : rd bs ((q + j : Nat) : Int) = bs.getD (q + j) 0 := by unfold rd; rw [Int.toNat_natCast]
      rw [hrd] at hc1
      have hsn : (bs.drop q).take (j + 1) = (bs.drop q).take j ++ [bs.getD (q + j) 0] := by
        rw [take_snoc _ _ (by rw [List.length_drop, HL.out]; omega)]
        congr 2
        rw [List.getD_eq_getElem?_getD, List.getElem?_drop, ← List.getD_eq_getElem?_getD]
      have hv : val 0 ((bs.drop q).take (j + 1)) = val 0 ((bs.drop q).take j) * 256 + (bs.getD (q + j) 0).toNat := by rw [hsn, val_app]
      have hvl := val_lt ((bs.drop q).take j) 0 0 ((HB.out.drop q).take j) (by decide)
      have hpw : 256 ^ (0 + ((bs.drop q).take j).length) ≤ 1099511627776 := by
        have : ((bs.drop q).take j).length ≤ 5 := by rw [List.length_take]; omega
        exact Nat.le_trans (Nat.pow_le_pow_right (by decide) (show 0 + ((bs.drop q).take j).length ≤ 5 by omega)) (by decide)
      have HV := Aside0.mk hv
      have hva : val 0 ((bs.drop q).take j) < 1099511627776 := by omega
      clear hv hvl hpw hsn
      have h1 : decide (((q + j : Nat) : Int) < (q : Int) + 6) = true := by simp; omega
      generalize bs.getD (q + j) 0 = x at *
      generalize hA : val 0 ((bs.drop q).take j) = acc at *
      go_wp2
      go_roundg (7 - (j + 1))
      case measure => have := HG.out; omega
      case rel => exact ⟨j + 1, by go_num, by rw [HV.out]; go_num, by omega, rfl, rfl⟩
    · obtain rfl : j = 6 := by omega
      have h1 : decide (((q + 6 : Nat) : Int) < (q : Int) + 6) = false := by simp
      go_wp2
      go_ret
      exact ⟨rfl, rfl⟩
end Go.Proofs.Ytnpcngnmjbhhaaa.BlE
