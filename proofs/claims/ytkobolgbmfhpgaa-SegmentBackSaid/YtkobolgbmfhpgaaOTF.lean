/- What octet.TakeFixed computes, for every argument. -/
import Derived.Test.YtkobolgbmfhpgaaOInfo
namespace Go.Proofs.Ytkobolgbmfhpgaa.Oct
open Go.RowKit Go.Proofs.YtkobolgbmfhpgaaW.PrintWords Go.Proofs.YtkobolgbmfhpgaaW.PrintLast Go.Proofs.YtkobolgbmfhpgaaW.PrintMore Go.Proofs.Ytkobolgbmfhpgaa.K Go.Proofs.Ytkobolgbmfhpgaa.OctS
set_option linter.unusedVariables false
theorem takeFixed_calls (A : Option Addr) (n c : Nat) (l : List Int) (pl wd : Int) (w : World) (hr : Kd.C (Kd.int .u8) w A n l) (hc : n ≤ c) (hb : Bytes l) (hm : n ≤ 140737488355328) :
    Calls Try.prog 34 #[.slice A n c, .int .i64 pl, .int .i64 wd] w fun e w' => e = .returned (.tuple #[.int .i64 (takeFixed l pl wd).1, .int .i64 (takeFixed l pl wd).2.1, .int .i64 (takeFixed l pl wd).2.2]) ∧ w = w' := by
  obtain rfl : l.length = n := hr.1
  by_cases h : wd < 1 ∨ 8 < wd ∨ pl < 0 ∨ (l.length : Int) < pl
  · rw [takeFixed_arg l pl wd h]
    by_cases h1 : wd < 1
    · have h2 : decide (wd < 1) = true := by simpa using h1
      go_enter Try.func34, Try.ntmps34
      go_wp2
      go_ret3
      exact ⟨rfl, rfl⟩
    · have h2 : decide (wd < 1) = false := by simpa using h1
      by_cases h3 : 8 < wd
      · have h4 : decide (8 < wd) = true := by simpa using h3
        go_enter Try.func34, Try.ntmps34
        go_wp2
        go_ret3
        exact ⟨rfl, rfl⟩
      · have h4 : decide (8 < wd) = false := by simpa using h3
        by_cases h5 : pl < 0
        · have h6 : decide (pl < 0) = true := by simpa using h5
          go_enter Try.func34, Try.ntmps34
          go_wp2
          go_ret3
          exact ⟨rfl, rfl⟩
        · have h6 : decide (pl < 0) = false := by simpa using h5
          have h7 : decide ((l.length : Int) < pl) = true := by simp; omega
          go_enter Try.func34, Try.ntmps34
          go_wp2
          go_ret3
          exact ⟨rfl, rfl⟩
  · have h2 : decide (wd < 1) = false := by simp; omega
    have h4 : decide (8 < wd) = false := by simp; omega
    have h6 : decide (pl < 0) = false := by simp; omega
    obtain ⟨m, rfl⟩ := Int.eq_ofNat_of_zero_le (show 0 ≤ wd by omega)
    obtain ⟨p, rfl⟩ := Int.eq_ofNat_of_zero_le (show 0 ≤ pl by omega)
    have h7 : decide ((l.length : Int) < (p : Int)) = false := by simp; omega
    have h7' : decide (l.length < p) = false := by simp; omega
    have hpl : p ≤ l.length := by omega
    have hmm : m ≤ 8 := by omega
    by_cases h8 : (l.length : Int) - p < m
    · rw [takeFixed_short l p m h h8]
      have h9 : decide ((l.length : Int) - p < (m : Int)) = true := by simpa using h8
      clear h
      go_enter Try.func34, Try.ntmps34
      go_wp2
      go_ret3
      exact ⟨rfl, rfl⟩
    · have h9 : decide ((l.length : Int) - p < (m : Int)) = false := by simpa using h8
      have hlim := takeFixed_lim l p m h h8
      have hok := takeFixed_ok l p m h h8
      rw [Int.toNat_natCast, Int.toNat_natCast] at hlim hok
      obtain ⟨A', hcut, hA'⟩ := cutLH (Kd.int .u8) 42 5 Try.underlying42 infoU8 A l.length c p (p + m) (by omega) (by omega) hc
      have hlt : (l.take (p + m)).drop p = (l.drop p).take m := by rw [List.take_drop, Nat.add_comm]
      have hR := hA' w l hr
      rw [hlt] at hR
      rw [Nat.add_sub_cancel_left] at hcut hR
      simp only [Int.natCast_add] at hcut
      have HBy := Aside0.mk ((hb.drop p).take m)
      have hrl : ((l.drop p).take m).length = m := by rw [List.length_take, List.length_drop]; omega
      generalize (l.drop p).take m = r at hR HBy hrl hlim hok
      have HR := Aside0.mk hR
      have HRL := Aside0.mk hrl
      have HLIM := Aside0.mk hlim
      have HOK := Aside0.mk hok
      have hm8 : m ≤ 8 := by omega
      have hpm : p + m ≤ l.length := by omega
      clear h hA' hR hlt hr hrl hlim hok h8
      go_enter Try.func34, Try.ntmps34
      go_wp2
      go_loopg [9, 43] (m + 1) (fun gk v9 v43 wr => ∃ (i acc : Nat), v9 = .int .u64 acc ∧ v43 = .int .i64 i ∧ i ≤ m ∧ acc < 256 ^ i ∧ gk = m - i + 1 ∧ Aside0 (val acc (r.drop i) = val 0 r) ∧ w = wr)
      case atStart => exact ⟨0, 0, rfl, rfl, Nat.zero_le _, by simp, rfl, ⟨rfl⟩, rfl⟩
      case round =>
        obtain ⟨i, acc, rfl, rfl, him, hacc, hgk, HV, rfl⟩ := hrel
        have HG := Aside0.mk hgk
        clear hgk
        by_cases hlt : i < m
        · obtain ⟨ad, rfl, hcell⟩ := Kd.at_int HR.out (i : Int) (by omega) (by omega)
          have hby := HBy.out.getD i
          have hd := drop_get r i (by rw [HRL.out]; exact hlt)
          have HD := Aside0.mk hd
          have hrd : rd r (i : Int) = r.getD i 0 := rfl
          rw [hrd] at hcell
          clear hd hrd
          generalize r.getD i 0 = x at hcell hby HD
          rw [Int.toNat_natCast] at hcell
          have hp7 : acc < 72057594037927936 := Nat.lt_of_lt_of_le hacc (Nat.le_trans (Nat.pow_le_pow_right (by decide) (show i ≤ 7 by omega)) (by decide))
          go_wp2
          go_roundg (m - (i + 1) + 1)
          case measure => have := HG.out; omega
          case rel =>
            refine ⟨i + 1, acc * 256 + x.toNat, by rw [or_u64 _ _ hp7 hby.1 hby.2], by go_num, by omega, ?_, rfl, ⟨?_⟩, rfl⟩
            · rw [Nat.pow_succ]; omega
            · rw [← HV.out, HD.out, val]
        · obtain rfl : i = m := by omega
          have hv : acc = val 0 r := by have := HV.out; rwa [drop_nil r i (by rw [HRL.out]; exact Nat.le_refl _), val] at this
          by_cases h10 : 9007199254740991 < acc
          · have h11 : decide ((9007199254740991 : Int) < (acc : Int)) = true := by simp; omega
            have h12 : decide (9007199254740991 < acc) = true := by simp; omega
            have HE := Aside0.mk (HLIM.out (by rw [← hv]; exact h10))
            clear hv
            go_wp2
            go_ret3
            exact ⟨ret3i HE.out, rfl⟩
          · have h11 : decide ((9007199254740991 : Int) < (acc : Int)) = false := by simp; omega
            have h12 : decide (9007199254740991 < acc) = false := by simp; omega
            have HE := Aside0.mk (HOK.out (by rw [← hv]; exact h10))
            rw [← hv] at HE
            clear hv
            go_wp2
            go_ret3
            exact ⟨ret3i HE.out, rfl⟩

end Go.Proofs.Ytkobolgbmfhpgaa.Oct
