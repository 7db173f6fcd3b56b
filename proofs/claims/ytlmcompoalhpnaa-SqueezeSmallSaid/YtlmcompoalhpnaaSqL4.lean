/- The law SqueezeSmall; conditions: the arguments are well formed. -/
import Derived.Test.YtlmcompoalhpnaaSqL2
namespace Go.Proofs.Ytlmcompoalhpnaa.SqL4
open Go Go.RowKit Go.Proofs.YtlmcompoalhpnaaW.PrintWords Go.Proofs.Ytlmcompoalhpnaa.K Go.Proofs.Ytlmcompoalhpnaa.OctS Go.Proofs.Ytlmcompoalhpnaa.OctP Go.Proofs.Ytlmcompoalhpnaa.Oct Go.Proofs.Ytlmcompoalhpnaa.Ap Go.Proofs.Ytlmcompoalhpnaa.SqA Go.Proofs.Ytlmcompoalhpnaa.SqB Go.Proofs.Ytlmcompoalhpnaa.SqE Go.Proofs.Ytlmcompoalhpnaa.SqH Go.Proofs.Ytlmcompoalhpnaa.SqN Go.Proofs.Ytlmcompoalhpnaa.SqJ Go.Proofs.Ytlmcompoalhpnaa.SqW Go.Proofs.Ytlmcompoalhpnaa.SqLv Go.Proofs.Ytlmcompoalhpnaa.SqL1 Go.Proofs.Ytlmcompoalhpnaa.SqL2
set_option linter.unusedVariables false
set_option linter.unusedSimpArgs false
theorem u16_in {n : Int} (h : (Lit.int .u16 n).wf = true) : 0 ≤ n ∧ n ≤ 65535 := by
  have h1 : IntKind.u16.min = 0 := rfl
  have h2 : IntKind.u16.max = 65535 := rfl
  simp [Lit.wf, h1, h2] at h
  omega
theorem u8_in' {n : Int} (h : (Lit.int .u8 n).wf = true) : 0 ≤ n ∧ n ≤ 255 := by
  have h1 : IntKind.u8.min = 0 := rfl
  have h2 : IntKind.u8.max = 255 := rfl
  simp [Lit.wf, h1, h2] at h
  omega
set_option maxHeartbeats 4000000 in
theorem small_row (A : Option Addr) (k c : Nat) (l : List Int) (x n : Int) (w : World) (hr : Kd.C (Kd.int .u8) w A k l) (hc : k ≤ c) (hb : ∀ x ∈ l, (Lit.int .u8 x).wf = true) (hm : k * 1 ≤ 140737488351232) (hx : (Lit.int .u8 x).wf = true) (hn : (Lit.int .u16 n).wf = true) :
    Calls Try.prog 6 #[.slice A k c, .int .u8 x, .int .u16 n] w fun e w' => e = .returned (.bool true) ∧ Below w.heap.size w w' := by
  obtain rfl : l.length = k := hr.1
  have hW := bytes_wf hb
  have hxx := u8_in' hx
  have hnn := u16_in hn
  obtain ⟨hcut, hA⟩ := cutH (P := Try.prog) (Kd.int .u8) 22 5 Try.underlying22 infoU8 A l.length c (min l.length 8192) (by omega) hc
  have hmin : ((min l.length 8192 : Nat) : Int) = min (l.length : Int) 8192 := by omega
  rw [hmin] at hcut
  have hn1 : (l.take (min l.length 8192)).length = min l.length 8192 := by rw [List.length_take]; omega
  have hRS := hA w l hr
  have hBS : Bytes (l.take (min l.length 8192)) := fun x hx => hW x (List.mem_of_mem_take hx)
  have hmc : min l.length 8192 ≤ c := by omega
  have hms : min l.length 8192 ≤ 8192 := by omega
  clear hr hb hW hA hx hn hmin
  generalize l.take (min l.length 8192) = s at *
  generalize min l.length 8192 = n1 at *
  subst hn1
  have HPC := Aside0.mk (put_calls A c s w hRS hmc hBS (by omega) (al_C hRS))
  rw [put_snd (by omega)] at HPC
  have HS1 := Aside0.mk (put_small (p := s) (by omega))
  obtain ⟨m, hm2⟩ : ∃ m : Nat, (m : Int) = n % 2000 := ⟨(n % 2000).toNat, by omega⟩
  have hmb : m < 2000 := by omega
  have hwn : IntKind.i64.wrap n = n := IntWalk.i64_in _ (by omega)
  have htm : n.tmod 2000 = (m : Int) := by rw [Int.tmod_eq_emod_of_nonneg hnn.1]; exact hm2.symm
  have HSM := Aside0.mk (put_same (L := m) (c := x) (by omega))
  have HBR : Aside0 (Bytes (List.replicate m x)) := ⟨fun y hy => by rw [(List.mem_replicate.1 hy).2]; exact hxx⟩
  have HCU := Aside0.mk hcut
  clear hRS hBS
  go_enter Try.func6, Try.ntmps6
  go_wp2_with fail
  refine HPC.out.mono ?_
  rintro e w1 ⟨v1, rfl, ho1, hb1⟩
  obtain ⟨A1, c1, rfl⟩ := Kd.R_slice ho1
  have HB1 := Aside0.mk hb1
  clear ho1 hb1 hcut
  go_wp2_with fail
  go_loopg [9, 10] (m + 1) (fun gk v9 v10 wr => ∃ j : Nat, v10 = .int .i64 (j : Int) ∧ j ≤ m ∧ Aside0 (gk = m - j + 1) ∧ Aside0 (Kd.R (Kd.int .u8) 5 wr w1.heap.size (fun _ => True) (v9) (List.replicate j x)) ∧ Aside0 (Below w1.heap.size w1 wr))
  case atStart => exact ⟨0, rfl, Nat.zero_le _, ⟨rfl⟩, ⟨Kd.R_nil _ _ _ _ _⟩, ⟨Below.refl _ _⟩⟩
  case round =>
    obtain ⟨j, rfl, hj, HGK, HO, HBr⟩ := hrel
    by_cases hlt : j < m
    · have e1 : decide ((j : Int) < (m : Int)) = true := by simp only [decide_eq_true_eq]; omega
      have e2 : decide ((j : Int) < n % 2000) = true := by simp only [decide_eq_true_eq]; omega
      have hwj : IntKind.i64.wrap ((j : Int) + 1) = (j : Int) + 1 := IntWalk.i64_in _ (by omega)
      have HLT := Aside0.mk hlt
      clear hlt
      go_wp2_with ((with_reducible refine gate_builtin (b := .append) (xs := #[.tmp 30, .tmp 32]) rfl ?_); at_builtin; refine app1 (Kd.int .u8) (flat_int .u8) w1.heap.size (w0 := w1) (.tmp 30) (.tmp 32) 22 5 (.int .u8 0) 1 rfl rfl Try.underlying22 infoU8 rfl (by decide) (by decide) _ (List.replicate j x) x [.int .u8 x] rfl rfl rfl HO.out HBr.out HBr.out.size (by simp; omega) ?_; intro v3 w3 ho3 hb3 hg3 hat3; have HO3 := Aside0.mk ho3; have HB3 := Aside0.mk hb3; clear ho3 hb3 hg3 hat3)
      go_roundg (m - (j + 1) + 1)
      case measure => have := HGK.out; have := HLT.out; omega
      case rel => exact ⟨j + 1, by go_num, by have := HLT.out; omega, ⟨rfl⟩, ⟨by have := HO3.out; rwa [← List.replicate_succ'] at this⟩, HB3⟩
    · obtain rfl : j = m := by omega
      have e1 : decide ((j : Int) < (j : Int)) = false := by simp
      have e2 : decide ((j : Int) < n % 2000) = false := by simp only [decide_eq_false_iff_not]; omega
      clear hlt
      obtain ⟨A2, c2, hv⟩ := Kd.R_slice HO.out
      rw [List.length_replicate] at hv
      subst hv
      have hr2 := Kd.R_reads' HO.out
      have HC2 : Aside0 ((Kd.int .u8).C wr A2 j (List.replicate j x)) := ⟨by have := hr2.2.2; rwa [List.length_replicate] at this⟩
      have hc2 : j ≤ c2 := hr2.2.1
      have HPC2 := put_calls A2 c2 (List.replicate j x) wr (by rw [List.length_replicate]; exact HC2.out) (by rw [List.length_replicate]; exact hc2) HBR.out (by rw [List.length_replicate]; omega) (al_C (by rw [List.length_replicate]; exact HC2.out))
      rw [put_snd (by rw [List.length_replicate]; omega), List.length_replicate] at HPC2
      have HPC3 := Aside0.mk HPC2
      clear HPC2 hr2
      go_wp2_with fail
      refine HPC3.out.mono ?_
      rintro e w4 ⟨v4, rfl, ho4, hb4⟩
      obtain ⟨A4, c4, rfl⟩ := Kd.R_slice ho4
      have HB2 := Aside0.mk (below_then HB1.out HB1.out.size (HBr.out))
      have HB4 := Aside0.mk (below_then HB2.out HB2.out.size hb4)
      clear ho4 hb4
      generalize (putF s).1 = b1 at *
      generalize (putF (List.replicate j x)).1 = b2 at *
      have hS1 := HS1.out
      have hSM := HSM.out
      have k1 : decide ((b1.length : Int) ≤ (s.length : Int) + (s.length : Int) / 128 + 1) = true := by simp only [decide_eq_true_eq]; omega
      have k2 : decide ((b2.length : Int) ≤ 10 + 2 * ((j : Int) / 131)) = true := by simp only [decide_eq_true_eq]; omega
      have t1 : (s.length : Int).tdiv 128 = (s.length : Int) / 128 := Int.tdiv_eq_ediv_of_nonneg (by omega)
      have t2 : (j : Int).tdiv 131 = (j : Int) / 131 := Int.tdiv_eq_ediv_of_nonneg (by omega)
      have q1 : IntKind.i64.wrap ((s.length : Int) / 128) = (s.length : Int) / 128 := IntWalk.i64_in _ (by omega)
      have q2 : IntKind.i64.wrap ((s.length : Int) + (s.length : Int) / 128) = (s.length : Int) + (s.length : Int) / 128 := IntWalk.i64_in _ (by omega)
      have q3 : IntKind.i64.wrap ((s.length : Int) + (s.length : Int) / 128 + 1) = (s.length : Int) + (s.length : Int) / 128 + 1 := IntWalk.i64_in _ (by omega)
      have q4 : IntKind.i64.wrap ((j : Int) / 131) = (j : Int) / 131 := IntWalk.i64_in _ (by omega)
      have q5 : IntKind.i64.wrap (2 * ((j : Int) / 131)) = 2 * ((j : Int) / 131) := IntWalk.i64_in _ (by omega)
      have q6 : IntKind.i64.wrap (10 + 2 * ((j : Int) / 131)) = 10 + 2 * ((j : Int) / 131) := IntWalk.i64_in _ (by omega)
      clear hS1 hSM
      go_wp2_with fail
      refine (live_calls _).mono ?_
      rintro e w5 ⟨rfl, hb5⟩
      have HB5 := Aside0.mk (below_then HB4.out HB4.out.size hb5)
      clear hb5
      go_wp2_with fail
      go_ret
      exact ⟨by have := HSM.out; simp; omega, HB5.out⟩
end Go.Proofs.Ytlmcompoalhpnaa.SqL4
