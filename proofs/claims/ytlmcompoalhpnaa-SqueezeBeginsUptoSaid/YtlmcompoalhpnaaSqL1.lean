/- The law SqueezeTakes; conditions: the arguments are well formed. -/
import Derived.Test.YtlmcompoalhpnaaSqLv
import Derived.Test.YtlmcompoalhpnaaSqB
namespace Go.Proofs.Ytlmcompoalhpnaa.SqL1
open Go Go.RowKit Go.Proofs.YtlmcompoalhpnaaW.PrintWords Go.Proofs.Ytlmcompoalhpnaa.K Go.Proofs.Ytlmcompoalhpnaa.OctS Go.Proofs.Ytlmcompoalhpnaa.OctP Go.Proofs.Ytlmcompoalhpnaa.Oct Go.Proofs.Ytlmcompoalhpnaa.Ap Go.Proofs.Ytlmcompoalhpnaa.SqA Go.Proofs.Ytlmcompoalhpnaa.SqB Go.Proofs.Ytlmcompoalhpnaa.SqE Go.Proofs.Ytlmcompoalhpnaa.SqJ Go.Proofs.Ytlmcompoalhpnaa.SqW Go.Proofs.Ytlmcompoalhpnaa.SqLv
set_option linter.unusedVariables false
set_option linter.unusedSimpArgs false
theorem bytes_wf {l : List Int} (h : ∀ x ∈ l, (Lit.int .u8 x).wf = true) : Bytes l := fun c hc => by
  have := h c hc
  simp [Lit.wf, IntKind.min, IntKind.max, IntKind.signed, IntKind.bits] at this
  omega
theorem i64_low {n : Int} (h : (Lit.int .i64 n).wf = true) : -9223372036854775808 ≤ n ∧ n ≤ 9223372036854775807 := by
  have h1 : IntKind.i64.min = -9223372036854775808 := rfl
  have h2 : IntKind.i64.max = 9223372036854775807 := rfl
  simp [Lit.wf, h1, h2] at h
  omega
set_option maxHeartbeats 2000000 in
theorem takes_row (A : Option Addr) (k c : Nat) (l : List Int) (most : Int) (w : World) (hr : Kd.C (Kd.int .u8) w A k l) (hc : k ≤ c) (hb : ∀ x ∈ l, (Lit.int .u8 x).wf = true) (hm : k * 1 ≤ 140737488351232) (hn : (Lit.int .i64 most).wf = true) :
    Calls Try.prog 4 #[.slice A k c, .int .i64 most] w fun e w' => e = .returned (.bool true) ∧ Below w.heap.size w w' := by
  obtain rfl : l.length = k := hr.1
  have HW := Aside0.mk (bytes_wf hb)
  have HR := Aside0.mk hr
  have h0 := (i64_low hn).1
  clear hr hb hn
  go_enter Try.func4, Try.ntmps4
  go_wp2_with fail
  refine (take_calls A c l most w HR.out hc HW.out (by omega) h0).mono ?_
  rintro e w1 ⟨v1, rfl, ho1, hb1⟩
  obtain ⟨A1, c1, rfl⟩ := Kd.R_slice ho1
  have HO1 := Aside0.mk ho1
  have HB1 := Aside0.mk hb1
  clear ho1 hb1
  go_wp2_with fail
  refine (rtake_calls A c l most w1 (Kd.C_below HR.out HB1.out) hc HW.out (by omega) h0).mono ?_
  rintro e w2 ⟨v2, rfl, ho2, hb2⟩
  obtain ⟨A2, c2, rfl⟩ := Kd.R_slice ho2
  have HO1 := Aside0.mk (Kd.R_below HO1.out hb2)
  have HO2 := Aside0.mk ho2
  have HB2 := Aside0.mk (below_then HB1.out HB1.out.size hb2)
  clear ho2 hb2
  generalize takeF l most = q at *
  obtain ⟨o, er⟩ := q
  dsimp only at *
  go_wp2_with fail
  refine (live_calls _).mono ?_
  rintro e w3 ⟨rfl, hb3⟩
  have HO1 := Aside0.mk (Kd.R_below HO1.out hb3)
  have HO2 := Aside0.mk (Kd.R_below HO2.out hb3)
  have HB3 := Aside0.mk (below_then HB2.out HB2.out.size hb3)
  clear hb3
  have e1 := conv_own (P := Try.prog) 22 9 5 Try.underlying22 Try.underlying5 Try.underlying9 HO1.out rfl rfl
  have e2 := conv_own (P := Try.prog) 22 9 5 Try.underlying22 Try.underlying5 Try.underlying9 HO2.out rfl rfl
  go_wp2
  go_ret
  exact ⟨by simp, HB3.out⟩
end Go.Proofs.Ytlmcompoalhpnaa.SqL1
