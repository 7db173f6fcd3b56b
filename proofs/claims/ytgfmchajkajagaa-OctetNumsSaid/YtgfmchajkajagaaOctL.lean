/- The laws of octet answer true, walked over their functions; conditions: the arguments are well formed. -/
import Derived.Test.YtgfmchajkajagaaRdr
namespace Go.Proofs.Ytgfmchajkajagaa.OctL
open Go Go.Proofs.YtgfmchajkajagaaW.PrintWords Go.Proofs.Ytgfmchajkajagaa.K Go.Proofs.Ytgfmchajkajagaa.OctS Go.Proofs.Ytgfmchajkajagaa.Oct Go.Proofs.Ytgfmchajkajagaa.Rdr Go.RowKit
set_option linter.unusedVariables false
theorem bytes_wf {l : List Int} (h : ∀ x ∈ l, (Lit.int .u8 x).wf = true) : Bytes l := fun c hc => by
  have := h c hc
  simp [Lit.wf, IntKind.min, IntKind.max, IntKind.signed, IntKind.bits] at this
  omega
set_option maxHeartbeats 2000000 in
theorem nums_calls (n : Int) (A : Option Addr) (k c : Nat) (l : List Int) (pl : Int) (w : World) (hn : (Lit.int .i64 n).wf = true) (hr : Kd.C (Kd.int .u8) w A k l) (hc : k ≤ c) (hb : ∀ x ∈ l, (Lit.int .u8 x).wf = true) (hm : k * 1 ≤ 140737488351232) (hp : (Lit.int .i64 pl).wf = true) :
    Calls Try.prog 3 #[.int .i64 n, .slice A k c, .int .i64 pl] w fun e w' => e = .returned (.bool true) ∧ Below w.heap.size w w' := by
  obtain rfl : l.length = k := hr.1
  have HW := Aside0.mk (bytes_wf hb)
  have HR := Aside0.mk hr
  clear hr hb
  go_enter Try.func3, Try.ntmps3
  go_wp2_with fail
  refine (num_all n _).mono ?_
  rintro e w1 ⟨v1, rfl, ho1, hb1⟩
  obtain ⟨A1, c1, rfl⟩ := Kd.R_slice ho1
  have HO1 := Aside0.mk ho1
  have HB := Aside0.mk hb1
  clear ho1 hb1
  go_wp2_with fail
  refine (rnum_all n _).mono ?_
  rintro e w2 ⟨v2, rfl, ho2, hb2⟩
  obtain ⟨A2, c2, rfl⟩ := Kd.R_slice ho2
  have HO1 := Aside0.mk (Kd.R_below HO1.out hb2)
  have HO2 := Aside0.mk ho2
  have HB := Aside0.mk (below_step HB.out hb2)
  have HR := Aside0.mk (Kd.C_below HR.out HB.out)
  clear ho2 hb2
  go_wp2_with (first | (go_at_call 11; (with_reducible refine (takeNum_calls A c l pl _ HR.out hc HW.out (by omega)).mono ?_); rintro e w' ⟨rfl, rfl⟩) | (go_at_call 12; (with_reducible refine (rtakeNum_calls A c l pl _ HR.out hc HW.out (by omega)).mono ?_); rintro e w' ⟨rfl, rfl⟩))
  refine (live_calls _).mono ?_
  rintro e w3 ⟨rfl, hb3⟩
  have HO1 := Aside0.mk (Kd.R_below HO1.out hb3)
  have HO2 := Aside0.mk (Kd.R_below HO2.out hb3)
  have HB := Aside0.mk (below_step HB.out hb3)
  clear hb3
  have e1 := conv_own (P := Try.prog) 22 9 5 Try.underlying22 Try.underlying5 Try.underlying9 HO1.out rfl rfl
  have e2 := conv_own (P := Try.prog) 22 9 5 Try.underlying22 Try.underlying5 Try.underlying9 HO2.out rfl rfl
  go_wp2
  go_ret
  exact ⟨rfl, HB.out⟩
end Go.Proofs.Ytgfmchajkajagaa.OctL
