/- The law SqueezeBack; conditions: the arguments are well formed. -/
import Derived.Test.YtlmcompoalhpnaaSqL1
namespace Go.Proofs.Ytlmcompoalhpnaa.SqL3
open Go Go.RowKit Go.Proofs.YtlmcompoalhpnaaW.PrintWords Go.Proofs.Ytlmcompoalhpnaa.K Go.Proofs.Ytlmcompoalhpnaa.OctS Go.Proofs.Ytlmcompoalhpnaa.OctP Go.Proofs.Ytlmcompoalhpnaa.Oct Go.Proofs.Ytlmcompoalhpnaa.Ap Go.Proofs.Ytlmcompoalhpnaa.SqA Go.Proofs.Ytlmcompoalhpnaa.SqB Go.Proofs.Ytlmcompoalhpnaa.SqE Go.Proofs.Ytlmcompoalhpnaa.SqG Go.Proofs.Ytlmcompoalhpnaa.SqH Go.Proofs.Ytlmcompoalhpnaa.SqJ Go.Proofs.Ytlmcompoalhpnaa.SqW Go.Proofs.Ytlmcompoalhpnaa.SqLv Go.Proofs.Ytlmcompoalhpnaa.SqL1
set_option linter.unusedVariables false
set_option linter.unusedSimpArgs false
theorem rowF_bytes : ∀ (f : Nat) (pl : List Int), Bytes pl → Bytes (SqD.rowF f pl)
  | 0, pl, h => by intro c hc; cases hc
  | f + 1, pl, h => by
    unfold SqD.rowF
    by_cases h0 : pl = []
    · rw [if_pos h0]; intro c hc; cases hc
    · rw [if_neg h0]
      have hl : 0 < pl.length := List.length_pos_iff.2 h0
      intro c hc
      rcases List.mem_cons.1 hc with rfl | hc
      · omega
      · rcases List.mem_append.1 hc with hc | hc
        · exact h c (List.mem_of_mem_take hc)
        · exact rowF_bytes f (pl.drop 128) (fun x hx => h x (List.mem_of_mem_drop hx)) c hc
theorem putL_bytes (p : List Int) (hp : Bytes p) : ∀ (f i : Nat) (o pl : List Int), i ≤ p.length → Bytes o → Bytes pl → Bytes (putL p f i o pl)
  | 0, i, o, pl, hi, ho, hl => by
    intro c hc
    rcases List.mem_append.1 hc with hc | hc
    · exact ho c hc
    · exact rowF_bytes _ pl hl c hc
  | f + 1, i, o, pl, hi, ho, hl => by
    have hmi := match_in (p := p) hi
    unfold putL
    by_cases hlt : i < p.length
    · rw [if_pos hlt]
      by_cases hm : (SqC.matchR p i).1 = 0
      · rw [if_pos hm]
        refine putL_bytes p hp f (i + 1) o _ (by omega) ho (fun c hc => ?_)
        rcases List.mem_append.1 hc with hc | hc
        · exact hl c hc
        · rw [List.mem_singleton.1 hc]; exact hp.getD i
      · rw [if_neg hm]
        refine putL_bytes p hp f _ _ [] hmi.1 (fun c hc => ?_) (fun c hc => by cases hc)
        rcases List.mem_append.1 hc with hc | hc
        · rcases List.mem_append.1 hc with hc | hc
          · rcases List.mem_append.1 hc with hc | hc
            · exact ho c hc
            · exact rowF_bytes _ pl hl c hc
          · rw [List.mem_singleton.1 hc]; omega
        · exact numB_bytes _ c hc
    · rw [if_neg hlt]
      intro c hc
      rcases List.mem_append.1 hc with hc | hc
      · exact ho c hc
      · exact rowF_bytes _ pl hl c hc
theorem put_bytes {p : List Int} (hp : Bytes p) : Bytes (putF p).1 := by
  unfold putF
  split
  · intro c hc; cases hc
  · exact putL_bytes p hp _ 0 [] [] (Nat.zero_le _) (fun c hc => by cases hc) (fun c hc => by cases hc)
set_option maxHeartbeats 4000000 in
theorem back_row (A : Option Addr) (k c : Nat) (l : List Int) (w : World) (hr : Kd.C (Kd.int .u8) w A k l) (hc : k ≤ c) (hb : ∀ x ∈ l, (Lit.int .u8 x).wf = true) (hm : k * 1 ≤ 140737488351232) :
    Calls Try.prog 5 #[.slice A k c] w fun e w' => e = .returned (.bool true) ∧ Below w.heap.size w w' := by
  obtain rfl : l.length = k := hr.1
  have HW := Aside0.mk (bytes_wf hb)
  have HR := Aside0.mk hr
  have HP := Aside0.mk (put_calls A c l w hr hc (bytes_wf hb) (by omega) (al_C hr))
  clear hr hb
  by_cases h8 : 8192 < l.length
  · have d1 : decide ((8192 : Int) < (l.length : Int)) = true := by simp only [decide_eq_true_eq]; omega
    rw [show putF l = ([], 6) from if_pos h8] at HP
    clear h8
    go_enter Try.func5, Try.ntmps5
    go_wp2_with fail
    refine HP.out.mono ?_
    rintro e w1 ⟨v1, rfl, ho1, hb1⟩
    obtain ⟨A1, c1, hv⟩ := Kd.R_slice ho1
    have hv1 : v1 = .slice A1 0 c1 := hv
    clear hv
    subst hv1
    have HB1 := Aside0.mk hb1
    clear ho1 hb1
    go_wp2_with fail
    refine (live_calls _).mono ?_
    rintro e w3 ⟨rfl, hb3⟩
    have HB3 := Aside0.mk (below_then HB1.out HB1.out.size hb3)
    clear hb3
    go_wp2_with fail
    go_ret
    exact ⟨by simp, HB3.out⟩
  · have d1 : decide ((8192 : Int) < (l.length : Int)) = false := by simp only [decide_eq_false_iff_not]; omega
    have h2 : (putF l).2 = 0 := by unfold putF; rw [if_neg h8]
    rw [h2] at HP
    have HT := Aside0.mk (take_put (p := l) (by omega))
    have HTL := Aside0.mk (take_less (p := l) (by omega))
    have HS := Aside0.mk (put_small (p := l) (by omega))
    have HBY := Aside0.mk (put_bytes HW.out)
    have hw1 : IntKind.i64.wrap ((l.length : Int) - 1) = (l.length : Int) - 1 := IntWalk.i64_in _ (by omega)
    have hl8 : l.length ≤ 8192 := by omega
    clear h8 h2
    generalize (putF l).1 = b at *
    go_enter Try.func5, Try.ntmps5
    go_wp2_with fail
    refine HP.out.mono ?_
    rintro e w1 ⟨v1, rfl, ho1, hb1⟩
    obtain ⟨A1, c1, rfl⟩ := Kd.R_slice ho1
    have hrr := Kd.R_reads' ho1
    have HC1 := Aside0.mk hrr.2.2
    have hc1 := hrr.2.1
    have HB1 := Aside0.mk hb1
    have hbl : b.length ≤ 140737488351232 := by have := HS.out; omega
    have HT1 := Aside0.mk (take_calls A1 c1 b (l.length : Int) w1 hrr.2.2 hrr.2.1 HBY.out hbl (by omega))
    rw [HT.out] at HT1
    clear ho1 hb1 hrr
    go_wp2_with fail
    refine HT1.out.mono ?_
    rintro e w2 ⟨v2, rfl, ho2, hb2⟩
    obtain ⟨A2, c2, rfl⟩ := Kd.R_slice ho2
    have HC2 := Aside0.mk (Kd.C_below HC1.out hb2)
    have HO2 := Aside0.mk ho2
    have HB2 := Aside0.mk (below_then HB1.out HB1.out.size hb2)
    have HT2 := Aside0.mk (take_calls A1 c1 b ((l.length : Int) - 1) w2 HC2.out hc1 HBY.out hbl (by omega))
    rw [HTL.out] at HT2
    clear ho2 hb2
    go_wp2_with fail
    refine HT2.out.mono ?_
    rintro e w3 ⟨v3, rfl, ho3, hb3⟩
    obtain ⟨A3, c3, rfl⟩ := Kd.R_slice ho3
    have HO3 := Aside0.mk (Kd.R_below HO2.out hb3)
    have HB3 := Aside0.mk (below_then HB2.out HB2.out.size hb3)
    clear ho3 hb3
    go_wp2_with fail
    refine (live_calls _).mono ?_
    rintro e w4 ⟨rfl, hb4⟩
    have HB4 := Aside0.mk (below_then HB3.out HB3.out.size hb4)
    have e1 := conv_own (P := Try.prog) 22 9 5 Try.underlying22 Try.underlying5 Try.underlying9 (Kd.R_below HO3.out hb4) rfl rfl
    have e2 := conv_read (P := Try.prog) (c := c) 22 9 5 Try.underlying22 Try.underlying5 Try.underlying9 (Kd.C_below HR.out HB4.out) rfl
    clear hb4
    go_wp2_with fail
    go_ret
    exact ⟨by simp, HB4.out⟩
end Go.Proofs.Ytlmcompoalhpnaa.SqL3
