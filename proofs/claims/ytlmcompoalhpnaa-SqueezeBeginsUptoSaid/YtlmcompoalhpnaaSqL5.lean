/- The law SqueezeBegins, for arguments of which a machine can hold two; conditions: the arguments are well formed. -/
import Derived.Test.YtlmcompoalhpnaaSqL2
import Derived.Test.YtlmcompoalhpnaaSqP
namespace Go.Proofs.Ytlmcompoalhpnaa.SqL5
open Go Go.RowKit Go.Proofs.YtlmcompoalhpnaaW.PrintWords Go.Proofs.Ytlmcompoalhpnaa.K Go.Proofs.Ytlmcompoalhpnaa.OctS Go.Proofs.Ytlmcompoalhpnaa.OctP Go.Proofs.Ytlmcompoalhpnaa.Oct Go.Proofs.Ytlmcompoalhpnaa.Ap Go.Proofs.Ytlmcompoalhpnaa.SqA Go.Proofs.Ytlmcompoalhpnaa.SqB Go.Proofs.Ytlmcompoalhpnaa.SqE Go.Proofs.Ytlmcompoalhpnaa.SqP Go.Proofs.Ytlmcompoalhpnaa.SqN Go.Proofs.Ytlmcompoalhpnaa.SqJ Go.Proofs.Ytlmcompoalhpnaa.SqW Go.Proofs.Ytlmcompoalhpnaa.SqLv Go.Proofs.Ytlmcompoalhpnaa.SqL1 Go.Proofs.Ytlmcompoalhpnaa.SqL2
set_option linter.unusedVariables false
set_option linter.unusedSimpArgs false
set_option maxHeartbeats 4000000 in
theorem begins_row (A : Option Addr) (k c : Nat) (l : List Int) (A' : Option Addr) (k' c' : Nat) (l' : List Int) (most : Int) (w : World) (hr : Kd.C (Kd.int .u8) w A k l) (hc : k ≤ c) (hb : ∀ x ∈ l, (Lit.int .u8 x).wf = true) (hm : k ≤ 1048576)
    (hr' : Kd.C (Kd.int .u8) w A' k' l') (hc' : k' ≤ c') (hb' : ∀ x ∈ l', (Lit.int .u8 x).wf = true) (hm' : k' ≤ 1048576) (hn : (Lit.int .i64 most).wf = true) :
    Calls Try.prog 7 #[.slice A k c, .slice A' k' c', .int .i64 most] w fun e w' => e = .returned (.bool true) ∧ Below w.heap.size w w' := by
  obtain rfl : l.length = k := hr.1
  obtain rfl : l'.length = k' := hr'.1
  have HW := Aside0.mk (bytes_wf hb)
  have HW' := Aside0.mk (bytes_wf hb')
  have HR := Aside0.mk hr
  have HR' := Aside0.mk hr'
  have h0 := (i64_low hn).1
  clear hr hb hn hr' hb'
  go_enter Try.func7, Try.ntmps7
  go_wp2_with fail
  refine (take_calls A c l most w HR.out hc HW.out (by omega) h0).mono ?_
  rintro e w1 ⟨v1, rfl, ho1, hb1⟩
  obtain ⟨A1, c1, rfl⟩ := Kd.R_slice ho1
  have HO1 := Aside0.mk ho1
  have HB1 := Aside0.mk hb1
  have HN0 := Kd.R_made_nil (Kd.int .u8) w1 5
  have HB0 := Aside0.mk (below_alloc (Below.refl w1.heap.size w1) (.cells #[] 5))
  have HN := Aside0.mk HN0
  clear ho1 hb1 HN0
  obtain ⟨w0, hw0⟩ : ∃ X, X = w1.alloc (.cells #[] 5) := ⟨_, rfl⟩
  rw [← hw0] at HB0 HN
  have hz0 : w0.heap.size = w1.heap.size + 1 := by rw [hw0]; simp
  have hw0' := hw0.symm
  clear hw0
  go_wp2_with (first
    | ((with_reducible refine gate_builtin (b := .append) (xs := #[.tmp 18, .tmp 19]) rfl ?_); at_builtin; refine app (Kd.int .u8) (flat_int .u8) w1.heap.size (w0 := w1) (.tmp 18) (.tmp 19) 22 5 (.int .u8 0) 1 rfl rfl Try.underlying22 infoU8 rfl (by decide) (by decide) _ [] l A l.length c rfl rfl HN.out (Kd.C_below HR.out (below_then HB1.out HB1.out.size HB0.out)) HB0.out (by omega) (by simp; omega) ?_; intro v2 w2 ho2 hb2 hg2 hat2; have HO2 := Aside0.mk ho2; have HB2 := Aside0.mk hb2; clear ho2 hb2 hg2 hat2)
    | ((with_reducible refine gate_builtin (b := .append) (xs := #[.tmp 20, .tmp 21]) rfl ?_); at_builtin; refine app (Kd.int .u8) (flat_int .u8) w1.heap.size (w0 := w1) (.tmp 20) (.tmp 21) 22 5 (.int .u8 0) 1 rfl rfl Try.underlying22 infoU8 rfl (by decide) (by decide) _ l l' A' l'.length c' rfl rfl HO2.out (Kd.C_below HR'.out (below_then HB1.out HB1.out.size HB2.out)) HB2.out HB2.out.size (by omega) ?_; intro v3 w3 ho3 hb3 hg3 hat3; have HO3 := Aside0.mk ho3; have HB3 := Aside0.mk hb3; obtain ⟨A3, c3, rfl⟩ := Kd.R_slice ho3; clear ho3 hb3 hg3 hat3))
  have hr3 := Kd.R_reads' HO3.out
  have HT3 := Aside0.mk (take_calls A3 c3 (l ++ l') most w3 hr3.2.2 hr3.2.1 (fun x hx => (List.mem_append.1 hx).elim (HW.out x) (HW'.out x)) (by simp; omega) h0)
  have HBG := Aside0.mk (fun x y (h1 : takeF l most = (x, 0)) (h2 : takeF (l ++ l') most = (y, 0)) => begins HW.out h1 h2)
  rw [List.length_append] at HT3
  clear hr3
  generalize takeF l most = q1 at *
  generalize takeF (l ++ l') most = q2 at *
  obtain ⟨x, e1⟩ := q1
  obtain ⟨y, e2⟩ := q2
  dsimp only at *
  refine HT3.out.mono ?_
  rintro e w4 ⟨v4, rfl, ho4, hb4⟩
  obtain ⟨A4, c4, rfl⟩ := Kd.R_slice ho4
  have HO4 := Aside0.mk ho4
  have HB4 := Aside0.mk (below_then HB3.out HB3.out.size hb4)
  have HB5 := Aside0.mk (below_then HB1.out HB1.out.size HB4.out)
  have HX4 := Aside0.mk (Kd.R_below HO1.out HB4.out)
  clear ho4 hb4
  by_cases hg : e1 = 0 ∧ e2 = 0
  · obtain ⟨rfl, rfl⟩ := hg
    have hpre := HBG.out x y rfl rfl
    have hle := hpre.length_le
    have htk : y.take x.length = x := (List.prefix_iff_eq_take.1 hpre).symm
    have hr4 := Kd.R_reads' HO4.out
    obtain ⟨hcut, hA⟩ := cutH (P := Try.prog) (Kd.int .u8) 22 5 Try.underlying22 infoU8 A4 y.length c4 x.length hle hr4.2.1
    have HE1 := Aside0.mk (fun W (hW : Below w4.heap.size w4 W) => conv_own (P := Try.prog) 22 9 5 Try.underlying22 Try.underlying5 Try.underlying9 (Kd.R_below HX4.out hW) rfl rfl)
    have HE2 := Aside0.mk (fun W (hW : Below w4.heap.size w4 W) => conv_read (P := Try.prog) (c := c4) 22 9 5 Try.underlying22 Try.underlying5 Try.underlying9 (by have := hA W y (Kd.C_below hr4.2.2 hW); rw [htk] at this; exact this) rfl)
    have k1 : decide ((x.length : Int) ≤ (y.length : Int)) = true := by simp only [decide_eq_true_eq]; omega
    clear hA hr4 hpre htk
    go_wp2_with fail
    have q1 := fun x : Held (fun w' => Below w4.heap.size w4 w') => HE1.out x.w x.h
    have q2 := fun x : Held (fun w' => Below w4.heap.size w4 w') => HE2.out x.w x.h
    (refine wp_region_class (fun w' => Below w4.heap.size w4 w') (by kernel_rfl) (by kernel_rfl) (below_drew1 (Below.refl _ _)) (fun _ => ?_); (repeat (go_big_quiet_step ((rename_i x; go_at_call 11; refine (live_calls _).mono ?_; rintro e w8 ⟨rfl, hb7⟩; exact ⟨rfl, ⟨w8, below_then x.h x.h.size hb7⟩, rfl⟩)))); refine wpQuiet_nil ?_; intro w' hS)
    go_wp2
    go_ret
    exact ⟨by simp, below_then HB5.out HB5.out.size hS⟩
  · by_cases h1 : e1 = 0
    · have g1 : (e1 != 0) = false := by simp [h1]
      have g2 : (e2 != 0) = true := by simp; exact fun h => hg ⟨h1, h⟩
      clear hg h1
      go_wp2_with fail
      refine (live_calls _).mono ?_
      rintro e w5 ⟨rfl, hb5⟩
      have HB6 := Aside0.mk (below_then HB5.out HB5.out.size hb5)
      clear hb5
      go_wp2_with fail
      go_ret
      exact ⟨by simp, HB6.out⟩
    · have g1 : (e1 != 0) = true := by simp [h1]
      clear hg h1
      go_wp2_with fail
      refine (live_calls _).mono ?_
      rintro e w5 ⟨rfl, hb5⟩
      have HB6 := Aside0.mk (below_then HB5.out HB5.out.size hb5)
      clear hb5
      go_wp2_with fail
      go_ret
      exact ⟨by simp, HB6.out⟩
end Go.Proofs.Ytlmcompoalhpnaa.SqL5
