/- The laws of octet answer true, walked over their functions; conditions: the arguments are well formed. -/
import Derived.Test.YtgfmchajkajagaaRdr
import Derived.Test.YtgfmchajkajagaaOctP
namespace Go.Proofs.Ytgfmchajkajagaa.OctL
open Go Go.Proofs.YtgfmchajkajagaaW.PrintWords Go.Proofs.Ytgfmchajkajagaa.K Go.Proofs.Ytgfmchajkajagaa.OctS Go.Proofs.Ytgfmchajkajagaa.OctP Go.Proofs.Ytgfmchajkajagaa.Oct Go.Proofs.Ytgfmchajkajagaa.Rdr Go.RowKit
set_option linter.unusedVariables false
theorem bytes_wf {l : List Int} (h : ∀ x ∈ l, (Lit.int .u8 x).wf = true) : Bytes l := fun c hc => by
  have := h c hc
  simp [Lit.wf, IntKind.min, IntKind.max, IntKind.signed, IntKind.bits] at this
  omega
set_option maxHeartbeats 2000000 in
theorem nums_calls (n : Int) (A : Option Addr) (k c : Nat) (l : List Int) (pl : Int) (w : World) (hn : (Lit.int .i64 n).wf = true) (hr : Kd.C (Kd.int .u8) w A k l) (hc : k ≤ c) (hb : ∀ x ∈ l, (Lit.int .u8 x).wf = true) (hm : k * 1 ≤ 140737488351232) (hp : (Lit.int .i64 pl).wf = true) :
    Calls Try.prog 3 #[.int .i64 n, .slice A k c, .int .i64 pl] w fun e w' => e = .returned (.bool true) ∧ Below w.heap.size w w' := by
  obtain rfl : l.length = k := hr.1
  have HW := Aside0.mk (bytes_wf hb)
  have HR := Aside0.mk hr
  clear hr hb
  go_enter Try.func3, Try.ntmps3
  go_wp2_with fail
  refine (num_all n _).mono ?_
  rintro e w1 ⟨v1, rfl, ho1, hb1⟩
  obtain ⟨A1, c1, rfl⟩ := Kd.R_slice ho1
  have HO1 := Aside0.mk ho1
  have HB := Aside0.mk hb1
  clear ho1 hb1
  go_wp2_with fail
  refine (rnum_all n _).mono ?_
  rintro e w2 ⟨v2, rfl, ho2, hb2⟩
  obtain ⟨A2, c2, rfl⟩ := Kd.R_slice ho2
  have HO1 := Aside0.mk (Kd.R_below HO1.out hb2)
  have HO2 := Aside0.mk ho2
  have HB := Aside0.mk (below_step HB.out hb2)
  have HR := Aside0.mk (Kd.C_below HR.out HB.out)
  clear ho2 hb2
  go_wp2_with (first | (go_at_call 11; (with_reducible refine (takeNum_calls A c l pl _ HR.out hc HW.out (by omega)).mono ?_); rintro e w' ⟨rfl, rfl⟩) | (go_at_call 12; (with_reducible refine (rtakeNum_calls A c l pl _ HR.out hc HW.out (by omega)).mono ?_); rintro e w' ⟨rfl, rfl⟩))
  refine (live_calls _).mono ?_
  rintro e w3 ⟨rfl, hb3⟩
  have HO1 := Aside0.mk (Kd.R_below HO1.out hb3)
  have HO2 := Aside0.mk (Kd.R_below HO2.out hb3)
  have HB := Aside0.mk (below_step HB.out hb3)
  clear hb3
  have e1 := conv_own (P := Try.prog) 22 9 5 Try.underlying22 Try.underlying5 Try.underlying9 HO1.out rfl rfl
  have e2 := conv_own (P := Try.prog) 22 9 5 Try.underlying22 Try.underlying5 Try.underlying9 HO2.out rfl rfl
  go_wp2
  go_ret
  exact ⟨rfl, HB.out⟩
set_option maxHeartbeats 2000000 in
theorem fixes_calls (n wd : Int) (A : Option Addr) (k c : Nat) (l : List Int) (pl : Int) (w : World) (hn : (Lit.int .i64 n).wf = true) (hwd : (Lit.int .i64 wd).wf = true) (hr : Kd.C (Kd.int .u8) w A k l) (hc : k ≤ c) (hb : ∀ x ∈ l, (Lit.int .u8 x).wf = true) (hm : k * 1 ≤ 140737488351232) (hp : (Lit.int .i64 pl).wf = true) :
    Calls Try.prog 6 #[.int .i64 n, .int .i64 wd, .slice A k c, .int .i64 pl] w fun e w' => e = .returned (.bool true) ∧ Below w.heap.size w w' := by
  obtain rfl : l.length = k := hr.1
  have HW := Aside0.mk (bytes_wf hb)
  have HR := Aside0.mk hr
  clear hr hb
  go_enter Try.func6, Try.ntmps6
  go_wp2_with fail
  refine (fixed_calls n wd _).mono ?_
  rintro e w1 ⟨v1, rfl, ho1, hb1⟩
  obtain ⟨A1, c1, rfl⟩ := Kd.R_slice ho1
  have HO1 := Aside0.mk ho1
  have HB := Aside0.mk hb1
  clear ho1 hb1
  go_wp2_with fail
  refine (rfixed_calls n wd _).mono ?_
  rintro e w2 ⟨v2, rfl, ho2, hb2⟩
  obtain ⟨A2, c2, rfl⟩ := Kd.R_slice ho2
  have HO1 := Aside0.mk (Kd.R_below HO1.out hb2)
  have HO2 := Aside0.mk ho2
  have HB := Aside0.mk (below_step HB.out hb2)
  have HR := Aside0.mk (Kd.C_below HR.out HB.out)
  clear ho2 hb2
  go_wp2_with (first | (go_at_call 20; (with_reducible refine (takeFixed_calls A _ c l pl wd _ HR.out hc HW.out (by omega)).mono ?_); rintro e w' ⟨rfl, rfl⟩) | (go_at_call 21; (with_reducible refine (rtakeFixed_calls A _ c l pl wd _ HR.out hc HW.out (by omega)).mono ?_); rintro e w' ⟨rfl, rfl⟩))
  refine (live_calls _).mono ?_
  rintro e w3 ⟨rfl, hb3⟩
  have HO1 := Aside0.mk (Kd.R_below HO1.out hb3)
  have HO2 := Aside0.mk (Kd.R_below HO2.out hb3)
  have HB := Aside0.mk (below_step HB.out hb3)
  clear hb3
  have e1 := conv_own (P := Try.prog) 22 9 5 Try.underlying22 Try.underlying5 Try.underlying9 HO1.out rfl rfl
  have e2 := conv_own (P := Try.prog) 22 9 5 Try.underlying22 Try.underlying5 Try.underlying9 HO2.out rfl rfl
  go_wp2
  go_ret
  exact ⟨rfl, HB.out⟩

set_option maxHeartbeats 2000000 in
theorem texts_calls (A : Option Addr) (k c : Nat) (l : List Int) (most : Int) (A0 : Option Addr) (k0 c0 : Nat) (b : List Int) (pl : Int) (w : World) (hr : Kd.C (Kd.int .u8) w A k l) (hc : k ≤ c) (hb : ∀ x ∈ l, (Lit.int .u8 x).wf = true) (hm : k ≤ 1048576) (hmo : (Lit.int .i64 most).wf = true)
    (hr0 : Kd.C (Kd.int .u8) w A0 k0 b) (hc0 : k0 ≤ c0) (hb0 : ∀ x ∈ b, (Lit.int .u8 x).wf = true) (hm0 : k0 ≤ 1048576) (hp : (Lit.int .i64 pl).wf = true) :
    Calls Try.prog 5 #[.slice A k c, .int .i64 most, .slice A0 k0 c0, .int .i64 pl] w fun e w' => e = .returned (.bool true) ∧ Below w.heap.size w w' := by
  obtain rfl : l.length = k := hr.1
  obtain rfl : b.length = k0 := hr0.1
  have HW := Aside0.mk (bytes_wf hb)
  have HW0 := Aside0.mk (bytes_wf hb0)
  have HR := Aside0.mk hr
  have HR0 := Aside0.mk hr0
  have HRw := HR
  clear hr hb hr0 hb0
  go_enter Try.func5, Try.ntmps5
  go_wp2_with fail
  refine (text_calls A c l most _ HR.out (by omega)).mono ?_
  rintro e w1 ⟨v1, rfl, ho1, hb1⟩
  obtain ⟨A1, c1, rfl⟩ := Kd.R_slice ho1
  have HO1 := Aside0.mk ho1
  have HB := Aside0.mk hb1
  have HR := Aside0.mk (Kd.C_below HR.out hb1)
  have HR0 := Aside0.mk (Kd.C_below HR0.out hb1)
  clear ho1 hb1
  go_wp2_with fail
  refine (rtext_calls A c l most _ HR.out (by omega)).mono ?_
  rintro e w2 ⟨v2, rfl, ho2, hb2⟩
  obtain ⟨A2, c2, rfl⟩ := Kd.R_slice ho2
  have HO1 := Aside0.mk (Kd.R_below HO1.out hb2)
  have HO2 := Aside0.mk ho2
  have HR := Aside0.mk (Kd.C_below HR.out (below_step (Below.refl _ _) hb2))
  have HR0 := Aside0.mk (Kd.C_below HR0.out (below_step (Below.refl _ _) hb2))
  have HB := Aside0.mk (below_step HB.out hb2)
  clear ho2 hb2
  go_wp2_with fail
  refine (takeText_calls A0 c0 b pl most _ HR0.out hc0 HW0.out (by omega)).mono ?_
  rintro e w3 ⟨v3, rfl, ho3, hb3⟩
  obtain ⟨A3, c3, rfl⟩ := Kd.R_slice ho3
  have HO1 := Aside0.mk (Kd.R_below HO1.out hb3)
  have HO2 := Aside0.mk (Kd.R_below HO2.out hb3)
  have HO3 := Aside0.mk ho3
  have HR := Aside0.mk (Kd.C_below HR.out (below_step (Below.refl _ _) hb3))
  have HR0 := Aside0.mk (Kd.C_below HR0.out (below_step (Below.refl _ _) hb3))
  have HB := Aside0.mk (below_step HB.out hb3)
  clear ho3 hb3
  go_wp2_with fail
  refine (rtakeText_calls A0 c0 b pl most _ HR0.out hc0 HW0.out (by omega)).mono ?_
  rintro e w4 ⟨v4, rfl, ho4, hb4⟩
  obtain ⟨A4, c4, rfl⟩ := Kd.R_slice ho4
  have HO1 := Aside0.mk (Kd.R_below HO1.out hb4)
  have HO2 := Aside0.mk (Kd.R_below HO2.out hb4)
  have HO3 := Aside0.mk (Kd.R_below HO3.out hb4)
  have HO4 := Aside0.mk ho4
  have HR := Aside0.mk (Kd.C_below HR.out (below_step (Below.refl _ _) hb4))
  have HR0 := Aside0.mk (Kd.C_below HR0.out (below_step (Below.refl _ _) hb4))
  have HB := Aside0.mk (below_step HB.out hb4)
  clear ho4 hb4
  have e1 := conv_own (P := Try.prog) 22 9 5 Try.underlying22 Try.underlying5 Try.underlying9 HO1.out rfl rfl
  have e2 := conv_own (P := Try.prog) 22 9 5 Try.underlying22 Try.underlying5 Try.underlying9 HO2.out rfl rfl
  have e3 := conv_own (P := Try.prog) 22 9 5 Try.underlying22 Try.underlying5 Try.underlying9 HO3.out rfl rfl
  have e4 := conv_own (P := Try.prog) 22 9 5 Try.underlying22 Try.underlying5 Try.underlying9 HO4.out rfl rfl
  by_cases h : (l.length : Int) ≤ most
  · have f1 : textE l most = 0 := if_pos h
    have HF := Aside0.mk (show textL l most = numB l.length ++ l from if_pos h)
    have HL := Aside0.mk (show (textL l most).length ≤ 1048584 by have := numB_len8 l.length (by omega); rw [HF.out, List.length_append]; omega)
    rw [f1] at *
    clear f1
    go_wp2_with ((with_reducible refine gate_builtin (b := .append) (xs := #[.tmp 81, .tmp 82]) rfl ?_); at_builtin; refine app (Kd.int .u8) (flat_int _) w.heap.size (w0 := w) (.tmp 81) (.tmp 82) 22 5 (.int .u8 0) 1 rfl rfl Try.underlying22 infoU8 rfl (by decide) (by decide) _ (textL l most) b A0 b.length c0 rfl rfl ?aO ?aR ?aB ?aS ?aL ?_; (case aO => exact (by (with_reducible repeat (first | apply Kd.R_alloc | apply Kd.R_drewN | apply Kd.R_drew)); exact HO1.out)); (case aR => exact HR0.out); (case aB => exact (by repeat (first | (with_reducible first | exact HB.out | apply below_alloc | apply pw_below_drewN | apply below_drew1) | exact HB.out))); (case aS => exact (below_size (by repeat (first | (with_reducible first | exact HB.out | apply below_alloc | apply pw_below_drewN | apply below_drew1) | exact HB.out)))); (case aL => exact (by have := HL.out; omega)); intro v5 w5 ho5 hb5 hg5 hat5)
    obtain ⟨A5, c5, rfl, hl5, hC5⟩ := Kd.R_reads ho5
    have HB5 := Aside0.mk hb5
    have HR := Aside0.mk (Kd.C_below HRw.out hb5)
    have hb6 : Bytes (textL l most ++ b) := bytes_app (by rw [HF.out]; exact bytes_app (numB_bytes _) HW.out) HW0.out
    refine (takeText_calls A5 c5 (textL l most ++ b) 0 most _ hC5 hl5 hb6 (by have := HL.out; simp only [List.length_append]; omega)).mono ?_
    have f3 : takeText (textL l most ++ b) 0 most = (l, ((numB l.length).length : Int) + l.length, 0) := by rw [HF.out]; exact takeText_textL l b most h (by omega)
    rw [f3]
    clear f3 hC5 hl5
    rintro e w6 ⟨v6, rfl, ho6, hb6⟩
    obtain ⟨A6, c6, rfl⟩ := Kd.R_slice ho6
    go_wp2_with fail
    refine (live_calls _).mono ?_
    rintro e w7 ⟨rfl, hb7⟩
    have e5 := conv_own (P := Try.prog) 22 9 5 Try.underlying22 Try.underlying5 Try.underlying9 (Kd.R_below ho6 hb7) rfl rfl
    have e6 := conv_read (P := Try.prog) 22 9 5 Try.underlying22 Try.underlying5 Try.underlying9 (c := c) (Kd.C_below HR.out (below_step hb6 hb7)) rfl
    go_wp2
    go_ret
    exact ⟨rfl, below_step (below_step HB5.out hb6) hb7⟩
  · have f1 : textE l most = 6 := if_neg h
    rw [f1] at *
    go_wp2_with fail
    refine (live_calls _).mono ?_
    rintro e w5 ⟨rfl, hb5⟩
    go_wp2
    go_ret
    exact ⟨rfl, below_step HB.out hb5⟩
theorem fixE_zero {n wd : Int} (h : fixE n wd = 0) : ∃ m v : Nat, n = (m : Int) ∧ wd = (v : Int) ∧ 1 ≤ v ∧ v ≤ 8 ∧ m < 256 ^ v ∧ m ≤ 9007199254740991 ∧ fixL n wd = be v m := by
  have hl : fixL n wd = be wd.toNat n.toNat := if_pos h
  unfold fixE at h
  split at h
  · cases h
  · rename_i h1
    split at h
    · cases h
    · rename_i h2
      simp only [not_or, Decidable.not_not] at h2
      have h3 := h2.1
      unfold okNum at h3
      refine ⟨n.toNat, wd.toNat, by omega, by omega, by omega, by omega, ?_, by omega, hl⟩
      rcases Nat.lt_or_ge n.toNat (256 ^ wd.toNat) with h5 | h5
      · exact h5
      · exact absurd (Nat.div_pos h5 (Nat.pow_pos (by decide))) h2.2
set_option maxHeartbeats 2000000 in
theorem fixedBack_calls (m n wd : Int) (A : Option Addr) (k c : Nat) (l : List Int) (w : World) (hmm : (Lit.int .i64 m).wf = true) (hn : (Lit.int .i64 n).wf = true) (hwd : (Lit.int .i64 wd).wf = true) (hr : Kd.C (Kd.int .u8) w A k l) (hc : k ≤ c) (hb : ∀ x ∈ l, (Lit.int .u8 x).wf = true) (hm : k * 1 ≤ 140737488351232) :
    Calls Try.prog 7 #[.int .i64 m, .int .i64 n, .int .i64 wd, .slice A k c] w fun e w' => e = .returned (.bool true) ∧ Below w.heap.size w w' := by
  obtain rfl : l.length = k := hr.1
  have HW := Aside0.mk (bytes_wf hb)
  have HRw := Aside0.mk hr
  clear hr hb
  go_enter Try.func7, Try.ntmps7
  go_wp2_with fail
  refine (fixed_calls m wd _).mono ?_
  rintro e w1 ⟨v1, rfl, ho1, hb1⟩
  obtain ⟨A1, c1, rfl⟩ := Kd.R_slice ho1
  have HO1 := Aside0.mk ho1
  have HB := Aside0.mk hb1
  clear ho1 hb1
  go_wp2_with fail
  refine (fixed_calls n wd _).mono ?_
  rintro e w2 ⟨v2, rfl, ho2, hb2⟩
  obtain ⟨A2, c2, rfl⟩ := Kd.R_slice ho2
  have HO1 := Aside0.mk (Kd.R_below HO1.out hb2)
  have HO2 := Aside0.mk ho2
  have HB := Aside0.mk (below_step HB.out hb2)
  clear ho2 hb2
  by_cases h1 : fixE m wd = 0
  · by_cases h2 : fixE n wd = 0
    · rw [h1, h2]
      obtain ⟨m, v, rfl, rfl, hv1, hv8, hm1, hm2, hfm⟩ := fixE_zero h1
      obtain ⟨n, v', rfl, hvv, _, _, hn1, hn2, hfn⟩ := fixE_zero h2
      obtain rfl : v = v' := by omega
      rw [hfm] at HO1
      rw [hfn] at HO2
      rw [hfm, hfn]
      clear h1 h2 hfm hfn hmm hn hwd hvv
      have HL := Aside0.mk (be_len v)
      have HN := Aside0.mk (And.intro (And.intro hm1 hn1) (And.intro hm2 hn2))
      clear hm1 hn1 hm2 hn2
      have HRB := Aside0.mk (Below.refl w2.heap.size w2)
      have HN0 := Aside0.mk (Kd.R_made_nil (Kd.int .u8) w2 5)
      have HR := Aside0.mk (Kd.C_below HRw.out HB.out)
      have HC1 := Aside0.mk (Kd.R_reads' HO1.out).2.2
      have HC2 := Aside0.mk (Kd.R_reads' HO2.out).2.2
      go_wp2_with (first | ((with_reducible refine gate_builtin (b := .append) (xs := #[.tmp 36, .tmp 37]) rfl ?_); at_builtin; refine app (Kd.int .u8) (flat_int _) w2.heap.size (w0 := w2) (.tmp 36) (.tmp 37) 22 5 (.int .u8 0) 1 rfl rfl Try.underlying22 infoU8 rfl (by decide) (by decide) _ ([] : List Int) l A l.length c rfl rfl ?aO ?aR ?aB ?aS ?aL ?_; (case aO => exact HN0.out); (case aR => exact (Kd.C_below HR.out (by repeat (first | (with_reducible first | exact HRB.out | apply below_alloc | apply pw_below_drewN | apply below_drew1) | exact HRB.out)))); (case aB => exact (by repeat (first | (with_reducible first | exact HRB.out | apply below_alloc | apply pw_below_drewN | apply below_drew1) | exact HRB.out))); (case aS => exact (below_size (by repeat (first | (with_reducible first | exact HRB.out | apply below_alloc | apply pw_below_drewN | apply below_drew1) | exact HRB.out)))); (case aL => exact (by simp; omega)); intro v3 w3 ho3 hb3 _ _; have HO3 := Aside0.mk ho3; have HB3 := Aside0.mk hb3; clear ho3 hb3) | ((with_reducible refine gate_builtin (b := .append) (xs := #[.tmp 38, .tmp 39]) rfl ?_); at_builtin; refine app (Kd.int .u8) (flat_int _) w2.heap.size (w0 := w2) (.tmp 38) (.tmp 39) 22 5 (.int .u8 0) 1 rfl rfl Try.underlying22 infoU8 rfl (by decide) (by decide) _ ([] ++ l) (be v m) A1 (be v m).length c1 rfl rfl ?aO ?aR ?aB ?aS ?aL ?_; (case aO => exact (by (with_reducible repeat (first | apply Kd.R_alloc | apply Kd.R_drewN | apply Kd.R_drew)); exact HO3.out)); (case aR => exact (Kd.C_below HC1.out (by repeat (first | (with_reducible first | exact HB3.out | apply below_alloc | apply pw_below_drewN | apply below_drew1) | exact HB3.out)))); (case aB => exact (by repeat (first | (with_reducible first | exact HB3.out | apply below_alloc | apply pw_below_drewN | apply below_drew1) | exact HB3.out))); (case aS => exact (below_size (by repeat (first | (with_reducible first | exact HB3.out | apply below_alloc | apply pw_below_drewN | apply below_drew1) | exact HB3.out)))); (case aL => exact (by rw [HL.out]; simp; omega)); intro v4 w4 ho4 hb4 _ _; have HO4 := Aside0.mk ho4; have HB4 := Aside0.mk hb4; clear ho4 hb4) | ((with_reducible refine gate_builtin (b := .append) (xs := #[.tmp 40, .tmp 41]) rfl ?_); at_builtin; refine app (Kd.int .u8) (flat_int _) w2.heap.size (w0 := w2) (.tmp 40) (.tmp 41) 22 5 (.int .u8 0) 1 rfl rfl Try.underlying22 infoU8 rfl (by decide) (by decide) _ ([] ++ l ++ be v m) (be v n) A2 (be v n).length c2 rfl rfl ?aO ?aR ?aB ?aS ?aL ?_; (case aO => exact (by (with_reducible repeat (first | apply Kd.R_alloc | apply Kd.R_drewN | apply Kd.R_drew)); exact HO4.out)); (case aR => exact (Kd.C_below HC2.out (by repeat (first | (with_reducible first | exact HB4.out | apply below_alloc | apply pw_below_drewN | apply below_drew1) | exact HB4.out)))); (case aB => exact (by repeat (first | (with_reducible first | exact HB4.out | apply below_alloc | apply pw_below_drewN | apply below_drew1) | exact HB4.out))); (case aS => exact (below_size (by repeat (first | (with_reducible first | exact HB4.out | apply below_alloc | apply pw_below_drewN | apply below_drew1) | exact HB4.out)))); (case aL => exact (by rw [HL.out, List.length_append, HL.out]; simp; omega)); intro v5 w5 ho5 hb5 _ _))
      have e5 : [] ++ l ++ be v m ++ be v n = l ++ (be v m ++ be v n) := by simp
      rw [e5] at ho5
      clear e5
      obtain ⟨A5, c5, rfl, hl5, hC5⟩ := Kd.R_reads ho5
      have hb6 : Bytes (l ++ (be v m ++ be v n)) := bytes_app HW.out (bytes_app (be_bytes _ _) (be_bytes _ _))
      refine (takeFixed_calls A5 _ c5 (l ++ (be v m ++ be v n)) l.length v _ hC5 hl5 hb6 (by rw [List.length_append, List.length_append, HL.out, HL.out]; omega)).mono ?_
      rw [takeFixed_be l (be v n) v m hv1 hv8 HN.out.1.1 HN.out.2.1]
      rintro e w6 ⟨rfl, rfl⟩
      clear hC5 hl5 hb6 ho5
      have HO1 := Aside0.mk (Kd.R_below HO1.out hb5)
      have HO2 := Aside0.mk (Kd.R_below HO2.out hb5)
      have HB5 := Aside0.mk (below_step HB.out hb5)
      clear hb5
      go_wp2_with fail
      refine (live_calls _).mono ?_
      rintro e w7 ⟨rfl, hb7⟩
      have e3 := conv_own (P := Try.prog) 22 9 5 Try.underlying22 Try.underlying5 Try.underlying9 (Kd.R_below HO1.out hb7) rfl rfl
      have e4 := conv_own (P := Try.prog) 22 9 5 Try.underlying22 Try.underlying5 Try.underlying9 (Kd.R_below HO2.out hb7) rfl rfl
      have e5 := str_less m n v HN.out.1.1 HN.out.1.2
      have e6 : decide ((m : Int) < (n : Int)) = decide (m < n) := by simp
      go_wp2
      go_ret
      exact ⟨rfl, below_step HB5.out hb7⟩
    · have h3 : (fixE n wd == 0) = false := by simpa using h2
      rw [h1]
      clear h2
      go_wp2_with fail
      refine (live_calls _).mono ?_
      rintro e w5 ⟨rfl, hb5⟩
      go_wp2
      go_ret
      exact ⟨rfl, below_step HB.out hb5⟩
  · have h3 : (fixE m wd == 0) = false := by simpa using h1
    clear h1
    go_wp2_with fail
    refine (live_calls _).mono ?_
    rintro e w5 ⟨rfl, hb5⟩
    go_wp2
    go_ret
    exact ⟨rfl, below_step HB.out hb5⟩
end Go.Proofs.Ytgfmchajkajagaa.OctL
