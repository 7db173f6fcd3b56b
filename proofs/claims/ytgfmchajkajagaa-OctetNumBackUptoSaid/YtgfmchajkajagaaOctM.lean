/- The law OctetNumBack answers true, walked over its functions; condition: the bytes around are no more than the bound of the Upto statement. -/
import Derived.Test.YtgfmchajkajagaaOctL
import Derived.Deep.RegionHeld3
namespace Go.Proofs.Ytgfmchajkajagaa.OctM
open Go Go.Proofs.YtgfmchajkajagaaW.PrintWords Go.Proofs.Ytgfmchajkajagaa.K Go.Proofs.Ytgfmchajkajagaa.OctS Go.Proofs.Ytgfmchajkajagaa.OctP Go.Proofs.Ytgfmchajkajagaa.Oct Go.Proofs.Ytgfmchajkajagaa.Rdr Go.Proofs.Ytgfmchajkajagaa.OctL Go.RowKit
set_option linter.unusedVariables false
set_option maxHeartbeats 4000000 in
theorem numBack_calls (n : Int) (A : Option Addr) (k c : Nat) (l : List Int) (w : World) (hn : (Lit.int .i64 n).wf = true) (hr : Kd.C (Kd.int .u8) w A k l) (hc : k ≤ c) (hb : ∀ x ∈ l, (Lit.int .u8 x).wf = true) (hm : k ≤ 1048576) :
    Calls Try.prog 4 #[.int .i64 n, .slice A k c] w fun e w' => e = .returned (.bool true) ∧ Below w.heap.size w w' := by
  obtain rfl : l.length = k := hr.1
  have HW := Aside0.mk (bytes_wf hb)
  have HRw := Aside0.mk hr
  clear hr hb
  go_enter Try.func4, Try.ntmps4
  go_wp2_with fail
  refine (num_all n _).mono ?_
  rintro e w1 ⟨v1, rfl, ho1, hb1⟩
  obtain ⟨A1, c1, rfl, _, hC1⟩ := Kd.R_reads ho1
  have HC1 := Aside0.mk hC1
  have HB := Aside0.mk hb1
  clear ho1 hb1 hC1
  have HL := Aside0.mk (numL_len n)
  have HRB := Aside0.mk (Below.refl w1.heap.size w1)
  have HN0 := Aside0.mk (Kd.R_made_nil (Kd.int .u8) w1 5)
  have HR := Aside0.mk (Kd.C_below HRw.out HB.out)
  go_wp2_with (first | ((with_reducible refine gate_builtin (b := .append) (xs := #[.tmp 21, .tmp 22]) rfl ?_); at_builtin; refine app (Kd.int .u8) (flat_int _) w1.heap.size (w0 := w1) (.tmp 21) (.tmp 22) 22 5 (.int .u8 0) 1 rfl rfl Try.underlying22 infoU8 rfl (by decide) (by decide) _ ([] : List Int) l A l.length c rfl rfl ?aO ?aR ?aB ?aS ?aL ?_; (case aO => exact HN0.out); (case aR => exact (Kd.C_below HR.out (by repeat (first | (with_reducible first | exact HRB.out | apply below_alloc | apply pw_below_drewN | apply below_drew1) | exact HRB.out)))); (case aB => exact (by repeat (first | (with_reducible first | exact HRB.out | apply below_alloc | apply pw_below_drewN | apply below_drew1) | exact HRB.out))); (case aS => exact (below_size (by repeat (first | (with_reducible first | exact HRB.out | apply below_alloc | apply pw_below_drewN | apply below_drew1) | exact HRB.out)))); (case aL => exact (by simp; omega)); intro v3 w3 ho3 hb3 _ _; have HO3 := Aside0.mk ho3; have HB3 := Aside0.mk hb3; clear ho3 hb3) | ((with_reducible refine gate_builtin (b := .append) (xs := #[.tmp 23, .tmp 24]) rfl ?_); at_builtin; refine app (Kd.int .u8) (flat_int _) w1.heap.size (w0 := w1) (.tmp 23) (.tmp 24) 22 5 (.int .u8 0) 1 rfl rfl Try.underlying22 infoU8 rfl (by decide) (by decide) _ ([] ++ l) (numL n) A1 (numL n).length c1 rfl rfl ?aO ?aR ?aB ?aS ?aL ?_; (case aO => exact (by (with_reducible repeat (first | apply Kd.R_alloc | apply Kd.R_drewN | apply Kd.R_drew)); exact HO3.out)); (case aR => exact (Kd.C_below HC1.out (by repeat (first | (with_reducible first | exact HB3.out | apply below_alloc | apply pw_below_drewN | apply below_drew1) | exact HB3.out)))); (case aB => exact (by repeat (first | (with_reducible first | exact HB3.out | apply below_alloc | apply pw_below_drewN | apply below_drew1) | exact HB3.out))); (case aS => exact (below_size (by repeat (first | (with_reducible first | exact HB3.out | apply below_alloc | apply pw_below_drewN | apply below_drew1) | exact HB3.out)))); (case aL => exact (by have := HL.out; simp; omega)); intro v4 w4 ho4 hb4 _ _; have HO4 := Aside0.mk ho4; have HB4 := Aside0.mk hb4; clear ho4 hb4) | ((with_reducible refine gate_builtin (b := .append) (xs := #[.tmp 25, .tmp 26]) rfl ?_); at_builtin; refine app (Kd.int .u8) (flat_int _) w1.heap.size (w0 := w1) (.tmp 25) (.tmp 26) 22 5 (.int .u8 0) 1 rfl rfl Try.underlying22 infoU8 rfl (by decide) (by decide) _ ([] ++ l ++ numL n) l A l.length c rfl rfl ?aO ?aR ?aB ?aS ?aL ?_; (case aO => exact (by (with_reducible repeat (first | apply Kd.R_alloc | apply Kd.R_drewN | apply Kd.R_drew)); exact HO4.out)); (case aR => exact (Kd.C_below HR.out (by repeat (first | (with_reducible first | exact HB4.out | apply below_alloc | apply pw_below_drewN | apply below_drew1) | exact HB4.out)))); (case aB => exact (by repeat (first | (with_reducible first | exact HB4.out | apply below_alloc | apply pw_below_drewN | apply below_drew1) | exact HB4.out))); (case aS => exact (below_size (by repeat (first | (with_reducible first | exact HB4.out | apply below_alloc | apply pw_below_drewN | apply below_drew1) | exact HB4.out)))); (case aL => exact (by have := HL.out; simp; omega)); intro v5 w5 ho5 hb5 _ _))
  have e5 : [] ++ l ++ numL n ++ l = l ++ (numL n ++ l) := by simp
  rw [e5] at ho5
  clear e5
  obtain ⟨A5, c5, rfl, hl5, hC5⟩ := Kd.R_reads ho5
  have hb6 : Bytes (l ++ (numL n ++ l)) := bytes_app HW.out (bytes_app (by unfold numL; split; exact numB_bytes _; exact fun x hx => by cases hx) HW.out)
  refine (takeNum_calls A5 c5 (l ++ (numL n ++ l)) l.length _ hC5 hl5 hb6 (by have := HL.out; rw [List.length_append, List.length_append]; omega)).mono ?_
  rintro e w6 ⟨rfl, rfl⟩
  clear hC5 hl5 hb6 ho5
  have HB5 := Aside0.mk (below_step HB.out hb5)
  have HR := Aside0.mk (Kd.C_below HRw.out HB5.out)
  clear hb5
  have HF : numE n = 0 → ∃ m : Nat, n = (m : Int) ∧ takeNum (l ++ (numL n ++ l)) l.length = ((m : Int), (l.length : Int) + (numL n).length, 0) := by
    intro h
    unfold numE at h
    split at h
    · rename_i h1
      obtain ⟨m, rfl⟩ := Int.eq_ofNat_of_zero_le h1.1
      have e : numL (m : Int) = numB m := by unfold numL; rw [if_pos h1]; rfl
      refine ⟨m, rfl, ?_⟩
      rw [e]
      exact takeNum_numB l l m (by have := h1.2; omega)
    · cases h
  obtain hX | hE : (∃ m : Nat, n = (m : Int) ∧ takeNum (l ++ (numL n ++ l)) l.length = ((m : Int), (l.length : Int) + (numL n).length, 0) ∧ numE n = 0) ∨ (numE n == 0) = false := by
    by_cases h : numE n = 0
    · obtain ⟨m, h1, h2⟩ := HF h
      exact .inl ⟨m, h1, h2, h⟩
    · exact .inr (by simpa using h)
  case' inl =>
    obtain ⟨m, rfl, hX, hE⟩ := hX
    rw [hX, hE]
    have hL8 := HL.out
    clear hX hE HF
  case' inr => clear HF
  all_goals
    go_wp2_with fail
    refine (takeNum_calls A c l 0 _ HR.out hc HW.out (by omega)).mono ?_
    rintro e w6 ⟨rfl, rfl⟩
    by_cases hG : (takeNum l 0).2.2 = 0
    · obtain ⟨m', r, hm', hy, hk, hl⟩ := takeNum_back l HW.out hG
      have hkl : (numB m').length ≤ l.length := by rw [hl, List.length_append]; omega
      have htk : l.take (numB m').length = numB m' := by rw [hl, List.take_left]
      rw [hG, hy, hk]
      clear hG hy hk hl
      go_wp2_with fail
      refine (num_ok m' hm' _).mono ?_
      rintro e w7 ⟨v7, rfl, ho7, hb7⟩
      obtain ⟨A7, c7, rfl⟩ := Kd.R_slice ho7
      have HO7 := Aside0.mk ho7
      have HB7 := Aside0.mk (below_step HB5.out hb7)
      clear ho7 hb7
      obtain ⟨hcut, hA⟩ := cutH (Kd.int .u8) 22 5 Try.underlying22 infoU8 A l.length c (numB m').length hkl hc
      have HA := Aside0.mk hA
      clear hA
      have HS : ∀ W, Below w7.heap.size w7 W → (convert 22 9 (.slice A7 (numB m').length c7)).run Try.prog W = .ok (.string (strOfNums (numB m'))) W ∧ (convert 22 9 (.slice A (numB m').length c)).run Try.prog W = .ok (.string (strOfNums (numB m'))) W := by
        intro W hW
        have h1 := HA.out W l (Kd.C_below HRw.out (below_step HB7.out hW))
        rw [htk] at h1
        exact ⟨conv_own (P := Try.prog) 22 9 5 Try.underlying22 Try.underlying5 Try.underlying9 (Kd.R_below HO7.out hW) rfl rfl, conv_read (P := Try.prog) 22 9 5 Try.underlying22 Try.underlying5 Try.underlying9 h1 rfl⟩
      have HS0 := Aside0.mk HS
      clear HS
      have hle : decide (((numB m').length : Int) ≤ (l.length : Int)) = true := by simp; omega
      go_wp2_with fail
      go_region_held3 (fun w' => ((convert 22 9 (.slice A7 (numB m').length c7)).run Try.prog w' = .ok (.string (strOfNums (numB m'))) w' ∧ (convert 22 9 (.slice A (numB m').length c)).run Try.prog w' = .ok (.string (strOfNums (numB m'))) w') ∧ Below w.heap.size w w') (first | exact ⟨HS0.out _ (Below.refl _ _), HB7.out⟩ | exact ⟨HS0.out _ (below_drew (Below.refl _ _)), below_drew HB7.out⟩ | exact ⟨HS0.out _ (below_step (below_drew (Below.refl _ _)) hb7), below_step HB7.out (below_step (below_drew (Below.refl _ _)) hb7)⟩) (first | (go_at_call 13; refine (live_calls _).mono ?_; rintro e w8 ⟨rfl, hb7⟩))
      rename_i hh
      go_wp2
      go_ret
      exact ⟨rfl, hh.2⟩
    · have hG2 : ((takeNum l 0).2.2 != 0) = true := by simpa using hG
      have hG3 : ((takeNum l 0).2.2 == 0) = false := by simpa using hG
      clear hG
      go_wp2_with fail
      refine (num_all (takeNum l 0).1 _).mono ?_
      rintro e w7 ⟨v7, rfl, ho7, hb7⟩
      obtain ⟨A7, c7, rfl⟩ := Kd.R_slice ho7
      have HB7 := Aside0.mk (below_step HB5.out hb7)
      clear ho7 hb7
      go_wp2_with fail
      clear HR HRw HW HL HRB HN0 HC1
      (refine wp_region_class (fun w' => Below w.heap.size w w') (by kernel_rfl) (by kernel_rfl) (below_drew1 HB7.out) (fun _ => ?_); (repeat (go_big_quiet_step (((rename_i x; go_at_call 13; refine (live_calls _).mono ?_; rintro e w8 ⟨rfl, hb7⟩; exact ⟨rfl, ⟨w8, below_step x.h hb7⟩, rfl⟩))))); refine wpQuiet_nil ?_; intro w' hS)
      go_wp2
      go_ret
      exact ⟨rfl, hS⟩
end Go.Proofs.Ytgfmchajkajagaa.OctM
