/- What octet.Num computes: a number's bytes. -/
import Derived.Test.YtlmcompoalhpnaaOInfo
namespace Go.Proofs.Ytlmcompoalhpnaa.Oct
open Go.RowKit Go.Proofs.YtlmcompoalhpnaaW.PrintWords Go.Proofs.YtlmcompoalhpnaaW.PrintLast Go.Proofs.YtlmcompoalhpnaaW.PrintMore Go.Proofs.Ytlmcompoalhpnaa.K Go.Proofs.Ytlmcompoalhpnaa.OctS
set_option linter.unusedVariables false
/-- number: is a number in its range? -/
theorem number_yes (a : Int) (h : okNum a) (w : World) : Calls Try.prog 24 #[.int .i64 a] w fun e w' => e = .returned (.bool true) ∧ w = w' := by
  unfold okNum at h
  obtain ⟨h1, h2⟩ := h
  have h3 : decide (0 ≤ a) = true := by simpa using h1
  have h4 : decide (a ≤ 9007199254740991) = true := by simpa using h2
  go_enter Try.func24, Try.ntmps24
  go_wp2
  go_ret
  exact ⟨rfl, rfl⟩
theorem number_no (a : Int) (h : ¬ okNum a) (w : World) : Calls Try.prog 24 #[.int .i64 a] w fun e w' => e = .returned (.bool false) ∧ w = w' := by
  unfold okNum at h
  by_cases h1 : 0 ≤ a
  · have h3 : decide (0 ≤ a) = true := by simpa using h1
    have h4 : decide (a ≤ 9007199254740991) = false := by simp; omega
    go_enter Try.func24, Try.ntmps24
    go_wp2
    go_ret
    exact ⟨rfl, rfl⟩
  · have h3 : decide (0 ≤ a) = false := by simpa using h1
    go_enter Try.func24, Try.ntmps24
    go_wp2
    go_ret
    exact ⟨rfl, rfl⟩

set_option maxHeartbeats 1000000 in
/-- octet.Num: a number out of its range. -/
theorem num_no (a : Int) (h : ¬ okNum a) (w : World) :
    Calls Try.prog 15 #[.int .i64 a] w fun e w' => ∃ v, e = .returned (.tuple #[v, .int .i64 6]) ∧ Kd.R (Kd.int .u8) 5 w' w.heap.size (fun _ => True) (v) ([]) ∧ Below w.heap.size w w' := by
  go_enter Try.func15, Try.ntmps15
  go_wp2_with (go_at_call 24; (with_reducible refine (number_no a h _).mono ?_); rintro e w' ⟨rfl, rfl⟩)
  go_ret2
  exact ⟨_, rfl, Kd.R_nil _ _ _ _ _, Below.refl _ _⟩

set_option maxHeartbeats 1000000 in
theorem num_ok (n : Nat) (h : n ≤ 9007199254740991) (w : World) :
    Calls Try.prog 15 #[.int .i64 (n : Int)] w fun e w' => ∃ v, e = .returned (.tuple #[v, .int .i64 0]) ∧ Kd.R (Kd.int .u8) 5 w' w.heap.size (fun _ => True) (v) (numB n) ∧ Below w.heap.size w w' := by
  have hk : okNum (n : Int) := by unfold okNum; omega
  have HL := Aside0.mk (numB_len8 n h)
  go_enter Try.func15, Try.ntmps15
  go_wp2_with (go_at_call 24; (with_reducible refine (number_yes (n : Int) hk _).mono ?_); rintro e w' ⟨rfl, rfl⟩)
  go_loopw [0, 4] (fun v0 v4 wr => ∃ (k : Nat) (acc : List Int), v0 = .int .i64 k ∧ k ≤ n ∧ Aside0 (acc ++ numB k = numB n) ∧ Aside0 (Kd.R (Kd.int .u8) 5 wr w.heap.size (fun _ => True) (v4) (acc)) ∧ Aside0 (Below w.heap.size w wr)) (fun v0 _ _ => (intOf v0).toNat)
  case atStart => exact ⟨n, [], rfl, Nat.le_refl _, ⟨rfl⟩, ⟨Kd.R_nil _ _ _ _ _⟩, ⟨Below.refl _ _⟩⟩
  case round =>
    obtain ⟨k, acc, rfl, hkn, HE, HO, HB⟩ := hrel
    have HA : Aside0 (acc.length + 1 ≤ 8) := ⟨by
      have e := congrArg List.length HE.out
      have : 1 ≤ (numB k).length := numB_pos k
      rw [List.length_append] at e
      have := HL.out
      omega⟩
    by_cases h1 : k < 128
    · have h2 : decide ((128 : Int) ≤ (k : Int)) = false := by simp; omega
      have h3 : ((k : Int)) % 256 = (k : Int) := by omega
      go_wp2_with ((with_reducible refine gate_builtin (b := .append) (xs := #[.tmp 19, .tmp 22]) rfl ?_); at_builtin; refine app1 (Kd.int .u8) (flat_int _) w.heap.size (w0 := w) (.tmp 19) (.tmp 22) 22 5 (.int .u8 0) 1 rfl rfl Try.underlying22 infoU8 rfl (by decide) (by decide) _ acc (k : Int) [.int .u8 (k : Int)] rfl rfl ?aP ?aO ?aB ?aS ?aL ?_; (case aP => first | exact rfl | exact ⟨trivial, rfl⟩ | exact ⟨HOK.out, rfl⟩); (case aO => exact (by (with_reducible repeat (first | apply Kd.R_alloc | apply Kd.R_drewN | apply Kd.R_drew)); exact HO.out)); (case aB => exact (by repeat (first | (with_reducible first | exact HB.out | apply below_alloc | apply pw_below_drewN | apply below_drew1) | exact HB.out))); (case aS => exact (below_size (by repeat (first | (with_reducible first | exact HB.out | apply below_alloc | apply pw_below_drewN | apply below_drew1) | exact HB.out)))); (case aL => exact (by have := HA.out; omega)); intro v1 w1 ho hb1 hg hat)
      go_ret2
      exact ⟨_, rfl, by rw [← HE.out, numB_lt k h1]; exact ho, hb1⟩
    · have h2 : decide ((128 : Int) ≤ (k : Int)) = true := by simp; omega
      go_wp2_with ((with_reducible refine gate_builtin (b := .append) (xs := #[.tmp 12, .tmp 17]) rfl ?_); at_builtin; refine app1 (Kd.int .u8) (flat_int _) w.heap.size (w0 := w) (.tmp 12) (.tmp 17) 22 5 (.int .u8 0) 1 rfl rfl Try.underlying22 infoU8 rfl (by decide) (by decide) _ acc ((k : Int) % 128 + 128) [.int .u8 ((k : Int) % 128 + 128)] rfl rfl ?aP ?aO ?aB ?aS ?aL ?_; (case aP => first | exact rfl | exact ⟨trivial, rfl⟩ | exact ⟨HOK.out, rfl⟩); (case aO => exact (by (with_reducible repeat (first | apply Kd.R_alloc | apply Kd.R_drewN | apply Kd.R_drew)); exact HO.out)); (case aB => exact (by repeat (first | (with_reducible first | exact HB.out | apply below_alloc | apply pw_below_drewN | apply below_drew1) | exact HB.out))); (case aS => exact (below_size (by repeat (first | (with_reducible first | exact HB.out | apply below_alloc | apply pw_below_drewN | apply below_drew1) | exact HB.out)))); (case aL => exact (by have := HA.out; omega)); intro v1 w1 ho hb1 hg hat)
      go_roundw
      case rel => exact ⟨k / 128, acc ++ [((k : Int) % 128 + 128)], by go_num, by omega, ⟨by rw [← HE.out, numB_ge k (by omega), List.append_assoc]; rfl⟩, ⟨ho⟩, ⟨hb1⟩⟩
      case measure => simp [intOf]; omega

end Go.Proofs.Ytlmcompoalhpnaa.Oct
