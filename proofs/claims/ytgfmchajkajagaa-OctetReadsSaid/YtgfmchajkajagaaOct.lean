/- What the functions of the package octet and of its reference compute, walked once for every argument; conditions: rows of bytes no longer than the machine holds. -/
import Derived.Test.YtgfmchajkajagaaK
import Derived.Test.YtgfmchajkajagaaOctS
namespace Go.Proofs.Ytgfmchajkajagaa.Oct
open Go.RowKit Go.Proofs.YtgfmchajkajagaaW.PrintWords Go.Proofs.YtgfmchajkajagaaW.PrintLast Go.Proofs.YtgfmchajkajagaaW.PrintMore Go.Proofs.Ytgfmchajkajagaa.K Go.Proofs.Ytgfmchajkajagaa.OctS
set_option linter.unusedVariables false

theorem infoU8 : (Try.prog.info? 5).map (fun i => (i.zero, i.size, i.bytes)) = some (some (.int .u8 0), 1, 1) := by kernel_rfl
theorem qB (w : World) (a : Option Addr) (n c n' c' : Nat) : (binOp .eql 22 (.slice a n c) (.slice none n' c')).run Try.prog w = .ok (.bool a.isNone) w := Lib.run_eql_slice_nil w _ _ a n c n' c' Try.underlying22

set_option maxHeartbeats 1000000 in
/-- slices.Clone at bytes. -/
theorem clone_calls (A0 : Option Addr) (n c0 : Nat) (l0 : List Int) (w : World) (hr : Kd.C (Kd.int .u8) w A0 n l0) (hb : n ≤ 140737488355328) :
    Calls Try.prog 34 #[.slice A0 n c0] w fun e w' => ∃ v, e = .returned v ∧ Kd.R (Kd.int .u8) 5 w' w.heap.size (fun _ => True) (v) (l0) ∧ Below w.heap.size w w' := by
  have HB := Aside0.mk (Below.refl w.heap.size w)
  have hq := qB
  cases A0 with
  | none =>
    obtain rfl : l0 = [] := C_none hr
    go_enter Try.func34, Try.ntmps34
    go_wp2
    go_ret
    exact ⟨_, rfl, Kd.R_nil _ _ _ _ _, HB.out⟩
  | some a =>
    have HR := Aside0.mk hr
    clear hr
    have HN := Aside0.mk (Kd.R_made_nil (Kd.int .u8) w 5)
    go_enter Try.func34, Try.ntmps34
    go_wp2_with ((with_reducible refine gate_builtin (b := .append) (xs := #[.tmp 5, .tmp 6]) rfl ?_); at_builtin; refine app (Kd.int .u8) (flat_int _) w.heap.size (w0 := w) (.tmp 5) (.tmp 6) 22 5 (.int .u8 0) 1 rfl rfl Try.underlying22 infoU8 rfl (by decide) (by decide) _ [] l0 (some a) n c0 rfl rfl ?aO ?aR ?aB ?aS ?aL ?_; (case aO => exact HN.out); (case aR => exact (Kd.C_below HR.out (by repeat (first | (with_reducible first | exact HB.out | apply below_alloc | apply pw_below_drewN | apply below_drew1) | exact HB.out)))); (case aB => exact (by repeat (first | (with_reducible first | exact HB.out | apply below_alloc | apply pw_below_drewN | apply below_drew1) | exact HB.out))); (case aS => exact (below_size (by repeat (first | (with_reducible first | exact HB.out | apply below_alloc | apply pw_below_drewN | apply below_drew1) | exact HB.out)))); (case aL => exact (by simp; omega)); intro v1 w1 ho hb1 hg hat)
    go_ret
    exact ⟨_, rfl, by simpa using ho, hb1⟩

/-- number: is a number in its range? -/
theorem number_yes (a : Int) (h : okNum a) (w : World) : Calls Try.prog 33 #[.int .i64 a] w fun e w' => e = .returned (.bool true) ∧ w = w' := by
  unfold okNum at h
  obtain ⟨h1, h2⟩ := h
  have h3 : decide (0 ≤ a) = true := by simpa using h1
  have h4 : decide (a ≤ 9007199254740991) = true := by simpa using h2
  go_enter Try.func33, Try.ntmps33
  go_wp2
  go_ret
  exact ⟨rfl, rfl⟩
theorem number_no (a : Int) (h : ¬ okNum a) (w : World) : Calls Try.prog 33 #[.int .i64 a] w fun e w' => e = .returned (.bool false) ∧ w = w' := by
  unfold okNum at h
  by_cases h1 : 0 ≤ a
  · have h3 : decide (0 ≤ a) = true := by simpa using h1
    have h4 : decide (a ≤ 9007199254740991) = false := by simp; omega
    go_enter Try.func33, Try.ntmps33
    go_wp2
    go_ret
    exact ⟨rfl, rfl⟩
  · have h3 : decide (0 ≤ a) = false := by simpa using h1
    go_enter Try.func33, Try.ntmps33
    go_wp2
    go_ret
    exact ⟨rfl, rfl⟩

set_option maxHeartbeats 1000000 in
/-- octet.Num: a number out of its range. -/
theorem num_no (a : Int) (h : ¬ okNum a) (w : World) :
    Calls Try.prog 9 #[.int .i64 a] w fun e w' => ∃ v, e = .returned (.tuple #[v, .int .i64 6]) ∧ Kd.R (Kd.int .u8) 5 w' w.heap.size (fun _ => True) (v) ([]) ∧ Below w.heap.size w w' := by
  go_enter Try.func9, Try.ntmps9
  go_wp2_with (go_at_call 33; (with_reducible refine (number_no a h _).mono ?_); rintro e w' ⟨rfl, rfl⟩)
  go_ret2
  exact ⟨_, rfl, Kd.R_nil _ _ _ _ _, Below.refl _ _⟩

set_option maxHeartbeats 1000000 in
theorem num_ok (n : Nat) (h : n ≤ 9007199254740991) (w : World) :
    Calls Try.prog 9 #[.int .i64 (n : Int)] w fun e w' => ∃ v, e = .returned (.tuple #[v, .int .i64 0]) ∧ Kd.R (Kd.int .u8) 5 w' w.heap.size (fun _ => True) (v) (numB n) ∧ Below w.heap.size w w' := by
  have hk : okNum (n : Int) := by unfold okNum; omega
  have HL := Aside0.mk (numB_len8 n h)
  go_enter Try.func9, Try.ntmps9
  go_wp2_with (go_at_call 33; (with_reducible refine (number_yes (n : Int) hk _).mono ?_); rintro e w' ⟨rfl, rfl⟩)
  go_loopw [0, 4] (fun v0 v4 wr => ∃ (k : Nat) (acc : List Int), v0 = .int .i64 k ∧ k ≤ n ∧ Aside0 (acc ++ numB k = numB n) ∧ Aside0 (Kd.R (Kd.int .u8) 5 wr w.heap.size (fun _ => True) (v4) (acc)) ∧ Aside0 (Below w.heap.size w wr)) (fun v0 _ _ => (intOf v0).toNat)
  case atStart => exact ⟨n, [], rfl, Nat.le_refl _, ⟨rfl⟩, ⟨Kd.R_nil _ _ _ _ _⟩, ⟨Below.refl _ _⟩⟩
  case round =>
    obtain ⟨k, acc, rfl, hkn, HE, HO, HB⟩ := hrel
    have HA : Aside0 (acc.length + 1 ≤ 8) := ⟨by
      have e := congrArg List.length HE.out
      have : 1 ≤ (numB k).length := numB_pos k
      rw [List.length_append] at e
      have := HL.out
      omega⟩
    by_cases h1 : k < 128
    · have h2 : decide ((128 : Int) ≤ (k : Int)) = false := by simp; omega
      have h3 : ((k : Int)) % 256 = (k : Int) := by omega
      go_wp2_with ((with_reducible refine gate_builtin (b := .append) (xs := #[.tmp 19, .tmp 22]) rfl ?_); at_builtin; refine app1 (Kd.int .u8) (flat_int _) w.heap.size (w0 := w) (.tmp 19) (.tmp 22) 22 5 (.int .u8 0) 1 rfl rfl Try.underlying22 infoU8 rfl (by decide) (by decide) _ acc (k : Int) [.int .u8 (k : Int)] rfl rfl ?aP ?aO ?aB ?aS ?aL ?_; (case aP => exact rfl); (case aO => exact (by (with_reducible repeat (first | apply Kd.R_alloc | apply Kd.R_drewN | apply Kd.R_drew)); exact HO.out)); (case aB => exact (by repeat (first | (with_reducible first | exact HB.out | apply below_alloc | apply pw_below_drewN | apply below_drew1) | exact HB.out))); (case aS => exact (below_size (by repeat (first | (with_reducible first | exact HB.out | apply below_alloc | apply pw_below_drewN | apply below_drew1) | exact HB.out)))); (case aL => exact (by have := HA.out; omega)); intro v1 w1 ho hb1 hg hat)
      go_ret2
      exact ⟨_, rfl, by rw [← HE.out, numB_lt k h1]; exact ho, hb1⟩
    · have h2 : decide ((128 : Int) ≤ (k : Int)) = true := by simp; omega
      go_wp2_with ((with_reducible refine gate_builtin (b := .append) (xs := #[.tmp 12, .tmp 17]) rfl ?_); at_builtin; refine app1 (Kd.int .u8) (flat_int _) w.heap.size (w0 := w) (.tmp 12) (.tmp 17) 22 5 (.int .u8 0) 1 rfl rfl Try.underlying22 infoU8 rfl (by decide) (by decide) _ acc ((k : Int) % 128 + 128) [.int .u8 ((k : Int) % 128 + 128)] rfl rfl ?aP ?aO ?aB ?aS ?aL ?_; (case aP => exact rfl); (case aO => exact (by (with_reducible repeat (first | apply Kd.R_alloc | apply Kd.R_drewN | apply Kd.R_drew)); exact HO.out)); (case aB => exact (by repeat (first | (with_reducible first | exact HB.out | apply below_alloc | apply pw_below_drewN | apply below_drew1) | exact HB.out))); (case aS => exact (below_size (by repeat (first | (with_reducible first | exact HB.out | apply below_alloc | apply pw_below_drewN | apply below_drew1) | exact HB.out)))); (case aL => exact (by have := HA.out; omega)); intro v1 w1 ho hb1 hg hat)
      go_roundw
      case rel => exact ⟨k / 128, acc ++ [((k : Int) % 128 + 128)], by go_num, by omega, ⟨by rw [← HE.out, numB_ge k (by omega), List.append_assoc]; rfl⟩, ⟨ho⟩, ⟨hb1⟩⟩
      case measure => simp [intOf]; omega

set_option maxHeartbeats 4000000 in
/-- octet.TakeNum. -/
theorem takeNum_calls (A : Option Addr) (c : Nat) (l : List Int) (pl : Int) (w : World) (hr : Kd.C (Kd.int .u8) w A l.length l) (hc : l.length ≤ c) (hb : Bytes l) (hm : l.length ≤ 140737488355328) :
    Calls Try.prog 11 #[.slice A l.length c, .int .i64 pl] w fun e w' => e = .returned (.tuple #[.int .i64 (takeNum l pl).1, .int .i64 (takeNum l pl).2.1, .int .i64 (takeNum l pl).2.2]) ∧ w = w' := by
  by_cases h1 : pl < 0
  · have e : takeNum l pl = (0, 0, 2) := by unfold takeNum; rw [if_pos (Or.inl h1)]
    rw [e]; clear e
    have h2 : decide (pl < 0) = true := by simpa using h1
    go_enter Try.func11, Try.ntmps11
    go_wp2
    go_ret3
    exact ⟨rfl, rfl⟩
  · have h2 : decide (pl < 0) = false := by simpa using h1
    by_cases h3 : (l.length : Int) < pl
    · have e : takeNum l pl = (0, 0, 2) := by unfold takeNum; rw [if_pos (Or.inr h3)]
      rw [e]; clear e
      have h4 : decide ((l.length : Int) < pl) = true := by simpa using h3
      go_enter Try.func11, Try.ntmps11
      go_wp2
      go_ret3
      exact ⟨rfl, rfl⟩
    · have e : takeNum l pl = tk pl 0 0 (l.drop pl.toNat) := by unfold takeNum; rw [if_neg (by omega)]
      obtain ⟨m, rfl⟩ := Int.eq_ofNat_of_zero_le (Int.not_lt.1 h1)
      rw [e, Int.toNat_natCast]; clear e h1
      have hml : m ≤ l.length := by omega
      have h4 : decide ((l.length : Int) < (m : Int)) = false := by simpa using h3
      have h5 : decide (l.length < m) = false := by simpa using h3
      obtain ⟨A', hcut, hA'⟩ := cutL (Kd.int .u8) 22 5 Try.underlying22 infoU8 A l.length c m hml hc
      have HR := Aside0.mk (hA' w l hr)
      clear hA' hr h3
      have HBy := Aside0.mk (hb.drop m)
      have hrl := List.length_drop (l := l) (i := m)
      generalize l.drop m = r at HR HBy hrl ⊢
      have HL := Aside0.mk hrl
      have hrl2 : l.length - m = r.length := hrl.symm
      clear hrl
      rw [hrl2] at hcut HR
      have hrl3 : r.length ≤ l.length := by omega
      clear hrl2
      go_enter Try.func11, Try.ntmps11
      go_wp2
      go_loopg [7, 22] (r.length + 1) (fun gk v7 v22 wr => ∃ (i acc : Nat), v7 = .int .i64 acc ∧ v22 = .int .i64 i ∧ i ≤ r.length ∧ i ≤ 7 ∧ acc < 128 ^ i ∧ gk = r.length - i + 1 ∧ Aside0 (tk m i acc (r.drop i) = tk m 0 0 r) ∧ w = wr)
      case atStart => exact ⟨0, 0, rfl, rfl, Nat.zero_le _, by omega, by simp, rfl, ⟨rfl⟩, rfl⟩
      case round =>
        obtain ⟨i, acc, rfl, rfl, hir, hi7, hacc, hgk, HT, rfl⟩ := hrel
        have HG := Aside0.mk hgk
        clear hgk
        by_cases hlt : i < r.length
        · obtain ⟨ad, rfl, hcell⟩ := Kd.at_int HR.out (i : Int) (by omega) (by omega)
          have hby := HBy.out.getD i
          have hd := drop_get r i hlt
          have HD := Aside0.mk hd
          have hrd : rd r (i : Int) = r.getD i 0 := rfl
          rw [hrd] at hcell
          clear hd hrd
          generalize r.getD i 0 = x at hcell hby HD
          rw [Int.toNat_natCast] at hcell
          go_wp2
          · go_ret3
            have h5 : (i : Int) = 7 := by assumption
            have h6 : 15 < x := by assumption
            exact ⟨ret3i (by rw [← HT.out, HD.out, tk_big _ _ _ _ _ (by omega) h6]), rfl⟩
          · go_ret3
            have h5 : (i : Int) = 7 := by assumption
            have h6 : x = 0 := by assumption
            exact ⟨ret3i (by rw [← HT.out, HD.out, tk_form _ _ _ _ _ h6 (by omega)]), rfl⟩
          · go_ret3
            have h5 : (i : Int) = 7 := by assumption
            have h6 : x ≤ 15 := by assumption
            have h7 : ¬ x = 0 := by assumption
            obtain rfl : i = 7 := by omega
            exact ⟨ret3i (by rw [← HT.out, HD.out, tk_last _ _ _ _ _ (by omega) (by omega) (by omega), or_num7 _ _ hby.1 hacc, show x % 128 = x from by omega]; rfl), rfl⟩
          · have h5 : ¬ (i : Int) = 7 := by assumption
            have h6 : 128 ≤ x := by assumption
            have hx : (x % 128).toNat ≤ 127 := by omega
            go_roundg (r.length - (i + 1) + 1)
            case measure => have := HG.out; omega
            case rel =>
              refine ⟨i + 1, acc + (x % 128).toNat * 128 ^ i, ?_, by go_num, by omega, by omega, ?_, rfl, ⟨?_⟩, rfl⟩
              · rw [or_num _ _ _ hby.1 hacc hi7]
              · rw [Nat.pow_succ]
                have := Nat.mul_le_mul_right (128 ^ i) hx
                omega
              · rw [← HT.out, HD.out, tk_more _ _ _ _ _ (by omega) h6]
          · go_ret3
            have h6 : x = 0 := by assumption
            have h7 : 0 < i := by assumption
            exact ⟨ret3i (by rw [← HT.out, HD.out, tk_form _ _ _ _ _ h6 h7]), rfl⟩
          · go_ret3
            have h5 : ¬ (i : Int) = 7 := by assumption
            have h6 : x = 0 := by assumption
            have h7 : ¬ 0 < i := by assumption
            have e := or_num acc i x hby.1 hacc hi7
            rw [show (x % 128).toNat = x.toNat from by omega] at e
            exact ⟨ret3i (by rw [← HT.out, HD.out, tk_last _ _ _ _ _ (by omega) (by omega) (by omega), ← e]; simp [h6]), rfl⟩
          · go_ret3
            have h5 : ¬ (i : Int) = 7 := by assumption
            have h6 : x < 128 := by assumption
            have h7 : ¬ x = 0 := by assumption
            exact ⟨ret3i (by rw [← HT.out, HD.out, tk_last _ _ _ _ _ (by omega) (by omega) (by omega), or_num _ _ _ hby.1 hacc hi7, show x % 128 = x from by omega]), rfl⟩
        · go_wp2
          go_ret3
          exact ⟨ret3i (by rw [← HT.out, drop_nil r i (by omega), tk_nil]), rfl⟩

set_option maxHeartbeats 1000000 in
/-- The reference's Num. -/
theorem rnum_no (a : Int) (h : ¬ okNum a) (w : World) :
    Calls Try.prog 10 #[.int .i64 a] w fun e w' => ∃ v, e = .returned (.tuple #[v, .int .i64 6]) ∧ Kd.R (Kd.int .u8) 5 w' w.heap.size (fun _ => True) (v) ([]) ∧ Below w.heap.size w w' := by
  unfold okNum at h
  by_cases h1 : a < 0
  · have h3 : decide (a < 0) = true := by simpa using h1
    go_enter Try.func10, Try.ntmps10
    go_wp2
    go_ret2
    exact ⟨_, rfl, Kd.R_nil _ _ _ _ _, Below.refl _ _⟩
  · have h3 : decide (a < 0) = false := by simpa using h1
    have h4 : decide (9007199254740991 < a) = true := by simp; omega
    go_enter Try.func10, Try.ntmps10
    go_wp2
    go_ret2
    exact ⟨_, rfl, Kd.R_nil _ _ _ _ _, Below.refl _ _⟩

set_option maxHeartbeats 1000000 in
theorem rnum_ok (n : Nat) (h : n ≤ 9007199254740991) (w : World) :
    Calls Try.prog 10 #[.int .i64 (n : Int)] w fun e w' => ∃ v, e = .returned (.tuple #[v, .int .i64 0]) ∧ Kd.R (Kd.int .u8) 5 w' w.heap.size (fun _ => True) (v) (numB n) ∧ Below w.heap.size w w' := by
  have h1 : decide ((n : Int) < 0) = false := by simp
  have h2 : decide (9007199254740991 < (n : Int)) = false := by simp; omega
  have h2' : decide (9007199254740991 < n) = false := by simp; omega
  have HL := Aside0.mk (numB_len8 n h)
  have HN := Aside0.mk (Kd.R_made_nil (Kd.int .u8) w 5)
  go_enter Try.func10, Try.ntmps10
  go_wp2
  go_loopg [0, 4] (n + 1) (fun gk v0 v4 wr => ∃ (k : Nat) (acc : List Int), v0 = .int .i64 k ∧ k ≤ n ∧ gk = k + 1 ∧ Aside0 (acc ++ numB k = numB n) ∧ Aside0 (Kd.R (Kd.int .u8) 5 wr w.heap.size (fun _ => True) (v4) (acc)) ∧ Aside0 (Below w.heap.size w wr))
  case atStart => exact ⟨n, [], rfl, Nat.le_refl _, rfl, ⟨rfl⟩, ⟨HN.out⟩, ⟨below_alloc (Below.refl _ _) _⟩⟩
  case round =>
    obtain ⟨k, acc, rfl, hkn, hgk, HE, HO, HB⟩ := hrel
    have HG := Aside0.mk hgk
    clear hgk
    have HA : Aside0 (acc.length + 1 ≤ 8) := ⟨by
      have e := congrArg List.length HE.out
      have : 1 ≤ (numB k).length := numB_pos k
      rw [List.length_append] at e
      have := HL.out
      omega⟩
    by_cases h1 : k < 128
    · have h3 : ((k : Int) / 128 == 0) = true := by simp; omega
      have h4 : (k : Int) / 128 = 0 := by omega
      have HK := Aside0.mk h4
      clear h4
      go_wp2_with ((with_reducible refine gate_builtin (b := .append) (xs := #[.tmp 20, .tmp 22]) rfl ?_); at_builtin; refine app1 (Kd.int .u8) (flat_int _) w.heap.size (w0 := w) (.tmp 20) (.tmp 22) 22 5 (.int .u8 0) 1 rfl rfl Try.underlying22 infoU8 rfl (by decide) (by decide) _ acc ((k : Int) % 128) [.int .u8 ((k : Int) % 128)] rfl rfl ?aP ?aO ?aB ?aS ?aL ?_; (case aP => exact rfl); (case aO => exact (by (with_reducible repeat (first | apply Kd.R_alloc | apply Kd.R_drewN | apply Kd.R_drew)); exact HO.out)); (case aB => exact (by repeat (first | (with_reducible first | exact HB.out | apply below_alloc | apply pw_below_drewN | apply below_drew1) | exact HB.out))); (case aS => exact (below_size (by repeat (first | (with_reducible first | exact HB.out | apply below_alloc | apply pw_below_drewN | apply below_drew1) | exact HB.out)))); (case aL => exact (by have := HA.out; omega)); intro v1 w1 ho hb1 hg hat)
      go_ret2
      exact ⟨_, rfl, by rw [← HE.out, numB_lt k h1, show (k : Int) = (k : Int) % 128 from by omega]; exact ho, hb1⟩
    · have h3 : ((k : Int) / 128 == 0) = false := by simp; omega
      go_wp2_with ((with_reducible refine gate_builtin (b := .append) (xs := #[.tmp 24, .tmp 27]) rfl ?_); at_builtin; refine app1 (Kd.int .u8) (flat_int _) w.heap.size (w0 := w) (.tmp 24) (.tmp 27) 22 5 (.int .u8 0) 1 rfl rfl Try.underlying22 infoU8 rfl (by decide) (by decide) _ acc ((k : Int) % 128 + 128) [.int .u8 ((k : Int) % 128 + 128)] rfl rfl ?aP ?aO ?aB ?aS ?aL ?_; (case aP => exact rfl); (case aO => exact (by (with_reducible repeat (first | apply Kd.R_alloc | apply Kd.R_drewN | apply Kd.R_drew)); exact HO.out)); (case aB => exact (by repeat (first | (with_reducible first | exact HB.out | apply below_alloc | apply pw_below_drewN | apply below_drew1) | exact HB.out))); (case aS => exact (below_size (by repeat (first | (with_reducible first | exact HB.out | apply below_alloc | apply pw_below_drewN | apply below_drew1) | exact HB.out)))); (case aL => exact (by have := HA.out; omega)); intro v1 w1 ho hb1 hg hat)
      go_roundg (k / 128 + 1)
      case measure => have := HG.out; omega
      case rel => exact ⟨k / 128, acc ++ [((k : Int) % 128 + 128)], by go_num, by omega, rfl, ⟨by rw [← HE.out, numB_ge k (by omega), List.append_assoc]; rfl⟩, ⟨ho⟩, ⟨hb1⟩⟩

set_option maxHeartbeats 4000000 in
/-- The reference's TakeNum. -/
theorem rtakeNum_calls (A : Option Addr) (c : Nat) (l : List Int) (pl : Int) (w : World) (hr : Kd.C (Kd.int .u8) w A l.length l) (hc : l.length ≤ c) (hb : Bytes l) (hm : l.length ≤ 140737488355328) :
    Calls Try.prog 12 #[.slice A l.length c, .int .i64 pl] w fun e w' => e = .returned (.tuple #[.int .i64 (takeNum l pl).1, .int .i64 (takeNum l pl).2.1, .int .i64 (takeNum l pl).2.2]) ∧ w = w' := by
  by_cases h1 : pl < 0
  · have e : takeNum l pl = (0, 0, 2) := by unfold takeNum; rw [if_pos (Or.inl h1)]
    rw [e]; clear e
    have h2 : decide (pl < 0) = true := by simpa using h1
    go_enter Try.func12, Try.ntmps12
    go_wp2
    go_ret3
    exact ⟨rfl, rfl⟩
  · have h2 : decide (pl < 0) = false := by simpa using h1
    by_cases h3 : (l.length : Int) < pl
    · have e : takeNum l pl = (0, 0, 2) := by unfold takeNum; rw [if_pos (Or.inr h3)]
      rw [e]; clear e
      have h4 : decide ((l.length : Int) < pl) = true := by simpa using h3
      go_enter Try.func12, Try.ntmps12
      go_wp2
      go_ret3
      exact ⟨rfl, rfl⟩
    · have e : takeNum l pl = tk pl 0 0 (l.drop pl.toNat) := by unfold takeNum; rw [if_neg (by omega)]
      obtain ⟨m, rfl⟩ := Int.eq_ofNat_of_zero_le (Int.not_lt.1 h1)
      rw [e, Int.toNat_natCast]; clear e h1
      have hml : m ≤ l.length := by omega
      have h4 : decide ((l.length : Int) < (m : Int)) = false := by simpa using h3
      have h5 : decide (l.length < m) = false := by simpa using h3
      have HR := Aside0.mk hr
      clear hr h3
      have HBy := Aside0.mk hb
      clear hb
      go_enter Try.func12, Try.ntmps12
      go_wp2
      go_loopg [7, 8, 9] 9 (fun gk v7 v8 v9 wr => ∃ (i acc : Nat), v7 = .int .i64 acc ∧ v8 = .int .i64 ((128 ^ i : Nat) : Int) ∧ v9 = .int .i64 i ∧ m + i ≤ l.length ∧ i ≤ 7 ∧ acc < 128 ^ i ∧ gk = 9 - i ∧ Aside0 (tk m i acc (l.drop (m + i)) = tk m 0 0 (l.drop m)) ∧ w = wr)
      case atStart => exact ⟨0, 0, rfl, rfl, rfl, hml, by omega, by simp, rfl, ⟨rfl⟩, rfl⟩
      case round =>
        obtain ⟨i, acc, rfl, rfl, rfl, hir, hi7, hacc, hgk, HT, rfl⟩ := hrel
        have HG := Aside0.mk hgk
        clear hgk
        by_cases hlt : m + i < l.length
        · obtain ⟨ad, rfl, hcell⟩ := Kd.at_int HR.out ((m : Int) + i) (by omega) (by omega)
          have hby := HBy.out.getD (m + i)
          have hd := drop_get l (m + i) hlt
          have HD := Aside0.mk hd
          have hrd : rd l ((m : Int) + i) = l.getD (m + i) 0 := by unfold rd; congr 1
          rw [hrd] at hcell
          clear hd hrd
          generalize l.getD (m + i) 0 = x at hcell hby HD
          rw [show ((m : Int) + i).toNat = m + i from by omega] at hcell
          have hne : ((m : Int) + i == (l.length : Int)) = false := by simp; omega
          go_wp2
          · go_ret3
            have h5 : (i : Int) = 7 := by assumption
            have h6 : 15 < x := by assumption
            exact ⟨ret3i (by rw [← HT.out, HD.out, tk_big _ _ _ _ _ (by omega) h6]), rfl⟩
          · go_ret3
            have h5 : (i : Int) = 7 := by assumption
            have h6 : x = 0 := by assumption
            exact ⟨ret3i (by rw [← HT.out, HD.out, tk_form _ _ _ _ _ h6 (by omega)]), rfl⟩
          · go_ret3
            have h5 : (i : Int) = 7 := by assumption
            have h6 : x ≤ 15 := by assumption
            have h7 : ¬ x = 0 := by assumption
            obtain rfl : i = 7 := by omega
            have e := mul_num acc 7 x hby.1 hacc hi7
            rw [show (x % 128).toNat = x.toNat from by omega] at e
            exact ⟨ret3i (by rw [← HT.out, HD.out, tk_last _ _ _ _ _ (by omega) (by omega) (by omega), ← e]; rfl), rfl⟩
          · go_ret3
            have h6 : x = 0 := by assumption
            have h7 : 0 < i := by assumption
            exact ⟨ret3i (by rw [← HT.out, HD.out, tk_form _ _ _ _ _ h6 h7]), rfl⟩
          · go_ret3
            have h5 : ¬ (i : Int) = 7 := by assumption
            have h6 : x = 0 := by assumption
            have h7 : ¬ 0 < i := by assumption
            have e := mul_num acc i x hby.1 hacc hi7
            rw [show (x % 128).toNat = x.toNat from by omega] at e
            exact ⟨ret3i (by rw [← HT.out, HD.out, tk_last _ _ _ _ _ (by omega) (by omega) (by omega), ← e]; simp [h6]), rfl⟩
          · go_ret3
            have h5 : ¬ (i : Int) = 7 := by assumption
            have h6 : x < 128 := by assumption
            have h7 : ¬ x = 0 := by assumption
            have e := mul_num acc i x hby.1 hacc hi7
            rw [show (x % 128).toNat = x.toNat from by omega] at e
            exact ⟨ret3i (by rw [← HT.out, HD.out, tk_last _ _ _ _ _ (by omega) (by omega) (by omega), ← e]), rfl⟩
          · have h5 : ¬ (i : Int) = 7 := by assumption
            have h6 : 128 ≤ x := by assumption
            have hx : (x % 128).toNat ≤ 127 := by omega
            go_roundg (9 - (i + 1))
            case measure => have := HG.out; omega
            case rel =>
              refine ⟨i + 1, acc + (x % 128).toNat * 128 ^ i, ?_, ?_, by go_num, by omega, by omega, ?_, rfl, ⟨?_⟩, rfl⟩
              · rw [mul_num _ _ _ hby.1 hacc hi7]
              · rw [scale_num _ hi7]
              · rw [Nat.pow_succ]
                have := Nat.mul_le_mul_right (128 ^ i) hx
                omega
              · rw [← HT.out, HD.out, tk_more _ _ _ _ _ (by omega) h6, Nat.add_assoc]
        · have he : ((m : Int) + i == (l.length : Int)) = true := by simp; omega
          go_wp2
          go_ret3
          exact ⟨ret3i (by rw [← HT.out, drop_nil l (m + i) (by omega), tk_nil]), rfl⟩

set_option maxHeartbeats 1000000 in
theorem text_calls (A : Option Addr) (c : Nat) (l : List Int) (most : Int) (w : World) (hr : Kd.C (Kd.int .u8) w A l.length l) (hm : l.length ≤ 140737488351232) :
    Calls Try.prog 14 #[.slice A l.length c, .int .i64 most] w fun e w' => ∃ v, e = .returned (.tuple #[v, .int .i64 (textE l most)]) ∧ Kd.R (Kd.int .u8) 5 w' w.heap.size (fun _ => True) (v) (textL l most) ∧ Below w.heap.size w w' := by
  have HR := Aside0.mk hr
  clear hr
  by_cases h : (l.length : Int) ≤ most
  · have e1 : textE l most = 0 := if_pos h
    have e2 : textL l most = numB l.length ++ l := if_pos h
    rw [e1, e2]
    clear e1 e2
    have h1 : decide (most < (l.length : Int)) = false := by simp; omega
    have HL := Aside0.mk (numB_len8 l.length (by omega))
    go_enter Try.func14, Try.ntmps14
    go_wp2_with (first | (go_at_call 9; (with_reducible refine (num_ok l.length (by omega) _).mono ?_); rintro e w' ⟨v1, rfl, ho, hb1⟩; have HO := Aside0.mk ho; have HB := Aside0.mk hb1; clear ho hb1) | ((with_reducible refine gate_builtin (b := .append) (xs := #[.tmp 18, .tmp 19]) rfl ?_); at_builtin; refine app (Kd.int .u8) (flat_int _) w.heap.size (w0 := w) (.tmp 18) (.tmp 19) 22 5 (.int .u8 0) 1 rfl rfl Try.underlying22 infoU8 rfl (by decide) (by decide) _ (numB l.length) l A l.length c rfl rfl ?aO ?aR ?aB ?aS ?aL ?_; (case aO => exact (by (with_reducible repeat (first | apply Kd.R_alloc | apply Kd.R_drewN | apply Kd.R_drew)); exact HO.out)); (case aR => exact (Kd.C_below HR.out (by repeat (first | (with_reducible first | exact HB.out | apply below_alloc | apply pw_below_drewN | apply below_drew1) | exact HB.out)))); (case aB => exact (by repeat (first | (with_reducible first | exact HB.out | apply below_alloc | apply pw_below_drewN | apply below_drew1) | exact HB.out))); (case aS => exact (below_size (by repeat (first | (with_reducible first | exact HB.out | apply below_alloc | apply pw_below_drewN | apply below_drew1) | exact HB.out)))); (case aL => exact (by have := HL.out; omega)); intro v2 w2 ho2 hb2 hg2 hat2))
    go_ret2
    exact ⟨_, rfl, ho2, hb2⟩
  · have e1 : textE l most = 6 := if_neg h
    have e2 : textL l most = [] := if_neg h
    rw [e1, e2]
    clear e1 e2
    have h1 : decide (most < (l.length : Int)) = true := by simp; omega
    go_enter Try.func14, Try.ntmps14
    go_wp2
    go_ret2
    exact ⟨_, rfl, Kd.R_nil _ _ _ _ _, Below.refl _ _⟩

set_option maxHeartbeats 1000000 in
theorem rtext_calls (A : Option Addr) (c : Nat) (l : List Int) (most : Int) (w : World) (hr : Kd.C (Kd.int .u8) w A l.length l) (hm : l.length ≤ 140737488351232) :
    Calls Try.prog 15 #[.slice A l.length c, .int .i64 most] w fun e w' => ∃ v, e = .returned (.tuple #[v, .int .i64 (textE l most)]) ∧ Kd.R (Kd.int .u8) 5 w' w.heap.size (fun _ => True) (v) (textL l most) ∧ Below w.heap.size w w' := by
  have HR := Aside0.mk hr
  clear hr
  by_cases h : (l.length : Int) ≤ most
  · have e1 : textE l most = 0 := if_pos h
    have e2 : textL l most = numB l.length ++ l := if_pos h
    rw [e1, e2]
    clear e1 e2
    have h1 : decide (most < (l.length : Int)) = false := by simp; omega
    have HL := Aside0.mk (numB_len8 l.length (by omega))
    go_enter Try.func15, Try.ntmps15
    go_wp2_with (first | (go_at_call 10; (with_reducible refine (rnum_ok l.length (by omega) _).mono ?_); rintro e w' ⟨v1, rfl, ho, hb1⟩; have HO := Aside0.mk ho; have HB := Aside0.mk hb1; clear ho hb1) | ((with_reducible refine gate_builtin (b := .append) (xs := #[.tmp 18, .tmp 19]) rfl ?_); at_builtin; refine app (Kd.int .u8) (flat_int _) w.heap.size (w0 := w) (.tmp 18) (.tmp 19) 22 5 (.int .u8 0) 1 rfl rfl Try.underlying22 infoU8 rfl (by decide) (by decide) _ (numB l.length) l A l.length c rfl rfl ?aO ?aR ?aB ?aS ?aL ?_; (case aO => exact (by (with_reducible repeat (first | apply Kd.R_alloc | apply Kd.R_drewN | apply Kd.R_drew)); exact HO.out)); (case aR => exact (Kd.C_below HR.out (by repeat (first | (with_reducible first | exact HB.out | apply below_alloc | apply pw_below_drewN | apply below_drew1) | exact HB.out)))); (case aB => exact (by repeat (first | (with_reducible first | exact HB.out | apply below_alloc | apply pw_below_drewN | apply below_drew1) | exact HB.out))); (case aS => exact (below_size (by repeat (first | (with_reducible first | exact HB.out | apply below_alloc | apply pw_below_drewN | apply below_drew1) | exact HB.out)))); (case aL => exact (by have := HL.out; omega)); intro v2 w2 ho2 hb2 hg2 hat2))
    go_ret2
    exact ⟨_, rfl, ho2, hb2⟩
  · have e1 : textE l most = 6 := if_neg h
    have e2 : textL l most = [] := if_neg h
    rw [e1, e2]
    clear e1 e2
    have h1 : decide (most < (l.length : Int)) = true := by simp; omega
    go_enter Try.func15, Try.ntmps15
    go_wp2
    go_ret2
    exact ⟨_, rfl, Kd.R_nil _ _ _ _ _, Below.refl _ _⟩

/-- Bytes and two numbers handed back. -/
theorem ret3b {t : List Int × Int × Int} {v : Value} {l : List Int} {b c : Int} (h : t = (l, b, c)) : Ending.returned (.tuple #[v, .int .i64 b, .int .i64 c]) = .returned (.tuple #[v, .int .i64 t.2.1, .int .i64 t.2.2]) := by subst h; rfl

set_option maxHeartbeats 1000000 in
/-- octet.TakeText. -/
theorem takeText_calls (A : Option Addr) (c : Nat) (l : List Int) (pl most : Int) (w : World) (hr : Kd.C (Kd.int .u8) w A l.length l) (hc : l.length ≤ c) (hb : Bytes l) (hm : l.length ≤ 140737488351232) :
    Calls Try.prog 16 #[.slice A l.length c, .int .i64 pl, .int .i64 most] w fun e w' => ∃ v, e = .returned (.tuple #[v, .int .i64 (takeText l pl most).2.1, .int .i64 (takeText l pl most).2.2]) ∧ Kd.R (Kd.int .u8) 5 w' w.heap.size (fun _ => True) (v) ((takeText l pl most).1) ∧ Below w.heap.size w w' := by
  have hcall := takeNum_calls A c l pl w hr hc hb (by omega)
  have hok := takeNum_ok l pl hb
  have he := takeText_e l pl most
  have hmm := takeText_m l pl most
  have hs := takeText_s l pl most
  have ho := takeText_o l pl most
  have HR := Aside0.mk hr
  clear hr
  obtain ⟨⟨n, nx, e⟩, ht⟩ : ∃ t, t = takeNum l pl := ⟨_, rfl⟩
  rw [← ht] at hcall hok he hmm hs ho
  clear ht
  dsimp only at hcall hok he hmm hs ho
  have HC := Aside0.mk hcall
  clear hcall
  by_cases h1 : e = 0
  · subst h1
    obtain ⟨hn0, hnm, hp0, hpn, hnl⟩ := hok rfl
    clear he hok
    by_cases h2 : most < n
    · rw [hmm rfl h2]
      clear hmm hs ho
      have h3 : decide (most < n) = true := by simpa using h2
      go_enter Try.func16, Try.ntmps16
      go_wp2_with (go_at_call 11; (with_reducible refine (HC.out).mono ?_); rintro e w' ⟨rfl, rfl⟩)
      go_ret3
      exact ⟨_, rfl, Kd.R_nil _ _ _ _ _, Below.refl _ _⟩
    · have h3 : decide (most < n) = false := by simpa using h2
      clear hmm
      by_cases h4 : (l.length : Int) - nx < n
      · rw [hs rfl h2 h4]
        clear hs ho
        have h5 : decide ((l.length : Int) - nx < n) = true := by simpa using h4
        go_enter Try.func16, Try.ntmps16
        go_wp2_with (go_at_call 11; (with_reducible refine (HC.out).mono ?_); rintro e w' ⟨rfl, rfl⟩)
        go_ret3
        exact ⟨_, rfl, Kd.R_nil _ _ _ _ _, Below.refl _ _⟩
      · have h5 : decide ((l.length : Int) - nx < n) = false := by simpa using h4
        have HF := Aside0.mk (ho rfl h2 h4)
        clear hs ho
        obtain ⟨k, rfl⟩ := Int.eq_ofNat_of_zero_le hn0
        obtain ⟨q, rfl⟩ := Int.eq_ofNat_of_zero_le (show 0 ≤ nx by omega)
        obtain ⟨A', hcut, hA'⟩ := cutLHM (Kd.int .u8) 22 5 Try.underlying22 infoU8 A l.length c q (q + k) (q + k) (by omega) (by omega) (by omega) (by omega) hc
        have HR2 := Aside0.mk (hA' w l HR.out)
        clear hA'
        rw [Nat.add_sub_cancel_left] at hcut HR2
        simp only [Int.natCast_add] at hcut
        go_enter Try.func16, Try.ntmps16
        go_wp2_with (first | (go_at_call 11; (with_reducible refine (HC.out).mono ?_); rintro e w' ⟨rfl, rfl⟩) | (go_at_call 34; (with_reducible refine (clone_calls A' k k _ _ HR2.out (by omega)).mono ?_); rintro e w' ⟨v1, rfl, ho, hb1⟩; have HO := Aside0.mk ho; have HB := Aside0.mk hb1; clear ho hb1))
        go_ret3
        have e := HF.out
        rw [show ((q : Int) + k).toNat = q + k from by omega, Int.toNat_natCast] at e
        exact ⟨_, ret3b e, by rw [e]; exact HO.out, HB.out⟩
  · rw [he h1]
    clear he hok hmm hs ho
    have h2 : (e != 0) = true := by simpa using h1
    go_enter Try.func16, Try.ntmps16
    go_wp2_with (go_at_call 11; (with_reducible refine (HC.out).mono ?_); rintro e w' ⟨rfl, rfl⟩)
    go_ret3
    exact ⟨_, rfl, Kd.R_nil _ _ _ _ _, Below.refl _ _⟩

set_option maxHeartbeats 1000000 in
/-- The reference's TakeText. -/
theorem rtakeText_calls (A : Option Addr) (c : Nat) (l : List Int) (pl most : Int) (w : World) (hr : Kd.C (Kd.int .u8) w A l.length l) (hc : l.length ≤ c) (hb : Bytes l) (hm : l.length ≤ 140737488351232) :
    Calls Try.prog 17 #[.slice A l.length c, .int .i64 pl, .int .i64 most] w fun e w' => ∃ v, e = .returned (.tuple #[v, .int .i64 (takeText l pl most).2.1, .int .i64 (takeText l pl most).2.2]) ∧ Kd.R (Kd.int .u8) 5 w' w.heap.size (fun _ => True) (v) ((takeText l pl most).1) ∧ Below w.heap.size w w' := by
  have hcall := rtakeNum_calls A c l pl w hr hc hb (by omega)
  have hok := takeNum_ok l pl hb
  have he := takeText_e l pl most
  have hmm := takeText_m l pl most
  have hs := takeText_s l pl most
  have ho := takeText_o l pl most
  have HR := Aside0.mk hr
  clear hr
  obtain ⟨⟨n, nx, e⟩, ht⟩ : ∃ t, t = takeNum l pl := ⟨_, rfl⟩
  rw [← ht] at hcall hok he hmm hs ho
  clear ht
  dsimp only at hcall hok he hmm hs ho
  have HC := Aside0.mk hcall
  clear hcall
  by_cases h1 : e = 0
  · subst h1
    obtain ⟨hn0, hnm, hp0, hpn, hnl⟩ := hok rfl
    clear he hok
    by_cases h2 : most < n
    · rw [hmm rfl h2]
      clear hmm hs ho
      have h3 : decide (most < n) = true := by simpa using h2
      go_enter Try.func17, Try.ntmps17
      go_wp2_with (go_at_call 12; (with_reducible refine (HC.out).mono ?_); rintro e w' ⟨rfl, rfl⟩)
      go_ret3
      exact ⟨_, rfl, Kd.R_nil _ _ _ _ _, Below.refl _ _⟩
    · have h3 : decide (most < n) = false := by simpa using h2
      clear hmm
      by_cases h4 : (l.length : Int) - nx < n
      · rw [hs rfl h2 h4]
        clear hs ho
        have h5 : decide ((l.length : Int) - nx < n) = true := by simpa using h4
        go_enter Try.func17, Try.ntmps17
        go_wp2_with (go_at_call 12; (with_reducible refine (HC.out).mono ?_); rintro e w' ⟨rfl, rfl⟩)
        go_ret3
        exact ⟨_, rfl, Kd.R_nil _ _ _ _ _, Below.refl _ _⟩
      · have h5 : decide ((l.length : Int) - nx < n) = false := by simpa using h4
        have HF := Aside0.mk (ho rfl h2 h4)
        clear hs ho
        obtain ⟨k, rfl⟩ := Int.eq_ofNat_of_zero_le hn0
        obtain ⟨q, rfl⟩ := Int.eq_ofNat_of_zero_le (show 0 ≤ nx by omega)
        obtain ⟨A', hcut, hA'⟩ := cutLH (Kd.int .u8) 22 5 Try.underlying22 infoU8 A l.length c q (q + k) (by omega) (by omega) hc
        have HR2 := Aside0.mk (hA' w l HR.out)
        clear hA'
        rw [Nat.add_sub_cancel_left] at hcut HR2
        simp only [Int.natCast_add] at hcut
        have HN := Aside0.mk (Kd.R_made_nil (Kd.int .u8) w 5)
        have HB := Aside0.mk (Below.refl w.heap.size w)
        go_enter Try.func17, Try.ntmps17
        go_wp2_with (first | (go_at_call 12; (with_reducible refine (HC.out).mono ?_); rintro e w' ⟨rfl, rfl⟩) | ((with_reducible refine gate_builtin (b := .append) (xs := #[.tmp 31, .tmp 37]) rfl ?_); at_builtin; refine app (Kd.int .u8) (flat_int _) w.heap.size (w0 := w) (.tmp 31) (.tmp 37) 22 5 (.int .u8 0) 1 rfl rfl Try.underlying22 infoU8 rfl (by decide) (by decide) _ [] ((l.take (q + k)).drop q) A' k (c - q) rfl rfl ?aO ?aR ?aB ?aS ?aL ?_; (case aO => exact HN.out); (case aR => exact (Kd.C_below HR2.out (by repeat (first | (with_reducible first | exact HB.out | apply below_alloc | apply pw_below_drewN | apply below_drew1) | exact HB.out)))); (case aB => exact (by repeat (first | (with_reducible first | exact HB.out | apply below_alloc | apply pw_below_drewN | apply below_drew1) | exact HB.out))); (case aS => exact (below_size (by repeat (first | (with_reducible first | exact HB.out | apply below_alloc | apply pw_below_drewN | apply below_drew1) | exact HB.out)))); (case aL => exact (by simp; omega)); intro v2 w2 ho2 hb2 hg2 hat2; have HO := Aside0.mk ho2; have HB2 := Aside0.mk hb2; clear ho2 hb2))
        go_ret3
        have e := HF.out
        rw [show ((q : Int) + k).toNat = q + k from by omega, Int.toNat_natCast] at e
        exact ⟨_, ret3b e, by rw [e]; exact HO.out, HB2.out⟩
  · rw [he h1]
    clear he hok hmm hs ho
    have h2 : (e != 0) = true := by simpa using h1
    go_enter Try.func17, Try.ntmps17
    go_wp2_with (go_at_call 12; (with_reducible refine (HC.out).mono ?_); rintro e w' ⟨rfl, rfl⟩)
    go_ret3
    exact ⟨_, rfl, Kd.R_nil _ _ _ _ _, Below.refl _ _⟩

set_option maxHeartbeats 1000000 in
/-- octet.Fixed: refused. -/
theorem fixed_arg (n wd : Int) (h : wd < 1 ∨ 8 < wd) (w : World) :
    Calls Try.prog 18 #[.int .i64 n, .int .i64 wd] w fun e w' => ∃ v, e = .returned (.tuple #[v, .int .i64 2]) ∧ Kd.R (Kd.int .u8) 5 w' w.heap.size (fun _ => True) (v) ([]) ∧ Below w.heap.size w w' := by
  rcases h with h | h
  · have h1 : decide (wd < 1) = true := by simpa using h
    go_enter Try.func18, Try.ntmps18
    go_wp2
    go_ret2
    exact ⟨_, rfl, Kd.R_nil _ _ _ _ _, Below.refl _ _⟩
  · have h1 : decide (wd < 1) = false := by simp; omega
    have h2 : decide (8 < wd) = true := by simpa using h
    go_enter Try.func18, Try.ntmps18
    go_wp2
    go_ret2
    exact ⟨_, rfl, Kd.R_nil _ _ _ _ _, Below.refl _ _⟩
set_option maxHeartbeats 1000000 in
theorem fixed_num (n wd : Int) (h : ¬ (wd < 1 ∨ 8 < wd)) (hn : ¬ okNum n) (w : World) :
    Calls Try.prog 18 #[.int .i64 n, .int .i64 wd] w fun e w' => ∃ v, e = .returned (.tuple #[v, .int .i64 6]) ∧ Kd.R (Kd.int .u8) 5 w' w.heap.size (fun _ => True) (v) ([]) ∧ Below w.heap.size w w' := by
  have h1 : decide (wd < 1) = false := by simp; omega
  have h2 : decide (8 < wd) = false := by simp; omega
  go_enter Try.func18, Try.ntmps18
  go_wp2_with (go_at_call 33; (with_reducible refine (number_no n hn _).mono ?_); rintro e w' ⟨rfl, rfl⟩)
  go_ret2
  exact ⟨_, rfl, Kd.R_nil _ _ _ _ _, Below.refl _ _⟩
set_option maxHeartbeats 1000000 in
theorem fixed_lim (n m : Nat) (h1 : 1 ≤ m) (h8 : m ≤ 8) (hn : n ≤ 9007199254740991) (hl : 0 < n / 256 ^ m) (w : World) :
    Calls Try.prog 18 #[.int .i64 n, .int .i64 m] w fun e w' => ∃ v, e = .returned (.tuple #[v, .int .i64 6]) ∧ Kd.R (Kd.int .u8) 5 w' w.heap.size (fun _ => True) (v) ([]) ∧ Below w.heap.size w w' := by
  have hk : okNum (n : Int) := by unfold okNum; omega
  have hm : m < 7 := by
    rcases Nat.lt_or_ge m 7 with h | h
    · exact h
    · have : 256 ^ 7 ≤ 256 ^ m := Nat.pow_le_pow_right (by decide) h
      rw [Nat.div_eq_of_lt (by omega)] at hl
      omega
  have h2 : decide ((m : Int) < 1) = false := by simp; omega
  have h3 : decide ((8 : Int) < m) = false := by simp; omega
  have h4 : decide ((m : Int) < 7) = true := by simp; omega
  have h5 : decide ((0 : Int) < (n : Int) / 2 ^ (8 * m)) = true := by
    have e : (2 : Nat) ^ (8 * m) = 256 ^ m := by rw [Nat.pow_mul]
    have : (n : Int) / 2 ^ (8 * m) = ((n / 256 ^ m : Nat) : Int) := by rw [← e]; simp
    rw [this]; exact decide_eq_true (Int.natCast_pos.2 hl)
  go_enter Try.func18, Try.ntmps18
  go_wp2_with (go_at_call 33; (with_reducible refine (number_yes (n : Int) hk _).mono ?_); rintro e w' ⟨rfl, rfl⟩)
  go_ret2
  exact ⟨_, rfl, Kd.R_nil _ _ _ _ _, Below.refl _ _⟩
set_option maxHeartbeats 2000000 in
theorem fixed_ok (n m : Nat) (h1 : 1 ≤ m) (h8 : m ≤ 8) (hn : n ≤ 9007199254740991) (hl : n / 256 ^ m = 0) (w : World) :
    Calls Try.prog 18 #[.int .i64 n, .int .i64 m] w fun e w' => ∃ v, e = .returned (.tuple #[v, .int .i64 0]) ∧ Kd.R (Kd.int .u8) 5 w' w.heap.size (fun _ => True) (v) (be m n) ∧ Below w.heap.size w w' := by
  have hk : okNum (n : Int) := by unfold okNum; omega
  have h2 : decide ((m : Int) < 1) = false := by simp; omega
  have h3 : decide ((8 : Int) < m) = false := by simp; omega
  have h5 : decide ((0 : Int) < (n : Int) / 2 ^ (8 * m)) = false := by
    have e : (2 : Nat) ^ (8 * m) = 256 ^ m := by rw [Nat.pow_mul]
    have : (n : Int) / 2 ^ (8 * m) = ((n / 256 ^ m : Nat) : Int) := by rw [← e]; simp
    rw [this, hl]; rfl
  have hmk := print_make (P := Try.prog) 22 5 .u8 1 Try.underlying22 infoU8 (by decide) m (by omega)
  have HO0 := Aside0.mk (own_made w w.heap.size 5 .u8 m (Nat.le_refl _) (by omega))
  rcases (show m < 7 ∨ 7 ≤ m from by omega) with hm | hm
  case' inl => have h4 : decide ((m : Int) < 7) = true := by simp; omega
  case' inr => have h4 : decide ((m : Int) < 7) = false := by simp; omega
  all_goals
    go_enter Try.func18, Try.ntmps18
    go_wp2_with (go_at_call 33; (with_reducible refine (number_yes (n : Int) hk _).mono ?_); rintro e w' ⟨rfl, rfl⟩)
    go_loopg [0, 7] (m + 1) (fun gk v0 v7 wr => ∃ (j k : Nat) (suf : List Int), v0 = .int .i64 k ∧ v7 = .int .i64 ((j : Int) - 1) ∧ j ≤ m ∧ gk = j + 1 ∧ k ≤ n ∧ Aside0 (be j k ++ suf = be m n) ∧ Aside0 (suf.length + j = m) ∧ Aside0 (wr.ownsRow w.heap.size 5 1 (.slice (some ⟨w.heap.size, 0, none⟩) m m) m (nums .u8 (List.replicate j 0 ++ suf))) ∧ Aside0 (Below w.heap.size w wr))
    case atStart => exact ⟨m, n, [], rfl, rfl, Nat.le_refl _, rfl, Nat.le_refl _, ⟨by simp⟩, ⟨by simp⟩, ⟨by simpa using HO0.out⟩, ⟨below_alloc (Below.refl _ _) _⟩⟩
    case round =>
      obtain ⟨j, k, suf, rfl, rfl, hjm, hgk, hkn, HE, HS, HO, HB⟩ := hrel
      have HG := Aside0.mk hgk
      clear hgk
      cases j with
      | zero =>
        have h6 : decide ((0 : Int) ≤ ((0 : Nat) : Int) - 1) = false := by simp
        go_wp2
        go_ret2
        exact ⟨_, rfl, Kd.R_of_own (enc := Value.int .u8) (h1 := fun _ => rfl) (by have e := HO.out; have hs := HS.out; simp only [List.replicate_zero, List.nil_append, Nat.add_zero] at e hs; rw [← HE.out]; simp only [be, List.nil_append]; rw [hs]; exact e) (fun _ _ => trivial), HB.out⟩
      | succ j =>
        have hj0 : (((j + 1 : Nat) : Int) - 1) = (j : Int) := by omega
        rw [hj0]
        have hc := own_at HO.out (j : Int) (by omega) (by omega)
        have hst := own_store HO.out (j : Int) ((k : Int) % 256)
        rw [Int.toNat_natCast] at hc hst
        rw [set_rep] at hst
        obtain ⟨hc1, hc2⟩ := hc
        have HST := Aside0.mk hst
        clear hst
        have hj1 : j < m := by omega
        go_wp2
        go_roundg (j + 1)
        case measure => have := HG.out; omega
        case rel => exact ⟨j, k / 256, [((k : Int) % 256)] ++ suf, by go_num, by go_num, by omega, rfl, by omega, ⟨by rw [← HE.out, be, List.append_assoc]; rfl⟩, ⟨by have := HS.out; simp; omega⟩, ⟨HST.out.1⟩, ⟨HB.out.grown HST.out.2 HB.out.size (fun k e => by cases e; exact Nat.le_refl _)⟩⟩

/-- octet.Fixed. -/
theorem fixed_calls (n wd : Int) (w : World) :
    Calls Try.prog 18 #[.int .i64 n, .int .i64 wd] w fun e w' => ∃ v, e = .returned (.tuple #[v, .int .i64 (fixE n wd)]) ∧ Kd.R (Kd.int .u8) 5 w' w.heap.size (fun _ => True) (v) (fixL n wd) ∧ Below w.heap.size w w' := by
  by_cases h : wd < 1 ∨ 8 < wd
  · rw [(fixE_arg n wd h).1, (fixE_arg n wd h).2]; exact fixed_arg n wd h w
  · by_cases h2 : ¬ okNum n ∨ 0 < n.toNat / 256 ^ wd.toNat
    · rw [(fixE_lim n wd h h2).1, (fixE_lim n wd h h2).2]
      by_cases h3 : okNum n
      · obtain ⟨m, rfl⟩ := Int.eq_ofNat_of_zero_le (show 0 ≤ wd by omega)
        obtain ⟨k, rfl⟩ := Int.eq_ofNat_of_zero_le h3.1
        exact fixed_lim k m (by omega) (by omega) (by have := h3.2; omega) (by rcases h2 with h2 | h2; exact absurd h3 h2; simpa using h2) w
      · exact fixed_num n wd h h3 w
    · rw [(fixE_ok n wd h h2).1, (fixE_ok n wd h h2).2]
      have h3 : okNum n := Decidable.not_not.1 (fun h3 => h2 (Or.inl h3))
      obtain ⟨m, rfl⟩ := Int.eq_ofNat_of_zero_le (show 0 ≤ wd by omega)
      obtain ⟨k, rfl⟩ := Int.eq_ofNat_of_zero_le h3.1
      exact fixed_ok k m (by omega) (by omega) (by have := h3.2; omega) (Nat.eq_zero_of_not_pos (fun h4 => h2 (Or.inr (by simpa using h4)))) w

set_option maxHeartbeats 2000000 in
/-- The reference's Fixed. -/
theorem rfixed_calls (n wd : Int) (w : World) :
    Calls Try.prog 19 #[.int .i64 n, .int .i64 wd] w fun e w' => ∃ v, e = .returned (.tuple #[v, .int .i64 (fixE n wd)]) ∧ Kd.R (Kd.int .u8) 5 w' w.heap.size (fun _ => True) (v) (fixL n wd) ∧ Below w.heap.size w w' := by
  by_cases h : wd < 1 ∨ 8 < wd
  · rw [(fixE_arg n wd h).1, (fixE_arg n wd h).2]
    rcases h with h | h
    · have h1 : decide (wd < 1) = true := by simpa using h
      go_enter Try.func19, Try.ntmps19
      go_wp2
      go_ret2
      exact ⟨_, rfl, Kd.R_nil _ _ _ _ _, Below.refl _ _⟩
    · have h1 : decide (wd < 1) = false := by simp; omega
      have h2 : decide (8 < wd) = true := by simpa using h
      go_enter Try.func19, Try.ntmps19
      go_wp2
      go_ret2
      exact ⟨_, rfl, Kd.R_nil _ _ _ _ _, Below.refl _ _⟩
  · have h1 : decide (wd < 1) = false := by simp; omega
    have h2 : decide (8 < wd) = false := by simp; omega
    by_cases h3 : okNum n
    · obtain ⟨m, rfl⟩ := Int.eq_ofNat_of_zero_le (show 0 ≤ wd by omega)
      obtain ⟨a, rfl⟩ := Int.eq_ofNat_of_zero_le h3.1
      have ha : a ≤ 9007199254740991 := by have := h3.2; omega
      have HF : Aside0 ((0 < a / 256 ^ m → fixE (a : Int) (m : Int) = 6 ∧ fixL (a : Int) (m : Int) = []) ∧ (a / 256 ^ m = 0 → fixE (a : Int) (m : Int) = 0 ∧ fixL (a : Int) (m : Int) = be m a)) := ⟨by
        refine ⟨fun h4 => fixE_lim _ _ h (Or.inr (by simpa using h4)), fun h4 => ?_⟩
        have := fixE_ok (a : Int) (m : Int) h (by rw [Int.toNat_natCast, Int.toNat_natCast, h4]; intro h5; rcases h5 with h5 | h5; exact h5 h3; omega)
        simpa using this⟩
      have h4 : decide ((a : Int) < 0) = false := by simp
      have h5 : decide (9007199254740991 < (a : Int)) = false := by simp; omega
      have h5' : decide (9007199254740991 < a) = false := by simp; omega
      have hm8 : m ≤ 8 := by omega
      have HN := Aside0.mk (Kd.R_made_nil (Kd.int .u8) w 5)
      clear h h3
      go_enter Try.func19, Try.ntmps19
      go_wp2
      go_loopg [0, 6, 7] (m + 1) (fun gk v0 v6 v7 wr => ∃ (j k : Nat) (suf : List Int), v0 = .int .i64 k ∧ v7 = .int .i64 j ∧ j ≤ m ∧ gk = m - j + 1 ∧ k ≤ a ∧ Aside0 (suf = be j a ∧ k = a / 256 ^ j) ∧ Aside0 (Kd.R (Kd.int .u8) 5 wr w.heap.size (fun _ => True) (v6) (suf)) ∧ Aside0 (Below w.heap.size w wr))
      case atStart => exact ⟨0, a, [], rfl, rfl, Nat.zero_le _, rfl, Nat.le_refl _, ⟨rfl, by simp⟩, ⟨HN.out⟩, ⟨below_alloc (Below.refl _ _) _⟩⟩
      case round =>
        obtain ⟨j, k, suf, rfl, rfl, hjm, hgk, hka, HE, HO, HB⟩ := hrel
        have HG := Aside0.mk hgk
        clear hgk
        by_cases hlt : j < m
        · have h6 : decide ((j : Int) < m) = true := by simpa using hlt
          obtain ⟨A6, c6, rfl, hlc, hC⟩ := Kd.R_reads HO.out
          have HC := Aside0.mk hC
          have HL := Aside0.mk (Kd.R_lit1 (Kd.int .u8) (flat_int _) wr 5 ((k : Int) % 256) [.int .u8 ((k : Int) % 256)] rfl w.heap.size HB.out.size)
          clear hC hlc
          have HSL := Aside0.mk (show suf.length ≤ 8 by rw [HE.out.1, be_len]; omega)
          go_wp2_with ((with_reducible refine gate_builtin (b := .append) (xs := #[.tmp 29, .tmp 30]) rfl ?_); at_builtin; refine app (Kd.int .u8) (flat_int _) w.heap.size (w0 := w) (.tmp 29) (.tmp 30) 22 5 (.int .u8 0) 1 rfl rfl Try.underlying22 infoU8 rfl (by decide) (by decide) _ [((k : Int) % 256)] suf A6 suf.length c6 rfl rfl ?aO ?aR ?aB ?aS ?aL ?_; (case aO => exact HL.out); (case aR => exact (Kd.C_below HC.out (below_alloc (Below.refl _ _) _))); (case aB => exact (by repeat (first | (with_reducible first | exact HB.out | apply below_alloc | apply pw_below_drewN | apply below_drew1) | exact HB.out))); (case aS => exact (below_size (by repeat (first | (with_reducible first | exact HB.out | apply below_alloc | apply pw_below_drewN | apply below_drew1) | exact HB.out)))); (case aL => exact (by have := HSL.out; simp; omega)); intro v2 w2 ho2 hb2 hg2 hat2; have HO2 := Aside0.mk ho2; have HB2 := Aside0.mk hb2; clear ho2 hb2)
          go_roundg (m - (j + 1) + 1)
          case measure => have := HG.out; omega
          case rel => exact ⟨j + 1, k / 256, ((k : Int) % 256) :: suf, by go_num, by go_num, by omega, rfl, by omega, ⟨by rw [HE.out.1, HE.out.2, be_cons]; simp, by rw [HE.out.2, div_succ]⟩, HO2, HB2⟩
        · have h6 : decide ((j : Int) < m) = false := by simpa using hlt
          obtain rfl : j = m := by omega
          rcases Nat.eq_zero_or_pos k with h0 | h0
          · subst h0
            have e := HF.out.2 HE.out.2.symm
            go_wp2
            go_ret2
            exact ⟨_, by rw [e.1]; rfl, by rw [e.2, ← HE.out.1]; exact HO.out, HB.out⟩
          · have e := HF.out.1 (by rw [← HE.out.2]; exact h0)
            have h8 : decide (0 < k) = true := by simpa using h0
            go_wp2
            go_ret2
            exact ⟨_, by rw [e.1]; rfl, by rw [e.2]; exact Kd.R_nil _ _ _ _ _, HB.out⟩
    · have hn := h3
      unfold okNum at hn
      rw [(fixE_lim n wd h (Or.inl h3)).1, (fixE_lim n wd h (Or.inl h3)).2]
      by_cases h4 : n < 0
      · have h5 : decide (n < 0) = true := by simpa using h4
        go_enter Try.func19, Try.ntmps19
        go_wp2
        go_ret2
        exact ⟨_, rfl, Kd.R_nil _ _ _ _ _, Below.refl _ _⟩
      · have h5 : decide (n < 0) = false := by simpa using h4
        have h6 : decide (9007199254740991 < n) = true := by simp; omega
        go_enter Try.func19, Try.ntmps19
        go_wp2
        go_ret2
        exact ⟨_, rfl, Kd.R_nil _ _ _ _ _, Below.refl _ _⟩

set_option maxHeartbeats 4000000 in
/-- octet.TakeFixed. -/
theorem takeFixed_calls (A : Option Addr) (n c : Nat) (l : List Int) (pl wd : Int) (w : World) (hr : Kd.C (Kd.int .u8) w A n l) (hc : n ≤ c) (hb : Bytes l) (hm : n ≤ 140737488355328) :
    Calls Try.prog 20 #[.slice A n c, .int .i64 pl, .int .i64 wd] w fun e w' => e = .returned (.tuple #[.int .i64 (takeFixed l pl wd).1, .int .i64 (takeFixed l pl wd).2.1, .int .i64 (takeFixed l pl wd).2.2]) ∧ w = w' := by
  obtain rfl : l.length = n := hr.1
  by_cases h : wd < 1 ∨ 8 < wd ∨ pl < 0 ∨ (l.length : Int) < pl
  · rw [takeFixed_arg l pl wd h]
    by_cases h1 : wd < 1
    · have h2 : decide (wd < 1) = true := by simpa using h1
      go_enter Try.func20, Try.ntmps20
      go_wp2
      go_ret3
      exact ⟨rfl, rfl⟩
    · have h2 : decide (wd < 1) = false := by simpa using h1
      by_cases h3 : 8 < wd
      · have h4 : decide (8 < wd) = true := by simpa using h3
        go_enter Try.func20, Try.ntmps20
        go_wp2
        go_ret3
        exact ⟨rfl, rfl⟩
      · have h4 : decide (8 < wd) = false := by simpa using h3
        by_cases h5 : pl < 0
        · have h6 : decide (pl < 0) = true := by simpa using h5
          go_enter Try.func20, Try.ntmps20
          go_wp2
          go_ret3
          exact ⟨rfl, rfl⟩
        · have h6 : decide (pl < 0) = false := by simpa using h5
          have h7 : decide ((l.length : Int) < pl) = true := by simp; omega
          go_enter Try.func20, Try.ntmps20
          go_wp2
          go_ret3
          exact ⟨rfl, rfl⟩
  · have h2 : decide (wd < 1) = false := by simp; omega
    have h4 : decide (8 < wd) = false := by simp; omega
    have h6 : decide (pl < 0) = false := by simp; omega
    obtain ⟨m, rfl⟩ := Int.eq_ofNat_of_zero_le (show 0 ≤ wd by omega)
    obtain ⟨p, rfl⟩ := Int.eq_ofNat_of_zero_le (show 0 ≤ pl by omega)
    have h7 : decide ((l.length : Int) < (p : Int)) = false := by simp; omega
    have h7' : decide (l.length < p) = false := by simp; omega
    have hpl : p ≤ l.length := by omega
    have hmm : m ≤ 8 := by omega
    by_cases h8 : (l.length : Int) - p < m
    · rw [takeFixed_short l p m h h8]
      have h9 : decide ((l.length : Int) - p < (m : Int)) = true := by simpa using h8
      clear h
      go_enter Try.func20, Try.ntmps20
      go_wp2
      go_ret3
      exact ⟨rfl, rfl⟩
    · have h9 : decide ((l.length : Int) - p < (m : Int)) = false := by simpa using h8
      have hlim := takeFixed_lim l p m h h8
      have hok := takeFixed_ok l p m h h8
      rw [Int.toNat_natCast, Int.toNat_natCast] at hlim hok
      obtain ⟨A', hcut, hA'⟩ := cutLH (Kd.int .u8) 22 5 Try.underlying22 infoU8 A l.length c p (p + m) (by omega) (by omega) hc
      have hlt : (l.take (p + m)).drop p = (l.drop p).take m := by rw [List.take_drop, Nat.add_comm]
      have hR := hA' w l hr
      rw [hlt] at hR
      rw [Nat.add_sub_cancel_left] at hcut hR
      simp only [Int.natCast_add] at hcut
      have HBy := Aside0.mk ((hb.drop p).take m)
      have hrl : ((l.drop p).take m).length = m := by rw [List.length_take, List.length_drop]; omega
      generalize (l.drop p).take m = r at hR HBy hrl hlim hok
      have HR := Aside0.mk hR
      have HRL := Aside0.mk hrl
      have HLIM := Aside0.mk hlim
      have HOK := Aside0.mk hok
      have hm8 : m ≤ 8 := by omega
      have hpm : p + m ≤ l.length := by omega
      clear h hA' hR hlt hr hrl hlim hok h8
      go_enter Try.func20, Try.ntmps20
      go_wp2
      go_loopg [9, 43] (m + 1) (fun gk v9 v43 wr => ∃ (i acc : Nat), v9 = .int .u64 acc ∧ v43 = .int .i64 i ∧ i ≤ m ∧ acc < 256 ^ i ∧ gk = m - i + 1 ∧ Aside0 (val acc (r.drop i) = val 0 r) ∧ w = wr)
      case atStart => exact ⟨0, 0, rfl, rfl, Nat.zero_le _, by simp, rfl, ⟨rfl⟩, rfl⟩
      case round =>
        obtain ⟨i, acc, rfl, rfl, him, hacc, hgk, HV, rfl⟩ := hrel
        have HG := Aside0.mk hgk
        clear hgk
        by_cases hlt : i < m
        · obtain ⟨ad, rfl, hcell⟩ := Kd.at_int HR.out (i : Int) (by omega) (by omega)
          have hby := HBy.out.getD i
          have hd := drop_get r i (by rw [HRL.out]; exact hlt)
          have HD := Aside0.mk hd
          have hrd : rd r (i : Int) = r.getD i 0 := rfl
          rw [hrd] at hcell
          clear hd hrd
          generalize r.getD i 0 = x at hcell hby HD
          rw [Int.toNat_natCast] at hcell
          have hp7 : acc < 72057594037927936 := Nat.lt_of_lt_of_le hacc (Nat.le_trans (Nat.pow_le_pow_right (by decide) (show i ≤ 7 by omega)) (by decide))
          go_wp2
          go_roundg (m - (i + 1) + 1)
          case measure => have := HG.out; omega
          case rel =>
            refine ⟨i + 1, acc * 256 + x.toNat, by rw [or_u64 _ _ hp7 hby.1 hby.2], by go_num, by omega, ?_, rfl, ⟨?_⟩, rfl⟩
            · rw [Nat.pow_succ]; omega
            · rw [← HV.out, HD.out, val]
        · obtain rfl : i = m := by omega
          have hv : acc = val 0 r := by have := HV.out; rwa [drop_nil r i (by rw [HRL.out]; exact Nat.le_refl _), val] at this
          by_cases h10 : 9007199254740991 < acc
          · have h11 : decide ((9007199254740991 : Int) < (acc : Int)) = true := by simp; omega
            have h12 : decide (9007199254740991 < acc) = true := by simp; omega
            have HE := Aside0.mk (HLIM.out (by rw [← hv]; exact h10))
            clear hv
            go_wp2
            go_ret3
            exact ⟨ret3i HE.out, rfl⟩
          · have h11 : decide ((9007199254740991 : Int) < (acc : Int)) = false := by simp; omega
            have h12 : decide (9007199254740991 < acc) = false := by simp; omega
            have HE := Aside0.mk (HOK.out (by rw [← hv]; exact h10))
            rw [← hv] at HE
            clear hv
            go_wp2
            go_ret3
            exact ⟨ret3i HE.out, rfl⟩

set_option maxHeartbeats 4000000 in
/-- The reference's TakeFixed. -/
theorem rtakeFixed_calls (A : Option Addr) (n c : Nat) (l : List Int) (pl wd : Int) (w : World) (hr : Kd.C (Kd.int .u8) w A n l) (hc : n ≤ c) (hb : Bytes l) (hm : n ≤ 140737488355328) :
    Calls Try.prog 21 #[.slice A n c, .int .i64 pl, .int .i64 wd] w fun e w' => e = .returned (.tuple #[.int .i64 (takeFixed l pl wd).1, .int .i64 (takeFixed l pl wd).2.1, .int .i64 (takeFixed l pl wd).2.2]) ∧ w = w' := by
  obtain rfl : l.length = n := hr.1
  by_cases h : wd < 1 ∨ 8 < wd ∨ pl < 0 ∨ (l.length : Int) < pl
  · rw [takeFixed_arg l pl wd h]
    by_cases h1 : wd < 1
    · have h2 : decide (wd < 1) = true := by simpa using h1
      go_enter Try.func21, Try.ntmps21
      go_wp2
      go_ret3
      exact ⟨rfl, rfl⟩
    · have h2 : decide (wd < 1) = false := by simpa using h1
      by_cases h3 : 8 < wd
      · have h4 : decide (8 < wd) = true := by simpa using h3
        go_enter Try.func21, Try.ntmps21
        go_wp2
        go_ret3
        exact ⟨rfl, rfl⟩
      · have h4 : decide (8 < wd) = false := by simpa using h3
        by_cases h5 : pl < 0
        · have h6 : decide (pl < 0) = true := by simpa using h5
          go_enter Try.func21, Try.ntmps21
          go_wp2
          go_ret3
          exact ⟨rfl, rfl⟩
        · have h6 : decide (pl < 0) = false := by simpa using h5
          have h7 : decide ((l.length : Int) < pl) = true := by simp; omega
          go_enter Try.func21, Try.ntmps21
          go_wp2
          go_ret3
          exact ⟨rfl, rfl⟩
  · have h2 : decide (wd < 1) = false := by simp; omega
    have h4 : decide (8 < wd) = false := by simp; omega
    have h6 : decide (pl < 0) = false := by simp; omega
    obtain ⟨m, rfl⟩ := Int.eq_ofNat_of_zero_le (show 0 ≤ wd by omega)
    obtain ⟨p, rfl⟩ := Int.eq_ofNat_of_zero_le (show 0 ≤ pl by omega)
    have h7 : decide ((l.length : Int) < (p : Int)) = false := by simp; omega
    have h7' : decide (l.length < p) = false := by simp; omega
    have hpl : p ≤ l.length := by omega
    have hmm : m ≤ 8 := by omega
    by_cases h8 : (l.length : Int) - p < m
    · rw [takeFixed_short l p m h h8]
      have h9 : decide ((l.length : Int) - (m : Int) < (p : Int)) = true := by simp; omega
      clear h
      go_enter Try.func21, Try.ntmps21
      go_wp2
      go_ret3
      exact ⟨rfl, rfl⟩
    · have h9 : decide ((l.length : Int) - (m : Int) < (p : Int)) = false := by simp; omega
      have hlim := takeFixed_lim l p m h h8
      have hok := takeFixed_ok l p m h h8
      rw [Int.toNat_natCast, Int.toNat_natCast] at hlim hok
      have hpm : p + m ≤ l.length := by omega
      have HR := Aside0.mk hr
      have HBy := Aside0.mk hb
      have HLIM := Aside0.mk hlim
      have HOK := Aside0.mk hok
      clear h hr hlim hok h8 hb
      go_enter Try.func21, Try.ntmps21
      go_wp2
      go_loopg [9, 10] (m + 1) (fun gk v9 v10 wr => ∃ (i acc : Nat), v9 = .int .i64 acc ∧ v10 = .int .i64 i ∧ i ≤ m ∧ acc ≤ 9007199254740991 ∧ gk = m - i + 1 ∧ Aside0 (val acc (((l.drop p).take m).drop i) = val 0 ((l.drop p).take m)) ∧ w = wr)
      case atStart => exact ⟨0, 0, rfl, rfl, Nat.zero_le _, by omega, rfl, ⟨rfl⟩, rfl⟩
      case round =>
        obtain ⟨i, acc, rfl, rfl, him, hacc, hgk, HV, rfl⟩ := hrel
        have HG := Aside0.mk hgk
        clear hgk
        by_cases hlt : i < m
        · have hl2 : i < ((l.drop p).take m).length := by rw [List.length_take, List.length_drop]; omega
          obtain ⟨ad, rfl, hcell⟩ := Kd.at_int HR.out ((p : Int) + i) (by omega) (by omega)
          have hby := HBy.out.getD (p + i)
          have hd := drop_get ((l.drop p).take m) i hl2
          have hx : ((l.drop p).take m).getD i 0 = l.getD (p + i) 0 := by
            simp only [List.getD_eq_getElem?_getD, List.getElem?_take, List.getElem?_drop]
            rw [if_pos hlt]
          rw [hx] at hd
          have HD := Aside0.mk hd
          have hrd : rd l ((p : Int) + i) = l.getD (p + i) 0 := by unfold rd; congr 1
          rw [hrd] at hcell
          clear hd hrd hx hl2
          generalize l.getD (p + i) 0 = x at hcell hby HD
          rw [show ((p : Int) + i).toNat = p + i from by omega] at hcell
          by_cases h10 : 35184372088831 < acc
          · have h11 : decide ((35184372088831 : Int) < (acc : Int)) = true := by simp; omega
            have h12 : decide (35184372088831 < acc) = true := by simp; omega
            have HE := Aside0.mk (HLIM.out (by rw [← HV.out, HD.out]; exact val_big _ _ _ h10))
            go_wp2
            go_ret3
            exact ⟨ret3i HE.out, rfl⟩
          · have h11 : decide ((35184372088831 : Int) < (acc : Int)) = false := by simp; omega
            have h12 : decide (35184372088831 < acc) = false := by simp; omega
            go_wp2
            go_roundg (m - (i + 1) + 1)
            case measure => have := HG.out; omega
            case rel =>
              refine ⟨i + 1, acc * 256 + x.toNat, by go_num, by go_num, by omega, by omega, rfl, ⟨?_⟩, rfl⟩
              · rw [← HV.out, HD.out, val]
        · obtain rfl : i = m := by omega
          have hv : acc = val 0 ((l.drop p).take i) := by have := HV.out; rwa [drop_nil ((l.drop p).take i) i (by rw [List.length_take]; omega), val] at this
          have HE := Aside0.mk (HOK.out (by rw [← hv]; omega))
          rw [← hv] at HE
          clear hv
          go_wp2
          go_ret3
          exact ⟨ret3i HE.out, rfl⟩
end Go.Proofs.Ytgfmchajkajagaa.Oct
