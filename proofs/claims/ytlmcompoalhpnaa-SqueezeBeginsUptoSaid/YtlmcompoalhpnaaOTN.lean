/- What octet.TakeNum and the reference's Num and TakeNum compute, for every argument. -/
import Derived.Test.YtlmcompoalhpnaaOInfo
namespace Go.Proofs.Ytlmcompoalhpnaa.Oct
open Go.RowKit Go.Proofs.YtlmcompoalhpnaaW.PrintWords Go.Proofs.YtlmcompoalhpnaaW.PrintLast Go.Proofs.YtlmcompoalhpnaaW.PrintMore Go.Proofs.Ytlmcompoalhpnaa.K Go.Proofs.Ytlmcompoalhpnaa.OctS
set_option linter.unusedVariables false
set_option maxHeartbeats 4000000 in
/-- octet.TakeNum. -/
theorem takeNum_calls (A : Option Addr) (c : Nat) (l : List Int) (pl : Int) (w : World) (hr : Kd.C (Kd.int .u8) w A l.length l) (hc : l.length ≤ c) (hb : Bytes l) (hm : l.length ≤ 140737488355328) :
    Calls Try.prog 19 #[.slice A l.length c, .int .i64 pl] w fun e w' => e = .returned (.tuple #[.int .i64 (takeNum l pl).1, .int .i64 (takeNum l pl).2.1, .int .i64 (takeNum l pl).2.2]) ∧ w = w' := by
  by_cases h1 : pl < 0
  · have e : takeNum l pl = (0, 0, 2) := by unfold takeNum; rw [if_pos (Or.inl h1)]
    rw [e]; clear e
    have h2 : decide (pl < 0) = true := by simpa using h1
    go_enter Try.func19, Try.ntmps19
    go_wp2
    go_ret3
    exact ⟨rfl, rfl⟩
  · have h2 : decide (pl < 0) = false := by simpa using h1
    by_cases h3 : (l.length : Int) < pl
    · have e : takeNum l pl = (0, 0, 2) := by unfold takeNum; rw [if_pos (Or.inr h3)]
      rw [e]; clear e
      have h4 : decide ((l.length : Int) < pl) = true := by simpa using h3
      go_enter Try.func19, Try.ntmps19
      go_wp2
      go_ret3
      exact ⟨rfl, rfl⟩
    · have e : takeNum l pl = tk pl 0 0 (l.drop pl.toNat) := by unfold takeNum; rw [if_neg (by omega)]
      obtain ⟨m, rfl⟩ := Int.eq_ofNat_of_zero_le (Int.not_lt.1 h1)
      rw [e, Int.toNat_natCast]; clear e h1
      have hml : m ≤ l.length := by omega
      have h4 : decide ((l.length : Int) < (m : Int)) = false := by simpa using h3
      have h5 : decide (l.length < m) = false := by simpa using h3
      obtain ⟨A', hcut, hA'⟩ := cutL (Kd.int .u8) 22 5 Try.underlying22 infoU8 A l.length c m hml hc
      have HR := Aside0.mk (hA' w l hr)
      clear hA' hr h3
      have HBy := Aside0.mk (hb.drop m)
      have hrl := List.length_drop (l := l) (i := m)
      generalize l.drop m = r at HR HBy hrl ⊢
      have HL := Aside0.mk hrl
      have hrl2 : l.length - m = r.length := hrl.symm
      clear hrl
      rw [hrl2] at hcut HR
      have hrl3 : r.length ≤ l.length := by omega
      clear hrl2
      go_enter Try.func19, Try.ntmps19
      go_wp2
      go_loopg [7, 22] (r.length + 1) (fun gk v7 v22 wr => ∃ (i acc : Nat), v7 = .int .i64 acc ∧ v22 = .int .i64 i ∧ i ≤ r.length ∧ i ≤ 7 ∧ acc < 128 ^ i ∧ gk = r.length - i + 1 ∧ Aside0 (tk m i acc (r.drop i) = tk m 0 0 r) ∧ w = wr)
      case atStart => exact ⟨0, 0, rfl, rfl, Nat.zero_le _, by omega, by simp, rfl, ⟨rfl⟩, rfl⟩
      case round =>
        obtain ⟨i, acc, rfl, rfl, hir, hi7, hacc, hgk, HT, rfl⟩ := hrel
        have HG := Aside0.mk hgk
        clear hgk
        by_cases hlt : i < r.length
        · obtain ⟨ad, rfl, hcell⟩ := Kd.at_int HR.out (i : Int) (by omega) (by omega)
          have hby := HBy.out.getD i
          have hd := drop_get r i hlt
          have HD := Aside0.mk hd
          have hrd : rd r (i : Int) = r.getD i 0 := rfl
          rw [hrd] at hcell
          clear hd hrd
          generalize r.getD i 0 = x at hcell hby HD
          rw [Int.toNat_natCast] at hcell
          go_wp2
          · go_ret3
            have h5 : (i : Int) = 7 := by assumption
            have h6 : 15 < x := by assumption
            exact ⟨ret3i (by rw [← HT.out, HD.out, tk_big _ _ _ _ _ (by omega) h6]), rfl⟩
          · go_ret3
            have h5 : (i : Int) = 7 := by assumption
            have h6 : x = 0 := by assumption
            exact ⟨ret3i (by rw [← HT.out, HD.out, tk_form _ _ _ _ _ h6 (by omega)]), rfl⟩
          · go_ret3
            have h5 : (i : Int) = 7 := by assumption
            have h6 : x ≤ 15 := by assumption
            have h7 : ¬ x = 0 := by assumption
            obtain rfl : i = 7 := by omega
            exact ⟨ret3i (by rw [← HT.out, HD.out, tk_last _ _ _ _ _ (by omega) (by omega) (by omega), or_num7 _ _ hby.1 hacc, show x % 128 = x from by omega]; rfl), rfl⟩
          · have h5 : ¬ (i : Int) = 7 := by assumption
            have h6 : 128 ≤ x := by assumption
            have hx : (x % 128).toNat ≤ 127 := by omega
            go_roundg (r.length - (i + 1) + 1)
            case measure => have := HG.out; omega
            case rel =>
              refine ⟨i + 1, acc + (x % 128).toNat * 128 ^ i, ?_, by go_num, by omega, by omega, ?_, rfl, ⟨?_⟩, rfl⟩
              · rw [or_num _ _ _ hby.1 hacc hi7]
              · rw [Nat.pow_succ]
                have := Nat.mul_le_mul_right (128 ^ i) hx
                omega
              · rw [← HT.out, HD.out, tk_more _ _ _ _ _ (by omega) h6]
          · go_ret3
            have h6 : x = 0 := by assumption
            have h7 : 0 < i := by assumption
            exact ⟨ret3i (by rw [← HT.out, HD.out, tk_form _ _ _ _ _ h6 h7]), rfl⟩
          · go_ret3
            have h5 : ¬ (i : Int) = 7 := by assumption
            have h6 : x = 0 := by assumption
            have h7 : ¬ 0 < i := by assumption
            have e := or_num acc i x hby.1 hacc hi7
            rw [show (x % 128).toNat = x.toNat from by omega] at e
            exact ⟨ret3i (by rw [← HT.out, HD.out, tk_last _ _ _ _ _ (by omega) (by omega) (by omega), ← e]; simp [h6]), rfl⟩
          · go_ret3
            have h5 : ¬ (i : Int) = 7 := by assumption
            have h6 : x < 128 := by assumption
            have h7 : ¬ x = 0 := by assumption
            exact ⟨ret3i (by rw [← HT.out, HD.out, tk_last _ _ _ _ _ (by omega) (by omega) (by omega), or_num _ _ _ hby.1 hacc hi7, show x % 128 = x from by omega]), rfl⟩
        · go_wp2
          go_ret3
          exact ⟨ret3i (by rw [← HT.out, drop_nil r i (by omega), tk_nil]), rfl⟩

set_option maxHeartbeats 1000000 in
/-- The reference's Num. -/
theorem rnum_no (a : Int) (h : ¬ okNum a) (w : World) :
    Calls Try.prog 18 #[.int .i64 a] w fun e w' => ∃ v, e = .returned (.tuple #[v, .int .i64 6]) ∧ Kd.R (Kd.int .u8) 5 w' w.heap.size (fun _ => True) (v) ([]) ∧ Below w.heap.size w w' := by
  unfold okNum at h
  by_cases h1 : a < 0
  · have h3 : decide (a < 0) = true := by simpa using h1
    go_enter Try.func18, Try.ntmps18
    go_wp2
    go_ret2
    exact ⟨_, rfl, Kd.R_nil _ _ _ _ _, Below.refl _ _⟩
  · have h3 : decide (a < 0) = false := by simpa using h1
    have h4 : decide (9007199254740991 < a) = true := by simp; omega
    go_enter Try.func18, Try.ntmps18
    go_wp2
    go_ret2
    exact ⟨_, rfl, Kd.R_nil _ _ _ _ _, Below.refl _ _⟩

set_option maxHeartbeats 1000000 in
theorem rnum_ok (n : Nat) (h : n ≤ 9007199254740991) (w : World) :
    Calls Try.prog 18 #[.int .i64 (n : Int)] w fun e w' => ∃ v, e = .returned (.tuple #[v, .int .i64 0]) ∧ Kd.R (Kd.int .u8) 5 w' w.heap.size (fun _ => True) (v) (numB n) ∧ Below w.heap.size w w' := by
  have h1 : decide ((n : Int) < 0) = false := by simp
  have h2 : decide (9007199254740991 < (n : Int)) = false := by simp; omega
  have h2' : decide (9007199254740991 < n) = false := by simp; omega
  have HL := Aside0.mk (numB_len8 n h)
  have HN := Aside0.mk (Kd.R_made_nil (Kd.int .u8) w 5)
  go_enter Try.func18, Try.ntmps18
  go_wp2
  go_loopg [0, 4] (n + 1) (fun gk v0 v4 wr => ∃ (k : Nat) (acc : List Int), v0 = .int .i64 k ∧ k ≤ n ∧ gk = k + 1 ∧ Aside0 (acc ++ numB k = numB n) ∧ Aside0 (Kd.R (Kd.int .u8) 5 wr w.heap.size (fun _ => True) (v4) (acc)) ∧ Aside0 (Below w.heap.size w wr))
  case atStart => exact ⟨n, [], rfl, Nat.le_refl _, rfl, ⟨rfl⟩, ⟨HN.out⟩, ⟨below_alloc (Below.refl _ _) _⟩⟩
  case round =>
    obtain ⟨k, acc, rfl, hkn, hgk, HE, HO, HB⟩ := hrel
    have HG := Aside0.mk hgk
    clear hgk
    have HA : Aside0 (acc.length + 1 ≤ 8) := ⟨by
      have e := congrArg List.length HE.out
      have : 1 ≤ (numB k).length := numB_pos k
      rw [List.length_append] at e
      have := HL.out
      omega⟩
    by_cases h1 : k < 128
    · have h3 : ((k : Int) / 128 == 0) = true := by simp; omega
      have h4 : (k : Int) / 128 = 0 := by omega
      have HK := Aside0.mk h4
      clear h4
      go_wp2_with ((with_reducible refine gate_builtin (b := .append) (xs := #[.tmp 20, .tmp 22]) rfl ?_); at_builtin; refine app1 (Kd.int .u8) (flat_int _) w.heap.size (w0 := w) (.tmp 20) (.tmp 22) 22 5 (.int .u8 0) 1 rfl rfl Try.underlying22 infoU8 rfl (by decide) (by decide) _ acc ((k : Int) % 128) [.int .u8 ((k : Int) % 128)] rfl rfl ?aP ?aO ?aB ?aS ?aL ?_; (case aP => first | exact rfl | exact ⟨trivial, rfl⟩ | exact ⟨HOK.out, rfl⟩); (case aO => exact (by (with_reducible repeat (first | apply Kd.R_alloc | apply Kd.R_drewN | apply Kd.R_drew)); exact HO.out)); (case aB => exact (by repeat (first | (with_reducible first | exact HB.out | apply below_alloc | apply pw_below_drewN | apply below_drew1) | exact HB.out))); (case aS => exact (below_size (by repeat (first | (with_reducible first | exact HB.out | apply below_alloc | apply pw_below_drewN | apply below_drew1) | exact HB.out)))); (case aL => exact (by have := HA.out; omega)); intro v1 w1 ho hb1 hg hat)
      go_ret2
      exact ⟨_, rfl, by rw [← HE.out, numB_lt k h1, show (k : Int) = (k : Int) % 128 from by omega]; exact ho, hb1⟩
    · have h3 : ((k : Int) / 128 == 0) = false := by simp; omega
      go_wp2_with ((with_reducible refine gate_builtin (b := .append) (xs := #[.tmp 24, .tmp 27]) rfl ?_); at_builtin; refine app1 (Kd.int .u8) (flat_int _) w.heap.size (w0 := w) (.tmp 24) (.tmp 27) 22 5 (.int .u8 0) 1 rfl rfl Try.underlying22 infoU8 rfl (by decide) (by decide) _ acc ((k : Int) % 128 + 128) [.int .u8 ((k : Int) % 128 + 128)] rfl rfl ?aP ?aO ?aB ?aS ?aL ?_; (case aP => first | exact rfl | exact ⟨trivial, rfl⟩ | exact ⟨HOK.out, rfl⟩); (case aO => exact (by (with_reducible repeat (first | apply Kd.R_alloc | apply Kd.R_drewN | apply Kd.R_drew)); exact HO.out)); (case aB => exact (by repeat (first | (with_reducible first | exact HB.out | apply below_alloc | apply pw_below_drewN | apply below_drew1) | exact HB.out))); (case aS => exact (below_size (by repeat (first | (with_reducible first | exact HB.out | apply below_alloc | apply pw_below_drewN | apply below_drew1) | exact HB.out)))); (case aL => exact (by have := HA.out; omega)); intro v1 w1 ho hb1 hg hat)
      go_roundg (k / 128 + 1)
      case measure => have := HG.out; omega
      case rel => exact ⟨k / 128, acc ++ [((k : Int) % 128 + 128)], by go_num, by omega, rfl, ⟨by rw [← HE.out, numB_ge k (by omega), List.append_assoc]; rfl⟩, ⟨ho⟩, ⟨hb1⟩⟩

set_option maxHeartbeats 4000000 in
/-- The reference's TakeNum. -/
theorem rtakeNum_calls (A : Option Addr) (c : Nat) (l : List Int) (pl : Int) (w : World) (hr : Kd.C (Kd.int .u8) w A l.length l) (hc : l.length ≤ c) (hb : Bytes l) (hm : l.length ≤ 140737488355328) :
    Calls Try.prog 20 #[.slice A l.length c, .int .i64 pl] w fun e w' => e = .returned (.tuple #[.int .i64 (takeNum l pl).1, .int .i64 (takeNum l pl).2.1, .int .i64 (takeNum l pl).2.2]) ∧ w = w' := by
  by_cases h1 : pl < 0
  · have e : takeNum l pl = (0, 0, 2) := by unfold takeNum; rw [if_pos (Or.inl h1)]
    rw [e]; clear e
    have h2 : decide (pl < 0) = true := by simpa using h1
    go_enter Try.func20, Try.ntmps20
    go_wp2
    go_ret3
    exact ⟨rfl, rfl⟩
  · have h2 : decide (pl < 0) = false := by simpa using h1
    by_cases h3 : (l.length : Int) < pl
    · have e : takeNum l pl = (0, 0, 2) := by unfold takeNum; rw [if_pos (Or.inr h3)]
      rw [e]; clear e
      have h4 : decide ((l.length : Int) < pl) = true := by simpa using h3
      go_enter Try.func20, Try.ntmps20
      go_wp2
      go_ret3
      exact ⟨rfl, rfl⟩
    · have e : takeNum l pl = tk pl 0 0 (l.drop pl.toNat) := by unfold takeNum; rw [if_neg (by omega)]
      obtain ⟨m, rfl⟩ := Int.eq_ofNat_of_zero_le (Int.not_lt.1 h1)
      rw [e, Int.toNat_natCast]; clear e h1
      have hml : m ≤ l.length := by omega
      have h4 : decide ((l.length : Int) < (m : Int)) = false := by simpa using h3
      have h5 : decide (l.length < m) = false := by simpa using h3
      have HR := Aside0.mk hr
      clear hr h3
      have HBy := Aside0.mk hb
      clear hb
      go_enter Try.func20, Try.ntmps20
      go_wp2
      go_loopg [7, 8, 9] 9 (fun gk v7 v8 v9 wr => ∃ (i acc : Nat), v7 = .int .i64 acc ∧ v8 = .int .i64 ((128 ^ i : Nat) : Int) ∧ v9 = .int .i64 i ∧ m + i ≤ l.length ∧ i ≤ 7 ∧ acc < 128 ^ i ∧ gk = 9 - i ∧ Aside0 (tk m i acc (l.drop (m + i)) = tk m 0 0 (l.drop m)) ∧ w = wr)
      case atStart => exact ⟨0, 0, rfl, rfl, rfl, hml, by omega, by simp, rfl, ⟨rfl⟩, rfl⟩
      case round =>
        obtain ⟨i, acc, rfl, rfl, rfl, hir, hi7, hacc, hgk, HT, rfl⟩ := hrel
        have HG := Aside0.mk hgk
        clear hgk
        by_cases hlt : m + i < l.length
        · obtain ⟨ad, rfl, hcell⟩ := Kd.at_int HR.out ((m : Int) + i) (by omega) (by omega)
          have hby := HBy.out.getD (m + i)
          have hd := drop_get l (m + i) hlt
          have HD := Aside0.mk hd
          have hrd : rd l ((m : Int) + i) = l.getD (m + i) 0 := by unfold rd; congr 1
          rw [hrd] at hcell
          clear hd hrd
          generalize l.getD (m + i) 0 = x at hcell hby HD
          rw [show ((m : Int) + i).toNat = m + i from by omega] at hcell
          have hne : ((m : Int) + i == (l.length : Int)) = false := by simp; omega
          go_wp2
          · go_ret3
            have h5 : (i : Int) = 7 := by assumption
            have h6 : 15 < x := by assumption
            exact ⟨ret3i (by rw [← HT.out, HD.out, tk_big _ _ _ _ _ (by omega) h6]), rfl⟩
          · go_ret3
            have h5 : (i : Int) = 7 := by assumption
            have h6 : x = 0 := by assumption
            exact ⟨ret3i (by rw [← HT.out, HD.out, tk_form _ _ _ _ _ h6 (by omega)]), rfl⟩
          · go_ret3
            have h5 : (i : Int) = 7 := by assumption
            have h6 : x ≤ 15 := by assumption
            have h7 : ¬ x = 0 := by assumption
            obtain rfl : i = 7 := by omega
            have e := mul_num acc 7 x hby.1 hacc hi7
            rw [show (x % 128).toNat = x.toNat from by omega] at e
            exact ⟨ret3i (by rw [← HT.out, HD.out, tk_last _ _ _ _ _ (by omega) (by omega) (by omega), ← e]; rfl), rfl⟩
          · go_ret3
            have h6 : x = 0 := by assumption
            have h7 : 0 < i := by assumption
            exact ⟨ret3i (by rw [← HT.out, HD.out, tk_form _ _ _ _ _ h6 h7]), rfl⟩
          · go_ret3
            have h5 : ¬ (i : Int) = 7 := by assumption
            have h6 : x = 0 := by assumption
            have h7 : ¬ 0 < i := by assumption
            have e := mul_num acc i x hby.1 hacc hi7
            rw [show (x % 128).toNat = x.toNat from by omega] at e
            exact ⟨ret3i (by rw [← HT.out, HD.out, tk_last _ _ _ _ _ (by omega) (by omega) (by omega), ← e]; simp [h6]), rfl⟩
          · go_ret3
            have h5 : ¬ (i : Int) = 7 := by assumption
            have h6 : x < 128 := by assumption
            have h7 : ¬ x = 0 := by assumption
            have e := mul_num acc i x hby.1 hacc hi7
            rw [show (x % 128).toNat = x.toNat from by omega] at e
            exact ⟨ret3i (by rw [← HT.out, HD.out, tk_last _ _ _ _ _ (by omega) (by omega) (by omega), ← e]), rfl⟩
          · have h5 : ¬ (i : Int) = 7 := by assumption
            have h6 : 128 ≤ x := by assumption
            have hx : (x % 128).toNat ≤ 127 := by omega
            go_roundg (9 - (i + 1))
            case measure => have := HG.out; omega
            case rel =>
              refine ⟨i + 1, acc + (x % 128).toNat * 128 ^ i, ?_, ?_, by go_num, by omega, by omega, ?_, rfl, ⟨?_⟩, rfl⟩
              · rw [mul_num _ _ _ hby.1 hacc hi7]
              · rw [scale_num _ hi7]
              · rw [Nat.pow_succ]
                have := Nat.mul_le_mul_right (128 ^ i) hx
                omega
              · rw [← HT.out, HD.out, tk_more _ _ _ _ _ (by omega) h6, Nat.add_assoc]
        · have he : ((m : Int) + i == (l.length : Int)) = true := by simp; omega
          go_wp2
          go_ret3
          exact ⟨ret3i (by rw [← HT.out, drop_nil l (m + i) (by omega), tk_nil]), rfl⟩

end Go.Proofs.Ytlmcompoalhpnaa.Oct
