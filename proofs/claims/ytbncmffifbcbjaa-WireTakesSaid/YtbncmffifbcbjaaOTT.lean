/- What slices.Clone computes at bytes, octet.TakeText and the reference's TakeText, for every argument. -/
import Derived.Test.YtbncmffifbcbjaaOTN
namespace Go.Proofs.Ytbncmffifbcbjaa.Oct
open Go.RowKit Go.Proofs.YtbncmffifbcbjaaW.PrintWords Go.Proofs.YtbncmffifbcbjaaW.PrintLast Go.Proofs.YtbncmffifbcbjaaW.PrintMore Go.Proofs.Ytbncmffifbcbjaa.K Go.Proofs.Ytbncmffifbcbjaa.OctS
set_option linter.unusedVariables false
set_option maxHeartbeats 1000000 in
/-- slices.Clone at bytes. -/
theorem clone_calls (A0 : Option Addr) (n c0 : Nat) (l0 : List Int) (w : World) (hr : Kd.C (Kd.int .u8) w A0 n l0) (hb : n ≤ 140737488355328) :
    Calls Try.prog 49 #[.slice A0 n c0] w fun e w' => ∃ v, e = .returned v ∧ Kd.R (Kd.int .u8) 5 w' w.heap.size (fun _ => True) (v) (l0) ∧ Below w.heap.size w w' := by
  have HB := Aside0.mk (Below.refl w.heap.size w)
  have hq := qB
  cases A0 with
  | none =>
    obtain rfl : l0 = [] := C_none hr
    go_enter Try.func49, Try.ntmps49
    go_wp2
    go_ret
    exact ⟨_, rfl, Kd.R_nil _ _ _ _ _, HB.out⟩
  | some a =>
    have HR := Aside0.mk hr
    clear hr
    have HN := Aside0.mk (Kd.R_made_nil (Kd.int .u8) w 5)
    go_enter Try.func49, Try.ntmps49
    go_wp2_with ((with_reducible refine gate_builtin (b := .append) (xs := #[.tmp 5, .tmp 6]) rfl ?_); at_builtin; refine app (Kd.int .u8) (flat_int _) w.heap.size (w0 := w) (.tmp 5) (.tmp 6) 25 5 (.int .u8 0) 1 rfl rfl Try.underlying25 infoU8 rfl (by decide) (by decide) _ [] l0 (some a) n c0 rfl rfl ?aO ?aR ?aB ?aS ?aL ?_; (case aO => exact HN.out); (case aR => exact (Kd.C_below HR.out (by repeat (first | (with_reducible first | exact HB.out | apply below_alloc | apply pw_below_drewN | apply below_drew1) | exact HB.out)))); (case aB => exact (by repeat (first | (with_reducible first | exact HB.out | apply below_alloc | apply pw_below_drewN | apply below_drew1) | exact HB.out))); (case aS => exact (below_size (by repeat (first | (with_reducible first | exact HB.out | apply below_alloc | apply pw_below_drewN | apply below_drew1) | exact HB.out)))); (case aL => exact (by simp; omega)); intro v1 w1 ho hb1 hg hat)
    go_ret
    exact ⟨_, rfl, by simpa using ho, hb1⟩

/-- Bytes and two numbers handed back. -/
theorem ret3b {t : List Int × Int × Int} {v : Value} {l : List Int} {b c : Int} (h : t = (l, b, c)) : Ending.returned (.tuple #[v, .int .i64 b, .int .i64 c]) = .returned (.tuple #[v, .int .i64 t.2.1, .int .i64 t.2.2]) := by subst h; rfl

set_option maxHeartbeats 1000000 in
/-- octet.TakeText. -/
theorem takeText_calls (A : Option Addr) (c : Nat) (l : List Int) (pl most : Int) (w : World) (hr : Kd.C (Kd.int .u8) w A l.length l) (hc : l.length ≤ c) (hb : Bytes l) (hm : l.length ≤ 140737488351232) :
    Calls Try.prog 46 #[.slice A l.length c, .int .i64 pl, .int .i64 most] w fun e w' => ∃ v, e = .returned (.tuple #[v, .int .i64 (takeText l pl most).2.1, .int .i64 (takeText l pl most).2.2]) ∧ Kd.R (Kd.int .u8) 5 w' w.heap.size (fun _ => True) (v) ((takeText l pl most).1) ∧ Below w.heap.size w w' := by
  have hcall := takeNum_calls A c l pl w hr hc hb (by omega)
  have hok := takeNum_ok l pl hb
  have he := takeText_e l pl most
  have hmm := takeText_m l pl most
  have hs := takeText_s l pl most
  have ho := takeText_o l pl most
  have HR := Aside0.mk hr
  clear hr
  obtain ⟨⟨n, nx, e⟩, ht⟩ : ∃ t, t = takeNum l pl := ⟨_, rfl⟩
  rw [← ht] at hcall hok he hmm hs ho
  clear ht
  dsimp only at hcall hok he hmm hs ho
  have HC := Aside0.mk hcall
  clear hcall
  by_cases h1 : e = 0
  · subst h1
    obtain ⟨hn0, hnm, hp0, hpn, hnl⟩ := hok rfl
    clear he hok
    by_cases h2 : most < n
    · rw [hmm rfl h2]
      clear hmm hs ho
      have h3 : decide (most < n) = true := by simpa using h2
      go_enter Try.func46, Try.ntmps46
      go_wp2_with (go_at_call 44; (with_reducible refine (HC.out).mono ?_); rintro e w' ⟨rfl, rfl⟩)
      go_ret3
      exact ⟨_, rfl, Kd.R_nil _ _ _ _ _, Below.refl _ _⟩
    · have h3 : decide (most < n) = false := by simpa using h2
      clear hmm
      by_cases h4 : (l.length : Int) - nx < n
      · rw [hs rfl h2 h4]
        clear hs ho
        have h5 : decide ((l.length : Int) - nx < n) = true := by simpa using h4
        go_enter Try.func46, Try.ntmps46
        go_wp2_with (go_at_call 44; (with_reducible refine (HC.out).mono ?_); rintro e w' ⟨rfl, rfl⟩)
        go_ret3
        exact ⟨_, rfl, Kd.R_nil _ _ _ _ _, Below.refl _ _⟩
      · have h5 : decide ((l.length : Int) - nx < n) = false := by simpa using h4
        have HF := Aside0.mk (ho rfl h2 h4)
        clear hs ho
        obtain ⟨k, rfl⟩ := Int.eq_ofNat_of_zero_le hn0
        obtain ⟨q, rfl⟩ := Int.eq_ofNat_of_zero_le (show 0 ≤ nx by omega)
        obtain ⟨A', hcut, hA'⟩ := cutLHM (Kd.int .u8) 25 5 Try.underlying25 infoU8 A l.length c q (q + k) (q + k) (by omega) (by omega) (by omega) (by omega) hc
        have HR2 := Aside0.mk (hA' w l HR.out)
        clear hA'
        rw [Nat.add_sub_cancel_left] at hcut HR2
        simp only [Int.natCast_add] at hcut
        go_enter Try.func46, Try.ntmps46
        go_wp2_with (first | (go_at_call 44; (with_reducible refine (HC.out).mono ?_); rintro e w' ⟨rfl, rfl⟩) | (go_at_call 49; (with_reducible refine (clone_calls A' k k _ _ HR2.out (by omega)).mono ?_); rintro e w' ⟨v1, rfl, ho, hb1⟩; have HO := Aside0.mk ho; have HB := Aside0.mk hb1; clear ho hb1))
        go_ret3
        have e := HF.out
        rw [show ((q : Int) + k).toNat = q + k from by omega, Int.toNat_natCast] at e
        exact ⟨_, ret3b e, by rw [e]; exact HO.out, HB.out⟩
  · rw [he h1]
    clear he hok hmm hs ho
    have h2 : (e != 0) = true := by simpa using h1
    go_enter Try.func46, Try.ntmps46
    go_wp2_with (go_at_call 44; (with_reducible refine (HC.out).mono ?_); rintro e w' ⟨rfl, rfl⟩)
    go_ret3
    exact ⟨_, rfl, Kd.R_nil _ _ _ _ _, Below.refl _ _⟩

set_option maxHeartbeats 1000000 in
/-- The reference's TakeText. -/
theorem rtakeText_calls (A : Option Addr) (c : Nat) (l : List Int) (pl most : Int) (w : World) (hr : Kd.C (Kd.int .u8) w A l.length l) (hc : l.length ≤ c) (hb : Bytes l) (hm : l.length ≤ 140737488351232) :
    Calls Try.prog 35 #[.slice A l.length c, .int .i64 pl, .int .i64 most] w fun e w' => ∃ v, e = .returned (.tuple #[v, .int .i64 (takeText l pl most).2.1, .int .i64 (takeText l pl most).2.2]) ∧ Kd.R (Kd.int .u8) 5 w' w.heap.size (fun _ => True) (v) ((takeText l pl most).1) ∧ Below w.heap.size w w' := by
  have hcall := rtakeNum_calls A c l pl w hr hc hb (by omega)
  have hok := takeNum_ok l pl hb
  have he := takeText_e l pl most
  have hmm := takeText_m l pl most
  have hs := takeText_s l pl most
  have ho := takeText_o l pl most
  have HR := Aside0.mk hr
  clear hr
  obtain ⟨⟨n, nx, e⟩, ht⟩ : ∃ t, t = takeNum l pl := ⟨_, rfl⟩
  rw [← ht] at hcall hok he hmm hs ho
  clear ht
  dsimp only at hcall hok he hmm hs ho
  have HC := Aside0.mk hcall
  clear hcall
  by_cases h1 : e = 0
  · subst h1
    obtain ⟨hn0, hnm, hp0, hpn, hnl⟩ := hok rfl
    clear he hok
    by_cases h2 : most < n
    · rw [hmm rfl h2]
      clear hmm hs ho
      have h3 : decide (most < n) = true := by simpa using h2
      go_enter Try.func35, Try.ntmps35
      go_wp2_with (go_at_call 34; (with_reducible refine (HC.out).mono ?_); rintro e w' ⟨rfl, rfl⟩)
      go_ret3
      exact ⟨_, rfl, Kd.R_nil _ _ _ _ _, Below.refl _ _⟩
    · have h3 : decide (most < n) = false := by simpa using h2
      clear hmm
      by_cases h4 : (l.length : Int) - nx < n
      · rw [hs rfl h2 h4]
        clear hs ho
        have h5 : decide ((l.length : Int) - nx < n) = true := by simpa using h4
        go_enter Try.func35, Try.ntmps35
        go_wp2_with (go_at_call 34; (with_reducible refine (HC.out).mono ?_); rintro e w' ⟨rfl, rfl⟩)
        go_ret3
        exact ⟨_, rfl, Kd.R_nil _ _ _ _ _, Below.refl _ _⟩
      · have h5 : decide ((l.length : Int) - nx < n) = false := by simpa using h4
        have HF := Aside0.mk (ho rfl h2 h4)
        clear hs ho
        obtain ⟨k, rfl⟩ := Int.eq_ofNat_of_zero_le hn0
        obtain ⟨q, rfl⟩ := Int.eq_ofNat_of_zero_le (show 0 ≤ nx by omega)
        obtain ⟨A', hcut, hA'⟩ := cutLH (Kd.int .u8) 25 5 Try.underlying25 infoU8 A l.length c q (q + k) (by omega) (by omega) hc
        have HR2 := Aside0.mk (hA' w l HR.out)
        clear hA'
        rw [Nat.add_sub_cancel_left] at hcut HR2
        simp only [Int.natCast_add] at hcut
        have HN := Aside0.mk (Kd.R_made_nil (Kd.int .u8) w 5)
        have HB := Aside0.mk (Below.refl w.heap.size w)
        go_enter Try.func35, Try.ntmps35
        go_wp2_with (first | (go_at_call 34; (with_reducible refine (HC.out).mono ?_); rintro e w' ⟨rfl, rfl⟩) | ((with_reducible refine gate_builtin (b := .append) (xs := #[.tmp 31, .tmp 37]) rfl ?_); at_builtin; refine app (Kd.int .u8) (flat_int _) w.heap.size (w0 := w) (.tmp 31) (.tmp 37) 25 5 (.int .u8 0) 1 rfl rfl Try.underlying25 infoU8 rfl (by decide) (by decide) _ [] ((l.take (q + k)).drop q) A' k (c - q) rfl rfl ?aO ?aR ?aB ?aS ?aL ?_; (case aO => exact HN.out); (case aR => exact (Kd.C_below HR2.out (by repeat (first | (with_reducible first | exact HB.out | apply below_alloc | apply pw_below_drewN | apply below_drew1) | exact HB.out)))); (case aB => exact (by repeat (first | (with_reducible first | exact HB.out | apply below_alloc | apply pw_below_drewN | apply below_drew1) | exact HB.out))); (case aS => exact (below_size (by repeat (first | (with_reducible first | exact HB.out | apply below_alloc | apply pw_below_drewN | apply below_drew1) | exact HB.out)))); (case aL => exact (by simp; omega)); intro v2 w2 ho2 hb2 hg2 hat2; have HO := Aside0.mk ho2; have HB2 := Aside0.mk hb2; clear ho2 hb2))
        go_ret3
        have e := HF.out
        rw [show ((q : Int) + k).toNat = q + k from by omega, Int.toNat_natCast] at e
        exact ⟨_, ret3b e, by rw [e]; exact HO.out, HB2.out⟩
  · rw [he h1]
    clear he hok hmm hs ho
    have h2 : (e != 0) = true := by simpa using h1
    go_enter Try.func35, Try.ntmps35
    go_wp2_with (go_at_call 34; (with_reducible refine (HC.out).mono ?_); rintro e w' ⟨rfl, rfl⟩)
    go_ret3
    exact ⟨_, rfl, Kd.R_nil _ _ _ _ _, Below.refl _ _⟩

end Go.Proofs.Ytbncmffifbcbjaa.Oct
