/- What the reference's num and text of wire compute: a number, a text behind some bytes, in a row of its own; condition: not too much. -/
import Derived.Test.YtbncmffifbcbjaaPw
import Derived.Test.YtbncmffifbcbjaaOTN
namespace Go.Proofs.Ytbncmffifbcbjaa.WiQ
open Go Go.RowKit Go.Proofs.YtbncmffifbcbjaaW.PrintWords Go.Proofs.Ytbncmffifbcbjaa.K Go.Proofs.Ytbncmffifbcbjaa.OctS Go.Proofs.Ytbncmffifbcbjaa.OctP Go.Proofs.Ytbncmffifbcbjaa.Oct Go.Proofs.Ytbncmffifbcbjaa.WiN Go.Proofs.Ytbncmffifbcbjaa.Ap Go.Proofs.Ytbncmffifbcbjaa.WiT Go.Proofs.Ytbncmffifbcbjaa.Pw
set_option linter.unusedVariables false
set_option linter.unusedSimpArgs false
theorem bytesOf_strB (s : ByteArray) : bytesOf s = strB s := rfl
set_option maxHeartbeats 1000000 in
theorem rnumb_calls (A : Option Addr) (k c : Nat) (xs : List Int) (z : Int) (w : World) (hC : (Kd.int .u8).C w A k xs) (h0 : 0 ≤ z) (h1 : z ≤ 9007199254740991) (hl : k ≤ 900000) :
    Calls Try.prog 27 #[.slice A k c, .int .i64 z] w fun e w' => ∃ v, e = .returned v ∧ Kd.R (Kd.int .u8) 5 w' w.heap.size (fun _ => True) (v) ((xs ++ numB z.toNat)) ∧ Below w.heap.size w w' := by
  obtain ⟨m, rfl⟩ := Int.eq_ofNat_of_zero_le h0
  rw [Int.toNat_natCast]
  have hm : m ≤ 9007199254740991 := by omega
  have HC := Aside0.mk hC
  have HKL : Aside0 (xs.length = k) := ⟨hC.1⟩
  have HL := Aside0.mk (numB_len8 m hm)
  clear hC h0 h1
  go_enter Try.func27, Try.ntmps27
  go_wp2_with fail
  refine (rnum_ok m hm w).mono ?_
  rintro e w1 ⟨v1, rfl, ho1, hb1⟩
  obtain ⟨A1, c1, rfl, _, hC1⟩ := Kd.R_reads ho1
  have HC1 := Aside0.mk hC1
  have HB := Aside0.mk hb1
  clear ho1 hb1 hC1
  have HRB := Aside0.mk (Below.refl w1.heap.size w1)
  have HN0 := Aside0.mk (Kd.R_made_nil (Kd.int .u8) w1 5)
  have HR := Aside0.mk (Kd.C_below HC.out HB.out)
  go_wp2_with (first | ((with_reducible refine gate_builtin (b := .append) (xs := #[.tmp 12, .tmp 13]) rfl ?_); at_builtin; refine app (Kd.int .u8) (flat_int _) w1.heap.size (w0 := w1) (.tmp 12) (.tmp 13) 25 5 (.int .u8 0) 1 rfl rfl Try.underlying25 infoU8 rfl (by decide) (by decide) _ ([] : List Int) xs A k c rfl rfl ?aO ?aR ?aB ?aS ?aL ?_; (case aO => exact HN0.out); (case aR => exact (Kd.C_below HR.out (by repeat (first | (with_reducible first | exact HRB.out | apply below_alloc | apply pw_below_drewN | apply below_drew1) | exact HRB.out)))); (case aB => exact (by repeat (first | (with_reducible first | exact HRB.out | apply below_alloc | apply pw_below_drewN | apply below_drew1) | exact HRB.out))); (case aS => exact (below_size (by repeat (first | (with_reducible first | exact HRB.out | apply below_alloc | apply pw_below_drewN | apply below_drew1) | exact HRB.out)))); (case aL => exact (by simp; omega)); intro v3 w3 ho3 hb3 _ _; have HO3 := Aside0.mk ho3; have HB3 := Aside0.mk hb3; clear ho3 hb3) | ((with_reducible refine gate_builtin (b := .append) (xs := #[.tmp 14, .tmp 15]) rfl ?_); at_builtin; refine app (Kd.int .u8) (flat_int _) w1.heap.size (w0 := w1) (.tmp 14) (.tmp 15) 25 5 (.int .u8 0) 1 rfl rfl Try.underlying25 infoU8 rfl (by decide) (by decide) _ ([] ++ xs) (numB m) A1 (numB m).length c1 rfl rfl ?aO ?aR ?aB ?aS ?aL ?_; (case aO => exact (by (with_reducible repeat (first | apply Kd.R_alloc | apply Kd.R_drewN | apply Kd.R_drew)); exact HO3.out)); (case aR => exact (Kd.C_below HC1.out (by repeat (first | (with_reducible first | exact HB3.out | apply below_alloc | apply pw_below_drewN | apply below_drew1) | exact HB3.out)))); (case aB => exact (by repeat (first | (with_reducible first | exact HB3.out | apply below_alloc | apply pw_below_drewN | apply below_drew1) | exact HB3.out))); (case aS => exact (below_size (by repeat (first | (with_reducible first | exact HB3.out | apply below_alloc | apply pw_below_drewN | apply below_drew1) | exact HB3.out)))); (case aL => exact (by have := HL.out; have := HKL.out; simp; omega)); intro v4 w4 ho4 hb4 _ _; have HO4 := Aside0.mk ho4; have HB4 := Aside0.mk hb4; clear ho4 hb4))
  go_ret
  exact ⟨_, rfl, Kd.R_lower (by simpa using HO4.out) HB.out.size, below_then HB.out HB.out.size HB4.out⟩
set_option maxHeartbeats 1000000 in
theorem rtextb_calls (A : Option Addr) (k c : Nat) (xs : List Int) (s : ByteArray) (w : World) (hC : (Kd.int .u8).C w A k xs) (hl : k + s.size ≤ 800000) :
    Calls Try.prog 28 #[.slice A k c, .string s] w fun e w' => ∃ v, e = .returned v ∧ Kd.R (Kd.int .u8) 5 w' w.heap.size (fun _ => True) (v) ((xs ++ (numB s.size ++ strB s))) ∧ Below w.heap.size w w' := by
  have HKL : Aside0 (xs.length = k) := ⟨hC.1⟩
  have HL := Aside0.mk (numB_len8 s.size (by omega))
  have HN := Aside0.mk (rnumb_calls A k c xs (s.size : Int) w hC (by omega) (by omega) (by omega))
  clear hC
  go_enter Try.func28, Try.ntmps28
  go_wp2_with fail
  refine HN.out.mono ?_
  rintro e w1 ⟨v1, rfl, ho1, hb1⟩
  have HO1 := Aside0.mk (Kd.own_of_R ho1)
  have HB := Aside0.mk hb1
  clear ho1 hb1
  go_wp2_with ((with_reducible refine gate_builtin (b := .append) (xs := #[.tmp 8, .tmp 9]) rfl ?_); at_builtin; refine print_append_str (w0 := w) w.heap.size rfl (.tmp 8) (.tmp 9) 25 9 5 rfl Try.underlying25 Try.underlying9 infoU8 _ (xs ++ numB (Int.toNat (s.size : Int))) s rfl rfl HO1.out HB.out HB.out.size (by have := HL.out; have := HKL.out; simp; omega) ?_; intro v2 w2 ho2 hb2 _; have HO2 := Aside0.mk ho2; have HB2 := Aside0.mk hb2; clear ho2 hb2)
  go_ret
  exact ⟨_, rfl, Kd.R_of_own (by have := HO2.out; rw [bytesOf_strB, Int.toNat_natCast, List.append_assoc] at this; exact this) (fun _ _ => trivial), HB2.out⟩
section
variable {w W W1 : World} {L : List (Nat × Array Value × TypeId)} {v v1 : Value} {xs xs1 : List Int}
/-- A row of its own takes the row's place. -/
theorem fresh (h : Pw w W L v xs) (ho : Kd.R (Kd.int .u8) 5 W1 W.heap.size (fun _ => True) (v1) (xs1)) (hb : Below W.heap.size W W1) : Pw w W1 L v1 xs1 :=
  ⟨Kd.R_lower ho h.b.size, (h.below hb).b, (h.below hb).keep⟩
theorem rnum (h : Pw w W L v xs) (z : Int) (h0 : 0 ≤ z) (h1 : z ≤ 9007199254740991) (hl : xs.length ≤ 900000) :
    Calls Try.prog 27 #[v, .int .i64 z] W fun e W1 => ∃ v1, e = .returned v1 ∧ Pw w W1 L v1 (xs ++ numB z.toNat) := by
  obtain ⟨A, c, rfl, _, hC⟩ := Kd.R_reads h.own
  exact (rnumb_calls A xs.length c xs z W hC h0 h1 hl).mono fun e W1 ⟨v1, e1, ho, hb⟩ => ⟨v1, e1, fresh h ho hb⟩
theorem rtext (h : Pw w W L v xs) (s : ByteArray) (hl : xs.length + s.size ≤ 800000) :
    Calls Try.prog 28 #[v, .string s] W fun e W1 => ∃ v1, e = .returned v1 ∧ Pw w W1 L v1 (xs ++ (numB s.size ++ strB s)) := by
  obtain ⟨A, c, rfl, _, hC⟩ := Kd.R_reads h.own
  exact (rtextb_calls A xs.length c xs s W hC hl).mono fun e W1 ⟨v1, e1, ho, hb⟩ => ⟨v1, e1, fresh h ho hb⟩
end
end Go.Proofs.Ytbncmffifbcbjaa.WiQ
