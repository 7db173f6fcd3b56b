/- slices.Clone and slices.Delete at knowns and at sums; condition: the row reads as a list, within the weight's reach. -/
import Derived.Test.YtocmljijdecilaaCaS
namespace Go.Proofs.Ytocmljijdecilaa.CaC
open Go Go.RowKit Go.Proofs.YtocmljijdecilaaW.PrintWords Go.Proofs.Ytocmljijdecilaa.K Go.Proofs.Ytocmljijdecilaa.Mp Go.Proofs.Ytocmljijdecilaa.Eq Go.Proofs.Ytocmljijdecilaa.CaS
set_option linter.unusedVariables false
set_option linter.unusedSimpArgs false
theorem infoKn : (Try.prog.info? 68).map (fun i => (i.zero, i.size, i.bytes)) = some (some (.agg #[.int .i64 0, .slice none 0 0, .map none]), 3, 40) := by kernel_rfl
theorem infoSm : (Try.prog.info? 35).map (fun i => (i.zero, i.size, i.bytes)) = some (some (.agg (List.replicate 32 (Value.int .u8 0)).toArray), 32, 32) := by kernel_rfl
theorem C_none {α : Type} {d : Kd α} {w : World} {n : Nat} {xs : List α} (h : d.C w none n xs) : xs = [] := by
  rcases Nat.eq_zero_or_pos n with h0 | h0
  · exact List.eq_nil_of_length_eq_zero (h.1.trans h0)
  · obtain ⟨ad, e, _⟩ := h.2.2 h0
    cases e
theorem cloneKn (A0 : Option Addr) (n c0 : Nat) (l0 : List Kn) (w : World) (hr : dKn.C w A0 n l0) (hb : n * 40 ≤ 140737488351232) :
    Calls Try.prog 25 #[.slice A0 n c0] w fun e w' => ∃ v, e = .returned v ∧ Kd.R dKn 68 w' w.heap.size (fun _ => True) (v) (l0) ∧ Below w.heap.size w w' := by
  have HB := Aside0.mk (Below.refl w.heap.size w)
  have hq := fun (w : World) a n c n' c' => Lib.run_eql_slice_nil (P := Try.prog) w 57 _ a n c n' c' Try.underlying57
  cases A0 with
  | none =>
    obtain rfl : l0 = [] := C_none hr
    go_enter Try.func25, Try.ntmps25
    go_wp2
    go_ret
    exact ⟨_, rfl, Kd.R_nil _ _ _ _ _, HB.out⟩
  | some a =>
    have HR := Aside0.mk hr
    clear hr
    have HN := Aside0.mk (Kd.R_made_nil dKn w 68)
    go_enter Try.func25, Try.ntmps25
    go_wp2_with ((with_reducible refine gate_builtin (b := .append) (xs := #[.tmp 5, .tmp 6]) rfl ?_); at_builtin; refine app dKn flat_kn w.heap.size (w0 := w) (.tmp 5) (.tmp 6) 57 68 _ 40 rfl rfl Try.underlying57 infoKn rfl (by decide) (by decide) _ [] l0 (some a) n c0 rfl rfl ?aO ?aR ?aB ?aS ?aL ?_; (case aO => exact HN.out); (case aR => exact (Kd.C_below HR.out (by repeat (first | (with_reducible first | exact HB.out | apply below_alloc | apply pw_below_drewN | apply below_drew1) | exact HB.out)))); (case aB => exact (by repeat (first | (with_reducible first | exact HB.out | apply below_alloc | apply pw_below_drewN | apply below_drew1) | exact HB.out))); (case aS => exact (below_size (by repeat (first | (with_reducible first | exact HB.out | apply below_alloc | apply pw_below_drewN | apply below_drew1) | exact HB.out)))); (case aL => exact (by simp; omega)); intro v1 w1 ho hb1 hg hat)
    go_ret
    exact ⟨_, rfl, by simpa using ho, hb1⟩
theorem cloneSm (A0 : Option Addr) (n c0 : Nat) (l0 : List Sm) (w : World) (hr : dSum.C w A0 n l0) (hb : n * 32 ≤ 140737488351232) :
    Calls Try.prog 29 #[.slice A0 n c0] w fun e w' => ∃ v, e = .returned v ∧ Kd.R dSum 35 w' w.heap.size (fun _ => True) (v) (l0) ∧ Below w.heap.size w w' := by
  have HB := Aside0.mk (Below.refl w.heap.size w)
  have hq := fun (w : World) a n c n' c' => Lib.run_eql_slice_nil (P := Try.prog) w 38 _ a n c n' c' Try.underlying38
  cases A0 with
  | none =>
    obtain rfl : l0 = [] := C_none hr
    go_enter Try.func29, Try.ntmps29
    go_wp2
    go_ret
    exact ⟨_, rfl, Kd.R_nil _ _ _ _ _, HB.out⟩
  | some a =>
    have HR := Aside0.mk hr
    clear hr
    have HN := Aside0.mk (Kd.R_made_nil dSum w 35)
    go_enter Try.func29, Try.ntmps29
    go_wp2_with ((with_reducible refine gate_builtin (b := .append) (xs := #[.tmp 5, .tmp 6]) rfl ?_); at_builtin; refine app dSum flat_sum w.heap.size (w0 := w) (.tmp 5) (.tmp 6) 38 35 _ 32 rfl rfl Try.underlying38 infoSm rfl (by decide) (by decide) _ [] l0 (some a) n c0 rfl rfl ?aO ?aR ?aB ?aS ?aL ?_; (case aO => exact HN.out); (case aR => exact (Kd.C_below HR.out (by repeat (first | (with_reducible first | exact HB.out | apply below_alloc | apply pw_below_drewN | apply below_drew1) | exact HB.out)))); (case aB => exact (by repeat (first | (with_reducible first | exact HB.out | apply below_alloc | apply pw_below_drewN | apply below_drew1) | exact HB.out))); (case aS => exact (below_size (by repeat (first | (with_reducible first | exact HB.out | apply below_alloc | apply pw_below_drewN | apply below_drew1) | exact HB.out)))); (case aL => exact (by simp; omega)); intro v1 w1 ho hb1 hg hat)
    go_ret
    exact ⟨_, rfl, by simpa using ho, hb1⟩
end Go.Proofs.Ytocmljijdecilaa.CaC
