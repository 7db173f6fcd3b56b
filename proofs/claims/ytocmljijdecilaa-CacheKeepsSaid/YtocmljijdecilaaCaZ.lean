/- The reference's Fork, walked; condition: the reference's cache stands. -/
import Derived.Test.YtocmljijdecilaaCaY
namespace Go.Proofs.Ytocmljijdecilaa.CaZ
open Go Go.RowKit Go.Proofs.YtocmljijdecilaaW.PrintWords Go.Proofs.Ytocmljijdecilaa.K Go.Proofs.Ytocmljijdecilaa.CaS Go.Proofs.Ytocmljijdecilaa.CaX
set_option linter.unusedVariables false
set_option linter.unusedSimpArgs false
theorem rfork_calls {w : World} {T : Nat → Prop} {g : Nat} {room : Int} {ts : List Kr} (h : Cr w T g room ts) (T1 : Nat → Prop) (hT : ∀ k, k < w.heap.size → T1 k → T k) : Calls Try.prog 16 #[.pointer (some ⟨g, 0, none⟩)] w fun e w' => e = .returned (.pointer (some ⟨w.heap.size, 0, none⟩)) ∧ Cr w' T1 w.heap.size room ts ∧ Below w.heap.size w w' := by
  obtain ⟨A, c, hg, hC, hc, hA⟩ := h
  have a0 := obj_cell hg 0 (v := .int .i64 room) rfl
  have a1 := obj_cell hg 1 (v := .slice A ts.length c) rfl
  have HB := Aside0.mk (below_alloc (Below.refl w.heap.size w) (.cells #[.int .i64 room, .slice A ts.length c] 62))
  have HC := Aside0.mk hC
  have HA := Aside0.mk hA
  clear hg hC hA
  go_enter Try.func16, Try.ntmps16
  go_wp2
  go_ret
  exact ⟨rfl, ⟨A, c, heap_alloc_new _ _, Kd.C_below HC.out HB.out, hc, fun a ha => ⟨Nat.lt_of_lt_of_le (HA.out a ha).1 HB.out.size, fun e => (HA.out a ha).2 (hT _ (HA.out a ha).1 e)⟩⟩, HB.out⟩
end Go.Proofs.Ytocmljijdecilaa.CaZ
