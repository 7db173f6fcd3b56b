/- Fork of the cache, walked; condition: the cache stands. -/
import Derived.Test.YtocmljijdecilaaCaT
namespace Go.Proofs.Ytocmljijdecilaa.CaU
open Go Go.RowKit Go.Proofs.YtocmljijdecilaaW.PrintWords Go.Proofs.Ytocmljijdecilaa.K Go.Proofs.Ytocmljijdecilaa.Mp Go.Proofs.Ytocmljijdecilaa.Eq Go.Proofs.Ytocmljijdecilaa.CaS Go.Proofs.Ytocmljijdecilaa.CaC Go.Proofs.Ytocmljijdecilaa.CaD Go.Proofs.Ytocmljijdecilaa.CaA Go.Proofs.Ytocmljijdecilaa.CaO Go.Proofs.Ytocmljijdecilaa.CaP Go.Proofs.Ytocmljijdecilaa.CaQ
set_option linter.unusedVariables false
set_option linter.unusedSimpArgs false
theorem ReA_below {w W W1 : World} {b : Nat} (h : Below w.heap.size w W) (hg : W.grownBy W1 (some b)) (hb : w.heap.size ≤ b) : Below w.heap.size w W1 :=
  h.grown hg h.size (fun r e => by injection e with e; omega)
set_option maxHeartbeats 4000000 in
theorem fork_calls {w : World} {T : Nat → Prop} {g : Nat} {room : Int} {ts : List Kn} (h : Ca w T g room ts) (hn : ts.length ≤ 900) (T1 : Nat → Prop) (hT : ∀ k, T1 k → k ≤ w.heap.size) : Calls Try.prog 14 #[.pointer (some ⟨g, 0, none⟩)] w fun e w' => e = .returned (.pointer (some ⟨w.heap.size, 0, none⟩)) ∧ Ca w' T1 w.heap.size room ts ∧ Below w.heap.size w w' := by
  obtain ⟨A, c, hg, hC, hc, hA⟩ := h
  have hgl := (Array.getElem?_eq_some_iff.1 hg).1
  have a0 := obj_cell hg 0 (v := .int .i64 room) rfl
  have a1 := obj_cell hg 1 (v := .slice A ts.length c) rfl
  have hal := below_alloc (Below.refl w.heap.size w) (.cells #[.int .i64 room, .slice A ts.length c] 59)
  have b1 := (hal.cell (p := ⟨g, 1, none⟩) hgl).trans a1
  have HN := Aside0.mk (heap_alloc_new w (.cells #[.int .i64 room, .slice A ts.length c] 59))
  have HCL := Aside0.mk (cloneKn A ts.length c ts _ (Kd.C_below hC hal) (by omega))
  have HAL := Aside0.mk hal
  clear hg hC hA hal
  go_enter Try.func14, Try.ntmps14
  go_wp2_with (go_at_call 25; (with_reducible refine (HCL.out).mono ?_); rintro e w' ⟨v1, rfl, ho1, hb1⟩; obtain ⟨A2, c2, rfl, hlc2, hC2⟩ := Kd.R_reads ho1; have HA2 : Aside0 (∀ a, A2 = some a → w.heap.size + 1 ≤ a.block ∧ a.block < w'.heap.size) := ⟨fun a ha => ⟨by have := Kd.R_base ho1 a.block (by rw [ha]; rfl); simpa using this, Kd.R_lt ho1 _ (by rw [ha]; rfl)⟩⟩; have hgf := (hb1.block w.heap.size (by simp)).trans HN.out; have HGF := Aside0.mk hgf; have x1 := obj_cell hgf 1 (v := .slice A ts.length c) rfl; have y1 := obj_free hgf 1; have HC2 := Aside0.mk hC2; have HB1 := Aside0.mk (below_then HAL.out HAL.out.size hb1); clear hgf hC2 hb1 ho1)
  go_ret
  refine ⟨rfl, ⟨A2, c2, (obj_set HGF.out 1 _).trans rfl, C_same HC2.out (fun a ha => Below.heap_setCell _ _ _ _ (by show a.block ≠ w.heap.size; have := (HA2.out a ha).1; omega)), hlc2, fun a ha => ⟨by simpa [World.setCell] using (HA2.out a ha).2, fun e => by have := hT _ e; have := (HA2.out a ha).1; omega⟩⟩, ?_⟩
  exact ReA_below HB1.out (obj_grown _ _ _ _) (Nat.le_refl _)
end Go.Proofs.Ytocmljijdecilaa.CaU
