/- New, Has, Drop, Clear of the cache, walked; condition: the cache stands. -/
import Derived.Test.YtocmljijdecilaaCaQ
namespace Go.Proofs.Ytocmljijdecilaa.CaR
open Go Go.RowKit Go.Proofs.YtocmljijdecilaaW.PrintWords Go.Proofs.Ytocmljijdecilaa.K Go.Proofs.Ytocmljijdecilaa.Mp Go.Proofs.Ytocmljijdecilaa.Eq Go.Proofs.Ytocmljijdecilaa.CaS Go.Proofs.Ytocmljijdecilaa.CaC Go.Proofs.Ytocmljijdecilaa.CaD Go.Proofs.Ytocmljijdecilaa.CaA Go.Proofs.Ytocmljijdecilaa.CaO Go.Proofs.Ytocmljijdecilaa.CaP Go.Proofs.Ytocmljijdecilaa.CaQ
set_option linter.unusedVariables false
set_option linter.unusedSimpArgs false
theorem new_no (room : Int) (h : room < 1 ∨ 256 < room) (w : World) : Calls Try.prog 8 #[.int .i64 room] w fun e w' => e = .returned (.tuple #[.pointer none, .int .i64 2]) ∧ w' = w := by
  by_cases h1 : room < 1
  · have d1 : decide (room < 1) = true := by simpa using h1
    clear h h1
    go_enter Try.func8, Try.ntmps8
    go_wp2
    go_ret2
    exact ⟨rfl, rfl⟩
  · have d1 : decide (room < 1) = false := by simpa using h1
    have d2 : decide (256 < room) = true := by simp; omega
    clear h h1
    go_enter Try.func8, Try.ntmps8
    go_wp2
    go_ret2
    exact ⟨rfl, rfl⟩
theorem new_ok (room : Int) (h0 : 1 ≤ room) (h1 : room ≤ 256) (w : World) : Calls Try.prog 8 #[.int .i64 room] w fun e w' => e = .returned (.tuple #[.pointer (some ⟨w.heap.size, 0, none⟩), .int .i64 0]) ∧ w' = w.alloc (.cells #[.int .i64 room, .slice none 0 0] 59) := by
  have d1 : decide (room < 1) = false := by simp; omega
  have d2 : decide (256 < room) = false := by simp; omega
  clear h0 h1
  go_enter Try.func8, Try.ntmps8
  go_wp2
  go_ret2
  exact ⟨rfl, rfl⟩
theorem ca_new (w : World) (T : Nat → Prop) (room : Int) : Ca (w.alloc (.cells #[.int .i64 room, .slice none 0 0] 59)) T w.heap.size room [] :=
  ⟨none, 0, heap_alloc_new _ _, ⟨rfl, by decide, fun h => absurd h (Nat.lt_irrefl 0)⟩, Nat.le_refl _, fun a ha => by cases ha⟩
theorem has_calls {w : World} {T : Nat → Prop} {g : Nat} {room : Int} {ts : List Kn} (h : Ca w T g room ts) (b : Int) : Calls Try.prog 21 #[.pointer (some ⟨g, 0, none⟩), .int .i64 b] w fun e w' => e = .returned (.bool (decide (0 ≤ atB ts b 0))) ∧ Below w.heap.size w w' := by
  have HAT := Aside0.mk (at_calls h b)
  clear h
  generalize atB ts b 0 = x at *
  go_enter Try.func21, Try.ntmps21
  go_wp2_with (go_at_call 27; (with_reducible refine (HAT.out).mono ?_); rintro e w' ⟨rfl, hb4⟩; have HB4 := Aside0.mk hb4; clear hb4)
  go_ret
  exact ⟨rfl, HB4.out⟩
theorem drop_calls {w : World} {T : Nat → Prop} {g : Nat} {room : Int} {ts : List Kn} (h : Ca w T g room ts) (b : Int) (hn : ts.length ≤ 900) (hT : ∀ k, T k → k < w.heap.size) : Calls Try.prog 19 #[.pointer (some ⟨g, 0, none⟩), .int .i64 b] w fun e w' => e = .returned (.int .i64 0) ∧ Ca w' T g room (rmB ts b) ∧ w.grownBy w' (some g) := by
  have H := Aside0.mk h
  have hat0 := at_calls h b
  clear h
  rcases rm_at ts b 0 with ⟨hat, hrm⟩ | ⟨i, hi, hat, hrm⟩
  · rw [hat] at hat0
    have HAT := Aside0.mk hat0
    have HRM := Aside0.mk hrm
    clear hat0 hat hrm
    have dd : decide ((0 : Int) ≤ (-1 : Int)) = false := by decide
    go_enter Try.func19, Try.ntmps19
    go_wp2_with (go_at_call 27; (with_reducible refine (HAT.out).mono ?_); rintro e w' ⟨rfl, hb4⟩; have HB4 := Aside0.mk hb4; clear hb4)
    go_ret
    exact ⟨rfl, by rw [HRM.out]; exact ca_below H.out HB4.out, grown_below HB4.out⟩
  · rw [hat, Nat.zero_add] at hat0
    have HAT := Aside0.mk hat0
    have HRM := Aside0.mk hrm
    clear hat0 hat hrm
    have dd : decide ((0 : Int) ≤ (i : Int)) = true := by simp
    go_enter Try.func19, Try.ntmps19
    go_wp2_with (first
      | (go_at_call 27; (with_reducible refine (HAT.out).mono ?_); rintro e w' ⟨rfl, hb4⟩; have HB4 := Aside0.mk hb4; clear hb4)
      | (go_at_call 28; (with_reducible refine (out_calls (ca_below H.out HB4.out) i hi (by omega) (fun k hk => Nat.lt_of_lt_of_le (hT k hk) HB4.out.size)).mono ?_); rintro e w' ⟨⟨vo, rfl⟩, hC1, hG1⟩; have HC1 := Aside0.mk hC1; have HG1 := Aside0.mk hG1; clear hC1 hG1))
    go_ret
    exact ⟨rfl, by rw [HRM.out]; exact HC1.out, World.grownBy.trans (grown_below HB4.out) HG1.out⟩
theorem clear_calls {w : World} {T : Nat → Prop} {g : Nat} {room : Int} {ts : List Kn} (h : Ca w T g room ts) : Calls Try.prog 20 #[.pointer (some ⟨g, 0, none⟩)] w fun e w' => e = .returned (.int .i64 0) ∧ Ca w' T g room [] ∧ w.grownBy w' (some g) := by
  obtain ⟨A, c, hg, hC, hc, hA⟩ := h
  have a1 := obj_cell hg 1 (v := .slice A ts.length c) rfl
  have f1 := obj_free hg 1
  have HG := Aside0.mk hg
  clear hg hC hA
  go_enter Try.func20, Try.ntmps20
  go_wp2
  go_ret
  exact ⟨rfl, ⟨none, 0, (obj_set HG.out 1 _).trans rfl, ⟨rfl, by decide, fun h => absurd h (Nat.lt_irrefl 0)⟩, Nat.le_refl _, fun a ha => by cases ha⟩, obj_grown _ _ _ _⟩
end Go.Proofs.Ytocmljijdecilaa.CaR
