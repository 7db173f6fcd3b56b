/- Equality of the arrays and structs of this program: pairs of numbers, refs; no condition. -/
import Derived.Test.YtgofkhncaldheaaEq
import Derived.Test.YtgofkhncaldheaaReH
namespace Go.Proofs.Ytgofkhncaldheaa.ReE
open Go Go.RowKit Go.Proofs.YtgofkhncaldheaaW.PrintWords Go.Proofs.Ytgofkhncaldheaa.K Go.Proofs.Ytgofkhncaldheaa.ReS Go.Proofs.Ytgofkhncaldheaa.ReR Go.Proofs.Ytgofkhncaldheaa.RePi Go.Proofs.Ytgofkhncaldheaa.ReH Go.Proofs.Ytgofkhncaldheaa.Mp Go.Proofs.Ytgofkhncaldheaa.Eq
set_option linter.unusedVariables false
theorem wf_nat {x : Nat} (h : x ≤ 9223372036854775807) : (Lit.int .i64 (x : Int)).wf = true := by
  have a : IntKind.i64.min = -9223372036854775808 := rfl
  have b : IntKind.i64.max = 9223372036854775807 := rfl
  show (decide (IntKind.i64.min ≤ (x : Int)) && decide ((x : Int) ≤ IntKind.i64.max)) = true
  rw [a, b, Bool.and_eq_true, decide_eq_true_eq, decide_eq_true_eq]
  omega
theorem wide_tw : Wide Try.prog 43 := ⟨⟨2, by omega, by kernel_rfl, by kernel_rfl⟩, by rw [Try.underlying43]⟩
theorem types_ex : ∃ m, Try.prog.types.size = m + 1 := ⟨Try.prog.types.size - 1, by kernel_rfl⟩
theorem key_tw (x : Tw) (h1 : x.1 ≤ 9223372036854775807) (h2 : x.2 ≤ 9223372036854775807) : ∃ l, keyOf Try.prog 43 (.agg #[.int .i64 (x.1 : Int), .int .i64 (x.2 : Int)]) = some l := by
  have h := lits_arr (P := Try.prog) (k := 43) (e := 3) (n := 2) Try.underlying43 Try.underlying3 (by kernel_rfl) (by kernel_rfl) (Try.prog.types.size - 1) (xs := [(x.1 : Int), (x.2 : Int)]) rfl (by
    intro y hy
    simp at hy
    rcases hy with rfl | rfl
    · exact wf_nat h1
    · exact wf_nat h2)
  obtain ⟨L, hL⟩ := h
  have e : Try.prog.types.size - 1 + 2 = Try.prog.types.size + 1 := by
    obtain ⟨m, hm⟩ := types_ex
    omega
  rw [e] at hL
  exact key_of_lits wide_tw (by kernel_rfl) (by kernel_rfl) hL
theorem tw_neq (x0 x1 : Nat) (h1 : x0 ≤ 9223372036854775807) (h2 : x1 ≤ 9223372036854775807) (w : World) : (binOp .neq 43 (.agg #[.int .i64 (x0 : Int), .int .i64 (x1 : Int)]) (.agg #[.int .i64 (x0 : Int), .int .i64 (x1 : Int)])).run Try.prog w = .ok (.bool false) w := by
  obtain ⟨l, hl⟩ := key_tw (x0, x1) h1 h2
  exact neq_same wide_tw hl w
theorem told_small (rs : List Ref) (ho : AllOk rs) (a n : Nat) : ∀ y, y ∈ ReS.told (ReS.cutL (lens rs) 0 a n) → y.1 < rs.length ∧ y.2 < 512 := fun y hy => by
  unfold ReS.told at hy
  obtain ⟨x, hx, hy⟩ := List.mem_flatMap.1 hy
  obtain ⟨k, hk, rfl⟩ := List.mem_map.1 hy
  obtain ⟨j, l, h1, h2, h3, h4⟩ := cut_in (lens rs) 0 a n x hx
  obtain ⟨hj, hl⟩ := List.getElem?_eq_some_iff.1 h2
  have hj2 : j < rs.length := by simpa [lens] using hj
  have hk2 := List.mem_range.1 hk
  have ho2 := ho rs[j] (List.getElem_mem hj2)
  have hl2 : l = rs[j].len.toNat := by rw [← hl]; simp [lens]
  unfold okRef at ho2
  exact ⟨by show x.1 < rs.length; omega, by show x.2.1 + k < 512; omega⟩
end Go.Proofs.Ytgofkhncaldheaa.ReE
