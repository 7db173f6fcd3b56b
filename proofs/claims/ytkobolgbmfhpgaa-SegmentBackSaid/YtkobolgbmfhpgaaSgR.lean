/- Which refs are right, in both packages. -/
import Derived.Test.YtkobolgbmfhpgaaRf
import Derived.Test.YtkobolgbmfhpgaaReS
import Derived.Test.YtkobolgbmfhpgaaOctP
namespace Go.Proofs.Ytkobolgbmfhpgaa.ReR
open Go Go.RowKit Go.Proofs.YtkobolgbmfhpgaaW.PrintWords Go.Proofs.Ytkobolgbmfhpgaa.K Go.Proofs.Ytkobolgbmfhpgaa.OctS Go.Proofs.Ytkobolgbmfhpgaa.OctP Go.Proofs.Ytkobolgbmfhpgaa.ReS
set_option linter.unusedVariables false
set_option linter.unusedSimpArgs false
def okRef (r : Ref) : Prop := 1 ≤ r.len ∧ r.len ≤ 512 ∧ 0 ≤ r.bin ∧ r.bin ≤ 4095 ∧ 0 ≤ r.slot ∧ r.slot ≤ 63
instance (r : Ref) : Decidable (okRef r) := by unfold okRef; infer_instance
theorem right_calls (r : Ref) (h : r.Ok) (w : World) : Calls Try.prog 37 #[.agg r.cells.toArray] w fun e w' => e = .returned (.bool (decide (okRef r))) ∧ Below w.heap.size w w' := by
  have hblk := heap_alloc_new w (.cells r.cells.toArray 34)
  have c32 := obj_cell hblk 32 (Ref.cell_len h)
  have c33 := obj_cell hblk 33 (Ref.cell_bin h)
  have c34 := obj_cell hblk 34 (Ref.cell_slot h)
  have HB := Aside0.mk (below_alloc (Below.refl w.heap.size w) (.cells r.cells.toArray 34))
  clear hblk h
  generalize r.cells.toArray = D at *
  generalize hw1 : w.alloc (.cells D 34) = w1 at *
  by_cases q0 : 1 ≤ r.len
  · by_cases q1 : r.len ≤ 512
    · by_cases q2 : 0 ≤ r.bin
      · by_cases q3 : r.bin < 4096
        · by_cases q4 : 0 ≤ r.slot
          · by_cases q5 : r.slot < 64
            · have e : decide (okRef r) = true := decide_eq_true (by unfold okRef; omega)
              rw [e]
              clear e
              have p0 : decide (1 ≤ r.len) = true := by simp; omega
              have p1 : decide (r.len ≤ 512) = true := by simp; omega
              have p2 : decide (0 ≤ r.bin) = true := by simp; omega
              have p3 : decide (r.bin < 4096) = true := by simp; omega
              have p4 : decide (0 ≤ r.slot) = true := by simp; omega
              have p5 : decide (r.slot < 64) = true := by simp; omega
              go_enter Try.func37, Try.ntmps37
              go_wp2
              go_ret
              exact ⟨rfl, HB.out⟩
            · have e : decide (okRef r) = false := decide_eq_false (by unfold okRef; omega)
              rw [e]
              clear e
              have p0 : decide (1 ≤ r.len) = true := by simp; omega
              have p1 : decide (r.len ≤ 512) = true := by simp; omega
              have p2 : decide (0 ≤ r.bin) = true := by simp; omega
              have p3 : decide (r.bin < 4096) = true := by simp; omega
              have p4 : decide (0 ≤ r.slot) = true := by simp; omega
              have p5 : decide (r.slot < 64) = false := by simp; omega
              go_enter Try.func37, Try.ntmps37
              go_wp2
              go_ret
              exact ⟨rfl, HB.out⟩
          · have e : decide (okRef r) = false := decide_eq_false (by unfold okRef; omega)
            rw [e]
            clear e
            have p0 : decide (1 ≤ r.len) = true := by simp; omega
            have p1 : decide (r.len ≤ 512) = true := by simp; omega
            have p2 : decide (0 ≤ r.bin) = true := by simp; omega
            have p3 : decide (r.bin < 4096) = true := by simp; omega
            have p4 : decide (0 ≤ r.slot) = false := by simp; omega
            go_enter Try.func37, Try.ntmps37
            go_wp2
            go_ret
            exact ⟨rfl, HB.out⟩
        · have e : decide (okRef r) = false := decide_eq_false (by unfold okRef; omega)
          rw [e]
          clear e
          have p0 : decide (1 ≤ r.len) = true := by simp; omega
          have p1 : decide (r.len ≤ 512) = true := by simp; omega
          have p2 : decide (0 ≤ r.bin) = true := by simp; omega
          have p3 : decide (r.bin < 4096) = false := by simp; omega
          go_enter Try.func37, Try.ntmps37
          go_wp2
          go_ret
          exact ⟨rfl, HB.out⟩
      · have e : decide (okRef r) = false := decide_eq_false (by unfold okRef; omega)
        rw [e]
        clear e
        have p0 : decide (1 ≤ r.len) = true := by simp; omega
        have p1 : decide (r.len ≤ 512) = true := by simp; omega
        have p2 : decide (0 ≤ r.bin) = false := by simp; omega
        go_enter Try.func37, Try.ntmps37
        go_wp2
        go_ret
        exact ⟨rfl, HB.out⟩
    · have e : decide (okRef r) = false := decide_eq_false (by unfold okRef; omega)
      rw [e]
      clear e
      have p0 : decide (1 ≤ r.len) = true := by simp; omega
      have p1 : decide (r.len ≤ 512) = false := by simp; omega
      go_enter Try.func37, Try.ntmps37
      go_wp2
      go_ret
      exact ⟨rfl, HB.out⟩
  · have e : decide (okRef r) = false := decide_eq_false (by unfold okRef; omega)
    rw [e]
    clear e
    have p0 : decide (1 ≤ r.len) = false := by simp; omega
    go_enter Try.func37, Try.ntmps37
    go_wp2
    go_ret
    exact ⟨rfl, HB.out⟩
theorem rright_calls (r : Ref) (h : r.Ok) (w : World) : Calls Try.prog 39 #[.agg r.cells.toArray] w fun e w' => e = .returned (.bool (decide (okRef r))) ∧ Below w.heap.size w w' := by
  have hblk := heap_alloc_new w (.cells r.cells.toArray 34)
  have c32 := obj_cell hblk 32 (Ref.cell_len h)
  have c33 := obj_cell hblk 33 (Ref.cell_bin h)
  have c34 := obj_cell hblk 34 (Ref.cell_slot h)
  have HB := Aside0.mk (below_alloc (Below.refl w.heap.size w) (.cells r.cells.toArray 34))
  clear hblk h
  generalize r.cells.toArray = D at *
  generalize hw1 : w.alloc (.cells D 34) = w1 at *
  by_cases q0 : 1 ≤ r.len
  · by_cases q1 : r.len ≤ 512
    · by_cases q2 : 0 ≤ r.bin
      · by_cases q3 : r.bin ≤ 4095
        · by_cases q4 : 0 ≤ r.slot
          · by_cases q5 : r.slot ≤ 63
            · have e : decide (okRef r) = true := decide_eq_true (by unfold okRef; omega)
              rw [e]
              clear e
              have p0 : decide (1 ≤ r.len) = true := by simp; omega
              have p1 : decide (r.len ≤ 512) = true := by simp; omega
              have p2 : decide (0 ≤ r.bin) = true := by simp; omega
              have p3 : decide (r.bin ≤ 4095) = true := by simp; omega
              have p4 : decide (0 ≤ r.slot) = true := by simp; omega
              have p5 : decide (r.slot ≤ 63) = true := by simp; omega
              go_enter Try.func39, Try.ntmps39
              go_wp2
              go_ret
              exact ⟨rfl, HB.out⟩
            · have e : decide (okRef r) = false := decide_eq_false (by unfold okRef; omega)
              rw [e]
              clear e
              have p0 : decide (1 ≤ r.len) = true := by simp; omega
              have p1 : decide (r.len ≤ 512) = true := by simp; omega
              have p2 : decide (0 ≤ r.bin) = true := by simp; omega
              have p3 : decide (r.bin ≤ 4095) = true := by simp; omega
              have p4 : decide (0 ≤ r.slot) = true := by simp; omega
              have p5 : decide (r.slot ≤ 63) = false := by simp; omega
              go_enter Try.func39, Try.ntmps39
              go_wp2
              go_ret
              exact ⟨rfl, HB.out⟩
          · have e : decide (okRef r) = false := decide_eq_false (by unfold okRef; omega)
            rw [e]
            clear e
            have p0 : decide (1 ≤ r.len) = true := by simp; omega
            have p1 : decide (r.len ≤ 512) = true := by simp; omega
            have p2 : decide (0 ≤ r.bin) = true := by simp; omega
            have p3 : decide (r.bin ≤ 4095) = true := by simp; omega
            have p4 : decide (0 ≤ r.slot) = false := by simp; omega
            go_enter Try.func39, Try.ntmps39
            go_wp2
            go_ret
            exact ⟨rfl, HB.out⟩
        · have e : decide (okRef r) = false := decide_eq_false (by unfold okRef; omega)
          rw [e]
          clear e
          have p0 : decide (1 ≤ r.len) = true := by simp; omega
          have p1 : decide (r.len ≤ 512) = true := by simp; omega
          have p2 : decide (0 ≤ r.bin) = true := by simp; omega
          have p3 : decide (r.bin ≤ 4095) = false := by simp; omega
          go_enter Try.func39, Try.ntmps39
          go_wp2
          go_ret
          exact ⟨rfl, HB.out⟩
      · have e : decide (okRef r) = false := decide_eq_false (by unfold okRef; omega)
        rw [e]
        clear e
        have p0 : decide (1 ≤ r.len) = true := by simp; omega
        have p1 : decide (r.len ≤ 512) = true := by simp; omega
        have p2 : decide (0 ≤ r.bin) = false := by simp; omega
        go_enter Try.func39, Try.ntmps39
        go_wp2
        go_ret
        exact ⟨rfl, HB.out⟩
    · have e : decide (okRef r) = false := decide_eq_false (by unfold okRef; omega)
      rw [e]
      clear e
      have p0 : decide (1 ≤ r.len) = true := by simp; omega
      have p1 : decide (r.len ≤ 512) = false := by simp; omega
      go_enter Try.func39, Try.ntmps39
      go_wp2
      go_ret
      exact ⟨rfl, HB.out⟩
  · have e : decide (okRef r) = false := decide_eq_false (by unfold okRef; omega)
    rw [e]
    clear e
    have p0 : decide (1 ≤ r.len) = false := by simp; omega
    go_enter Try.func39, Try.ntmps39
    go_wp2
    go_ret
    exact ⟨rfl, HB.out⟩
theorem infoRef0 : (Try.prog.info? 34).map (·.size) = some 35 := by kernel_rfl
theorem infoRef (r : Ref) (h : r.Ok) : (Try.prog.info? 34).map (·.size) = some r.cells.length := by rw [Ref.cells_len h]; exact infoRef0
/-- The lengths of refs that are right. -/
def lens (rs : List Ref) : List Nat := rs.map (fun r => r.len.toNat)
def AllOk (rs : List Ref) : Prop := ∀ r, r ∈ rs → okRef r
theorem lens_take (rs : List Ref) (i : Nat) (h : i < rs.length) : ((lens rs).take (i + 1)).sum = ((lens rs).take i).sum + (rs.getD i default).len.toNat := by
  rw [List.take_add_one, List.sum_append]
  simp [lens, h]
theorem lens_le (rs : List Ref) (h : AllOk rs) : ∀ i, ((lens rs).take i).sum ≤ 512 * i := by
  intro i
  induction i with
  | zero => simp
  | succ i ih =>
    by_cases hi : i < rs.length
    · rw [lens_take rs i hi]
      have hm : rs.getD i default ∈ rs := by simp [hi]
      have := h _ hm
      unfold okRef at this
      omega
    · rw [List.take_of_length_le (by simp [lens]; omega)]
      rw [List.take_of_length_le (by simp [lens]; omega)] at ih
      omega
theorem getD_ok (rs : List Ref) (h : AllOk rs) (i : Nat) (hi : i < rs.length) : okRef (rs.getD i default) := h _ (by simp [hi])
end Go.Proofs.Ytkobolgbmfhpgaa.ReR
