/- Which refs are right, and how many bytes refs have, in both packages. -/
import Derived.Test.YtgofkhncaldheaaRf
import Derived.Test.YtgofkhncaldheaaReS
import Derived.Test.YtgofkhncaldheaaOctP
namespace Go.Proofs.Ytgofkhncaldheaa.ReR
open Go Go.RowKit Go.Proofs.YtgofkhncaldheaaW.PrintWords Go.Proofs.Ytgofkhncaldheaa.K Go.Proofs.Ytgofkhncaldheaa.OctS Go.Proofs.Ytgofkhncaldheaa.OctP Go.Proofs.Ytgofkhncaldheaa.ReS
set_option linter.unusedVariables false
set_option linter.unusedSimpArgs false
def okRef (r : Ref) : Prop := 1 ≤ r.len ∧ r.len ≤ 512 ∧ 0 ≤ r.bin ∧ r.bin ≤ 4095 ∧ 0 ≤ r.slot ∧ r.slot ≤ 63
instance (r : Ref) : Decidable (okRef r) := by unfold okRef; infer_instance
theorem right_calls (r : Ref) (h : r.Ok) (w : World) : Calls Try.prog 46 #[.agg r.cells.toArray] w fun e w' => e = .returned (.bool (decide (okRef r))) ∧ Below w.heap.size w w' := by
  have hblk := heap_alloc_new w (.cells r.cells.toArray 56)
  have c32 := obj_cell hblk 32 (Ref.cell_len h)
  have c33 := obj_cell hblk 33 (Ref.cell_bin h)
  have c34 := obj_cell hblk 34 (Ref.cell_slot h)
  have HB := Aside0.mk (below_alloc (Below.refl w.heap.size w) (.cells r.cells.toArray 56))
  clear hblk h
  generalize r.cells.toArray = D at *
  generalize hw1 : w.alloc (.cells D 56) = w1 at *
  by_cases q0 : 1 ≤ r.len
  · by_cases q1 : r.len ≤ 512
    · by_cases q2 : 0 ≤ r.bin
      · by_cases q3 : r.bin < 4096
        · by_cases q4 : 0 ≤ r.slot
          · by_cases q5 : r.slot < 64
            · have e : decide (okRef r) = true := decide_eq_true (by unfold okRef; omega)
              rw [e]
              clear e
              have p0 : decide (1 ≤ r.len) = true := by simp; omega
              have p1 : decide (r.len ≤ 512) = true := by simp; omega
              have p2 : decide (0 ≤ r.bin) = true := by simp; omega
              have p3 : decide (r.bin < 4096) = true := by simp; omega
              have p4 : decide (0 ≤ r.slot) = true := by simp; omega
              have p5 : decide (r.slot < 64) = true := by simp; omega
              go_enter Try.func46, Try.ntmps46
              go_wp2
              go_ret
              exact ⟨rfl, HB.out⟩
            · have e : decide (okRef r) = false := decide_eq_false (by unfold okRef; omega)
              rw [e]
              clear e
              have p0 : decide (1 ≤ r.len) = true := by simp; omega
              have p1 : decide (r.len ≤ 512) = true := by simp; omega
              have p2 : decide (0 ≤ r.bin) = true := by simp; omega
              have p3 : decide (r.bin < 4096) = true := by simp; omega
              have p4 : decide (0 ≤ r.slot) = true := by simp; omega
              have p5 : decide (r.slot < 64) = false := by simp; omega
              go_enter Try.func46, Try.ntmps46
              go_wp2
              go_ret
              exact ⟨rfl, HB.out⟩
          · have e : decide (okRef r) = false := decide_eq_false (by unfold okRef; omega)
            rw [e]
            clear e
            have p0 : decide (1 ≤ r.len) = true := by simp; omega
            have p1 : decide (r.len ≤ 512) = true := by simp; omega
            have p2 : decide (0 ≤ r.bin) = true := by simp; omega
            have p3 : decide (r.bin < 4096) = true := by simp; omega
            have p4 : decide (0 ≤ r.slot) = false := by simp; omega
            go_enter Try.func46, Try.ntmps46
            go_wp2
            go_ret
            exact ⟨rfl, HB.out⟩
        · have e : decide (okRef r) = false := decide_eq_false (by unfold okRef; omega)
          rw [e]
          clear e
          have p0 : decide (1 ≤ r.len) = true := by simp; omega
          have p1 : decide (r.len ≤ 512) = true := by simp; omega
          have p2 : decide (0 ≤ r.bin) = true := by simp; omega
          have p3 : decide (r.bin < 4096) = false := by simp; omega
          go_enter Try.func46, Try.ntmps46
          go_wp2
          go_ret
          exact ⟨rfl, HB.out⟩
      · have e : decide (okRef r) = false := decide_eq_false (by unfold okRef; omega)
        rw [e]
        clear e
        have p0 : decide (1 ≤ r.len) = true := by simp; omega
        have p1 : decide (r.len ≤ 512) = true := by simp; omega
        have p2 : decide (0 ≤ r.bin) = false := by simp; omega
        go_enter Try.func46, Try.ntmps46
        go_wp2
        go_ret
        exact ⟨rfl, HB.out⟩
    · have e : decide (okRef r) = false := decide_eq_false (by unfold okRef; omega)
      rw [e]
      clear e
      have p0 : decide (1 ≤ r.len) = true := by simp; omega
      have p1 : decide (r.len ≤ 512) = false := by simp; omega
      go_enter Try.func46, Try.ntmps46
      go_wp2
      go_ret
      exact ⟨rfl, HB.out⟩
  · have e : decide (okRef r) = false := decide_eq_false (by unfold okRef; omega)
    rw [e]
    clear e
    have p0 : decide (1 ≤ r.len) = false := by simp; omega
    go_enter Try.func46, Try.ntmps46
    go_wp2
    go_ret
    exact ⟨rfl, HB.out⟩
theorem rright_calls (r : Ref) (h : r.Ok) (w : World) : Calls Try.prog 32 #[.agg r.cells.toArray] w fun e w' => e = .returned (.bool (decide (okRef r))) ∧ Below w.heap.size w w' := by
  have hblk := heap_alloc_new w (.cells r.cells.toArray 56)
  have c32 := obj_cell hblk 32 (Ref.cell_len h)
  have c33 := obj_cell hblk 33 (Ref.cell_bin h)
  have c34 := obj_cell hblk 34 (Ref.cell_slot h)
  have HB := Aside0.mk (below_alloc (Below.refl w.heap.size w) (.cells r.cells.toArray 56))
  clear hblk h
  generalize r.cells.toArray = D at *
  generalize hw1 : w.alloc (.cells D 56) = w1 at *
  by_cases q0 : 1 ≤ r.len
  · by_cases q1 : r.len ≤ 512
    · by_cases q2 : 0 ≤ r.bin
      · by_cases q3 : r.bin ≤ 4095
        · by_cases q4 : 0 ≤ r.slot
          · by_cases q5 : r.slot ≤ 63
            · have e : decide (okRef r) = true := decide_eq_true (by unfold okRef; omega)
              rw [e]
              clear e
              have p0 : decide (1 ≤ r.len) = true := by simp; omega
              have p1 : decide (r.len ≤ 512) = true := by simp; omega
              have p2 : decide (0 ≤ r.bin) = true := by simp; omega
              have p3 : decide (r.bin ≤ 4095) = true := by simp; omega
              have p4 : decide (0 ≤ r.slot) = true := by simp; omega
              have p5 : decide (r.slot ≤ 63) = true := by simp; omega
              go_enter Try.func32, Try.ntmps32
              go_wp2
              go_ret
              exact ⟨rfl, HB.out⟩
            · have e : decide (okRef r) = false := decide_eq_false (by unfold okRef; omega)
              rw [e]
              clear e
              have p0 : decide (1 ≤ r.len) = true := by simp; omega
              have p1 : decide (r.len ≤ 512) = true := by simp; omega
              have p2 : decide (0 ≤ r.bin) = true := by simp; omega
              have p3 : decide (r.bin ≤ 4095) = true := by simp; omega
              have p4 : decide (0 ≤ r.slot) = true := by simp; omega
              have p5 : decide (r.slot ≤ 63) = false := by simp; omega
              go_enter Try.func32, Try.ntmps32
              go_wp2
              go_ret
              exact ⟨rfl, HB.out⟩
          · have e : decide (okRef r) = false := decide_eq_false (by unfold okRef; omega)
            rw [e]
            clear e
            have p0 : decide (1 ≤ r.len) = true := by simp; omega
            have p1 : decide (r.len ≤ 512) = true := by simp; omega
            have p2 : decide (0 ≤ r.bin) = true := by simp; omega
            have p3 : decide (r.bin ≤ 4095) = true := by simp; omega
            have p4 : decide (0 ≤ r.slot) = false := by simp; omega
            go_enter Try.func32, Try.ntmps32
            go_wp2
            go_ret
            exact ⟨rfl, HB.out⟩
        · have e : decide (okRef r) = false := decide_eq_false (by unfold okRef; omega)
          rw [e]
          clear e
          have p0 : decide (1 ≤ r.len) = true := by simp; omega
          have p1 : decide (r.len ≤ 512) = true := by simp; omega
          have p2 : decide (0 ≤ r.bin) = true := by simp; omega
          have p3 : decide (r.bin ≤ 4095) = false := by simp; omega
          go_enter Try.func32, Try.ntmps32
          go_wp2
          go_ret
          exact ⟨rfl, HB.out⟩
      · have e : decide (okRef r) = false := decide_eq_false (by unfold okRef; omega)
        rw [e]
        clear e
        have p0 : decide (1 ≤ r.len) = true := by simp; omega
        have p1 : decide (r.len ≤ 512) = true := by simp; omega
        have p2 : decide (0 ≤ r.bin) = false := by simp; omega
        go_enter Try.func32, Try.ntmps32
        go_wp2
        go_ret
        exact ⟨rfl, HB.out⟩
    · have e : decide (okRef r) = false := decide_eq_false (by unfold okRef; omega)
      rw [e]
      clear e
      have p0 : decide (1 ≤ r.len) = true := by simp; omega
      have p1 : decide (r.len ≤ 512) = false := by simp; omega
      go_enter Try.func32, Try.ntmps32
      go_wp2
      go_ret
      exact ⟨rfl, HB.out⟩
  · have e : decide (okRef r) = false := decide_eq_false (by unfold okRef; omega)
    rw [e]
    clear e
    have p0 : decide (1 ≤ r.len) = false := by simp; omega
    go_enter Try.func32, Try.ntmps32
    go_wp2
    go_ret
    exact ⟨rfl, HB.out⟩
theorem infoRef0 : (Try.prog.info? 56).map (·.size) = some 35 := by kernel_rfl
theorem infoRef (r : Ref) (h : r.Ok) : (Try.prog.info? 56).map (·.size) = some r.cells.length := by rw [Ref.cells_len h]; exact infoRef0
/-- The lengths of refs that are right. -/
def lens (rs : List Ref) : List Nat := rs.map (fun r => r.len.toNat)
def AllOk (rs : List Ref) : Prop := ∀ r, r ∈ rs → okRef r
theorem lens_take (rs : List Ref) (i : Nat) (h : i < rs.length) : ((lens rs).take (i + 1)).sum = ((lens rs).take i).sum + (rs.getD i default).len.toNat := by
  rw [List.take_add_one, List.sum_append]
  simp [lens, h]
theorem lens_le (rs : List Ref) (h : AllOk rs) : ∀ i, ((lens rs).take i).sum ≤ 512 * i := by
  intro i
  induction i with
  | zero => simp
  | succ i ih =>
    by_cases hi : i < rs.length
    · rw [lens_take rs i hi]
      have hm : rs.getD i default ∈ rs := by simp [hi]
      have := h _ hm
      unfold okRef at this
      omega
    · rw [List.take_of_length_le (by simp [lens]; omega)]
      rw [List.take_of_length_le (by simp [lens]; omega)] at ih
      omega
theorem getD_ok (rs : List Ref) (h : AllOk rs) (i : Nat) (hi : i < rs.length) : okRef (rs.getD i default) := h _ (by simp [hi])
set_option maxHeartbeats 1000000 in
theorem rsize_calls (A : Option Addr) (k c : Nat) (rs : List Ref) (w : World) (h : RefsC w A k rs) (hk : k ≤ 256) (ho : AllOk rs) : Calls Try.prog 21 #[.slice A k c] w fun e w' => e = .returned (.int .i64 ((lens rs).sum : Nat)) ∧ w = w' := by
  have H := Aside0.mk h
  have HO := Aside0.mk ho
  have HL := Aside0.mk h.len
  clear h ho
  go_enter Try.func21, Try.ntmps21
  go_wp2
  go_loopg [3, 4] (k + 1) (fun gk v3 v4 wr => ∃ (i acc : Nat), v3 = .int .i64 acc ∧ v4 = .int .i64 i ∧ i ≤ k ∧ acc ≤ 512 * i ∧ Aside0 (gk = k - i + 1) ∧ Aside0 (acc = ((lens rs).take i).sum) ∧ w = wr)
  case atStart => exact ⟨0, 0, rfl, rfl, Nat.zero_le _, by omega, ⟨rfl⟩, ⟨by simp⟩, rfl⟩
  case round =>
    obtain ⟨i, acc, rfl, rfl, hi, hacc, HG, HT, rfl⟩ := hrel
    by_cases hlt : i < k
    · have h1 : decide ((i : Int) < (k : Int)) = true := by simp; omega
      obtain ⟨ad, hA⟩ := H.out.is (by omega)
      subst hA
      have hp1 : (0 : Int) ≤ (i : Int) := by omega
      have hp2 : (i : Int) < (k : Int) := by omega
      have hk1 := getD_ok rs HO.out i (by rw [HL.out]; exact hlt)
      have HS := Aside0.mk (lens_take rs i (by rw [HL.out]; exact hlt))
      have hc := H.out.cells ad rfl i hlt 32 (.int .i64 (rs.getD i default).len) (by have := Ref.cell_len (H.out.ok i hlt); rwa [List.getElem?_toArray] at this)
      have hc : w.cell? ⟨(ad.add (i * 35)).block, (ad.add (i * 35)).off + 32, none⟩ = some (.int .i64 (rs.getD i default).len) := hc
      have hl : (rs.getD i default).len = ((rs.getD i default).len.toNat : Int) := by unfold okRef at hk1; omega
      rw [hl] at hc
      have hl2 : (rs.getD i default).len.toNat ≤ 512 := by unfold okRef at hk1; omega
      generalize (rs.getD i default).len.toNat = x at *
      clear hl hk1
      go_wp2
      go_roundg (k - (i + 1) + 1)
      case measure => have := HG.out; omega
      case rel => exact ⟨i + 1, acc + x, by go_num, by go_num, by omega, by omega, ⟨rfl⟩, ⟨by rw [HS.out, ← HT.out]⟩, rfl⟩
    · obtain rfl : i = k := by omega
      have h1 : decide ((i : Int) < (i : Int)) = false := by simp
      go_wp2
      go_ret
      have hh : acc = (lens rs).sum := by
        have h := HT.out
        rwa [List.take_of_length_le (by simp [lens, HL.out])] at h
      exact ⟨by rw [← hh]; rfl, rfl⟩
end Go.Proofs.Ytgofkhncaldheaa.ReR
