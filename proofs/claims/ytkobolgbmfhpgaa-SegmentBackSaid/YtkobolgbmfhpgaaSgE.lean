/- Where a segment ends, in both packages; condition: the refs read as refs. -/
import Derived.Test.YtkobolgbmfhpgaaSgH
namespace Go.Proofs.Ytkobolgbmfhpgaa.SgE
open Go Go.RowKit Go.Proofs.YtkobolgbmfhpgaaW.PrintWords Go.Proofs.Ytkobolgbmfhpgaa.K Go.Proofs.Ytkobolgbmfhpgaa.OctS Go.Proofs.Ytkobolgbmfhpgaa.OctP Go.Proofs.Ytkobolgbmfhpgaa.Oct
set_option linter.unusedVariables false
set_option linter.unusedSimpArgs false
def lastB (rs : List Ref) : Int := ((rs.getD (rs.length - 1) default).s).getD 31 0
/-- Does a segment end behind its last ref? -/
def endsF (rs : List Ref) (most : Int) : Bool := decide (0 < rs.length) && (decide ((rs.length : Int) = most) || (decide (most ≤ 2 * (rs.length : Int)) && decide (lastB rs < 32)))
theorem last_at {w : World} {A : Option Addr} {n : Nat} {rs : List Ref} (h : RefsC w A (n + 1) rs) : ∃ ad, A = some ad ∧ w.cell? ⟨(ad.add (n * 35)).block, (ad.add (n * 35)).off + 31, none⟩ = some (.int .u8 (lastB rs)) ∧ 0 ≤ lastB rs ∧ lastB rs ≤ 255 := by
  obtain ⟨ad, had⟩ := h.is (by omega)
  have hc := h.cells ad had n (by omega)
  have hok := h.ok n (by omega)
  have hl := h.len
  have e : lastB rs = (rs.getD n default).s.getD 31 0 := by unfold lastB; rw [hl]; rfl
  generalize rs.getD n default = r at *
  have hs : r.s.length = 32 := hok.n
  have hg : r.s.getD 31 0 = r.s[31]'(by omega) := by simp [hs]
  have hb := hok.wf (r.s.getD 31 0) (by
    rw [hg]
    exact List.getElem_mem _)
  rw [e]
  refine ⟨ad, had, ?_, ?_⟩
  · have h1 := hc 31 (.int .u8 (r.s.getD 31 0)) (by
      unfold Ref.cells
      rw [List.getElem?_append_left (by simp [nums, hs]), hg]
      simp [nums, hs])
    exact h1
  · generalize r.s.getD 31 0 = x at *
    simp only [Lit.wf, IntKind.min, IntKind.max, IntKind.signed, IntKind.bits, Bool.and_eq_true, decide_eq_true_eq] at hb
    simp at hb
    omega
theorem half_neg (m : Int) (h : m < 0) : m.tdiv 2 ≤ 0 ∧ m ≤ m.tdiv 2 ∧ m.tmod 2 ≤ 0 ∧ -1 ≤ m.tmod 2 ∧ m = 2 * m.tdiv 2 + m.tmod 2 := by
  obtain ⟨a, rfl⟩ : ∃ a : Nat, m = -(a : Int) := ⟨m.natAbs, by omega⟩
  have e1 : (-(a : Int)).tdiv 2 = -((a / 2 : Nat) : Int) := by rw [Int.neg_tdiv]; rfl
  have e2 : (-(a : Int)).tmod 2 = -((a % 2 : Nat) : Int) := by rw [Int.neg_tmod]; rfl
  rw [e1, e2]
  omega
theorem wf_i64 {m : Int} (h : (Lit.int .i64 m).wf = true) : -9223372036854775808 ≤ m ∧ m ≤ 9223372036854775807 := by
  simp only [Lit.wf, IntKind.min, IntKind.max, IntKind.signed, IntKind.bits, Bool.and_eq_true, decide_eq_true_eq, if_true] at h
  omega
set_option maxHeartbeats 1000000 in
theorem ends_calls (A : Option Addr) (k c : Nat) (rs : List Ref) (most : Int) (w : World) (h : RefsC w A k rs) (hm : (Lit.int .i64 most).wf = true) : Calls Try.prog 19 #[.slice A k c, .int .i64 most] w fun e w' =>
    e = .returned (.bool (endsF rs most)) ∧ Below w.heap.size w w' := by
  have hl : rs.length = k := h.len
  obtain ⟨ans, ha⟩ : ∃ a, a = endsF rs most := ⟨_, rfl⟩
  rw [← ha]
  unfold endsF at ha
  rw [hl] at ha
  obtain ⟨hm1, hm2⟩ := wf_i64 hm
  clear hm
  cases k with
  | zero =>
    clear hl h
    have HA := Aside0.mk ha
    clear ha
    go_enter Try.func19, Try.ntmps19
    go_wp2
    go_ret
    exact ⟨by rw [HA.out]; rfl, Below.refl _ _⟩
  | succ n =>
    obtain ⟨ad, rfl, hc, hb0, hb1⟩ := last_at h
    have hlim : n + 1 ≤ 9223372036854775807 := by have := h.lim; simp only [maxLen] at this; omega
    generalize lastB rs = x at *
    have HA := Aside0.mk ha
    clear ha hl h
    by_cases h1 : ((n + 1 : Nat) : Int) = most
    · have g1 : ((n : Int) + 1 == most) = true := by simp; omega
      go_enter Try.func19, Try.ntmps19
      go_wp2
      go_ret
      refine ⟨?_, Below.refl _ _⟩
      rw [HA.out, decide_eq_true h1]
      simp
    · have g1 : ((n : Int) + 1 == most) = false := by simp; omega
      by_cases h2 : most ≤ 2 * ((n + 1 : Nat) : Int)
      · by_cases h3 : 0 ≤ most
        · have g2 : decide (most / 2 + most % 2 ≤ (n : Int) + 1) = true := by simp; omega
          go_enter Try.func19, Try.ntmps19
          go_wp2
          go_ret
          refine ⟨?_, Below.refl _ _⟩
          rw [HA.out, decide_eq_true h2, decide_eq_false h1]
          simp
        · obtain ⟨q1, q2, q3, q4, q5⟩ := half_neg most (by omega)
          have q6 : -4611686018427387905 ≤ most.tdiv 2 := by omega
          clear q5
          generalize hq : most.tdiv 2 = q at *
          generalize hr : most.tmod 2 = r at *
          have g2 : decide (q + r ≤ (n : Int) + 1) = true := by simp; omega
          go_enter Try.func19, Try.ntmps19
          go_wp2
          go_ret
          refine ⟨?_, Below.refl _ _⟩
          rw [HA.out, decide_eq_true h2, decide_eq_false h1]
          simp
      · have g2 : decide (most / 2 + most % 2 ≤ (n : Int) + 1) = false := by simp; omega
        go_enter Try.func19, Try.ntmps19
        go_wp2
        go_ret
        refine ⟨?_, Below.refl _ _⟩
        rw [HA.out, decide_eq_false (show ¬ most ≤ 2 * ((n + 1 : Nat) : Int) by omega), decide_eq_false h1]
        simp
set_option maxHeartbeats 1000000 in
theorem rends_calls (A : Option Addr) (k c : Nat) (rs : List Ref) (most : Int) (w : World) (h : RefsC w A k rs) (hm : (Lit.int .i64 most).wf = true) : Calls Try.prog 20 #[.slice A k c, .int .i64 most] w fun e w' =>
    e = .returned (.bool (endsF rs most)) ∧ Below w.heap.size w w' := by
  have hl : rs.length = k := h.len
  obtain ⟨ans, ha⟩ : ∃ a, a = endsF rs most := ⟨_, rfl⟩
  rw [← ha]
  unfold endsF at ha
  rw [hl] at ha
  obtain ⟨hm1, hm2⟩ := wf_i64 hm
  clear hm
  cases k with
  | zero =>
    clear hl h
    have HA := Aside0.mk ha
    clear ha
    go_enter Try.func20, Try.ntmps20
    go_wp2
    go_ret
    exact ⟨by rw [HA.out]; rfl, Below.refl _ _⟩
  | succ n =>
    obtain ⟨ad, rfl, hc, hb0, hb1⟩ := last_at h
    have hlim : n + 1 ≤ 9223372036854775807 := by have := h.lim; simp only [maxLen] at this; omega
    generalize lastB rs = x at *
    have HA := Aside0.mk ha
    clear ha hl h
    have g0 : ((n : Int) + 1 == 0) = false := by simp; omega
    by_cases h1 : ((n + 1 : Nat) : Int) = most
    · have g1 : ((n : Int) + 1 == most) = true := by simp; omega
      have h3 : 0 ≤ most := by omega
      have H1 := Aside0.mk h1
      clear h1
      by_cases hodd : most % 2 = 1
      · have g4 : (most % 2 == 1) = true := by simpa using hodd
        go_enter Try.func20, Try.ntmps20
        go_wp2
        go_ret
        refine ⟨?_, Below.refl _ _⟩
        rw [HA.out, decide_eq_true H1.out]
        simp
      · have g4 : (most % 2 == 1) = false := by simpa using hodd
        go_enter Try.func20, Try.ntmps20
        go_wp2
        go_ret
        refine ⟨?_, Below.refl _ _⟩
        rw [HA.out, decide_eq_true H1.out]
        simp
    · have g1 : ((n : Int) + 1 == most) = false := by simp; omega
      by_cases h3 : 0 ≤ most
      · by_cases hodd : most % 2 = 1
        · have g4 : (most % 2 == 1) = true := by simpa using hodd
          by_cases h2 : most ≤ 2 * ((n + 1 : Nat) : Int)
          · have g2 : decide (most / 2 + 1 ≤ (n : Int) + 1) = true := by simp; omega
            go_enter Try.func20, Try.ntmps20
            go_wp2
            go_ret
            refine ⟨?_, Below.refl _ _⟩
            rw [HA.out, decide_eq_true h2, decide_eq_false h1]
            simp
          · have g2 : decide (most / 2 + 1 ≤ (n : Int) + 1) = false := by simp; omega
            go_enter Try.func20, Try.ntmps20
            go_wp2
            go_ret
            refine ⟨?_, Below.refl _ _⟩
            rw [HA.out, decide_eq_false (show ¬ most ≤ 2 * ((n + 1 : Nat) : Int) by omega), decide_eq_false h1]
            simp
        · have g4 : (most % 2 == 1) = false := by simpa using hodd
          by_cases h2 : most ≤ 2 * ((n + 1 : Nat) : Int)
          · have g2 : decide (most / 2 ≤ (n : Int) + 1) = true := by simp; omega
            go_enter Try.func20, Try.ntmps20
            go_wp2
            go_ret
            refine ⟨?_, Below.refl _ _⟩
            rw [HA.out, decide_eq_true h2, decide_eq_false h1]
            simp
          · have g2 : decide (most / 2 ≤ (n : Int) + 1) = false := by simp; omega
            go_enter Try.func20, Try.ntmps20
            go_wp2
            go_ret
            refine ⟨?_, Below.refl _ _⟩
            rw [HA.out, decide_eq_false (show ¬ most ≤ 2 * ((n + 1 : Nat) : Int) by omega), decide_eq_false h1]
            simp
      · obtain ⟨q1, q2, q3, q4, q5⟩ := half_neg most (by omega)
        have q6 : -4611686018427387905 ≤ most.tdiv 2 := by omega
        clear q5
        generalize hq : most.tdiv 2 = q at *
        generalize hr : most.tmod 2 = r at *
        have h2 : most ≤ 2 * ((n + 1 : Nat) : Int) := by omega
        have g2 : decide (q ≤ (n : Int) + 1) = true := by simp; omega
        have g4 : (r == 1) = false := by simp; omega
        go_enter Try.func20, Try.ntmps20
        go_wp2
        go_ret
        refine ⟨?_, Below.refl _ _⟩
        rw [HA.out, decide_eq_true h2, decide_eq_false h1]
        simp
end Go.Proofs.Ytkobolgbmfhpgaa.SgE
