/- Which names are right, in record and in its reference; condition: none. -/
import Derived.Test.YtbncmffifbcbjaaHd
import Derived.Laws.Strings
namespace Go.Proofs.Ytbncmffifbcbjaa.Nm
open Go Go.RowKit Go.Proofs.YtbncmffifbcbjaaW.PrintWords Go.Proofs.Ytbncmffifbcbjaa.K
set_option linter.unusedVariables false
set_option linter.unusedSimpArgs false
def NameOk (s : ByteArray) : Prop := 1 ≤ s.size ∧ s.size ≤ 32 ∧ ∀ i, (h : i < s.size) → 33 ≤ s[i].toNat ∧ s[i].toNat ≤ 126
instance (s : ByteArray) : Decidable (NameOk s) := by unfold NameOk; infer_instance
theorem toList_len (s : ByteArray) : s.toList.length = s.size := by
  rw [ByteArray.toList_eq]
  simp
theorem name_calls (s : ByteArray) (hm : s.size ≤ 9223372036854775807) (w : World) : Calls Try.prog 38 #[.string s] w fun e w' => e = .returned (.bool (decide (NameOk s))) ∧ w = w' := by
  go_enter Try.func38, Try.ntmps38
  go_wp2
  go_loopg [6] (s.size + 1) (fun gk v6 wr => ∃ i : Nat, v6 = .int .i64 i ∧ i ≤ s.size ∧ Aside0 (gk = s.size - i + 1) ∧ Aside0 (∀ j, (h : j < s.size) → j < i → 33 ≤ s[j].toNat ∧ s[j].toNat ≤ 126) ∧ wr = w)
  case atStart => exact ⟨0, rfl, Nat.zero_le _, ⟨rfl⟩, ⟨fun j _ hj => by omega⟩, rfl⟩
  case round =>
    obtain ⟨i, rfl, hi, HG, HA, hww⟩ := hrel
    obtain rfl := hww
    by_cases hlt : i < s.size
    · have h1 : decide ((i : Int) < (s.size : Int)) = true := by simp; omega
      have hbq : (33 ≤ s[i].toNat ∧ s[i].toNat ≤ 126) → ∀ j, (h : j < s.size) → j < i + 1 → 33 ≤ s[j].toNat ∧ s[j].toNat ≤ 126 := fun h2 j hj hj2 => by
        by_cases e : j < i
        · exact HA.out j hj e
        · obtain rfl : j = i := by omega
          exact h2
      have hcq : ¬ (33 ≤ s[i].toNat ∧ s[i].toNat ≤ 126) → ¬ NameOk s := fun h2 h3 => h2 (h3.2.2 i hlt)
      have HBQ := Aside0.mk hbq
      have HCQ := Aside0.mk hcq
      have HLT := Aside0.mk hlt
      clear hbq hcq HA
      by_cases q1 : 33 ≤ s[i].toNat
      · have g1 : decide ((s[i].toNat : Int) < 33) = false := by simp; omega
        by_cases q2 : s[i].toNat ≤ 126
        · have g2 : decide ((126 : Int) < (s[i].toNat : Int)) = false := by simp; omega
          have HN := Aside0.mk (HBQ.out ⟨q1, q2⟩)
          clear q1 q2
          go_wp2
          go_roundg (s.size - (i + 1) + 1)
          case measure => have := HG.out; have := HLT.out; omega
          case rel => exact ⟨i + 1, by go_num, HLT.out, ⟨rfl⟩, HN, rfl⟩
        · have g2 : decide ((126 : Int) < (s[i].toNat : Int)) = true := by simp; omega
          have HN := Aside0.mk (HCQ.out (fun h => q2 h.2))
          clear q1 q2
          go_wp2
          go_ret
          exact ⟨by rw [decide_eq_false HN.out]; rfl, rfl⟩
      · have g1 : decide ((s[i].toNat : Int) < 33) = true := by simp; omega
        have HN := Aside0.mk (HCQ.out (fun h => q1 h.1))
        clear q1
        go_wp2
        go_ret
        exact ⟨by rw [decide_eq_false HN.out]; rfl, rfl⟩
    · obtain rfl : i = s.size := by omega
      have h1 : decide ((s.size : Int) < (s.size : Int)) = false := by simp
      by_cases z : s.size = 0
      · obtain rfl : s = ByteArray.empty := ByteArray.size_eq_zero_iff.1 z
        go_wp2
        go_ret
        exact ⟨by rw [decide_eq_false (fun h => by have := h.1; simp at this)]; rfl, rfl⟩
      · have hn1 : ¬ s.toList = [] := fun e => z (by have := toList_len s; rw [e] at this; simpa using this.symm)
        have hn2 : s.toList.isEmpty = false := by simpa using hn1
        by_cases z2 : s.size ≤ 32
        · have g3 : decide ((s.size : Int) ≤ 32) = true := by simp; omega
          have HN := Aside0.mk (show NameOk s from ⟨by omega, z2, fun j hj => HA.out j hj hj⟩)
          clear z z2
          go_wp2
          go_ret
          exact ⟨by rw [decide_eq_true HN.out]; rfl, rfl⟩
        · have g3 : decide ((s.size : Int) ≤ 32) = false := by simp; omega
          have HN := Aside0.mk (show ¬ NameOk s from fun h => z2 h.2.1)
          clear z z2
          go_wp2
          go_ret
          exact ⟨by rw [decide_eq_false HN.out]; rfl, rfl⟩
theorem rname_calls (s : ByteArray) (hm : s.size ≤ 9223372036854775807) (w : World) : Calls Try.prog 41 #[.string s] w fun e w' => e = .returned (.bool (decide (NameOk s))) ∧ w = w' := by
  by_cases z1 : s.size < 1
  · have g1 : decide ((s.size : Int) < 1) = true := by simp; omega
    have HN := Aside0.mk (show ¬ NameOk s from fun h => by have := h.1; omega)
    clear z1
    go_enter Try.func41, Try.ntmps41
    go_wp2
    go_ret
    exact ⟨by rw [decide_eq_false HN.out]; rfl, rfl⟩
  have g1 : decide ((s.size : Int) < 1) = false := by simp; omega
  by_cases z2 : 32 < s.size
  · have g2 : decide ((32 : Int) < (s.size : Int)) = true := by simp; omega
    have HN := Aside0.mk (show ¬ NameOk s from fun h => by have := h.2.1; omega)
    clear z1 z2
    go_enter Try.func41, Try.ntmps41
    go_wp2
    go_ret
    exact ⟨by rw [decide_eq_false HN.out]; rfl, rfl⟩
  have g2 : decide ((32 : Int) < (s.size : Int)) = false := by simp; omega
  go_enter Try.func41, Try.ntmps41
  go_wp2
  go_loopg [3] (s.size + 1) (fun gk v3 wr => ∃ i : Nat, v3 = .int .i64 i ∧ i ≤ s.size ∧ Aside0 (gk = s.size - i + 1) ∧ Aside0 (∀ j, (h : j < s.size) → j < i → 33 ≤ s[j].toNat ∧ s[j].toNat ≤ 126) ∧ wr = w)
  case atStart => exact ⟨0, rfl, Nat.zero_le _, ⟨rfl⟩, ⟨fun j _ hj => by omega⟩, rfl⟩
  case round =>
    obtain ⟨i, rfl, hi, HG, HA, hww⟩ := hrel
    obtain rfl := hww
    by_cases hlt : i < s.size
    · have h1 : decide ((i : Int) < (s.size : Int)) = true := by simp; omega
      have hbq : (33 ≤ s[i].toNat ∧ s[i].toNat ≤ 126) → ∀ j, (h : j < s.size) → j < i + 1 → 33 ≤ s[j].toNat ∧ s[j].toNat ≤ 126 := fun h2 j hj hj2 => by
        by_cases e : j < i
        · exact HA.out j hj e
        · obtain rfl : j = i := by omega
          exact h2
      have hcq : ¬ (33 ≤ s[i].toNat ∧ s[i].toNat ≤ 126) → ¬ NameOk s := fun h2 h3 => h2 (h3.2.2 i hlt)
      have HBQ := Aside0.mk hbq
      have HCQ := Aside0.mk hcq
      have HLT := Aside0.mk hlt
      clear hbq hcq HA
      by_cases q1 : 33 ≤ s[i].toNat
      · have g1 : decide ((s[i].toNat : Int) < 33) = false := by simp; omega
        by_cases q2 : s[i].toNat ≤ 126
        · have g2 : decide ((126 : Int) < (s[i].toNat : Int)) = false := by simp; omega
          have HN := Aside0.mk (HBQ.out ⟨q1, q2⟩)
          clear q1 q2
          go_wp2
          go_roundg (s.size - (i + 1) + 1)
          case measure => have := HG.out; have := HLT.out; omega
          case rel => exact ⟨i + 1, by go_num, HLT.out, ⟨rfl⟩, HN, rfl⟩
        · have g2 : decide ((126 : Int) < (s[i].toNat : Int)) = true := by simp; omega
          have HN := Aside0.mk (HCQ.out (fun h => q2 h.2))
          clear q1 q2
          go_wp2
          go_ret
          exact ⟨by rw [decide_eq_false HN.out]; rfl, rfl⟩
      · have g1 : decide ((s[i].toNat : Int) < 33) = true := by simp; omega
        have HN := Aside0.mk (HCQ.out (fun h => q1 h.1))
        clear q1
        go_wp2
        go_ret
        exact ⟨by rw [decide_eq_false HN.out]; rfl, rfl⟩
    · obtain rfl : i = s.size := by omega
      have h1 : decide ((s.size : Int) < (s.size : Int)) = false := by simp
      have HN := Aside0.mk (show NameOk s from ⟨by omega, by omega, fun j hj => HA.out j hj hj⟩)
      go_wp2
      go_ret
      exact ⟨by rw [decide_eq_true HN.out]; rfl, rfl⟩
end Go.Proofs.Ytbncmffifbcbjaa.Nm
