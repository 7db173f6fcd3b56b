/- The longest match by where four bytes stood is the longest match: plain. -/
import Derived.Test.YtlmcompoalhpnaaSqE
namespace Go.Proofs.Ytlmcompoalhpnaa.SqM
open Go Go.RowKit Go.Proofs.YtlmcompoalhpnaaW.PrintWords Go.Proofs.Ytlmcompoalhpnaa.K Go.Proofs.Ytlmcompoalhpnaa.OctS Go.Proofs.Ytlmcompoalhpnaa.OctP Go.Proofs.Ytlmcompoalhpnaa.SqA Go.Proofs.Ytlmcompoalhpnaa.SqC Go.Proofs.Ytlmcompoalhpnaa.SqE
set_option linter.unusedVariables false
set_option linter.unusedSimpArgs false
/-- The four bytes at a place. -/
def keyAt (p : List Int) (i : Nat) : List Int := (p.drop i).take 4
/-- Where four bytes stood ahead of a place, in order. -/
def seen (p : List Int) (i : Nat) (k : List Int) : List Nat := (List.range i).filter (fun j => decide (j + 4 ≤ p.length) && (keyAt p j == k))
/-- The best of some places, the last one first. -/
def backF (p : List Int) (i : Nat) : List Nat → Nat × Nat → Nat × Nat
  | [], r => r
  | j :: js, r => if 4096 < i - j then r else backF p i js (if r.1 < lenD p i (i - j) then (lenD p i (i - j), i - j) else r)
def matchP (p : List Int) (i : Nat) : Nat × Nat := if p.length < i + 4 then (0, 0) else backF p i (seen p i (keyAt p i)).reverse (0, 0)
theorem cnt_mono (p : List Int) (i d : Nat) : ∀ (f n : Nat), n ≤ cnt p i d f n
  | 0, n => Nat.le_refl _
  | f + 1, n => by
    unfold cnt
    split
    · have := cnt_mono p i d f (n + 1); omega
    · omega
theorem four_iff {p : List Int} {i d : Nat} : 4 ≤ lenD p i d ↔ ∀ t, t < 4 → i + t < p.length ∧ p.getD (i + t) 0 = p.getD (i + t - d) 0 := by
  have step : ∀ f n, n < cnt p i d (f + 1) n ↔ (i + n < p.length ∧ p.getD (i + n) 0 = p.getD (i + n - d) 0) := fun f n => by
    constructor
    · intro h
      by_cases hc : i + n < p.length ∧ p.getD (i + n) 0 = p.getD (i + n - d) 0
      · exact hc
      · unfold cnt at h; rw [if_neg hc] at h; omega
    · intro h
      unfold cnt
      rw [if_pos h]
      have := cnt_mono p i d f (n + 1)
      omega
  have go : ∀ f n, (i + n < p.length ∧ p.getD (i + n) 0 = p.getD (i + n - d) 0) → cnt p i d (f + 1) n = cnt p i d f (n + 1) := fun f n h => by
    conv => lhs; unfold cnt
    rw [if_pos h]
  constructor
  · intro h
    have h0 := (step 130 0).1 (show 0 < cnt p i d 131 0 by have h' : 4 ≤ cnt p i d 131 0 := h; omega)
    have e1 : lenD p i d = cnt p i d 130 1 := go 130 0 h0
    rw [e1] at h
    have h1 := (step 129 1).1 (show 1 < cnt p i d 130 1 by omega)
    have e2 : cnt p i d 130 1 = cnt p i d 129 2 := go 129 1 h1
    rw [e2] at h
    have h2 := (step 128 2).1 (show 2 < cnt p i d 129 2 by omega)
    have e3 : cnt p i d 129 2 = cnt p i d 128 3 := go 128 2 h2
    rw [e3] at h
    have h3 := (step 127 3).1 (show 3 < cnt p i d 128 3 by omega)
    intro t ht
    match t, ht with
    | 0, _ => exact h0
    | 1, _ => exact h1
    | 2, _ => exact h2
    | 3, _ => exact h3
  · intro h
    have e1 : lenD p i d = cnt p i d 130 1 := go 130 0 (h 0 (by omega))
    rw [e1, go 129 1 (h 1 (by omega)), go 128 2 (h 2 (by omega)), go 127 3 (h 3 (by omega))]
    exact cnt_mono p i d 127 4
theorem key_get {p : List Int} {i t : Nat} (ht : t < 4) : (keyAt p i)[t]? = p[i + t]? := by
  unfold keyAt
  rw [List.getElem?_take_of_lt ht, List.getElem?_drop]
theorem key_iff {p : List Int} {i j : Nat} (hj : j < i) (hi : i + 4 ≤ p.length) : keyAt p j = keyAt p i ↔ 4 ≤ lenD p i (i - j) := by
  rw [four_iff]
  have hlen : ∀ k, k + 4 ≤ p.length → (keyAt p k).length = 4 := fun k hk => by unfold keyAt; rw [List.length_take, List.length_drop]; omega
  have g : ∀ k, k < p.length → p[k]? = some (p.getD k 0) := fun k hk => by rw [List.getD_eq_getElem?_getD, List.getElem?_eq_getElem hk]; rfl
  constructor
  · intro h t ht
    refine ⟨by omega, ?_⟩
    have h1 : (keyAt p j)[t]? = (keyAt p i)[t]? := by rw [h]
    rw [key_get ht, key_get ht, g _ (by omega), g _ (by omega)] at h1
    injection h1 with h1
    rw [← h1]
    congr 1
    omega
  · intro h
    refine List.ext_getElem? (fun t => ?_)
    by_cases ht : t < 4
    · rw [key_get ht, key_get ht, g _ (by omega), g _ (by omega), (h t ht).2]
      congr 2
      omega
    · rw [List.getElem?_eq_none (by rw [hlen j (by omega)]; omega), List.getElem?_eq_none (by rw [hlen i hi]; omega)]
theorem back_scan {p : List Int} {i : Nat} (hi : i + 4 ≤ p.length) : ∀ (m : Nat) (r : Nat × Nat), m ≤ i → backF p i ((List.range m).filter (fun j => decide (j + 4 ≤ p.length) && (keyAt p j == keyAt p i))).reverse r = scanD p i (min i 4096 - (i - m)) (i - m + 1) r
  | 0, r, _ => by
    rw [show min i 4096 - (i - 0) = 0 by omega]
    rfl
  | m + 1, r, hm => by
    have hk := key_iff (p := p) (i := i) (j := m) (by omega) hi
    rw [List.range_succ, List.filter_append, List.reverse_append]
    by_cases hd : i - m ≤ 4096
    · have e : min i 4096 - (i - (m + 1)) = (min i 4096 - (i - m)) + 1 := by omega
      rw [e]
      show _ = scanD p i (min i 4096 - (i - m)) (i - (m + 1) + 1 + 1) (bestD p i (i - (m + 1) + 1) r)
      rw [show i - (m + 1) + 1 = i - m by omega]
      by_cases hkk : keyAt p m = keyAt p i
      · have hf : List.filter (fun j => decide (j + 4 ≤ p.length) && (keyAt p j == keyAt p i)) [m] = [m] := by
          rw [List.filter_cons, if_pos (by simp [hkk]; omega)]
          rfl
        rw [hf, List.reverse_singleton, List.singleton_append]
        rw [show ∀ js, backF p i (m :: js) r = if 4096 < i - m then r else backF p i js (if r.1 < lenD p i (i - m) then (lenD p i (i - m), i - m) else r) from fun _ => rfl]
        rw [if_neg (by omega), back_scan hi m _ (by omega)]
        congr 1
        unfold bestD
        have h4 := hk.1 hkk
        by_cases hr : r.1 < lenD p i (i - m)
        · rw [if_pos hr, if_pos ⟨h4, hr⟩]
        · rw [if_neg hr, if_neg (fun h => hr h.2)]
      · have hf : List.filter (fun j => decide (j + 4 ≤ p.length) && (keyAt p j == keyAt p i)) [m] = [] := by
          rw [List.filter_cons, if_neg (by simp [hkk])]
          rfl
        rw [hf, List.reverse_nil, List.nil_append, back_scan hi m r (by omega)]
        congr 1
        unfold bestD
        rw [if_neg (fun h => hkk (hk.2 h.1))]
    · rw [show min i 4096 - (i - (m + 1)) = 0 by omega]
      show _ = r
      have far : ∀ l : List Nat, (∀ j ∈ l, 4096 < i - j) → backF p i l r = r := fun l hl => by
        cases l with
        | nil => rfl
        | cons j js =>
          show (if 4096 < i - j then r else _) = r
          rw [if_pos (hl j List.mem_cons_self)]
      refine far _ (fun j hj => ?_)
      have hjm : j < m + 1 := by
        simp only [List.mem_append, List.mem_reverse, List.mem_filter, List.mem_range, List.mem_cons, List.not_mem_nil, or_false] at hj
        rcases hj with h | h
        · omega
        · omega
      omega
/-- THE LONGEST MATCH. -/
theorem match_is (p : List Int) (i : Nat) (hi : i ≤ p.length) : matchP p i = matchR p i := by
  unfold matchP
  by_cases h : p.length < i + 4
  · rw [if_pos h]
    have hm := match_in hi
    have hz : (matchR p i).1 = 0 := by
      rcases hm.2.2.1 with h1 | h1
      · exact h1
      · omega
    have hs : ∀ (f d : Nat), scanD p i f d (0, 0) = (0, 0) := fun f => by
      induction f with
      | zero => exact fun _ => rfl
      | succ f ih =>
        intro d
        show scanD p i f (d + 1) (bestD p i d (0, 0)) = _
        have hb : bestD p i d (0, 0) = (0, 0) := by
          unfold bestD
          rw [if_neg (fun h4 => by
            have := cnt_in p i d 131 0 (by omega)
            have h5 : lenD p i d = cnt p i d 131 0 := rfl
            omega)]
        rw [hb, ih]
    exact (hs _ _).symm
  · rw [if_neg h]
    have h1 := back_scan (p := p) (i := i) (by omega) i (0, 0) (Nat.le_refl _)
    rw [Nat.sub_self, Nat.sub_zero] at h1
    exact h1
end Go.Proofs.Ytlmcompoalhpnaa.SqM
