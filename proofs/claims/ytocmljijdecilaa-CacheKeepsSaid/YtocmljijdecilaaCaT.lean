/- Sums of the cache, walked; condition: the cache stands, no known has more than 64 sums. -/
import Derived.Test.YtocmljijdecilaaCaR
namespace Go.Proofs.Ytocmljijdecilaa.CaT
open Go Go.RowKit Go.Proofs.YtocmljijdecilaaW.PrintWords Go.Proofs.Ytocmljijdecilaa.K Go.Proofs.Ytocmljijdecilaa.Mp Go.Proofs.Ytocmljijdecilaa.Eq Go.Proofs.Ytocmljijdecilaa.CaS Go.Proofs.Ytocmljijdecilaa.CaC Go.Proofs.Ytocmljijdecilaa.CaD Go.Proofs.Ytocmljijdecilaa.CaA Go.Proofs.Ytocmljijdecilaa.CaO Go.Proofs.Ytocmljijdecilaa.CaP Go.Proofs.Ytocmljijdecilaa.CaQ
set_option linter.unusedVariables false
set_option linter.unusedSimpArgs false
def sumsN (ts : List Kn) : Nat := (ts.map (·.sn)).sum
theorem sums_take (ts : List Kn) (i : Nat) (h : i < ts.length) : sumsN (ts.take (i + 1)) = sumsN (ts.take i) + (ts.getD i default).sn := by
  have e : ts.getD i default = ts[i] := by simp [h]
  unfold sumsN
  rw [List.take_add_one, List.getElem?_eq_getElem h, e, Option.toList_some, List.map_append, List.sum_append]
  simp only [List.map_cons, List.map_nil, List.sum_cons, List.sum_nil, Nat.add_zero]
theorem sums_le (ts : List Kn) (h : ∀ t, t ∈ ts → t.sn ≤ 64) : sumsN ts ≤ 64 * ts.length := by
  unfold sumsN
  induction ts with
  | nil => exact Nat.zero_le _
  | cons t l ih =>
    have h1 := h t (by simp)
    have h2 := ih (fun x hx => h x (by simp [hx]))
    simp only [List.map_cons, List.sum_cons, List.length_cons]
    omega
set_option maxHeartbeats 4000000 in
theorem sums_calls {w : World} {T : Nat → Prop} {g : Nat} {room : Int} {ts : List Kn} (h : Ca w T g room ts) (hn : ts.length ≤ 900) (h64 : ∀ t, t ∈ ts → t.sn ≤ 64) : Calls Try.prog 22 #[.pointer (some ⟨g, 0, none⟩)] w fun e w' => e = .returned (.int .i64 (sumsN ts : Nat)) ∧ Below w.heap.size w w' := by
  obtain ⟨A, c, hg, hC, hc, hA⟩ := h
  have a1 := obj_cell hg 1 (v := .slice A ts.length c) rfl
  have HC := Aside0.mk hC
  have HL := Aside0.mk (sums_le)
  have H64 := Aside0.mk h64
  have HG := Aside0.mk hg
  clear hg hC hA h64
  go_enter Try.func22, Try.ntmps22
  go_wp2
  go_loopg [3, 13] (ts.length + 1) (fun gk v3 v13 wr => ∃ i acc : Nat, v13 = .int .i64 i ∧ v3 = .int .i64 acc ∧ i ≤ ts.length ∧ acc ≤ 64 * i ∧ Aside0 (gk = ts.length - i + 1) ∧ Aside0 (acc = sumsN (ts.take i)) ∧ Aside0 (Below w.heap.size w wr))
  case atStart => exact ⟨0, 0, rfl, rfl, Nat.zero_le _, by omega, ⟨rfl⟩, ⟨rfl⟩, ⟨Below.refl _ _⟩⟩
  case round =>
    obtain ⟨i, acc, rfl, rfl, hi, hacc, HGK, HAC, HB⟩ := hrel
    by_cases hlt : i < ts.length
    · have h1 : decide ((i : Int) < (ts.length : Int)) = true := by simp; omega
      have hp1 : (0 : Int) ≤ (i : Int) := by omega
      have hp2 : (i : Int) < (ts.length : Int) := by omega
      obtain ⟨ad, rfl, b0, b1, b2⟩ := kn_at (Kd.C_below HC.out HB.out) i hlt
      have HST := Aside0.mk (sums_take ts i hlt)
      have hs64 : (ts.getD i default).sn ≤ 64 := H64.out _ (by simp [hlt])
      generalize ts.getD i default = k at *
      obtain ⟨kb, ka, kn, kc, km⟩ := k
      simp only at b0 b1 b2 hs64
      have e1 := obj_cell (heap_alloc_new wr (.cells #[.int .i64 kb, .slice ka kn kc, .map (some km)] 68)) 1 (v := .slice ka kn kc) rfl
      go_wp2
      go_roundg (ts.length - (i + 1) + 1)
      case measure => have := HGK.out; omega
      case rel => exact ⟨i + 1, acc + kn, by go_num, by go_num, by omega, by omega, ⟨rfl⟩, ⟨by rw [HST.out, ← HAC.out]⟩, ⟨below_alloc HB.out _⟩⟩
    · obtain rfl : i = ts.length := by omega
      have h1 : decide ((ts.length : Int) < (ts.length : Int)) = false := by simp
      have hacc2 := HAC.out
      rw [List.take_of_length_le (Nat.le_refl _)] at hacc2
      have HA2 := Aside0.mk hacc2
      clear hacc2
      go_wp2
      go_ret
      exact ⟨by rw [← HA2.out]; rfl, HB.out⟩
end Go.Proofs.Ytocmljijdecilaa.CaT
