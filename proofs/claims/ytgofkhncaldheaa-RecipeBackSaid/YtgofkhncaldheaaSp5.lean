/- Moves there and back, as plain functions: what comes back is what went; no condition. -/
import Derived.Test.YtgofkhncaldheaaSp3
namespace Go.Proofs.Ytgofkhncaldheaa.Sp5
open Go Go.RowKit Go.Sort Go.Lib Go.Proofs.YtgofkhncaldheaaW.PrintWords Go.Proofs.Ytgofkhncaldheaa.K Go.Proofs.Ytgofkhncaldheaa.ReS Go.Proofs.Ytgofkhncaldheaa.ReR Go.Proofs.Ytgofkhncaldheaa.ReK Go.Proofs.Ytgofkhncaldheaa.RmS Go.Proofs.Ytgofkhncaldheaa.SpK Go.Proofs.Ytgofkhncaldheaa.SpC Go.Proofs.Ytgofkhncaldheaa.SpE Go.Proofs.Ytgofkhncaldheaa.SpF Go.Proofs.Ytgofkhncaldheaa.SpG Go.Proofs.Ytgofkhncaldheaa.SpH Go.Proofs.Ytgofkhncaldheaa.SpI Go.Proofs.Ytgofkhncaldheaa.SpL
set_option linter.unusedVariables false
set_option linter.unusedSimpArgs false
def thereL (l : List Sp) (bin : Int) (i : Nat) : List Mv := (List.range i).map (fun (j : Nat) => ⟨(l.getD j default).1, (l.getD j default).2, bin, (j : Int)⟩)
def backL (l : List Sp) (bin : Int) (i : Nat) : List Mv := (List.range i).map (fun (j : Nat) => ⟨bin, (j : Int), (l.getD j default).1, (l.getD j default).2⟩)
theorem there_len (l : List Sp) (bin : Int) (i : Nat) : (thereL l bin i).length = i := by simp [thereL]
theorem back_len (l : List Sp) (bin : Int) (i : Nat) : (backL l bin i).length = i := by simp [backL]
theorem there_succ (l : List Sp) (bin : Int) (i : Nat) : thereL l bin (i + 1) = thereL l bin i ++ [⟨(l.getD i default).1, (l.getD i default).2, bin, (i : Int)⟩] := by simp [thereL, List.range_succ]
theorem back_succ (l : List Sp) (bin : Int) (i : Nat) : backL l bin (i + 1) = backL l bin i ++ [⟨bin, (i : Int), (l.getD i default).1, (l.getD i default).2⟩] := by simp [backL, List.range_succ]
theorem first_found (ms : List Mv) (m : Mv) (h : m ∈ ms) : ∃ p, first ms m.fb m.fs = some p := by
  unfold first
  have : (ms.find? (fun x => decide (x.fb = m.fb ∧ x.fs = m.fs))).isSome = true := List.find?_isSome.2 ⟨m, h, by simp⟩
  obtain ⟨x, hx⟩ := Option.isSome_iff_exists.1 this
  exact ⟨(x.tb, x.ts), by rw [hx]; rfl⟩
theorem first_from (ms : List Mv) (a b : Int) (p : Sp) (h : first ms a b = some p) : ∃ m, m ∈ ms ∧ m.fb = a ∧ m.fs = b ∧ p = (m.tb, m.ts) := by
  unfold first at h
  obtain ⟨m, hm, rfl⟩ := Option.map_eq_some_iff.1 h
  have h1 := List.find?_some hm
  rw [decide_eq_true_eq] at h1
  exact ⟨m, List.mem_of_find?_eq_some hm, h1.1, h1.2, rfl⟩
theorem there_is (l : List Sp) (bin : Int) (p : Sp) (hp : p ∈ l) : ∃ j : Nat, ∃ h : j < l.length, l[j] = p ∧ first (thereL l bin l.length) p.1 p.2 = some (bin, (j : Int)) := by
  obtain ⟨i, hi, he⟩ := List.getElem_of_mem hp
  have hm : (⟨(l.getD i default).1, (l.getD i default).2, bin, (i : Int)⟩ : Mv) ∈ thereL l bin l.length := List.mem_map.2 ⟨i, List.mem_range.2 hi, rfl⟩
  have hg : l.getD i default = p := by simp [hi, he]
  obtain ⟨q, hq⟩ := first_found _ _ hm
  simp only [hg] at hq
  obtain ⟨m, hm2, e1, e2, rfl⟩ := first_from _ _ _ _ hq
  obtain ⟨j, hj, rfl⟩ := List.mem_map.1 hm2
  have hj := List.mem_range.1 hj
  simp only at e1 e2 hq
  have hl : l.getD j default = l[j] := by simp [hj]
  rw [hl] at e1 e2
  exact ⟨j, hj, Prod.ext e1 e2, hq⟩
theorem back_is (l : List Sp) (bin : Int) (j : Nat) (h : j < l.length) : first (backL l bin l.length) bin (j : Int) = some l[j] := by
  have hl : l.getD j default = l[j] := by simp [h]
  have hm : (⟨bin, (j : Int), (l.getD j default).1, (l.getD j default).2⟩ : Mv) ∈ backL l bin l.length := List.mem_map.2 ⟨j, List.mem_range.2 h, rfl⟩
  obtain ⟨q, hq⟩ := first_found _ _ hm
  simp only at hq
  obtain ⟨m, hm2, e1, e2, rfl⟩ := first_from _ _ _ _ hq
  obtain ⟨i, hi, rfl⟩ := List.mem_map.1 hm2
  simp only at e1 e2 hq
  have : i = j := by omega
  subst this
  rw [hq, hl]
theorem round_trip (l : List Sp) (bin : Int) (r : Ref) (h : spotR r ∈ l) : (first (thereL l bin l.length) r.bin r.slot).isSome = true ∧ (first (backL l bin l.length) (mvR (thereL l bin l.length) r).bin (mvR (thereL l bin l.length) r).slot).isSome = true ∧ mvR (backL l bin l.length) (mvR (thereL l bin l.length) r) = r := by
  obtain ⟨j, hj, he, hf⟩ := there_is l bin (spotR r) h
  have hf : first (thereL l bin l.length) r.bin r.slot = some (bin, (j : Int)) := hf
  have e1 : mvR (thereL l bin l.length) r = { r with bin := bin, slot := (j : Int) } := by unfold mvR; rw [hf]
  have hb := back_is l bin j hj
  refine ⟨by rw [hf]; rfl, ?_, ?_⟩
  · rw [e1]; simp only; rw [hb]; rfl
  · rw [e1]
    unfold mvR
    simp only
    rw [hb, he]
    rfl
theorem cnt_all (ms : List Mv) (rs : List Ref) (h : ∀ r, r ∈ rs → (first ms r.bin r.slot).isSome = true) : cnt ms rs = rs.length := by
  unfold cnt
  rw [List.filter_eq_self.2 h]
theorem spot_in (rs : List Ref) (r : Ref) (h : r ∈ rs) : spotR r ∈ spotsOf rs := by
  unfold spotsOf
  rw [kept_iff, sort_mem]
  exact List.mem_map.2 ⟨r, h, rfl⟩
theorem went (rs : List Ref) (bin : Int) : cnt (thereL (spotsOf rs) bin (spotsOf rs).length) rs = rs.length := cnt_all _ _ (fun r hr => (round_trip _ bin r (spot_in rs r hr)).1)
theorem came (rs : List Ref) (bin : Int) : cnt (backL (spotsOf rs) bin (spotsOf rs).length) (rs.map (mvR (thereL (spotsOf rs) bin (spotsOf rs).length))) = rs.length := by
  rw [cnt_all _ _ (fun r' hr' => by
    obtain ⟨r, hr, rfl⟩ := List.mem_map.1 hr'
    exact (round_trip _ bin r (spot_in rs r hr)).2.1), List.length_map]
theorem same_back (rs : List Ref) (bin : Int) : (rs.map (mvR (thereL (spotsOf rs) bin (spotsOf rs).length))).map (mvR (backL (spotsOf rs) bin (spotsOf rs).length)) = rs := by
  rw [List.map_map]
  conv => rhs; rw [← List.map_id rs]
  apply List.map_congr_left
  intro r hr
  exact (round_trip _ bin r (spot_in rs r hr)).2.2
end Go.Proofs.Ytgofkhncaldheaa.Sp5
