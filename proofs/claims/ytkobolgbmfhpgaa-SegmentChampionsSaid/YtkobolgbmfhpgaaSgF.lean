/- The law's few: the first lists, and of each the first numbers; condition: the lists read as lists. -/
import Derived.Test.YtkobolgbmfhpgaaSgX
import Derived.Test.YtkobolgbmfhpgaaSgLv
namespace Go.Proofs.Ytkobolgbmfhpgaa.SgF
open Go Go.RowKit Go.Maps Go.Proofs.YtkobolgbmfhpgaaW.PrintWords Go.Proofs.Ytkobolgbmfhpgaa.K Go.Proofs.Ytkobolgbmfhpgaa.SgC Go.Proofs.Ytkobolgbmfhpgaa.SgL Go.Proofs.Ytkobolgbmfhpgaa.SgB Go.Proofs.Ytkobolgbmfhpgaa.SgV Go.Proofs.Ytkobolgbmfhpgaa.SgD Go.Proofs.Ytkobolgbmfhpgaa.SgM Go.Proofs.Ytkobolgbmfhpgaa.SgX
set_option linter.unusedVariables false
set_option linter.unusedSimpArgs false
/-- A descriptor's numbers, however many. -/
structure TO (w : World) (d : Ds) (l : List Int) : Prop where
  row : (Kd.int .i64).C w d.a d.n l
  cap : d.n ≤ d.c
  wf : ∀ x ∈ l, (Lit.int .i64 x).wf = true
/-- Lists of numbers. -/
structure LsC (w : World) (A : Option Addr) (k : Nat) (ds : List Ds) : Prop where
  row : dSl.C w A k ds
  each : ∀ d ∈ ds, ∃ l, TO w d l
def cutD (d : Ds) : Ds := ⟨d.a, min d.n 12, d.c⟩
def fewD (ds : List Ds) : List Ds := (ds.take 12).map cutD
theorem few_len (ds : List Ds) : (fewD ds).length ≤ 12 := by
  unfold fewD
  rw [List.length_map, List.length_take]
  omega
theorem few_told {w : World} {A : Option Addr} {k : Nat} {ds : List Ds} (h : LsC w A k ds) : Tls w (rdL w) (fewD ds) := fun d hd => by
  unfold fewD at hd
  obtain ⟨d0, hd0, rfl⟩ := List.mem_map.1 hd
  obtain ⟨l, hl⟩ := h.each d0 (List.mem_of_mem_take hd0)
  have h1 : l.length = d0.n := hl.row.1
  have h2 := Kd.C_take (m := min d0.n 12) (show (Kd.int .i64).C w d0.a l.length l by rw [h1]; exact hl.row) (by omega)
  rw [List.length_take, show min (min d0.n 12) l.length = min d0.n 12 by omega] at h2
  have ht : TL w (cutD d0) (l.take (min d0.n 12)) := ⟨h2, by have := hl.cap; show min d0.n 12 ≤ d0.c; omega, fun x hx => hl.wf x (List.mem_of_mem_take hx), by show min d0.n 12 ≤ 12; omega⟩
  exact rdL_tl ht
theorem few_snoc (ds : List Ds) (i : Nat) (h : i < ds.length) (h2 : i < 12) : fewD (ds.take (i + 1)) = fewD (ds.take i) ++ [cutD (ds.getD i default)] := by
  unfold fewD
  rw [List.take_take, List.take_take, show min 12 (i + 1) = i + 1 by omega, show min 12 i = i by omega, take_snoc ds i default h, List.map_append]
  rfl
set_option maxHeartbeats 4000000 in
set_option maxRecDepth 100000 in
theorem few_calls (A : Option Addr) (k c : Nat) (ds : List Ds) (w : World) (h : LsC w A k ds) :
    Calls Try.prog 9 #[.slice A k c] w fun e w' => ∃ v, e = .returned v ∧ Kd.R dSl 24 w' w.heap.size (fun _ => True) (v) (fewD ds) ∧ Below w.heap.size w w' := by
  have H := Aside0.mk h
  have hl : ds.length = k := h.row.1
  have hkm : k ≤ 9223372036854775807 := h.row.2.1
  have HN0 := Aside0.mk (Kd.R_nil dSl 24 w w.heap.size (fun _ => True))
  clear h
  go_enter Try.func9, Try.ntmps9
  go_wp2
  go_loopg [3, 4] (k + 1) (fun gk v3 v4 wr => ∃ i : Nat, v4 = .int .i64 i ∧ i ≤ k ∧ i ≤ 12 ∧ Aside0 (gk = k - i + 1) ∧ Aside0 (Kd.R dSl 24 wr w.heap.size (fun _ => True) (v3) (fewD (ds.take i))) ∧ Aside0 (Below w.heap.size w wr))
  case atStart => exact ⟨0, rfl, Nat.zero_le _, Nat.zero_le _, ⟨rfl⟩, ⟨by rw [List.take_zero]; exact HN0.out⟩, ⟨Below.refl _ _⟩⟩
  case round =>
    obtain ⟨i, rfl, hi, hi12, HG, HO, HBI⟩ := hrel
    obtain ⟨wi, rfl⟩ : ∃ X : World, X = wr := ⟨_, rfl⟩
    by_cases hlt : i < k
    · have h1 : decide ((i : Int) < (k : Int)) = true := by simp; omega
      by_cases h12 : i < 12
      · have h2 : decide ((i : Int) < 12) = true := by simp; omega
        have hp1 : (0 : Int) ≤ (i : Int) := by omega
        have hp2 : (i : Int) < (k : Int) := by omega
        obtain ⟨ad, rfl, hq⟩ := at_sl H.out.row i hlt
        have hq := fun (W : World) (hW : Below w.heap.size w W) => (hW.cell (p := ad.add i) (World.block_lt_of_cell? _ _ hq)).trans hq
        have HQ := Aside0.mk hq
        clear hq
        have hdm : ds.getD i default ∈ ds := by
          rw [show ds.getD i default = ds[i]'(by omega) from by simp [show i < ds.length by omega]]
          exact List.getElem_mem _
        obtain ⟨l, hTO⟩ := H.out.each _ hdm
        have HFS := Aside0.mk (few_snoc ds i (by omega) h12)
        have hfl := few_len (ds.take i)
        have hcap := hTO.cap
        have hnm := hTO.row.2.1
        have hcutD : cutD (ds.getD i default) = ⟨(ds.getD i default).a, min (ds.getD i default).n 12, (ds.getD i default).c⟩ := rfl
        rw [hcutD] at HFS
        clear hTO hdm hcutD
        generalize ds.getD i default = d at *
        obtain ⟨da, dn, dc⟩ := d
        simp only at *
        generalize fewD (ds.take i) = acc at *
        obtain ⟨Ao, co, rfl, hco, hro⟩ := Kd.R_reads HO.out
        clear hro
        obtain ⟨hi', hmin, hm1, hm2⟩ : ∃ m : Nat, min (dn : Int) 12 = (m : Int) ∧ m ≤ dn ∧ min dn 12 = m := ⟨min dn 12, by omega, by omega, rfl⟩
        rw [hm2] at HFS
        clear hm2
        have hcut := (cutH (Kd.int .i64) 24 3 Try.underlying24 infoI6 da dn dc hi' hm1 hcap).1
        go_wp2_with fail
        (refine Hd.startE (S := (fun X => X.cell? (ad.add i) = some (.slice da dn dc))) 1000 (by kernel_rfl) (HQ.out _ (below_drew1 HBI.out)) (fun hHeld => ?_))
        (refine Hd.takeE (i := 0) (v := ?_) rfl rfl (by kernel_rfl) (by kernel_rfl) (by kernel_rfl) (by kernel_rfl) (fun _ _ _ h => h) (Or.inl ⟨by rfl, ?_⟩) (by assumption) ?_; rotate_left; (focus (intro wS hS; (try go_split_ands); go_simp; all_goals (with_reducible rfl))); simp only [List.set_cons_zero, List.set_cons_succ, List.setIfInBounds_toArray]); (refine Hd.takeE (i := 1) (v := ?_) rfl rfl (by kernel_rfl) (by kernel_rfl) (by kernel_rfl) (by kernel_rfl) (fun _ _ _ h => h) (Or.inl ⟨by rfl, ?_⟩) (by assumption) ?_; rotate_left; (focus (intro wS hS; (try go_split_ands); go_simp; all_goals (with_reducible rfl))); simp only [List.set_cons_zero, List.set_cons_succ, List.setIfInBounds_toArray]); (refine Hd.takeE (i := 2) (v := ?_) rfl rfl (by kernel_rfl) (by kernel_rfl) (by kernel_rfl) (by kernel_rfl) (fun _ _ _ h => h) (Or.inl ⟨by rfl, ?_⟩) (by assumption) ?_; rotate_left; (focus (intro wS hS; (try go_split_ands); go_simp; all_goals (with_reducible rfl))); simp only [List.set_cons_zero, List.set_cons_succ, List.setIfInBounds_toArray]); (refine Hd.takeE (i := 3) (v := ?_) rfl rfl (by kernel_rfl) (by kernel_rfl) (by kernel_rfl) (by kernel_rfl) (fun _ _ _ h => h) (Or.inl ⟨by rfl, ?_⟩) (by assumption) ?_; rotate_left; (focus (intro wS hS; (try go_split_ands); go_simp; all_goals (with_reducible rfl))); simp only [List.set_cons_zero, List.set_cons_succ, List.setIfInBounds_toArray]); (refine Hd.takeE (i := 4) (v := ?_) rfl rfl (by kernel_rfl) (by kernel_rfl) (by kernel_rfl) (by kernel_rfl) (fun _ _ _ h => h) (Or.inl ⟨by rfl, ?_⟩) (by assumption) ?_; rotate_left; (focus (intro wS hS; (try go_split_ands); go_simp; all_goals (with_reducible rfl))); simp only [List.set_cons_zero, List.set_cons_succ, List.setIfInBounds_toArray]); (refine Hd.takeE (i := 5) (v := ?_) rfl rfl (by kernel_rfl) (by kernel_rfl) (by kernel_rfl) (by kernel_rfl) (fun _ _ _ h => h) (Or.inl ⟨by rfl, ?_⟩) (by assumption) ?_; rotate_left; (focus (intro wS hS; (try go_split_ands); go_simp; all_goals (with_reducible rfl))); simp only [List.set_cons_zero, List.set_cons_succ, List.setIfInBounds_toArray]); (refine Hd.takeE (i := 6) (v := ?_) rfl rfl (by kernel_rfl) (by kernel_rfl) (by kernel_rfl) (by kernel_rfl) (fun _ _ _ h => h) (Or.inl ⟨by rfl, ?_⟩) (by assumption) ?_; rotate_left; (focus (intro wS hS; (try go_split_ands); go_simp; all_goals (with_reducible rfl))); simp only [List.set_cons_zero, List.set_cons_succ, List.setIfInBounds_toArray]); (refine Hd.takeE (i := 7) (v := ?_) rfl rfl (by kernel_rfl) (by kernel_rfl) (by kernel_rfl) (by kernel_rfl) (fun _ _ _ h => h) (Or.inl ⟨by rfl, ?_⟩) (by assumption) ?_; rotate_left; (focus (intro wS hS; (try go_split_ands); go_simp; all_goals (with_reducible rfl))); simp only [List.set_cons_zero, List.set_cons_succ, List.setIfInBounds_toArray]); (refine Hd.takeE (i := 8) (v := ?_) rfl rfl (by kernel_rfl) (by kernel_rfl) (by kernel_rfl) (by kernel_rfl) (fun _ _ _ h => h) (Or.inl ⟨by rfl, ?_⟩) (by assumption) ?_; rotate_left; (focus (intro wS hS; (try go_split_ands); go_simp; all_goals (with_reducible rfl))); simp only [List.set_cons_zero, List.set_cons_succ, List.setIfInBounds_toArray]); (refine Hd.takeE (i := 9) (v := ?_) rfl rfl (by kernel_rfl) (by kernel_rfl) (by kernel_rfl) (by kernel_rfl) (fun _ _ _ h => h) (Or.inl ⟨by rfl, ?_⟩) (by assumption) ?_; rotate_left; (focus (intro wS hS; (try go_split_ands); go_simp; all_goals (with_reducible rfl))); simp only [List.set_cons_zero, List.set_cons_succ, List.setIfInBounds_toArray]); (refine Hd.takeE (i := 10) (v := ?_) rfl rfl (by kernel_rfl) (by kernel_rfl) (by kernel_rfl) (by kernel_rfl) (fun _ _ _ h => h) (Or.inl ⟨by rfl, ?_⟩) (by assumption) ?_; rotate_left; (focus (intro wS hS; (try go_split_ands); go_simp; all_goals (with_reducible rfl))); simp only [List.set_cons_zero, List.set_cons_succ, List.setIfInBounds_toArray]); (refine Hd.takeE (i := 11) (v := ?_) rfl rfl (by kernel_rfl) (by kernel_rfl) (by kernel_rfl) (by kernel_rfl) (fun _ _ _ h => h) (Or.inl ⟨by rfl, ?_⟩) (by assumption) ?_; rotate_left; (focus (intro wS hS; (try go_split_ands); go_simp; all_goals (with_reducible rfl))); simp only [List.set_cons_zero, List.set_cons_succ, List.setIfInBounds_toArray])
        have hb4a := below_alloc (below_drew1 HBI.out) (.cells #[.slice da hi' dc] 24)
        (refine Hd.readyE (rs := [12]) (by kernel_rfl) (by simp) ?_; refine Hd.AllE.cons (i := 12) rfl (fun K hK => ?_) Hd.AllE.nil; go_simp; refine hK.out _ _ (HQ.out _ hb4a) (fun hHeld => ?_); clear hK K; (try simp only [Act.put, List.setIfInBounds_toArray, List.set_cons_zero, List.set_cons_succ]))
        have hbx := Kd.R_lit1 dSl flat_sl wi.drew 24 (⟨da, hi', dc⟩ : Ds) [.slice da hi' dc] ⟨trivial, rfl⟩ w.heap.size HBI.out.size
        have hcr := (Kd.R_reads' hbx).2.2
        have HO4 := Kd.R_alloc (Kd.R_drew HO.out) (.cells #[.slice da hi' dc] 24)
        (refine Hd.readyE (rs := [13]) (by kernel_rfl) (by simp) ?_; refine Hd.AllE.cons (i := 13) rfl (fun K hK => ?_) Hd.AllE.nil; (refine Hd.step_of_list rfl ?_; refine app dSl flat_sl w.heap.size (w0 := w) (.tmp 15) (.tmp 27) 22 24 (.slice none 0 0) 24 rfl rfl Try.underlying22 infoSl rfl (by decide) (by decide) (.slice Ao acc.length co) acc [(⟨da, hi', dc⟩ : Ds)] (some ⟨wi.drew.heap.size, 0, none⟩) 1 1 (by rfl) (by rfl) HO4 hcr hb4a hb4a.size (by omega) ?_; intro v5 w5 ho5 hb5 hg5 hat5; refine wpList_nil ?_); refine hK.out _ _ (HQ.out _ hb5) (fun hHeld => ?_); clear hK K; (try simp only [Act.put, List.setIfInBounds_toArray, List.set_cons_zero, List.set_cons_succ]))
        (refine Hd.takeE (i := 14) (v := ?_) rfl rfl (by kernel_rfl) (by kernel_rfl) (by kernel_rfl) (by kernel_rfl) (fun _ _ _ h => h) (Or.inl ⟨by rfl, ?_⟩) (by assumption) ?_; rotate_left; (focus (intro wS hS; (try go_split_ands); go_simp; all_goals (with_reducible rfl))); simp only [List.set_cons_zero, List.set_cons_succ, List.setIfInBounds_toArray])
        (refine Hd.endE (by kernel_rfl) ?_ _)
        go_wp2
        go_roundg (k - (i + 1) + 1)
        case measure => have := HG.out; omega
        case rel => exact ⟨i + 1, by go_num, by omega, by omega, ⟨rfl⟩, ⟨by rw [HFS.out]; exact ho5⟩, ⟨hb5⟩⟩
      · have h2 : decide ((i : Int) < 12) = false := by simp; omega
        have HE := Aside0.mk (show fewD (ds.take i) = fewD ds by unfold fewD; rw [List.take_take, show min 12 i = 12 by omega])
        obtain ⟨Ao, co, rfl, hco, hro⟩ := Kd.R_reads HO.out
        go_wp2
        go_ret
        exact ⟨_, rfl, by rw [← HE.out]; exact HO.out, HBI.out⟩
    · obtain rfl : i = k := by omega
      have h1 : decide ((i : Int) < (i : Int)) = false := by simp
      have HE := Aside0.mk (show fewD (ds.take i) = fewD ds by rw [List.take_of_length_le (by omega)])
      obtain ⟨Ao, co, rfl, hco, hro⟩ := Kd.R_reads HO.out
      go_wp2
      go_ret
      exact ⟨_, rfl, by rw [← HE.out]; exact HO.out, HBI.out⟩
end Go.Proofs.Ytkobolgbmfhpgaa.SgF
