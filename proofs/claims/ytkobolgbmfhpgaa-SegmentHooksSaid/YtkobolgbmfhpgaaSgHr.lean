/- The hooks of some refs: the reference's Hooks; condition: the refs read as refs. -/
import Derived.Test.YtkobolgbmfhpgaaSgHk
import Derived.Test.YtkobolgbmfhpgaaWGuard
namespace Go.Proofs.Ytkobolgbmfhpgaa.SgHr
open Go Go.RowKit Go.Proofs.YtkobolgbmfhpgaaW.PrintWords Go.Proofs.Ytkobolgbmfhpgaa.K Go.Proofs.Ytkobolgbmfhpgaa.OctS Go.Proofs.Ytkobolgbmfhpgaa.OctP Go.Proofs.Ytkobolgbmfhpgaa.Oct Go.Proofs.Ytkobolgbmfhpgaa.ReR Go.Proofs.Ytkobolgbmfhpgaa.ReT Go.Proofs.Ytkobolgbmfhpgaa.ReK Go.Proofs.Ytkobolgbmfhpgaa.SgD Go.Proofs.Ytkobolgbmfhpgaa.SgM Go.Proofs.Ytkobolgbmfhpgaa.SgH Go.Proofs.Ytkobolgbmfhpgaa.SgE Go.Proofs.Ytkobolgbmfhpgaa.SgLv Go.Proofs.Ytkobolgbmfhpgaa.SgS Go.Proofs.Ytkobolgbmfhpgaa.SgHk
set_option linter.unusedVariables false
set_option linter.unusedSimpArgs false
theorem range_ref {W : World} {ad : Addr} {r : Ref} (h : Hd.RangeA W ad r.cells) : Hd.RangeA W ad (nums .u8 r.s) := fun q v hv => h q v (by
  unfold Ref.cells
  rw [List.getElem?_append_left (List.getElem?_eq_some_iff.1 hv).1]
  exact hv)
set_option maxHeartbeats 8000000 in
set_option maxRecDepth 100000 in
theorem rhooks_calls (A : Option Addr) (k c : Nat) (rs : List Ref) (rate : Int) (w : World) (h : RefsC w A k rs) : Calls Try.prog 14 #[.slice A k c, .int .i64 rate] w fun e w' =>
    ∃ v, e = .returned v ∧ Kd.R dSum 31 w' w.heap.size (fun _ => True) (v) (hooksF rate rs) ∧ Below w.heap.size w w' := by
  have H := Aside0.mk h
  have hl : rs.length = k := h.len
  have hkm : k ≤ 9223372036854775807 := by have := h.lim; simp only [maxLen] at this; omega
  have HUS := Aside0.mk Try.underlying31
  clear h
  have HN0 := Aside0.mk (Kd.R_made_nil dSum w 31)
  go_enter Try.func14, Try.ntmps14
  go_wp2
  go_loopg [5, 6] (k + 1) (fun gk v5 v6 wr => ∃ i : Nat, v6 = .int .i64 i ∧ i ≤ k ∧ Aside0 (gk = k - i + 1) ∧ Aside0 (Kd.R dSum 31 wr w.heap.size (fun _ => True) (v5) (hooksF rate (rs.take i))) ∧ Aside0 (Below w.heap.size w wr))
  case atStart => exact ⟨0, rfl, Nat.zero_le _, ⟨rfl⟩, ⟨by rw [List.take_zero]; exact HN0.out⟩, ⟨below_alloc (Below.refl _ _) _⟩⟩
  case round =>
    obtain ⟨i, rfl, hi, HK, HOr, HBr⟩ := hrel
    obtain ⟨wo, rfl⟩ : ∃ X : World, X = wr := ⟨_, rfl⟩
    obtain ⟨Ao, co, rfl, hco, hro⟩ := Kd.R_reads HOr.out
    by_cases hlt : i < k
    · have h1 : decide ((i : Int) < (k : Int)) = true := by simp; omega
      obtain ⟨ad, hA⟩ := H.out.is (by omega)
      subst hA
      have hp1 : (0 : Int) ≤ (i : Int) := by omega
      have hp2 : (i : Int) < (k : Int) := by omega
      have hok := H.out.ok i hlt
      have hRA := fun W (hW : Below w.heap.size w W) => range_ref ((H.out.below hW).cells ad rfl i hlt)
      have HF := Aside0.mk (hooks_snoc rate rs i (by omega))
      have hsm := hooks_ok rate (rs.take i) [] (fun r hr => H.out.each r (List.mem_of_mem_take hr)) (fun s hs => by cases hs)
      generalize rs.getD i default = r at *
      change ∀ s ∈ hooksF rate (rs.take i), OkSum s at hsm
      have HOLN : Aside0 ((hooksF rate (rs.take i)).length ≤ 9223372036854775807) := ⟨by have := hro.2.1; simpa [maxLen] using this⟩
      generalize hooksF rate (rs.take i) = out at *
      have hol := HOLN.out
      have HRA := Aside0.mk hRA
      have HOK := Aside0.mk (ok_sum hok)
      have HIS := Aside0.mk (infoSmS r.s (ok_sum hok))
      have HCo := Aside0.mk hro
      have HSM := Aside0.mk hsm
      clear hok hRA hro hsm
      go_wp2
      go_loopg [7, 8] (out.length + 1) (fun gi v7 v8 wi => ∃ j : Nat, v8 = .int .i64 j ∧ v7 = .bool (decide (r.s ∈ out.take j)) ∧ j ≤ out.length ∧ Aside0 (gi = out.length - j + 1) ∧ Aside0 (Below wo.heap.size wo wi))
      case atStart => exact ⟨0, rfl, by simp, Nat.zero_le _, ⟨rfl⟩, ⟨Below.refl _ _⟩⟩
      case round =>
        obtain ⟨j, rfl, rfl, hj, HGI, HBI⟩ := hrel
        obtain ⟨wi, rfl⟩ : ∃ X : World, X = wr := ⟨_, rfl⟩
        have HB2 := Aside0.mk (below_then HBr.out HBr.out.size HBI.out)
        by_cases hjl : j < out.length
        · have hj1 : decide ((j : Int) < (out.length : Int)) = true := by simp; omega
          have hq1 : (0 : Int) ≤ (j : Int) := by omega
          have hq2 : (j : Int) < (out.length : Int) := by omega
          obtain ⟨ad2, rfl, hok2, hrm⟩ := sm_at (Kd.C_below HCo.out HBI.out) j hjl
          have htk : out.take (j + 1) = out.take j ++ [out[j]] := by
            rw [List.take_add_one, List.getElem?_eq_getElem hjl]; rfl
          have HTK := Aside0.mk htk
          generalize out[j] = t at *
          have HRM := Aside0.mk hrm
          have HRN := Aside0.mk (HRA.out wi HB2.out)
          have HIM := Aside0.mk (infoSmS t hok2)
          by_cases hin : r.s ∈ out.take j
          · have hd1 : decide (r.s ∈ out.take j) = true := decide_eq_true hin
            have HD2 := Aside0.mk (show decide (r.s ∈ out.take (j + 1)) = true from decide_eq_true (by rw [HTK.out]; simp [hin]))
            rw [hd1]
            clear hin hd1 hrm htk hok2
            go_wp2_with fail
            (refine Hd.startE (S := (fun X => True)) 1000 (by kernel_rfl) (trivial) (fun hHeld => ?_))
            (refine Hd.takeE (i := 0) (v := ?_) rfl rfl (by kernel_rfl) (by kernel_rfl) (by kernel_rfl) (by kernel_rfl) (fun _ _ _ h => h) (Or.inl ⟨by rfl, ?_⟩) (by assumption) ?_; rotate_left; (focus (intro wS hS; (try go_split_ands); go_simp; all_goals (with_reducible rfl))); simp only [List.set_cons_zero, List.set_cons_succ, List.setIfInBounds_toArray]); (refine Hd.takeE (i := 1) (v := ?_) rfl rfl (by kernel_rfl) (by kernel_rfl) (by kernel_rfl) (by kernel_rfl) (fun _ _ _ h => h) (Or.inl ⟨by rfl, ?_⟩) (by assumption) ?_; rotate_left; (focus (intro wS hS; (try go_split_ands); go_simp; all_goals (with_reducible rfl))); simp only [List.set_cons_zero, List.set_cons_succ, List.setIfInBounds_toArray])
            (refine Hd.takeE (i := 2) (v := undef) rfl rfl (by kernel_rfl) (by kernel_rfl) (by kernel_rfl) (by kernel_rfl) (fun _ _ _ h => h) (Or.inr ⟨by rfl, rfl⟩) (by assumption) ?_; simp only [List.set_cons_zero, List.set_cons_succ, List.setIfInBounds_toArray]); (refine Hd.takeE (i := 3) (v := undef) rfl rfl (by kernel_rfl) (by kernel_rfl) (by kernel_rfl) (by kernel_rfl) (fun _ _ _ h => h) (Or.inr ⟨by rfl, rfl⟩) (by assumption) ?_; simp only [List.set_cons_zero, List.set_cons_succ, List.setIfInBounds_toArray]); (refine Hd.takeE (i := 4) (v := undef) rfl rfl (by kernel_rfl) (by kernel_rfl) (by kernel_rfl) (by kernel_rfl) (fun _ _ _ h => h) (Or.inr ⟨by rfl, rfl⟩) (by assumption) ?_; simp only [List.set_cons_zero, List.set_cons_succ, List.setIfInBounds_toArray]); (refine Hd.takeE (i := 5) (v := undef) rfl rfl (by kernel_rfl) (by kernel_rfl) (by kernel_rfl) (by kernel_rfl) (fun _ _ _ h => h) (Or.inr ⟨by rfl, rfl⟩) (by assumption) ?_; simp only [List.set_cons_zero, List.set_cons_succ, List.setIfInBounds_toArray]); (refine Hd.takeE (i := 6) (v := undef) rfl rfl (by kernel_rfl) (by kernel_rfl) (by kernel_rfl) (by kernel_rfl) (fun _ _ _ h => h) (Or.inr ⟨by rfl, rfl⟩) (by assumption) ?_; simp only [List.set_cons_zero, List.set_cons_succ, List.setIfInBounds_toArray]); (refine Hd.takeE (i := 7) (v := undef) rfl rfl (by kernel_rfl) (by kernel_rfl) (by kernel_rfl) (by kernel_rfl) (fun _ _ _ h => h) (Or.inr ⟨by rfl, rfl⟩) (by assumption) ?_; simp only [List.set_cons_zero, List.set_cons_succ, List.setIfInBounds_toArray]); (refine Hd.takeE (i := 8) (v := undef) rfl rfl (by kernel_rfl) (by kernel_rfl) (by kernel_rfl) (by kernel_rfl) (fun _ _ _ h => h) (Or.inr ⟨by rfl, rfl⟩) (by assumption) ?_; simp only [List.set_cons_zero, List.set_cons_succ, List.setIfInBounds_toArray]); (refine Hd.takeE (i := 9) (v := undef) rfl rfl (by kernel_rfl) (by kernel_rfl) (by kernel_rfl) (by kernel_rfl) (fun _ _ _ h => h) (Or.inr ⟨by rfl, rfl⟩) (by assumption) ?_; simp only [List.set_cons_zero, List.set_cons_succ, List.setIfInBounds_toArray]); (refine Hd.takeE (i := 10) (v := undef) rfl rfl (by kernel_rfl) (by kernel_rfl) (by kernel_rfl) (by kernel_rfl) (fun _ _ _ h => h) (Or.inr ⟨by rfl, rfl⟩) (by assumption) ?_; simp only [List.set_cons_zero, List.set_cons_succ, List.setIfInBounds_toArray]); (refine Hd.takeE (i := 11) (v := undef) rfl rfl (by kernel_rfl) (by kernel_rfl) (by kernel_rfl) (by kernel_rfl) (fun _ _ _ h => h) (Or.inr ⟨by rfl, rfl⟩) (by assumption) ?_; simp only [List.set_cons_zero, List.set_cons_succ, List.setIfInBounds_toArray])
            (refine Hd.takeE (i := 12) (v := ?_) rfl rfl (by kernel_rfl) (by kernel_rfl) (by kernel_rfl) (by kernel_rfl) (fun _ _ _ h => h) (Or.inl ⟨by rfl, ?_⟩) (by assumption) ?_; rotate_left; (focus (intro wS hS; (try go_split_ands); go_simp; all_goals (with_reducible rfl))); simp only [List.set_cons_zero, List.set_cons_succ, List.setIfInBounds_toArray]); (refine Hd.takeE (i := 13) (v := ?_) rfl rfl (by kernel_rfl) (by kernel_rfl) (by kernel_rfl) (by kernel_rfl) (fun _ _ _ h => h) (Or.inl ⟨by rfl, ?_⟩) (by assumption) ?_; rotate_left; (focus (intro wS hS; (try go_split_ands); go_simp; all_goals (with_reducible rfl))); simp only [List.set_cons_zero, List.set_cons_succ, List.setIfInBounds_toArray])
            (refine Hd.endE (by kernel_rfl) ?_ _)
            go_wp2
            go_roundg (out.length - (j + 1) + 1)
            case measure => have := HGI.out; omega
            case rel => exact ⟨j + 1, by go_num, by rw [HD2.out], by omega, ⟨rfl⟩, ⟨below_drew1 HBI.out⟩⟩
          · have hd1 : decide (r.s ∈ out.take j) = false := decide_eq_false hin
            rw [hd1]
            by_cases he : t = r.s
            · have HD2 := Aside0.mk (show decide (r.s ∈ out.take (j + 1)) = true from decide_eq_true (by rw [HTK.out, he]; simp))
              rw [he] at HRM HIM
              have heq := sm_eq r.s HOK.out
              clear hin hd1 hrm htk hok2 he
              generalize hN : nums .u8 r.s = N at *
              go_wp2_with fail
              (refine Hd.startE (S := (fun X => Hd.RangeA X (ad2.add (j * 32)) N ∧ Hd.RangeA X (ad.add (i * 35)) N)) 1000 (by kernel_rfl) (⟨HRM.out, HRN.out⟩) (fun hHeld => ?_))
              (refine Hd.takeE (i := 0) (v := ?_) rfl rfl (by kernel_rfl) (by kernel_rfl) (by kernel_rfl) (by kernel_rfl) (fun _ _ _ h => h) (Or.inl ⟨by rfl, ?_⟩) (by assumption) ?_; rotate_left; (focus (intro wS hS; (try go_split_ands); go_simp; all_goals (with_reducible rfl))); simp only [List.set_cons_zero, List.set_cons_succ, List.setIfInBounds_toArray]); (refine Hd.takeE (i := 1) (v := ?_) rfl rfl (by kernel_rfl) (by kernel_rfl) (by kernel_rfl) (by kernel_rfl) (fun _ _ _ h => h) (Or.inl ⟨by rfl, ?_⟩) (by assumption) ?_; rotate_left; (focus (intro wS hS; (try go_split_ands); go_simp; all_goals (with_reducible rfl))); simp only [List.set_cons_zero, List.set_cons_succ, List.setIfInBounds_toArray]); (refine Hd.takeE (i := 2) (v := ?_) rfl rfl (by kernel_rfl) (by kernel_rfl) (by kernel_rfl) (by kernel_rfl) (fun _ _ _ h => h) (Or.inl ⟨by rfl, ?_⟩) (by assumption) ?_; rotate_left; (focus (intro wS hS; (try go_split_ands); go_simp; all_goals (with_reducible rfl))); simp only [List.set_cons_zero, List.set_cons_succ, List.setIfInBounds_toArray]); (refine Hd.takeE (i := 3) (v := ?_) rfl rfl (by kernel_rfl) (by kernel_rfl) (by kernel_rfl) (by kernel_rfl) (fun _ _ _ h => h) (Or.inl ⟨by rfl, ?_⟩) (by assumption) ?_; rotate_left; (focus (intro wS hS; (try go_split_ands); go_simp; all_goals (with_reducible rfl))); simp only [List.set_cons_zero, List.set_cons_succ, List.setIfInBounds_toArray]); (refine Hd.takeE (i := 4) (v := ?_) rfl rfl (by kernel_rfl) (by kernel_rfl) (by kernel_rfl) (by kernel_rfl) (fun _ _ _ h => h) (Or.inl ⟨by rfl, ?_⟩) (by assumption) ?_; rotate_left; (focus (intro wS hS; (try go_split_ands); go_simp; all_goals (with_reducible rfl))); simp only [List.set_cons_zero, List.set_cons_succ, List.setIfInBounds_toArray])
              (refine Hd.takeE (i := 5) rfl rfl (by kernel_rfl) (by kernel_rfl) (by kernel_rfl) (by kernel_rfl) (fun _ _ _ h => h) (Hd.yieldsIf_load_any (by rfl) 31 _ rfl _ rfl N _ (fun wS hS => hS.1) HUS.out rfl HIM.out) (by assumption) ?_; simp only [List.set_cons_zero, List.set_cons_succ, List.setIfInBounds_toArray])
              (refine Hd.takeE (i := 6) (v := ?_) rfl rfl (by kernel_rfl) (by kernel_rfl) (by kernel_rfl) (by kernel_rfl) (fun _ _ _ h => h) (Or.inl ⟨by rfl, ?_⟩) (by assumption) ?_; rotate_left; (focus (intro wS hS; (try go_split_ands); go_simp; all_goals (with_reducible rfl))); simp only [List.set_cons_zero, List.set_cons_succ, List.setIfInBounds_toArray]); (refine Hd.takeE (i := 7) (v := ?_) rfl rfl (by kernel_rfl) (by kernel_rfl) (by kernel_rfl) (by kernel_rfl) (fun _ _ _ h => h) (Or.inl ⟨by rfl, ?_⟩) (by assumption) ?_; rotate_left; (focus (intro wS hS; (try go_split_ands); go_simp; all_goals (with_reducible rfl))); simp only [List.set_cons_zero, List.set_cons_succ, List.setIfInBounds_toArray]); (refine Hd.takeE (i := 8) (v := ?_) rfl rfl (by kernel_rfl) (by kernel_rfl) (by kernel_rfl) (by kernel_rfl) (fun _ _ _ h => h) (Or.inl ⟨by rfl, ?_⟩) (by assumption) ?_; rotate_left; (focus (intro wS hS; (try go_split_ands); go_simp; all_goals (with_reducible rfl))); simp only [List.set_cons_zero, List.set_cons_succ, List.setIfInBounds_toArray]); (refine Hd.takeE (i := 9) (v := ?_) rfl rfl (by kernel_rfl) (by kernel_rfl) (by kernel_rfl) (by kernel_rfl) (fun _ _ _ h => h) (Or.inl ⟨by rfl, ?_⟩) (by assumption) ?_; rotate_left; (focus (intro wS hS; (try go_split_ands); go_simp; all_goals (with_reducible rfl))); simp only [List.set_cons_zero, List.set_cons_succ, List.setIfInBounds_toArray])
              (refine Hd.takeE (i := 10) rfl rfl (by kernel_rfl) (by kernel_rfl) (by kernel_rfl) (by kernel_rfl) (fun _ _ _ h => h) (Hd.yieldsIf_load_any (by rfl) 31 _ rfl _ rfl N _ (fun wS hS => hS.2) HUS.out rfl HIS.out) (by assumption) ?_; simp only [List.set_cons_zero, List.set_cons_succ, List.setIfInBounds_toArray])
              (refine Hd.takeE (i := 11) (v := ?_) rfl rfl (by kernel_rfl) (by kernel_rfl) (by kernel_rfl) (by kernel_rfl) (fun _ _ _ h => h) (Or.inl ⟨by rfl, ?_⟩) (by assumption) ?_; rotate_left; (focus (intro wS hS; (try go_split_ands); go_simp; all_goals (with_reducible rfl))); simp only [List.set_cons_zero, List.set_cons_succ, List.setIfInBounds_toArray]); (refine Hd.takeE (i := 12) (v := ?_) rfl rfl (by kernel_rfl) (by kernel_rfl) (by kernel_rfl) (by kernel_rfl) (fun _ _ _ h => h) (Or.inl ⟨by rfl, ?_⟩) (by assumption) ?_; rotate_left; (focus (intro wS hS; (try go_split_ands); go_simp; all_goals (with_reducible rfl))); simp only [List.set_cons_zero, List.set_cons_succ, List.setIfInBounds_toArray]); (refine Hd.takeE (i := 13) (v := ?_) rfl rfl (by kernel_rfl) (by kernel_rfl) (by kernel_rfl) (by kernel_rfl) (fun _ _ _ h => h) (Or.inl ⟨by rfl, ?_⟩) (by assumption) ?_; rotate_left; (focus (intro wS hS; (try go_split_ands); go_simp; all_goals (with_reducible rfl))); simp only [List.set_cons_zero, List.set_cons_succ, List.setIfInBounds_toArray])
              (refine Hd.endE (by kernel_rfl) ?_ _)
              go_wp2
              go_roundg (out.length - (j + 1) + 1)
              case measure => have := HGI.out; omega
              case rel => exact ⟨j + 1, by go_num, by rw [HD2.out], by omega, ⟨rfl⟩, ⟨below_drew1 HBI.out⟩⟩
            · have HD2 := Aside0.mk (show decide (r.s ∈ out.take (j + 1)) = false from decide_eq_false (by rw [HTK.out]; simp [hin]; exact fun e => he e.symm))
              have heq := sm_ne t r.s hok2 HOK.out he
              clear hin hd1 hrm htk hok2 he
              generalize hN : nums .u8 r.s = N at *
              generalize hM : nums .u8 t = M at *
              go_wp2_with fail
              (refine Hd.startE (S := (fun X => Hd.RangeA X (ad2.add (j * 32)) M ∧ Hd.RangeA X (ad.add (i * 35)) N)) 1000 (by kernel_rfl) (⟨HRM.out, HRN.out⟩) (fun hHeld => ?_))
              (refine Hd.takeE (i := 0) (v := ?_) rfl rfl (by kernel_rfl) (by kernel_rfl) (by kernel_rfl) (by kernel_rfl) (fun _ _ _ h => h) (Or.inl ⟨by rfl, ?_⟩) (by assumption) ?_; rotate_left; (focus (intro wS hS; (try go_split_ands); go_simp; all_goals (with_reducible rfl))); simp only [List.set_cons_zero, List.set_cons_succ, List.setIfInBounds_toArray]); (refine Hd.takeE (i := 1) (v := ?_) rfl rfl (by kernel_rfl) (by kernel_rfl) (by kernel_rfl) (by kernel_rfl) (fun _ _ _ h => h) (Or.inl ⟨by rfl, ?_⟩) (by assumption) ?_; rotate_left; (focus (intro wS hS; (try go_split_ands); go_simp; all_goals (with_reducible rfl))); simp only [List.set_cons_zero, List.set_cons_succ, List.setIfInBounds_toArray]); (refine Hd.takeE (i := 2) (v := ?_) rfl rfl (by kernel_rfl) (by kernel_rfl) (by kernel_rfl) (by kernel_rfl) (fun _ _ _ h => h) (Or.inl ⟨by rfl, ?_⟩) (by assumption) ?_; rotate_left; (focus (intro wS hS; (try go_split_ands); go_simp; all_goals (with_reducible rfl))); simp only [List.set_cons_zero, List.set_cons_succ, List.setIfInBounds_toArray]); (refine Hd.takeE (i := 3) (v := ?_) rfl rfl (by kernel_rfl) (by kernel_rfl) (by kernel_rfl) (by kernel_rfl) (fun _ _ _ h => h) (Or.inl ⟨by rfl, ?_⟩) (by assumption) ?_; rotate_left; (focus (intro wS hS; (try go_split_ands); go_simp; all_goals (with_reducible rfl))); simp only [List.set_cons_zero, List.set_cons_succ, List.setIfInBounds_toArray]); (refine Hd.takeE (i := 4) (v := ?_) rfl rfl (by kernel_rfl) (by kernel_rfl) (by kernel_rfl) (by kernel_rfl) (fun _ _ _ h => h) (Or.inl ⟨by rfl, ?_⟩) (by assumption) ?_; rotate_left; (focus (intro wS hS; (try go_split_ands); go_simp; all_goals (with_reducible rfl))); simp only [List.set_cons_zero, List.set_cons_succ, List.setIfInBounds_toArray])
              (refine Hd.takeE (i := 5) rfl rfl (by kernel_rfl) (by kernel_rfl) (by kernel_rfl) (by kernel_rfl) (fun _ _ _ h => h) (Hd.yieldsIf_load_any (by rfl) 31 _ rfl _ rfl M _ (fun wS hS => hS.1) HUS.out rfl HIM.out) (by assumption) ?_; simp only [List.set_cons_zero, List.set_cons_succ, List.setIfInBounds_toArray])
              (refine Hd.takeE (i := 6) (v := ?_) rfl rfl (by kernel_rfl) (by kernel_rfl) (by kernel_rfl) (by kernel_rfl) (fun _ _ _ h => h) (Or.inl ⟨by rfl, ?_⟩) (by assumption) ?_; rotate_left; (focus (intro wS hS; (try go_split_ands); go_simp; all_goals (with_reducible rfl))); simp only [List.set_cons_zero, List.set_cons_succ, List.setIfInBounds_toArray]); (refine Hd.takeE (i := 7) (v := ?_) rfl rfl (by kernel_rfl) (by kernel_rfl) (by kernel_rfl) (by kernel_rfl) (fun _ _ _ h => h) (Or.inl ⟨by rfl, ?_⟩) (by assumption) ?_; rotate_left; (focus (intro wS hS; (try go_split_ands); go_simp; all_goals (with_reducible rfl))); simp only [List.set_cons_zero, List.set_cons_succ, List.setIfInBounds_toArray]); (refine Hd.takeE (i := 8) (v := ?_) rfl rfl (by kernel_rfl) (by kernel_rfl) (by kernel_rfl) (by kernel_rfl) (fun _ _ _ h => h) (Or.inl ⟨by rfl, ?_⟩) (by assumption) ?_; rotate_left; (focus (intro wS hS; (try go_split_ands); go_simp; all_goals (with_reducible rfl))); simp only [List.set_cons_zero, List.set_cons_succ, List.setIfInBounds_toArray]); (refine Hd.takeE (i := 9) (v := ?_) rfl rfl (by kernel_rfl) (by kernel_rfl) (by kernel_rfl) (by kernel_rfl) (fun _ _ _ h => h) (Or.inl ⟨by rfl, ?_⟩) (by assumption) ?_; rotate_left; (focus (intro wS hS; (try go_split_ands); go_simp; all_goals (with_reducible rfl))); simp only [List.set_cons_zero, List.set_cons_succ, List.setIfInBounds_toArray])
              (refine Hd.takeE (i := 10) rfl rfl (by kernel_rfl) (by kernel_rfl) (by kernel_rfl) (by kernel_rfl) (fun _ _ _ h => h) (Hd.yieldsIf_load_any (by rfl) 31 _ rfl _ rfl N _ (fun wS hS => hS.2) HUS.out rfl HIS.out) (by assumption) ?_; simp only [List.set_cons_zero, List.set_cons_succ, List.setIfInBounds_toArray])
              (refine Hd.takeE (i := 11) (v := ?_) rfl rfl (by kernel_rfl) (by kernel_rfl) (by kernel_rfl) (by kernel_rfl) (fun _ _ _ h => h) (Or.inl ⟨by rfl, ?_⟩) (by assumption) ?_; rotate_left; (focus (intro wS hS; (try go_split_ands); go_simp; all_goals (with_reducible rfl))); simp only [List.set_cons_zero, List.set_cons_succ, List.setIfInBounds_toArray]); (refine Hd.takeE (i := 12) (v := ?_) rfl rfl (by kernel_rfl) (by kernel_rfl) (by kernel_rfl) (by kernel_rfl) (fun _ _ _ h => h) (Or.inl ⟨by rfl, ?_⟩) (by assumption) ?_; rotate_left; (focus (intro wS hS; (try go_split_ands); go_simp; all_goals (with_reducible rfl))); simp only [List.set_cons_zero, List.set_cons_succ, List.setIfInBounds_toArray]); (refine Hd.takeE (i := 13) (v := ?_) rfl rfl (by kernel_rfl) (by kernel_rfl) (by kernel_rfl) (by kernel_rfl) (fun _ _ _ h => h) (Or.inl ⟨by rfl, ?_⟩) (by assumption) ?_; rotate_left; (focus (intro wS hS; (try go_split_ands); go_simp; all_goals (with_reducible rfl))); simp only [List.set_cons_zero, List.set_cons_succ, List.setIfInBounds_toArray])
              (refine Hd.endE (by kernel_rfl) ?_ _)
              go_wp2
              go_roundg (out.length - (j + 1) + 1)
              case measure => have := HGI.out; omega
              case rel => exact ⟨j + 1, by go_num, by rw [HD2.out], by omega, ⟨rfl⟩, ⟨below_drew1 HBI.out⟩⟩
        · obtain rfl : j = out.length := by omega
          have hj1 : decide ((out.length : Int) < (out.length : Int)) = false := by simp
          rw [List.take_of_length_le (Nat.le_refl _)]
          have HO1 := Aside0.mk (Kd.R_below HOr.out HBI.out)
          by_cases hin : r.s ∈ out
          · have HF2 := Aside0.mk (show hooksF rate (rs.take (i + 1)) = out by rw [HF.out]; unfold hookStep; rw [if_neg (fun h => absurd hin h.2.2)])
            rw [show decide (r.s ∈ out) = true from decide_eq_true hin]
            clear hin
            go_wp2
            go_roundg (k - (i + 1) + 1)
            case measure => have := HK.out; omega
            case rel => exact ⟨i + 1, by go_num, by omega, ⟨rfl⟩, ⟨by rw [HF2.out]; exact HO1.out⟩, HB2⟩
          · rw [show decide (r.s ∈ out) = false from decide_eq_false hin]
            by_cases h16 : out.length < 16
            · have g1 : decide ((out.length : Int) < 16) = true := by simp; omega
              have HRN := Aside0.mk (HRA.out wi HB2.out)
              have HHK := Aside0.mk (rhook_calls r.s rate wi HOK.out.1 (bytes_wf HOK.out.2))
              cases hhk : hookF r.s rate with
              | false =>
                have HF2 := Aside0.mk (show hooksF rate (rs.take (i + 1)) = out by rw [HF.out]; unfold hookStep; rw [if_neg (fun h => by rw [hhk] at h; exact absurd h.2.1 (by decide))])
                rw [hhk] at HHK
                clear hin hhk
                go_wp2_with (first
                  | ((with_reducible refine gate_ (.load 31 (.tmp 46)) rfl ?_); refine gate_guard (by rfl) ?_; refine Hd.wpList_load_any rfl _ (.tmp 46) rfl _ rfl (nums .u8 r.s) _ HRN.out HUS.out rfl HIS.out ?_)
                  | (go_at_call 16; (with_reducible refine (HHK.out).mono ?_); rintro e w' ⟨rfl, hb4⟩; have HB4 := Aside0.mk (below_then HB2.out HB2.out.size hb4); have HO4 := Aside0.mk (Kd.R_below HO1.out hb4); clear hb4))
                go_roundg (k - (i + 1) + 1)
                case measure => have := HK.out; omega
                case rel => exact ⟨i + 1, by go_num, by omega, ⟨rfl⟩, ⟨by rw [HF2.out]; exact HO4.out⟩, HB4⟩
              | true =>
                have HF2 := Aside0.mk (show hooksF rate (rs.take (i + 1)) = out ++ [r.s] by rw [HF.out]; unfold hookStep; rw [if_pos ⟨h16, hhk, hin⟩])
                rw [hhk] at HHK
                have HSL := Aside0.mk (show (nums .u8 r.s).length = 32 by simp [nums, HOK.out.1])
                clear hin hhk
                go_wp2_with (first
                  | ((with_reducible refine gate_ (.load 31 (.tmp 46)) rfl ?_); refine gate_guard (by rfl) ?_; refine Hd.wpList_load_any rfl _ (.tmp 46) rfl _ rfl (nums .u8 r.s) _ HRN.out HUS.out rfl HIS.out ?_)
                  | (go_at_call 16; (with_reducible refine (HHK.out).mono ?_); rintro e w' ⟨rfl, hb4⟩; have HB4 := Aside0.mk (below_then HB2.out HB2.out.size hb4); have HO4 := Aside0.mk (Kd.R_below HO1.out hb4); clear hb4)
                  | ((with_reducible refine gate_ (.load 31 (.tmp 55)) rfl ?_); refine Hd.wpList_load_any rfl _ (.tmp 55) rfl _ rfl (nums .u8 r.s) _ (HRA.out _ HB4.out) HUS.out rfl HIS.out ?_)
                  | ((with_reducible refine gate_ (.buildSlice 29 1 #[(0, .tmp 56)]) rfl ?_); refine Lit.wpList_lit1 rfl _ 31 (.tmp 56) rfl (nums .u8 r.s) rfl Try.underlying29 infoSm HSL.out (by decide) (by decide) ?_)
                  | ((with_reducible refine gate_builtin (b := .append) (xs := #[.tmp 51, .tmp 57]) rfl ?_); at_builtin; refine app1 dSum flat_sum w.heap.size (w0 := w) (.tmp 51) (.tmp 57) 29 31 _ 32 rfl rfl Try.underlying29 infoSm rfl (by decide) (by decide) _ out r.s (nums .u8 r.s) rfl rfl ?aP ?aO ?aB ?aS ?aL ?_; (case aP => first | exact rfl | exact ⟨trivial, rfl⟩ | exact ⟨HOK.out, rfl⟩); (case aO => exact HO4.out); (case aB => exact (by repeat (first | (with_reducible first | exact HB4.out | apply below_alloc | apply pw_below_drewN | apply below_drew1) | exact HB4.out))); (case aS => exact (below_size (by repeat (first | (with_reducible first | exact HB4.out | apply below_alloc | apply pw_below_drewN | apply below_drew1) | exact HB4.out)))); (case aL => exact (by omega)); intro v1 w1 ho1 hb1 hg1 hat1; have HO5 := Aside0.mk ho1; have HB5 := Aside0.mk hb1; clear ho1 hb1 hg1 hat1))
                go_roundg (k - (i + 1) + 1)
                case measure => have := HK.out; omega
                case rel => exact ⟨i + 1, by go_num, by omega, ⟨rfl⟩, ⟨by rw [HF2.out]; exact HO5.out⟩, HB5⟩
            · have g1 : decide ((out.length : Int) < 16) = false := by simp; omega
              have HF2 := Aside0.mk (show hooksF rate (rs.take (i + 1)) = out by rw [HF.out]; unfold hookStep; rw [if_neg (fun h => h16 h.1)])
              clear hin
              go_wp2
              go_roundg (k - (i + 1) + 1)
              case measure => have := HK.out; omega
              case rel => exact ⟨i + 1, by go_num, by omega, ⟨rfl⟩, ⟨by rw [HF2.out]; exact HO1.out⟩, HB2⟩
    · obtain rfl : i = k := by omega
      have h1 : decide ((i : Int) < (i : Int)) = false := by simp
      have HFin := Aside0.mk (show hooksF rate (rs.take i) = hooksF rate rs by rw [List.take_of_length_le (by omega)])
      go_wp2
      go_ret
      refine ⟨_, rfl, ?_, HBr.out⟩
      rw [← HFin.out]
      exact HOr.out
end Go.Proofs.Ytkobolgbmfhpgaa.SgHr
