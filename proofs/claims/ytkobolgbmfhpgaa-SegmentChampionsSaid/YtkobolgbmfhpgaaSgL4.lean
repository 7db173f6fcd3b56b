/- The law SegmentChampions; condition: the lists read as lists. -/
import Derived.Test.YtkobolgbmfhpgaaSgF
namespace Go.Proofs.Ytkobolgbmfhpgaa.SgL4
open Go Go.RowKit Go.Maps Go.Proofs.YtkobolgbmfhpgaaW.PrintWords Go.Proofs.Ytkobolgbmfhpgaa.K Go.Proofs.Ytkobolgbmfhpgaa.SgC Go.Proofs.Ytkobolgbmfhpgaa.SgL Go.Proofs.Ytkobolgbmfhpgaa.SgB Go.Proofs.Ytkobolgbmfhpgaa.SgV Go.Proofs.Ytkobolgbmfhpgaa.SgD Go.Proofs.Ytkobolgbmfhpgaa.SgM Go.Proofs.Ytkobolgbmfhpgaa.SgX Go.Proofs.Ytkobolgbmfhpgaa.SgF Go.Proofs.Ytkobolgbmfhpgaa.SgLv
set_option linter.unusedVariables false
set_option linter.unusedSimpArgs false
/-- Does a list hold a number, and none of those ahead? -/
def mineB (c : Int) (l : List Int) (j : Nat) : Bool := decide (c ∈ l.take j)
def theirB (prev : List Int) (l : List Int) (j : Nat) : Bool := (l.take j).any (fun y => decide (y ∈ prev))
def goodB (c : Int) (prev : List Int) (l : List Int) : Bool := decide (c ∈ l) && !(l.any (fun y => decide (y ∈ prev)))
def freshB (c : Int) (prev : List Int) (ls : List (List Int)) (k : Nat) : Bool := (ls.take k).any (goodB c prev)
theorem mine_step (c : Int) (l : List Int) (j : Nat) (h : j < l.length) : mineB c l (j + 1) = (mineB c l j || (l.getD j 0 == c)) := by
  unfold mineB
  rw [take_snoc l j 0 h, Bool.eq_iff_iff]
  simp only [decide_eq_true_eq, List.mem_append, List.mem_singleton, Bool.or_eq_true, beq_iff_eq]
  constructor
  · rintro (h | h)
    · exact .inl h
    · exact .inr h.symm
  · rintro (h | h)
    · exact .inl h
    · exact .inr h.symm
theorem their_step (prev : List Int) (l : List Int) (j : Nat) (h : j < l.length) : theirB prev l (j + 1) = (theirB prev l j || decide (l.getD j 0 ∈ prev)) := by
  unfold theirB
  rw [take_snoc l j 0 h, List.any_append]
  simp
theorem fresh_step (c : Int) (prev : List Int) (ls : List (List Int)) (k : Nat) (h : k < ls.length) : freshB c prev ls (k + 1) = (freshB c prev ls k || goodB c prev (ls.getD k [])) := by
  unfold freshB
  rw [take_snoc ls k [] h, List.any_append]
  simp
theorem in_step (y : Int) (prev : List Int) (h : Nat) (hh : h < prev.length) : decide (y ∈ prev.take (h + 1)) = (decide (y ∈ prev.take h) || (y == prev.getD h 0)) := by
  rw [take_snoc prev h 0 hh, Bool.eq_iff_iff]
  simp
theorem good_is (c : Int) (prev : List Int) (l : List Int) (n : Nat) (h : n = l.length) : goodB c prev l = (mineB c l n && !theirB prev l n) := by
  subst h
  unfold goodB mineB theirB
  rw [List.take_of_length_le (Nat.le_refl _)]
theorem fresh_end (m : Nat) (ls : List (List Int)) (i : Nat) (h : i < (champs m ls).length) : freshB ((champs m ls).getD i 0) ((champs m ls).take i) ls ls.length = true := by
  obtain ⟨l, hl, h1, h2⟩ := champs_fresh m ls i h
  unfold freshB
  rw [List.take_of_length_le (Nat.le_refl _), List.any_eq_true]
  refine ⟨l, hl, ?_⟩
  unfold goodB
  rw [show (champs m ls).getD i 0 = (champs m ls)[i] from by simp [h], decide_eq_true h1, Bool.true_and]
  simp only [Bool.not_eq_true']
  rw [List.any_eq_false]
  intro y hy
  simp only [decide_eq_true_eq]
  exact fun hp => h2 y hp hy
set_option maxHeartbeats 8000000 in
set_option maxRecDepth 100000 in
theorem champions_calls (A : Option Addr) (k c : Nat) (ds : List Ds) (most : Int) (w : World) (h : LsC w A k ds) :
    Calls Try.prog 3 #[.slice A k c, .int .i64 most] w fun e w' => e = .returned (.bool true) ∧ Below w.heap.size w w' := by
  have HFW := Aside0.mk (few_calls A k c ds w h)
  have HTO := Aside0.mk (few_told h)
  have hl5 := few_len ds
  obtain ⟨d5, hd5⟩ : ∃ d5, d5 = fewD ds := ⟨_, rfl⟩
  rw [← hd5] at HFW HTO hl5
  obtain ⟨f, hf⟩ : ∃ f, f = rdL w := ⟨_, rfl⟩
  rw [← hf] at HTO
  obtain ⟨M, hM⟩ : ∃ M, M = (min most 8).toNat := ⟨_, rfl⟩
  have HP := Aside0.mk (fun (A : Option Addr) (cc : Nat) (W : World) (hC : dSl.C W A d5.length d5) (hW : Below w.heap.size w W) => champs_calls A d5.length cc d5 f most W hC (HTO.out.below hW (Nat.le_refl _)) hl5)
  have HR := Aside0.mk (fun (A : Option Addr) (cc : Nat) (W : World) (hC : dSl.C W A d5.length d5) (hW : Below w.heap.size w W) => rchamps_calls A d5.length cc d5 f most W hC (HTO.out.below hW (Nat.le_refl _)) hl5)
  have HL := Aside0.mk (fun W => live_calls W)
  rw [← hM] at HP HR
  have HFE := Aside0.mk (fresh_end M (d5.map f))
  have hcl := champs_len M (d5.map f)
  have hM8 : M ≤ 8 := by omega
  obtain ⟨cs, hcs⟩ : ∃ cs, cs = champs M (d5.map f) := ⟨_, rfl⟩
  rw [← hcs] at HP HR HFE hcl
  clear hM hcs h hd5 hf
  go_enter Try.func3, Try.ntmps3
  go_wp2_with (first
    | (go_at_call 9; (with_reducible refine (HFW.out).mono ?_); rintro e w' ⟨v5, rfl, ho5, hb5⟩; obtain ⟨A5, c5, rfl, hc5, hr5⟩ := Kd.R_reads ho5; have HC5 := Aside0.mk hr5; have HB5 := Aside0.mk hb5; clear ho5 hr5 hb5)
    | (go_at_call 10; (with_reducible refine (HP.out A5 c5 _ HC5.out HB5.out).mono ?_); rintro e w' ⟨v6, rfl, ho6, hb6⟩; obtain ⟨A6, c6, rfl, hc6, hr6⟩ := Kd.R_reads ho6; have HC6 := Aside0.mk hr6; have HB6 := Aside0.mk (below_then HB5.out HB5.out.size hb6); have HC56 := Aside0.mk (Kd.C_below HC5.out hb6); clear ho6 hr6 hb6)
    | (go_at_call 11; (with_reducible refine (HR.out A5 c5 _ HC56.out HB6.out).mono ?_); rintro e w' ⟨v7, rfl, ho7, hb7⟩; obtain ⟨A7, c7, rfl, hc7, hr7⟩ := Kd.R_reads ho7; have HC7 := Aside0.mk hr7; have HB7 := Aside0.mk (below_then HB6.out HB6.out.size hb7); have HC57 := Aside0.mk (Kd.C_below HC56.out hb7); have HC67 := Aside0.mk (Kd.C_below HC6.out hb7); clear ho7 hr7 hb7))
  obtain ⟨w7, rfl⟩ : ∃ X : World, X = w' := ⟨_, rfl⟩
  clear HFW HP HR HC5 HC6 HC56 HB5 HB6
  have HT7 := Aside0.mk (HTO.out.below HB7.out (Nat.le_refl _))
  have hcs8 : cs.length ≤ 8 := by omega
  go_loopg [8] (cs.length + 1) (fun gk v8 wr => ∃ i : Nat, v8 = .int .i64 i ∧ i ≤ cs.length ∧ Aside0 (gk = cs.length - i + 1) ∧ Aside0 (Below w7.heap.size w7 wr))
  case atStart => exact ⟨0, rfl, Nat.zero_le _, ⟨rfl⟩, ⟨Below.refl _ _⟩⟩
  case round =>
    obtain ⟨i, rfl, hi, HGI, HBI⟩ := hrel
    obtain ⟨wi, rfl⟩ : ∃ X : World, X = wr := ⟨_, rfl⟩
    by_cases hil : i < cs.length
    · have hi1 : decide ((i : Int) < (cs.length : Int)) = true := by simp; omega
      have hp1 : (0 : Int) ≤ (i : Int) := by omega
      have hp2 : (i : Int) < (cs.length : Int) := by omega
      obtain ⟨ad6, rfl, q6⟩ := Kd.at_int HC67.out (i : Int) hp1 hp2
      obtain ⟨ad7, rfl, q7⟩ := Kd.at_int HC7.out (i : Int) hp1 hp2
      rw [Int.toNat_natCast] at q6 q7
      have hrd : rd cs (i : Int) = cs.getD i 0 := by unfold rd; rw [Int.toNat_natCast]
      rw [hrd] at q6 q7
      have HFI := Aside0.mk (HFE.out i hil)
      have HPV : Aside0 (∀ h, h < i → (cs.take i).getD h 0 = cs.getD h 0) := ⟨fun h hh => by
        rw [List.getD_eq_getElem?_getD, List.getElem?_take_of_lt hh, ← List.getD_eq_getElem?_getD]⟩
      have HPL : Aside0 ((cs.take i).length = i) := ⟨by rw [List.length_take]; omega⟩
      have HQ6 := Aside0.mk (fun (W : World) (hW : Below w7.heap.size w7 W) => (hW.cell (p := ad6.add i) (World.block_lt_of_cell? _ _ q6)).trans q6)
      have HQH := Aside0.mk (fun (h : Nat) (hh : h < i) (W : World) (hW : Below w7.heap.size w7 W) => show W.cell? (ad6.add h) = some (.int .i64 ((cs.take i).getD h 0)) from by
        obtain ⟨ad6', e6, q⟩ := Kd.at_int HC67.out (h : Int) (by omega) (by omega)
        injection e6 with e6
        subst e6
        rw [Int.toNat_natCast, show rd cs (h : Int) = cs.getD h 0 by unfold rd; rw [Int.toNat_natCast], ← HPV.out h hh] at q
        exact (hW.cell (p := ad6.add h) (World.block_lt_of_cell? _ _ q)).trans q)
      have q6i := HQ6.out wi HBI.out
      have q7i := (HBI.out.cell (p := ad7.add i) (World.block_lt_of_cell? _ _ q7)).trans q7
      clear q6 q7 hrd HPV
      generalize cs.getD i 0 = x at *
      generalize cs.take i = prev at *
      go_wp2_with fail
      (refine Hd.startE (S := (fun X => X.cell? (ad6.add i) = some (.int .i64 x) ∧ X.cell? (ad7.add i) = some (.int .i64 x))) 1000 (by kernel_rfl) (⟨q6i, q7i⟩) (fun hHeld => ?_))
      (refine Hd.takeE (i := 0) (v := ?_) rfl rfl (by kernel_rfl) (by kernel_rfl) (by kernel_rfl) (by kernel_rfl) (fun _ _ _ h => h) (Or.inl ⟨by rfl, ?_⟩) (by assumption) ?_; rotate_left; (focus (intro wS hS; (try go_split_ands); go_simp; all_goals (with_reducible rfl))); simp only [List.set_cons_zero, List.set_cons_succ, List.setIfInBounds_toArray]); (refine Hd.takeE (i := 1) (v := ?_) rfl rfl (by kernel_rfl) (by kernel_rfl) (by kernel_rfl) (by kernel_rfl) (fun _ _ _ h => h) (Or.inl ⟨by rfl, ?_⟩) (by assumption) ?_; rotate_left; (focus (intro wS hS; (try go_split_ands); go_simp; all_goals (with_reducible rfl))); simp only [List.set_cons_zero, List.set_cons_succ, List.setIfInBounds_toArray]); (refine Hd.takeE (i := 2) (v := ?_) rfl rfl (by kernel_rfl) (by kernel_rfl) (by kernel_rfl) (by kernel_rfl) (fun _ _ _ h => h) (Or.inl ⟨by rfl, ?_⟩) (by assumption) ?_; rotate_left; (focus (intro wS hS; (try go_split_ands); go_simp; all_goals (with_reducible rfl))); simp only [List.set_cons_zero, List.set_cons_succ, List.setIfInBounds_toArray]); (refine Hd.takeE (i := 3) (v := ?_) rfl rfl (by kernel_rfl) (by kernel_rfl) (by kernel_rfl) (by kernel_rfl) (fun _ _ _ h => h) (Or.inl ⟨by rfl, ?_⟩) (by assumption) ?_; rotate_left; (focus (intro wS hS; (try go_split_ands); go_simp; all_goals (with_reducible rfl))); simp only [List.set_cons_zero, List.set_cons_succ, List.setIfInBounds_toArray]); (refine Hd.takeE (i := 4) (v := ?_) rfl rfl (by kernel_rfl) (by kernel_rfl) (by kernel_rfl) (by kernel_rfl) (fun _ _ _ h => h) (Or.inl ⟨by rfl, ?_⟩) (by assumption) ?_; rotate_left; (focus (intro wS hS; (try go_split_ands); go_simp; all_goals (with_reducible rfl))); simp only [List.set_cons_zero, List.set_cons_succ, List.setIfInBounds_toArray]); (refine Hd.takeE (i := 5) (v := ?_) rfl rfl (by kernel_rfl) (by kernel_rfl) (by kernel_rfl) (by kernel_rfl) (fun _ _ _ h => h) (Or.inl ⟨by rfl, ?_⟩) (by assumption) ?_; rotate_left; (focus (intro wS hS; (try go_split_ands); go_simp; all_goals (with_reducible rfl))); simp only [List.set_cons_zero, List.set_cons_succ, List.setIfInBounds_toArray]); (refine Hd.takeE (i := 6) (v := ?_) rfl rfl (by kernel_rfl) (by kernel_rfl) (by kernel_rfl) (by kernel_rfl) (fun _ _ _ h => h) (Or.inl ⟨by rfl, ?_⟩) (by assumption) ?_; rotate_left; (focus (intro wS hS; (try go_split_ands); go_simp; all_goals (with_reducible rfl))); simp only [List.set_cons_zero, List.set_cons_succ, List.setIfInBounds_toArray]); (refine Hd.takeE (i := 7) (v := ?_) rfl rfl (by kernel_rfl) (by kernel_rfl) (by kernel_rfl) (by kernel_rfl) (fun _ _ _ h => h) (Or.inl ⟨by rfl, ?_⟩) (by assumption) ?_; rotate_left; (focus (intro wS hS; (try go_split_ands); go_simp; all_goals (with_reducible rfl))); simp only [List.set_cons_zero, List.set_cons_succ, List.setIfInBounds_toArray]); (refine Hd.takeE (i := 8) (v := ?_) rfl rfl (by kernel_rfl) (by kernel_rfl) (by kernel_rfl) (by kernel_rfl) (fun _ _ _ h => h) (Or.inl ⟨by rfl, ?_⟩) (by assumption) ?_; rotate_left; (focus (intro wS hS; (try go_split_ands); go_simp; all_goals (with_reducible rfl))); simp only [List.set_cons_zero, List.set_cons_succ, List.setIfInBounds_toArray])
      (refine Hd.endE (by kernel_rfl) ?_ _)
      clear q6i q7i
      go_wp2
      have HBI0 := Aside0.mk (below_drew1 HBI.out)
      clear HBI hHeld
      go_loopg [9, 10] (d5.length + 1) (fun gi v9 v10 wk => ∃ q : Nat, v10 = .int .i64 q ∧ v9 = .bool (freshB x prev (d5.map f) q) ∧ q ≤ d5.length ∧ Aside0 (gi = d5.length - q + 1) ∧ Aside0 (Below w7.heap.size w7 wk))
      case atStart => exact ⟨0, rfl, rfl, Nat.zero_le _, ⟨rfl⟩, HBI0⟩
      case round =>
        obtain ⟨q, rfl, rfl, hq, HGQ, HBQ⟩ := hrel
        obtain ⟨wk, rfl⟩ : ∃ X : World, X = wr := ⟨_, rfl⟩
        by_cases hql : q < d5.length
        · have hq1 : decide ((q : Int) < (d5.length : Int)) = true := by simp; omega
          have hr1 : (0 : Int) ≤ (q : Int) := by omega
          have hr2 : (q : Int) < (d5.length : Int) := by omega
          obtain ⟨ad5, rfl, hc5⟩ := at_sl HC57.out q hql
          have HQ5 := Aside0.mk (fun (W : World) (hW : Below w7.heap.size w7 W) => (hW.cell (p := ad5.add q) (World.block_lt_of_cell? _ _ hc5)).trans hc5)
          have hdm : d5.getD q default ∈ d5 := by
            rw [show d5.getD q default = d5[q]'(by omega) from by simp [show q < d5.length by omega]]
            exact List.getElem_mem _
          have HTD := Aside0.mk (HT7.out _ hdm)
          have HFS := Aside0.mk (fresh_step x prev (d5.map f) q (by simpa using hql))
          have hgl : (d5.map f).getD q [] = f (d5.getD q default) := by simp [hql]
          rw [hgl] at HFS
          clear hc5 hdm hgl
          generalize d5.getD q default = d at *
          generalize f d = l at *
          have hll : l.length = d.n := HTD.out.row.1
          have hn12 := HTD.out.few
          have HRW := Aside0.mk HTD.out.row
          have HGD := Aside0.mk (good_is x prev l d.n hll.symm)
          clear HTD
          generalize d.a = da at *
          generalize d.n = dn at *
          generalize d.c = dc at *
          go_wp2
          go_loopg [11, 12, 13] (dn + 1) (fun gj v11 v12 v13 wj => ∃ j : Nat, v13 = .int .i64 j ∧ v11 = .bool (mineB x l j) ∧ v12 = .bool (theirB prev l j) ∧ j ≤ dn ∧ Aside0 (gj = dn - j + 1) ∧ Aside0 (Below w7.heap.size w7 wj))
          case atStart => exact ⟨0, rfl, rfl, rfl, Nat.zero_le _, ⟨rfl⟩, HBQ⟩
          case round =>
            clear HBQ
            obtain ⟨j, rfl, rfl, rfl, hj, HGJ, HBJ⟩ := hrel
            obtain ⟨wj, rfl⟩ : ∃ X : World, X = wr := ⟨_, rfl⟩
            have hc5 := HQ5.out wj HBJ.out
            by_cases hjl : j < dn
            ·
              have hj1 : decide ((j : Int) < (dn : Int)) = true := by simp; omega
              have hj2 : (0 : Int) ≤ (j : Int) := by omega
              have hj3 : (j : Int) < (dn : Int) := by omega
              obtain ⟨ad2, rfl, hcy⟩ := Kd.at_int HRW.out (j : Int) hj2 hj3
              rw [Int.toNat_natCast] at hcy
              have hx : rd l (j : Int) = l.getD j 0 := by unfold rd; rw [Int.toNat_natCast]
              rw [hx] at hcy
              have hms := mine_step x l j (by omega)
              have HTS := Aside0.mk (their_step prev l j (by omega))
              generalize l.getD j 0 = y at *
              have HQY := Aside0.mk (fun (W : World) (hW : Below w7.heap.size w7 W) => (hW.cell (p := ad2.add j) (World.block_lt_of_cell? _ _ hcy)).trans hcy)
              have hcyj := HQY.out wj HBJ.out
              have hc6 := HQ6.out wj HBJ.out
              clear hx hcy
              cases hmb : mineB x l j with
              | true =>
                have HMS := Aside0.mk (show mineB x l (j + 1) = true by rw [hms, hmb]; rfl)
                clear hms hmb hcyj hc6
                go_wp2_with fail
                (refine Hd.startE (S := (fun X => True)) 1000 (by kernel_rfl) (trivial) (fun hHeld => ?_))
                (refine Hd.takeE (i := 0) (v := ?_) rfl rfl (by kernel_rfl) (by kernel_rfl) (by kernel_rfl) (by kernel_rfl) (fun _ _ _ h => h) (Or.inl ⟨by rfl, ?_⟩) (by assumption) ?_; rotate_left; (focus (intro wS hS; (try go_split_ands); go_simp; all_goals (with_reducible rfl))); simp only [List.set_cons_zero, List.set_cons_succ, List.setIfInBounds_toArray]); (refine Hd.takeE (i := 1) (v := ?_) rfl rfl (by kernel_rfl) (by kernel_rfl) (by kernel_rfl) (by kernel_rfl) (fun _ _ _ h => h) (Or.inl ⟨by rfl, ?_⟩) (by assumption) ?_; rotate_left; (focus (intro wS hS; (try go_split_ands); go_simp; all_goals (with_reducible rfl))); simp only [List.set_cons_zero, List.set_cons_succ, List.setIfInBounds_toArray])
                (refine Hd.takeE (i := 2) (v := undef) rfl rfl (by kernel_rfl) (by kernel_rfl) (by kernel_rfl) (by kernel_rfl) (fun _ _ _ h => h) (Or.inr ⟨by rfl, rfl⟩) (by assumption) ?_; simp only [List.set_cons_zero, List.set_cons_succ, List.setIfInBounds_toArray]); (refine Hd.takeE (i := 3) (v := undef) rfl rfl (by kernel_rfl) (by kernel_rfl) (by kernel_rfl) (by kernel_rfl) (fun _ _ _ h => h) (Or.inr ⟨by rfl, rfl⟩) (by assumption) ?_; simp only [List.set_cons_zero, List.set_cons_succ, List.setIfInBounds_toArray]); (refine Hd.takeE (i := 4) (v := undef) rfl rfl (by kernel_rfl) (by kernel_rfl) (by kernel_rfl) (by kernel_rfl) (fun _ _ _ h => h) (Or.inr ⟨by rfl, rfl⟩) (by assumption) ?_; simp only [List.set_cons_zero, List.set_cons_succ, List.setIfInBounds_toArray]); (refine Hd.takeE (i := 5) (v := undef) rfl rfl (by kernel_rfl) (by kernel_rfl) (by kernel_rfl) (by kernel_rfl) (fun _ _ _ h => h) (Or.inr ⟨by rfl, rfl⟩) (by assumption) ?_; simp only [List.set_cons_zero, List.set_cons_succ, List.setIfInBounds_toArray]); (refine Hd.takeE (i := 6) (v := undef) rfl rfl (by kernel_rfl) (by kernel_rfl) (by kernel_rfl) (by kernel_rfl) (fun _ _ _ h => h) (Or.inr ⟨by rfl, rfl⟩) (by assumption) ?_; simp only [List.set_cons_zero, List.set_cons_succ, List.setIfInBounds_toArray]); (refine Hd.takeE (i := 7) (v := undef) rfl rfl (by kernel_rfl) (by kernel_rfl) (by kernel_rfl) (by kernel_rfl) (fun _ _ _ h => h) (Or.inr ⟨by rfl, rfl⟩) (by assumption) ?_; simp only [List.set_cons_zero, List.set_cons_succ, List.setIfInBounds_toArray]); (refine Hd.takeE (i := 8) (v := undef) rfl rfl (by kernel_rfl) (by kernel_rfl) (by kernel_rfl) (by kernel_rfl) (fun _ _ _ h => h) (Or.inr ⟨by rfl, rfl⟩) (by assumption) ?_; simp only [List.set_cons_zero, List.set_cons_succ, List.setIfInBounds_toArray]); (refine Hd.takeE (i := 9) (v := undef) rfl rfl (by kernel_rfl) (by kernel_rfl) (by kernel_rfl) (by kernel_rfl) (fun _ _ _ h => h) (Or.inr ⟨by rfl, rfl⟩) (by assumption) ?_; simp only [List.set_cons_zero, List.set_cons_succ, List.setIfInBounds_toArray]); (refine Hd.takeE (i := 10) (v := undef) rfl rfl (by kernel_rfl) (by kernel_rfl) (by kernel_rfl) (by kernel_rfl) (fun _ _ _ h => h) (Or.inr ⟨by rfl, rfl⟩) (by assumption) ?_; simp only [List.set_cons_zero, List.set_cons_succ, List.setIfInBounds_toArray]); (refine Hd.takeE (i := 11) (v := undef) rfl rfl (by kernel_rfl) (by kernel_rfl) (by kernel_rfl) (by kernel_rfl) (fun _ _ _ h => h) (Or.inr ⟨by rfl, rfl⟩) (by assumption) ?_; simp only [List.set_cons_zero, List.set_cons_succ, List.setIfInBounds_toArray]); (refine Hd.takeE (i := 12) (v := undef) rfl rfl (by kernel_rfl) (by kernel_rfl) (by kernel_rfl) (by kernel_rfl) (fun _ _ _ h => h) (Or.inr ⟨by rfl, rfl⟩) (by assumption) ?_; simp only [List.set_cons_zero, List.set_cons_succ, List.setIfInBounds_toArray]); (refine Hd.takeE (i := 13) (v := undef) rfl rfl (by kernel_rfl) (by kernel_rfl) (by kernel_rfl) (by kernel_rfl) (fun _ _ _ h => h) (Or.inr ⟨by rfl, rfl⟩) (by assumption) ?_; simp only [List.set_cons_zero, List.set_cons_succ, List.setIfInBounds_toArray])
                (refine Hd.takeE (i := 14) (v := ?_) rfl rfl (by kernel_rfl) (by kernel_rfl) (by kernel_rfl) (by kernel_rfl) (fun _ _ _ h => h) (Or.inl ⟨by rfl, ?_⟩) (by assumption) ?_; rotate_left; (focus (intro wS hS; (try go_split_ands); go_simp; all_goals (with_reducible rfl))); simp only [List.set_cons_zero, List.set_cons_succ, List.setIfInBounds_toArray]); (refine Hd.takeE (i := 15) (v := ?_) rfl rfl (by kernel_rfl) (by kernel_rfl) (by kernel_rfl) (by kernel_rfl) (fun _ _ _ h => h) (Or.inl ⟨by rfl, ?_⟩) (by assumption) ?_; rotate_left; (focus (intro wS hS; (try go_split_ands); go_simp; all_goals (with_reducible rfl))); simp only [List.set_cons_zero, List.set_cons_succ, List.setIfInBounds_toArray])
                (refine Hd.endE (by kernel_rfl) ?_ _)
                go_wp2
                go_loopg [12, 14] (i + 1) (fun gh v12 v14 wh => ∃ h : Nat, v14 = .int .i64 h ∧ v12 = .bool (theirB prev l j || decide (y ∈ prev.take h)) ∧ h ≤ i ∧ Aside0 (gh = i - h + 1) ∧ Aside0 (Below w7.heap.size w7 wh))
                case atStart => exact ⟨0, rfl, by simp, Nat.zero_le _, ⟨rfl⟩, ⟨below_drew1 HBJ.out⟩⟩
                case round =>
                  obtain ⟨h, rfl, rfl, hh, HGH, HBH⟩ := hrel
                  obtain ⟨wh, rfl⟩ : ∃ X : World, X = wr := ⟨_, rfl⟩
                  by_cases hhl : h < i
                  · have hh1 : decide ((h : Int) < (i : Int)) = true := by simp; omega
                    have hs1 : (0 : Int) ≤ (h : Int) := by omega
                    have hs2 : (h : Int) < (cs.length : Int) := by omega
                    have e5 := HQ5.out wh HBH.out
                    have ey := HQY.out wh HBH.out
                    have e6 := HQH.out h hhl wh HBH.out
                    have HIS := Aside0.mk (show (theirB prev l j || decide (y ∈ prev.take (h + 1))) = ((theirB prev l j || decide (y ∈ prev.take h)) || (y == prev.getD h 0)) by
                      rw [in_step y prev h (by rw [HPL.out]; exact hhl), Bool.or_assoc])
                    generalize prev.getD h 0 = z at *
                    generalize (theirB prev l j || decide (y ∈ prev.take h)) = tb at *
                    cases tb with
                    | true =>
                      have HIT := Aside0.mk (show (theirB prev l j || decide (y ∈ prev.take (h + 1))) = true by rw [HIS.out]; rfl)
                      clear HIS e5 ey e6
                      go_wp2_with fail
                      (refine Hd.startE (S := (fun X => True)) 1000 (by kernel_rfl) (trivial) (fun hHeld => ?_))
                      (refine Hd.takeE (i := 0) (v := ?_) rfl rfl (by kernel_rfl) (by kernel_rfl) (by kernel_rfl) (by kernel_rfl) (fun _ _ _ h => h) (Or.inl ⟨by rfl, ?_⟩) (by assumption) ?_; rotate_left; (focus (intro wS hS; (try go_split_ands); go_simp; all_goals (with_reducible rfl))); simp only [List.set_cons_zero, List.set_cons_succ, List.setIfInBounds_toArray]); (refine Hd.takeE (i := 1) (v := ?_) rfl rfl (by kernel_rfl) (by kernel_rfl) (by kernel_rfl) (by kernel_rfl) (fun _ _ _ h => h) (Or.inl ⟨by rfl, ?_⟩) (by assumption) ?_; rotate_left; (focus (intro wS hS; (try go_split_ands); go_simp; all_goals (with_reducible rfl))); simp only [List.set_cons_zero, List.set_cons_succ, List.setIfInBounds_toArray])
                      (refine Hd.takeE (i := 2) (v := undef) rfl rfl (by kernel_rfl) (by kernel_rfl) (by kernel_rfl) (by kernel_rfl) (fun _ _ _ h => h) (Or.inr ⟨by rfl, rfl⟩) (by assumption) ?_; simp only [List.set_cons_zero, List.set_cons_succ, List.setIfInBounds_toArray]); (refine Hd.takeE (i := 3) (v := undef) rfl rfl (by kernel_rfl) (by kernel_rfl) (by kernel_rfl) (by kernel_rfl) (fun _ _ _ h => h) (Or.inr ⟨by rfl, rfl⟩) (by assumption) ?_; simp only [List.set_cons_zero, List.set_cons_succ, List.setIfInBounds_toArray]); (refine Hd.takeE (i := 4) (v := undef) rfl rfl (by kernel_rfl) (by kernel_rfl) (by kernel_rfl) (by kernel_rfl) (fun _ _ _ h => h) (Or.inr ⟨by rfl, rfl⟩) (by assumption) ?_; simp only [List.set_cons_zero, List.set_cons_succ, List.setIfInBounds_toArray]); (refine Hd.takeE (i := 5) (v := undef) rfl rfl (by kernel_rfl) (by kernel_rfl) (by kernel_rfl) (by kernel_rfl) (fun _ _ _ h => h) (Or.inr ⟨by rfl, rfl⟩) (by assumption) ?_; simp only [List.set_cons_zero, List.set_cons_succ, List.setIfInBounds_toArray]); (refine Hd.takeE (i := 6) (v := undef) rfl rfl (by kernel_rfl) (by kernel_rfl) (by kernel_rfl) (by kernel_rfl) (fun _ _ _ h => h) (Or.inr ⟨by rfl, rfl⟩) (by assumption) ?_; simp only [List.set_cons_zero, List.set_cons_succ, List.setIfInBounds_toArray]); (refine Hd.takeE (i := 7) (v := undef) rfl rfl (by kernel_rfl) (by kernel_rfl) (by kernel_rfl) (by kernel_rfl) (fun _ _ _ h => h) (Or.inr ⟨by rfl, rfl⟩) (by assumption) ?_; simp only [List.set_cons_zero, List.set_cons_succ, List.setIfInBounds_toArray]); (refine Hd.takeE (i := 8) (v := undef) rfl rfl (by kernel_rfl) (by kernel_rfl) (by kernel_rfl) (by kernel_rfl) (fun _ _ _ h => h) (Or.inr ⟨by rfl, rfl⟩) (by assumption) ?_; simp only [List.set_cons_zero, List.set_cons_succ, List.setIfInBounds_toArray]); (refine Hd.takeE (i := 9) (v := undef) rfl rfl (by kernel_rfl) (by kernel_rfl) (by kernel_rfl) (by kernel_rfl) (fun _ _ _ h => h) (Or.inr ⟨by rfl, rfl⟩) (by assumption) ?_; simp only [List.set_cons_zero, List.set_cons_succ, List.setIfInBounds_toArray]); (refine Hd.takeE (i := 10) (v := undef) rfl rfl (by kernel_rfl) (by kernel_rfl) (by kernel_rfl) (by kernel_rfl) (fun _ _ _ h => h) (Or.inr ⟨by rfl, rfl⟩) (by assumption) ?_; simp only [List.set_cons_zero, List.set_cons_succ, List.setIfInBounds_toArray]); (refine Hd.takeE (i := 11) (v := undef) rfl rfl (by kernel_rfl) (by kernel_rfl) (by kernel_rfl) (by kernel_rfl) (fun _ _ _ h => h) (Or.inr ⟨by rfl, rfl⟩) (by assumption) ?_; simp only [List.set_cons_zero, List.set_cons_succ, List.setIfInBounds_toArray]); (refine Hd.takeE (i := 12) (v := undef) rfl rfl (by kernel_rfl) (by kernel_rfl) (by kernel_rfl) (by kernel_rfl) (fun _ _ _ h => h) (Or.inr ⟨by rfl, rfl⟩) (by assumption) ?_; simp only [List.set_cons_zero, List.set_cons_succ, List.setIfInBounds_toArray]); (refine Hd.takeE (i := 13) (v := undef) rfl rfl (by kernel_rfl) (by kernel_rfl) (by kernel_rfl) (by kernel_rfl) (fun _ _ _ h => h) (Or.inr ⟨by rfl, rfl⟩) (by assumption) ?_; simp only [List.set_cons_zero, List.set_cons_succ, List.setIfInBounds_toArray])
                      (refine Hd.takeE (i := 14) (v := ?_) rfl rfl (by kernel_rfl) (by kernel_rfl) (by kernel_rfl) (by kernel_rfl) (fun _ _ _ h => h) (Or.inl ⟨by rfl, ?_⟩) (by assumption) ?_; rotate_left; (focus (intro wS hS; (try go_split_ands); go_simp; all_goals (with_reducible rfl))); simp only [List.set_cons_zero, List.set_cons_succ, List.setIfInBounds_toArray]); (refine Hd.takeE (i := 15) (v := ?_) rfl rfl (by kernel_rfl) (by kernel_rfl) (by kernel_rfl) (by kernel_rfl) (fun _ _ _ h => h) (Or.inl ⟨by rfl, ?_⟩) (by assumption) ?_; rotate_left; (focus (intro wS hS; (try go_split_ands); go_simp; all_goals (with_reducible rfl))); simp only [List.set_cons_zero, List.set_cons_succ, List.setIfInBounds_toArray])
                      (refine Hd.endE (by kernel_rfl) ?_ _)
                      go_wp2
                      go_roundg (i - (h + 1) + 1)
                      case measure => have := HGH.out; omega
                      case rel => exact ⟨h + 1, by go_num, by rw [HIT.out], by omega, ⟨rfl⟩, ⟨below_drew1 HBH.out⟩⟩
                    | false =>
                      have HIT := Aside0.mk (show (theirB prev l j || decide (y ∈ prev.take (h + 1))) = (y == z) by rw [HIS.out]; rfl)
                      clear HIS
                      go_wp2_with fail
                      (refine Hd.startE (S := (fun X => X.cell? (ad5.add q) = some (.slice (some ad2) dn dc) ∧ X.cell? (ad2.add j) = some (.int .i64 y) ∧ X.cell? (ad6.add h) = some (.int .i64 z))) 1000 (by kernel_rfl) (⟨e5, ey, e6⟩) (fun hHeld => ?_))
                      (refine Hd.takeE (i := 0) (v := ?_) rfl rfl (by kernel_rfl) (by kernel_rfl) (by kernel_rfl) (by kernel_rfl) (fun _ _ _ h => h) (Or.inl ⟨by rfl, ?_⟩) (by assumption) ?_; rotate_left; (focus (intro wS hS; (try go_split_ands); go_simp; all_goals (with_reducible rfl))); simp only [List.set_cons_zero, List.set_cons_succ, List.setIfInBounds_toArray]); (refine Hd.takeE (i := 1) (v := ?_) rfl rfl (by kernel_rfl) (by kernel_rfl) (by kernel_rfl) (by kernel_rfl) (fun _ _ _ h => h) (Or.inl ⟨by rfl, ?_⟩) (by assumption) ?_; rotate_left; (focus (intro wS hS; (try go_split_ands); go_simp; all_goals (with_reducible rfl))); simp only [List.set_cons_zero, List.set_cons_succ, List.setIfInBounds_toArray]); (refine Hd.takeE (i := 2) (v := ?_) rfl rfl (by kernel_rfl) (by kernel_rfl) (by kernel_rfl) (by kernel_rfl) (fun _ _ _ h => h) (Or.inl ⟨by rfl, ?_⟩) (by assumption) ?_; rotate_left; (focus (intro wS hS; (try go_split_ands); go_simp; all_goals (with_reducible rfl))); simp only [List.set_cons_zero, List.set_cons_succ, List.setIfInBounds_toArray]); (refine Hd.takeE (i := 3) (v := ?_) rfl rfl (by kernel_rfl) (by kernel_rfl) (by kernel_rfl) (by kernel_rfl) (fun _ _ _ h => h) (Or.inl ⟨by rfl, ?_⟩) (by assumption) ?_; rotate_left; (focus (intro wS hS; (try go_split_ands); go_simp; all_goals (with_reducible rfl))); simp only [List.set_cons_zero, List.set_cons_succ, List.setIfInBounds_toArray]); (refine Hd.takeE (i := 4) (v := ?_) rfl rfl (by kernel_rfl) (by kernel_rfl) (by kernel_rfl) (by kernel_rfl) (fun _ _ _ h => h) (Or.inl ⟨by rfl, ?_⟩) (by assumption) ?_; rotate_left; (focus (intro wS hS; (try go_split_ands); go_simp; all_goals (with_reducible rfl))); simp only [List.set_cons_zero, List.set_cons_succ, List.setIfInBounds_toArray]); (refine Hd.takeE (i := 5) (v := ?_) rfl rfl (by kernel_rfl) (by kernel_rfl) (by kernel_rfl) (by kernel_rfl) (fun _ _ _ h => h) (Or.inl ⟨by rfl, ?_⟩) (by assumption) ?_; rotate_left; (focus (intro wS hS; (try go_split_ands); go_simp; all_goals (with_reducible rfl))); simp only [List.set_cons_zero, List.set_cons_succ, List.setIfInBounds_toArray]); (refine Hd.takeE (i := 6) (v := ?_) rfl rfl (by kernel_rfl) (by kernel_rfl) (by kernel_rfl) (by kernel_rfl) (fun _ _ _ h => h) (Or.inl ⟨by rfl, ?_⟩) (by assumption) ?_; rotate_left; (focus (intro wS hS; (try go_split_ands); go_simp; all_goals (with_reducible rfl))); simp only [List.set_cons_zero, List.set_cons_succ, List.setIfInBounds_toArray]); (refine Hd.takeE (i := 7) (v := ?_) rfl rfl (by kernel_rfl) (by kernel_rfl) (by kernel_rfl) (by kernel_rfl) (fun _ _ _ h => h) (Or.inl ⟨by rfl, ?_⟩) (by assumption) ?_; rotate_left; (focus (intro wS hS; (try go_split_ands); go_simp; all_goals (with_reducible rfl))); simp only [List.set_cons_zero, List.set_cons_succ, List.setIfInBounds_toArray]); (refine Hd.takeE (i := 8) (v := ?_) rfl rfl (by kernel_rfl) (by kernel_rfl) (by kernel_rfl) (by kernel_rfl) (fun _ _ _ h => h) (Or.inl ⟨by rfl, ?_⟩) (by assumption) ?_; rotate_left; (focus (intro wS hS; (try go_split_ands); go_simp; all_goals (with_reducible rfl))); simp only [List.set_cons_zero, List.set_cons_succ, List.setIfInBounds_toArray]); (refine Hd.takeE (i := 9) (v := ?_) rfl rfl (by kernel_rfl) (by kernel_rfl) (by kernel_rfl) (by kernel_rfl) (fun _ _ _ h => h) (Or.inl ⟨by rfl, ?_⟩) (by assumption) ?_; rotate_left; (focus (intro wS hS; (try go_split_ands); go_simp; all_goals (with_reducible rfl))); simp only [List.set_cons_zero, List.set_cons_succ, List.setIfInBounds_toArray]); (refine Hd.takeE (i := 10) (v := ?_) rfl rfl (by kernel_rfl) (by kernel_rfl) (by kernel_rfl) (by kernel_rfl) (fun _ _ _ h => h) (Or.inl ⟨by rfl, ?_⟩) (by assumption) ?_; rotate_left; (focus (intro wS hS; (try go_split_ands); go_simp; all_goals (with_reducible rfl))); simp only [List.set_cons_zero, List.set_cons_succ, List.setIfInBounds_toArray]); (refine Hd.takeE (i := 11) (v := ?_) rfl rfl (by kernel_rfl) (by kernel_rfl) (by kernel_rfl) (by kernel_rfl) (fun _ _ _ h => h) (Or.inl ⟨by rfl, ?_⟩) (by assumption) ?_; rotate_left; (focus (intro wS hS; (try go_split_ands); go_simp; all_goals (with_reducible rfl))); simp only [List.set_cons_zero, List.set_cons_succ, List.setIfInBounds_toArray]); (refine Hd.takeE (i := 12) (v := ?_) rfl rfl (by kernel_rfl) (by kernel_rfl) (by kernel_rfl) (by kernel_rfl) (fun _ _ _ h => h) (Or.inl ⟨by rfl, ?_⟩) (by assumption) ?_; rotate_left; (focus (intro wS hS; (try go_split_ands); go_simp; all_goals (with_reducible rfl))); simp only [List.set_cons_zero, List.set_cons_succ, List.setIfInBounds_toArray]); (refine Hd.takeE (i := 13) (v := ?_) rfl rfl (by kernel_rfl) (by kernel_rfl) (by kernel_rfl) (by kernel_rfl) (fun _ _ _ h => h) (Or.inl ⟨by rfl, ?_⟩) (by assumption) ?_; rotate_left; (focus (intro wS hS; (try go_split_ands); go_simp; all_goals (with_reducible rfl))); simp only [List.set_cons_zero, List.set_cons_succ, List.setIfInBounds_toArray]); (refine Hd.takeE (i := 14) (v := ?_) rfl rfl (by kernel_rfl) (by kernel_rfl) (by kernel_rfl) (by kernel_rfl) (fun _ _ _ h => h) (Or.inl ⟨by rfl, ?_⟩) (by assumption) ?_; rotate_left; (focus (intro wS hS; (try go_split_ands); go_simp; all_goals (with_reducible rfl))); simp only [List.set_cons_zero, List.set_cons_succ, List.setIfInBounds_toArray]); (refine Hd.takeE (i := 15) (v := ?_) rfl rfl (by kernel_rfl) (by kernel_rfl) (by kernel_rfl) (by kernel_rfl) (fun _ _ _ h => h) (Or.inl ⟨by rfl, ?_⟩) (by assumption) ?_; rotate_left; (focus (intro wS hS; (try go_split_ands); go_simp; all_goals (with_reducible rfl))); simp only [List.set_cons_zero, List.set_cons_succ, List.setIfInBounds_toArray])
                      (refine Hd.endE (by kernel_rfl) ?_ _)
                      clear e5 ey e6
                      go_wp2
                      go_roundg (i - (h + 1) + 1)
                      case measure => have := HGH.out; omega
                      case rel => exact ⟨h + 1, by go_num, by rw [HIT.out], by omega, ⟨rfl⟩, ⟨below_drew1 HBH.out⟩⟩
                  · obtain rfl : h = i := by omega
                    have hh1 : decide ((h : Int) < (h : Int)) = false := by simp
                    have HEN := Aside0.mk (show (theirB prev l j || decide (y ∈ prev.take h)) = theirB prev l (j + 1) by rw [HTS.out, List.take_of_length_le (Nat.le_of_eq HPL.out)])
                    generalize (theirB prev l j || decide (y ∈ prev.take h)) = tb at *
                    go_wp2
                    go_roundg (dn - (j + 1) + 1)
                    case measure => have := HGJ.out; omega
                    case rel => exact ⟨j + 1, by go_num, by rw [HMS.out], by rw [HEN.out], by omega, ⟨rfl⟩, HBH⟩
              | false =>
                have HMS := Aside0.mk (show mineB x l (j + 1) = (y == x) by rw [hms, hmb]; rfl)
                clear hms hmb
                go_wp2_with fail
                (refine Hd.startE (S := (fun X => X.cell? (ad5.add q) = some (.slice (some ad2) dn dc) ∧ X.cell? (ad2.add j) = some (.int .i64 y) ∧ X.cell? (ad6.add i) = some (.int .i64 x))) 1000 (by kernel_rfl) (⟨hc5, hcyj, hc6⟩) (fun hHeld => ?_))
                (refine Hd.takeE (i := 0) (v := ?_) rfl rfl (by kernel_rfl) (by kernel_rfl) (by kernel_rfl) (by kernel_rfl) (fun _ _ _ h => h) (Or.inl ⟨by rfl, ?_⟩) (by assumption) ?_; rotate_left; (focus (intro wS hS; (try go_split_ands); go_simp; all_goals (with_reducible rfl))); simp only [List.set_cons_zero, List.set_cons_succ, List.setIfInBounds_toArray]); (refine Hd.takeE (i := 1) (v := ?_) rfl rfl (by kernel_rfl) (by kernel_rfl) (by kernel_rfl) (by kernel_rfl) (fun _ _ _ h => h) (Or.inl ⟨by rfl, ?_⟩) (by assumption) ?_; rotate_left; (focus (intro wS hS; (try go_split_ands); go_simp; all_goals (with_reducible rfl))); simp only [List.set_cons_zero, List.set_cons_succ, List.setIfInBounds_toArray]); (refine Hd.takeE (i := 2) (v := ?_) rfl rfl (by kernel_rfl) (by kernel_rfl) (by kernel_rfl) (by kernel_rfl) (fun _ _ _ h => h) (Or.inl ⟨by rfl, ?_⟩) (by assumption) ?_; rotate_left; (focus (intro wS hS; (try go_split_ands); go_simp; all_goals (with_reducible rfl))); simp only [List.set_cons_zero, List.set_cons_succ, List.setIfInBounds_toArray]); (refine Hd.takeE (i := 3) (v := ?_) rfl rfl (by kernel_rfl) (by kernel_rfl) (by kernel_rfl) (by kernel_rfl) (fun _ _ _ h => h) (Or.inl ⟨by rfl, ?_⟩) (by assumption) ?_; rotate_left; (focus (intro wS hS; (try go_split_ands); go_simp; all_goals (with_reducible rfl))); simp only [List.set_cons_zero, List.set_cons_succ, List.setIfInBounds_toArray]); (refine Hd.takeE (i := 4) (v := ?_) rfl rfl (by kernel_rfl) (by kernel_rfl) (by kernel_rfl) (by kernel_rfl) (fun _ _ _ h => h) (Or.inl ⟨by rfl, ?_⟩) (by assumption) ?_; rotate_left; (focus (intro wS hS; (try go_split_ands); go_simp; all_goals (with_reducible rfl))); simp only [List.set_cons_zero, List.set_cons_succ, List.setIfInBounds_toArray]); (refine Hd.takeE (i := 5) (v := ?_) rfl rfl (by kernel_rfl) (by kernel_rfl) (by kernel_rfl) (by kernel_rfl) (fun _ _ _ h => h) (Or.inl ⟨by rfl, ?_⟩) (by assumption) ?_; rotate_left; (focus (intro wS hS; (try go_split_ands); go_simp; all_goals (with_reducible rfl))); simp only [List.set_cons_zero, List.set_cons_succ, List.setIfInBounds_toArray]); (refine Hd.takeE (i := 6) (v := ?_) rfl rfl (by kernel_rfl) (by kernel_rfl) (by kernel_rfl) (by kernel_rfl) (fun _ _ _ h => h) (Or.inl ⟨by rfl, ?_⟩) (by assumption) ?_; rotate_left; (focus (intro wS hS; (try go_split_ands); go_simp; all_goals (with_reducible rfl))); simp only [List.set_cons_zero, List.set_cons_succ, List.setIfInBounds_toArray]); (refine Hd.takeE (i := 7) (v := ?_) rfl rfl (by kernel_rfl) (by kernel_rfl) (by kernel_rfl) (by kernel_rfl) (fun _ _ _ h => h) (Or.inl ⟨by rfl, ?_⟩) (by assumption) ?_; rotate_left; (focus (intro wS hS; (try go_split_ands); go_simp; all_goals (with_reducible rfl))); simp only [List.set_cons_zero, List.set_cons_succ, List.setIfInBounds_toArray]); (refine Hd.takeE (i := 8) (v := ?_) rfl rfl (by kernel_rfl) (by kernel_rfl) (by kernel_rfl) (by kernel_rfl) (fun _ _ _ h => h) (Or.inl ⟨by rfl, ?_⟩) (by assumption) ?_; rotate_left; (focus (intro wS hS; (try go_split_ands); go_simp; all_goals (with_reducible rfl))); simp only [List.set_cons_zero, List.set_cons_succ, List.setIfInBounds_toArray]); (refine Hd.takeE (i := 9) (v := ?_) rfl rfl (by kernel_rfl) (by kernel_rfl) (by kernel_rfl) (by kernel_rfl) (fun _ _ _ h => h) (Or.inl ⟨by rfl, ?_⟩) (by assumption) ?_; rotate_left; (focus (intro wS hS; (try go_split_ands); go_simp; all_goals (with_reducible rfl))); simp only [List.set_cons_zero, List.set_cons_succ, List.setIfInBounds_toArray]); (refine Hd.takeE (i := 10) (v := ?_) rfl rfl (by kernel_rfl) (by kernel_rfl) (by kernel_rfl) (by kernel_rfl) (fun _ _ _ h => h) (Or.inl ⟨by rfl, ?_⟩) (by assumption) ?_; rotate_left; (focus (intro wS hS; (try go_split_ands); go_simp; all_goals (with_reducible rfl))); simp only [List.set_cons_zero, List.set_cons_succ, List.setIfInBounds_toArray]); (refine Hd.takeE (i := 11) (v := ?_) rfl rfl (by kernel_rfl) (by kernel_rfl) (by kernel_rfl) (by kernel_rfl) (fun _ _ _ h => h) (Or.inl ⟨by rfl, ?_⟩) (by assumption) ?_; rotate_left; (focus (intro wS hS; (try go_split_ands); go_simp; all_goals (with_reducible rfl))); simp only [List.set_cons_zero, List.set_cons_succ, List.setIfInBounds_toArray]); (refine Hd.takeE (i := 12) (v := ?_) rfl rfl (by kernel_rfl) (by kernel_rfl) (by kernel_rfl) (by kernel_rfl) (fun _ _ _ h => h) (Or.inl ⟨by rfl, ?_⟩) (by assumption) ?_; rotate_left; (focus (intro wS hS; (try go_split_ands); go_simp; all_goals (with_reducible rfl))); simp only [List.set_cons_zero, List.set_cons_succ, List.setIfInBounds_toArray]); (refine Hd.takeE (i := 13) (v := ?_) rfl rfl (by kernel_rfl) (by kernel_rfl) (by kernel_rfl) (by kernel_rfl) (fun _ _ _ h => h) (Or.inl ⟨by rfl, ?_⟩) (by assumption) ?_; rotate_left; (focus (intro wS hS; (try go_split_ands); go_simp; all_goals (with_reducible rfl))); simp only [List.set_cons_zero, List.set_cons_succ, List.setIfInBounds_toArray]); (refine Hd.takeE (i := 14) (v := ?_) rfl rfl (by kernel_rfl) (by kernel_rfl) (by kernel_rfl) (by kernel_rfl) (fun _ _ _ h => h) (Or.inl ⟨by rfl, ?_⟩) (by assumption) ?_; rotate_left; (focus (intro wS hS; (try go_split_ands); go_simp; all_goals (with_reducible rfl))); simp only [List.set_cons_zero, List.set_cons_succ, List.setIfInBounds_toArray]); (refine Hd.takeE (i := 15) (v := ?_) rfl rfl (by kernel_rfl) (by kernel_rfl) (by kernel_rfl) (by kernel_rfl) (fun _ _ _ h => h) (Or.inl ⟨by rfl, ?_⟩) (by assumption) ?_; rotate_left; (focus (intro wS hS; (try go_split_ands); go_simp; all_goals (with_reducible rfl))); simp only [List.set_cons_zero, List.set_cons_succ, List.setIfInBounds_toArray])
                (refine Hd.endE (by kernel_rfl) ?_ _)
                clear hc5 hcyj hc6 hHeld
                go_wp2
                go_loopg [12, 14] (i + 1) (fun gh v12 v14 wh => ∃ h : Nat, v14 = .int .i64 h ∧ v12 = .bool (theirB prev l j || decide (y ∈ prev.take h)) ∧ h ≤ i ∧ Aside0 (gh = i - h + 1) ∧ Aside0 (Below w7.heap.size w7 wh))
                case atStart => exact ⟨0, rfl, by simp, Nat.zero_le _, ⟨rfl⟩, ⟨below_drew1 HBJ.out⟩⟩
                case round =>
                  obtain ⟨h, rfl, rfl, hh, HGH, HBH⟩ := hrel
                  obtain ⟨wh, rfl⟩ : ∃ X : World, X = wr := ⟨_, rfl⟩
                  by_cases hhl : h < i
                  · have hh1 : decide ((h : Int) < (i : Int)) = true := by simp; omega
                    have hs1 : (0 : Int) ≤ (h : Int) := by omega
                    have hs2 : (h : Int) < (cs.length : Int) := by omega
                    have e5 := HQ5.out wh HBH.out
                    have ey := HQY.out wh HBH.out
                    have e6 := HQH.out h hhl wh HBH.out
                    have HIS := Aside0.mk (show (theirB prev l j || decide (y ∈ prev.take (h + 1))) = ((theirB prev l j || decide (y ∈ prev.take h)) || (y == prev.getD h 0)) by
                      rw [in_step y prev h (by rw [HPL.out]; exact hhl), Bool.or_assoc])
                    generalize prev.getD h 0 = z at *
                    generalize (theirB prev l j || decide (y ∈ prev.take h)) = tb at *
                    cases tb with
                    | true =>
                      have HIT := Aside0.mk (show (theirB prev l j || decide (y ∈ prev.take (h + 1))) = true by rw [HIS.out]; rfl)
                      clear HIS e5 ey e6
                      go_wp2_with fail
                      (refine Hd.startE (S := (fun X => True)) 1000 (by kernel_rfl) (trivial) (fun hHeld => ?_))
                      (refine Hd.takeE (i := 0) (v := ?_) rfl rfl (by kernel_rfl) (by kernel_rfl) (by kernel_rfl) (by kernel_rfl) (fun _ _ _ h => h) (Or.inl ⟨by rfl, ?_⟩) (by assumption) ?_; rotate_left; (focus (intro wS hS; (try go_split_ands); go_simp; all_goals (with_reducible rfl))); simp only [List.set_cons_zero, List.set_cons_succ, List.setIfInBounds_toArray]); (refine Hd.takeE (i := 1) (v := ?_) rfl rfl (by kernel_rfl) (by kernel_rfl) (by kernel_rfl) (by kernel_rfl) (fun _ _ _ h => h) (Or.inl ⟨by rfl, ?_⟩) (by assumption) ?_; rotate_left; (focus (intro wS hS; (try go_split_ands); go_simp; all_goals (with_reducible rfl))); simp only [List.set_cons_zero, List.set_cons_succ, List.setIfInBounds_toArray])
                      (refine Hd.takeE (i := 2) (v := undef) rfl rfl (by kernel_rfl) (by kernel_rfl) (by kernel_rfl) (by kernel_rfl) (fun _ _ _ h => h) (Or.inr ⟨by rfl, rfl⟩) (by assumption) ?_; simp only [List.set_cons_zero, List.set_cons_succ, List.setIfInBounds_toArray]); (refine Hd.takeE (i := 3) (v := undef) rfl rfl (by kernel_rfl) (by kernel_rfl) (by kernel_rfl) (by kernel_rfl) (fun _ _ _ h => h) (Or.inr ⟨by rfl, rfl⟩) (by assumption) ?_; simp only [List.set_cons_zero, List.set_cons_succ, List.setIfInBounds_toArray]); (refine Hd.takeE (i := 4) (v := undef) rfl rfl (by kernel_rfl) (by kernel_rfl) (by kernel_rfl) (by kernel_rfl) (fun _ _ _ h => h) (Or.inr ⟨by rfl, rfl⟩) (by assumption) ?_; simp only [List.set_cons_zero, List.set_cons_succ, List.setIfInBounds_toArray]); (refine Hd.takeE (i := 5) (v := undef) rfl rfl (by kernel_rfl) (by kernel_rfl) (by kernel_rfl) (by kernel_rfl) (fun _ _ _ h => h) (Or.inr ⟨by rfl, rfl⟩) (by assumption) ?_; simp only [List.set_cons_zero, List.set_cons_succ, List.setIfInBounds_toArray]); (refine Hd.takeE (i := 6) (v := undef) rfl rfl (by kernel_rfl) (by kernel_rfl) (by kernel_rfl) (by kernel_rfl) (fun _ _ _ h => h) (Or.inr ⟨by rfl, rfl⟩) (by assumption) ?_; simp only [List.set_cons_zero, List.set_cons_succ, List.setIfInBounds_toArray]); (refine Hd.takeE (i := 7) (v := undef) rfl rfl (by kernel_rfl) (by kernel_rfl) (by kernel_rfl) (by kernel_rfl) (fun _ _ _ h => h) (Or.inr ⟨by rfl, rfl⟩) (by assumption) ?_; simp only [List.set_cons_zero, List.set_cons_succ, List.setIfInBounds_toArray]); (refine Hd.takeE (i := 8) (v := undef) rfl rfl (by kernel_rfl) (by kernel_rfl) (by kernel_rfl) (by kernel_rfl) (fun _ _ _ h => h) (Or.inr ⟨by rfl, rfl⟩) (by assumption) ?_; simp only [List.set_cons_zero, List.set_cons_succ, List.setIfInBounds_toArray]); (refine Hd.takeE (i := 9) (v := undef) rfl rfl (by kernel_rfl) (by kernel_rfl) (by kernel_rfl) (by kernel_rfl) (fun _ _ _ h => h) (Or.inr ⟨by rfl, rfl⟩) (by assumption) ?_; simp only [List.set_cons_zero, List.set_cons_succ, List.setIfInBounds_toArray]); (refine Hd.takeE (i := 10) (v := undef) rfl rfl (by kernel_rfl) (by kernel_rfl) (by kernel_rfl) (by kernel_rfl) (fun _ _ _ h => h) (Or.inr ⟨by rfl, rfl⟩) (by assumption) ?_; simp only [List.set_cons_zero, List.set_cons_succ, List.setIfInBounds_toArray]); (refine Hd.takeE (i := 11) (v := undef) rfl rfl (by kernel_rfl) (by kernel_rfl) (by kernel_rfl) (by kernel_rfl) (fun _ _ _ h => h) (Or.inr ⟨by rfl, rfl⟩) (by assumption) ?_; simp only [List.set_cons_zero, List.set_cons_succ, List.setIfInBounds_toArray]); (refine Hd.takeE (i := 12) (v := undef) rfl rfl (by kernel_rfl) (by kernel_rfl) (by kernel_rfl) (by kernel_rfl) (fun _ _ _ h => h) (Or.inr ⟨by rfl, rfl⟩) (by assumption) ?_; simp only [List.set_cons_zero, List.set_cons_succ, List.setIfInBounds_toArray]); (refine Hd.takeE (i := 13) (v := undef) rfl rfl (by kernel_rfl) (by kernel_rfl) (by kernel_rfl) (by kernel_rfl) (fun _ _ _ h => h) (Or.inr ⟨by rfl, rfl⟩) (by assumption) ?_; simp only [List.set_cons_zero, List.set_cons_succ, List.setIfInBounds_toArray])
                      (refine Hd.takeE (i := 14) (v := ?_) rfl rfl (by kernel_rfl) (by kernel_rfl) (by kernel_rfl) (by kernel_rfl) (fun _ _ _ h => h) (Or.inl ⟨by rfl, ?_⟩) (by assumption) ?_; rotate_left; (focus (intro wS hS; (try go_split_ands); go_simp; all_goals (with_reducible rfl))); simp only [List.set_cons_zero, List.set_cons_succ, List.setIfInBounds_toArray]); (refine Hd.takeE (i := 15) (v := ?_) rfl rfl (by kernel_rfl) (by kernel_rfl) (by kernel_rfl) (by kernel_rfl) (fun _ _ _ h => h) (Or.inl ⟨by rfl, ?_⟩) (by assumption) ?_; rotate_left; (focus (intro wS hS; (try go_split_ands); go_simp; all_goals (with_reducible rfl))); simp only [List.set_cons_zero, List.set_cons_succ, List.setIfInBounds_toArray])
                      (refine Hd.endE (by kernel_rfl) ?_ _)
                      go_wp2
                      go_roundg (i - (h + 1) + 1)
                      case measure => have := HGH.out; omega
                      case rel => exact ⟨h + 1, by go_num, by rw [HIT.out], by omega, ⟨rfl⟩, ⟨below_drew1 HBH.out⟩⟩
                    | false =>
                      have HIT := Aside0.mk (show (theirB prev l j || decide (y ∈ prev.take (h + 1))) = (y == z) by rw [HIS.out]; rfl)
                      clear HIS
                      go_wp2_with fail
                      (refine Hd.startE (S := (fun X => X.cell? (ad5.add q) = some (.slice (some ad2) dn dc) ∧ X.cell? (ad2.add j) = some (.int .i64 y) ∧ X.cell? (ad6.add h) = some (.int .i64 z))) 1000 (by kernel_rfl) (⟨e5, ey, e6⟩) (fun hHeld => ?_))
                      (refine Hd.takeE (i := 0) (v := ?_) rfl rfl (by kernel_rfl) (by kernel_rfl) (by kernel_rfl) (by kernel_rfl) (fun _ _ _ h => h) (Or.inl ⟨by rfl, ?_⟩) (by assumption) ?_; rotate_left; (focus (intro wS hS; (try go_split_ands); go_simp; all_goals (with_reducible rfl))); simp only [List.set_cons_zero, List.set_cons_succ, List.setIfInBounds_toArray]); (refine Hd.takeE (i := 1) (v := ?_) rfl rfl (by kernel_rfl) (by kernel_rfl) (by kernel_rfl) (by kernel_rfl) (fun _ _ _ h => h) (Or.inl ⟨by rfl, ?_⟩) (by assumption) ?_; rotate_left; (focus (intro wS hS; (try go_split_ands); go_simp; all_goals (with_reducible rfl))); simp only [List.set_cons_zero, List.set_cons_succ, List.setIfInBounds_toArray]); (refine Hd.takeE (i := 2) (v := ?_) rfl rfl (by kernel_rfl) (by kernel_rfl) (by kernel_rfl) (by kernel_rfl) (fun _ _ _ h => h) (Or.inl ⟨by rfl, ?_⟩) (by assumption) ?_; rotate_left; (focus (intro wS hS; (try go_split_ands); go_simp; all_goals (with_reducible rfl))); simp only [List.set_cons_zero, List.set_cons_succ, List.setIfInBounds_toArray]); (refine Hd.takeE (i := 3) (v := ?_) rfl rfl (by kernel_rfl) (by kernel_rfl) (by kernel_rfl) (by kernel_rfl) (fun _ _ _ h => h) (Or.inl ⟨by rfl, ?_⟩) (by assumption) ?_; rotate_left; (focus (intro wS hS; (try go_split_ands); go_simp; all_goals (with_reducible rfl))); simp only [List.set_cons_zero, List.set_cons_succ, List.setIfInBounds_toArray]); (refine Hd.takeE (i := 4) (v := ?_) rfl rfl (by kernel_rfl) (by kernel_rfl) (by kernel_rfl) (by kernel_rfl) (fun _ _ _ h => h) (Or.inl ⟨by rfl, ?_⟩) (by assumption) ?_; rotate_left; (focus (intro wS hS; (try go_split_ands); go_simp; all_goals (with_reducible rfl))); simp only [List.set_cons_zero, List.set_cons_succ, List.setIfInBounds_toArray]); (refine Hd.takeE (i := 5) (v := ?_) rfl rfl (by kernel_rfl) (by kernel_rfl) (by kernel_rfl) (by kernel_rfl) (fun _ _ _ h => h) (Or.inl ⟨by rfl, ?_⟩) (by assumption) ?_; rotate_left; (focus (intro wS hS; (try go_split_ands); go_simp; all_goals (with_reducible rfl))); simp only [List.set_cons_zero, List.set_cons_succ, List.setIfInBounds_toArray]); (refine Hd.takeE (i := 6) (v := ?_) rfl rfl (by kernel_rfl) (by kernel_rfl) (by kernel_rfl) (by kernel_rfl) (fun _ _ _ h => h) (Or.inl ⟨by rfl, ?_⟩) (by assumption) ?_; rotate_left; (focus (intro wS hS; (try go_split_ands); go_simp; all_goals (with_reducible rfl))); simp only [List.set_cons_zero, List.set_cons_succ, List.setIfInBounds_toArray]); (refine Hd.takeE (i := 7) (v := ?_) rfl rfl (by kernel_rfl) (by kernel_rfl) (by kernel_rfl) (by kernel_rfl) (fun _ _ _ h => h) (Or.inl ⟨by rfl, ?_⟩) (by assumption) ?_; rotate_left; (focus (intro wS hS; (try go_split_ands); go_simp; all_goals (with_reducible rfl))); simp only [List.set_cons_zero, List.set_cons_succ, List.setIfInBounds_toArray]); (refine Hd.takeE (i := 8) (v := ?_) rfl rfl (by kernel_rfl) (by kernel_rfl) (by kernel_rfl) (by kernel_rfl) (fun _ _ _ h => h) (Or.inl ⟨by rfl, ?_⟩) (by assumption) ?_; rotate_left; (focus (intro wS hS; (try go_split_ands); go_simp; all_goals (with_reducible rfl))); simp only [List.set_cons_zero, List.set_cons_succ, List.setIfInBounds_toArray]); (refine Hd.takeE (i := 9) (v := ?_) rfl rfl (by kernel_rfl) (by kernel_rfl) (by kernel_rfl) (by kernel_rfl) (fun _ _ _ h => h) (Or.inl ⟨by rfl, ?_⟩) (by assumption) ?_; rotate_left; (focus (intro wS hS; (try go_split_ands); go_simp; all_goals (with_reducible rfl))); simp only [List.set_cons_zero, List.set_cons_succ, List.setIfInBounds_toArray]); (refine Hd.takeE (i := 10) (v := ?_) rfl rfl (by kernel_rfl) (by kernel_rfl) (by kernel_rfl) (by kernel_rfl) (fun _ _ _ h => h) (Or.inl ⟨by rfl, ?_⟩) (by assumption) ?_; rotate_left; (focus (intro wS hS; (try go_split_ands); go_simp; all_goals (with_reducible rfl))); simp only [List.set_cons_zero, List.set_cons_succ, List.setIfInBounds_toArray]); (refine Hd.takeE (i := 11) (v := ?_) rfl rfl (by kernel_rfl) (by kernel_rfl) (by kernel_rfl) (by kernel_rfl) (fun _ _ _ h => h) (Or.inl ⟨by rfl, ?_⟩) (by assumption) ?_; rotate_left; (focus (intro wS hS; (try go_split_ands); go_simp; all_goals (with_reducible rfl))); simp only [List.set_cons_zero, List.set_cons_succ, List.setIfInBounds_toArray]); (refine Hd.takeE (i := 12) (v := ?_) rfl rfl (by kernel_rfl) (by kernel_rfl) (by kernel_rfl) (by kernel_rfl) (fun _ _ _ h => h) (Or.inl ⟨by rfl, ?_⟩) (by assumption) ?_; rotate_left; (focus (intro wS hS; (try go_split_ands); go_simp; all_goals (with_reducible rfl))); simp only [List.set_cons_zero, List.set_cons_succ, List.setIfInBounds_toArray]); (refine Hd.takeE (i := 13) (v := ?_) rfl rfl (by kernel_rfl) (by kernel_rfl) (by kernel_rfl) (by kernel_rfl) (fun _ _ _ h => h) (Or.inl ⟨by rfl, ?_⟩) (by assumption) ?_; rotate_left; (focus (intro wS hS; (try go_split_ands); go_simp; all_goals (with_reducible rfl))); simp only [List.set_cons_zero, List.set_cons_succ, List.setIfInBounds_toArray]); (refine Hd.takeE (i := 14) (v := ?_) rfl rfl (by kernel_rfl) (by kernel_rfl) (by kernel_rfl) (by kernel_rfl) (fun _ _ _ h => h) (Or.inl ⟨by rfl, ?_⟩) (by assumption) ?_; rotate_left; (focus (intro wS hS; (try go_split_ands); go_simp; all_goals (with_reducible rfl))); simp only [List.set_cons_zero, List.set_cons_succ, List.setIfInBounds_toArray]); (refine Hd.takeE (i := 15) (v := ?_) rfl rfl (by kernel_rfl) (by kernel_rfl) (by kernel_rfl) (by kernel_rfl) (fun _ _ _ h => h) (Or.inl ⟨by rfl, ?_⟩) (by assumption) ?_; rotate_left; (focus (intro wS hS; (try go_split_ands); go_simp; all_goals (with_reducible rfl))); simp only [List.set_cons_zero, List.set_cons_succ, List.setIfInBounds_toArray])
                      (refine Hd.endE (by kernel_rfl) ?_ _)
                      clear e5 ey e6
                      go_wp2
                      go_roundg (i - (h + 1) + 1)
                      case measure => have := HGH.out; omega
                      case rel => exact ⟨h + 1, by go_num, by rw [HIT.out], by omega, ⟨rfl⟩, ⟨below_drew1 HBH.out⟩⟩
                  · obtain rfl : h = i := by omega
                    have hh1 : decide ((h : Int) < (h : Int)) = false := by simp
                    have HEN := Aside0.mk (show (theirB prev l j || decide (y ∈ prev.take h)) = theirB prev l (j + 1) by rw [HTS.out, List.take_of_length_le (Nat.le_of_eq HPL.out)])
                    generalize (theirB prev l j || decide (y ∈ prev.take h)) = tb at *
                    go_wp2
                    go_roundg (dn - (j + 1) + 1)
                    case measure => have := HGJ.out; omega
                    case rel => exact ⟨j + 1, by go_num, by rw [HMS.out], by rw [HEN.out], by omega, ⟨rfl⟩, HBH⟩
            · obtain rfl : j = dn := by omega
              have hj1 : decide ((j : Int) < (j : Int)) = false := by simp
              rw [HGD.out] at HFS
              generalize mineB x l j = mb at *
              generalize theirB prev l j = tb at *
              generalize freshB x prev (d5.map f) q = fb at *
              cases fb <;> cases mb <;> cases tb
              all_goals go_wp2
              all_goals go_roundg (d5.length - (q + 1) + 1)
              all_goals first
                | (have := HGQ.out; omega)
                | exact ⟨q + 1, by go_num, by rw [HFS.out]; rfl, by omega, ⟨rfl⟩, HBJ⟩
        · obtain rfl : q = d5.length := by omega
          have hq1 : decide ((d5.length : Int) < (d5.length : Int)) = false := by simp
          rw [show freshB x prev (d5.map f) d5.length = true from by have := HFI.out; rwa [List.length_map] at this]
          go_wp2
          go_roundg (cs.length - (i + 1) + 1)
          case measure => have := HGI.out; omega
          case rel => exact ⟨i + 1, by go_num, by omega, ⟨rfl⟩, HBQ⟩
    · obtain rfl : i = cs.length := by omega
      have hi1 : decide ((cs.length : Int) < (cs.length : Int)) = false := by simp
      have HB10 := Aside0.mk (below_then HB7.out HB7.out.size HBI.out)
      go_wp2_with (go_at_call 12; (with_reducible refine (HL.out _).mono ?_); rintro e w' ⟨rfl, hb4⟩; have HB11 := Aside0.mk (below_then HB10.out HB10.out.size hb4); clear hb4)
      go_ret
      exact ⟨rfl, HB11.out⟩
end Go.Proofs.Ytkobolgbmfhpgaa.SgL4
