/- A deed that asks, on both caches; condition: they were alike. -/
import Derived.Test.YtocmljijdecilaaCaDq
namespace Go.Proofs.Ytocmljijdecilaa.CaDr
open Go Go.RowKit Go.Proofs.YtocmljijdecilaaW.PrintWords Go.Proofs.Ytocmljijdecilaa.K Go.Proofs.Ytocmljijdecilaa.CaS Go.Proofs.Ytocmljijdecilaa.CaC Go.Proofs.Ytocmljijdecilaa.CaD Go.Proofs.Ytocmljijdecilaa.CaB2 Go.Proofs.Ytocmljijdecilaa.CaO Go.Proofs.Ytocmljijdecilaa.CaP Go.Proofs.Ytocmljijdecilaa.CaQ Go.Proofs.Ytocmljijdecilaa.CaX Go.Proofs.Ytocmljijdecilaa.CaY Go.Proofs.Ytocmljijdecilaa.CaM Go.Proofs.Ytocmljijdecilaa.CaN Go.Proofs.Ytocmljijdecilaa.CaDo Go.Proofs.Ytocmljijdecilaa.CaDp
set_option linter.unusedVariables false
set_option linter.unusedSimpArgs false
def hasN (ys : List Bn) (b : Int) : Bool := ys.any (fun p => decide (p.1 = b))
theorem has_take (ys : List Bn) (b : Int) (i : Nat) (h : i < ys.length) : hasN (ys.take (i + 1)) b = (hasN (ys.take i) b || decide ((ys.getD i default).1 = b)) := by
  unfold hasN
  rw [List.take_add_one, List.any_append, List.getElem?_eq_getElem h]
  simp [h]
theorem has_rev (xs : List Bn) (b : Int) : hasN xs.reverse b = hasN xs b := by unfold hasN; rw [List.any_reverse]
section
variable {w : World} {T : Nat → Prop} {gx gy : Nat} {room : Nat} {xs : List Bn}
set_option maxHeartbeats 4000000 in
set_option maxRecDepth 100000 in
theorem do_has (h : Two w T gx gy room xs) (hr : 0 < room ∧ room ≤ 900) (d : Deed) (h3 : d.op = 3) :
    Calls Try.prog 17 #[.pointer (some ⟨gx, 0, none⟩), .pointer (some ⟨gy, 0, none⟩), .agg d.cells.toArray] w fun e w' => e = .returned (.bool true) ∧ Two w' T gx gy room (xs) ∧ Tch w w' gx gy := by
  have hb := below_alloc (Below.refl w.heap.size w) (.cells d.cells.toArray 40)
  have hbox := heap_alloc_new w (.cells d.cells.toArray 40)
  have b0 := obj_cell hbox 0 (v := .int .i64 d.op) rfl
  have b1 := obj_cell hbox 1 (v := .int .i64 d.n) rfl
  rw [h3] at b0
  have HW := Aside0.mk (h.below hb)
  have HB := Aside0.mk hb
  have hn : xs.length ≤ 900 := by have := h.good.len; omega
  obtain ⟨A, c, tr, hy, hC, h2⟩ := HW.out.yblk
  have hgl := (Array.getElem?_eq_some_iff.1 hy).1
  have y1 := obj_cell hy 1 (v := .slice A xs.length c) rfl
  have HC := Aside0.mk hC
  have H2 := Aside0.mk h2
  have HY1 := Aside0.mk y1
  have HB1 := Aside0.mk b1
  have hbl : w.heap.size < (w.alloc (.cells d.cells.toArray 40)).heap.size := by simp
  clear hb hbox h3 h hy hC h2 y1 b1
  go_enter Try.func17, Try.ntmps17
  go_wp2_with fail
  go_loopg [16, 17] (xs.length + 1) (fun gk v16 v17 wr => ∃ i : Nat, v17 = .int .i64 i ∧ v16 = .bool (hasN (xs.reverse.take i) d.n) ∧ i ≤ xs.length ∧ Aside0 (gk = xs.length - i + 1) ∧ Aside0 (Below (w.alloc (.cells d.cells.toArray 40)).heap.size (w.alloc (.cells d.cells.toArray 40)) wr))
  case atStart => exact ⟨0, rfl, rfl, Nat.zero_le _, ⟨rfl⟩, ⟨Below.refl _ _⟩⟩
  case round =>
    obtain ⟨i, rfl, rfl, hi, HGK, HBW⟩ := hrel
    obtain ⟨wo, rfl⟩ : ∃ X : World, X = wr := ⟨_, rfl⟩
    have y1 := (HBW.out.cell (p := ⟨gy, 1, none⟩) hgl).trans HY1.out
    have b1 := (HBW.out.cell (p := ⟨w.heap.size, 1, none⟩) hbl).trans HB1.out
    by_cases hlt : i < xs.length
    · have h1 : decide ((i : Int) < (xs.length : Int)) = true := by simp; omega
      have hp1 : (0 : Int) ≤ (i : Int) := by omega
      have hp2 : (i : Int) < (xs.length : Int) := by omega
      obtain ⟨ad, rfl, t0, t1⟩ := kr_at (Kd.C_below HC.out HBW.out) i hlt
      have htb : (tr.getD i default).bin = (xs.reverse.getD i default).1 := (H2.out.get i (by have := H2.out.len; simp at this; omega)).bin
      have HST := Aside0.mk (has_take xs.reverse d.n i (by simpa using hlt))
      rw [← htb] at HST
      generalize (tr.getD i default).bin = tb at *
      have HBD := Aside0.mk (below_drew1 HBW.out)
      clear t1 htb
      cases hB : hasN (xs.reverse.take i) d.n with
      | true =>
        rw [hB] at HST
        have HX := Aside0.mk (show hasN (xs.reverse.take (i + 1)) d.n = true from HST.out)
        go_wp2_with fail
        (refine Hd.startE (S := (fun X => X.cell? ⟨gy, 1, none⟩ = some (.slice (some ad) xs.length c) ∧ X.cell? (ad.add (i * 2)) = some (.int .i64 tb) ∧ X.cell? ⟨w.heap.size, 1, none⟩ = some (.int .i64 d.n))) 1000 (by kernel_rfl) (⟨y1, t0, b1⟩) (fun hHeld => ?_))
        (refine Hd.takeE (i := 0) (v := ?_) rfl rfl (by kernel_rfl) (by kernel_rfl) (by kernel_rfl) (by kernel_rfl) (fun _ _ _ h => h) (Or.inl ⟨by rfl, ?_⟩) (by assumption) ?_; rotate_left; (focus (intro wS hS; (try go_split_ands); go_simp; all_goals (with_reducible rfl))); simp only [List.set_cons_zero, List.set_cons_succ, List.setIfInBounds_toArray]); (refine Hd.takeE (i := 1) (v := ?_) rfl rfl (by kernel_rfl) (by kernel_rfl) (by kernel_rfl) (by kernel_rfl) (fun _ _ _ h => h) (Or.inl ⟨by rfl, ?_⟩) (by assumption) ?_; rotate_left; (focus (intro wS hS; (try go_split_ands); go_simp; all_goals (with_reducible rfl))); simp only [List.set_cons_zero, List.set_cons_succ, List.setIfInBounds_toArray])
        (refine Hd.takeE (i := 2) (v := undef) rfl rfl (by kernel_rfl) (by kernel_rfl) (by kernel_rfl) (by kernel_rfl) (fun _ _ _ h => h) (Or.inr ⟨by rfl, rfl⟩) (by assumption) ?_; simp only [List.set_cons_zero, List.set_cons_succ, List.setIfInBounds_toArray]); (refine Hd.takeE (i := 3) (v := undef) rfl rfl (by kernel_rfl) (by kernel_rfl) (by kernel_rfl) (by kernel_rfl) (fun _ _ _ h => h) (Or.inr ⟨by rfl, rfl⟩) (by assumption) ?_; simp only [List.set_cons_zero, List.set_cons_succ, List.setIfInBounds_toArray]); (refine Hd.takeE (i := 4) (v := undef) rfl rfl (by kernel_rfl) (by kernel_rfl) (by kernel_rfl) (by kernel_rfl) (fun _ _ _ h => h) (Or.inr ⟨by rfl, rfl⟩) (by assumption) ?_; simp only [List.set_cons_zero, List.set_cons_succ, List.setIfInBounds_toArray]); (refine Hd.takeE (i := 5) (v := undef) rfl rfl (by kernel_rfl) (by kernel_rfl) (by kernel_rfl) (by kernel_rfl) (fun _ _ _ h => h) (Or.inr ⟨by rfl, rfl⟩) (by assumption) ?_; simp only [List.set_cons_zero, List.set_cons_succ, List.setIfInBounds_toArray]); (refine Hd.takeE (i := 6) (v := undef) rfl rfl (by kernel_rfl) (by kernel_rfl) (by kernel_rfl) (by kernel_rfl) (fun _ _ _ h => h) (Or.inr ⟨by rfl, rfl⟩) (by assumption) ?_; simp only [List.set_cons_zero, List.set_cons_succ, List.setIfInBounds_toArray]); (refine Hd.takeE (i := 7) (v := undef) rfl rfl (by kernel_rfl) (by kernel_rfl) (by kernel_rfl) (by kernel_rfl) (fun _ _ _ h => h) (Or.inr ⟨by rfl, rfl⟩) (by assumption) ?_; simp only [List.set_cons_zero, List.set_cons_succ, List.setIfInBounds_toArray]); (refine Hd.takeE (i := 8) (v := undef) rfl rfl (by kernel_rfl) (by kernel_rfl) (by kernel_rfl) (by kernel_rfl) (fun _ _ _ h => h) (Or.inr ⟨by rfl, rfl⟩) (by assumption) ?_; simp only [List.set_cons_zero, List.set_cons_succ, List.setIfInBounds_toArray]); (refine Hd.takeE (i := 9) (v := undef) rfl rfl (by kernel_rfl) (by kernel_rfl) (by kernel_rfl) (by kernel_rfl) (fun _ _ _ h => h) (Or.inr ⟨by rfl, rfl⟩) (by assumption) ?_; simp only [List.set_cons_zero, List.set_cons_succ, List.setIfInBounds_toArray]); (refine Hd.takeE (i := 10) (v := undef) rfl rfl (by kernel_rfl) (by kernel_rfl) (by kernel_rfl) (by kernel_rfl) (fun _ _ _ h => h) (Or.inr ⟨by rfl, rfl⟩) (by assumption) ?_; simp only [List.set_cons_zero, List.set_cons_succ, List.setIfInBounds_toArray]); (refine Hd.takeE (i := 11) (v := undef) rfl rfl (by kernel_rfl) (by kernel_rfl) (by kernel_rfl) (by kernel_rfl) (fun _ _ _ h => h) (Or.inr ⟨by rfl, rfl⟩) (by assumption) ?_; simp only [List.set_cons_zero, List.set_cons_succ, List.setIfInBounds_toArray]); (refine Hd.takeE (i := 12) (v := undef) rfl rfl (by kernel_rfl) (by kernel_rfl) (by kernel_rfl) (by kernel_rfl) (fun _ _ _ h => h) (Or.inr ⟨by rfl, rfl⟩) (by assumption) ?_; simp only [List.set_cons_zero, List.set_cons_succ, List.setIfInBounds_toArray])
        (refine Hd.takeE (i := 13) (v := ?_) rfl rfl (by kernel_rfl) (by kernel_rfl) (by kernel_rfl) (by kernel_rfl) (fun _ _ _ h => h) (Or.inl ⟨by rfl, ?_⟩) (by assumption) ?_; rotate_left; (focus (intro wS hS; (try go_split_ands); go_simp; all_goals (with_reducible rfl))); simp only [List.set_cons_zero, List.set_cons_succ, List.setIfInBounds_toArray]); (refine Hd.takeE (i := 14) (v := ?_) rfl rfl (by kernel_rfl) (by kernel_rfl) (by kernel_rfl) (by kernel_rfl) (fun _ _ _ h => h) (Or.inl ⟨by rfl, ?_⟩) (by assumption) ?_; rotate_left; (focus (intro wS hS; (try go_split_ands); go_simp; all_goals (with_reducible rfl))); simp only [List.set_cons_zero, List.set_cons_succ, List.setIfInBounds_toArray])
        (refine Hd.endE (by kernel_rfl) ?_ _)
        go_wp2
        go_roundg (xs.length - (i + 1) + 1)
        case measure => have := HGK.out; omega
        case rel => exact ⟨i + 1, by go_num, by rw [HX.out], by omega, ⟨rfl⟩, HBD⟩
      | false =>
        rw [hB] at HST
        have HX := Aside0.mk (show hasN (xs.reverse.take (i + 1)) d.n = decide (tb = d.n) from HST.out.trans (by simp))
        have hbq : (tb == d.n) = decide (tb = d.n) := by rw [Bool.beq_eq_decide_eq]
        generalize hD : decide (tb = d.n) = D at *
        go_wp2_with fail
        (refine Hd.startE (S := (fun X => X.cell? ⟨gy, 1, none⟩ = some (.slice (some ad) xs.length c) ∧ X.cell? (ad.add (i * 2)) = some (.int .i64 tb) ∧ X.cell? ⟨w.heap.size, 1, none⟩ = some (.int .i64 d.n))) 1000 (by kernel_rfl) (⟨y1, t0, b1⟩) (fun hHeld => ?_))
        (refine Hd.takeE (i := 0) (v := ?_) rfl rfl (by kernel_rfl) (by kernel_rfl) (by kernel_rfl) (by kernel_rfl) (fun _ _ _ h => h) (Or.inl ⟨by rfl, ?_⟩) (by assumption) ?_; rotate_left; (focus (intro wS hS; (try go_split_ands); go_simp; all_goals (with_reducible rfl))); simp only [List.set_cons_zero, List.set_cons_succ, List.setIfInBounds_toArray]); (refine Hd.takeE (i := 1) (v := ?_) rfl rfl (by kernel_rfl) (by kernel_rfl) (by kernel_rfl) (by kernel_rfl) (fun _ _ _ h => h) (Or.inl ⟨by rfl, ?_⟩) (by assumption) ?_; rotate_left; (focus (intro wS hS; (try go_split_ands); go_simp; all_goals (with_reducible rfl))); simp only [List.set_cons_zero, List.set_cons_succ, List.setIfInBounds_toArray]); (refine Hd.takeE (i := 2) (v := ?_) rfl rfl (by kernel_rfl) (by kernel_rfl) (by kernel_rfl) (by kernel_rfl) (fun _ _ _ h => h) (Or.inl ⟨by rfl, ?_⟩) (by assumption) ?_; rotate_left; (focus (intro wS hS; (try go_split_ands); go_simp; all_goals (with_reducible rfl))); simp only [List.set_cons_zero, List.set_cons_succ, List.setIfInBounds_toArray]); (refine Hd.takeE (i := 3) (v := ?_) rfl rfl (by kernel_rfl) (by kernel_rfl) (by kernel_rfl) (by kernel_rfl) (fun _ _ _ h => h) (Or.inl ⟨by rfl, ?_⟩) (by assumption) ?_; rotate_left; (focus (intro wS hS; (try go_split_ands); go_simp; all_goals (with_reducible rfl))); simp only [List.set_cons_zero, List.set_cons_succ, List.setIfInBounds_toArray]); (refine Hd.takeE (i := 4) (v := ?_) rfl rfl (by kernel_rfl) (by kernel_rfl) (by kernel_rfl) (by kernel_rfl) (fun _ _ _ h => h) (Or.inl ⟨by rfl, ?_⟩) (by assumption) ?_; rotate_left; (focus (intro wS hS; (try go_split_ands); go_simp; all_goals (with_reducible rfl))); simp only [List.set_cons_zero, List.set_cons_succ, List.setIfInBounds_toArray]); (refine Hd.takeE (i := 5) (v := ?_) rfl rfl (by kernel_rfl) (by kernel_rfl) (by kernel_rfl) (by kernel_rfl) (fun _ _ _ h => h) (Or.inl ⟨by rfl, ?_⟩) (by assumption) ?_; rotate_left; (focus (intro wS hS; (try go_split_ands); go_simp; all_goals (with_reducible rfl))); simp only [List.set_cons_zero, List.set_cons_succ, List.setIfInBounds_toArray]); (refine Hd.takeE (i := 6) (v := ?_) rfl rfl (by kernel_rfl) (by kernel_rfl) (by kernel_rfl) (by kernel_rfl) (fun _ _ _ h => h) (Or.inl ⟨by rfl, ?_⟩) (by assumption) ?_; rotate_left; (focus (intro wS hS; (try go_split_ands); go_simp; all_goals (with_reducible rfl))); simp only [List.set_cons_zero, List.set_cons_succ, List.setIfInBounds_toArray]); (refine Hd.takeE (i := 7) (v := ?_) rfl rfl (by kernel_rfl) (by kernel_rfl) (by kernel_rfl) (by kernel_rfl) (fun _ _ _ h => h) (Or.inl ⟨by rfl, ?_⟩) (by assumption) ?_; rotate_left; (focus (intro wS hS; (try go_split_ands); go_simp; all_goals (with_reducible rfl))); simp only [List.set_cons_zero, List.set_cons_succ, List.setIfInBounds_toArray]); (refine Hd.takeE (i := 8) (v := ?_) rfl rfl (by kernel_rfl) (by kernel_rfl) (by kernel_rfl) (by kernel_rfl) (fun _ _ _ h => h) (Or.inl ⟨by rfl, ?_⟩) (by assumption) ?_; rotate_left; (focus (intro wS hS; (try go_split_ands); go_simp; all_goals (with_reducible rfl))); simp only [List.set_cons_zero, List.set_cons_succ, List.setIfInBounds_toArray]); (refine Hd.takeE (i := 9) (v := ?_) rfl rfl (by kernel_rfl) (by kernel_rfl) (by kernel_rfl) (by kernel_rfl) (fun _ _ _ h => h) (Or.inl ⟨by rfl, ?_⟩) (by assumption) ?_; rotate_left; (focus (intro wS hS; (try go_split_ands); go_simp; all_goals (with_reducible rfl))); simp only [List.set_cons_zero, List.set_cons_succ, List.setIfInBounds_toArray]); (refine Hd.takeE (i := 10) (v := ?_) rfl rfl (by kernel_rfl) (by kernel_rfl) (by kernel_rfl) (by kernel_rfl) (fun _ _ _ h => h) (Or.inl ⟨by rfl, ?_⟩) (by assumption) ?_; rotate_left; (focus (intro wS hS; (try go_split_ands); go_simp; all_goals (with_reducible rfl))); simp only [List.set_cons_zero, List.set_cons_succ, List.setIfInBounds_toArray]); (refine Hd.takeE (i := 11) (v := ?_) rfl rfl (by kernel_rfl) (by kernel_rfl) (by kernel_rfl) (by kernel_rfl) (fun _ _ _ h => h) (Or.inl ⟨by rfl, ?_⟩) (by assumption) ?_; rotate_left; (focus (intro wS hS; (try go_split_ands); go_simp; all_goals (with_reducible rfl))); simp only [List.set_cons_zero, List.set_cons_succ, List.setIfInBounds_toArray]); (refine Hd.takeE (i := 12) (v := ?_) rfl rfl (by kernel_rfl) (by kernel_rfl) (by kernel_rfl) (by kernel_rfl) (fun _ _ _ h => h) (Or.inl ⟨by rfl, ?_⟩) (by assumption) ?_; rotate_left; (focus (intro wS hS; (try go_split_ands); go_simp; all_goals (with_reducible rfl))); simp only [List.set_cons_zero, List.set_cons_succ, List.setIfInBounds_toArray]); (refine Hd.takeE (i := 13) (v := ?_) rfl rfl (by kernel_rfl) (by kernel_rfl) (by kernel_rfl) (by kernel_rfl) (fun _ _ _ h => h) (Or.inl ⟨by rfl, ?_⟩) (by assumption) ?_; rotate_left; (focus (intro wS hS; (try go_split_ands); go_simp; all_goals (with_reducible rfl))); simp only [List.set_cons_zero, List.set_cons_succ, List.setIfInBounds_toArray]); (refine Hd.takeE (i := 14) (v := ?_) rfl rfl (by kernel_rfl) (by kernel_rfl) (by kernel_rfl) (by kernel_rfl) (fun _ _ _ h => h) (Or.inl ⟨by rfl, ?_⟩) (by assumption) ?_; rotate_left; (focus (intro wS hS; (try go_split_ands); go_simp; all_goals (with_reducible rfl))); simp only [List.set_cons_zero, List.set_cons_succ, List.setIfInBounds_toArray])
        (refine Hd.endE (by kernel_rfl) ?_ _)
        go_wp2
        go_roundg (xs.length - (i + 1) + 1)
        case measure => have := HGK.out; omega
        case rel => exact ⟨i + 1, by go_num, by rw [HX.out], by omega, ⟨rfl⟩, HBD⟩
    · obtain rfl : i = xs.length := by omega
      have h1 : decide ((xs.length : Int) < (xs.length : Int)) = false := by simp
      have HT := Aside0.mk (HW.out.below HBW.out)
      have hh := x_has HT.out.x d.n
      have e : hasN (xs.reverse.take xs.length) d.n = hasN xs d.n := by rw [List.take_of_length_le (by simp), has_rev]
      rw [e]
      have HH : Aside0 (Calls Try.prog 21 #[.pointer (some ⟨gx, 0, none⟩), .int .i64 d.n] wo fun e w' => e = .returned (.bool (hasN xs d.n)) ∧ Below wo.heap.size wo w') := ⟨hh⟩
      clear hh e
      generalize hasN xs d.n = B at *
      have hbb : (B == B) = true := by simp
      go_wp2_with fail
      refine HH.out.mono ?_
      rintro e w2 ⟨rfl, hb2⟩
      have HB2 := Aside0.mk hb2
      clear hb2
      go_wp2
      go_ret
      exact ⟨rfl, HT.out.below HB2.out, ((Tch.of_below gx gy HB.out).trans (Tch.of_below gx gy HBW.out)).trans (Tch.of_below gx gy HB2.out)⟩
end
end Go.Proofs.Ytocmljijdecilaa.CaDr
