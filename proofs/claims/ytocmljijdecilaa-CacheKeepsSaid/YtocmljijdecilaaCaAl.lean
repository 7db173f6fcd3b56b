/- The law's question whether both caches remember the same, walked; condition: they are alike. -/
import Derived.Test.YtocmljijdecilaaCaDs
namespace Go.Proofs.Ytocmljijdecilaa.CaAl
open Go Go.RowKit Go.Proofs.YtocmljijdecilaaW.PrintWords Go.Proofs.Ytocmljijdecilaa.K Go.Proofs.Ytocmljijdecilaa.CaS Go.Proofs.Ytocmljijdecilaa.CaC Go.Proofs.Ytocmljijdecilaa.CaD Go.Proofs.Ytocmljijdecilaa.CaB2 Go.Proofs.Ytocmljijdecilaa.CaO Go.Proofs.Ytocmljijdecilaa.CaP Go.Proofs.Ytocmljijdecilaa.CaQ Go.Proofs.Ytocmljijdecilaa.CaX Go.Proofs.Ytocmljijdecilaa.CaY Go.Proofs.Ytocmljijdecilaa.CaM Go.Proofs.Ytocmljijdecilaa.CaN Go.Proofs.Ytocmljijdecilaa.CaDo Go.Proofs.Ytocmljijdecilaa.CaDp
set_option linter.unusedVariables false
set_option linter.unusedSimpArgs false
theorem own_form {W : World} {base : Nat} {e : TypeId} {v : Value} {n : Nat} {xs : List Value} (h : W.ownsRow base e 1 v n xs) : ∃ A c, v = .slice A n c ∧ ∀ i u, i < n → xs[i]? = some u → ∃ g, A = some ⟨g, 0, none⟩ ∧ W.cell? ⟨g, i, none⟩ = some u := by
  rcases h.2 with ⟨rfl, rfl⟩ | ⟨g, cap, cur, rfl, _, hg, _, _, _, ht⟩
  · exact ⟨none, 0, rfl, fun i u hi => by omega⟩
  · refine ⟨_, _, rfl, fun i u hi hu => ⟨g, rfl, ?_⟩⟩
    rw [cell_of_row W g i cur e (0, 0) hg]
    rw [← ht, List.getElem?_take] at hu
    split at hu
    · rw [← hu, Array.getElem?_toList]
    · cases hu
def lenTo (ys : List Bn) (i : Nat) : Nat := sumLen (ys.take i)
theorem lenTo_step (ys : List Bn) (i : Nat) (h : i < ys.length) : lenTo ys (i + 1) = lenTo ys i + (ys.getD i default).2.length := by
  unfold lenTo sumLen
  rw [List.take_add_one, List.getElem?_eq_getElem h, Option.toList_some, List.map_append, List.sum_append]
  simp [h]
theorem sumLen_rev (xs : List Bn) : sumLen xs.reverse = sumLen xs := by
  unfold sumLen
  rw [List.map_reverse, List.sum_reverse]
theorem lenTo_le {room : Nat} {xs : List Bn} (h : CaM.Good room xs) (i : Nat) : lenTo xs.reverse i ≤ 64 * i := by
  unfold lenTo sumLen
  have hf : ∀ p, p ∈ xs.reverse.take i → p.2.length ≤ 64 := fun p hp => h.few p (by simpa using List.mem_of_mem_take hp)
  have hl : (xs.reverse.take i).length ≤ i := List.length_take_le _ _
  generalize xs.reverse.take i = l at *
  have : (l.map (fun p => p.2.length)).sum ≤ 64 * l.length := by
    clear hl
    induction l with
    | nil => exact Nat.zero_le _
    | cons p l ih =>
      have h1 := hf p (by simp)
      have h2 := ih (fun q hq => hf q (by simp [hq]))
      simp only [List.map_cons, List.sum_cons, List.length_cons]
      omega
  omega
theorem bins_at (xs : List Bn) (i : Nat) (h : i < xs.reverse.length) : (nums .i64 (xs.map (·.1)).reverse)[i]? = some (.int .i64 (xs.reverse.getD i default).1) := by
  rw [← List.map_reverse]
  generalize xs.reverse = ys at *
  simp [nums, h]
section
variable {w : World} {T : Nat → Prop} {gx gy : Nat} {room : Nat} {xs : List Bn}
set_option maxHeartbeats 4000000 in
set_option maxRecDepth 100000 in
theorem alike_calls (h : Two w T gx gy room xs) (hr : 0 < room ∧ room ≤ 900) :
    Calls Try.prog 18 #[.pointer (some ⟨gx, 0, none⟩), .pointer (some ⟨gy, 0, none⟩)] w fun e w' => e = .returned (.bool true) ∧ Below w.heap.size w w' := by
  have hn : xs.length ≤ 900 := by have := h.good.len; omega
  have HW := Aside0.mk h
  clear h
  go_enter Try.func18, Try.ntmps18
  go_wp2_with fail
  refine (x_bins HW.out.x hn).mono ?_
  rintro e w1 ⟨v, rfl, ho, hb⟩
  obtain ⟨A, c, rfl, hcell⟩ := own_form ho
  have HT := Aside0.mk (HW.out.below hb)
  have HB := Aside0.mk hb
  have HCE := Aside0.mk hcell
  obtain ⟨Ay, cy, tr, hy, hC, h2⟩ := HT.out.yblk
  have hgl := (Array.getElem?_eq_some_iff.1 hy).1
  have HY1 := Aside0.mk (obj_cell hy 1 (v := .slice Ay xs.length cy) rfl)
  have HC := Aside0.mk hC
  have H2 := Aside0.mk h2
  have y1 := HY1.out
  clear ho hb hcell hy hC h2
  go_wp2_with fail
  clear y1
  go_loopg [6, 7] (xs.length + 1) (fun gk v6 v7 wr => ∃ i : Nat, v7 = .int .i64 i ∧ v6 = .int .i64 (lenTo xs.reverse i : Nat) ∧ i ≤ xs.length ∧ Aside0 (gk = xs.length - i + 1) ∧ Aside0 (Below w1.heap.size w1 wr))
  case atStart => exact ⟨0, rfl, rfl, Nat.zero_le _, ⟨rfl⟩, ⟨Below.refl _ _⟩⟩
  case round =>
    obtain ⟨i, rfl, rfl, hi, HGK, HBW⟩ := hrel
    obtain ⟨wo, rfl⟩ : ∃ X : World, X = wr := ⟨_, rfl⟩
    have y1 := (HBW.out.cell (p := ⟨gy, 1, none⟩) hgl).trans HY1.out
    by_cases hlt : i < xs.length
    · have h1 : decide ((i : Int) < (xs.length : Int)) = true := by simp; omega
      have hp1 : (0 : Int) ≤ (i : Int) := by omega
      have hp2 : (i : Int) < (xs.length : Int) := by omega
      obtain ⟨ad, rfl, t0, t1⟩ := kr_at (Kd.C_below HC.out HBW.out) i hlt
      have hR := H2.out.get i (by have := H2.out.len; simp at this; omega)
      have htb : (tr.getD i default).bin = (xs.reverse.getD i default).1 := hR.bin
      have hsn : (tr.getD i default).sn = (xs.reverse.getD i default).2.length := hR.len
      have hfew := hR.few
      have hbl : (nums .i64 (xs.map (·.1)).reverse)[i]? = some (.int .i64 (xs.reverse.getD i default).1) := by
        have hir : i < xs.reverse.length := by simpa using hlt
        exact bins_at xs i hir
      obtain ⟨gb, rfl, q0⟩ := HCE.out i _ hlt hbl
      have q1 := (HBW.out.cell (World.block_lt_of_cell? _ _ q0)).trans q0
      have HST := Aside0.mk (lenTo_step xs.reverse i (by simpa using hlt))
      have HLT := Aside0.mk (lenTo_le HW.out.good i)
      have HBD := Aside0.mk (below_drew1 HBW.out)
      rw [htb] at t0
      rw [hsn] at t1
      generalize lenTo xs.reverse i = acc at *
      generalize xs.reverse.getD i default = p at *
      generalize (tr.getD i default).sa = sa at *
      generalize (tr.getD i default).sc = sc at *
      obtain ⟨pb, ps⟩ := p
      simp only at t0 t1 q0 q1 HST hfew
      have hbb : (pb != pb) = false := by simp
      have hac := HLT.out
      clear q0 htb hsn hR hbl
      go_wp2_with fail
      (refine Hd.startE (S := (fun X => X.cell? ⟨gy, 1, none⟩ = some (.slice (some ad) xs.length cy) ∧ X.cell? (ad.add (i * 2)) = some (.int .i64 pb) ∧ X.cell? ⟨gb, i, none⟩ = some (.int .i64 pb))) 1000 (by kernel_rfl) (⟨y1, t0, q1⟩) (fun hHeld => ?_))
      (refine Hd.takeE (i := 0) (v := ?_) rfl rfl (by kernel_rfl) (by kernel_rfl) (by kernel_rfl) (by kernel_rfl) (fun _ _ _ h => h) (Or.inl ⟨by rfl, ?_⟩) (by assumption) ?_; rotate_left; (focus (intro wS hS; (try go_split_ands); go_simp; all_goals (with_reducible rfl))); simp only [List.set_cons_zero, List.set_cons_succ, List.setIfInBounds_toArray]); (refine Hd.takeE (i := 1) (v := ?_) rfl rfl (by kernel_rfl) (by kernel_rfl) (by kernel_rfl) (by kernel_rfl) (fun _ _ _ h => h) (Or.inl ⟨by rfl, ?_⟩) (by assumption) ?_; rotate_left; (focus (intro wS hS; (try go_split_ands); go_simp; all_goals (with_reducible rfl))); simp only [List.set_cons_zero, List.set_cons_succ, List.setIfInBounds_toArray]); (refine Hd.takeE (i := 2) (v := ?_) rfl rfl (by kernel_rfl) (by kernel_rfl) (by kernel_rfl) (by kernel_rfl) (fun _ _ _ h => h) (Or.inl ⟨by rfl, ?_⟩) (by assumption) ?_; rotate_left; (focus (intro wS hS; (try go_split_ands); go_simp; all_goals (with_reducible rfl))); simp only [List.set_cons_zero, List.set_cons_succ, List.setIfInBounds_toArray]); (refine Hd.takeE (i := 3) (v := ?_) rfl rfl (by kernel_rfl) (by kernel_rfl) (by kernel_rfl) (by kernel_rfl) (fun _ _ _ h => h) (Or.inl ⟨by rfl, ?_⟩) (by assumption) ?_; rotate_left; (focus (intro wS hS; (try go_split_ands); go_simp; all_goals (with_reducible rfl))); simp only [List.set_cons_zero, List.set_cons_succ, List.setIfInBounds_toArray]); (refine Hd.takeE (i := 4) (v := ?_) rfl rfl (by kernel_rfl) (by kernel_rfl) (by kernel_rfl) (by kernel_rfl) (fun _ _ _ h => h) (Or.inl ⟨by rfl, ?_⟩) (by assumption) ?_; rotate_left; (focus (intro wS hS; (try go_split_ands); go_simp; all_goals (with_reducible rfl))); simp only [List.set_cons_zero, List.set_cons_succ, List.setIfInBounds_toArray]); (refine Hd.takeE (i := 5) (v := ?_) rfl rfl (by kernel_rfl) (by kernel_rfl) (by kernel_rfl) (by kernel_rfl) (fun _ _ _ h => h) (Or.inl ⟨by rfl, ?_⟩) (by assumption) ?_; rotate_left; (focus (intro wS hS; (try go_split_ands); go_simp; all_goals (with_reducible rfl))); simp only [List.set_cons_zero, List.set_cons_succ, List.setIfInBounds_toArray]); (refine Hd.takeE (i := 6) (v := ?_) rfl rfl (by kernel_rfl) (by kernel_rfl) (by kernel_rfl) (by kernel_rfl) (fun _ _ _ h => h) (Or.inl ⟨by rfl, ?_⟩) (by assumption) ?_; rotate_left; (focus (intro wS hS; (try go_split_ands); go_simp; all_goals (with_reducible rfl))); simp only [List.set_cons_zero, List.set_cons_succ, List.setIfInBounds_toArray]); (refine Hd.takeE (i := 7) (v := ?_) rfl rfl (by kernel_rfl) (by kernel_rfl) (by kernel_rfl) (by kernel_rfl) (fun _ _ _ h => h) (Or.inl ⟨by rfl, ?_⟩) (by assumption) ?_; rotate_left; (focus (intro wS hS; (try go_split_ands); go_simp; all_goals (with_reducible rfl))); simp only [List.set_cons_zero, List.set_cons_succ, List.setIfInBounds_toArray]); (refine Hd.takeE (i := 8) (v := ?_) rfl rfl (by kernel_rfl) (by kernel_rfl) (by kernel_rfl) (by kernel_rfl) (fun _ _ _ h => h) (Or.inl ⟨by rfl, ?_⟩) (by assumption) ?_; rotate_left; (focus (intro wS hS; (try go_split_ands); go_simp; all_goals (with_reducible rfl))); simp only [List.set_cons_zero, List.set_cons_succ, List.setIfInBounds_toArray]); (refine Hd.takeE (i := 9) (v := ?_) rfl rfl (by kernel_rfl) (by kernel_rfl) (by kernel_rfl) (by kernel_rfl) (fun _ _ _ h => h) (Or.inl ⟨by rfl, ?_⟩) (by assumption) ?_; rotate_left; (focus (intro wS hS; (try go_split_ands); go_simp; all_goals (with_reducible rfl))); simp only [List.set_cons_zero, List.set_cons_succ, List.setIfInBounds_toArray]); (refine Hd.takeE (i := 10) (v := ?_) rfl rfl (by kernel_rfl) (by kernel_rfl) (by kernel_rfl) (by kernel_rfl) (fun _ _ _ h => h) (Or.inl ⟨by rfl, ?_⟩) (by assumption) ?_; rotate_left; (focus (intro wS hS; (try go_split_ands); go_simp; all_goals (with_reducible rfl))); simp only [List.set_cons_zero, List.set_cons_succ, List.setIfInBounds_toArray]); (refine Hd.takeE (i := 11) (v := ?_) rfl rfl (by kernel_rfl) (by kernel_rfl) (by kernel_rfl) (by kernel_rfl) (fun _ _ _ h => h) (Or.inl ⟨by rfl, ?_⟩) (by assumption) ?_; rotate_left; (focus (intro wS hS; (try go_split_ands); go_simp; all_goals (with_reducible rfl))); simp only [List.set_cons_zero, List.set_cons_succ, List.setIfInBounds_toArray]); (refine Hd.takeE (i := 12) (v := ?_) rfl rfl (by kernel_rfl) (by kernel_rfl) (by kernel_rfl) (by kernel_rfl) (fun _ _ _ h => h) (Or.inl ⟨by rfl, ?_⟩) (by assumption) ?_; rotate_left; (focus (intro wS hS; (try go_split_ands); go_simp; all_goals (with_reducible rfl))); simp only [List.set_cons_zero, List.set_cons_succ, List.setIfInBounds_toArray])
      (refine Hd.endE (by kernel_rfl) ?_ _)
      have t1d : wo.drew.cell? ⟨(ad.add (i * 2)).block, (ad.add (i * 2)).off + 1, none⟩ = some (.slice sa ps.length sc) := t1
      have y1d : wo.drew.cell? ⟨gy, 1, none⟩ = some (.slice (some ad) xs.length cy) := y1
      have hwr : IntKind.i64.wrap ((acc : Int) + (ps.length : Int)) = (acc : Int) + (ps.length : Int) := by rw [IntKind.wrap_i64]; omega
      go_wp2
      go_roundg (xs.length - (i + 1) + 1)
      case measure => have := HGK.out; omega
      case rel => exact ⟨i + 1, by go_num, by rw [HST.out]; go_num, by omega, ⟨rfl⟩, HBD⟩
    · obtain rfl : i = xs.length := by omega
      have h1 : decide ((xs.length : Int) < (xs.length : Int)) = false := by simp
      have HS := Aside0.mk (x_sums (HT.out.below HBW.out).x hn)
      have e : lenTo xs.reverse xs.length = sumLen xs := by
        unfold lenTo
        rw [List.take_of_length_le (by simp), sumLen_rev]
      rw [e]
      generalize sumLen xs = B at *
      have hbb : ((B : Int) == (B : Int)) = true := by simp
      go_wp2_with fail
      refine HS.out.mono ?_
      rintro e w2 ⟨rfl, hb2⟩
      have HB2 := Aside0.mk hb2
      clear hb2
      go_wp2
      go_ret
      exact ⟨rfl, below_then HB.out HB.out.size (below_then HBW.out HBW.out.size HB2.out)⟩
end
end Go.Proofs.Ytocmljijdecilaa.CaAl
