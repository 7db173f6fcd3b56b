/- The reference's Put, walked; condition: the reference's cache stands, the sums read as a list. -/
import Derived.Test.YtocmljijdecilaaCaZ
namespace Go.Proofs.Ytocmljijdecilaa.CaPr
open Go Go.RowKit Go.Proofs.YtocmljijdecilaaW.PrintWords Go.Proofs.Ytocmljijdecilaa.K Go.Proofs.Ytocmljijdecilaa.CaS Go.Proofs.Ytocmljijdecilaa.CaC Go.Proofs.Ytocmljijdecilaa.CaO Go.Proofs.Ytocmljijdecilaa.CaQ Go.Proofs.Ytocmljijdecilaa.CaX Go.Proofs.Ytocmljijdecilaa.CaY
set_option linter.unusedVariables false
set_option linter.unusedSimpArgs false
theorem rrow_in {W w6 : World} {T : Nat → Prop} {g : Nat} {room : Int} {ts L : List Kr} {v6 : Value} (hca : Cr W T g room ts) (hb6 : Below W.heap.size W w6) (ho6 : Kd.R dKr 80 w6 W.heap.size (fun _ => True) (v6) (L)) (hL : 0 < L.length) (hT : ∀ k, T k → k < W.heap.size) :
    ∃ A6 c6, v6 = .slice A6 L.length c6 ∧ Cr (w6.setCell ⟨g, 1, none⟩ (.slice A6 L.length c6)) T g room L ∧ W.grownBy (w6.setCell ⟨g, 1, none⟩ (.slice A6 L.length c6)) (some g) ∧ (∃ u, w6.cell? ⟨g, 1, none⟩ = some u) ∧ w6.frozen? ⟨g, 1, none⟩ = false := by
  obtain ⟨A, c, hg, hC, hc, hA⟩ := hca
  have hgl := (Array.getElem?_eq_some_iff.1 hg).1
  have hg6 := (hb6.block g hgl).trans hg
  obtain ⟨g2, cap2, rfl, hgb, hgl2, cur, hcur⟩ := Kd.R_form ho6 hL
  have hR := Kd.R_reads' ho6
  refine ⟨some ⟨g2, 0, none⟩, cap2, rfl, ⟨some ⟨g2, 0, none⟩, cap2, (obj_set hg6 1 _).trans rfl, C_same hR.2.2 (fun a ha => ?_), hR.2.1, fun a ha => ?_⟩, World.grownBy.trans (grown_below hb6) (obj_grown w6 g 1 _), ⟨_, obj_cell hg6 1 (v := .slice A ts.length c) rfl⟩, obj_free hg6 1⟩
  · injection ha with ha
    subst ha
    exact Below.heap_setCell _ _ _ _ (by show g2 ≠ g; omega)
  · injection ha with ha
    subst ha
    refine ⟨by simpa [World.setCell] using hgl2, fun e => ?_⟩
    have : g2 < W.heap.size := hT _ e
    omega
def rcut (room : Nat) (l : List Kr) : List Kr := l.take room
set_option maxHeartbeats 8000000 in
set_option maxRecDepth 100000 in
theorem rput_calls {w : World} {T : Nat → Prop} {g : Nat} {room : Nat} {ts : List Kr} (h : Cr w T g room ts) (b : Int) (hb0 : 0 ≤ b) (hb1 : b < 4096) (As : Option Addr) (k c2 : Nat) (ss : List Sm) (hs : dSum.C w As k ss) (hk : k ≤ 64) (hn : ts.length ≤ 900) (hT : ∀ k, T k → k < w.heap.size) (hTg : T g) (hsa : 0 < k → ∀ a, As = some a → a.block ≠ g) :
    Calls Try.prog 31 #[.pointer (some ⟨g, 0, none⟩), .int .i64 b, .slice As k c2] w fun e w' => e = .returned (.int .i64 0) ∧ ∃ kr : Kr, kr.bin = b ∧ kr.sn = ss.length ∧ dSum.C w' kr.sa ss.length ss ∧ (∀ a, kr.sa = some a → a.block < w'.heap.size ∧ w.heap.size ≤ a.block) ∧ Cr w' T g room (rcut room (kr :: rrm ts b)) ∧ w.grownBy w' (some g) := by
  have d1 : decide (b < 0) = false := by simpa using hb0
  have d2 : decide (4095 < b) = false := by simp; omega
  have d3 : decide ((64 : Int) < (k : Int)) = false := by simp; omega
  have HDR := Aside0.mk (rdrop_calls h b hn hT)
  have HS := Aside0.mk hs
  clear h hs
  go_enter Try.func31, Try.ntmps31
  go_wp2_with (go_at_call 33; (with_reducible refine (HDR.out).mono ?_); rintro e w' ⟨rfl, hc1, hg1⟩; have HC1 := Aside0.mk hc1; have HG1 := Aside0.mk hg1; clear hc1 hg1 HDR)
  obtain ⟨w1, rfl⟩ : ∃ X : World, X = w' := ⟨_, rfl⟩
  obtain rfl : ss.length = k := HS.out.1
  obtain ⟨A, c, hg, hC, hc, hA⟩ := HC1.out
  have a1 := obj_cell hg 1 (v := .slice A (rrm ts b).length c) rfl
  have hgl := (Array.getElem?_eq_some_iff.1 hg).1
  have HSB := Aside0.mk (fun (X : World) (hX : Below w1.heap.size w1 X) => (hX.cell (p := ⟨g, 1, none⟩) hgl).trans a1)
  have HS1 := Aside0.mk (C_kept' HS.out (fun h0 a ha hl => HG1.out.block a.block hl (fun e => by injection e with e; exact hsa h0 a ha e)))
  have HN := Kd.R_made_nil dSum w1.drew 35
  have HC := Aside0.mk hC
  clear hC hA
  (refine Hd.startE (S := (fun X => X.cell? ⟨g, 1, none⟩ = some (.slice A (rrm ts b).length c))) 14 (by kernel_rfl) (HSB.out _ (below_drew1 (Below.refl _ _))) (fun hHeld => ?_))
  (refine Hd.takeE (i := 0) (v := ?_) rfl rfl (by kernel_rfl) (by kernel_rfl) (by kernel_rfl) (by kernel_rfl) (fun _ _ _ h => h) (Or.inl ⟨by rfl, ?_⟩) (by assumption) ?_; rotate_left; (focus (intro wS hS; (try go_split_ands); go_simp; all_goals (with_reducible rfl))); simp only [List.set_cons_zero, List.set_cons_succ, List.setIfInBounds_toArray]); (refine Hd.takeE (i := 1) (v := ?_) rfl rfl (by kernel_rfl) (by kernel_rfl) (by kernel_rfl) (by kernel_rfl) (fun _ _ _ h => h) (Or.inl ⟨by rfl, ?_⟩) (by assumption) ?_; rotate_left; (focus (intro wS hS; (try go_split_ands); go_simp; all_goals (with_reducible rfl))); simp only [List.set_cons_zero, List.set_cons_succ, List.setIfInBounds_toArray]); (refine Hd.takeE (i := 3) (v := ?_) rfl rfl (by kernel_rfl) (by kernel_rfl) (by kernel_rfl) (by kernel_rfl) (fun _ _ _ h => h) (Or.inl ⟨by rfl, ?_⟩) (by assumption) ?_; rotate_left; (focus (intro wS hS; (try go_split_ands); go_simp; all_goals (with_reducible rfl))); simp only [List.set_cons_zero, List.set_cons_succ, List.setIfInBounds_toArray]); (refine Hd.takeE (i := 7) (v := ?_) rfl rfl (by kernel_rfl) (by kernel_rfl) (by kernel_rfl) (by kernel_rfl) (fun _ _ _ h => h) (Or.inl ⟨by rfl, ?_⟩) (by assumption) ?_; rotate_left; (focus (intro wS hS; (try go_split_ands); go_simp; all_goals (with_reducible rfl))); simp only [List.set_cons_zero, List.set_cons_succ, List.setIfInBounds_toArray]); (refine Hd.takeE (i := 8) (v := ?_) rfl rfl (by kernel_rfl) (by kernel_rfl) (by kernel_rfl) (by kernel_rfl) (fun _ _ _ h => h) (Or.inl ⟨by rfl, ?_⟩) (by assumption) ?_; rotate_left; (focus (intro wS hS; (try go_split_ands); go_simp; all_goals (with_reducible rfl))); simp only [List.set_cons_zero, List.set_cons_succ, List.setIfInBounds_toArray]); (refine Hd.takeE (i := 9) (v := ?_) rfl rfl (by kernel_rfl) (by kernel_rfl) (by kernel_rfl) (by kernel_rfl) (fun _ _ _ h => h) (Or.inl ⟨by rfl, ?_⟩) (by assumption) ?_; rotate_left; (focus (intro wS hS; (try go_split_ands); go_simp; all_goals (with_reducible rfl))); simp only [List.set_cons_zero, List.set_cons_succ, List.setIfInBounds_toArray]); (refine Hd.takeE (i := 10) (v := ?_) rfl rfl (by kernel_rfl) (by kernel_rfl) (by kernel_rfl) (by kernel_rfl) (fun _ _ _ h => h) (Or.inl ⟨by rfl, ?_⟩) (by assumption) ?_; rotate_left; (focus (intro wS hS; (try go_split_ands); go_simp; all_goals (with_reducible rfl))); simp only [List.set_cons_zero, List.set_cons_succ, List.setIfInBounds_toArray])
  have hb0w := below_alloc (below_drew1 (Below.refl w1.heap.size w1)) (.cells #[] 35)
  (refine Hd.readyE (rs := [2]) (by kernel_rfl) (by simp) ?_; refine Hd.AllE.cons (i := 2) rfl (fun K hK => ?_) Hd.AllE.nil; go_simp; refine hK.out _ _ (HSB.out _ hb0w) (fun hHeld => ?_); clear hK K; (try simp only [Act.put, List.setIfInBounds_toArray, List.set_cons_zero, List.set_cons_succ]))
  have hs1 := Kd.C_below HS1.out hb0w
  (refine Hd.readyE (rs := [4]) (by kernel_rfl) (by simp) ?_; refine Hd.AllE.cons (i := 4) rfl (fun K hK => ?_) Hd.AllE.nil; (refine Hd.step_of_list rfl ?_; refine app dSum flat_sum w1.heap.size (w0 := w1) (.tmp 21) (.tmp 22) 38 35 (.agg (List.replicate 32 (Value.int .u8 0)).toArray) 32 rfl rfl Try.underlying38 infoSm rfl (by decide) (by decide) (.slice (some ⟨w1.heap.size, 0, none⟩) 0 0) [] ss As ss.length c2 (by rfl) (by rfl) HN hs1 hb0w hb0w.size (by simp; omega) ?_; intro v4 w4 ho4 hb4 hg4 hat4; refine wpList_nil ?_); refine hK.out _ _ (HSB.out _ hb4) (fun hHeld => ?_); clear hK K; (try simp only [Act.put, List.setIfInBounds_toArray, List.set_cons_zero, List.set_cons_succ]))
  rw [List.nil_append] at ho4
  obtain ⟨A4, c4, rfl, hlc4, hC4⟩ := Kd.R_reads ho4
  (refine Hd.takeE (i := 5) (v := ?_) rfl rfl (by kernel_rfl) (by kernel_rfl) (by kernel_rfl) (by kernel_rfl) (fun _ _ _ h => h) (Or.inl ⟨by rfl, ?_⟩) (by assumption) ?_; rotate_left; (focus (intro wS hS; (try go_split_ands); go_simp; all_goals (with_reducible rfl))); simp only [List.set_cons_zero, List.set_cons_succ, List.setIfInBounds_toArray])
  (refine Hd.readyE (rs := [6]) (by kernel_rfl) (by simp) ?_; refine Hd.AllE.cons (i := 6) rfl (fun K hK => ?_) Hd.AllE.nil; go_simp; refine hK.out _ _ (HSB.out _ (below_alloc hb4 _)) (fun hHeld => ?_); clear hK K; (try simp only [Act.put, List.setIfInBounds_toArray, List.set_cons_zero, List.set_cons_succ]))
  have hbx := Kd.R_lit1 dKr flat_kr w4 80 (⟨b, A4, ss.length, c4⟩ : Kr) (Kr.cells ⟨b, A4, ss.length, c4⟩) ⟨trivial, rfl⟩ w1.heap.size hb4.size
  have hb4a := below_alloc hb4 (.cells (Kr.cells ⟨b, A4, ss.length, c4⟩).toArray 80)
  have hcr := Kd.C_below HC.out hb4a
  have hrl : (rrm ts b).length ≤ ts.length := List.length_filter_le _ _
  (refine Hd.readyE (rs := [11]) (by kernel_rfl) (by simp) ?_; refine Hd.AllE.cons (i := 11) rfl (fun K hK => ?_) Hd.AllE.nil; (refine Hd.step_of_list rfl ?_; refine app dKr flat_kr w1.heap.size (w0 := w1) (.tmp 25) (.tmp 29) 60 80 (.agg #[.int .i64 0, .slice none 0 0]) 32 rfl rfl Try.underlying60 infoKr rfl (by decide) (by decide) (.slice (some ⟨w4.heap.size, 0, none⟩) 1 1) [(⟨b, A4, ss.length, c4⟩ : Kr)] (rrm ts b) A (rrm ts b).length c (by rfl) (by rfl) hbx hcr hb4a hb4a.size (by simp; omega) ?_; intro v5 w5 ho5 hb5 hg5 hat5; refine wpList_nil ?_); refine hK.out _ _ (HSB.out _ hb5) (fun hHeld => ?_); clear hK K; (try simp only [Act.put, List.setIfInBounds_toArray, List.set_cons_zero, List.set_cons_succ]))
  obtain ⟨A6, c6, rfl, hca6, hgr6, ⟨u6, hc6⟩, hf6⟩ := rrow_in HC1.out hb5 ho5 (by simp) (fun q hq => Nat.lt_of_lt_of_le (hT q hq) HG1.out.size)
  (refine Hd.readyE (rs := [12]) (by kernel_rfl) (by simp) ?_; refine Hd.AllE.cons (i := 12) rfl (fun K hK => ?_) Hd.AllE.nil; go_simp; refine hK.out _ _ (HSB.out _ hb5) (fun hHeld => ?_); clear hK K; (try simp only [Act.put, List.setIfInBounds_toArray, List.set_cons_zero, List.set_cons_succ]))
  (refine Hd.readyE (rs := [13]) (by kernel_rfl) (by simp) ?_; refine Hd.AllE.cons (i := 13) rfl (fun K hK => ?_) Hd.AllE.nil; go_simp; refine hK.out _ _ (HSB.out _ hb5) (fun hHeld => ?_); clear hK K; (try simp only [Act.put, List.setIfInBounds_toArray, List.set_cons_zero, List.set_cons_succ]))
  (refine Hd.readyE (rs := [14]) (by kernel_rfl) (by simp) ?_; refine Hd.AllE.last (i := 14) rfl (fun K hK => ?_); go_simp; refine hK.out _ _ ?_; clear hK K; (try simp only [Act.put, List.setIfInBounds_toArray, List.set_cons_zero, List.set_cons_succ]))
  (refine Hd.endE (by kernel_rfl) ?_ _)
  have hlL : ([(⟨b, A4, ss.length, c4⟩ : Kr)] ++ rrm ts b).length = (rrm ts b).length + 1 := by simp
  have HA4 : Aside0 (∀ a, A4 = some a → w1.heap.size ≤ a.block ∧ a.block < w4.heap.size) := ⟨fun a ha => ⟨Kd.R_base ho4 _ (by rw [ha]; rfl), Kd.R_lt ho4 _ (by rw [ha]; rfl)⟩⟩
  have hgw : g < w1.heap.size := hgl
  have hS5 : dSum.C w5 A4 ss.length ss := C_same hC4 (fun a ha => (hg5.block a.block (by have := (HA4.out a ha).2; simp; omega) (fun e => by injection e with e; have h2 := (HA4.out a ha).2; simp only at e; omega)).trans (Below.heap_alloc _ _ _ (by have := (HA4.out a ha).2; simp; omega)))
  have hs45 : w4.heap.size ≤ w5.heap.size := Nat.le_trans (by simp) hg5.size
  have HS7 : Aside0 (dSum.C (w5.setCell ⟨g, 1, none⟩ (.slice A6 ([(⟨b, A4, ss.length, c4⟩ : Kr)] ++ rrm ts b).length c6)) A4 ss.length ss) := ⟨C_same hS5 (fun a ha => Below.heap_setCell _ _ _ _ (by show a.block ≠ g; have := (HA4.out a ha).1; omega))⟩
  have HA7 : Aside0 (∀ a, A4 = some a → a.block < (w5.setCell ⟨g, 1, none⟩ (.slice A6 ([(⟨b, A4, ss.length, c4⟩ : Kr)] ++ rrm ts b).length c6)).heap.size ∧ w.heap.size ≤ a.block ∧ a.block ≠ g) := ⟨fun a ha => ⟨by have := (HA4.out a ha).2; simp [World.setCell]; omega, by have := (HA4.out a ha).1; have := HG1.out.size; omega, by have := (HA4.out a ha).1; omega⟩⟩
  have HGR : Aside0 (w.grownBy (w5.setCell ⟨g, 1, none⟩ (.slice A6 ([(⟨b, A4, ss.length, c4⟩ : Kr)] ++ rrm ts b).length c6)) (some g)) := ⟨World.grownBy.trans HG1.out hgr6⟩
  have HCR := Aside0.mk hca6
  rw [hlL] at HS7 HA7 HGR HCR
  have hcr7 := HCR.out
  obtain ⟨A7, c7, hb7, hC7, hc7, hA7⟩ := hcr7
  rw [hlL] at hb7 hC7 hc7
  have hlr : ([(⟨b, A4, ss.length, c4⟩ : Kr)] ++ rrm ts b) = (⟨b, A4, ss.length, c4⟩ : Kr) :: rrm ts b := rfl
  rw [hlr] at HCR hC7
  clear hgr6 hca6 hS5 ho5 ho4 hC4 hg5 hat5 hg4 hat4 hbx hcr hs1 hb4a hb5 hb4 hb0w hlr HN HS1 HC hg a1 hc6 hf6
  simp only [List.length_append, List.length_cons, List.length_nil, Nat.zero_add] at *
  generalize w5.setCell ⟨g, 1, none⟩ _ = W7 at *
  have j0 := obj_cell hb7 0 (v := .int .i64 (room : Int)) rfl
  have j1 := obj_cell hb7 1 (v := .slice A7 ((rrm ts b).length + 1) c7) rfl
  have f1 := obj_free hb7 1
  have hg7 : g < W7.heap.size := (Array.getElem?_eq_some_iff.1 hb7).1
  have HB7 := Aside0.mk hb7
  have HC7 := Aside0.mk hC7
  have HAA := Aside0.mk hA7
  clear hb7 hC7 hA7 HC1 HG1 HSB HS hs45 hc
  by_cases hov : room < (rrm ts b).length + 1
  · have hdv : decide ((room : Int) < ((rrm ts b).length : Int) + 1) = true := by simp; omega
    have hp1 : (0 : Int) ≤ (room : Int) := by omega
    have hp2 : (room : Int) ≤ (c7 : Int) := by omega
    have hp3 : (room : Int) ≤ ((rrm ts b).length : Int) + 1 := by omega
    go_wp2_with fail
    (refine Hd.startE (S := (fun X => X.cell? ⟨g, 0, none⟩ = some (.int .i64 (room : Int)) ∧ X.cell? ⟨g, 1, none⟩ = some (.slice A7 ((rrm ts b).length + 1) c7))) 1000 (by kernel_rfl) (⟨j0, j1⟩) (fun hHeld => ?_))
    (refine Hd.takeE (i := 0) (v := ?_) rfl rfl (by kernel_rfl) (by kernel_rfl) (by kernel_rfl) (by kernel_rfl) (fun _ _ _ h => h) (Or.inl ⟨by rfl, ?_⟩) (by assumption) ?_; rotate_left; (focus (intro wS hS; (try go_split_ands); go_simp; all_goals (with_reducible rfl))); simp only [List.set_cons_zero, List.set_cons_succ, List.setIfInBounds_toArray]); (refine Hd.takeE (i := 1) (v := ?_) rfl rfl (by kernel_rfl) (by kernel_rfl) (by kernel_rfl) (by kernel_rfl) (fun _ _ _ h => h) (Or.inl ⟨by rfl, ?_⟩) (by assumption) ?_; rotate_left; (focus (intro wS hS; (try go_split_ands); go_simp; all_goals (with_reducible rfl))); simp only [List.set_cons_zero, List.set_cons_succ, List.setIfInBounds_toArray]); (refine Hd.takeE (i := 2) (v := ?_) rfl rfl (by kernel_rfl) (by kernel_rfl) (by kernel_rfl) (by kernel_rfl) (fun _ _ _ h => h) (Or.inl ⟨by rfl, ?_⟩) (by assumption) ?_; rotate_left; (focus (intro wS hS; (try go_split_ands); go_simp; all_goals (with_reducible rfl))); simp only [List.set_cons_zero, List.set_cons_succ, List.setIfInBounds_toArray]); (refine Hd.takeE (i := 3) (v := ?_) rfl rfl (by kernel_rfl) (by kernel_rfl) (by kernel_rfl) (by kernel_rfl) (fun _ _ _ h => h) (Or.inl ⟨by rfl, ?_⟩) (by assumption) ?_; rotate_left; (focus (intro wS hS; (try go_split_ands); go_simp; all_goals (with_reducible rfl))); simp only [List.set_cons_zero, List.set_cons_succ, List.setIfInBounds_toArray]); (refine Hd.takeE (i := 4) (v := ?_) rfl rfl (by kernel_rfl) (by kernel_rfl) (by kernel_rfl) (by kernel_rfl) (fun _ _ _ h => h) (Or.inl ⟨by rfl, ?_⟩) (by assumption) ?_; rotate_left; (focus (intro wS hS; (try go_split_ands); go_simp; all_goals (with_reducible rfl))); simp only [List.set_cons_zero, List.set_cons_succ, List.setIfInBounds_toArray]); (refine Hd.takeE (i := 5) (v := ?_) rfl rfl (by kernel_rfl) (by kernel_rfl) (by kernel_rfl) (by kernel_rfl) (fun _ _ _ h => h) (Or.inl ⟨by rfl, ?_⟩) (by assumption) ?_; rotate_left; (focus (intro wS hS; (try go_split_ands); go_simp; all_goals (with_reducible rfl))); simp only [List.set_cons_zero, List.set_cons_succ, List.setIfInBounds_toArray]); (refine Hd.takeE (i := 6) (v := ?_) rfl rfl (by kernel_rfl) (by kernel_rfl) (by kernel_rfl) (by kernel_rfl) (fun _ _ _ h => h) (Or.inl ⟨by rfl, ?_⟩) (by assumption) ?_; rotate_left; (focus (intro wS hS; (try go_split_ands); go_simp; all_goals (with_reducible rfl))); simp only [List.set_cons_zero, List.set_cons_succ, List.setIfInBounds_toArray]); (refine Hd.takeE (i := 7) (v := ?_) rfl rfl (by kernel_rfl) (by kernel_rfl) (by kernel_rfl) (by kernel_rfl) (fun _ _ _ h => h) (Or.inl ⟨by rfl, ?_⟩) (by assumption) ?_; rotate_left; (focus (intro wS hS; (try go_split_ands); go_simp; all_goals (with_reducible rfl))); simp only [List.set_cons_zero, List.set_cons_succ, List.setIfInBounds_toArray]); (refine Hd.takeE (i := 8) (v := ?_) rfl rfl (by kernel_rfl) (by kernel_rfl) (by kernel_rfl) (by kernel_rfl) (fun _ _ _ h => h) (Or.inl ⟨by rfl, ?_⟩) (by assumption) ?_; rotate_left; (focus (intro wS hS; (try go_split_ands); go_simp; all_goals (with_reducible rfl))); simp only [List.set_cons_zero, List.set_cons_succ, List.setIfInBounds_toArray]); (refine Hd.takeE (i := 9) (v := ?_) rfl rfl (by kernel_rfl) (by kernel_rfl) (by kernel_rfl) (by kernel_rfl) (fun _ _ _ h => h) (Or.inl ⟨by rfl, ?_⟩) (by assumption) ?_; rotate_left; (focus (intro wS hS; (try go_split_ands); go_simp; all_goals (with_reducible rfl))); simp only [List.set_cons_zero, List.set_cons_succ, List.setIfInBounds_toArray])
    (refine Hd.endE (by kernel_rfl) ?_ _)
    go_wp2_with fail
    (refine Hd.startE (S := (fun X => X.cell? ⟨g, 0, none⟩ = some (.int .i64 (room : Int)) ∧ X.cell? ⟨g, 1, none⟩ = some (.slice A7 ((rrm ts b).length + 1) c7))) 12 (by kernel_rfl) (⟨j0, j1⟩) (fun hHeld => ?_))
    (refine Hd.takeE (i := 0) (v := ?_) rfl rfl (by kernel_rfl) (by kernel_rfl) (by kernel_rfl) (by kernel_rfl) (fun _ _ _ h => h) (Or.inl ⟨by rfl, ?_⟩) (by assumption) ?_; rotate_left; (focus (intro wS hS; (try go_split_ands); go_simp; all_goals (with_reducible rfl))); simp only [List.set_cons_zero, List.set_cons_succ, List.setIfInBounds_toArray]); (refine Hd.takeE (i := 1) (v := ?_) rfl rfl (by kernel_rfl) (by kernel_rfl) (by kernel_rfl) (by kernel_rfl) (fun _ _ _ h => h) (Or.inl ⟨by rfl, ?_⟩) (by assumption) ?_; rotate_left; (focus (intro wS hS; (try go_split_ands); go_simp; all_goals (with_reducible rfl))); simp only [List.set_cons_zero, List.set_cons_succ, List.setIfInBounds_toArray]); (refine Hd.takeE (i := 2) (v := ?_) rfl rfl (by kernel_rfl) (by kernel_rfl) (by kernel_rfl) (by kernel_rfl) (fun _ _ _ h => h) (Or.inl ⟨by rfl, ?_⟩) (by assumption) ?_; rotate_left; (focus (intro wS hS; (try go_split_ands); go_simp; all_goals (with_reducible rfl))); simp only [List.set_cons_zero, List.set_cons_succ, List.setIfInBounds_toArray]); (refine Hd.takeE (i := 3) (v := ?_) rfl rfl (by kernel_rfl) (by kernel_rfl) (by kernel_rfl) (by kernel_rfl) (fun _ _ _ h => h) (Or.inl ⟨by rfl, ?_⟩) (by assumption) ?_; rotate_left; (focus (intro wS hS; (try go_split_ands); go_simp; all_goals (with_reducible rfl))); simp only [List.set_cons_zero, List.set_cons_succ, List.setIfInBounds_toArray]); (refine Hd.takeE (i := 4) (v := ?_) rfl rfl (by kernel_rfl) (by kernel_rfl) (by kernel_rfl) (by kernel_rfl) (fun _ _ _ h => h) (Or.inl ⟨by rfl, ?_⟩) (by assumption) ?_; rotate_left; (focus (intro wS hS; (try go_split_ands); go_simp; all_goals (with_reducible rfl))); simp only [List.set_cons_zero, List.set_cons_succ, List.setIfInBounds_toArray]); (refine Hd.takeE (i := 5) (v := ?_) rfl rfl (by kernel_rfl) (by kernel_rfl) (by kernel_rfl) (by kernel_rfl) (fun _ _ _ h => h) (Or.inl ⟨by rfl, ?_⟩) (by assumption) ?_; rotate_left; (focus (intro wS hS; (try go_split_ands); go_simp; all_goals (with_reducible rfl))); simp only [List.set_cons_zero, List.set_cons_succ, List.setIfInBounds_toArray]); (refine Hd.takeE (i := 6) (v := ?_) rfl rfl (by kernel_rfl) (by kernel_rfl) (by kernel_rfl) (by kernel_rfl) (fun _ _ _ h => h) (Or.inl ⟨by rfl, ?_⟩) (by assumption) ?_; rotate_left; (focus (intro wS hS; (try go_split_ands); go_simp; all_goals (with_reducible rfl))); simp only [List.set_cons_zero, List.set_cons_succ, List.setIfInBounds_toArray]); (refine Hd.takeE (i := 7) (v := ?_) rfl rfl (by kernel_rfl) (by kernel_rfl) (by kernel_rfl) (by kernel_rfl) (fun _ _ _ h => h) (Or.inl ⟨by rfl, ?_⟩) (by assumption) ?_; rotate_left; (focus (intro wS hS; (try go_split_ands); go_simp; all_goals (with_reducible rfl))); simp only [List.set_cons_zero, List.set_cons_succ, List.setIfInBounds_toArray]); (refine Hd.takeE (i := 8) (v := ?_) rfl rfl (by kernel_rfl) (by kernel_rfl) (by kernel_rfl) (by kernel_rfl) (fun _ _ _ h => h) (Or.inl ⟨by rfl, ?_⟩) (by assumption) ?_; rotate_left; (focus (intro wS hS; (try go_split_ands); go_simp; all_goals (with_reducible rfl))); simp only [List.set_cons_zero, List.set_cons_succ, List.setIfInBounds_toArray]); (refine Hd.takeE (i := 9) (v := ?_) rfl rfl (by kernel_rfl) (by kernel_rfl) (by kernel_rfl) (by kernel_rfl) (fun _ _ _ h => h) (Or.inl ⟨by rfl, ?_⟩) (by assumption) ?_; rotate_left; (focus (intro wS hS; (try go_split_ands); go_simp; all_goals (with_reducible rfl))); simp only [List.set_cons_zero, List.set_cons_succ, List.setIfInBounds_toArray])
    (refine Hd.readyE (rs := [10]) (by kernel_rfl) (by simp) ?_; refine Hd.AllE.cons (i := 10) rfl (fun K hK => ?_) Hd.AllE.nil; go_simp; refine hK.out _ _ (⟨j0, j1⟩) (fun hHeld => ?_); clear hK K; (try simp only [Act.put, List.setIfInBounds_toArray, List.set_cons_zero, List.set_cons_succ]))
    (refine Hd.readyE (rs := [11]) (by kernel_rfl) (by simp) ?_; refine Hd.AllE.cons (i := 11) rfl (fun K hK => ?_) Hd.AllE.nil; go_simp; refine hK.out _ _ (⟨j0, j1⟩) (fun hHeld => ?_); clear hK K; (try simp only [Act.put, List.setIfInBounds_toArray, List.set_cons_zero, List.set_cons_succ]))
    (refine Hd.readyE (rs := [12]) (by kernel_rfl) (by simp) ?_; refine Hd.AllE.last (i := 12) rfl (fun K hK => ?_); go_simp; refine hK.out _ _ ?_; clear hK K; (try simp only [Act.put, List.setIfInBounds_toArray, List.set_cons_zero, List.set_cons_succ]))
    (refine Hd.endE (by kernel_rfl) ?_ _)
    go_wp2
    go_ret
    have hlt : room ≤ ((⟨b, A4, ss.length, c4⟩ : Kr) :: rrm ts b).length := by simp; omega
    have hrl9 : (rcut room ((⟨b, A4, ss.length, c4⟩ : Kr) :: rrm ts b)).length = room := List.length_take_of_le hlt
    have hbd : (W7.drew.drew).heap[g]? = some (.cells #[.int .i64 (room : Int), .slice A7 ((rrm ts b).length + 1) c7] 62 (0, 0)) := HB7.out
    have hne : ∀ a, A7 = some a → a.block ≠ g := fun a ha e => (HAA.out a ha).2 (e ▸ hTg)
    refine ⟨rfl, ⟨b, A4, ss.length, c4⟩, rfl, rfl, C_same HS7.out (fun a ha => Below.heap_setCell _ _ _ _ (HA7.out a ha).2.2), fun a ha => ⟨by simpa [World.setCell] using (HA7.out a ha).1, (HA7.out a ha).2.1⟩, ⟨A7, c7, ?_, ?_, by rw [hrl9]; omega, fun a ha => ⟨by simpa [World.setCell] using (HAA.out a ha).1, (HAA.out a ha).2⟩⟩, ?_⟩
    · rw [hrl9]
      exact (obj_set hbd 1 _).trans rfl
    · rw [hrl9]
      have hct := Kd.C_take (m := room) HC7.out (by omega)
      rw [List.length_take_of_le hlt] at hct
      exact C_same hct (fun a ha => Below.heap_setCell _ _ _ _ (hne a ha))
    · exact World.grownBy.trans HGR.out (World.grownBy.trans (obj_grown W7 g 1 _) ⟨rfl, rfl, rfl, Nat.le_refl _, fun _ _ _ => rfl⟩)
  · have hdv : decide ((room : Int) < ((rrm ts b).length : Int) + 1) = false := by simp; omega
    have hcut : rcut room ((⟨b, A4, ss.length, c4⟩ : Kr) :: rrm ts b) = (⟨b, A4, ss.length, c4⟩ : Kr) :: rrm ts b := List.take_of_length_le (by simp; omega)
    have HCUT := Aside0.mk hcut
    clear hcut
    go_wp2_with fail
    (refine Hd.startE (S := (fun X => X.cell? ⟨g, 0, none⟩ = some (.int .i64 (room : Int)) ∧ X.cell? ⟨g, 1, none⟩ = some (.slice A7 ((rrm ts b).length + 1) c7))) 1000 (by kernel_rfl) (⟨j0, j1⟩) (fun hHeld => ?_))
    (refine Hd.takeE (i := 0) (v := ?_) rfl rfl (by kernel_rfl) (by kernel_rfl) (by kernel_rfl) (by kernel_rfl) (fun _ _ _ h => h) (Or.inl ⟨by rfl, ?_⟩) (by assumption) ?_; rotate_left; (focus (intro wS hS; (try go_split_ands); go_simp; all_goals (with_reducible rfl))); simp only [List.set_cons_zero, List.set_cons_succ, List.setIfInBounds_toArray]); (refine Hd.takeE (i := 1) (v := ?_) rfl rfl (by kernel_rfl) (by kernel_rfl) (by kernel_rfl) (by kernel_rfl) (fun _ _ _ h => h) (Or.inl ⟨by rfl, ?_⟩) (by assumption) ?_; rotate_left; (focus (intro wS hS; (try go_split_ands); go_simp; all_goals (with_reducible rfl))); simp only [List.set_cons_zero, List.set_cons_succ, List.setIfInBounds_toArray]); (refine Hd.takeE (i := 2) (v := ?_) rfl rfl (by kernel_rfl) (by kernel_rfl) (by kernel_rfl) (by kernel_rfl) (fun _ _ _ h => h) (Or.inl ⟨by rfl, ?_⟩) (by assumption) ?_; rotate_left; (focus (intro wS hS; (try go_split_ands); go_simp; all_goals (with_reducible rfl))); simp only [List.set_cons_zero, List.set_cons_succ, List.setIfInBounds_toArray]); (refine Hd.takeE (i := 3) (v := ?_) rfl rfl (by kernel_rfl) (by kernel_rfl) (by kernel_rfl) (by kernel_rfl) (fun _ _ _ h => h) (Or.inl ⟨by rfl, ?_⟩) (by assumption) ?_; rotate_left; (focus (intro wS hS; (try go_split_ands); go_simp; all_goals (with_reducible rfl))); simp only [List.set_cons_zero, List.set_cons_succ, List.setIfInBounds_toArray]); (refine Hd.takeE (i := 4) (v := ?_) rfl rfl (by kernel_rfl) (by kernel_rfl) (by kernel_rfl) (by kernel_rfl) (fun _ _ _ h => h) (Or.inl ⟨by rfl, ?_⟩) (by assumption) ?_; rotate_left; (focus (intro wS hS; (try go_split_ands); go_simp; all_goals (with_reducible rfl))); simp only [List.set_cons_zero, List.set_cons_succ, List.setIfInBounds_toArray]); (refine Hd.takeE (i := 5) (v := ?_) rfl rfl (by kernel_rfl) (by kernel_rfl) (by kernel_rfl) (by kernel_rfl) (fun _ _ _ h => h) (Or.inl ⟨by rfl, ?_⟩) (by assumption) ?_; rotate_left; (focus (intro wS hS; (try go_split_ands); go_simp; all_goals (with_reducible rfl))); simp only [List.set_cons_zero, List.set_cons_succ, List.setIfInBounds_toArray]); (refine Hd.takeE (i := 6) (v := ?_) rfl rfl (by kernel_rfl) (by kernel_rfl) (by kernel_rfl) (by kernel_rfl) (fun _ _ _ h => h) (Or.inl ⟨by rfl, ?_⟩) (by assumption) ?_; rotate_left; (focus (intro wS hS; (try go_split_ands); go_simp; all_goals (with_reducible rfl))); simp only [List.set_cons_zero, List.set_cons_succ, List.setIfInBounds_toArray]); (refine Hd.takeE (i := 7) (v := ?_) rfl rfl (by kernel_rfl) (by kernel_rfl) (by kernel_rfl) (by kernel_rfl) (fun _ _ _ h => h) (Or.inl ⟨by rfl, ?_⟩) (by assumption) ?_; rotate_left; (focus (intro wS hS; (try go_split_ands); go_simp; all_goals (with_reducible rfl))); simp only [List.set_cons_zero, List.set_cons_succ, List.setIfInBounds_toArray]); (refine Hd.takeE (i := 8) (v := ?_) rfl rfl (by kernel_rfl) (by kernel_rfl) (by kernel_rfl) (by kernel_rfl) (fun _ _ _ h => h) (Or.inl ⟨by rfl, ?_⟩) (by assumption) ?_; rotate_left; (focus (intro wS hS; (try go_split_ands); go_simp; all_goals (with_reducible rfl))); simp only [List.set_cons_zero, List.set_cons_succ, List.setIfInBounds_toArray]); (refine Hd.takeE (i := 9) (v := ?_) rfl rfl (by kernel_rfl) (by kernel_rfl) (by kernel_rfl) (by kernel_rfl) (fun _ _ _ h => h) (Or.inl ⟨by rfl, ?_⟩) (by assumption) ?_; rotate_left; (focus (intro wS hS; (try go_split_ands); go_simp; all_goals (with_reducible rfl))); simp only [List.set_cons_zero, List.set_cons_succ, List.setIfInBounds_toArray])
    (refine Hd.endE (by kernel_rfl) ?_ _)
    go_wp2
    go_ret
    obtain ⟨A8, c8, hb8, hC8, hc8, hA8⟩ := HCR.out
    refine ⟨rfl, ⟨b, A4, ss.length, c4⟩, rfl, rfl, C_same HS7.out (fun _ _ => rfl), fun a ha => ⟨(HA7.out a ha).1, (HA7.out a ha).2.1⟩, ?_, ?_⟩
    · rw [HCUT.out]
      exact ⟨A8, c8, hb8, C_same hC8 (fun _ _ => rfl), hc8, hA8⟩
    · exact World.grownBy.trans HGR.out ⟨rfl, rfl, rfl, Nat.le_refl _, fun _ _ _ => rfl⟩
end Go.Proofs.Ytocmljijdecilaa.CaPr
