/- The law's live: it answers true. -/
import Derived.Test.YtocmljijdecilaaCaPy
namespace Go.Proofs.Ytocmljijdecilaa.CaLv
open Go Go.RowKit Go.Proofs.YtocmljijdecilaaW.PrintWords Go.Proofs.Ytocmljijdecilaa.K Go.Proofs.Ytocmljijdecilaa.CaS Go.Proofs.Ytocmljijdecilaa.CaC Go.Proofs.Ytocmljijdecilaa.CaD Go.Proofs.Ytocmljijdecilaa.CaB2 Go.Proofs.Ytocmljijdecilaa.CaO Go.Proofs.Ytocmljijdecilaa.CaP Go.Proofs.Ytocmljijdecilaa.CaQ Go.Proofs.Ytocmljijdecilaa.CaR Go.Proofs.Ytocmljijdecilaa.CaM Go.Proofs.Ytocmljijdecilaa.CaN Go.Proofs.Ytocmljijdecilaa.CaDo
set_option linter.unusedVariables false
set_option linter.unusedSimpArgs false
def sa : List Int := [1, 0, 0, 0, 0, 0, 0, 0, 0, 0, 0, 0, 0, 0, 0, 0, 0, 0, 0, 0, 0, 0, 0, 0, 0, 0, 0, 0, 0, 0, 0, 0]
def sb : List Int := [2, 0, 0, 0, 0, 0, 0, 0, 0, 0, 0, 0, 0, 0, 0, 0, 0, 0, 0, 0, 0, 0, 0, 0, 0, 0, 0, 0, 0, 0, 0, 0]
theorem oka : OkSum sa := ⟨rfl, by unfold sa; decide⟩
theorem okb : OkSum sb := ⟨rfl, by unfold sb; decide⟩
theorem sums2 (w : World) : dSum.C (w.alloc (.cells (nums .u8 sa ++ nums .u8 sb).toArray 35)) (some ⟨w.heap.size, 0, none⟩) 2 [sa, sb] := by
  have hh := heap_alloc_new w (.cells (nums .u8 sa ++ nums .u8 sb).toArray 35)
  refine ⟨rfl, by decide, fun _ => ⟨_, rfl, fun j x hj => ?_⟩⟩
  match j, hj with
  | 0, hj =>
    injection hj with hj
    subst hj
    exact ⟨nums .u8 sa, rfl, ⟨oka, rfl⟩, fun i u hu => by
      rw [addr0]
      refine obj_cell hh _ ?_
      rw [List.getElem?_toArray, show 0 * dSum.sz + i = i by omega, List.getElem?_append_left (List.getElem?_eq_some_iff.1 hu).1]
      exact hu⟩
  | 1, hj =>
    injection hj with hj
    subst hj
    exact ⟨nums .u8 sb, rfl, ⟨okb, rfl⟩, fun i u hu => by
      rw [addr0]
      refine obj_cell hh _ ?_
      rw [List.getElem?_toArray, show 1 * dSum.sz + i = (nums .u8 sa).length + i from by show 1 * 32 + i = 32 + i; omega, List.getElem?_append_right (by omega), Nat.add_sub_cancel_left]
      exact hu⟩
theorem sums1 (w : World) (s : Sm) (h : OkSum s) : dSum.C (w.alloc (.cells (nums .u8 s).toArray 35)) (some ⟨w.heap.size, 0, none⟩) 1 [s] := by
  have hh := heap_alloc_new w (.cells (nums .u8 s).toArray 35)
  refine ⟨rfl, by decide, fun _ => ⟨_, rfl, fun j x hj => ?_⟩⟩
  match j, hj with
  | 0, hj =>
    injection hj with hj
    subst hj
    exact ⟨nums .u8 s, by simp only [nums, List.length_map]; exact h.1, ⟨h, rfl⟩, fun i u hu => by
      rw [addr0]
      refine obj_cell hh _ ?_
      rw [List.getElem?_toArray, Nat.zero_mul, Nat.zero_add]
      exact hu⟩
theorem range_grown {w w1 : World} {b o : Nat} {cs : List Value} {row : Option Nat} (h : w.rangeAt b o cs) (hg : w.grownBy w1 row) (hne : some b ≠ row) : w1.rangeAt b o cs := fun j v hj => by
  have h1 := h j v hj
  rw [← h1]
  unfold World.cell?
  rw [hg.block b (World.block_lt_of_cell? _ _ h1) hne]
theorem pa : putX 1 [] 3 [sa, sb] = [(3, [sa, sb])] := by decide
theorem fa : findX [(3, [sa, sb])] sb = some (0, 1) := by decide
theorem ma : moveX [((3 : Int), [sa, sb])] 0 = [(3, [sa, sb])] := rfl
theorem pb : putX 1 [(3, [sa, sb])] 4 [sa] = [(4, [sa])] := by decide
theorem fb : findX [(4, [sa])] sb = none := by decide
theorem g1 : CaM.Good 1 [((3 : Int), [sa, sb])] := ⟨by decide, by decide, by decide⟩
set_option maxHeartbeats 8000000 in
set_option maxRecDepth 100000 in
theorem live_calls (w : World) : Calls Try.prog 10 #[] w fun e w' => e = .returned (.bool true) ∧ Below w.heap.size w w' := by
  have HU := Aside0.mk Try.underlying35
  have HIA := Aside0.mk (infoSmS sa oka)
  have HIB := Aside0.mk (infoSmS sb okb)
  obtain ⟨W2, hW2⟩ : ∃ W2, W2 = ((w.alloc (.cells #[.int .i64 1, .slice none 0 0] 59)).alloc (.cells sumZ 35)).alloc (.cells sumZ 35) := ⟨_, rfl⟩
  have hz2 : W2.heap.size = w.heap.size + 3 := by rw [hW2]; simp
  have h21 : W2.heap[w.heap.size + 1]? = some (.cells sumZ 35 (0, 0)) := by rw [hW2]; exact CaF.old_al (CaF.new_at _ _ _ (by simp))
  have h22 : W2.heap[w.heap.size + 1 + 1]? = some (.cells sumZ 35 (0, 0)) := by rw [hW2]; exact CaF.new_at _ _ _ (by simp)
  have there : ∀ (W : World) (b : Nat), W.heap[b]? = some (.cells sumZ 35 (0, 0)) → W.there b 0 32 := fun W b h j hj => by
    refine ⟨?_, obj_free h _⟩
    rw [cell_of_row _ _ _ _ _ _ h]
    have : j < sumZ.size := by simp [sumZ]; omega
    simp [this]
  obtain ⟨W3, hW3⟩ : ∃ W3, W3 = W2.setCells (w.heap.size + 1) 0 (nums .u8 sa) := ⟨_, rfl⟩
  have h32 : W3.heap[w.heap.size + 1 + 1]? = some (.cells sumZ 35 (0, 0)) := by rw [hW3]; exact (setCells_far _ 0 _ (by omega)).trans h22
  obtain ⟨W4, hW4⟩ : ∃ W4, W4 = W3.setCells (w.heap.size + 1 + 1) 0 (nums .u8 sb) := ⟨_, rfl⟩
  have HT1 := Aside0.mk (there W2 _ h21)
  have HT2 := Aside0.mk (there W3 _ h32)
  have r3 : W3.rangeAt (w.heap.size + 1) 0 (nums .u8 sa) := by rw [hW3]; exact World.rangeAt_setCells_same _ _ _ _ (there W2 _ h21)
  have HRA : Aside0 (W4.rangeAt (w.heap.size + 1) 0 (nums .u8 sa)) := ⟨by rw [hW4]; exact World.rangeAt_setCells_apart r3 _ _ _ (.inl (by omega))⟩
  have HRB : Aside0 (W4.rangeAt (w.heap.size + 1 + 1) 0 (nums .u8 sb)) := ⟨by rw [hW4]; exact World.rangeAt_setCells_same _ _ _ _ (there W3 _ h32)⟩
  have q3 := setCells_same (w.heap.size + 1) (nums .u8 sa) 0 W2
  have q4 := setCells_same (w.heap.size + 1 + 1) (nums .u8 sb) 0 W3
  rw [← hW3] at q3
  rw [← hW4] at q4
  have hb2 : Below w.heap.size w W2 := by rw [hW2]; exact below_alloc (below_alloc (below_alloc (Below.refl _ _) _) _) _
  have HB4 : Aside0 (Below w.heap.size w W4) := ⟨hb2.trans ⟨q4.1.trans q3.1, q4.2.1.trans q3.2.1, q4.2.2.1.trans q3.2.2.1, by omega, fun j hj => by rw [hW4, setCells_far _ 0 j (by omega), hW3, setCells_far _ 0 j (by omega)]⟩⟩
  have hg4 : W4.heap[w.heap.size]? = some (.cells #[.int .i64 1, .slice none 0 0] 59 (0, 0)) := by
    rw [hW4, setCells_far _ 0 _ (by omega), hW3, setCells_far _ 0 _ (by omega), hW2]
    exact CaF.old_al (CaF.old_al (heap_alloc_new w _))
  have HX4 : Aside0 (XS W4 (fun k => k = w.heap.size) w.heap.size (1 : Nat) []) := ⟨⟨[], ⟨none, 0, hg4, ⟨rfl, by decide, fun h => absurd h (Nat.lt_irrefl 0)⟩, Nat.le_refl _, fun a ha => by cases ha⟩, .nil⟩⟩
  have hz4 : W4.heap.size = w.heap.size + 3 := by omega
  have HW2 := Aside0.mk hW2
  have HW3 := Aside0.mk hW3
  have HW4 := Aside0.mk hW4
  have HOA := Aside0.mk (sum_one sa)
  have HOB := Aside0.mk (sum_one sb)
  clear hW2 hW3 hW4 h21 h22 h32 there r3 q3 q4 hb2 hg4
  go_enter Try.func10, Try.ntmps10
  go_wp2_with fail
  rename_i K1 h1 K0 h0
  refine (new_ok 1 (by omega) (by omega) _).mono ?_
  rintro e W1 ⟨rfl, rfl⟩
  refine h0 _ _ ?_
  clear h0 K0
  iterate 5 (refine wpList_step (fun K hK => ?_); go_simp; refine hK _ _ ?_; clear hK K)
  refine wpList_nil ?_
  refine h1 _ _ ?_
  clear h1 K1
  refine wp_seq_k (fun K2 h2 => ?_)
  refine wp_region_lit ?_
  iterate 2 (refine wpList_step (fun K hK => ?_); go_simp; refine hK _ _ ?_; clear hK K)
  iterate 2 (refine Hd.step_run rfl (Hd.exec_alloc _ rfl _ (zeroSm _)) ?_; (try simp only [Act.put, List.setIfInBounds_toArray, List.set_cons_zero, List.set_cons_succ, World.size_alloc]))
  have hth := HT1.out
  rw [HW2.out] at hth
  refine wpList_store_mid rfl _ _ _ rfl (w.heap.size + 1) 0 (nums .u8 sa).toArray rfl rfl hth HIA.out HOA.out ?_
  clear hth
  rw [show (((w.alloc (.cells #[.int .i64 1, .slice none 0 0] 59)).alloc (.cells (Value.agg sumZ).cells 35)).alloc (.cells (Value.agg sumZ).cells 35)).setCells (w.heap.size + 1) 0 (nums .u8 sa).toArray.toList = W3 from by rw [HW3.out, HW2.out]; rfl]
  (try simp only [Act.put])
  refine wpList_store_mid rfl _ _ _ rfl (w.heap.size + 1 + 1) 0 (nums .u8 sb).toArray rfl rfl HT2.out HIB.out HOB.out ?_
  rw [show W3.setCells (w.heap.size + 1 + 1) 0 (nums .u8 sb).toArray.toList = W4 from by rw [HW4.out]]
  (try simp only [Act.put])
  refine wpList_nil ?_
  refine h2 _ _ ?_
  clear h2 K2
  refine wp_seq_k (fun K2 h2 => ?_)
  refine wp_seq_k (fun K3 h3 => ?_)
  refine wp_region_lit ?_
  iterate 8 (refine wpList_step (fun K hK => ?_); go_simp; refine hK _ _ ?_; clear hK K)
  (refine wpList_step (fun K hK => ?_); refine Hd.load_wanted (by rfl) _ (.tmp 3) rfl (w.heap.size + 1) 0 rfl (nums .u8 sa) _ HRA.out HU.out rfl HIA.out ?_; refine hK _ _ ?_; clear hK K; (try simp only [Act.put, List.setIfInBounds_toArray, List.set_cons_zero, List.set_cons_succ]))
  (refine wpList_step (fun K hK => ?_); refine Hd.load_wanted (by rfl) _ (.tmp 4) rfl (w.heap.size + 1 + 1) 0 rfl (nums .u8 sb) _ HRB.out HU.out rfl HIB.out ?_; refine hK _ _ ?_; clear hK K; (try simp only [Act.put, List.setIfInBounds_toArray, List.set_cons_zero, List.set_cons_succ]))
  have hxn : ∀ W, Below W4.heap.size W4 W → XS W (fun k => k = w.heap.size) w.heap.size (1 : Nat) [] := fun W hW => HX4.out.below hW
  iterate 1 (refine wpList_step (fun K hK => ?_); go_simp; refine hK _ _ ?_; clear hK K)
  (refine wpList_step (fun K hK => ?_); go_simp)
  generalize hq : List.foldl (fun (cs : Array Value) (x : Value × Nat) => cs.setIfInBounds (32 + x.snd) x.fst) _ _ = Q
  have hq2 : Q = (nums .u8 sa ++ nums .u8 sb).toArray := by rw [← hq]; rfl
  clear hq
  subst hq2
  have hbp : Below W4.heap.size W4 (W4.alloc (.cells (nums .u8 sa ++ nums .u8 sb).toArray 35)) := below_alloc (Below.refl _ _) _
  have hput := x_put (hxn _ hbp) (CaM.good_nil 1) (by omega) (fun k hk => by rw [hk]; have := hbp.size; omega) rfl 3 (by omega) (by omega) (some ⟨w.heap.size + 3, 0, none⟩) 2 2 [sa, sb] (by rw [← hz4]; exact sums2 W4) (by omega) (fun _ a ha => by injection ha with ha; subst ha; show w.heap.size + 3 ≠ w.heap.size; omega)
  refine hput.mono ?_
  rintro e w5 ⟨rfl, hx5, hg5⟩
  refine hK _ _ ?_
  clear hK K hput hxn
  (try simp only [Act.put, List.setIfInBounds_toArray, List.set_cons_zero, List.set_cons_succ])
  rw [pa] at hx5
  have HX5 := Aside0.mk hx5
  have HG5 : Aside0 (W4.grownBy w5 (some w.heap.size)) := ⟨World.grownBy.trans (grown_below hbp) hg5⟩
  have HRA5 := Aside0.mk (range_grown HRA.out HG5.out (fun e => by injection e with e; omega))
  have HRB5 := Aside0.mk (range_grown HRB.out HG5.out (fun e => by injection e with e; omega))
  have HZ5 := Aside0.mk HG5.out.size
  clear hx5 hg5 hbp
  iterate 2 (refine wpList_step (fun K hK => ?_); go_simp; refine hK _ _ ?_; clear hK K)
  refine wpList_nil ?_
  refine h3 _ _ ?_
  clear h3 K3
  go_wp2_with ((with_reducible refine gate_ (.load 35 (.tmp 4)) rfl ?_); refine wpList_load_mid rfl _ (.tmp 4) rfl (w.heap.size + 1 + 1) 0 rfl (nums .u8 sb) _ HRB5.out HU.out rfl HIB.out ?_)
  have hgw : w.heap.size < w5.heap.size := HX5.out.lt
  refine (x_find HX5.out (by decide) (fun k hk => by rw [hk]; exact hgw) rfl sb okb).mono ?_
  rintro e w6 (⟨h6, _⟩ | ⟨i, j, h6, rfl, hx6, hg6⟩)
  · rw [fa] at h6; cases h6
  rw [fa] at h6
  injection h6 with h6
  injection h6 with e1 e2
  subst e1
  subst e2
  rw [ma] at hx6
  have HX6 := Aside0.mk hx6
  have HG6 := Aside0.mk (World.grownBy.trans HG5.out hg6)
  have HRA6 := Aside0.mk (range_grown HRA.out HG6.out (fun e => by injection e with e; omega))
  have HRB6 := Aside0.mk (range_grown HRB.out HG6.out (fun e => by injection e with e; omega))
  have hgw6 : w.heap.size < w6.heap.size := HX6.out.lt
  clear hx6 hg6
  go_wp2_with ((with_reducible refine gate_ (.load 35 (.tmp 3)) rfl ?_); refine wpList_load_mid rfl _ (.tmp 3) rfl (w.heap.size + 1) 0 rfl (nums .u8 sa) _ HRA6.out HU.out rfl HIA.out ?_)
  generalize hq : List.foldl (fun (cs : Array Value) (x : Value × Nat) => cs.setIfInBounds x.snd x.fst) _ _ = Q
  have hq2 : Q = (nums .u8 sa).toArray := by rw [← hq]; rfl
  clear hq
  subst hq2
  have hbp : Below w6.heap.size w6 (w6.alloc (.cells (nums .u8 sa).toArray 35)) := below_alloc (Below.refl _ _) _
  refine (x_put (HX6.out.below hbp) g1 (by omega) (fun k hk => by rw [hk]; have := hbp.size; omega) rfl 4 (by omega) (by omega) (some ⟨w6.heap.size, 0, none⟩) 1 1 [sa] (sums1 w6 sa oka) (by omega) (fun _ a ha => by injection ha with ha; subst ha; show w6.heap.size ≠ w.heap.size; omega)).mono ?_
  rintro e w7 ⟨rfl, hx7, hg7⟩
  rw [pb] at hx7
  have HX7 := Aside0.mk hx7
  have HG7 : Aside0 (W4.grownBy w7 (some w.heap.size)) := ⟨World.grownBy.trans HG6.out (World.grownBy.trans (grown_below hbp) hg7)⟩
  have HRB7 := Aside0.mk (range_grown HRB.out HG7.out (fun e => by injection e with e; omega))
  have hgw7 : w.heap.size < w7.heap.size := HX7.out.lt
  clear hx7 hg7 hbp
  go_wp2_with ((with_reducible refine gate_ (.load 35 (.tmp 4)) rfl ?_); refine wpList_load_mid rfl _ (.tmp 4) rfl (w.heap.size + 1 + 1) 0 rfl (nums .u8 sb) _ HRB7.out HU.out rfl HIB.out ?_)
  refine (x_find HX7.out (by decide) (fun k hk => by rw [hk]; exact hgw7) rfl sb okb).mono ?_
  rintro e w8 (⟨h8, rfl, hg8⟩ | ⟨i, j, h8, _⟩)
  rotate_left
  · rw [fb] at h8; cases h8
  have hb8 : Below w7.heap.size w7 w8 := ⟨hg8.os, hg8.tape, hg8.output, hg8.size, fun k hk => hg8.block k hk (fun e => by cases e)⟩
  have HX8 := Aside0.mk (HX7.out.below hb8)
  have HB8 := Aside0.mk hb8
  clear hb8 hg8 h8
  go_wp2_with fail
  refine (x_sums HX8.out (by decide)).mono ?_
  rintro e w9 ⟨rfl, hb9⟩
  have HB9 := Aside0.mk hb9
  clear hb9
  rw [show sumLen [((4 : Int), [sa])] = 1 from rfl]
  go_wp2
  go_ret
  have hb47 : Below w.heap.size w w7 := ⟨HG7.out.os.trans HB4.out.os, HG7.out.tape.trans HB4.out.tape, HG7.out.output.trans HB4.out.output, Nat.le_trans HB4.out.size HG7.out.size, fun k hk => (HG7.out.block k (by omega) (fun e => by injection e with e; omega)).trans (HB4.out.block k hk)⟩
  exact ⟨rfl, below_then (below_then hb47 (by omega) HB8.out) (Nat.le_trans (by omega) HB8.out.size) HB9.out⟩
end Go.Proofs.Ytocmljijdecilaa.CaLv
