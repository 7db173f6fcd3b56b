/- A container taken out of the cache's row; condition: the struct and its row lie apart. -/
import Derived.Test.YtocmljijdecilaaCaA
namespace Go.Proofs.Ytocmljijdecilaa.CaO
open Go Go.RowKit Go.Proofs.YtocmljijdecilaaW.PrintWords Go.Proofs.Ytocmljijdecilaa.K Go.Proofs.Ytocmljijdecilaa.Mp Go.Proofs.Ytocmljijdecilaa.Eq Go.Proofs.Ytocmljijdecilaa.CaS Go.Proofs.Ytocmljijdecilaa.CaC Go.Proofs.Ytocmljijdecilaa.CaD Go.Proofs.Ytocmljijdecilaa.CaA
set_option linter.unusedVariables false
set_option linter.unusedSimpArgs false
theorem infoKnS : (Try.prog.info? 68).map (·.size) = some 3 := by kernel_rfl
theorem grown_new {w w1 w2 : World} {r : Option Nat} {b : Nat} (h : w.grownBy w1 r) (h2 : w1.grownBy w2 (some b)) (hb : w.heap.size ≤ b) : w.grownBy w2 r :=
  ⟨h2.os.trans h.os, h2.tape.trans h.tape, h2.output.trans h.output, Nat.le_trans h.size h2.size, fun k hk hne => (h2.block k (Nat.lt_of_lt_of_le hk h.size) (fun e => by injection e with e; omega)).trans (h.block k hk hne)⟩
theorem grown_old {w w1 : World} {r : Option Nat} (h : w.grownBy w1 none) : w.grownBy w1 r := ⟨h.os, h.tape, h.output, h.size, fun k hk _ => h.block k hk (fun e => by cases e)⟩
theorem grown_below {w w1 : World} {r : Option Nat} (h : Below w.heap.size w w1) : w.grownBy w1 r := ⟨h.os, h.tape, h.output, h.size, fun k hk _ => h.block k hk⟩
set_option maxHeartbeats 4000000 in
set_option maxRecDepth 100000 in
theorem out_calls {w : World} {T : Nat → Prop} {g : Nat} {room : Int} {ts : List Kn} (h : Ca w T g room ts) (i : Nat) (hi : i < ts.length) (hn : ts.length ≤ 1000) (hT : ∀ k, T k → k < w.heap.size) : Calls Try.prog 28 #[.pointer (some ⟨g, 0, none⟩), .int .i64 i] w fun e w' => (∃ v, e = .returned v) ∧ Ca w' T g room (ts.take i ++ ts.drop (i + 1)) ∧ w.grownBy w' (some g) := by
  obtain ⟨A, c, hg, hC, hc, hA⟩ := h
  obtain ⟨ad, rfl, b0, b1, b2⟩ := kn_at hC i hi
  generalize hk : ts.getD i default = k at *
  obtain ⟨kb, ka, kn, kc, km⟩ := k
  clear hk
  simp only at b0 b1 b2
  have hgl := (Array.getElem?_eq_some_iff.1 hg).1
  have hal : Below w.heap.size w ((w.alloc (.cells #[.int .i64 0, .slice none 0 0, .map none] 68)).alloc (.cells #[.int .i64 kb, .slice ka kn kc, .map (some km)] 68)) := below_alloc (below_alloc (Below.refl w.heap.size w) _) _
  have hp1 : (0 : Int) ≤ (i : Int) := by omega
  have hp2 : (i : Int) < (ts.length : Int) := by omega
  have b0' := (hal.cell (World.block_lt_of_cell? _ _ b0)).trans b0
  have hbl := (World.block_lt_of_cell? _ _ b0)
  have a1 := obj_cell hg 1 (v := .slice (some ad) ts.length c) rfl
  have hal1 := below_alloc (Below.refl w.heap.size w) (.cells #[.int .i64 0, .slice none 0 0, .map none] 68)
  have d0 := (hal1.cell (World.block_lt_of_cell? _ _ b0)).trans b0
  have d1 := (hal1.cell (p := ⟨(ad.add (i * 3)).block, (ad.add (i * 3)).off + 1, none⟩) hbl).trans b1
  have d2 := (hal1.cell (p := ⟨(ad.add (i * 3)).block, (ad.add (i * 3)).off + 2, none⟩) hbl).trans b2
  have a1a := (hal1.cell (p := ⟨g, 1, none⟩) hgl).trans a1
  have a1b := (hal.cell (p := ⟨g, 1, none⟩) hgl).trans a1
  have HCL := Aside0.mk (cloneKn (some ad) ts.length c ts _ (Kd.C_below hC hal) (by omega))
  have HAL := Aside0.mk hal
  have HG := Aside0.mk hg
  clear hal1 b0 b1 b2 b0' hC hA a1
  go_enter Try.func28, Try.ntmps28
  go_wp2_with (go_at_call 25; (with_reducible refine (HCL.out).mono ?_); rintro e w' ⟨v1, rfl, ho1, hb1⟩; obtain ⟨g2, cap2, rfl, hg2b, hg2l, cur2, hcur2⟩ := Kd.R_form ho1 (by omega);)
  have hs2 : ((w.alloc (.cells #[.int .i64 0, .slice none 0 0, .map none] 68)).alloc (.cells #[.int .i64 kb, .slice ka kn kc, .map (some km)] 68)).heap.size = w.heap.size + 2 := by simp
  rw [hs2] at hg2b
  have hRR := Kd.R_reads' ho1
  obtain ⟨inner, hown⟩ := Kd.R_own ho1
  have hcm : cap2 ≤ maxLen := by
    rcases hown.2 with ⟨hv, _⟩ | ⟨g', cap', cur', hv, _, _, _, hcm, _⟩
    · cases hv
    · injection hv with _ _ e3
      rw [e3]; exact hcm
  unfold maxLen at hcm
  have hcp := hRR.2.1
  have hD := del_calls hRR.2.2 hcur2 hi hRR.2.1 (by omega)
  refine hD.mono ?_
  rintro e2 w2 ⟨rfl, hC2, hG2⟩
  have hb1' := below_then HAL.out HAL.out.size hb1
  have old : ∀ k, k < w.heap.size → w2.heap[k]? = w.heap[k]? := fun k hk => (hG2.block k (Nat.lt_of_lt_of_le hk (Nat.le_trans (by omega) (Nat.le_of_lt hg2l))) (fun e => by injection e with e; omega)).trans (hb1'.block k hk)
  have hwa0 : ((w.alloc (.cells #[.int .i64 0, .slice none 0 0, .map none] 68)).alloc (.cells #[.int .i64 kb, .slice ka kn kc, .map (some km)] 68)).heap[w.heap.size]? = some (.cells #[.int .i64 0, .slice none 0 0, .map none] 68 (0, 0)) :=
    (Below.heap_alloc _ _ _ (by simp)).trans (heap_alloc_new w _)
  have hwa1 : ((w.alloc (.cells #[.int .i64 0, .slice none 0 0, .map none] 68)).alloc (.cells #[.int .i64 kb, .slice ka kn kc, .map (some km)] 68)).heap[w.heap.size + 1]? = some (.cells #[.int .i64 kb, .slice ka kn kc, .map (some km)] 68 (0, 0)) := by
    have := heap_alloc_new (w.alloc (.cells #[.int .i64 0, .slice none 0 0, .map none] 68)) (.cells #[.int .i64 kb, .slice ka kn kc, .map (some km)] 68)
    rwa [World.size_alloc] at this
  have mid : ∀ k, k < w.heap.size + 2 → w2.heap[k]? = ((w.alloc (.cells #[.int .i64 0, .slice none 0 0, .map none] 68)).alloc (.cells #[.int .i64 kb, .slice ka kn kc, .map (some km)] 68)).heap[k]? := fun k hk => (hG2.block k (by omega) (fun e => by injection e with e; omega)).trans (hb1.block k (by rw [hs2]; exact hk))
  have HP : Aside0 (w.grownBy w2 (some g)) := ⟨grown_new (grown_below hb1') hG2 (by omega)⟩
  have q0 := (mid w.heap.size (by omega)).trans hwa0
  have q1 := (mid (w.heap.size + 1) (by omega)).trans hwa1
  have qg := (old g hgl).trans hg
  have HC2 := Aside0.mk hC2
  have HG2B := Aside0.mk hg2b
  have HG2L := Aside0.mk (Nat.lt_of_lt_of_le hg2l hG2.size)
  clear hwa0 hwa1 mid old hD hown hRR ho1 hcur2 hC2 hG2 hb1 hb1' hal hs2 HAL a1a a1b d0 d1 d2 hg2b hg2l
  have hv : ∀ u, (w2.setCell ⟨g, 1, none⟩ u).heap[w.heap.size]? = some (.cells #[.int .i64 0, .slice none 0 0, .map none] 68 (0, 0)) := fun u => (Below.heap_setCell _ _ _ _ (by show w.heap.size ≠ g; omega)).trans q0
  have hv1 : ∀ u, (w2.setCell ⟨g, 1, none⟩ u).heap[w.heap.size + 1]? = some (.cells #[.int .i64 kb, .slice ka kn kc, .map (some km)] 68 (0, 0)) := fun u => (Below.heap_setCell _ _ _ _ (by show w.heap.size + 1 ≠ g; omega)).trans q1
  have HHG := Aside0.mk (obj_set qg 1 (.slice (some ⟨g2, 0, none⟩) (ts.length - 1) cap2))
  have hgr := obj_grown w2 g 1 (.slice (some ⟨g2, 0, none⟩) (ts.length - 1) cap2)
  have hc1 := obj_cell qg 1 (v := .slice (some ad) ts.length c) rfl
  have hf1 := obj_free qg 1
  have l0 := obj_cell (hv1 (.slice (some ⟨g2, 0, none⟩) (ts.length - 1) cap2)) 0 (v := .int .i64 kb) rfl
  have l1 := obj_cell (hv1 (.slice (some ⟨g2, 0, none⟩) (ts.length - 1) cap2)) 1 (v := .slice ka kn kc) rfl
  have l2 := obj_cell (hv1 (.slice (some ⟨g2, 0, none⟩) (ts.length - 1) cap2)) 2 (v := .map (some km)) rfl
  have m0 := obj_cell (hv (.slice (some ⟨g2, 0, none⟩) (ts.length - 1) cap2)) 0 (v := .int .i64 0) rfl
  have m1 := obj_cell (hv (.slice (some ⟨g2, 0, none⟩) (ts.length - 1) cap2)) 1 (v := .slice none 0 0) rfl
  have m2 := obj_cell (hv (.slice (some ⟨g2, 0, none⟩) (ts.length - 1) cap2)) 2 (v := .map none) rfl
  have f0 := obj_free (hv (.slice (some ⟨g2, 0, none⟩) (ts.length - 1) cap2)) 0
  have f1 := obj_free (hv (.slice (some ⟨g2, 0, none⟩) (ts.length - 1) cap2)) 1
  have f2 := obj_free (hv (.slice (some ⟨g2, 0, none⟩) (ts.length - 1) cap2)) 2
  have HGR := Aside0.mk hgr
  have HV := Aside0.mk (hv (.slice (some ⟨g2, 0, none⟩) (ts.length - 1) cap2))
  clear hv hv1 q0 q1 qg hgr
  go_wp2
  have e1 := obj_set (obj_set (obj_set HV.out 0 (.int .i64 kb)) 1 (.slice ka kn kc)) 2 (.map (some km))
  refine bodyPost_ret (results_cell_row rfl _ _ w.heap.size 68 _ (0, 0) _ rfl e1 Try.underlying68 rfl infoKnS) rfl ?_
  have hne : g ≠ w.heap.size := by omega
  have hne2 : g2 ≠ w.heap.size := by have := HG2B.out; omega
  have hne3 : g2 ≠ g := by have := HG2B.out; omega
  refine ⟨⟨_, rfl⟩, ⟨some ⟨g2, 0, none⟩, cap2, ?_, ?_, ?_, fun a ha => ?_⟩, ?_⟩
  · rw [Below.heap_setCell _ _ _ _ hne, Below.heap_setCell _ _ _ _ hne, Below.heap_setCell _ _ _ _ hne, HHG.out]
    have : (ts.take i ++ ts.drop (i + 1)).length = ts.length - 1 := by rw [List.length_append, List.length_take, List.length_drop]; omega
    rw [this]
    rfl
  · have hlen : (ts.take i ++ ts.drop (i + 1)).length = ts.length - 1 := by rw [List.length_append, List.length_take, List.length_drop]; omega
    rw [hlen]
    refine C_same HC2.out (fun a ha => ?_)
    injection ha with ha
    subst ha
    rw [Below.heap_setCell _ _ _ _ hne2, Below.heap_setCell _ _ _ _ hne2, Below.heap_setCell _ _ _ _ hne2, Below.heap_setCell _ _ _ _ hne3]
  · rw [List.length_append, List.length_take, List.length_drop]
    have := HC2.out.1
    omega
  · injection ha with ha
    subst ha
    refine ⟨by simpa [World.setCell] using HG2L.out, fun e => ?_⟩
    have := hT _ e
    have := HG2B.out
    simp only at *
    omega
  · exact grown_new (grown_new (grown_new (World.grownBy.trans HP.out HGR.out) (obj_grown _ _ _ _) (Nat.le_refl _)) (obj_grown _ _ _ _) (Nat.le_refl _)) (obj_grown _ _ _ _) (Nat.le_refl _)
end Go.Proofs.Ytocmljijdecilaa.CaO
