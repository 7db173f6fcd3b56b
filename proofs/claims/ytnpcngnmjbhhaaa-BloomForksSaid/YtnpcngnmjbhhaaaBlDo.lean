/- One deed on both summaries: they answer alike, and stay alike; condition: they were alike. -/
import Derived.Test.YtnpcngnmjbhhaaaBlZ
import Derived.Test.YtnpcngnmjbhhaaaBlDd
namespace Go.Proofs.Ytnpcngnmjbhhaaa.BlDo
open Go Go.RowKit Go.Proofs.YtnpcngnmjbhhaaaW.PrintWords Go.Proofs.Ytnpcngnmjbhhaaa.K Go.Proofs.Ytnpcngnmjbhhaaa.OctS Go.Proofs.Ytnpcngnmjbhhaaa.OctP Go.Proofs.Ytnpcngnmjbhhaaa.BlS Go.Proofs.Ytnpcngnmjbhhaaa.BlP Go.Proofs.Ytnpcngnmjbhhaaa.BlC Go.Proofs.Ytnpcngnmjbhhaaa.BlD Go.Proofs.Ytnpcngnmjbhhaaa.BlN Go.Proofs.Ytnpcngnmjbhhaaa.BlF Go.Proofs.Ytnpcngnmjbhhaaa.BlG Go.Proofs.Ytnpcngnmjbhhaaa.BlH Go.Proofs.Ytnpcngnmjbhhaaa.BlI Go.Proofs.Ytnpcngnmjbhhaaa.BlW Go.Proofs.Ytnpcngnmjbhhaaa.BlO Go.Proofs.Ytnpcngnmjbhhaaa.BlQ Go.Proofs.Ytnpcngnmjbhhaaa.BlR Go.Proofs.Ytnpcngnmjbhhaaa.BlA Go.Proofs.Ytnpcngnmjbhhaaa.BlHs Go.Proofs.Ytnpcngnmjbhhaaa.BlL Go.Proofs.Ytnpcngnmjbhhaaa.BlX Go.Proofs.Ytnpcngnmjbhhaaa.BlY Go.Proofs.Ytnpcngnmjbhhaaa.BlZ Go.Proofs.Ytnpcngnmjbhhaaa.Oct
set_option linter.unusedVariables false
set_option linter.unusedSimpArgs false
theorem layL_eq (on l : List Int) : layL on l = BlW.lay on l := rfl
/-- Two summaries that are alike. -/
structure Pair (w : World) (base gx gy a b m : Nat) (vx vy : Value) (on : List Int) : Prop where
  x : BF w base gx a b vx (wordsOf on m)
  y : RF w base gy a b vy on
  good : BlW.Good on a
/-- Nothing but the one's words and the other's block was written. -/
structure Tch (w w' : World) (gy : Nat) (vx : Value) : Prop where
  os : w'.os = w.os
  tape : w'.tape = w.tape
  output : w'.output = w.output
  size : w.heap.size ≤ w'.heap.size
  block : ∀ k, k < w.heap.size → k ≠ gy → some k ≠ vx.ownBlock → w'.heap[k]? = w.heap[k]?
theorem Tch.trans {w w1 w2 : World} {gy : Nat} {vx : Value} (h : Tch w w1 gy vx) (k : Tch w1 w2 gy vx) : Tch w w2 gy vx :=
  ⟨k.os.trans h.os, k.tape.trans h.tape, k.output.trans h.output, Nat.le_trans h.size k.size, fun j hj h1 h2 => (k.block j (Nat.lt_of_lt_of_le hj h.size) h1 h2).trans (h.block j hj h1 h2)⟩
theorem Tch.of_below {w w1 : World} (gy : Nat) (vx : Value) (h : Below w.heap.size w w1) : Tch w w1 gy vx := ⟨h.os, h.tape, h.output, h.size, fun j hj _ _ => h.block j hj⟩
theorem Tch.of_y {w w1 : World} {gy : Nat} (vx : Value) (h : w.grownBy w1 (some gy)) : Tch w w1 gy vx := ⟨h.os, h.tape, h.output, h.size, fun j hj h1 _ => h.block j hj (fun e => by injection e with e; exact h1 e)⟩
theorem Tch.of_x {w w1 : World} (gy : Nat) {vx : Value} (h : w.grownBy w1 vx.ownBlock) : Tch w w1 gy vx := ⟨h.os, h.tape, h.output, h.size, fun j hj _ h2 => h.block j hj h2⟩
theorem Tch.below {w0 w w' : World} {gy : Nat} {vx : Value} {B : Nat} (h : Tch w w' gy vx) (hb : Below B w0 w) (hB : B ≤ w.heap.size) (h1 : B ≤ gy) (h2 : ∀ k, vx.ownBlock = some k → B ≤ k) : Below B w0 w' :=
  ⟨h.os.trans hb.os, h.tape.trans hb.tape, h.output.trans hb.output, Nat.le_trans hb.size h.size, fun j hj => (h.block j (Nat.lt_of_lt_of_le hj hB) (by omega) (fun e => by have := h2 j e.symm; omega)).trans (hb.block j hj)⟩
theorem blk_apart {w : World} {g j t t' : Nat} {C C' : Array Value} (h : w.heap[g]? = some (.cells C t (0, 0))) (h' : w.heap[j]? = some (.cells C' t' (0, 0))) (ht : t ≠ t') : g ≠ j := by
  intro e
  subst e
  rw [h] at h'
  injection h' with h'
  injection h' with _ h2
  exact ht h2
theorem rf_words {w w1 : World} {base g base2 g2 : Nat} {size ways size2 ways2 : Int} {v v2 : Value} {on ws : List Int} (h : RF w base g size ways v on) (h2 : BF w base2 g2 size2 ways2 v2 ws) (hl : 0 < ws.length) (hg : w.grownBy w1 v2.ownBlock) : RF w1 base g size ways v on := by
  obtain ⟨b, c, cur, rfl, _, hh, _⟩ := row_form h2.row hl
  exact rf_kept h hh (by decide) hg (blk_apart h.blk hh (by decide))
theorem bf_ref {w w1 : World} {base g base2 g2 : Nat} {size ways size2 ways2 : Int} {v v2 : Value} {on ws : List Int} (h : BF w base g size ways v ws) (h2 : RF w base2 g2 size2 ways2 v2 on) (hg : w.grownBy w1 (some g2)) : BF w1 base g size ways v ws :=
  ⟨h.ge, (hg.block g (bf_lt h) (fun e => by injection e with e; exact blk_apart h.blk h2.blk (by decide) e)).trans h.blk, R_kept_t (flat_int .u64) h.row h2.blk (by decide) hg⟩
theorem rf_ref {w w1 : World} {base g base2 g2 : Nat} {size ways size2 ways2 : Int} {v v2 : Value} {on on2 : List Int} (h : RF w base g size ways v on) (h2 : RF w base2 g2 size2 ways2 v2 on2) (hne : g ≠ g2) (hg : w.grownBy w1 (some g2)) : RF w1 base g size ways v on :=
  rf_kept h h2.blk (by decide) hg hne
theorem Pair.below {w w1 : World} {base gx gy a b m : Nat} {vx vy : Value} {on : List Int} (h : Pair w base gx gy a b m vx vy on) (hb : Below w.heap.size w w1) : Pair w1 base gx gy a b m vx vy on := ⟨bf_below h.x hb, rf_below h.y hb, h.good⟩
theorem rf_lower {w : World} {base base' g : Nat} {size ways : Int} {v : Value} {on : List Int} (h : RF w base g size ways v on) (hb : base' ≤ base) : RF w base' g size ways v on := ⟨Nat.le_trans hb h.ge, h.blk, Kd.R_lower h.row hb⟩
/-- A sum added to both. -/
theorem Pair.add {w w1 w2 : World} {base gx gy a b m : Nat} {vx vy vy' : Value} {on l : List Int} (h : Pair w base gx gy a b m vx vy on) (hl : ∀ p, p ∈ l → 0 ≤ p ∧ p < (a : Int)) (hm : 0 < m) (h1 : RF w1 base gy a b vy' (BlW.lay on l)) (g1 : w.grownBy w1 (some gy)) (h2 : BF w2 base gx a b vx (wordsOf (BlW.lay on l) m)) (g2 : w1.grownBy w2 vx.ownBlock) : Pair w2 base gx gy a b m vx vy' (BlW.lay on l) ∧ Tch w w2 gy vx :=
  ⟨⟨h2, rf_words h1 (bf_ref h.x h.y g1) (by rw [wordsOf_len]; exact hm) g2, good_lay l h.good hl⟩, (Tch.of_y vx g1).trans (Tch.of_x gy g2)⟩
theorem lay_keeps (on l : List Int) (p : Int) (h : on.contains p = true) : (BlW.lay on l).contains p = true := by rw [lay_contains, h]; rfl
set_option maxHeartbeats 8000000 in
theorem do_calls (w : World) (base gx gy a b m : Nat) (vx vy : Value) (on : List Int) (d : Deed) (hp : Pair w base gx gy a b m vx vy on) (hk : okF a b) (ha : a ≤ 300) (hm : m = (a + 63) / 64) (hd : d.Ok w) :
    Calls Try.prog 21 #[.pointer (some ⟨gx, 0, none⟩), .pointer (some ⟨gy, 0, none⟩), .agg d.cells.toArray] w fun e w' => ∃ vy' on', e = .returned (.bool true) ∧ Pair w' base gx gy a b m vx vy' on' ∧ Tch w w' gy vx ∧ (d.op ≠ 2 → ∀ p, on.contains p = true → on'.contains p = true) := by
  have HP := Aside0.mk hp
  have HK := Aside0.mk hk
  have HMM := Aside0.mk hm
  have HM := Aside0.mk (show m ≤ 100000 ∧ 0 < m ∧ a ≤ 64 * m ∧ a ≤ 300 from by unfold okF at hk; omega)
  have HD := Aside0.mk hd
  have HU := Aside0.mk Try.underlying22
  have HI := Aside0.mk (infoSum d.s hd.len)
  have HY := Aside0.mk (bytes_wf hd.wf)
  have hgx := bf_lt hp.x
  have hgy := rf_lt hp.y
  have HON := Aside0.mk (good_len hp.good)
  have hblk := heap_alloc_new w (.cells d.cells.toArray 50)
  have HBK := Aside0.mk hblk
  have c0 := obj_cell (v := .int .i64 d.op) hblk 0 rfl
  have HR := Aside0.mk (show (w.alloc (.cells d.cells.toArray 50)).rangeAt w.heap.size 1 (nums .u8 d.s) from fun j v hv => by
    rw [cell_of_row _ _ _ _ _ _ hblk]
    have hj := (List.getElem?_eq_some_iff.1 hv).1
    show (Deed.cells d).toArray[1 + j]? = some v
    rw [List.getElem?_toArray, Nat.add_comm]
    show (nums .u8 d.s ++ [.slice d.A d.k d.c])[j]? = some v
    rw [List.getElem?_append_left hj]
    exact hv)
  have c33 := obj_cell (v := .slice d.A d.k d.c) hblk 33 (by
    show (Deed.cells d).toArray[33]? = _
    rw [List.getElem?_toArray]
    show (nums .u8 d.s ++ [.slice d.A d.k d.c])[32]? = _
    have : (nums .u8 d.s).length = 32 := by simp [nums, hd.len]
    rw [List.getElem?_append_right (by omega), this]
    rfl)
  have HB1 := Aside0.mk (below_alloc (Below.refl w.heap.size w) (.cells d.cells.toArray 50))
  generalize d.cells.toArray = D at *
  generalize hop : d.op = op at *
  have HP1 := Aside0.mk (hp.below HB1.out)
  generalize hw1 : w.alloc (.cells D 50) = w1 at *
  have HW1 := Aside0.mk hw1
  clear hp hk hm hd hblk hop
  by_cases o0 : op = 0
  · subst o0
    clear c33
    have hr := radd_calls w1 base gy a b vy on d.s HP1.out.y HD.out.len HY.out (by have := HON.out; have := HM.out; omega)
    rw [layL_eq] at hr
    have HRA := Aside0.mk hr
    clear hr
    go_enter Try.func21, Try.ntmps21
    go_wp2_with ((with_reducible refine gate_ (.load 22 (.tmp 17)) rfl ?_); refine wpList_load_mid rfl _ (.tmp 17) rfl w.heap.size 1 rfl (nums .u8 d.s) _ HR.out HU.out rfl HI.out ?_)
    refine HRA.out.mono ?_
    rintro e W2 ⟨vy', rfl, hf2, hg2⟩
    have hr2 : W2.rangeAt w.heap.size 1 (nums .u8 d.s) := fun j u hj => (World.cell?_of_block (w := w1) (a := ⟨w.heap.size, 1 + j, none⟩) (hg2.block w.heap.size (World.block_lt_of_cell? w1 _ (HR.out j u hj)) (by intro e; injection e; omega))).trans (HR.out j u hj)
    have HR2 := Aside0.mk hr2
    have ha := add_calls W2 base gx a b vx on m d.s (bf_ref HP1.out.x HP1.out.y hg2) HK.out HMM.out HD.out.len HY.out
    have HA := Aside0.mk ha
    have HF2 := Aside0.mk hf2
    have HG2 := Aside0.mk hg2
    clear hr2 ha hf2 hg2 c0
    go_wp2_with ((with_reducible refine gate_ (.load 22 (.tmp 21)) rfl ?_); refine wpList_load_mid rfl _ (.tmp 21) rfl w.heap.size 1 rfl (nums .u8 d.s) _ HR2.out HU.out rfl HI.out ?_)
    refine HA.out.mono ?_
    rintro e W3 ⟨rfl, hf3, hg3⟩
    have hq := HP1.out.add (plL_good d.s a b HK.out) HM.out.2.1 HF2.out HG2.out hf3 hg3
    have HQ := Aside0.mk hq
    clear hf3 hg3 hq
    go_wp2
    go_ret
    exact ⟨vy', _, rfl, HQ.out.1, (Tch.of_below gy vx HB1.out).trans HQ.out.2, fun _ p hp => lay_keeps _ _ p hp⟩
  · have q0 : (op == 0) = false := by simpa using o0
    by_cases o1 : op = 1
    · subst o1
      clear c33 q0 o0
      have H1 : Aside0 (∀ W, Below w1.heap.size w1 W → Calls Try.prog 16 #[.pointer (some ⟨gx, 0, none⟩), .agg (nums .u8 d.s).toArray] W fun e w' => e = .returned (.bool ((plL d.s a b).all (fun p => on.contains p))) ∧ Below W.heap.size W w') := ⟨fun W hW => has_calls W base gx a b vx on m d.s (HP1.out.below hW).x HK.out HMM.out HD.out.len HY.out⟩
      have H2 : Aside0 (∀ W, Below w1.heap.size w1 W → Calls Try.prog 18 #[.pointer (some ⟨gy, 0, none⟩), .agg (nums .u8 d.s).toArray] W fun e w' => e = .returned (.bool ((plL d.s a b).all (fun p => on.contains p))) ∧ Below W.heap.size W w') := ⟨fun W hW => rhas_calls W base gy a b vy on d.s (HP1.out.below hW).y HD.out.len HY.out (by have := HON.out; have := HM.out; omega)⟩
      generalize (plL d.s a b).all (fun p => on.contains p) = B at H1 H2
      go_enter Try.func21, Try.ntmps21
      go_wp2_with fail
      (refine Hd.startE (S := (fun w' => Below w1.heap.size w1 w')) 1000 (by kernel_rfl) (below_drew1 (Below.refl _ _)) (fun hHeld => ?_))
      (refine Hd.takeE (i := 0) (v := ?_) rfl rfl (by kernel_rfl) (by kernel_rfl) (by kernel_rfl) (by kernel_rfl) (fun _ _ _ h => h) (Or.inl ⟨by rfl, ?_⟩) (by assumption) ?_; rotate_left; (focus (intro wS hS; (try go_split_ands); go_simp; all_goals (with_reducible rfl))); simp only [List.set_cons_zero, List.set_cons_succ, List.setIfInBounds_toArray]); (refine Hd.takeE (i := 1) (v := ?_) rfl rfl (by kernel_rfl) (by kernel_rfl) (by kernel_rfl) (by kernel_rfl) (fun _ _ _ h => h) (Or.inl ⟨by rfl, ?_⟩) (by assumption) ?_; rotate_left; (focus (intro wS hS; (try go_split_ands); go_simp; all_goals (with_reducible rfl))); simp only [List.set_cons_zero, List.set_cons_succ, List.setIfInBounds_toArray]); (refine Hd.takeE (i := 4) (v := ?_) rfl rfl (by kernel_rfl) (by kernel_rfl) (by kernel_rfl) (by kernel_rfl) (fun _ _ _ h => h) (Or.inl ⟨by rfl, ?_⟩) (by assumption) ?_; rotate_left; (focus (intro wS hS; (try go_split_ands); go_simp; all_goals (with_reducible rfl))); simp only [List.set_cons_zero, List.set_cons_succ, List.setIfInBounds_toArray]); (refine Hd.takeE (i := 5) (v := ?_) rfl rfl (by kernel_rfl) (by kernel_rfl) (by kernel_rfl) (by kernel_rfl) (fun _ _ _ h => h) (Or.inl ⟨by rfl, ?_⟩) (by assumption) ?_; rotate_left; (focus (intro wS hS; (try go_split_ands); go_simp; all_goals (with_reducible rfl))); simp only [List.set_cons_zero, List.set_cons_succ, List.setIfInBounds_toArray])
      (refine Hd.takeE (i := 2) rfl rfl (by kernel_rfl) (by kernel_rfl) (by kernel_rfl) (by kernel_rfl) (fun _ _ _ h => h) (yieldsIf_load_mid (by rfl) 22 _ rfl w.heap.size 1 rfl (nums .u8 d.s) _ (fun wS hS => range_below HR.out hS) HU.out rfl HI.out) (by assumption) ?_; simp only [List.set_cons_zero, List.set_cons_succ, List.setIfInBounds_toArray])
      (refine Hd.takeE (i := 6) rfl rfl (by kernel_rfl) (by kernel_rfl) (by kernel_rfl) (by kernel_rfl) (fun _ _ _ h => h) (yieldsIf_load_mid (by rfl) 22 _ rfl w.heap.size 1 rfl (nums .u8 d.s) _ (fun wS hS => range_below HR.out hS) HU.out rfl HI.out) (by assumption) ?_; simp only [List.set_cons_zero, List.set_cons_succ, List.setIfInBounds_toArray])
      (refine Hd.readyE (rs := [3]) (by kernel_rfl) (by simp) ?_; refine Hd.AllE.cons (i := 3) rfl (fun K hK => ?_) Hd.AllE.nil; (go_simp; refine (H1.out _ hHeld).mono ?_; rintro e W2 ⟨rfl, hb2⟩); refine hK.out _ _ (below_then hHeld hHeld.size hb2) (fun hHeld => ?_); clear hK K; (try simp only [Act.put, List.setIfInBounds_toArray, List.set_cons_zero, List.set_cons_succ]))
      (refine Hd.readyE (rs := [7]) (by kernel_rfl) (by simp) ?_; refine Hd.AllE.cons (i := 7) rfl (fun K hK => ?_) Hd.AllE.nil; (go_simp; refine (H2.out _ hHeld).mono ?_; rintro e W3 ⟨rfl, hb3⟩); refine hK.out _ _ (below_then hHeld hHeld.size hb3) (fun hHeld => ?_); clear hK K; (try simp only [Act.put, List.setIfInBounds_toArray, List.set_cons_zero, List.set_cons_succ]))
      (refine Hd.takeE (i := 8) (v := ?_) rfl rfl (by kernel_rfl) (by kernel_rfl) (by kernel_rfl) (by kernel_rfl) (fun _ _ _ h => h) (Or.inl ⟨by rfl, ?_⟩) (by assumption) ?_; rotate_left; (focus (intro wS hS; (try go_split_ands); go_simp; all_goals (with_reducible rfl))); simp only [List.set_cons_zero, List.set_cons_succ, List.setIfInBounds_toArray]); (refine Hd.takeE (i := 9) (v := ?_) rfl rfl (by kernel_rfl) (by kernel_rfl) (by kernel_rfl) (by kernel_rfl) (fun _ _ _ h => h) (Or.inl ⟨by rfl, ?_⟩) (by assumption) ?_; rotate_left; (focus (intro wS hS; (try go_split_ands); go_simp; all_goals (with_reducible rfl))); simp only [List.set_cons_zero, List.set_cons_succ, List.setIfInBounds_toArray])
      (refine Hd.endE (by kernel_rfl) ?_ _)
      have HQ := Aside0.mk (HP1.out.below hHeld)
      have HT := Aside0.mk ((Tch.of_below gy vx HB1.out).trans (Tch.of_below gy vx hHeld))
      clear hHeld
      go_wp2
      go_ret
      exact ⟨vy, on, rfl, HQ.out, HT.out, fun _ p hp => hp⟩
    · have q1 : (op == 1) = false := by simpa using o1
      by_cases o2 : op = 2
      · subst o2
        clear c33 q0 o0 q1 o1
        obtain ⟨Ay, cy, hvy, _, _⟩ := Kd.R_reads HP1.out.y.row
        subst hvy
        have cy2 := obj_cell (v := .slice Ay on.length cy) HP1.out.y.blk 2 rfl
        have fy2 := obj_free HP1.out.y.blk 2
        have hF : RF (w1.setCell ⟨gy, 2, none⟩ (.slice none 0 0)) base gy a b (.slice none 0 0) [] := ⟨HP1.out.y.ge, obj_set HP1.out.y.blk 2 _, Kd.R_nil _ _ _ _ _⟩
        have hX := bf_ref HP1.out.x HP1.out.y (obj_grown w1 gy 2 (.slice none 0 0))
        have hC := clear_calls _ base gx a b vx on m hX HM.out.1 HM.out.2.1
        have HF := Aside0.mk hF
        have HX := Aside0.mk hX
        have HC := Aside0.mk hC
        clear hF hX hC
        go_enter Try.func21, Try.ntmps21
        go_wp2_with fail
        refine HC.out.mono ?_
        rintro e W2 ⟨rfl, hf2, hg2⟩
        have HQ := Aside0.mk (show Pair W2 base gx gy a b m vx (.slice none 0 0) [] from ⟨hf2, rf_words HF.out HX.out (by rw [wordsOf_len]; exact HM.out.2.1) hg2, good_nil a⟩)
        have HT := Aside0.mk ((Tch.of_below gy vx HB1.out).trans ((Tch.of_y vx (obj_grown w1 gy 2 (.slice none 0 0))).trans (Tch.of_x gy hg2)))
        clear hf2 hg2
        go_wp2
        go_ret
        exact ⟨_, [], rfl, HQ.out, HT.out, fun h => absurd rfl h⟩
      · have q2 : (op == 2) = false := by simpa using o2
        have y0 := obj_cell (v := .int .i64 a) HP1.out.y.blk 0 rfl
        have y1 := obj_cell (v := .int .i64 b) HP1.out.y.blk 1 rfl
        go_enter Try.func21, Try.ntmps21
        go_wp2_with fail
        (refine Hd.startE (S := (fun w' => Below w1.heap.size w1 w' ∧ w'.cell? ⟨gy, 0, none⟩ = some (.int .i64 a) ∧ w'.cell? ⟨gy, 1, none⟩ = some (.int .i64 b))) 1000 (by kernel_rfl) (⟨below_drew1 (Below.refl _ _), y0, y1⟩) (fun hHeld => ?_))
        (refine Hd.takeE (i := 0) (v := ?_) rfl rfl (by kernel_rfl) (by kernel_rfl) (by kernel_rfl) (by kernel_rfl) (fun _ _ _ h => h) (Or.inl ⟨by rfl, ?_⟩) (by assumption) ?_; rotate_left; (focus (intro wS hS; (try go_split_ands); go_simp; all_goals (with_reducible rfl))); simp only [List.set_cons_zero, List.set_cons_succ, List.setIfInBounds_toArray]); (refine Hd.takeE (i := 1) (v := ?_) rfl rfl (by kernel_rfl) (by kernel_rfl) (by kernel_rfl) (by kernel_rfl) (fun _ _ _ h => h) (Or.inl ⟨by rfl, ?_⟩) (by assumption) ?_; rotate_left; (focus (intro wS hS; (try go_split_ands); go_simp; all_goals (with_reducible rfl))); simp only [List.set_cons_zero, List.set_cons_succ, List.setIfInBounds_toArray]); (refine Hd.takeE (i := 2) (v := ?_) rfl rfl (by kernel_rfl) (by kernel_rfl) (by kernel_rfl) (by kernel_rfl) (fun _ _ _ h => h) (Or.inl ⟨by rfl, ?_⟩) (by assumption) ?_; rotate_left; (focus (intro wS hS; (try go_split_ands); go_simp; all_goals (with_reducible rfl))); simp only [List.set_cons_zero, List.set_cons_succ, List.setIfInBounds_toArray]); (refine Hd.takeE (i := 3) (v := ?_) rfl rfl (by kernel_rfl) (by kernel_rfl) (by kernel_rfl) (by kernel_rfl) (fun _ _ _ h => h) (Or.inl ⟨by rfl, ?_⟩) (by assumption) ?_; rotate_left; (focus (intro wS hS; (try go_split_ands); go_simp; all_goals (with_reducible rfl))); simp only [List.set_cons_zero, List.set_cons_succ, List.setIfInBounds_toArray]); (refine Hd.takeE (i := 4) (v := ?_) rfl rfl (by kernel_rfl) (by kernel_rfl) (by kernel_rfl) (by kernel_rfl) (fun _ _ _ h => h) (Or.inl ⟨by rfl, ?_⟩) (by assumption) ?_; rotate_left; (focus (intro wS hS; (try go_split_ands); go_simp; all_goals (with_reducible rfl))); simp only [List.set_cons_zero, List.set_cons_succ, List.setIfInBounds_toArray]); (refine Hd.takeE (i := 5) (v := ?_) rfl rfl (by kernel_rfl) (by kernel_rfl) (by kernel_rfl) (by kernel_rfl) (fun _ _ _ h => h) (Or.inl ⟨by rfl, ?_⟩) (by assumption) ?_; rotate_left; (focus (intro wS hS; (try go_split_ands); go_simp; all_goals (with_reducible rfl))); simp only [List.set_cons_zero, List.set_cons_succ, List.setIfInBounds_toArray]); (refine Hd.takeE (i := 6) (v := ?_) rfl rfl (by kernel_rfl) (by kernel_rfl) (by kernel_rfl) (by kernel_rfl) (fun _ _ _ h => h) (Or.inl ⟨by rfl, ?_⟩) (by assumption) ?_; rotate_left; (focus (intro wS hS; (try go_split_ands); go_simp; all_goals (with_reducible rfl))); simp only [List.set_cons_zero, List.set_cons_succ, List.setIfInBounds_toArray]); (refine Hd.takeE (i := 7) (v := ?_) rfl rfl (by kernel_rfl) (by kernel_rfl) (by kernel_rfl) (by kernel_rfl) (fun _ _ _ h => h) (Or.inl ⟨by rfl, ?_⟩) (by assumption) ?_; rotate_left; (focus (intro wS hS; (try go_split_ands); go_simp; all_goals (with_reducible rfl))); simp only [List.set_cons_zero, List.set_cons_succ, List.setIfInBounds_toArray])
        (refine Hd.readyE (rs := [8]) (by kernel_rfl) (by simp) ?_; refine Hd.AllE.cons (i := 8) rfl (fun K hK => ?_) Hd.AllE.nil; (go_simp; refine (new_two a b HK.out _).mono ?_; rintro e W2 ⟨g7, v7, rfl, hf7, hb7⟩); refine hK.out _ _ (⟨below_then hHeld.1 hHeld.1.size hb7, (hb7.cell (p := ⟨gy, 0, none⟩) (Nat.lt_of_lt_of_le (Nat.lt_of_lt_of_le hgy HB1.out.size) hHeld.1.size)).trans hHeld.2.1, (hb7.cell (p := ⟨gy, 1, none⟩) (Nat.lt_of_lt_of_le (Nat.lt_of_lt_of_le hgy HB1.out.size) hHeld.1.size)).trans hHeld.2.2⟩) (fun hHeld => ?_); clear hK K; (try simp only [Act.put, List.setIfInBounds_toArray, List.set_cons_zero, List.set_cons_succ]))
        (refine Hd.takeE (i := 9) (v := ?_) rfl rfl (by kernel_rfl) (by kernel_rfl) (by kernel_rfl) (by kernel_rfl) (fun _ _ _ h => h) (Or.inl ⟨by rfl, ?_⟩) (by assumption) ?_; rotate_left; (focus (intro wS hS; (try go_split_ands); go_simp; all_goals (with_reducible rfl))); simp only [List.set_cons_zero, List.set_cons_succ, List.setIfInBounds_toArray]); (refine Hd.takeE (i := 10) (v := ?_) rfl rfl (by kernel_rfl) (by kernel_rfl) (by kernel_rfl) (by kernel_rfl) (fun _ _ _ h => h) (Or.inl ⟨by rfl, ?_⟩) (by assumption) ?_; rotate_left; (focus (intro wS hS; (try go_split_ands); go_simp; all_goals (with_reducible rfl))); simp only [List.set_cons_zero, List.set_cons_succ, List.setIfInBounds_toArray]); (refine Hd.takeE (i := 11) (v := ?_) rfl rfl (by kernel_rfl) (by kernel_rfl) (by kernel_rfl) (by kernel_rfl) (fun _ _ _ h => h) (Or.inl ⟨by rfl, ?_⟩) (by assumption) ?_; rotate_left; (focus (intro wS hS; (try go_split_ands); go_simp; all_goals (with_reducible rfl))); simp only [List.set_cons_zero, List.set_cons_succ, List.setIfInBounds_toArray]); (refine Hd.takeE (i := 12) (v := ?_) rfl rfl (by kernel_rfl) (by kernel_rfl) (by kernel_rfl) (by kernel_rfl) (fun _ _ _ h => h) (Or.inl ⟨by rfl, ?_⟩) (by assumption) ?_; rotate_left; (focus (intro wS hS; (try go_split_ands); go_simp; all_goals (with_reducible rfl))); simp only [List.set_cons_zero, List.set_cons_succ, List.setIfInBounds_toArray]); (refine Hd.takeE (i := 13) (v := ?_) rfl rfl (by kernel_rfl) (by kernel_rfl) (by kernel_rfl) (by kernel_rfl) (fun _ _ _ h => h) (Or.inl ⟨by rfl, ?_⟩) (by assumption) ?_; rotate_left; (focus (intro wS hS; (try go_split_ands); go_simp; all_goals (with_reducible rfl))); simp only [List.set_cons_zero, List.set_cons_succ, List.setIfInBounds_toArray])
        (refine Hd.endE (by kernel_rfl) ?_ _)
        rw [← HMM.out] at hf7
        have HF7 := Aside0.mk (show BF W2 w1.heap.size g7 a b v7 (wordsOf [] m) from hf7)
        have HBW := Aside0.mk hHeld.1
        have z0 := hHeld.2.1
        have z1 := hHeld.2.2
        have hgy2 : gy < W2.heap.size := Nat.lt_of_lt_of_le (Nat.lt_of_lt_of_le hgy HB1.out.size) hHeld.1.size
        have HNE := Aside0.mk (apart_new (HP1.out.below (below_drew1 (Below.refl _ w1))).x HF7.out (by rw [wordsOf_len]; exact HM.out.2.1) (Nat.le_refl _))
        clear hf7 hb7 y0 y1
        rename_i hOld
        clear hHeld
        go_wp2_with fail
        (refine Hd.startE (S := (fun w' => Below W2.heap.size W2 w' ∧ w'.cell? ⟨gy, 0, none⟩ = some (.int .i64 a) ∧ w'.cell? ⟨gy, 1, none⟩ = some (.int .i64 b))) 1000 (by kernel_rfl) (⟨below_drew1 (Below.refl _ _), z0, z1⟩) (fun hHeld => ?_))
        (refine Hd.takeE (i := 0) (v := ?_) rfl rfl (by kernel_rfl) (by kernel_rfl) (by kernel_rfl) (by kernel_rfl) (fun _ _ _ h => h) (Or.inl ⟨by rfl, ?_⟩) (by assumption) ?_; rotate_left; (focus (intro wS hS; (try go_split_ands); go_simp; all_goals (with_reducible rfl))); simp only [List.set_cons_zero, List.set_cons_succ, List.setIfInBounds_toArray]); (refine Hd.takeE (i := 1) (v := ?_) rfl rfl (by kernel_rfl) (by kernel_rfl) (by kernel_rfl) (by kernel_rfl) (fun _ _ _ h => h) (Or.inl ⟨by rfl, ?_⟩) (by assumption) ?_; rotate_left; (focus (intro wS hS; (try go_split_ands); go_simp; all_goals (with_reducible rfl))); simp only [List.set_cons_zero, List.set_cons_succ, List.setIfInBounds_toArray]); (refine Hd.takeE (i := 2) (v := ?_) rfl rfl (by kernel_rfl) (by kernel_rfl) (by kernel_rfl) (by kernel_rfl) (fun _ _ _ h => h) (Or.inl ⟨by rfl, ?_⟩) (by assumption) ?_; rotate_left; (focus (intro wS hS; (try go_split_ands); go_simp; all_goals (with_reducible rfl))); simp only [List.set_cons_zero, List.set_cons_succ, List.setIfInBounds_toArray]); (refine Hd.takeE (i := 3) (v := ?_) rfl rfl (by kernel_rfl) (by kernel_rfl) (by kernel_rfl) (by kernel_rfl) (fun _ _ _ h => h) (Or.inl ⟨by rfl, ?_⟩) (by assumption) ?_; rotate_left; (focus (intro wS hS; (try go_split_ands); go_simp; all_goals (with_reducible rfl))); simp only [List.set_cons_zero, List.set_cons_succ, List.setIfInBounds_toArray]); (refine Hd.takeE (i := 4) (v := ?_) rfl rfl (by kernel_rfl) (by kernel_rfl) (by kernel_rfl) (by kernel_rfl) (fun _ _ _ h => h) (Or.inl ⟨by rfl, ?_⟩) (by assumption) ?_; rotate_left; (focus (intro wS hS; (try go_split_ands); go_simp; all_goals (with_reducible rfl))); simp only [List.set_cons_zero, List.set_cons_succ, List.setIfInBounds_toArray]); (refine Hd.takeE (i := 5) (v := ?_) rfl rfl (by kernel_rfl) (by kernel_rfl) (by kernel_rfl) (by kernel_rfl) (fun _ _ _ h => h) (Or.inl ⟨by rfl, ?_⟩) (by assumption) ?_; rotate_left; (focus (intro wS hS; (try go_split_ands); go_simp; all_goals (with_reducible rfl))); simp only [List.set_cons_zero, List.set_cons_succ, List.setIfInBounds_toArray]); (refine Hd.takeE (i := 6) (v := ?_) rfl rfl (by kernel_rfl) (by kernel_rfl) (by kernel_rfl) (by kernel_rfl) (fun _ _ _ h => h) (Or.inl ⟨by rfl, ?_⟩) (by assumption) ?_; rotate_left; (focus (intro wS hS; (try go_split_ands); go_simp; all_goals (with_reducible rfl))); simp only [List.set_cons_zero, List.set_cons_succ, List.setIfInBounds_toArray]); (refine Hd.takeE (i := 7) (v := ?_) rfl rfl (by kernel_rfl) (by kernel_rfl) (by kernel_rfl) (by kernel_rfl) (fun _ _ _ h => h) (Or.inl ⟨by rfl, ?_⟩) (by assumption) ?_; rotate_left; (focus (intro wS hS; (try go_split_ands); go_simp; all_goals (with_reducible rfl))); simp only [List.set_cons_zero, List.set_cons_succ, List.setIfInBounds_toArray])
        (refine Hd.readyE (rs := [8]) (by kernel_rfl) (by simp) ?_; refine Hd.AllE.cons (i := 8) rfl (fun K hK => ?_) Hd.AllE.nil; (go_simp; refine (rnew_yes a b HK.out _).mono ?_; rintro e W3 ⟨g9, rfl, hf9, hb9⟩); refine hK.out _ _ (⟨below_then hHeld.1 hHeld.1.size hb9, (hb9.cell (p := ⟨gy, 0, none⟩) (Nat.lt_of_lt_of_le hgy2 hHeld.1.size)).trans hHeld.2.1, (hb9.cell (p := ⟨gy, 1, none⟩) (Nat.lt_of_lt_of_le hgy2 hHeld.1.size)).trans hHeld.2.2⟩) (fun hHeld => ?_); clear hK K; (try simp only [Act.put, List.setIfInBounds_toArray, List.set_cons_zero, List.set_cons_succ]))
        (refine Hd.takeE (i := 9) (v := ?_) rfl rfl (by kernel_rfl) (by kernel_rfl) (by kernel_rfl) (by kernel_rfl) (fun _ _ _ h => h) (Or.inl ⟨by rfl, ?_⟩) (by assumption) ?_; rotate_left; (focus (intro wS hS; (try go_split_ands); go_simp; all_goals (with_reducible rfl))); simp only [List.set_cons_zero, List.set_cons_succ, List.setIfInBounds_toArray]); (refine Hd.takeE (i := 10) (v := ?_) rfl rfl (by kernel_rfl) (by kernel_rfl) (by kernel_rfl) (by kernel_rfl) (fun _ _ _ h => h) (Or.inl ⟨by rfl, ?_⟩) (by assumption) ?_; rotate_left; (focus (intro wS hS; (try go_split_ands); go_simp; all_goals (with_reducible rfl))); simp only [List.set_cons_zero, List.set_cons_succ, List.setIfInBounds_toArray]); (refine Hd.takeE (i := 11) (v := ?_) rfl rfl (by kernel_rfl) (by kernel_rfl) (by kernel_rfl) (by kernel_rfl) (fun _ _ _ h => h) (Or.inl ⟨by rfl, ?_⟩) (by assumption) ?_; rotate_left; (focus (intro wS hS; (try go_split_ands); go_simp; all_goals (with_reducible rfl))); simp only [List.set_cons_zero, List.set_cons_succ, List.setIfInBounds_toArray]); (refine Hd.takeE (i := 12) (v := ?_) rfl rfl (by kernel_rfl) (by kernel_rfl) (by kernel_rfl) (by kernel_rfl) (fun _ _ _ h => h) (Or.inl ⟨by rfl, ?_⟩) (by assumption) ?_; rotate_left; (focus (intro wS hS; (try go_split_ands); go_simp; all_goals (with_reducible rfl))); simp only [List.set_cons_zero, List.set_cons_succ, List.setIfInBounds_toArray]); (refine Hd.takeE (i := 13) (v := ?_) rfl rfl (by kernel_rfl) (by kernel_rfl) (by kernel_rfl) (by kernel_rfl) (fun _ _ _ h => h) (Or.inl ⟨by rfl, ?_⟩) (by assumption) ?_; rotate_left; (focus (intro wS hS; (try go_split_ands); go_simp; all_goals (with_reducible rfl))); simp only [List.set_cons_zero, List.set_cons_succ, List.setIfInBounds_toArray])
        (refine Hd.endE (by kernel_rfl) ?_ _)
        have HPR := Aside0.mk (show Pair W3 w1.heap.size g7 g9 a b m v7 (.slice none 0 0) [] from ⟨bf_below HF7.out hHeld.1, rf_lower (show RF W3 W2.heap.size g9 a b (.slice none 0 0) [] from hf9) HBW.out.size, good_nil a⟩)
        have HB3 := Aside0.mk (below_then HBW.out HBW.out.size hHeld.1)
        have HGE : Aside0 (W2.heap.size ≤ g9 ∧ gy < W2.heap.size) := ⟨⟨hf9.ge, hgy2⟩⟩
        have hSZ : Aside0 (W2.heap.size ≤ W3.heap.size) := ⟨hHeld.1.size⟩
        clear hf9 hb9 z0 z1 hHeld
        have hkl : d.k ≤ maxLen := HD.out.l.lim
        have HC33 := Aside0.mk c33
        have HKW : Aside0 (w.heap.size < w1.heap.size) := ⟨by rw [← hw1]; simp⟩
        have HEA : Aside0 (∀ i, i < d.k → (d.ls.getD i []).length = 32 ∧ Bytes (d.ls.getD i [])) := ⟨fun i hi => by
          have hm : d.ls.getD i [] ∈ d.ls := by
            have : i < d.ls.length := by rw [HD.out.l.len]; exact hi
            simp [this]
          exact ⟨(HD.out.l.each _ hm).1, bytes_wf (HD.out.l.each _ hm).2⟩⟩
        have HSL := Aside0.mk (HD.out.l.below HB1.out)
        have HLL := Aside0.mk HD.out.l.len
        have HKC := Aside0.mk HD.out.kc
        generalize d.ls = L at *
        generalize d.A = A at *
        generalize d.k = k at *
        generalize d.c = c at *
        clear hgy2 c33
        go_wp2_with fail
        go_loopg [11] (11) (fun gk v11 wr => ∃ (i : Nat) (v9 : Value), v11 = .int .i64 i ∧ i ≤ k ∧ i ≤ 10 ∧ Aside0 (gk = 10 - i + 1) ∧ Aside0 (Pair wr w1.heap.size g7 g9 a b m v7 v9 (BlW.lay [] (fl (L.take i) a b))) ∧ Aside0 (Below w1.heap.size w1 wr) ∧ Aside0 (W2.heap.size ≤ wr.heap.size))
        case atStart => exact ⟨0, _, rfl, Nat.zero_le _, by omega, ⟨rfl⟩, HPR, HB3, ⟨hSZ.out⟩⟩
        case round =>
          obtain ⟨i, v9, rfl, hi, hi10, HG, HPI, HB, HSZ⟩ := hrel
          have hcs : wr.cell? ⟨w.heap.size, 33, none⟩ = some (.slice A k c) := (HB.out.cell (p := ⟨w.heap.size, 33, none⟩) HKW.out).trans HC33.out
          by_cases hlt : i < k
          · have g1 : decide ((i : Int) < (k : Int)) = true := by simp; omega
            by_cases hlt2 : i < 10
            · have g2 : decide ((i : Int) < 10) = true := by simp; omega
              obtain ⟨ad, hA⟩ := HSL.out.is (by omega)
              subst hA
              have hp1 : (0 : Int) ≤ (i : Int) := by omega
              have hp2 : (i : Int) < (k : Int) := by omega
              have hr1 := Aside0.mk ((HSL.out.below HB.out).cells ad rfl i hlt)
              have hr132 := (HEA.out i hlt).1
              have HX2 := Aside0.mk (fl_snoc (L.take i) (L.getD i []) a b)
              rw [show L.take i ++ [L.getD i []] = L.take (i + 1) from by rw [take_snoc' L i (by rw [HLL.out]; exact hlt)]] at HX2
              have HGO := Aside0.mk (good_len HPI.out.good)
              generalize BlW.lay [] (fl (L.take i) a b) = X at *
              have hA1 := add_calls wr _ g7 a b v7 X m (L.getD i []) HPI.out.x HK.out HMM.out hr132 (HEA.out i hlt).2
              have HA1 := Aside0.mk hA1
              clear hA1
              go_wp2_with ((with_reducible refine gate_ (.load 22 (.tmp 89)) rfl ?_); refine Hd.wpList_load_any rfl _ (.tmp 89) rfl _ rfl (nums .u8 (L.getD i [])) _ hr1.out HU.out rfl (infoSum _ hr132) ?_)
              refine HA1.out.mono ?_
              rintro e W5 ⟨rfl, hf5, hg5⟩
              have HF5 := Aside0.mk hf5
              have HY5 := Aside0.mk (rf_words HPI.out.y HPI.out.x (by rw [wordsOf_len]; exact HM.out.2.1) hg5)
              have HB5 := Aside0.mk (bf_grown HPI.out.x HB.out (Nat.le_refl _) hg5)
              have HS5 : Aside0 (W2.heap.size ≤ W5.heap.size) := ⟨Nat.le_trans HSZ.out hg5.size⟩
              have hcs2 : W5.cell? ⟨w.heap.size, 33, none⟩ = some (.slice (some ad) k c) := (HB5.out.cell (p := ⟨w.heap.size, 33, none⟩) HKW.out).trans HC33.out
              have hr2 := Aside0.mk ((HSL.out.below HB5.out).cells ad rfl i hlt)
              have hA2 := radd_calls W5 _ g9 a b v9 X (L.getD i []) HY5.out hr132 (HEA.out i hlt).2 (by have := HGO.out; have := HM.out; omega)
              rw [layL_eq] at hA2
              have HA2 := Aside0.mk hA2
              clear hf5 hg5 hcs hA2
              go_wp2_with ((with_reducible refine gate_ (.load 22 (.tmp 96)) rfl ?_); refine Hd.wpList_load_any rfl _ (.tmp 96) rfl _ rfl (nums .u8 (L.getD i [])) _ hr2.out HU.out rfl (infoSum _ hr132) ?_)
              refine HA2.out.mono ?_
              rintro e W6 ⟨v9', rfl, hf6, hg6⟩
              have HP6 := Aside0.mk (show Pair W6 w1.heap.size g7 g9 a b m v7 v9' (BlW.lay [] (fl (L.take (i + 1)) a b)) from by
                rw [HX2.out]
                exact ⟨bf_ref HF5.out HY5.out hg6, hf6, good_lay _ HPI.out.good (plL_good _ a b HK.out)⟩)
              have HB6 := Aside0.mk ((Tch.of_y v7 hg6).below HB5.out HB5.out.size HY5.out.ge (fun k hk => own_ge HF5.out k hk))
              have HS6 : Aside0 (W2.heap.size ≤ W6.heap.size) := ⟨Nat.le_trans HS5.out hg6.size⟩
              clear hf6 hg6
              go_wp2
              go_roundg (10 - (i + 1) + 1)
              case measure => have := HG.out; omega
              case rel => exact ⟨i + 1, v9', by go_num, by omega, by omega, ⟨rfl⟩, HP6, HB6, HS6⟩
            · have g2 : decide ((i : Int) < 10) = false := by simp; omega
              have HGO := Aside0.mk HPI.out.good
              generalize BlW.lay [] (fl (L.take i) a b) = X at *
              have HGL := Aside0.mk (good_len HGO.out)
              obtain ⟨A9, c9, hv9, _, _⟩ := Kd.R_reads HPI.out.y.row
              subst hv9
              have hc9 := obj_cell (v := .slice A9 X.length c9) HPI.out.y.blk 2 rfl
              have HPW := Aside0.mk ((HP1.out.below HB.out).below (below_drew1 (Below.refl _ wr)))
              have HPG := Aside0.mk (HPI.out.below (below_drew1 (Below.refl _ wr)))
              have hx7 : vx.ownBlock ≠ v7.ownBlock := fun e => HNE.out e.symm
              have hme := merge_calls wr.drew base gx a b vx on m w1.heap.size g7 v7 X HPW.out.x HPG.out.x hx7 HM.out.1 HM.out.2.1
              have HME := Aside0.mk hme
              have HNE9 : Aside0 (g9 ≠ gy) := ⟨by have := HGE.out; omega⟩
              clear hme hx7
              go_wp2_with fail
              (refine Hd.startE (S := (fun w' => w'.cell? ⟨g9, 2, none⟩ = some (.slice A9 X.length c9))) 1000 (by kernel_rfl) (hc9) (fun hHeld => ?_))
              (refine Hd.takeE (i := 0) (v := ?_) rfl rfl (by kernel_rfl) (by kernel_rfl) (by kernel_rfl) (by kernel_rfl) (fun _ _ _ h => h) (Or.inl ⟨by rfl, ?_⟩) (by assumption) ?_; rotate_left; (focus (intro wS hS; (try go_split_ands); go_simp; all_goals (with_reducible rfl))); simp only [List.set_cons_zero, List.set_cons_succ, List.setIfInBounds_toArray]); (refine Hd.takeE (i := 1) (v := ?_) rfl rfl (by kernel_rfl) (by kernel_rfl) (by kernel_rfl) (by kernel_rfl) (fun _ _ _ h => h) (Or.inl ⟨by rfl, ?_⟩) (by assumption) ?_; rotate_left; (focus (intro wS hS; (try go_split_ands); go_simp; all_goals (with_reducible rfl))); simp only [List.set_cons_zero, List.set_cons_succ, List.setIfInBounds_toArray]); (refine Hd.takeE (i := 3) (v := ?_) rfl rfl (by kernel_rfl) (by kernel_rfl) (by kernel_rfl) (by kernel_rfl) (fun _ _ _ h => h) (Or.inl ⟨by rfl, ?_⟩) (by assumption) ?_; rotate_left; (focus (intro wS hS; (try go_split_ands); go_simp; all_goals (with_reducible rfl))); simp only [List.set_cons_zero, List.set_cons_succ, List.setIfInBounds_toArray]); (refine Hd.takeE (i := 4) (v := ?_) rfl rfl (by kernel_rfl) (by kernel_rfl) (by kernel_rfl) (by kernel_rfl) (fun _ _ _ h => h) (Or.inl ⟨by rfl, ?_⟩) (by assumption) ?_; rotate_left; (focus (intro wS hS; (try go_split_ands); go_simp; all_goals (with_reducible rfl))); simp only [List.set_cons_zero, List.set_cons_succ, List.setIfInBounds_toArray])
              (refine Hd.readyE (rs := [2]) (by kernel_rfl) (by simp) ?_; refine Hd.AllE.cons (i := 2) rfl (fun K hK => ?_) Hd.AllE.nil; (go_simp; refine HME.out.mono ?_; rintro e W5 ⟨rfl, hf5, hg5⟩; have HY5 := Aside0.mk (rf_words HPW.out.y HPW.out.x (by rw [wordsOf_len]; exact HM.out.2.1) hg5); have HH5 := Aside0.mk (rf_words HPG.out.y HPW.out.x (by rw [wordsOf_len]; exact HM.out.2.1) hg5); have HG5 := Aside0.mk (bf_other HPG.out.x HPW.out.x (by rw [wordsOf_len]; exact HM.out.2.1) (fun e => HNE.out e.symm) hg5); have HF5 := Aside0.mk hf5; have HT5 := Aside0.mk (Tch.of_x gy hg5)); refine hK.out _ _ (obj_cell HH5.out.blk 2 rfl) (fun hHeld => ?_); clear hK K; (try simp only [Act.put, List.setIfInBounds_toArray, List.set_cons_zero, List.set_cons_succ]))
              have hrm := rmerge_calls W5 base gy a b vy on w1.heap.size g9 _ X HY5.out HH5.out (by have := HON.out; have := HGL.out; have := HM.out; omega)
              rw [layL_eq] at hrm
              have HRM := Aside0.mk hrm
              clear hrm hf5 hg5
              (refine Hd.readyE (rs := [5]) (by kernel_rfl) (by simp) ?_; refine Hd.AllE.cons (i := 5) rfl (fun K hK => ?_) Hd.AllE.nil; (go_simp; refine HRM.out.mono ?_; rintro e W6 ⟨vy', rfl, hf6, hg6⟩; have HH6 := Aside0.mk (rf_ref HH5.out HY5.out HNE9.out hg6)); refine hK.out _ _ (obj_cell HH6.out.blk 2 rfl) (fun hHeld => ?_); clear hK K; (try simp only [Act.put, List.setIfInBounds_toArray, List.set_cons_zero, List.set_cons_succ]))
              have HPF := Aside0.mk (show Pair W6 base gx gy a b m vx vy' (BlW.lay on X) from ⟨bf_ref HF5.out HY5.out hg6, hf6, good_lay X HP.out.good HGO.out.lt⟩)
              have hon := ones_f W6 w1.heap.size g7 a b v7 X m (bf_ref HG5.out HY5.out hg6) (by have := HM.out; omega)
              rw [sm_good HGO.out HM.out.2.2.1] at hon
              have HO6 := Aside0.mk hon
              have HT6 := Aside0.mk (HT5.out.trans (Tch.of_y vx hg6))
              clear hon hf6 hg6
              (refine Hd.takeE (i := 6) (v := ?_) rfl rfl (by kernel_rfl) (by kernel_rfl) (by kernel_rfl) (by kernel_rfl) (fun _ _ _ h => h) (Or.inl ⟨by rfl, ?_⟩) (by assumption) ?_; rotate_left; (focus (intro wS hS; (try go_split_ands); go_simp; all_goals (with_reducible rfl))); simp only [List.set_cons_zero, List.set_cons_succ, List.setIfInBounds_toArray]); (refine Hd.takeE (i := 7) (v := ?_) rfl rfl (by kernel_rfl) (by kernel_rfl) (by kernel_rfl) (by kernel_rfl) (fun _ _ _ h => h) (Or.inl ⟨by rfl, ?_⟩) (by assumption) ?_; rotate_left; (focus (intro wS hS; (try go_split_ands); go_simp; all_goals (with_reducible rfl))); simp only [List.set_cons_zero, List.set_cons_succ, List.setIfInBounds_toArray]); (refine Hd.takeE (i := 8) (v := ?_) rfl rfl (by kernel_rfl) (by kernel_rfl) (by kernel_rfl) (by kernel_rfl) (fun _ _ _ h => h) (Or.inl ⟨by rfl, ?_⟩) (by assumption) ?_; rotate_left; (focus (intro wS hS; (try go_split_ands); go_simp; all_goals (with_reducible rfl))); simp only [List.set_cons_zero, List.set_cons_succ, List.setIfInBounds_toArray]); (refine Hd.takeE (i := 10) (v := ?_) rfl rfl (by kernel_rfl) (by kernel_rfl) (by kernel_rfl) (by kernel_rfl) (fun _ _ _ h => h) (Or.inl ⟨by rfl, ?_⟩) (by assumption) ?_; rotate_left; (focus (intro wS hS; (try go_split_ands); go_simp; all_goals (with_reducible rfl))); simp only [List.set_cons_zero, List.set_cons_succ, List.setIfInBounds_toArray]); (refine Hd.takeE (i := 11) (v := ?_) rfl rfl (by kernel_rfl) (by kernel_rfl) (by kernel_rfl) (by kernel_rfl) (fun _ _ _ h => h) (Or.inl ⟨by rfl, ?_⟩) (by assumption) ?_; rotate_left; (focus (intro wS hS; (try go_split_ands); go_simp; all_goals (with_reducible rfl))); simp only [List.set_cons_zero, List.set_cons_succ, List.setIfInBounds_toArray]); (refine Hd.takeE (i := 12) (v := ?_) rfl rfl (by kernel_rfl) (by kernel_rfl) (by kernel_rfl) (by kernel_rfl) (fun _ _ _ h => h) (Or.inl ⟨by rfl, ?_⟩) (by assumption) ?_; rotate_left; (focus (intro wS hS; (try go_split_ands); go_simp; all_goals (with_reducible rfl))); simp only [List.set_cons_zero, List.set_cons_succ, List.setIfInBounds_toArray]); (refine Hd.takeE (i := 13) (v := ?_) rfl rfl (by kernel_rfl) (by kernel_rfl) (by kernel_rfl) (by kernel_rfl) (fun _ _ _ h => h) (Or.inl ⟨by rfl, ?_⟩) (by assumption) ?_; rotate_left; (focus (intro wS hS; (try go_split_ands); go_simp; all_goals (with_reducible rfl))); simp only [List.set_cons_zero, List.set_cons_succ, List.setIfInBounds_toArray]); (refine Hd.takeE (i := 14) (v := ?_) rfl rfl (by kernel_rfl) (by kernel_rfl) (by kernel_rfl) (by kernel_rfl) (fun _ _ _ h => h) (Or.inl ⟨by rfl, ?_⟩) (by assumption) ?_; rotate_left; (focus (intro wS hS; (try go_split_ands); go_simp; all_goals (with_reducible rfl))); simp only [List.set_cons_zero, List.set_cons_succ, List.setIfInBounds_toArray])
              (refine Hd.readyE (rs := [9]) (by kernel_rfl) (by simp) ?_; refine Hd.AllE.cons (i := 9) rfl (fun K hK => ?_) Hd.AllE.nil; (go_simp; refine HO6.out.mono ?_; rintro e W7 ⟨rfl, rfl⟩); refine hK.out _ _ (hHeld) (fun hHeld => ?_); clear hK K; (try simp only [Act.put, List.setIfInBounds_toArray, List.set_cons_zero, List.set_cons_succ]))
              (refine Hd.takeE (i := 15) (v := ?_) rfl rfl (by kernel_rfl) (by kernel_rfl) (by kernel_rfl) (by kernel_rfl) (fun _ _ _ h => h) (Or.inl ⟨by rfl, ?_⟩) (by assumption) ?_; rotate_left; (focus (intro wS hS; (try go_split_ands); go_simp; all_goals (with_reducible rfl))); simp only [List.set_cons_zero, List.set_cons_succ, List.setIfInBounds_toArray]); (refine Hd.takeE (i := 16) (v := ?_) rfl rfl (by kernel_rfl) (by kernel_rfl) (by kernel_rfl) (by kernel_rfl) (fun _ _ _ h => h) (Or.inl ⟨by rfl, ?_⟩) (by assumption) ?_; rotate_left; (focus (intro wS hS; (try go_split_ands); go_simp; all_goals (with_reducible rfl))); simp only [List.set_cons_zero, List.set_cons_succ, List.setIfInBounds_toArray]); (refine Hd.takeE (i := 17) (v := ?_) rfl rfl (by kernel_rfl) (by kernel_rfl) (by kernel_rfl) (by kernel_rfl) (fun _ _ _ h => h) (Or.inl ⟨by rfl, ?_⟩) (by assumption) ?_; rotate_left; (focus (intro wS hS; (try go_split_ands); go_simp; all_goals (with_reducible rfl))); simp only [List.set_cons_zero, List.set_cons_succ, List.setIfInBounds_toArray])
              (refine Hd.endE (by kernel_rfl) ?_ _)
              have HTF := Aside0.mk (((Tch.of_below gy vx HB1.out).trans (Tch.of_below gy vx HB.out)).trans ((Tch.of_below gy vx (below_drew1 (Below.refl _ wr))).trans HT6.out))
              clear hHeld
              go_wp2
              go_ret
              exact ⟨vy', _, rfl, HPF.out, HTF.out, fun _ p hp => lay_keeps _ _ p hp⟩
          · have g1 : decide ((i : Int) < (k : Int)) = false := by simp; omega
            have HGO := Aside0.mk HPI.out.good
            generalize BlW.lay [] (fl (L.take i) a b) = X at *
            have HGL := Aside0.mk (good_len HGO.out)
            obtain ⟨A9, c9, hv9, _, _⟩ := Kd.R_reads HPI.out.y.row
            subst hv9
            have hc9 := obj_cell (v := .slice A9 X.length c9) HPI.out.y.blk 2 rfl
            have HPW := Aside0.mk ((HP1.out.below HB.out).below (below_drew1 (Below.refl _ wr)))
            have HPG := Aside0.mk (HPI.out.below (below_drew1 (Below.refl _ wr)))
            have hx7 : vx.ownBlock ≠ v7.ownBlock := fun e => HNE.out e.symm
            have hme := merge_calls wr.drew base gx a b vx on m w1.heap.size g7 v7 X HPW.out.x HPG.out.x hx7 HM.out.1 HM.out.2.1
            have HME := Aside0.mk hme
            have HNE9 : Aside0 (g9 ≠ gy) := ⟨by have := HGE.out; omega⟩
            clear hme hx7
            go_wp2_with fail
            (refine Hd.startE (S := (fun w' => w'.cell? ⟨g9, 2, none⟩ = some (.slice A9 X.length c9))) 1000 (by kernel_rfl) (hc9) (fun hHeld => ?_))
            (refine Hd.takeE (i := 0) (v := ?_) rfl rfl (by kernel_rfl) (by kernel_rfl) (by kernel_rfl) (by kernel_rfl) (fun _ _ _ h => h) (Or.inl ⟨by rfl, ?_⟩) (by assumption) ?_; rotate_left; (focus (intro wS hS; (try go_split_ands); go_simp; all_goals (with_reducible rfl))); simp only [List.set_cons_zero, List.set_cons_succ, List.setIfInBounds_toArray]); (refine Hd.takeE (i := 1) (v := ?_) rfl rfl (by kernel_rfl) (by kernel_rfl) (by kernel_rfl) (by kernel_rfl) (fun _ _ _ h => h) (Or.inl ⟨by rfl, ?_⟩) (by assumption) ?_; rotate_left; (focus (intro wS hS; (try go_split_ands); go_simp; all_goals (with_reducible rfl))); simp only [List.set_cons_zero, List.set_cons_succ, List.setIfInBounds_toArray]); (refine Hd.takeE (i := 3) (v := ?_) rfl rfl (by kernel_rfl) (by kernel_rfl) (by kernel_rfl) (by kernel_rfl) (fun _ _ _ h => h) (Or.inl ⟨by rfl, ?_⟩) (by assumption) ?_; rotate_left; (focus (intro wS hS; (try go_split_ands); go_simp; all_goals (with_reducible rfl))); simp only [List.set_cons_zero, List.set_cons_succ, List.setIfInBounds_toArray]); (refine Hd.takeE (i := 4) (v := ?_) rfl rfl (by kernel_rfl) (by kernel_rfl) (by kernel_rfl) (by kernel_rfl) (fun _ _ _ h => h) (Or.inl ⟨by rfl, ?_⟩) (by assumption) ?_; rotate_left; (focus (intro wS hS; (try go_split_ands); go_simp; all_goals (with_reducible rfl))); simp only [List.set_cons_zero, List.set_cons_succ, List.setIfInBounds_toArray])
            (refine Hd.readyE (rs := [2]) (by kernel_rfl) (by simp) ?_; refine Hd.AllE.cons (i := 2) rfl (fun K hK => ?_) Hd.AllE.nil; (go_simp; refine HME.out.mono ?_; rintro e W5 ⟨rfl, hf5, hg5⟩; have HY5 := Aside0.mk (rf_words HPW.out.y HPW.out.x (by rw [wordsOf_len]; exact HM.out.2.1) hg5); have HH5 := Aside0.mk (rf_words HPG.out.y HPW.out.x (by rw [wordsOf_len]; exact HM.out.2.1) hg5); have HG5 := Aside0.mk (bf_other HPG.out.x HPW.out.x (by rw [wordsOf_len]; exact HM.out.2.1) (fun e => HNE.out e.symm) hg5); have HF5 := Aside0.mk hf5; have HT5 := Aside0.mk (Tch.of_x gy hg5)); refine hK.out _ _ (obj_cell HH5.out.blk 2 rfl) (fun hHeld => ?_); clear hK K; (try simp only [Act.put, List.setIfInBounds_toArray, List.set_cons_zero, List.set_cons_succ]))
            have hrm := rmerge_calls W5 base gy a b vy on w1.heap.size g9 _ X HY5.out HH5.out (by have := HON.out; have := HGL.out; have := HM.out; omega)
            rw [layL_eq] at hrm
            have HRM := Aside0.mk hrm
            clear hrm hf5 hg5
            (refine Hd.readyE (rs := [5]) (by kernel_rfl) (by simp) ?_; refine Hd.AllE.cons (i := 5) rfl (fun K hK => ?_) Hd.AllE.nil; (go_simp; refine HRM.out.mono ?_; rintro e W6 ⟨vy', rfl, hf6, hg6⟩; have HH6 := Aside0.mk (rf_ref HH5.out HY5.out HNE9.out hg6)); refine hK.out _ _ (obj_cell HH6.out.blk 2 rfl) (fun hHeld => ?_); clear hK K; (try simp only [Act.put, List.setIfInBounds_toArray, List.set_cons_zero, List.set_cons_succ]))
            have HPF := Aside0.mk (show Pair W6 base gx gy a b m vx vy' (BlW.lay on X) from ⟨bf_ref HF5.out HY5.out hg6, hf6, good_lay X HP.out.good HGO.out.lt⟩)
            have hon := ones_f W6 w1.heap.size g7 a b v7 X m (bf_ref HG5.out HY5.out hg6) (by have := HM.out; omega)
            rw [sm_good HGO.out HM.out.2.2.1] at hon
            have HO6 := Aside0.mk hon
            have HT6 := Aside0.mk (HT5.out.trans (Tch.of_y vx hg6))
            clear hon hf6 hg6
            (refine Hd.takeE (i := 6) (v := ?_) rfl rfl (by kernel_rfl) (by kernel_rfl) (by kernel_rfl) (by kernel_rfl) (fun _ _ _ h => h) (Or.inl ⟨by rfl, ?_⟩) (by assumption) ?_; rotate_left; (focus (intro wS hS; (try go_split_ands); go_simp; all_goals (with_reducible rfl))); simp only [List.set_cons_zero, List.set_cons_succ, List.setIfInBounds_toArray]); (refine Hd.takeE (i := 7) (v := ?_) rfl rfl (by kernel_rfl) (by kernel_rfl) (by kernel_rfl) (by kernel_rfl) (fun _ _ _ h => h) (Or.inl ⟨by rfl, ?_⟩) (by assumption) ?_; rotate_left; (focus (intro wS hS; (try go_split_ands); go_simp; all_goals (with_reducible rfl))); simp only [List.set_cons_zero, List.set_cons_succ, List.setIfInBounds_toArray]); (refine Hd.takeE (i := 8) (v := ?_) rfl rfl (by kernel_rfl) (by kernel_rfl) (by kernel_rfl) (by kernel_rfl) (fun _ _ _ h => h) (Or.inl ⟨by rfl, ?_⟩) (by assumption) ?_; rotate_left; (focus (intro wS hS; (try go_split_ands); go_simp; all_goals (with_reducible rfl))); simp only [List.set_cons_zero, List.set_cons_succ, List.setIfInBounds_toArray]); (refine Hd.takeE (i := 10) (v := ?_) rfl rfl (by kernel_rfl) (by kernel_rfl) (by kernel_rfl) (by kernel_rfl) (fun _ _ _ h => h) (Or.inl ⟨by rfl, ?_⟩) (by assumption) ?_; rotate_left; (focus (intro wS hS; (try go_split_ands); go_simp; all_goals (with_reducible rfl))); simp only [List.set_cons_zero, List.set_cons_succ, List.setIfInBounds_toArray]); (refine Hd.takeE (i := 11) (v := ?_) rfl rfl (by kernel_rfl) (by kernel_rfl) (by kernel_rfl) (by kernel_rfl) (fun _ _ _ h => h) (Or.inl ⟨by rfl, ?_⟩) (by assumption) ?_; rotate_left; (focus (intro wS hS; (try go_split_ands); go_simp; all_goals (with_reducible rfl))); simp only [List.set_cons_zero, List.set_cons_succ, List.setIfInBounds_toArray]); (refine Hd.takeE (i := 12) (v := ?_) rfl rfl (by kernel_rfl) (by kernel_rfl) (by kernel_rfl) (by kernel_rfl) (fun _ _ _ h => h) (Or.inl ⟨by rfl, ?_⟩) (by assumption) ?_; rotate_left; (focus (intro wS hS; (try go_split_ands); go_simp; all_goals (with_reducible rfl))); simp only [List.set_cons_zero, List.set_cons_succ, List.setIfInBounds_toArray]); (refine Hd.takeE (i := 13) (v := ?_) rfl rfl (by kernel_rfl) (by kernel_rfl) (by kernel_rfl) (by kernel_rfl) (fun _ _ _ h => h) (Or.inl ⟨by rfl, ?_⟩) (by assumption) ?_; rotate_left; (focus (intro wS hS; (try go_split_ands); go_simp; all_goals (with_reducible rfl))); simp only [List.set_cons_zero, List.set_cons_succ, List.setIfInBounds_toArray]); (refine Hd.takeE (i := 14) (v := ?_) rfl rfl (by kernel_rfl) (by kernel_rfl) (by kernel_rfl) (by kernel_rfl) (fun _ _ _ h => h) (Or.inl ⟨by rfl, ?_⟩) (by assumption) ?_; rotate_left; (focus (intro wS hS; (try go_split_ands); go_simp; all_goals (with_reducible rfl))); simp only [List.set_cons_zero, List.set_cons_succ, List.setIfInBounds_toArray])
            (refine Hd.readyE (rs := [9]) (by kernel_rfl) (by simp) ?_; refine Hd.AllE.cons (i := 9) rfl (fun K hK => ?_) Hd.AllE.nil; (go_simp; refine HO6.out.mono ?_; rintro e W7 ⟨rfl, rfl⟩); refine hK.out _ _ (hHeld) (fun hHeld => ?_); clear hK K; (try simp only [Act.put, List.setIfInBounds_toArray, List.set_cons_zero, List.set_cons_succ]))
            (refine Hd.takeE (i := 15) (v := ?_) rfl rfl (by kernel_rfl) (by kernel_rfl) (by kernel_rfl) (by kernel_rfl) (fun _ _ _ h => h) (Or.inl ⟨by rfl, ?_⟩) (by assumption) ?_; rotate_left; (focus (intro wS hS; (try go_split_ands); go_simp; all_goals (with_reducible rfl))); simp only [List.set_cons_zero, List.set_cons_succ, List.setIfInBounds_toArray]); (refine Hd.takeE (i := 16) (v := ?_) rfl rfl (by kernel_rfl) (by kernel_rfl) (by kernel_rfl) (by kernel_rfl) (fun _ _ _ h => h) (Or.inl ⟨by rfl, ?_⟩) (by assumption) ?_; rotate_left; (focus (intro wS hS; (try go_split_ands); go_simp; all_goals (with_reducible rfl))); simp only [List.set_cons_zero, List.set_cons_succ, List.setIfInBounds_toArray]); (refine Hd.takeE (i := 17) (v := ?_) rfl rfl (by kernel_rfl) (by kernel_rfl) (by kernel_rfl) (by kernel_rfl) (fun _ _ _ h => h) (Or.inl ⟨by rfl, ?_⟩) (by assumption) ?_; rotate_left; (focus (intro wS hS; (try go_split_ands); go_simp; all_goals (with_reducible rfl))); simp only [List.set_cons_zero, List.set_cons_succ, List.setIfInBounds_toArray])
            (refine Hd.endE (by kernel_rfl) ?_ _)
            have HTF := Aside0.mk (((Tch.of_below gy vx HB1.out).trans (Tch.of_below gy vx HB.out)).trans ((Tch.of_below gy vx (below_drew1 (Below.refl _ wr))).trans HT6.out))
            clear hHeld
            go_wp2
            go_ret
            exact ⟨vy', _, rfl, HPF.out, HTF.out, fun _ p hp => lay_keeps _ _ p hp⟩
end Go.Proofs.Ytnpcngnmjbhhaaa.BlDo
