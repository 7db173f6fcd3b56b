/- What the reference's summary computes: Places for all numbers, Add, Has, Merge, Fork; condition: a sum is 32 bytes. -/
import Derived.Test.YtnpcngnmjbhhaaaBlG
namespace Go.Proofs.Ytnpcngnmjbhhaaa.BlH
open Go Go.RowKit Go.Proofs.YtnpcngnmjbhhaaaW.PrintWords Go.Proofs.Ytnpcngnmjbhhaaa.K Go.Proofs.Ytnpcngnmjbhhaaa.OctS Go.Proofs.Ytnpcngnmjbhhaaa.OctP Go.Proofs.Ytnpcngnmjbhhaaa.BlS Go.Proofs.Ytnpcngnmjbhhaaa.BlP Go.Proofs.Ytnpcngnmjbhhaaa.BlC Go.Proofs.Ytnpcngnmjbhhaaa.BlD Go.Proofs.Ytnpcngnmjbhhaaa.BlN Go.Proofs.Ytnpcngnmjbhhaaa.BlE Go.Proofs.Ytnpcngnmjbhhaaa.BlF Go.Proofs.Ytnpcngnmjbhhaaa.BlG Go.Proofs.Ytnpcngnmjbhhaaa.Oct
set_option linter.unusedVariables false
set_option linter.unusedSimpArgs false
theorem rplaces_no (bs : List Int) (s k : Int) (h : ¬ okF s k) (w : World) : Calls Try.prog 11 #[.agg (nums .u8 bs).toArray, .int .i64 s, .int .i64 k] w fun e w' =>
    ∃ v, e = .returned v ∧ Kd.R (Kd.int .i64) 3 w' w.heap.size (fun _ => True) (v) ([]) ∧ Below w.heap.size w w' := by
  have fin : ∀ W : World, W = (w.alloc (.cells (nums .u8 bs).toArray 22)).alloc (.cells #[] 3) → ∃ v, Ending.returned (.slice (some ⟨w.heap.size + 1, 0, none⟩) 0 0) = .returned v ∧ Kd.R (Kd.int .i64) 3 W w.heap.size (fun _ => True) (v) ([]) ∧ Below w.heap.size w W := by
    rintro W rfl
    refine ⟨_, rfl, made_at ?_ (by omega), below_alloc (below_alloc (Below.refl _ _) _) _⟩
    have h := heap_alloc_new (w.alloc (.cells (nums .u8 bs).toArray 22)) (.cells #[] 3)
    rwa [World.size_alloc] at h
  have FIN := Aside0.mk fin
  clear fin
  unfold okF at h
  by_cases g1 : 1 ≤ s
  · have h1 : decide (s < 1) = false := by simp; omega
    by_cases g2 : s ≤ 65536
    · have h2 : decide (65536 < s) = false := by simp; omega
      by_cases g3 : 1 ≤ k
      · have h3 : decide (k < 1) = false := by simp; omega
        have h4 : decide (8 < k) = true := by simp; omega
        go_enter Try.func11, Try.ntmps11
        go_wp2
        go_ret
        exact FIN.out _ rfl
      · have h3 : decide (k < 1) = true := by simp; omega
        go_enter Try.func11, Try.ntmps11
        go_wp2
        go_ret
        exact FIN.out _ rfl
    · have h2 : decide (65536 < s) = true := by simp; omega
      go_enter Try.func11, Try.ntmps11
      go_wp2
      go_ret
      exact FIN.out _ rfl
  · have h1 : decide (s < 1) = true := by simp; omega
    go_enter Try.func11, Try.ntmps11
    go_wp2
    go_ret
    exact FIN.out _ rfl
theorem pls_plL (bs : List Int) (m n : Nat) (h : okF m n) : plL bs m n = pls bs m n := by
  unfold plL pls
  rw [if_pos h]
  simp
theorem rplaces_all (bs : List Int) (s k : Int) (w : World) (hl : bs.length = 32) (hb : Bytes bs) : Calls Try.prog 11 #[.agg (nums .u8 bs).toArray, .int .i64 s, .int .i64 k] w fun e w' =>
    ∃ v, e = .returned v ∧ Kd.R (Kd.int .i64) 3 w' w.heap.size (fun _ => True) (v) (plL bs s k) ∧ Below w.heap.size w w' := by
  by_cases h : okF s k
  · obtain ⟨m, rfl⟩ := Int.eq_ofNat_of_zero_le (show 0 ≤ s by unfold okF at h; omega)
    obtain ⟨n, rfl⟩ := Int.eq_ofNat_of_zero_le (show 0 ≤ k by unfold okF at h; omega)
    rw [pls_plL bs m n h]
    exact rplaces_yes bs m n h w hl hb
  · rw [show plL bs s k = [] from if_neg h]
    exact rplaces_no bs s k h w
theorem plL_len (bs : List Int) (s k : Int) : (plL bs s k).length ≤ 8 := by
  unfold plL
  split
  · rename_i h
    unfold okF at h
    simp; omega
  · simp
theorem rf_below {w w1 : World} {base g : Nat} {size ways : Int} {v : Value} {on : List Int} (h : RF w base g size ways v on) (hb : Below w.heap.size w w1) : RF w1 base g size ways v on :=
  ⟨h.ge, (hb.block g (rf_lt h)).trans h.blk, R_below_int h.row hb⟩
set_option maxHeartbeats 2000000 in
theorem radd_calls (w : World) (base g : Nat) (size ways : Int) (v : Value) (on bs : List Int) (h : RF w base g size ways v on) (hl : bs.length = 32) (hb : Bytes bs) (hn : on.length ≤ 90000) :
    Calls Try.prog 20 #[.pointer (some ⟨g, 0, none⟩), .agg (nums .u8 bs).toArray] w fun e w' => ∃ v', e = .returned (.tuple #[]) ∧ RF w' base g size ways v' (layL on (plL bs size ways)) ∧ w.grownBy w' (some g) := by
  have hund := Try.underlying22
  have hi32 := infoSum bs hl
  have HF := Aside0.mk h
  have HL := Aside0.mk hl
  have HY := Aside0.mk hb
  have HN := Aside0.mk hn
  have hg0 := rf_lt h
  have HR := Aside0.mk (range_new w (nums .u8 bs) 22)
  have c0 := (below_alloc (Below.refl w.heap.size w) (.cells (nums .u8 bs).toArray 22)).cell (p := ⟨g, 0, none⟩) hg0 |>.trans (obj_cell (v := .int .i64 size) h.blk 0 rfl)
  have c1 := (below_alloc (Below.refl w.heap.size w) (.cells (nums .u8 bs).toArray 22)).cell (p := ⟨g, 1, none⟩) hg0 |>.trans (obj_cell (v := .int .i64 ways) h.blk 1 rfl)
  clear h hl hb hn
  go_enter Try.func20, Try.ntmps20
  go_wp2_with fail
  (refine Hd.startE (S := (fun w' => w'.rangeAt w.heap.size 0 (nums .u8 bs) ∧ w'.cell? ⟨g, 0, none⟩ = some (.int .i64 size) ∧ w'.cell? ⟨g, 1, none⟩ = some (.int .i64 ways))) 1000 (by kernel_rfl) (⟨(World.rangeAt_drew _ _ _ _).2 HR.out, c0, c1⟩) (fun hHeld => ?_))
  (refine Hd.takeE (i := 0) (v := ?_) rfl rfl (by kernel_rfl) (by kernel_rfl) (by kernel_rfl) (by kernel_rfl) (fun _ _ _ h => h) (Or.inl ⟨by rfl, ?_⟩) (by assumption) ?_; rotate_left; (focus (intro wS hS; (try go_split_ands); go_simp; all_goals (with_reducible rfl))); simp only [List.set_cons_zero, List.set_cons_succ, List.setIfInBounds_toArray])
  (refine Hd.takeE (i := 1) rfl rfl (by kernel_rfl) (by kernel_rfl) (by kernel_rfl) (by kernel_rfl) (fun _ _ _ h => h) (yieldsIf_load_mid (by rfl) 22 _ rfl w.heap.size 0 rfl (nums .u8 bs) _ (fun wS hS => hS.1) hund rfl hi32) (by assumption) ?_; simp only [List.set_cons_zero, List.set_cons_succ, List.setIfInBounds_toArray])
  (refine Hd.takeE (i := 2) (v := ?_) rfl rfl (by kernel_rfl) (by kernel_rfl) (by kernel_rfl) (by kernel_rfl) (fun _ _ _ h => h) (Or.inl ⟨by rfl, ?_⟩) (by assumption) ?_; rotate_left; (focus (intro wS hS; (try go_split_ands); go_simp; all_goals (with_reducible rfl))); simp only [List.set_cons_zero, List.set_cons_succ, List.setIfInBounds_toArray]); (refine Hd.takeE (i := 3) (v := ?_) rfl rfl (by kernel_rfl) (by kernel_rfl) (by kernel_rfl) (by kernel_rfl) (fun _ _ _ h => h) (Or.inl ⟨by rfl, ?_⟩) (by assumption) ?_; rotate_left; (focus (intro wS hS; (try go_split_ands); go_simp; all_goals (with_reducible rfl))); simp only [List.set_cons_zero, List.set_cons_succ, List.setIfInBounds_toArray]); (refine Hd.takeE (i := 4) (v := ?_) rfl rfl (by kernel_rfl) (by kernel_rfl) (by kernel_rfl) (by kernel_rfl) (fun _ _ _ h => h) (Or.inl ⟨by rfl, ?_⟩) (by assumption) ?_; rotate_left; (focus (intro wS hS; (try go_split_ands); go_simp; all_goals (with_reducible rfl))); simp only [List.set_cons_zero, List.set_cons_succ, List.setIfInBounds_toArray]); (refine Hd.takeE (i := 5) (v := ?_) rfl rfl (by kernel_rfl) (by kernel_rfl) (by kernel_rfl) (by kernel_rfl) (fun _ _ _ h => h) (Or.inl ⟨by rfl, ?_⟩) (by assumption) ?_; rotate_left; (focus (intro wS hS; (try go_split_ands); go_simp; all_goals (with_reducible rfl))); simp only [List.set_cons_zero, List.set_cons_succ, List.setIfInBounds_toArray]); (refine Hd.takeE (i := 6) (v := ?_) rfl rfl (by kernel_rfl) (by kernel_rfl) (by kernel_rfl) (by kernel_rfl) (fun _ _ _ h => h) (Or.inl ⟨by rfl, ?_⟩) (by assumption) ?_; rotate_left; (focus (intro wS hS; (try go_split_ands); go_simp; all_goals (with_reducible rfl))); simp only [List.set_cons_zero, List.set_cons_succ, List.setIfInBounds_toArray]); (refine Hd.takeE (i := 7) (v := ?_) rfl rfl (by kernel_rfl) (by kernel_rfl) (by kernel_rfl) (by kernel_rfl) (fun _ _ _ h => h) (Or.inl ⟨by rfl, ?_⟩) (by assumption) ?_; rotate_left; (focus (intro wS hS; (try go_split_ands); go_simp; all_goals (with_reducible rfl))); simp only [List.set_cons_zero, List.set_cons_succ, List.setIfInBounds_toArray]); (refine Hd.takeE (i := 8) (v := ?_) rfl rfl (by kernel_rfl) (by kernel_rfl) (by kernel_rfl) (by kernel_rfl) (fun _ _ _ h => h) (Or.inl ⟨by rfl, ?_⟩) (by assumption) ?_; rotate_left; (focus (intro wS hS; (try go_split_ands); go_simp; all_goals (with_reducible rfl))); simp only [List.set_cons_zero, List.set_cons_succ, List.setIfInBounds_toArray]); (refine Hd.takeE (i := 9) (v := ?_) rfl rfl (by kernel_rfl) (by kernel_rfl) (by kernel_rfl) (by kernel_rfl) (fun _ _ _ h => h) (Or.inl ⟨by rfl, ?_⟩) (by assumption) ?_; rotate_left; (focus (intro wS hS; (try go_split_ands); go_simp; all_goals (with_reducible rfl))); simp only [List.set_cons_zero, List.set_cons_succ, List.setIfInBounds_toArray])
  have HB1 := Aside0.mk (below_drew1 (below_alloc (Below.refl w.heap.size w) (.cells (nums .u8 bs).toArray 22)))
  (refine Hd.readyE (rs := [10]) (by kernel_rfl) (by simp) ?_; refine Hd.AllE.cons (i := 10) rfl (fun K hK => ?_) Hd.AllE.nil; (go_simp; (go_at_call 11; (with_reducible refine (rplaces_all bs size ways _ HL.out HY.out).mono ?_); rintro e w1 ⟨v1, rfl, ho1, hb1⟩)); refine hK.out _ _ (⟨range_below hHeld.1 hb1, (hb1.cell (p := ⟨g, 0, none⟩) (by simp; omega)).trans hHeld.2.1, (hb1.cell (p := ⟨g, 1, none⟩) (by simp; omega)).trans hHeld.2.2⟩) (fun hHeld => ?_); clear hK K; (try simp only [Act.put, List.setIfInBounds_toArray, List.set_cons_zero, List.set_cons_succ]))
  have HB2 := Aside0.mk (below_then HB1.out (by simp) hb1)
  have HP := Aside0.mk (Kd.R_lower ho1 (Nat.zero_le _))
  have HF2 := Aside0.mk (rf_below HF.out HB2.out)
  clear ho1 hb1
  (refine Hd.readyE (rs := [11]) (by kernel_rfl) (by simp) ?_; refine Hd.AllE.cons (i := 11) rfl (fun K hK => ?_) Hd.AllE.nil; (go_simp; (go_at_call 32; (with_reducible refine (lay_calls w1 base g size ways v v1 on (plL bs size ways) HF2.out HP.out (by have := HN.out; have := plL_len bs size ways; omega)).mono ?_); rintro e w2 ⟨v2, rfl, hf2, hg2⟩)); refine hK.out _ _ (⟨fun j u hj => (World.cell?_of_block (w := w1) (a := ⟨w.heap.size, 0 + j, none⟩) (hg2.block w.heap.size (World.block_lt_of_cell? w1 _ (hHeld.1 j u hj)) (by intro e; injection e; omega))).trans (hHeld.1 j u hj), obj_cell hf2.blk 0 rfl, obj_cell hf2.blk 1 rfl⟩) (fun hHeld => ?_); clear hK K; (try simp only [Act.put, List.setIfInBounds_toArray, List.set_cons_zero, List.set_cons_succ]))
  have HE := Aside0.mk hf2
  have HG := Aside0.mk (World.grownBy.trans (grown_of_below HB2.out _) hg2)
  clear hf2 hg2
  (refine Hd.endE (by kernel_rfl) ?_ _)
  go_end0
  exact ⟨v2, rfl, HE.out, HG.out⟩
set_option maxHeartbeats 2000000 in
theorem rhas_calls (w : World) (base g : Nat) (size ways : Int) (v : Value) (on bs : List Int) (h : RF w base g size ways v on) (hl : bs.length = 32) (hb : Bytes bs) (hn : on.length ≤ 90000) :
    Calls Try.prog 18 #[.pointer (some ⟨g, 0, none⟩), .agg (nums .u8 bs).toArray] w fun e w' => e = .returned (.bool ((plL bs size ways).all (fun p => on.contains p))) ∧ Below w.heap.size w w' := by
  have hund := Try.underlying22
  have hi32 := infoSum bs hl
  have HF := Aside0.mk h
  have HL := Aside0.mk hl
  have HY := Aside0.mk hb
  have HN := Aside0.mk hn
  have hg0 := rf_lt h
  have HR := Aside0.mk (range_new w (nums .u8 bs) 22)
  have c0 := (below_alloc (Below.refl w.heap.size w) (.cells (nums .u8 bs).toArray 22)).cell (p := ⟨g, 0, none⟩) hg0 |>.trans (obj_cell (v := .int .i64 size) h.blk 0 rfl)
  have c1 := (below_alloc (Below.refl w.heap.size w) (.cells (nums .u8 bs).toArray 22)).cell (p := ⟨g, 1, none⟩) hg0 |>.trans (obj_cell (v := .int .i64 ways) h.blk 1 rfl)
  clear h hl hb hn
  go_enter Try.func18, Try.ntmps18
  go_wp2_with fail
  (refine Hd.startE (S := (fun w' => w'.rangeAt w.heap.size 0 (nums .u8 bs) ∧ w'.cell? ⟨g, 0, none⟩ = some (.int .i64 size) ∧ w'.cell? ⟨g, 1, none⟩ = some (.int .i64 ways))) 1000 (by kernel_rfl) (⟨(World.rangeAt_drew _ _ _ _).2 HR.out, c0, c1⟩) (fun hHeld => ?_))
  (refine Hd.takeE (i := 0) rfl rfl (by kernel_rfl) (by kernel_rfl) (by kernel_rfl) (by kernel_rfl) (fun _ _ _ h => h) (yieldsIf_load_mid (by rfl) 22 _ rfl w.heap.size 0 rfl (nums .u8 bs) _ (fun wS hS => hS.1) hund rfl hi32) (by assumption) ?_; simp only [List.set_cons_zero, List.set_cons_succ, List.setIfInBounds_toArray])
  (refine Hd.takeE (i := 1) (v := ?_) rfl rfl (by kernel_rfl) (by kernel_rfl) (by kernel_rfl) (by kernel_rfl) (fun _ _ _ h => h) (Or.inl ⟨by rfl, ?_⟩) (by assumption) ?_; rotate_left; (focus (intro wS hS; (try go_split_ands); go_simp; all_goals (with_reducible rfl))); simp only [List.set_cons_zero, List.set_cons_succ, List.setIfInBounds_toArray]); (refine Hd.takeE (i := 2) (v := ?_) rfl rfl (by kernel_rfl) (by kernel_rfl) (by kernel_rfl) (by kernel_rfl) (fun _ _ _ h => h) (Or.inl ⟨by rfl, ?_⟩) (by assumption) ?_; rotate_left; (focus (intro wS hS; (try go_split_ands); go_simp; all_goals (with_reducible rfl))); simp only [List.set_cons_zero, List.set_cons_succ, List.setIfInBounds_toArray]); (refine Hd.takeE (i := 3) (v := ?_) rfl rfl (by kernel_rfl) (by kernel_rfl) (by kernel_rfl) (by kernel_rfl) (fun _ _ _ h => h) (Or.inl ⟨by rfl, ?_⟩) (by assumption) ?_; rotate_left; (focus (intro wS hS; (try go_split_ands); go_simp; all_goals (with_reducible rfl))); simp only [List.set_cons_zero, List.set_cons_succ, List.setIfInBounds_toArray]); (refine Hd.takeE (i := 4) (v := ?_) rfl rfl (by kernel_rfl) (by kernel_rfl) (by kernel_rfl) (by kernel_rfl) (fun _ _ _ h => h) (Or.inl ⟨by rfl, ?_⟩) (by assumption) ?_; rotate_left; (focus (intro wS hS; (try go_split_ands); go_simp; all_goals (with_reducible rfl))); simp only [List.set_cons_zero, List.set_cons_succ, List.setIfInBounds_toArray]); (refine Hd.takeE (i := 5) (v := ?_) rfl rfl (by kernel_rfl) (by kernel_rfl) (by kernel_rfl) (by kernel_rfl) (fun _ _ _ h => h) (Or.inl ⟨by rfl, ?_⟩) (by assumption) ?_; rotate_left; (focus (intro wS hS; (try go_split_ands); go_simp; all_goals (with_reducible rfl))); simp only [List.set_cons_zero, List.set_cons_succ, List.setIfInBounds_toArray]); (refine Hd.takeE (i := 6) (v := ?_) rfl rfl (by kernel_rfl) (by kernel_rfl) (by kernel_rfl) (by kernel_rfl) (fun _ _ _ h => h) (Or.inl ⟨by rfl, ?_⟩) (by assumption) ?_; rotate_left; (focus (intro wS hS; (try go_split_ands); go_simp; all_goals (with_reducible rfl))); simp only [List.set_cons_zero, List.set_cons_succ, List.setIfInBounds_toArray]); (refine Hd.takeE (i := 7) (v := ?_) rfl rfl (by kernel_rfl) (by kernel_rfl) (by kernel_rfl) (by kernel_rfl) (fun _ _ _ h => h) (Or.inl ⟨by rfl, ?_⟩) (by assumption) ?_; rotate_left; (focus (intro wS hS; (try go_split_ands); go_simp; all_goals (with_reducible rfl))); simp only [List.set_cons_zero, List.set_cons_succ, List.setIfInBounds_toArray]); (refine Hd.takeE (i := 8) (v := ?_) rfl rfl (by kernel_rfl) (by kernel_rfl) (by kernel_rfl) (by kernel_rfl) (fun _ _ _ h => h) (Or.inl ⟨by rfl, ?_⟩) (by assumption) ?_; rotate_left; (focus (intro wS hS; (try go_split_ands); go_simp; all_goals (with_reducible rfl))); simp only [List.set_cons_zero, List.set_cons_succ, List.setIfInBounds_toArray])
  have HB1 := Aside0.mk (below_drew1 (below_alloc (Below.refl w.heap.size w) (.cells (nums .u8 bs).toArray 22)))
  (refine Hd.readyE (rs := [9]) (by kernel_rfl) (by simp) ?_; refine Hd.AllE.cons (i := 9) rfl (fun K hK => ?_) Hd.AllE.nil; (go_simp; (go_at_call 11; (with_reducible refine (rplaces_all bs size ways _ HL.out HY.out).mono ?_); rintro e w1 ⟨v1, rfl, ho1, hb1⟩)); refine hK.out _ _ (⟨range_below hHeld.1 hb1, (hb1.cell (p := ⟨g, 0, none⟩) (by simp; omega)).trans hHeld.2.1, (hb1.cell (p := ⟨g, 1, none⟩) (by simp; omega)).trans hHeld.2.2⟩) (fun hHeld => ?_); clear hK K; (try simp only [Act.put, List.setIfInBounds_toArray, List.set_cons_zero, List.set_cons_succ]))
  have HB2 := Aside0.mk (below_then HB1.out (by simp) hb1)
  have HP := Aside0.mk ho1
  have HF2 := Aside0.mk (rf_below HF.out HB2.out)
  clear ho1 hb1 c0 c1
  (refine Hd.takeE (i := 10) (v := ?_) rfl rfl (by kernel_rfl) (by kernel_rfl) (by kernel_rfl) (by kernel_rfl) (fun _ _ _ h => h) (Or.inl ⟨by rfl, ?_⟩) (by assumption) ?_; rotate_left; (focus (intro wS hS; (try go_split_ands); go_simp; all_goals (with_reducible rfl))); simp only [List.set_cons_zero, List.set_cons_succ, List.setIfInBounds_toArray])
  (refine Hd.endE (by kernel_rfl) ?_ _)
  clear hHeld
  have hlb := plL_len bs size ways
  generalize hpl : plL bs size ways = l at HP hlb
  have HE := Aside0.mk hpl
  clear hpl
  obtain ⟨A, c, rfl, hlc, hlr⟩ := Kd.R_reads HP.out
  have HC := Aside0.mk hlr
  clear hlr HP
  go_wp2
  go_loopg [6] (l.length + 1) (fun gk v6 wr => ∃ i : Nat, v6 = .int .i64 i ∧ i ≤ l.length ∧ Aside0 (gk = l.length - i + 1) ∧ Aside0 ((l.take i).all (fun p => on.contains p) = true) ∧ w1 = wr)
  case atStart => exact ⟨0, rfl, Nat.zero_le _, ⟨rfl⟩, ⟨by simp⟩, rfl⟩
  case round =>
    obtain ⟨i, rfl, hi, HG, HT, rfl⟩ := hrel
    by_cases hlt : i < l.length
    · have h1 : decide ((i : Int) < (l.length : Int)) = true := by simp; omega
      obtain ⟨ad, rfl, hcell⟩ := Kd.at_int HC.out (i : Int) (by omega) (by omega)
      have HS : Aside0 (l.take (i + 1) = l.take i ++ [l.getD i 0]) := ⟨by rw [List.take_add_one]; simp [hlt]⟩
      have hrd : rd l (i : Int) = l.getD i 0 := rfl
      rw [hrd] at hcell
      clear hrd
      generalize l.getD i 0 = x at hcell HS
      rw [Int.toNat_natCast] at hcell
      have HO := Aside0.mk (on_calls w1 base g size ways v on x HF2.out (by have := HN.out; omega))
      by_cases hx : on.contains x = true
      · rw [hx] at HO
        have HX := Aside0.mk hx
        clear hx
        go_wp2_with (go_at_call 31; (with_reducible refine HO.out.mono ?_); rintro e w' ⟨rfl, rfl⟩)
        go_roundg (l.length - (i + 1) + 1)
        case measure => have := HG.out; omega
        case rel => exact ⟨i + 1, by go_num, by omega, ⟨rfl⟩, ⟨by rw [HS.out, List.all_append, HT.out, List.all_cons, HX.out]; rfl⟩, rfl⟩
      · have hx := Bool.eq_false_iff.2 hx
        rw [hx] at HO
        have HX := Aside0.mk hx
        clear hx
        go_wp2_with (go_at_call 31; (with_reducible refine HO.out.mono ?_); rintro e w' ⟨rfl, rfl⟩)
        go_ret
        have hh : l.all (fun p => on.contains p) = false := by
          rw [← List.take_append_drop (i + 1) l, List.all_append, HS.out, List.all_append, List.all_cons, HX.out]
          simp
        exact ⟨by rw [HE.out, hh]; rfl, HB2.out⟩
    · obtain rfl : i = l.length := by omega
      have h1 : decide ((l.length : Int) < (l.length : Int)) = false := by simp
      go_wp2
      go_ret
      have hh : l.all (fun p => on.contains p) = true := by
        have h := HT.out
        rwa [List.take_length] at h
      exact ⟨by rw [HE.out, hh]; rfl, HB2.out⟩
end Go.Proofs.Ytnpcngnmjbhhaaa.BlH
