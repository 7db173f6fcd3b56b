/- What the reference's summary computes: on, lay, Add, Has, Merge, Fork; condition: a sum is 32 bytes. -/
import Derived.Test.YtnpcngnmjbhhaaaBlF
import Derived.Test.YtnpcngnmjbhhaaaBlN
namespace Go.Proofs.Ytnpcngnmjbhhaaa.BlG
open Go Go.RowKit Go.Proofs.YtnpcngnmjbhhaaaW.PrintWords Go.Proofs.Ytnpcngnmjbhhaaa.K Go.Proofs.Ytnpcngnmjbhhaaa.OctS Go.Proofs.Ytnpcngnmjbhhaaa.OctP Go.Proofs.Ytnpcngnmjbhhaaa.BlS Go.Proofs.Ytnpcngnmjbhhaaa.BlP Go.Proofs.Ytnpcngnmjbhhaaa.BlC Go.Proofs.Ytnpcngnmjbhhaaa.BlD Go.Proofs.Ytnpcngnmjbhhaaa.BlN Go.Proofs.Ytnpcngnmjbhhaaa.BlE Go.Proofs.Ytnpcngnmjbhhaaa.BlF Go.Proofs.Ytnpcngnmjbhhaaa.Oct
set_option linter.unusedVariables false
set_option linter.unusedSimpArgs false
theorem contains_take_succ (l : List Int) (i : Nat) (h : i < l.length) (n : Int) : (l.take (i + 1)).contains n = ((l.take i).contains n || (l.getD i 0 == n)) := by
  have e : l.take (i + 1) = l.take i ++ [l.getD i 0] := by rw [List.take_add_one]; simp [h]
  rw [e, Bool.eq_iff_iff, List.contains_eq_mem, List.contains_eq_mem, decide_eq_true_iff, Bool.or_eq_true, decide_eq_true_iff, List.mem_append, List.mem_singleton, beq_iff_eq]
  constructor
  · rintro (h | h)
    · exact .inl h
    · exact .inr h.symm
  · rintro (h | h)
    · exact .inl h
    · exact .inr h.symm
theorem contains_of_take (l : List Int) (i : Nat) (n : Int) (h : (l.take i).contains n = true) : l.contains n = true := by
  rw [List.contains_eq_mem, decide_eq_true_iff] at *
  exact List.mem_of_mem_take h
theorem on_calls (w : World) (base g : Nat) (size ways : Int) (v : Value) (on : List Int) (n : Int) (h : RF w base g size ways v on) (hn : on.length ≤ 100000) :
    Calls Try.prog 31 #[.pointer (some ⟨g, 0, none⟩), .int .i64 n] w fun e w' => e = .returned (.bool (on.contains n)) ∧ w = w' := by
  obtain ⟨A, c, rfl, hl, hr⟩ := Kd.R_reads h.row
  have hc2 := obj_cell (v := .slice A on.length c) h.blk 2 rfl
  have HR := Aside0.mk hr
  clear hr h
  go_enter Try.func31, Try.ntmps31
  go_wp2
  go_loopg [5] (on.length + 1) (fun gk v5 wr => ∃ i : Nat, v5 = .int .i64 i ∧ i ≤ on.length ∧ Aside0 (gk = on.length - i + 1) ∧ Aside0 ((on.take i).contains n = false) ∧ w = wr)
  case atStart => exact ⟨0, rfl, Nat.zero_le _, ⟨rfl⟩, ⟨by simp⟩, rfl⟩
  case round =>
    obtain ⟨i, rfl, hi, HG, HT, rfl⟩ := hrel
    by_cases hlt : i < on.length
    · have h1 : decide ((i : Int) < (on.length : Int)) = true := by simp; omega
      obtain ⟨ad, rfl, hcell⟩ := Kd.at_int HR.out (i : Int) (by omega) (by omega)
      have HS := Aside0.mk (contains_take_succ on i hlt n)
      have hrd : rd on (i : Int) = on.getD i 0 := rfl
      rw [hrd] at hcell
      clear hrd
      generalize on.getD i 0 = x at hcell HS
      rw [Int.toNat_natCast] at hcell
      by_cases hx : x = n
      · subst hx
        go_wp2
        go_ret
        have hh : on.contains x = true := contains_of_take on (i + 1) x (by rw [HS.out, HT.out]; simp)
        exact ⟨by rw [hh]; rfl, rfl⟩
      · have h2 : (x == n) = false := by simpa using hx
        go_wp2
        go_roundg (on.length - (i + 1) + 1)
        case measure => have := HG.out; omega
        case rel => exact ⟨i + 1, by go_num, by omega, ⟨rfl⟩, ⟨by rw [HS.out, HT.out, h2]; rfl⟩, rfl⟩
    · obtain rfl : i = on.length := by omega
      have h1 : decide ((on.length : Int) < (on.length : Int)) = false := by simp
      go_wp2
      go_ret
      have hh : on.contains n = false := by
        have h := HT.out
        rwa [List.take_length] at h
      exact ⟨by rw [hh]; rfl, rfl⟩
theorem R_below_int {e B : Nat} {w w1 : World} {v : Value} {xs : List Int} (h : Kd.R (Kd.int .i64) e w B (fun _ => True) (v) (xs)) (hb : Below w.heap.size w w1) : Kd.R (Kd.int .i64) e w1 B (fun _ => True) (v) (xs) := Kd.R_below h hb
def layL (on l : List Int) : List Int := l.foldl (fun on p => if on.contains p then on else on ++ [p]) on
theorem layL_snoc (on l : List Int) (p : Int) : layL on (l ++ [p]) = if (layL on l).contains p then layL on l else layL on l ++ [p] := by simp [layL]
theorem layL_len (l : List Int) : ∀ on, (layL on l).length ≤ on.length + l.length := by
  induction l with
  | nil => intro on; simp [layL]
  | cons p l ih =>
    intro on
    have h := ih (if on.contains p then on else on ++ [p])
    have e : layL on (p :: l) = layL (if on.contains p then on else on ++ [p]) l := rfl
    rw [e]
    split at h <;> rename_i hc <;> simp only [hc, if_true, if_false, List.length_append, List.length_cons, List.length_nil] at h ⊢ <;> simp <;> omega
theorem made_at {W : World} {b e base : Nat} (h : W.heap[b]? = some (.cells #[] e (0, 0))) (hb : base ≤ b) : Kd.R (Kd.int .i64) e W base (fun _ => True) (.slice (some ⟨b, 0, none⟩) 0 0) ([]) :=
  Kd.R_of_own (enc := Value.int .i64) (h1 := fun _ => rfl) ⟨rfl, .inr ⟨b, 0, #[], rfl, hb, h, by simp, by simp [maxLen], by simp, rfl⟩⟩ (fun _ _ => trivial)
theorem lit_at {W : World} {b e : Nat} {x : Int} (h : W.heap[b]? = some (.cells #[.int .i64 x] e (0, 0))) : Kd.C (Kd.int .i64) W (some ⟨b, 0, none⟩) 1 [x] := by
  have h1 : Kd.R (Kd.int .i64) e W 0 (fun _ => True) (.slice (some ⟨b, 0, none⟩) 1 1) ([x]) := Kd.R_of_own (enc := Value.int .i64) (h1 := fun _ => rfl) ⟨rfl, .inr ⟨b, 1, #[.int .i64 x], rfl, Nat.zero_le _, h, by simp, by simp [maxLen], by simp, rfl⟩⟩ (fun _ _ => trivial)
  exact (Kd.R_reads' h1).2.2
theorem rf_kept {w w1 : World} {base g : Nat} {size ways : Int} {v : Value} {on : List Int} (h : RF w base g size ways v on) {j t : Nat} {cells : Array Value} (hj : w.heap[j]? = some (.cells cells t (0, 0))) (ht : 3 ≠ t) (hg : w.grownBy w1 (some j)) (hne : g ≠ j) : RF w1 base g size ways v on :=
  ⟨h.ge, (hg.block g (by have := h.blk; rcases Nat.lt_or_ge g w.heap.size with h1 | h1; exact h1; rw [Array.getElem?_eq_none h1] at this; cases this) (by intro e; injection e with e; exact hne e)).trans h.blk, R_kept_t (flat_int _) h.row hj ht hg⟩
theorem rf_lt {w : World} {base g : Nat} {size ways : Int} {v : Value} {on : List Int} (h : RF w base g size ways v on) : g < w.heap.size := by
  have := h.blk
  rcases Nat.lt_or_ge g w.heap.size with h1 | h1
  · exact h1
  · rw [Array.getElem?_eq_none h1] at this; cases this
set_option maxHeartbeats 4000000 in
theorem lay_calls (w : World) (base g : Nat) (size ways : Int) (v u : Value) (on l : List Int) (h : RF w base g size ways v on) (hu : Kd.R (Kd.int .i64) 3 w 0 (fun _ => True) (u) (l)) (hn : on.length + l.length ≤ 100000) :
    Calls Try.prog 32 #[.pointer (some ⟨g, 0, none⟩), u] w fun e w' => ∃ v', e = .returned (.tuple #[]) ∧ RF w' base g size ways v' (layL on l) ∧ w.grownBy w' (some g) := by
  obtain ⟨A, c, rfl, hlc, hlr⟩ := Kd.R_reads hu
  clear hlr
  have HF := Aside0.mk h
  have HU := Aside0.mk hu
  have HN := Aside0.mk hn
  have hlb : l.length ≤ 100000 := by omega
  clear h hu hn
  go_enter Try.func32, Try.ntmps32
  go_wp2
  go_loopg [4] (l.length + 1) (fun gk v4 wr => ∃ (i : Nat) (v1 : Value), v4 = .int .i64 i ∧ i ≤ l.length ∧ Aside0 (gk = l.length - i + 1) ∧ Aside0 (RF wr base g size ways v1 (layL on (l.take i))) ∧ Aside0 (Kd.R (Kd.int .i64) 3 wr 0 (fun _ => True) (.slice A l.length c) (l)) ∧ Aside0 (w.grownBy wr (some g)))
  case atStart => exact ⟨0, v, rfl, Nat.zero_le _, ⟨rfl⟩, HF, HU, ⟨World.grownBy.refl _ _⟩⟩
  case round =>
    obtain ⟨i, v1, rfl, hi, HG, HF1, HU1, HW⟩ := hrel
    by_cases hlt : i < l.length
    · have h1 : decide ((i : Int) < (l.length : Int)) = true := by simp; omega
      obtain ⟨ad, rfl, hcell⟩ := Kd.at_int (Kd.R_reads' HU1.out).2.2 (i : Int) (by omega) (by omega)
      have hrd : rd l (i : Int) = l.getD i 0 := rfl
      rw [hrd] at hcell
      have HS : Aside0 (l.take (i + 1) = l.take i ++ [l.getD i 0]) := ⟨by rw [List.take_add_one]; simp [hlt]⟩
      clear hrd
      generalize l.getD i 0 = x at hcell HS
      rw [Int.toNat_natCast] at hcell
      have hol : (layL on (l.take i)).length ≤ on.length + i := Nat.le_trans (layL_len _ _) (by simp; omega)
      have HN1 := Aside0.mk (show (layL on (l.take i)).length + l.length ≤ 300000 by have := HN.out; omega)
      clear hol
      have HQ := Aside0.mk (layL_snoc on (l.take i) x)
      rw [← HS.out] at HQ
      have HC := Aside0.mk (on_calls wr base g size ways v1 (layL on (l.take i)) x HF1.out (by have := HN.out; have := layL_len (l.take i) on; simp at this; omega))
      by_cases hx : (layL on (l.take i)).contains x = true
      · rw [hx] at HC
        rw [hx] at HQ
        clear hx
        go_wp2_with (go_at_call 31; (with_reducible refine HC.out.mono ?_); rintro e w' ⟨rfl, rfl⟩)
        go_roundg (l.length - (i + 1) + 1)
        case measure => have := HG.out; omega
        case rel => exact ⟨i + 1, v1, by go_num, by omega, ⟨rfl⟩, ⟨by rw [HQ.out]; exact HF1.out⟩, HU1, HW⟩
      · have hx := Bool.eq_false_iff.2 hx
        rw [hx] at HC
        rw [hx] at HQ
        clear hx
        generalize layL on (l.take i) = on1 at *
        have hgl := rf_lt HF1.out
        obtain ⟨A1, c1, rfl, hc1, hr1⟩ := Kd.R_reads HF1.out.row
        have HR1 := Aside0.mk hr1
        have hc2 := obj_cell (v := .slice A1 on1.length c1) HF1.out.blk 2 rfl
        clear hr1
        go_wp2_with (go_at_call 31; (with_reducible refine HC.out.mono ?_); rintro e w' ⟨rfl, rfl⟩)
        have hab : (ad.add i).block < wr.heap.size := World.block_lt_of_cell? wr _ hcell

        (refine Hd.startE (S := (fun w' => w'.cell? ⟨g, 2, none⟩ = some (.slice A1 on1.length c1) ∧ w'.cell? (ad.add i) = some (.int .i64 x))) 15 (by kernel_rfl) (⟨hc2, hcell⟩) (fun hHeld => ?_))
        (refine Hd.takeE (i := 0) (v := ?_) rfl rfl (by kernel_rfl) (by kernel_rfl) (by kernel_rfl) (by kernel_rfl) (fun _ _ _ h => h) (Or.inl ⟨by rfl, ?_⟩) (by assumption) ?_; rotate_left; (focus (intro wS hS; (try go_split_ands); go_simp; all_goals (with_reducible rfl))); simp only [List.set_cons_zero, List.set_cons_succ, List.setIfInBounds_toArray]); (refine Hd.takeE (i := 2) (v := ?_) rfl rfl (by kernel_rfl) (by kernel_rfl) (by kernel_rfl) (by kernel_rfl) (fun _ _ _ h => h) (Or.inl ⟨by rfl, ?_⟩) (by assumption) ?_; rotate_left; (focus (intro wS hS; (try go_split_ands); go_simp; all_goals (with_reducible rfl))); simp only [List.set_cons_zero, List.set_cons_succ, List.setIfInBounds_toArray]); (refine Hd.takeE (i := 3) (v := ?_) rfl rfl (by kernel_rfl) (by kernel_rfl) (by kernel_rfl) (by kernel_rfl) (fun _ _ _ h => h) (Or.inl ⟨by rfl, ?_⟩) (by assumption) ?_; rotate_left; (focus (intro wS hS; (try go_split_ands); go_simp; all_goals (with_reducible rfl))); simp only [List.set_cons_zero, List.set_cons_succ, List.setIfInBounds_toArray]); (refine Hd.takeE (i := 4) (v := ?_) rfl rfl (by kernel_rfl) (by kernel_rfl) (by kernel_rfl) (by kernel_rfl) (fun _ _ _ h => h) (Or.inl ⟨by rfl, ?_⟩) (by assumption) ?_; rotate_left; (focus (intro wS hS; (try go_split_ands); go_simp; all_goals (with_reducible rfl))); simp only [List.set_cons_zero, List.set_cons_succ, List.setIfInBounds_toArray]); (refine Hd.takeE (i := 5) (v := ?_) rfl rfl (by kernel_rfl) (by kernel_rfl) (by kernel_rfl) (by kernel_rfl) (fun _ _ _ h => h) (Or.inl ⟨by rfl, ?_⟩) (by assumption) ?_; rotate_left; (focus (intro wS hS; (try go_split_ands); go_simp; all_goals (with_reducible rfl))); simp only [List.set_cons_zero, List.set_cons_succ, List.setIfInBounds_toArray]); (refine Hd.takeE (i := 7) (v := ?_) rfl rfl (by kernel_rfl) (by kernel_rfl) (by kernel_rfl) (by kernel_rfl) (fun _ _ _ h => h) (Or.inl ⟨by rfl, ?_⟩) (by assumption) ?_; rotate_left; (focus (intro wS hS; (try go_split_ands); go_simp; all_goals (with_reducible rfl))); simp only [List.set_cons_zero, List.set_cons_succ, List.setIfInBounds_toArray]); (refine Hd.takeE (i := 8) (v := ?_) rfl rfl (by kernel_rfl) (by kernel_rfl) (by kernel_rfl) (by kernel_rfl) (fun _ _ _ h => h) (Or.inl ⟨by rfl, ?_⟩) (by assumption) ?_; rotate_left; (focus (intro wS hS; (try go_split_ands); go_simp; all_goals (with_reducible rfl))); simp only [List.set_cons_zero, List.set_cons_succ, List.setIfInBounds_toArray]); (refine Hd.takeE (i := 9) (v := ?_) rfl rfl (by kernel_rfl) (by kernel_rfl) (by kernel_rfl) (by kernel_rfl) (fun _ _ _ h => h) (Or.inl ⟨by rfl, ?_⟩) (by assumption) ?_; rotate_left; (focus (intro wS hS; (try go_split_ands); go_simp; all_goals (with_reducible rfl))); simp only [List.set_cons_zero, List.set_cons_succ, List.setIfInBounds_toArray]); (refine Hd.takeE (i := 10) (v := ?_) rfl rfl (by kernel_rfl) (by kernel_rfl) (by kernel_rfl) (by kernel_rfl) (fun _ _ _ h => h) (Or.inl ⟨by rfl, ?_⟩) (by assumption) ?_; rotate_left; (focus (intro wS hS; (try go_split_ands); go_simp; all_goals (with_reducible rfl))); simp only [List.set_cons_zero, List.set_cons_succ, List.setIfInBounds_toArray])
        (refine Hd.readyE (rs := [1, 11]) (by kernel_rfl) (by simp) ?_; refine Hd.AllE.cons (i := 1) rfl (fun K hK => ?_) (Hd.AllE.cons (i := 11) rfl (fun K hK => ?_) (Hd.AllE.nil)))
        · (go_simp; refine hK.out _ _ (⟨((below_alloc (Below.refl wr.heap.size wr) (.cells #[] 3)).cell (p := ⟨g, 2, none⟩) hgl).trans hc2, ((below_alloc (Below.refl wr.heap.size wr) (.cells #[] 3)).cell (p := ad.add i) hab).trans hcell⟩) (fun hHeld => ?_); clear hK K; (try simp only [Act.put, List.setIfInBounds_toArray, List.set_cons_zero, List.set_cons_succ]))
          have HB1 := Aside0.mk (below_drew1 (below_alloc (Below.refl wr.heap.size wr) (.cells #[] 3)))
          (refine Hd.readyE (rs := [6, 11]) (by kernel_rfl) (by simp) ?_; refine Hd.AllE.cons (i := 6) rfl (fun K hK => ?_) (Hd.AllE.cons (i := 11) rfl (fun K hK => ?_) (Hd.AllE.nil)))
          · ((refine Hd.step_of_list rfl ?_; refine app (Kd.int .i64) (flat_int .i64) wr.heap.size (w0 := wr) (.tmp 19) (.tmp 23) 30 3 (.int .i64 0) 8 rfl rfl Try.underlying30 infoInt rfl (by decide) (by decide) _ [] on1 A1 on1.length c1 (by rfl) (by first | rfl | simp [Act.eval]) (made_at (e := 3) (heap_alloc_new wr _) (Nat.le_refl _)) (Kd.C_below HR1.out HB1.out) HB1.out HB1.out.size (by have := HN1.out; simp only [List.length_nil, List.nil_append]; omega) ?_; intro v2 w2 ho2 hb2 hg2 hat2; refine wpList_nil ?_); refine hK.out _ _ (⟨(hb2.cell (p := ⟨g, 2, none⟩) hgl).trans hc2, (hb2.cell (p := ad.add i) hab).trans hcell⟩) (fun hHeld => ?_); clear hK K; (try simp only [Act.put, List.setIfInBounds_toArray, List.set_cons_zero, List.set_cons_succ]))
            have HO2 := Aside0.mk ho2
            have HB2 := Aside0.mk hb2
            clear ho2 hb2 hg2 hat2
            have HB2 := Aside0.mk (HB2.out.alloc HB2.out.size (.cells #[.int .i64 x] 3))
            (refine Hd.readyE (rs := [11]) (by kernel_rfl) (by simp) ?_; refine Hd.AllE.cons (i := 11) rfl (fun K hK => ?_) Hd.AllE.nil; go_simp; refine hK.out _ _ (⟨(HB2.out.cell (p := ⟨g, 2, none⟩) hgl).trans hc2, (HB2.out.cell (p := ad.add i) hab).trans hcell⟩) (fun hHeld => ?_); clear hK K; (try simp only [Act.put, List.setIfInBounds_toArray, List.set_cons_zero, List.set_cons_succ]))
            have HL2 := Aside0.mk (lit_at (e := 3) (x := x) (heap_alloc_new w2 _))
            have HO2 := Aside0.mk (Kd.R_alloc HO2.out (.cells #[.int .i64 x] 3))
            (refine Hd.readyE (rs := [12]) (by kernel_rfl) (by simp) ?_; refine Hd.AllE.cons (i := 12) rfl (fun K hK => ?_) Hd.AllE.nil; (refine Hd.step_of_list rfl ?_; refine app (Kd.int .i64) (flat_int .i64) wr.heap.size (w0 := wr) (.tmp 24) (.tmp 29) 30 3 (.int .i64 0) 8 rfl rfl Try.underlying30 infoInt rfl (by decide) (by decide) _ ([] ++ on1) [x] (some ⟨w2.heap.size, 0, none⟩) 1 1 (by rfl) (by first | rfl | simp [Act.eval]) HO2.out HL2.out HB2.out HB2.out.size (by have := HN1.out; simp only [List.length_nil, List.nil_append]; omega) ?_; intro v3 w3 ho3 hb3 hg3 hat3; refine wpList_nil ?_); refine hK.out _ _ (⟨(hb3.cell (p := ⟨g, 2, none⟩) hgl).trans hc2, (hb3.cell (p := ad.add i) hab).trans hcell⟩) (fun hHeld => ?_); clear hK K; (try simp only [Act.put, List.setIfInBounds_toArray, List.set_cons_zero, List.set_cons_succ]))
            have HO3 := Aside0.mk ho3
            have HB3 := Aside0.mk hb3
            clear ho3 hb3 hg3 hat3
            have hb3 := HB3.out
            have hblk := (hb3.block g hgl).trans HF1.out.blk
            have hfz := obj_free hblk 2
            have hc3 := obj_cell (v := .slice A1 on1.length c1) hblk 2 rfl
            have HK := Aside0.mk hblk
            clear hb3 hblk
            obtain ⟨A3, c3, rfl, hl3, hr3⟩ := Kd.R_reads HO3.out
            clear hr3 hl3
            (refine Hd.readyE (rs := [13]) (by kernel_rfl) (by simp) ?_; refine Hd.AllE.cons (i := 13) rfl (fun K hK => ?_) Hd.AllE.nil; go_simp; refine hK.out _ _ (hHeld) (fun hHeld => ?_); clear hK K; (try simp only [Act.put, List.setIfInBounds_toArray, List.set_cons_zero, List.set_cons_succ]))
            (refine Hd.readyE (rs := [14]) (by kernel_rfl) (by simp) ?_; refine Hd.AllE.cons (i := 14) rfl (fun K hK => ?_) Hd.AllE.nil; go_simp; refine hK.out _ _ (hHeld) (fun hHeld => ?_); clear hK K; (try simp only [Act.put, List.setIfInBounds_toArray, List.set_cons_zero, List.set_cons_succ]))
            (refine Hd.readyE (rs := [15]) (by kernel_rfl) (by simp) ?_; refine Hd.AllE.last (i := 15) rfl (fun K hK => ?_); go_simp; refine hK.out _ _ ?_; clear hK K; (try simp only [Act.put, List.setIfInBounds_toArray, List.set_cons_zero, List.set_cons_succ]))
            (refine Hd.endE (by kernel_rfl) ?_ _)
            go_wp2
            go_roundg (l.length - (i + 1) + 1)
            case measure => have := HG.out; omega
            case rel =>
              refine ⟨i + 1, .slice A3 (on1.length + 1) c3, by go_num, by omega, ⟨rfl⟩, ⟨?_⟩, ⟨?_⟩, ⟨?_⟩⟩
              · rw [HQ.out]
                exact ⟨HF1.out.ge, obj_set HK.out 2 _, R_kept_t (flat_int _) (Kd.R_lower (by simpa using HO3.out) (by have := HF1.out.ge; omega)) HK.out (by decide) (obj_grown _ _ _ _)⟩
              · exact R_kept_t (flat_int _) (R_below_int HU1.out HB3.out) HK.out (by decide) (obj_grown _ _ _ _)
              · exact HW.out.trans ((grown_of_below HB3.out _).trans (obj_grown _ _ _ _))
          · have HB2 := Aside0.mk (HB1.out.alloc HB1.out.size (.cells #[.int .i64 x] 3))
            have HT := Aside0.mk (show (((wr.alloc (.cells #[] 3)).drew).alloc (.cells #[.int .i64 x] 3)).heap[wr.heap.size + 1]? = some (.cells #[.int .i64 x] 3) from by have h := heap_alloc_new ((wr.alloc (.cells #[] 3)).drew) (.cells #[.int .i64 x] 3); simpa using h)
            have HE := Aside0.mk (show (((wr.alloc (.cells #[] 3)).drew).alloc (.cells #[.int .i64 x] 3)).heap[wr.heap.size]? = some (.cells #[] 3) from (Below.heap_alloc _ _ _ (by simp)).trans (heap_alloc_new wr _))
            (go_simp; refine hK.out _ _ (⟨(HB2.out.cell (p := ⟨g, 2, none⟩) hgl).trans hc2, (HB2.out.cell (p := ad.add i) hab).trans hcell⟩) (fun hHeld => ?_); clear hK K; (try simp only [Act.put, List.setIfInBounds_toArray, List.set_cons_zero, List.set_cons_succ]))
            (refine Hd.readyE (rs := [6]) (by kernel_rfl) (by simp) ?_; refine Hd.AllE.cons (i := 6) rfl (fun K hK => ?_) Hd.AllE.nil; (refine Hd.step_of_list rfl ?_; refine app (Kd.int .i64) (flat_int .i64) wr.heap.size (w0 := wr) (.tmp 19) (.tmp 23) 30 3 (.int .i64 0) 8 rfl rfl Try.underlying30 infoInt rfl (by decide) (by decide) _ [] on1 A1 on1.length c1 (by rfl) (by first | rfl | simp [Act.eval]) (made_at (e := 3) HE.out (Nat.le_refl _)) (Kd.C_below HR1.out HB2.out) HB2.out HB2.out.size (by have := HN1.out; simp only [List.length_nil, List.nil_append]; omega) ?_; intro v2 w2 ho2 hb2 hg2 hat2; refine wpList_nil ?_); refine hK.out _ _ (⟨(hb2.cell (p := ⟨g, 2, none⟩) hgl).trans hc2, (hb2.cell (p := ad.add i) hab).trans hcell⟩) (fun hHeld => ?_); clear hK K; (try simp only [Act.put, List.setIfInBounds_toArray, List.set_cons_zero, List.set_cons_succ]))
            have HO2 := Aside0.mk ho2
            have HL2 := Aside0.mk (lit_at (e := 3) (x := x) ((hg2.block (wr.heap.size + 1) (by simp) (by simp [Value.ownBlock])).trans HT.out))
            have HB2 := Aside0.mk hb2
            clear ho2 hb2 hg2 hat2
            (refine Hd.readyE (rs := [12]) (by kernel_rfl) (by simp) ?_; refine Hd.AllE.cons (i := 12) rfl (fun K hK => ?_) Hd.AllE.nil; (refine Hd.step_of_list rfl ?_; refine app (Kd.int .i64) (flat_int .i64) wr.heap.size (w0 := wr) (.tmp 24) (.tmp 29) 30 3 (.int .i64 0) 8 rfl rfl Try.underlying30 infoInt rfl (by decide) (by decide) _ ([] ++ on1) [x] (some ⟨wr.heap.size + 1, 0, none⟩) 1 1 (by rfl) (by first | rfl | simp [Act.eval]) HO2.out HL2.out HB2.out HB2.out.size (by have := HN1.out; simp only [List.length_nil, List.nil_append]; omega) ?_; intro v3 w3 ho3 hb3 hg3 hat3; refine wpList_nil ?_); refine hK.out _ _ (⟨(hb3.cell (p := ⟨g, 2, none⟩) hgl).trans hc2, (hb3.cell (p := ad.add i) hab).trans hcell⟩) (fun hHeld => ?_); clear hK K; (try simp only [Act.put, List.setIfInBounds_toArray, List.set_cons_zero, List.set_cons_succ]))
            have HO3 := Aside0.mk ho3
            have HB3 := Aside0.mk hb3
            clear ho3 hb3 hg3 hat3
            have hb3 := HB3.out
            have hblk := (hb3.block g hgl).trans HF1.out.blk
            have hfz := obj_free hblk 2
            have hc3 := obj_cell (v := .slice A1 on1.length c1) hblk 2 rfl
            have HK := Aside0.mk hblk
            clear hb3 hblk
            obtain ⟨A3, c3, rfl, hl3, hr3⟩ := Kd.R_reads HO3.out
            clear hr3 hl3
            (refine Hd.readyE (rs := [13]) (by kernel_rfl) (by simp) ?_; refine Hd.AllE.cons (i := 13) rfl (fun K hK => ?_) Hd.AllE.nil; go_simp; refine hK.out _ _ (hHeld) (fun hHeld => ?_); clear hK K; (try simp only [Act.put, List.setIfInBounds_toArray, List.set_cons_zero, List.set_cons_succ]))
            (refine Hd.readyE (rs := [14]) (by kernel_rfl) (by simp) ?_; refine Hd.AllE.cons (i := 14) rfl (fun K hK => ?_) Hd.AllE.nil; go_simp; refine hK.out _ _ (hHeld) (fun hHeld => ?_); clear hK K; (try simp only [Act.put, List.setIfInBounds_toArray, List.set_cons_zero, List.set_cons_succ]))
            (refine Hd.readyE (rs := [15]) (by kernel_rfl) (by simp) ?_; refine Hd.AllE.last (i := 15) rfl (fun K hK => ?_); go_simp; refine hK.out _ _ ?_; clear hK K; (try simp only [Act.put, List.setIfInBounds_toArray, List.set_cons_zero, List.set_cons_succ]))
            (refine Hd.endE (by kernel_rfl) ?_ _)
            go_wp2
            go_roundg (l.length - (i + 1) + 1)
            case measure => have := HG.out; omega
            case rel =>
              refine ⟨i + 1, .slice A3 (on1.length + 1) c3, by go_num, by omega, ⟨rfl⟩, ⟨?_⟩, ⟨?_⟩, ⟨?_⟩⟩
              · rw [HQ.out]
                exact ⟨HF1.out.ge, obj_set HK.out 2 _, R_kept_t (flat_int _) (Kd.R_lower (by simpa using HO3.out) (by have := HF1.out.ge; omega)) HK.out (by decide) (obj_grown _ _ _ _)⟩
              · exact R_kept_t (flat_int _) (R_below_int HU1.out HB3.out) HK.out (by decide) (obj_grown _ _ _ _)
              · exact HW.out.trans ((grown_of_below HB3.out _).trans (obj_grown _ _ _ _))
        · have HB1 := Aside0.mk (below_drew1 (below_alloc (Below.refl wr.heap.size wr) (.cells #[.int .i64 x] 3)))
          (go_simp; refine hK.out _ _ (⟨(HB1.out.cell (p := ⟨g, 2, none⟩) hgl).trans hc2, (HB1.out.cell (p := ad.add i) hab).trans hcell⟩) (fun hHeld => ?_); clear hK K; (try simp only [Act.put, List.setIfInBounds_toArray, List.set_cons_zero, List.set_cons_succ]))
          have HB2 := Aside0.mk (HB1.out.alloc HB1.out.size (.cells #[] 3))
          have HE := Aside0.mk (show (((wr.alloc (.cells #[.int .i64 x] 3)).drew).alloc (.cells #[] 3)).heap[wr.heap.size + 1]? = some (.cells #[] 3) from by have h := heap_alloc_new ((wr.alloc (.cells #[.int .i64 x] 3)).drew) (.cells #[] 3); simpa using h)
          have HT := Aside0.mk (show (((wr.alloc (.cells #[.int .i64 x] 3)).drew).alloc (.cells #[] 3)).heap[wr.heap.size]? = some (.cells #[.int .i64 x] 3) from (Below.heap_alloc _ _ _ (by simp)).trans (heap_alloc_new wr _))
          (refine Hd.readyE (rs := [1]) (by kernel_rfl) (by simp) ?_; refine Hd.AllE.cons (i := 1) rfl (fun K hK => ?_) Hd.AllE.nil; go_simp; refine hK.out _ _ (⟨(HB2.out.cell (p := ⟨g, 2, none⟩) hgl).trans hc2, (HB2.out.cell (p := ad.add i) hab).trans hcell⟩) (fun hHeld => ?_); clear hK K; (try simp only [Act.put, List.setIfInBounds_toArray, List.set_cons_zero, List.set_cons_succ]))
          (refine Hd.readyE (rs := [6]) (by kernel_rfl) (by simp) ?_; refine Hd.AllE.cons (i := 6) rfl (fun K hK => ?_) Hd.AllE.nil; (refine Hd.step_of_list rfl ?_; refine app (Kd.int .i64) (flat_int .i64) wr.heap.size (w0 := wr) (.tmp 19) (.tmp 23) 30 3 (.int .i64 0) 8 rfl rfl Try.underlying30 infoInt rfl (by decide) (by decide) _ [] on1 A1 on1.length c1 (by rfl) (by first | rfl | simp [Act.eval]) (made_at (e := 3) HE.out (Nat.le_succ _)) (Kd.C_below HR1.out HB2.out) HB2.out HB2.out.size (by have := HN1.out; simp only [List.length_nil, List.nil_append]; omega) ?_; intro v2 w2 ho2 hb2 hg2 hat2; refine wpList_nil ?_); refine hK.out _ _ (⟨(hb2.cell (p := ⟨g, 2, none⟩) hgl).trans hc2, (hb2.cell (p := ad.add i) hab).trans hcell⟩) (fun hHeld => ?_); clear hK K; (try simp only [Act.put, List.setIfInBounds_toArray, List.set_cons_zero, List.set_cons_succ]))
          have HO2 := Aside0.mk ho2
          have HL2 := Aside0.mk (lit_at (e := 3) (x := x) ((hg2.block (wr.heap.size) (by simp; omega) (by simp [Value.ownBlock])).trans HT.out))
          have HB2 := Aside0.mk hb2
          clear ho2 hb2 hg2 hat2
          (refine Hd.readyE (rs := [12]) (by kernel_rfl) (by simp) ?_; refine Hd.AllE.cons (i := 12) rfl (fun K hK => ?_) Hd.AllE.nil; (refine Hd.step_of_list rfl ?_; refine app (Kd.int .i64) (flat_int .i64) wr.heap.size (w0 := wr) (.tmp 24) (.tmp 29) 30 3 (.int .i64 0) 8 rfl rfl Try.underlying30 infoInt rfl (by decide) (by decide) _ ([] ++ on1) [x] (some ⟨wr.heap.size, 0, none⟩) 1 1 (by rfl) (by first | rfl | simp [Act.eval]) HO2.out HL2.out HB2.out HB2.out.size (by have := HN1.out; simp only [List.length_nil, List.nil_append]; omega) ?_; intro v3 w3 ho3 hb3 hg3 hat3; refine wpList_nil ?_); refine hK.out _ _ (⟨(hb3.cell (p := ⟨g, 2, none⟩) hgl).trans hc2, (hb3.cell (p := ad.add i) hab).trans hcell⟩) (fun hHeld => ?_); clear hK K; (try simp only [Act.put, List.setIfInBounds_toArray, List.set_cons_zero, List.set_cons_succ]))
          have HO3 := Aside0.mk ho3
          have HB3 := Aside0.mk hb3
          clear ho3 hb3 hg3 hat3
          have hb3 := HB3.out
          have hblk := (hb3.block g hgl).trans HF1.out.blk
          have hfz := obj_free hblk 2
          have hc3 := obj_cell (v := .slice A1 on1.length c1) hblk 2 rfl
          have HK := Aside0.mk hblk
          clear hb3 hblk
          obtain ⟨A3, c3, rfl, hl3, hr3⟩ := Kd.R_reads HO3.out
          clear hr3 hl3
          (refine Hd.readyE (rs := [13]) (by kernel_rfl) (by simp) ?_; refine Hd.AllE.cons (i := 13) rfl (fun K hK => ?_) Hd.AllE.nil; go_simp; refine hK.out _ _ (hHeld) (fun hHeld => ?_); clear hK K; (try simp only [Act.put, List.setIfInBounds_toArray, List.set_cons_zero, List.set_cons_succ]))
          (refine Hd.readyE (rs := [14]) (by kernel_rfl) (by simp) ?_; refine Hd.AllE.cons (i := 14) rfl (fun K hK => ?_) Hd.AllE.nil; go_simp; refine hK.out _ _ (hHeld) (fun hHeld => ?_); clear hK K; (try simp only [Act.put, List.setIfInBounds_toArray, List.set_cons_zero, List.set_cons_succ]))
          (refine Hd.readyE (rs := [15]) (by kernel_rfl) (by simp) ?_; refine Hd.AllE.last (i := 15) rfl (fun K hK => ?_); go_simp; refine hK.out _ _ ?_; clear hK K; (try simp only [Act.put, List.setIfInBounds_toArray, List.set_cons_zero, List.set_cons_succ]))
          (refine Hd.endE (by kernel_rfl) ?_ _)
          go_wp2
          go_roundg (l.length - (i + 1) + 1)
          case measure => have := HG.out; omega
          case rel =>
            refine ⟨i + 1, .slice A3 (on1.length + 1) c3, by go_num, by omega, ⟨rfl⟩, ⟨?_⟩, ⟨?_⟩, ⟨?_⟩⟩
            · rw [HQ.out]
              exact ⟨HF1.out.ge, obj_set HK.out 2 _, R_kept_t (flat_int _) (Kd.R_lower (by simpa using HO3.out) (by have := HF1.out.ge; omega)) HK.out (by decide) (obj_grown _ _ _ _)⟩
            · exact R_kept_t (flat_int _) (R_below_int HU1.out HB3.out) HK.out (by decide) (obj_grown _ _ _ _)
            · exact HW.out.trans ((grown_of_below HB3.out _).trans (obj_grown _ _ _ _))
    · obtain rfl : i = l.length := by omega
      have h1 : decide ((l.length : Int) < (l.length : Int)) = false := by simp
      go_wp2
      go_end0
      exact ⟨v1, rfl, by have h := HF1.out; rwa [List.take_length] at h, HW.out⟩
end Go.Proofs.Ytnpcngnmjbhhaaa.BlG
