/- What the reference's Places computes; condition: a sum is 32 bytes. -/
import Derived.Test.YtnpcngnmjbhhaaaBlE
import Derived.Test.YtnpcngnmjbhhaaaHd
namespace Go.Proofs.Ytnpcngnmjbhhaaa.BlF
open Go Go.RowKit Go.Proofs.YtnpcngnmjbhhaaaW.PrintWords Go.Proofs.Ytnpcngnmjbhhaaa.K Go.Proofs.Ytnpcngnmjbhhaaa.OctS Go.Proofs.Ytnpcngnmjbhhaaa.OctP Go.Proofs.Ytnpcngnmjbhhaaa.BlS Go.Proofs.Ytnpcngnmjbhhaaa.BlP Go.Proofs.Ytnpcngnmjbhhaaa.BlC Go.Proofs.Ytnpcngnmjbhhaaa.BlD Go.Proofs.Ytnpcngnmjbhhaaa.BlE Go.Proofs.Ytnpcngnmjbhhaaa.Oct
set_option linter.unusedVariables false
set_option linter.unusedSimpArgs false
theorem range_below {w w1 : World} {b o : Nat} {cs : List Value} (h : w.rangeAt b o cs) (hb : Below w.heap.size w w1) : w1.rangeAt b o cs := fun j v hv => by
  have h1 := h j v hv
  exact (hb.cell (p := ⟨b, o + j, none⟩) (World.block_lt_of_cell? w _ h1)).trans h1
def pls (bs : List Int) (size n : Nat) : List Int := (List.range n).map (fun j => ((place bs size j : Nat) : Int))
theorem pls_succ (bs : List Int) (size j : Nat) : pls bs size (j + 1) = pls bs size j ++ [((place bs size j : Nat) : Int)] := by simp [pls, List.range_succ]
theorem pls_len (bs : List Int) (size j : Nat) : (pls bs size j).length = j := by simp [pls]
set_option maxHeartbeats 2000000 in
theorem rplaces_yes (bs : List Int) (m n : Nat) (h : okF m n) (w : World) (hl : bs.length = 32) (hb : Bytes bs) : Calls Try.prog 11 #[.agg (nums .u8 bs).toArray, .int .i64 m, .int .i64 n] w fun e w' =>
    ∃ v, e = .returned v ∧ Kd.R (Kd.int .i64) 3 w' w.heap.size (fun _ => True) (v) (pls bs m n) ∧ Below w.heap.size w w' := by
  unfold okF at h
  have h1 : decide ((m : Int) < 1) = false := by simp; omega
  have h2 : decide ((65536 : Int) < m) = false := by simp; omega
  have h3 : decide ((n : Int) < 1) = false := by simp; omega
  have h4 : decide ((8 : Int) < n) = false := by simp; omega
  have HL := Aside0.mk hl
  have HY := Aside0.mk hb
  have HR0 := Aside0.mk (range_new w (nums .u8 bs) 22)
  have HB0 := Aside0.mk (below_alloc (Below.refl _ (w.alloc (.cells (nums .u8 bs).toArray 22))) (.cells #[] 3))
  have HO0 := Aside0.mk (show ((w.alloc (.cells (nums .u8 bs).toArray 22)).alloc (.cells #[] 3)).ownsRow (w.alloc (.cells (nums .u8 bs).toArray 22)).heap.size 3 1 (.slice (some ⟨w.heap.size + 1, 0, none⟩) 0 0) 0 (nums .i64 (pls bs m 0)) from by have h := Kd.own_of_R (Kd.R_made_nil (Kd.int .i64) (w.alloc (.cells (nums .u8 bs).toArray 22)) 3); rw [World.size_alloc] at h ⊢; exact h)
  clear hl hb
  go_enter Try.func11, Try.ntmps11
  go_wp2_with fail
  go_loopg [7, 8] (n + 1) (fun gk v7 v8 wr => ∃ j : Nat, v8 = .int .i64 j ∧ j ≤ n ∧ Aside0 (gk = n - j + 1) ∧ Aside0 (wr.ownsRow (w.alloc (.cells (nums .u8 bs).toArray 22)).heap.size 3 1 v7 j (nums .i64 (pls bs m j))) ∧ Aside0 (Below (w.alloc (.cells (nums .u8 bs).toArray 22)).heap.size (w.alloc (.cells (nums .u8 bs).toArray 22)) wr))
  case atStart => exact ⟨0, rfl, by omega, ⟨rfl⟩, HO0, HB0⟩
  case round =>
    obtain ⟨j, rfl, hj, HG, HO, HB⟩ := hrel
    by_cases hlt : j < n
    · have h5 : decide ((j : Int) < (n : Int)) = true := by simp; omega
      have hla : ((bs.drop 0).take 6).length = 6 := by rw [List.drop_zero, List.length_take, HL.out]; rfl
      have hlb : ((bs.drop 6).take 6).length = 6 := by rw [List.length_take, List.length_drop, HL.out]; rfl
      have hva := val_lt ((bs.drop 0).take 6) 0 0 ((HY.out.drop 0).take 6) (by decide)
      have hvb := val_lt ((bs.drop 6).take 6) 0 0 ((HY.out.drop 6).take 6) (by decide)
      rw [hla] at hva
      rw [hlb] at hvb
      have hplace : place bs m j = (val 0 ((bs.drop 0).take 6) + j * val 0 ((bs.drop 6).take 6)) % m := by rw [List.drop_zero]; rfl
      have N1 := Aside0.mk (fun W => (show Calls Try.prog 29 #[.agg (nums .u8 bs).toArray, .int .i64 0] W fun e w' => e = .returned (.int .i64 (val 0 ((bs.drop 0).take 6) : Nat)) ∧ W.alloc (.cells (nums .u8 bs).toArray 22) = w' from number_calls bs 0 W HL.out HY.out (by decide)))
      have N2 := Aside0.mk (fun W => (show Calls Try.prog 29 #[.agg (nums .u8 bs).toArray, .int .i64 6] W fun e w' => e = .returned (.int .i64 (val 0 ((bs.drop 6).take 6) : Nat)) ∧ W.alloc (.cells (nums .u8 bs).toArray 22) = w' from number_calls bs 6 W HL.out HY.out (by decide)))
      generalize val 0 ((bs.drop 0).take 6) = a at *
      generalize val 0 ((bs.drop 6).take 6) = b at *
      have hab : a < 281474976710656 ∧ b < 281474976710656 := by
        have : (256 : Nat) ^ (0 + 6) = 281474976710656 := by decide
        omega
      have hjb : j * b ≤ 7 * 281474976710656 := Nat.mul_le_mul (by omega) (by omega)
      have e1 : IntKind.i64.wrap ((j : Int) * (b : Int)) = ((j * b : Nat) : Int) := by
        rw [← Int.natCast_mul]
        exact IntWalk.i64_in _ (by omega)
      have e2 : IntKind.i64.wrap ((a : Int) + ((j * b : Nat) : Int)) = ((a + j * b : Nat) : Int) := by
        rw [← Int.natCast_add]
        exact IntWalk.i64_in _ (by omega)
      have e3 : (((a + j * b : Nat) : Int)).tmod (m : Int) = ((place bs m j : Nat) : Int) := by
        rw [hplace]; rfl
      have hm0 : ¬ m = 0 := by omega
      clear hla hlb hva hvb hplace hab hjb
      generalize a + j * b = d at *
      generalize j * b = c at *
      go_wp2_with fail
      have hund := Try.underlying22
      have hi32 := infoSum bs HL.out
      (refine Hd.startE (S := (fun w' => w'.rangeAt w.heap.size 0 (nums .u8 bs))) 1000 (by kernel_rfl) ((World.rangeAt_drew _ _ _ _).2 (range_below HR0.out HB.out)) (fun hHeld => ?_))
      (refine Hd.takeE (i := 0) (v := ?_) rfl rfl (by kernel_rfl) (by kernel_rfl) (by kernel_rfl) (by kernel_rfl) (fun _ _ _ h => h) (Or.inl ⟨by rfl, ?_⟩) (by assumption) ?_; rotate_left; (focus (intro wS hS; (try go_split_ands); go_simp; all_goals (with_reducible rfl))); simp only [List.set_cons_zero, List.set_cons_succ, List.setIfInBounds_toArray])
      (refine Hd.takeE (i := 1) rfl rfl (by kernel_rfl) (by kernel_rfl) (by kernel_rfl) (by kernel_rfl) (fun _ _ _ h => h) (yieldsIf_load_mid (by rfl) 22 _ rfl w.heap.size 0 rfl (nums .u8 bs) _ (fun wS hS => hS) hund rfl hi32) (by assumption) ?_; simp only [List.set_cons_zero, List.set_cons_succ, List.setIfInBounds_toArray])
      (refine Hd.takeE (i := 3) (v := ?_) rfl rfl (by kernel_rfl) (by kernel_rfl) (by kernel_rfl) (by kernel_rfl) (fun _ _ _ h => h) (Or.inl ⟨by rfl, ?_⟩) (by assumption) ?_; rotate_left; (focus (intro wS hS; (try go_split_ands); go_simp; all_goals (with_reducible rfl))); simp only [List.set_cons_zero, List.set_cons_succ, List.setIfInBounds_toArray])
      (refine Hd.takeE (i := 4) rfl rfl (by kernel_rfl) (by kernel_rfl) (by kernel_rfl) (by kernel_rfl) (fun _ _ _ h => h) (yieldsIf_load_mid (by rfl) 22 _ rfl w.heap.size 0 rfl (nums .u8 bs) _ (fun wS hS => hS) hund rfl hi32) (by assumption) ?_; simp only [List.set_cons_zero, List.set_cons_succ, List.setIfInBounds_toArray])
      (refine Hd.takeE (i := 8) (v := ?_) rfl rfl (by kernel_rfl) (by kernel_rfl) (by kernel_rfl) (by kernel_rfl) (fun _ _ _ h => h) (Or.inl ⟨by rfl, ?_⟩) (by assumption) ?_; rotate_left; (focus (intro wS hS; (try go_split_ands); go_simp; all_goals (with_reducible rfl))); simp only [List.set_cons_zero, List.set_cons_succ, List.setIfInBounds_toArray])
      have HBd := Aside0.mk (below_drew1 HB.out)
      have HOd := Aside0.mk (HO.out.drew)
      (refine Hd.readyE (rs := [2]) (by kernel_rfl) (by simp) ?_; refine Hd.AllE.cons (i := 2) rfl (fun K hK => ?_) Hd.AllE.nil; (go_simp; (go_at_call 29; (with_reducible refine (N1.out _).mono ?_); rintro e w1 ⟨rfl, rfl⟩)); refine hK.out _ _ (World.rangeAt_alloc hHeld _) (fun hHeld => ?_); clear hK K; (try simp only [Act.put, List.setIfInBounds_toArray, List.set_cons_zero, List.set_cons_succ]))
      have HBd := Aside0.mk (below_alloc HBd.out (.cells (nums .u8 bs).toArray 22))
      have HOd := Aside0.mk (HOd.out.alloc (.cells (nums .u8 bs).toArray 22))
      (refine Hd.readyE (rs := [5]) (by kernel_rfl) (by simp) ?_; refine Hd.AllE.cons (i := 5) rfl (fun K hK => ?_) Hd.AllE.nil; (go_simp; (go_at_call 29; (with_reducible refine (N2.out _).mono ?_); rintro e w1 ⟨rfl, rfl⟩)); refine hK.out _ _ (World.rangeAt_alloc hHeld _) (fun hHeld => ?_); clear hK K; (try simp only [Act.put, List.setIfInBounds_toArray, List.set_cons_zero, List.set_cons_succ]))
      have HBd := Aside0.mk (below_alloc HBd.out (.cells (nums .u8 bs).toArray 22))
      have HOd := Aside0.mk (HOd.out.alloc (.cells (nums .u8 bs).toArray 22))
      (refine Hd.takeE (i := 6) (v := ?_) rfl rfl (by kernel_rfl) (by kernel_rfl) (by kernel_rfl) (by kernel_rfl) (fun _ _ _ h => h) (Or.inl ⟨by rfl, ?_⟩) (by assumption) ?_; rotate_left; (focus (intro wS hS; (try go_split_ands); go_simp; all_goals (with_reducible rfl))); simp only [List.set_cons_zero, List.set_cons_succ, List.setIfInBounds_toArray]); (refine Hd.takeE (i := 7) (v := ?_) rfl rfl (by kernel_rfl) (by kernel_rfl) (by kernel_rfl) (by kernel_rfl) (fun _ _ _ h => h) (Or.inl ⟨by rfl, ?_⟩) (by assumption) ?_; rotate_left; (focus (intro wS hS; (try go_split_ands); go_simp; all_goals (with_reducible rfl))); simp only [List.set_cons_zero, List.set_cons_succ, List.setIfInBounds_toArray]); (refine Hd.takeE (i := 9) (v := ?_) rfl rfl (by kernel_rfl) (by kernel_rfl) (by kernel_rfl) (by kernel_rfl) (fun _ _ _ h => h) (Or.inl ⟨by rfl, ?_⟩) (by assumption) ?_; rotate_left; (focus (intro wS hS; (try go_split_ands); go_simp; all_goals (with_reducible rfl))); simp only [List.set_cons_zero, List.set_cons_succ, List.setIfInBounds_toArray])
      have hal := Aside0.mk (show j + 1 ≤ 9 by omega)
      (refine Hd.readyE (rs := [10]) (by kernel_rfl) (by simp) ?_; refine Hd.AllE.cons (i := 10) rfl (fun K hK => ?_) Hd.AllE.nil; go_simp; refine hK.out _ _ (World.rangeAt_alloc hHeld _) (fun hHeld => ?_); clear hK K; (try simp only [Act.put, List.setIfInBounds_toArray, List.set_cons_zero, List.set_cons_succ]))
      have hR := Kd.R_of_own (enc := Value.int .i64) (h1 := fun _ => rfl) (ok := fun _ => True) (by rw [pls_len]; exact HOd.out) (fun _ _ => trivial)
      have hB := HBd.out
      (refine Hd.readyE (rs := [11]) (by kernel_rfl) (by simp) ?_; refine Hd.AllE.cons (i := 11) rfl (fun K hK => ?_) Hd.AllE.nil; (refine Hd.step_of_list rfl ?_; refine app1 (Kd.int .i64) (flat_int .i64) (w.alloc (.cells (nums .u8 bs).toArray 22)).heap.size (w0 := (w.alloc (.cells (nums .u8 bs).toArray 22))) (W := (((wr.alloc (.cells (nums .u8 bs).toArray 22)).alloc (.cells (nums .u8 bs).toArray 22)).drew)) (.tmp 30) (.tmp 40) 30 3 (.int .i64 0) 8 rfl rfl Try.underlying30 infoInt rfl (by decide) (by decide) _ (pls bs m j) ((place bs m j : Nat) : Int) [.int .i64 ((place bs m j : Nat) : Int)] (by rfl) (by simp [Act.eval]) (by rfl) hR hB hB.size (by have := hal.out; rw [pls_len]; omega) ?_; intro v1 w1 HO1 HB1 hg1 hb1; refine wpList_nil ?_); refine hK.out _ _ (range_below HR0.out HB1) (fun hHeld => ?_); clear hK K; (try simp only [Act.put, List.setIfInBounds_toArray, List.set_cons_zero, List.set_cons_succ]))
      have HO2 := Aside0.mk (Kd.own_of_R HO1)
      have HB2 := Aside0.mk HB1
      rw [← pls_succ, pls_len] at HO2
      clear hR hB HO1 HB1 hg1 hb1
      (refine Hd.takeE (i := 12) (v := ?_) rfl rfl (by kernel_rfl) (by kernel_rfl) (by kernel_rfl) (by kernel_rfl) (fun _ _ _ h => h) (Or.inl ⟨by rfl, ?_⟩) (by assumption) ?_; rotate_left; (focus (intro wS hS; (try go_split_ands); go_simp; all_goals (with_reducible rfl))); simp only [List.set_cons_zero, List.set_cons_succ, List.setIfInBounds_toArray])
      (refine Hd.endE (by kernel_rfl) ?_ _)
      go_wp2
      go_roundg (n - (j + 1) + 1)
      case measure => have := HG.out; omega
      case rel => exact ⟨j + 1, rfl, by omega, ⟨rfl⟩, HO2, HB2⟩
    · obtain rfl : j = n := by omega
      have h5 : decide ((j : Int) < (j : Int)) = false := by simp
      go_wp2
      go_ret
      exact ⟨_, rfl, Kd.R_lower (Kd.R_of_own (enc := Value.int .i64) (h1 := fun _ => rfl) (by rw [pls_len]; exact HO.out) (fun _ _ => trivial)) (by simp), below_then (below_alloc (Below.refl _ w) (.cells (nums .u8 bs).toArray 22)) (by simp) HB.out⟩
end Go.Proofs.Ytnpcngnmjbhhaaa.BlF
