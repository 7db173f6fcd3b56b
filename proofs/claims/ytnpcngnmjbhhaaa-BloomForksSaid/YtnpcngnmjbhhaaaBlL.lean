/- The law's live: it answers true. -/
import Derived.Test.YtnpcngnmjbhhaaaBlHs
namespace Go.Proofs.Ytnpcngnmjbhhaaa.BlL
open Go Go.RowKit Go.Proofs.YtnpcngnmjbhhaaaW.PrintWords Go.Proofs.Ytnpcngnmjbhhaaa.K Go.Proofs.Ytnpcngnmjbhhaaa.OctS Go.Proofs.Ytnpcngnmjbhhaaa.OctP Go.Proofs.Ytnpcngnmjbhhaaa.BlS Go.Proofs.Ytnpcngnmjbhhaaa.BlP Go.Proofs.Ytnpcngnmjbhhaaa.BlC Go.Proofs.Ytnpcngnmjbhhaaa.BlD Go.Proofs.Ytnpcngnmjbhhaaa.BlN Go.Proofs.Ytnpcngnmjbhhaaa.BlF Go.Proofs.Ytnpcngnmjbhhaaa.BlW Go.Proofs.Ytnpcngnmjbhhaaa.BlO Go.Proofs.Ytnpcngnmjbhhaaa.BlQ Go.Proofs.Ytnpcngnmjbhhaaa.BlR Go.Proofs.Ytnpcngnmjbhhaaa.BlA Go.Proofs.Ytnpcngnmjbhhaaa.BlHs Go.Proofs.Ytnpcngnmjbhhaaa.Oct
set_option linter.unusedVariables false
set_option linter.unusedSimpArgs false
def s1 : List Int := [0, 0, 0, 0, 0, 5, 0, 0, 0, 0, 0, 3, 0, 0, 0, 0, 0, 0, 0, 0, 0, 0, 0, 0, 0, 0, 0, 0, 0, 0, 0, 0]
def s2 : List Int := [0, 0, 0, 0, 0, 0, 0, 0, 0, 0, 0, 0, 0, 0, 0, 0, 0, 0, 0, 0, 0, 0, 0, 0, 0, 0, 0, 0, 0, 0, 0, 0]
def s3 : List Int := [0, 0, 0, 0, 0, 8, 0, 0, 0, 0, 0, 0, 0, 0, 0, 0, 0, 0, 0, 0, 0, 0, 0, 0, 0, 0, 0, 0, 0, 0, 0, 0]
theorem b1 : Bytes s1 := by unfold Bytes s1; decide
theorem b2 : Bytes s2 := by unfold Bytes s2; decide
theorem b3 : Bytes s3 := by unfold Bytes s3; decide
theorem p1 : plL s1 8 3 = [5, 0, 3] := by decide
theorem p2 : plL s2 8 3 = [0, 0, 0] := by decide
theorem p3 : plL s3 8 3 = [0, 0, 0] := by decide
theorem ok83 : okF (8 : Nat) (3 : Nat) := by unfold okF; decide
theorem lay1 : BlW.lay [] [5, 0, 3] = [5, 0, 3] := by decide
theorem good1 : BlW.Good [5, 0, 3] 8 := ⟨by decide, by decide⟩
theorem build1 : ∃ C : Array Value, C = (nums .u8 s1).toArray ∧ ∀ W, (Instr.build 22 #[(5, .int .u8 5), (11, .int .u8 3)]).run Try.prog W = .ok (.agg C) W := ⟨_, rfl, fun W => run_build W _ _ _ (by kernel_rfl)⟩
theorem build2 : ∃ C : Array Value, C = (nums .u8 s2).toArray ∧ ∀ W, (Instr.build 22 #[]).run Try.prog W = .ok (.agg C) W := ⟨_, rfl, fun W => run_build W _ _ _ (by kernel_rfl)⟩
theorem build3 : ∃ C : Array Value, C = (nums .u8 s3).toArray ∧ ∀ W, (Instr.build 22 #[(5, .int .u8 8)]).run Try.prog W = .ok (.agg C) W := ⟨_, rfl, fun W => run_build W _ _ _ (by kernel_rfl)⟩
theorem info22 : (Try.prog.info? 22).map (fun i => i.zero) = some (some (.agg (nums .u8 s2).toArray)) := by kernel_rfl
theorem zero22 : ∃ Z : Array Value, Z.size = 32 ∧ ∀ W, (zeroValue 22).run Try.prog W = .ok (.agg Z) W := by
  refine ⟨(nums .u8 s2).toArray, rfl, fun W => ?_⟩
  obtain ⟨i, h1, h2⟩ := Option.map_eq_some_iff.1 info22
  simp [zeroValue, typeInfo, Sem.run_bind, h1, h2]
theorem sm_good {on : List Int} {size m : Nat} (h : BlW.Good on size) (hm : size ≤ 64 * m) : sm on m = on.length := ones_all on size m h hm
theorem new83 (W : World) : Calls Try.prog 8 #[.int .i64 8, .int .i64 3] W fun e w' => ∃ g v, e = .returned (.tuple #[.pointer (some ⟨g, 0, none⟩), .int .i64 0]) ∧ BF w' W.heap.size g (8 : Nat) (3 : Nat) v (wordsOf [] 1) ∧ Below W.heap.size W w' := by
  rw [wordsOf_nil]
  exact new_yes 8 3 ok83 W
theorem own_ge {w : World} {base g : Nat} {size ways : Int} {v : Value} {ws : List Int} (h : BF w base g size ways v ws) (k : Nat) (hk : v.ownBlock = some k) : base ≤ k := ((Kd.R_bound h.row).1 k hk).2.1
theorem bf_grown {W W1 W2 : World} {base g : Nat} {size ways : Int} {v : Value} {ws : List Int} (h : BF W base g size ways v ws) (hb : Below W1.heap.size W1 W) (hbase : W1.heap.size ≤ base) (hg : W.grownBy W2 v.ownBlock) : Below W1.heap.size W1 W2 :=
  hb.grown hg hb.size (fun k hk => Nat.le_trans hbase (own_ge h k hk))
set_option maxHeartbeats 2000000 in
theorem live_calls (w : World) : Calls Try.prog 12 #[] w fun e w' => e = .returned (.bool true) ∧ Below w.heap.size w w' := by
  obtain ⟨C1, e1, hb1⟩ := build1
  obtain ⟨C2, e2, hb2⟩ := build2
  obtain ⟨C3, e3, hb3⟩ := build3
  obtain ⟨Z, hz, hzv⟩ := zero22
  have hund := Try.underlying22
  have hi32 : (Try.prog.info? 22).map (·.size) = some C1.size := by rw [e1]; exact infoSum s1 rfl
  have hi33 : (Try.prog.info? 22).map (·.size) = some C1.toList.length := by rw [Array.length_toList]; exact hi32
  have h32 : C1.size = 32 := by rw [e1]; rfl
  have hone : ((nums .u8 s1).toArray).all (·.oneCell') = true := all_oneCell_toArray (fun v hv => by obtain ⟨x, _, rfl⟩ := List.mem_map.1 hv; rfl)
  have hi34 : (Try.prog.info? 22).map (·.size) = some ((nums .u8 s1).toArray).size := infoSum s1 rfl
  have P1 := Aside0.mk (fun W => show Calls Try.prog 10 #[.agg C1, .int .i64 8, .int .i64 3] W fun e w' => ∃ v, e = .returned v ∧ Kd.R (Kd.int .i64) 3 w' W.heap.size (fun _ => True) (v) ([5, 0, 3]) ∧ Below W.heap.size W w' from by rw [e1, ← p1]; exact places_all s1 8 3 W rfl b1)
  have HZ := Aside0.mk hzv
  have HB := Aside0.mk hb1
  have HT : Aside0 ((w.alloc (.cells Z 22)).there w.heap.size 0 ((nums .u8 s1).toArray).size) := ⟨fun j hj => by
    have h := heap_alloc_new w (.cells Z 22)
    refine ⟨?_, obj_free h _⟩
    have hj2 : j < 32 := hj
    rw [cell_of_row _ _ _ _ _ _ h]; simp; omega⟩
  obtain ⟨W1, hW1⟩ : ∃ W1, W1 = (w.alloc (.cells Z 22)).setCells w.heap.size 0 ((nums .u8 s1).toArray).toList := ⟨_, rfl⟩
  have hr1 : W1.rangeAt w.heap.size 0 C1.toList := by rw [hW1, e1]; exact World.rangeAt_setCells_same _ _ _ _ HT.out
  have hbw : Below w.heap.size w W1 := by
    rw [hW1]
    obtain ⟨q1, q2, q3, q4⟩ := setCells_same w.heap.size ((nums .u8 s1).toArray).toList 0 (w.alloc (.cells Z 22))
    exact (below_alloc (Below.refl _ w) _).trans ⟨q1, q2, q3, by rw [q4]; exact Nat.le_refl _, fun j hj => setCells_far _ 0 j (by omega)⟩
  have hk1 : w.heap.size < W1.heap.size := by
    rw [hW1]
    obtain ⟨q1, q2, q3, q4⟩ := setCells_same w.heap.size ((nums .u8 s1).toArray).toList 0 (w.alloc (.cells Z 22))
    rw [q4]; simp
  have HR1 := Aside0.mk hr1
  have HBW := Aside0.mk hbw
  have HW1 := Aside0.mk hW1
  have E1 := Aside0.mk e1
  have E2 := Aside0.mk e2
  have E3 := Aside0.mk e3
  have HU := Aside0.mk hund
  have H3 := Aside0.mk hi33
  have H4 := Aside0.mk hi34
  clear hund hi32 hi33 hi34
  clear e1 e2 e3 hzv hb1 hb2 hb3 hz hr1 hbw hW1
  have HLD : Aside0 (∀ W, Below W1.heap.size W1 W → ∀ p, Value.pointer (some ⟨w.heap.size, 0, none⟩) = p → (Instr.loadAt 22 p).run Try.prog W = .ok (.agg C1) W) := ⟨fun W hW p hp => by
    subst hp
    exact run_loadAt_mid W _ _ _ C1.toList _ (range_below HR1.out hW) HU.out rfl H3.out⟩
  go_enter Try.func12, Try.ntmps12
  go_wp2_with (first
    | ((with_reducible refine gate_ (.alloc 22) rfl ?_); refine Hd.step_run rfl (Hd.exec_alloc _ rfl _ (HZ.out w)) ?_; refine wpList_store_mid rfl _ _ _ rfl w.heap.size 0 (nums .u8 s1).toArray rfl rfl HT.out H4.out hone ?_; rw [show (w.alloc (.cells (Value.agg Z).cells 22)).setCells w.heap.size 0 ((nums .u8 s1).toArray).toList = W1 from HW1.out.symm])
    | ((with_reducible refine gate_ (.load 22 (.tmp 1)) rfl ?_); refine wpList_load_mid rfl _ (.tmp 1) rfl w.heap.size 0 rfl C1.toList _ HR1.out HU.out rfl H3.out ?_))
  refine (P1.out W1).mono ?_
  rintro e W2 ⟨v2, rfl, ho2, hb2⟩
  obtain ⟨A2, c2, rfl, _, hr2⟩ := Kd.R_reads ho2
  have HO2 := Aside0.mk hr2
  have HB2 := Aside0.mk hb2
  clear ho2 hb2 hr2
  go_wp2_with fail
  rename_i K1 h1 K0 h0
  refine (new83 W2).mono ?_
  rintro e W3 ⟨g, v, rfl, hf3, hb3⟩
  obtain ⟨ad, hA, hc0⟩ := Kd.at_int (Kd.C_below HO2.out hb3) 0 (by decide) (by decide)
  obtain ⟨ad1, hA1, hc1⟩ := Kd.at_int (Kd.C_below HO2.out hb3) 1 (by decide) (by decide)
  obtain ⟨ad2, hA2, hc2⟩ := Kd.at_int (Kd.C_below HO2.out hb3) 2 (by decide) (by decide)
  subst hA
  injection hA1 with hA1
  injection hA2 with hA2
  subst hA1
  subst hA2
  have e0 : ad.add 0 = ad := by simp [Addr.add]
  have hc0 : W3.cell? ad = some (.int .i64 5) := by rw [← e0]; exact hc0
  clear e0
  have hc1 : W3.cell? ⟨ad.block, ad.off + 1, none⟩ = some (.int .i64 0) := hc1
  have hc2 : W3.cell? ⟨ad.block, ad.off + 2, none⟩ = some (.int .i64 3) := hc2
  have HF3 := Aside0.mk hf3
  have HB3 := Aside0.mk (below_then HB2.out HB2.out.size hb3)
  clear hf3 hb3
  have hA4 := add_calls W3 _ g 8 3 v [] 1 s1 HF3.out ok83 rfl rfl b1
  rw [← E1.out, show plL s1 ((8 : Nat) : Int) ((3 : Nat) : Int) = [5, 0, 3] from p1, lay1] at hA4
  have HA4 := Aside0.mk hA4
  clear hA4
  refine h0 _ _ ?_
  clear h0 K0
  iterate 5 (refine wpList_step (fun K hK => ?_); go_simp; refine hK _ _ ?_; clear hK K)
  refine wpList_nil ?_
  refine h1 _ _ ?_
  clear h1 K1
  refine wp_seq_k (fun K2 h2 => ?_)
  refine wp_region_lit ?_
  iterate 27 (refine wpList_step (fun K hK => ?_); go_simp; refine hK _ _ ?_; clear hK K)
  (refine wpList_step (fun K hK => ?_); refine Hd.load_wanted (by rfl) _ (.tmp 1) rfl w.heap.size 0 rfl C1.toList _ (range_below HR1.out HB3.out) HU.out rfl H3.out ?_; refine hK _ _ ?_; clear hK K; (try simp only [Act.put, List.setIfInBounds_toArray, List.set_cons_zero, List.set_cons_succ]))
  (refine wpList_step (fun K hK => ?_); go_simp; refine HA4.out.mono ?_; rintro e W4 ⟨rfl, hf4, hg4⟩; refine hK _ _ ?_; clear hK K; (try simp only [Act.put, List.setIfInBounds_toArray, List.set_cons_zero, List.set_cons_succ]))
  have HF4 := Aside0.mk hf4
  have HB4 := Aside0.mk (bf_grown HF3.out HB3.out HB2.out.size hg4)
  clear hf4 hg4 hc0 hc1 hc2
  iterate 4 (refine wpList_step (fun K hK => ?_); go_simp; refine hK _ _ ?_; clear hK K)
  (refine wpList_step (fun K hK => ?_); refine Hd.load_wanted (by rfl) _ (.tmp 1) rfl w.heap.size 0 rfl C1.toList _ (range_below HR1.out HB4.out) HU.out rfl H3.out ?_; refine hK _ _ ?_; clear hK K; (try simp only [Act.put, List.setIfInBounds_toArray, List.set_cons_zero, List.set_cons_succ]))
  go_wp2_with fail
  have hA5 := has_calls W4 _ g 8 3 v [5, 0, 3] 1 s1 HF4.out ok83 rfl rfl b1
  rw [← E1.out, show plL s1 ((8 : Nat) : Int) ((3 : Nat) : Int) = [5, 0, 3] from p1] at hA5
  refine hA5.mono ?_
  rintro e W5 ⟨rfl, hb5⟩
  have HF5 := Aside0.mk (bf_below HF4.out hb5)
  have HB5 := Aside0.mk (below_then HB4.out HB4.out.size hb5)
  clear hA5 hb5
  go_wp2_with fail
  refine (has_calls W5 _ g 8 3 v [5, 0, 3] 1 s2 HF5.out ok83 rfl rfl b2).mono ?_
  rw [show plL s2 ((8 : Nat) : Int) ((3 : Nat) : Int) = [0, 0, 0] from p2]
  rintro e W6 ⟨rfl, hb6⟩
  have HF6 := Aside0.mk (bf_below HF5.out hb6)
  have HB6 := Aside0.mk (below_then HB5.out HB5.out.size hb6)
  clear hb6
  go_wp2_with fail
  refine (has_calls W6 _ g 8 3 v [5, 0, 3] 1 s3 HF6.out ok83 rfl rfl b3).mono ?_
  rw [show plL s3 ((8 : Nat) : Int) ((3 : Nat) : Int) = [0, 0, 0] from p3]
  rintro e W7 ⟨rfl, hb7⟩
  have HF7 := Aside0.mk (bf_below HF6.out hb7)
  have HB7 := Aside0.mk (below_then HB6.out HB6.out.size hb7)
  clear hb7
  go_wp2_with fail
  have hO := ones_f W7 _ g _ _ v [5, 0, 3] 1 HF7.out (by decide)
  rw [show sm [5, 0, 3] 1 = 3 from sm_good good1 (by decide)] at hO
  refine hO.mono ?_
  rintro e W8 ⟨rfl, rfl⟩
  go_wp2_with fail
  refine (size_calls W7 _ g _ _ v _ HF7.out).mono ?_
  rintro e W8 ⟨rfl, rfl⟩
  go_wp2
  go_ret
  exact ⟨rfl, below_then HBW.out HBW.out.size HB7.out⟩
end Go.Proofs.Ytnpcngnmjbhhaaa.BlL
