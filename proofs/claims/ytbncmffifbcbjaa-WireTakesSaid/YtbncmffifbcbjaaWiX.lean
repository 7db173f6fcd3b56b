/- What wire.Take computes: the note of bytes, or why there is none; condition: the bytes read as bytes. -/
import Derived.Test.YtbncmffifbcbjaaWiW
import Derived.Test.YtbncmffifbcbjaaWiS
namespace Go.Proofs.Ytbncmffifbcbjaa.WiX
open Go Go.RowKit Go.Proofs.YtbncmffifbcbjaaW.PrintWords Go.Proofs.Ytbncmffifbcbjaa.K Go.Proofs.Ytbncmffifbcbjaa.OctS Go.Proofs.Ytbncmffifbcbjaa.OctP Go.Proofs.Ytbncmffifbcbjaa.Oct Go.Proofs.Ytbncmffifbcbjaa.Ap Go.Proofs.Ytbncmffifbcbjaa.Nm Go.Proofs.Ytbncmffifbcbjaa.Hl Go.Proofs.Ytbncmffifbcbjaa.WiA Go.Proofs.Ytbncmffifbcbjaa.WiB Go.Proofs.Ytbncmffifbcbjaa.WiD Go.Proofs.Ytbncmffifbcbjaa.WiE Go.Proofs.Ytbncmffifbcbjaa.WiF Go.Proofs.Ytbncmffifbcbjaa.WiT Go.Proofs.Ytbncmffifbcbjaa.WiR Go.Proofs.Ytbncmffifbcbjaa.WiU Go.Proofs.Ytbncmffifbcbjaa.WiV Go.Proofs.Ytbncmffifbcbjaa.WiM Go.Proofs.Ytbncmffifbcbjaa.WiW Go.Proofs.Ytbncmffifbcbjaa.WiS
set_option linter.unusedVariables false
set_option linter.unusedSimpArgs false
theorem s1_held (b : List Int) : (s1 b).1.held = [] ∧ (s1 b).1.parts = [] := by unfold s1 fileS sayS; split <;> exact ⟨rfl, rfl⟩
theorem s2_held (b : List Int) : (s2 b).1.held = [] ∧ (s2 b).1.parts = [] := by
  have h := s1_held b
  unfold s2 iS
  split
  · exact h
  · exact h
theorem loop_parts (b : List Int) : ∀ (k : Nat) (t : Nt × Rs), (loopS (heldS b) k t).1.parts = t.1.parts
  | 0, _ => rfl
  | k + 1, t => by
    unfold loopS
    split
    · exact loop_parts b k _
    · rfl
theorem s3_parts (b : List Int) : (s3 b).1.parts = [] := by
  unfold s3 listS
  split
  · exact (loop_parts b _ _).trans (s2_held b).2
  · exact (s2_held b).2
theorem strOf_size (l : List Int) : (strOfNums l).size = l.length := by
  show (strOfNums l).data.size = l.length
  rw [← Array.length_toList, strOfNums_data, List.length_map]
theorem slice_nil (W : World) (base : Nat) : NtR W base ⟨0, ⟨#[]⟩, 0, 0, [], [], []⟩ ⟨none, 0, none, 0, none, 0⟩ := ⟨Kd.R_nil _ _ _ _ _, Kd.R_nil _ _ _ _ _, Kd.R_nil _ _ _ _ _, by decide, fun c hc => by cases hc⟩
set_option maxHeartbeats 8000000 in
set_option maxRecDepth 100000 in
theorem take_calls (A : Option Addr) (c : Nat) (b : List Int) (w : World) (hG : Given w A c b) : Calls Try.prog 12 #[.slice A b.length c] w fun e w' => ∃ a, e = .returned (.tuple #[.agg (noteV (takeF b).1 a), .int .i64 (takeF b).2]) ∧ NtR w' w.heap.size (takeF b).1 a ∧ Below w.heap.size w w' := by
  have HG := Aside0.mk hG
  clear hG
  go_enter Try.func12, Try.ntmps12
  go_wp2_with fail
  obtain ⟨W0, hW0⟩ : ∃ X, X = (w.alloc (.cells noteZ 27)).alloc (.cells #[.slice A b.length c, .int .i64 0, .int .i64 0] 60) := ⟨_, rfl⟩
  have T0 : Aside0 (Ts w W0 (w.heap.size + 1) A c b ⟨0, 0⟩ [(w.heap.size, noteZ, 27)]) := ⟨by
    rw [hW0]
    have hs := World.size_alloc w (.cells noteZ 27)
    refine ⟨⟨by have := heap_alloc_new (w.alloc (.cells noteZ 27)) (.cells #[.slice A b.length c, .int .i64 0, .int .i64 0] 60); rwa [hs] at this⟩, below_alloc (below_alloc (Below.refl _ _) _) _, by omega, fun x hx => ?_⟩
    simp only [List.mem_cons, List.not_mem_nil, or_false] at hx
    subst hx
    exact ⟨by simp, by simp, (Below.heap_alloc _ _ _ (by rw [hs]; simp)).trans (heap_alloc_new w _)⟩⟩
  simp only [noteZ] at hW0
  rw [← hW0]
  clear hW0
  have HSY : Aside0 (sayS b = (⟨(numR b ⟨0, 0⟩).1, ⟨#[]⟩, 0, 0, [], [], []⟩, mustR (numR b ⟨0, 0⟩).2 (decide (1 ≤ (numR b ⟨0, 0⟩).1 ∧ (numR b ⟨0, 0⟩).1 ≤ 7)) 4)) := ⟨rfl⟩
  have HSO : Aside0 (sayOf b = (numR b ⟨0, 0⟩).1) := ⟨rfl⟩
  have HIN : Aside0 (In b (numR b ⟨0, 0⟩).2) := ⟨In.num HG.out.hb ⟨Int.le_refl _, by simp⟩⟩
  refine (T0.out.num HG.out).mono ?_
  generalize numR b ⟨0, 0⟩ = NR at *
  obtain ⟨say, r1⟩ := NR
  dsimp only at *
  rintro e W1 ⟨rfl, ht, hg⟩
  have T1 := Aside0.mk ht
  clear ht hg
  go_upto_region 3 with fail
  obtain ⟨W2, hW2⟩ : ∃ X, X = W1.alloc (.cells #[.int .i64 say, .string ⟨#[]⟩, .int .i64 0, .int .i64 0, .slice none 0 0, .slice none 0 0, .slice none 0 0] 27) := ⟨_, rfl⟩
  rw [← hW2]
  have HA : Aside0 (w.heap.size < W1.heap.size) := ⟨by have := T1.out.rd.lt; omega⟩
  have T2 : Aside0 (Tn w W2 (w.heap.size + 1) W1.heap.size A c b [(w.heap.size, noteZ, 27)] ⟨say, ⟨#[]⟩, 0, 0, [], [], []⟩ ⟨none, 0, none, 0, none, 0⟩ r1) := ⟨by
    rw [hW2]
    refine ⟨T1.out.lit _ _, ?_, fun x hx => ?_, fun x hx => ?_, HIN.out⟩
    · have h := slice_nil (W1.alloc (.cells #[.int .i64 say, .string ⟨#[]⟩, .int .i64 0, .int .i64 0, .slice none 0 0, .slice none 0 0, .slice none 0 0] 27)) w.heap.size
      exact ⟨h.h, h.p, h.bb, h.nm, h.by_⟩
    · obtain rfl := List.mem_singleton.1 hx
      have := HA.out
      simp only; omega
    · obtain rfl := List.mem_singleton.1 hx
      exact ⟨by simp only; decide, by simp only; decide, by simp only; decide⟩⟩
  clear hW2
  generalize hn : W1.heap.size = an at *
  clear hn
  go_cut [] (fun wx => Aside0 (Tn w wx (w.heap.size + 1) an A c b [(w.heap.size, noteZ, 27)] (sayS b).1 ⟨none, 0, none, 0, none, 0⟩ (sayS b).2))
  case first =>
    have c0 := obj_cell (v := .int .i64 say) T2.out.note 0 rfl
    by_cases h1 : 1 ≤ say
    · have d1 : decide (1 ≤ say) = true := decide_eq_true h1
      by_cases h2 : say ≤ 7
      · have d2 : decide (say ≤ 7) = true := decide_eq_true h2
        have HE : Aside0 ((sayS b) = (⟨say, ⟨#[]⟩, 0, 0, [], [], []⟩, mustR r1 true 4)) := ⟨by rw [HSY.out, decide_eq_true (⟨h1, h2⟩ : 1 ≤ say ∧ say ≤ 7)]⟩
        clear h1 h2
        go_wp2_with fail
        refine (T2.out.must true 4).mono ?_
        rintro e W3 ⟨rfl, ht⟩
        go_wp2_with fail
        go_meet
        exact ⟨by rw [HE.out]; exact ht⟩
      · have d2 : decide (say ≤ 7) = false := decide_eq_false h2
        have HE : Aside0 ((sayS b) = (⟨say, ⟨#[]⟩, 0, 0, [], [], []⟩, mustR r1 false 4)) := ⟨by rw [HSY.out, decide_eq_false (fun h : 1 ≤ say ∧ say ≤ 7 => h2 h.2)]⟩
        clear h1 h2
        go_wp2_with fail
        refine (T2.out.must false 4).mono ?_
        rintro e W3 ⟨rfl, ht⟩
        go_wp2_with fail
        go_meet
        exact ⟨by rw [HE.out]; exact ht⟩
    · have d1 : decide (1 ≤ say) = false := decide_eq_false h1
      have HE : Aside0 ((sayS b) = (⟨say, ⟨#[]⟩, 0, 0, [], [], []⟩, mustR r1 false 4)) := ⟨by rw [HSY.out, decide_eq_false (fun h : 1 ≤ say ∧ say ≤ 7 => h1 h.1)]⟩
      clear h1
      go_wp2_with fail
      refine (T2.out.must false 4).mono ?_
      rintro e W3 ⟨rfl, ht⟩
      go_wp2_with fail
      go_meet
      exact ⟨by rw [HE.out]; exact ht⟩
  case rest =>
  have T3 := hcut
  clear hcut
  have HNY : Aside0 ((sayS b).1 = ⟨say, ⟨#[]⟩, 0, 0, [], [], []⟩) := ⟨by rw [HSY.out]⟩
  have c0 : wc.cell? ⟨an, 0, none⟩ = some (.int .i64 say) := obj_cell T3.out.note 0 (by rw [HNY.out]; rfl)
  go_wp2_with fail
  refine (named_calls say wc).mono ?_
  unfold namesV
  rintro e w3 ⟨rfl, hb3⟩
  obtain ⟨W, hW⟩ : ∃ W, W = w3.alloc (.cells #[.bool (hasF say), .bool (hasI say), .bool (hasH say), .bool (hasP say), .bool (hasB say)] 40) := ⟨_, rfl⟩
  have T4 : Aside0 (Tn w W (w.heap.size + 1) an A c b (Lx w3.heap.size w.heap.size say) (sayS b).1 ⟨none, 0, none, 0, none, 0⟩ (sayS b).2) := ⟨by rw [hW]; exact (T3.out.below hb3).lit _ (by decide) (by decide) (by decide)⟩
  have hWs := hW.symm
  have HGA : Aside0 (an ≠ w3.heap.size) := ⟨fun e => by have := (Array.getElem?_eq_some_iff.1 (T3.out.below hb3).note).1; omega⟩
  clear c0 hb3 hW HIN HSY
  obtain ⟨x0, x1, x2, x3, x4⟩ := T4.out.x
  go_upto_if 29 with fail
  go_cut [] (fun wx => ∃ a, Aside0 (Tn w wx (w.heap.size + 1) an A c b (Lx w3.heap.size w.heap.size say) (s1 b).1 a (s1 b).2))
  case first =>
    by_cases hf : hasF say = true
    · have HE : Aside0 (s1 b = ({ (sayS b).1 with name := strOfNums (textR b (sayS b).2 32).1, gen := (numR b (textR b (sayS b).2 32).2).1 }, (numR b (textR b (sayS b).2 32).2).2)) := ⟨by unfold s1; rw [HSO.out, if_pos hf]; rfl⟩
      have HLN : Aside0 ((strOfNums (textR b (sayS b).2 32).1).size ≤ 9223372036854775807) := ⟨by rw [strOf_size]; have := textR_len HG.out.hb (sayS b).2 32; simp only [Int.cast_ofNat_Int] at this; omega⟩
      rw [hf]
      clear hf
      go_wp2_with fail
      clear x0 x1 x2 x3 x4 hWs
      have T5 := Aside0.mk T4.out.drew
      (refine Hd.startE (S := (fun _ => True)) 1000 (by kernel_rfl) (trivial) (fun hHeld => ?_))
      generalize W.drew = W5 at *
      have hT := T5.out.text HG.out 32
      generalize textR b (sayS b).2 32 = TR at *
      obtain ⟨l, r2⟩ := TR
      dsimp only at *
      have HT := Aside0.mk hT
      clear hT
      (refine Hd.takeE (i := 0) (v := ?_) rfl rfl (by kernel_rfl) (by kernel_rfl) (by kernel_rfl) (by kernel_rfl) (by first | exact fun _ _ _ h => h | exact fun _ _ _ h => HQP.out (by decide) h) (Or.inl ⟨by rfl, ?_⟩) (by assumption) ?_; rotate_left; (focus (intro wS hS; (try go_split_ands); go_simp; all_goals (with_reducible rfl))); simp only [List.set_cons_zero, List.set_cons_succ, List.setIfInBounds_toArray]); (refine Hd.takeE (i := 3) (v := ?_) rfl rfl (by kernel_rfl) (by kernel_rfl) (by kernel_rfl) (by kernel_rfl) (by first | exact fun _ _ _ h => h | exact fun _ _ _ h => HQP.out (by decide) h) (Or.inl ⟨by rfl, ?_⟩) (by assumption) ?_; rotate_left; (focus (intro wS hS; (try go_split_ands); go_simp; all_goals (with_reducible rfl))); simp only [List.set_cons_zero, List.set_cons_succ, List.setIfInBounds_toArray])
      (refine Hd.readyE (rs := [1]) (by kernel_rfl) (by simp) ?_; refine Hd.AllE.cons (i := 1) rfl (fun K hK => ?_) Hd.AllE.nil; (go_simp; (with_reducible refine HT.out.mono ?_); rintro e w6 ⟨v6, rfl, ht6, hr6⟩); refine hK.out _ _ (trivial) (fun hHeld => ?_); clear hK K; (try simp only [Act.put, List.setIfInBounds_toArray, List.set_cons_zero, List.set_cons_succ]))
      have T6 := Aside0.mk ht6
      have HR6 := Aside0.mk hr6
      clear ht6 hr6
      have hN := T6.out.num HG.out
      generalize numR b r2 = NR at *
      obtain ⟨gen, r3⟩ := NR
      dsimp only at *
      have HN := Aside0.mk hN
      clear hN
      (refine Hd.readyE (rs := [2, 4]) (by kernel_rfl) (by simp) ?_; refine Hd.AllE.cons (i := 2) rfl (fun K hK => ?_) (Hd.AllE.cons (i := 4) rfl (fun K hK => ?_) (Hd.AllE.nil)))
      · ((refine Hd.step_of_list rfl ?_; refine Hd.step_run rfl (exec_str rfl (by first | rfl | simp [Act.eval]) HR6.out) ?_; refine wpList_nil ?_); refine hK.out _ _ (trivial) (fun hHeld => ?_); clear hK K; (try simp only [Act.put, List.setIfInBounds_toArray, List.set_cons_zero, List.set_cons_succ]))
        (refine Hd.takeE (i := 5) (v := ?_) rfl rfl (by kernel_rfl) (by kernel_rfl) (by kernel_rfl) (by kernel_rfl) (by first | exact fun _ _ _ h => h | exact fun _ _ _ h => HQP.out (by decide) h) (Or.inl ⟨by rfl, ?_⟩) (by assumption) ?_; rotate_left; (focus (intro wS hS; (try go_split_ands); go_simp; all_goals (with_reducible rfl))); simp only [List.set_cons_zero, List.set_cons_succ, List.setIfInBounds_toArray])
        (refine Hd.readyE (rs := [4]) (by kernel_rfl) (by simp) ?_; refine Hd.AllE.cons (i := 4) rfl (fun K hK => ?_) Hd.AllE.nil; (go_simp; (with_reducible refine HN.out.mono ?_); rintro e w7 ⟨rfl, ht7, hg7⟩); refine hK.out _ _ (trivial) (fun hHeld => ?_); clear hK K; (try simp only [Act.put, List.setIfInBounds_toArray, List.set_cons_zero, List.set_cons_succ]))
        have T7 := Aside0.mk ht7
        clear ht7 hg7
        have c1 := obj_cell (v := .string (sayS b).1.name) T7.out.note 1 rfl
        have f1 := obj_free T7.out.note 1
        have T8 := Aside0.mk (T7.out.setName (strOfNums l) HLN.out)
        have c2 := obj_cell (v := .int .i64 (sayS b).1.gen) T8.out.note 2 rfl
        have f2 := obj_free T8.out.note 2
        have T9 := Aside0.mk (T8.out.setGen gen)
        (refine Hd.readyE (rs := [6]) (by kernel_rfl) (by simp) ?_; refine Hd.AllE.cons (i := 6) rfl (fun K hK => ?_) Hd.AllE.nil; go_simp; refine hK.out _ _ (trivial) (fun hHeld => ?_); clear hK K; (try simp only [Act.put, List.setIfInBounds_toArray, List.set_cons_zero, List.set_cons_succ]))
        (refine Hd.takeE (i := 7) (v := ?_) rfl rfl (by kernel_rfl) (by kernel_rfl) (by kernel_rfl) (by kernel_rfl) (by first | exact fun _ _ _ h => h | exact fun _ _ _ h => HQP.out (by decide) h) (Or.inl ⟨by rfl, ?_⟩) (by assumption) ?_; rotate_left; (focus (intro wS hS; (try go_split_ands); go_simp; all_goals (with_reducible rfl))); simp only [List.set_cons_zero, List.set_cons_succ, List.setIfInBounds_toArray])
        (refine Hd.readyE (rs := [8]) (by kernel_rfl) (by simp) ?_; refine Hd.AllE.cons (i := 8) rfl (fun K hK => ?_) Hd.AllE.nil; go_simp; refine hK.out _ _ (trivial) (fun hHeld => ?_); clear hK K; (try simp only [Act.put, List.setIfInBounds_toArray, List.set_cons_zero, List.set_cons_succ]))
        (refine Hd.endE (by kernel_rfl) ?_ _)
        clear c1 c2 f1 f2
        go_wp2_with fail
        go_meet
        exact ⟨_, ⟨by rw [HE.out]; exact T9.out⟩⟩
      · ((go_simp; (with_reducible refine HN.out.mono ?_); rintro e w7 ⟨rfl, ht7, hg7⟩); refine hK.out _ _ (trivial) (fun hHeld => ?_); clear hK K; (try simp only [Act.put, List.setIfInBounds_toArray, List.set_cons_zero, List.set_cons_succ]))
        have T7 := Aside0.mk ht7
        have HR7 := Aside0.mk (R_other (flat_int .u8) HR6.out (fun k hk => by injection hk with hk; subst hk; exact ⟨_, _, T6.out.ts.rd.blk, by decide⟩) hg7)
        clear ht7 hg7
        (refine Hd.readyE (rs := [2]) (by kernel_rfl) (by simp) ?_; refine Hd.AllE.cons (i := 2) rfl (fun K hK => ?_) Hd.AllE.nil; (refine Hd.step_of_list rfl ?_; refine Hd.step_run rfl (exec_str rfl (by first | rfl | simp [Act.eval]) HR7.out) ?_; refine wpList_nil ?_); refine hK.out _ _ (trivial) (fun hHeld => ?_); clear hK K; (try simp only [Act.put, List.setIfInBounds_toArray, List.set_cons_zero, List.set_cons_succ]))
        (refine Hd.takeE (i := 5) (v := ?_) rfl rfl (by kernel_rfl) (by kernel_rfl) (by kernel_rfl) (by kernel_rfl) (by first | exact fun _ _ _ h => h | exact fun _ _ _ h => HQP.out (by decide) h) (Or.inl ⟨by rfl, ?_⟩) (by assumption) ?_; rotate_left; (focus (intro wS hS; (try go_split_ands); go_simp; all_goals (with_reducible rfl))); simp only [List.set_cons_zero, List.set_cons_succ, List.setIfInBounds_toArray])
        have c1 := obj_cell (v := .string (sayS b).1.name) T7.out.note 1 rfl
        have f1 := obj_free T7.out.note 1
        have T8 := Aside0.mk (T7.out.setName (strOfNums l) HLN.out)
        have c2 := obj_cell (v := .int .i64 (sayS b).1.gen) T8.out.note 2 rfl
        have f2 := obj_free T8.out.note 2
        have T9 := Aside0.mk (T8.out.setGen gen)
        (refine Hd.readyE (rs := [6]) (by kernel_rfl) (by simp) ?_; refine Hd.AllE.cons (i := 6) rfl (fun K hK => ?_) Hd.AllE.nil; go_simp; refine hK.out _ _ (trivial) (fun hHeld => ?_); clear hK K; (try simp only [Act.put, List.setIfInBounds_toArray, List.set_cons_zero, List.set_cons_succ]))
        (refine Hd.takeE (i := 7) (v := ?_) rfl rfl (by kernel_rfl) (by kernel_rfl) (by kernel_rfl) (by kernel_rfl) (by first | exact fun _ _ _ h => h | exact fun _ _ _ h => HQP.out (by decide) h) (Or.inl ⟨by rfl, ?_⟩) (by assumption) ?_; rotate_left; (focus (intro wS hS; (try go_split_ands); go_simp; all_goals (with_reducible rfl))); simp only [List.set_cons_zero, List.set_cons_succ, List.setIfInBounds_toArray])
        (refine Hd.readyE (rs := [8]) (by kernel_rfl) (by simp) ?_; refine Hd.AllE.cons (i := 8) rfl (fun K hK => ?_) Hd.AllE.nil; go_simp; refine hK.out _ _ (trivial) (fun hHeld => ?_); clear hK K; (try simp only [Act.put, List.setIfInBounds_toArray, List.set_cons_zero, List.set_cons_succ]))
        (refine Hd.endE (by kernel_rfl) ?_ _)
        clear c1 c2 f1 f2
        go_wp2_with fail
        go_meet
        exact ⟨_, ⟨by rw [HE.out]; exact T9.out⟩⟩
    · have HE : Aside0 (s1 b = sayS b) := ⟨by unfold s1; rw [HSO.out, if_neg hf]⟩
      rw [show hasF say = false by simpa using hf]
      go_wp2_with fail
      go_meet
      exact ⟨_, ⟨by rw [HE.out]; exact T4.out⟩⟩
  case rest =>
  obtain ⟨a5, T5⟩ := hcut
  clear x0 x1 x2 x3 x4 hWs T4 T3 T2 T1 T0 HNY
  obtain ⟨x0, x1, x2, x3, x4⟩ := T5.out.x
  go_upto_if 38 with fail
  go_cut [] (fun wx => ∃ a, Aside0 (Tn w wx (w.heap.size + 1) an A c b (Lx w3.heap.size w.heap.size say) (s2 b).1 a (s2 b).2))
  case first =>
    by_cases hf : hasI say = true
    · have HE : Aside0 (s2 b = ({ (s1 b).1 with i := (numR b (s1 b).2).1 }, (numR b (s1 b).2).2)) := ⟨by unfold s2; rw [HSO.out, if_pos hf]; rfl⟩
      rw [hf]
      clear hf
      go_wp2_with fail
      refine (T5.out.num HG.out).mono ?_
      rintro e w9 ⟨rfl, ht9, _⟩
      clear x0 x1 x2 x3 x4
      have c3 := obj_cell (v := .int .i64 (s1 b).1.i) ht9.note 3 rfl
      have f3 := obj_free ht9.note 3
      have T9 := Aside0.mk (ht9.setI (numR b (s1 b).2).1)
      clear ht9
      generalize numR b (s1 b).2 = NR at *
      obtain ⟨iv, r3⟩ := NR
      dsimp only at *
      go_wp2_with fail
      go_meet
      exact ⟨_, ⟨by rw [HE.out]; exact T9.out⟩⟩
    · have HE : Aside0 (s2 b = s1 b) := ⟨by unfold s2; rw [HSO.out, if_neg hf]⟩
      rw [show hasI say = false by simpa using hf]
      go_wp2_with fail
      go_meet
      exact ⟨_, ⟨by rw [HE.out]; exact T5.out⟩⟩
  case rest =>
  obtain ⟨a6, T6⟩ := hcut
  clear x0 x1 x2 x3 x4 T5
  obtain ⟨x0, x1, x2, x3, x4⟩ := T6.out.x
  go_upto_if 43 with fail
  go_cut [7] (fun s7 wx => ∃ a, Aside0 (Tn w wx (w.heap.size + 1) an A c b (Lx w3.heap.size w.heap.size say) (s3 b).1 a (s3 b).2))
  case first =>
    by_cases hf : hasH say = true
    · have HE : Aside0 (s3 b = listS (heldS b) b 64 (s2 b)) := ⟨by unfold s3; rw [HSO.out, if_pos hf]⟩
      rw [hf]
      clear hf
      go_wp2_with fail
      have HM := Aside0.mk (manyR_in HG.out.hb (s2 b).2 64 (by decide))
      have HLL : Aside0 (listS (heldS b) b 64 (s2 b) = loopS (heldS b) (manyR b (s2 b).2 64).1.toNat ((s2 b).1, (manyR b (s2 b).2 64).2)) := ⟨rfl⟩
      refine (T6.out.many HG.out 64).mono ?_
      rintro e w9 ⟨rfl, ht9⟩
      have T9 := Aside0.mk ht9
      clear ht9 x0 x1 x2 x3 x4
      generalize manyR b (s2 b).2 64 = MR at *
      obtain ⟨mk, r3⟩ := MR
      dsimp only at *
      obtain ⟨K, rfl⟩ := Int.eq_ofNat_of_zero_le HM.out.1
      go_wp2_with fail
      go_loopg [7] (K + 1) (fun gk v7 wr => ∃ (j : Nat) (t : Nt × Rs) (a : Ads), v7 = .int .i64 j ∧ Aside0 (gk = j + 1) ∧ Aside0 (loopS (heldS b) j t = s3 b) ∧ Aside0 (Tn w wr (w.heap.size + 1) an A c b (Lx w3.heap.size w.heap.size say) t.1 a t.2) ∧ Aside0 (t.1.held.length + j ≤ 64))
      case atStart => exact ⟨K, ((s2 b).1, r3), _, rfl, ⟨rfl⟩, ⟨by rw [HE.out, HLL.out, Int.toNat_natCast]⟩, T9, ⟨by rw [(s2_held b).1]; have := HM.out.2; simp only [List.length_nil]; omega⟩⟩
      case round =>
        obtain ⟨j0, t, a, rfl, HK, HLP, T, HLE⟩ := hrel
        obtain ⟨q0, q1, q2, q3⟩ := T.out.rcells
        cases j0 with
        | zero =>
          have d1 : decide ((0 : Int) < ((0 : Nat) : Int)) = false := by decide
          go_wp2_with fail
          go_meet
          exact ⟨a, ⟨by rw [← HLP.out]; exact T.out⟩⟩
        | succ j =>
          have d1 : decide ((0 : Int) < ((j + 1 : Nat) : Int)) = true := by simp only [decide_eq_true_eq]; omega
          have hwj : IntKind.i64.wrap (j : Int) = (j : Int) := IntWalk.i64_in _ (by have := HLE.out; omega)
          by_cases he : t.2.e = 0
          · rw [he] at q2
            have HLP2 : Aside0 (loopS (heldS b) j (heldS b t) = s3 b) := ⟨by have := HLP.out; unfold loopS at this; rwa [if_pos he] at this⟩
            have HST : Aside0 (heldS b t = ({ t.1 with held := t.1.held ++ [⟨strOfNums (textR b t.2 32).1, (numR b (textR b t.2 32).2).1⟩] }, (numR b (textR b t.2 32).2).2)) := ⟨rfl⟩
            have HLN : Aside0 ((strOfNums (textR b t.2 32).1).size ≤ 9223372036854775807) := ⟨by rw [strOf_size]; have := textR_len HG.out.hb t.2 32; simp only [Int.cast_ofNat_Int] at this; omega⟩
            clear he
            go_wp2_with fail
            clear q0 q1 q2 q3 d1
            have T5 := Aside0.mk T.out.drew
            (refine Hd.startE (S := (fun X => X.cell? ⟨an, 4, none⟩ = some (.slice a.ah t.1.held.length a.ch))) 11 (by kernel_rfl) (obj_cell T5.out.note 4 rfl) (fun hHeld => ?_))
            generalize wr.drew = W5 at *
            have hT := T5.out.text HG.out 32
            have HNW := Aside0.mk (numR_wf HG.out.hb (textR b t.2 32).2)
            generalize textR b t.2 32 = TR at *
            obtain ⟨l, r2⟩ := TR
            dsimp only at *
            have HT := Aside0.mk hT
            clear hT
            (refine Hd.takeE (i := 0) (v := ?_) rfl rfl (by kernel_rfl) (by kernel_rfl) (by kernel_rfl) (by kernel_rfl) (by first | exact fun _ _ _ h => h | exact fun _ _ _ h => HQP.out (by decide) h) (Or.inl ⟨by rfl, ?_⟩) (by assumption) ?_; rotate_left; (focus (intro wS hS; (try go_split_ands); go_simp; all_goals (with_reducible rfl))); simp only [List.set_cons_zero, List.set_cons_succ, List.setIfInBounds_toArray]); (refine Hd.takeE (i := 1) (v := ?_) rfl rfl (by kernel_rfl) (by kernel_rfl) (by kernel_rfl) (by kernel_rfl) (by first | exact fun _ _ _ h => h | exact fun _ _ _ h => HQP.out (by decide) h) (Or.inl ⟨by rfl, ?_⟩) (by assumption) ?_; rotate_left; (focus (intro wS hS; (try go_split_ands); go_simp; all_goals (with_reducible rfl))); simp only [List.set_cons_zero, List.set_cons_succ, List.setIfInBounds_toArray]); (refine Hd.takeE (i := 2) (v := ?_) rfl rfl (by kernel_rfl) (by kernel_rfl) (by kernel_rfl) (by kernel_rfl) (by first | exact fun _ _ _ h => h | exact fun _ _ _ h => HQP.out (by decide) h) (Or.inl ⟨by rfl, ?_⟩) (by assumption) ?_; rotate_left; (focus (intro wS hS; (try go_split_ands); go_simp; all_goals (with_reducible rfl))); simp only [List.set_cons_zero, List.set_cons_succ, List.setIfInBounds_toArray]); (refine Hd.takeE (i := 5) (v := ?_) rfl rfl (by kernel_rfl) (by kernel_rfl) (by kernel_rfl) (by kernel_rfl) (by first | exact fun _ _ _ h => h | exact fun _ _ _ h => HQP.out (by decide) h) (Or.inl ⟨by rfl, ?_⟩) (by assumption) ?_; rotate_left; (focus (intro wS hS; (try go_split_ands); go_simp; all_goals (with_reducible rfl))); simp only [List.set_cons_zero, List.set_cons_succ, List.setIfInBounds_toArray])
            (refine Hd.readyE (rs := [3]) (by kernel_rfl) (by simp) ?_; refine Hd.AllE.cons (i := 3) rfl (fun K hK => ?_) Hd.AllE.nil; (go_simp; (with_reducible refine HT.out.mono ?_); rintro e w6 ⟨v6, rfl, ht6, hr6⟩); refine hK.out _ _ (obj_cell ht6.note 4 rfl) (fun hHeld => ?_); clear hK K; (try simp only [Act.put, List.setIfInBounds_toArray, List.set_cons_zero, List.set_cons_succ]))
            have T6 := Aside0.mk ht6
            have HR6 := Aside0.mk hr6
            clear ht6 hr6
            have hN := T6.out.num HG.out
            generalize numR b r2 = NR at *
            obtain ⟨gen, r3⟩ := NR
            dsimp only at *
            have HN := Aside0.mk hN
            clear hN
            have HOK : Aside0 (Hl.Ok ⟨strOfNums l, gen⟩) := ⟨⟨HLN.out, HNW.out⟩⟩
            (refine Hd.readyE (rs := [4, 6]) (by kernel_rfl) (by simp) ?_; refine Hd.AllE.cons (i := 4) rfl (fun K hK => ?_) (Hd.AllE.cons (i := 6) rfl (fun K hK => ?_) (Hd.AllE.nil)))
            · ((refine Hd.step_of_list rfl ?_; refine Hd.step_run rfl (exec_str rfl (by first | rfl | simp [Act.eval]) HR6.out) ?_; refine wpList_nil ?_); refine hK.out _ _ (obj_cell T6.out.note 4 rfl) (fun hHeld => ?_); clear hK K; (try simp only [Act.put, List.setIfInBounds_toArray, List.set_cons_zero, List.set_cons_succ]))
              (refine Hd.readyE (rs := [6]) (by kernel_rfl) (by simp) ?_; refine Hd.AllE.cons (i := 6) rfl (fun K hK => ?_) Hd.AllE.nil; (go_simp; (with_reducible refine HN.out.mono ?_); rintro e w7 ⟨rfl, ht7, hg7⟩); refine hK.out _ _ (obj_cell ht7.note 4 rfl) (fun hHeld => ?_); clear hK K; (try simp only [Act.put, List.setIfInBounds_toArray, List.set_cons_zero, List.set_cons_succ]))
              have T7 := Aside0.mk ht7
              clear ht7 hg7
              (refine Hd.takeE (i := 7) (v := ?_) rfl rfl (by kernel_rfl) (by kernel_rfl) (by kernel_rfl) (by kernel_rfl) (by first | exact fun _ _ _ h => h | exact fun _ _ _ h => HQP.out (by decide) h) (Or.inl ⟨by rfl, ?_⟩) (by assumption) ?_; rotate_left; (focus (intro wS hS; (try go_split_ands); go_simp; all_goals (with_reducible rfl))); simp only [List.set_cons_zero, List.set_cons_succ, List.setIfInBounds_toArray])
              (refine Hd.readyE (rs := [8]) (by kernel_rfl) (by simp) ?_; refine Hd.AllE.cons (i := 8) rfl (fun K hK => ?_) Hd.AllE.nil; go_simp; refine hK.out _ _ (obj_cell (T7.out.alloc _).note 4 rfl) (fun hHeld => ?_); clear hK K; (try simp only [Act.put, List.setIfInBounds_toArray, List.set_cons_zero, List.set_cons_succ]))
              (refine Hd.readyE (rs := [9]) (by kernel_rfl) (by simp) ?_; refine Hd.AllE.cons (i := 9) rfl (fun K hK => ?_) Hd.AllE.nil; (refine Hd.step_of_list rfl ?_; refine app1 dHl flat_hl w.heap.size (w0 := w) (.tmp 58) (.tmp 65) 23 46 _ 24 rfl rfl Try.underlying23 infoHl rfl (by decide) (by decide) _ t.1.held ⟨strOfNums l, gen⟩ [.string (strOfNums l), .int .i64 gen] rfl rfl ⟨HOK.out, rfl⟩ T7.out.r.h T7.out.ts.b T7.out.ts.b.size (by have := HLE.out; omega) ?_; intro v9 w9 ho9 hb9 hg9 hat9; refine wpList_nil ?_); refine hK.out _ _ (obj_cell (T7.out.noteH hg9) 4 rfl) (fun hHeld => ?_); clear hK K; (try simp only [Act.put, List.setIfInBounds_toArray, List.set_cons_zero, List.set_cons_succ]))
              obtain ⟨A9, c9, rfl⟩ := Kd.R_slice ho9
              have t9 := T7.out.pushH ho9 hg9
              rw [List.length_append] at t9
              have T9 := Aside0.mk t9
              clear t9
              have c4 := obj_cell (v := .slice a.ah t.1.held.length a.ch) (T7.out.noteH hg9) 4 rfl
              have f4 := obj_free (T7.out.noteH hg9) 4
              (refine Hd.takeE (i := 10) (v := ?_) rfl rfl (by kernel_rfl) (by kernel_rfl) (by kernel_rfl) (by kernel_rfl) (by first | exact fun _ _ _ h => h | exact fun _ _ _ h => HQP.out (by decide) h) (Or.inl ⟨by rfl, ?_⟩) (by assumption) ?_; rotate_left; (focus (intro wS hS; (try go_split_ands); go_simp; all_goals (with_reducible rfl))); simp only [List.set_cons_zero, List.set_cons_succ, List.setIfInBounds_toArray])
              clear ho9 hb9 hg9 hat9 hHeld
              (refine Hd.readyE (rs := [11]) (by kernel_rfl) (by simp) ?_; refine Hd.AllE.last (i := 11) rfl (fun K hK => ?_); go_simp; refine hK.out _ _ ?_; clear hK K; (try simp only [Act.put, List.setIfInBounds_toArray, List.set_cons_zero, List.set_cons_succ]))
              (refine Hd.endE (by kernel_rfl) ?_ _)
              clear c4 f4
              go_wp2_with fail
              go_roundg (j + 1)
              case measure => have := HK.out; omega
              case rel => exact ⟨j, ({ t.1 with held := t.1.held ++ [⟨strOfNums l, gen⟩] }, r3), _, by first | go_num | simp [hwj] | (rw [hwj]) | (simp only [Int.natCast_add, Int.natCast_one, Int.add_sub_cancel, hwj]), ⟨rfl⟩, ⟨by rw [← HST.out]; exact HLP2.out⟩, T9, ⟨by have := HLE.out; simp only [List.length_append, List.length_cons, List.length_nil]; omega⟩⟩
            · ((go_simp; (with_reducible refine HN.out.mono ?_); rintro e w7 ⟨rfl, ht7, hg7⟩); refine hK.out _ _ (obj_cell ht7.note 4 rfl) (fun hHeld => ?_); clear hK K; (try simp only [Act.put, List.setIfInBounds_toArray, List.set_cons_zero, List.set_cons_succ]))
              have T7 := Aside0.mk ht7
              have HR7 := Aside0.mk (R_other (flat_int .u8) HR6.out (fun k hk => by injection hk with hk; subst hk; exact ⟨_, _, T6.out.ts.rd.blk, by decide⟩) hg7)
              clear ht7 hg7
              (refine Hd.readyE (rs := [4]) (by kernel_rfl) (by simp) ?_; refine Hd.AllE.cons (i := 4) rfl (fun K hK => ?_) Hd.AllE.nil; (refine Hd.step_of_list rfl ?_; refine Hd.step_run rfl (exec_str rfl (by first | rfl | simp [Act.eval]) HR7.out) ?_; refine wpList_nil ?_); refine hK.out _ _ (obj_cell T7.out.note 4 rfl) (fun hHeld => ?_); clear hK K; (try simp only [Act.put, List.setIfInBounds_toArray, List.set_cons_zero, List.set_cons_succ]))
              (refine Hd.takeE (i := 7) (v := ?_) rfl rfl (by kernel_rfl) (by kernel_rfl) (by kernel_rfl) (by kernel_rfl) (by first | exact fun _ _ _ h => h | exact fun _ _ _ h => HQP.out (by decide) h) (Or.inl ⟨by rfl, ?_⟩) (by assumption) ?_; rotate_left; (focus (intro wS hS; (try go_split_ands); go_simp; all_goals (with_reducible rfl))); simp only [List.set_cons_zero, List.set_cons_succ, List.setIfInBounds_toArray])
              (refine Hd.readyE (rs := [8]) (by kernel_rfl) (by simp) ?_; refine Hd.AllE.cons (i := 8) rfl (fun K hK => ?_) Hd.AllE.nil; go_simp; refine hK.out _ _ (obj_cell (T7.out.alloc _).note 4 rfl) (fun hHeld => ?_); clear hK K; (try simp only [Act.put, List.setIfInBounds_toArray, List.set_cons_zero, List.set_cons_succ]))
              (refine Hd.readyE (rs := [9]) (by kernel_rfl) (by simp) ?_; refine Hd.AllE.cons (i := 9) rfl (fun K hK => ?_) Hd.AllE.nil; (refine Hd.step_of_list rfl ?_; refine app1 dHl flat_hl w.heap.size (w0 := w) (.tmp 58) (.tmp 65) 23 46 _ 24 rfl rfl Try.underlying23 infoHl rfl (by decide) (by decide) _ t.1.held ⟨strOfNums l, gen⟩ [.string (strOfNums l), .int .i64 gen] rfl rfl ⟨HOK.out, rfl⟩ T7.out.r.h T7.out.ts.b T7.out.ts.b.size (by have := HLE.out; omega) ?_; intro v9 w9 ho9 hb9 hg9 hat9; refine wpList_nil ?_); refine hK.out _ _ (obj_cell (T7.out.noteH hg9) 4 rfl) (fun hHeld => ?_); clear hK K; (try simp only [Act.put, List.setIfInBounds_toArray, List.set_cons_zero, List.set_cons_succ]))
              obtain ⟨A9, c9, rfl⟩ := Kd.R_slice ho9
              have t9 := T7.out.pushH ho9 hg9
              rw [List.length_append] at t9
              have T9 := Aside0.mk t9
              clear t9
              have c4 := obj_cell (v := .slice a.ah t.1.held.length a.ch) (T7.out.noteH hg9) 4 rfl
              have f4 := obj_free (T7.out.noteH hg9) 4
              (refine Hd.takeE (i := 10) (v := ?_) rfl rfl (by kernel_rfl) (by kernel_rfl) (by kernel_rfl) (by kernel_rfl) (by first | exact fun _ _ _ h => h | exact fun _ _ _ h => HQP.out (by decide) h) (Or.inl ⟨by rfl, ?_⟩) (by assumption) ?_; rotate_left; (focus (intro wS hS; (try go_split_ands); go_simp; all_goals (with_reducible rfl))); simp only [List.set_cons_zero, List.set_cons_succ, List.setIfInBounds_toArray])
              clear ho9 hb9 hg9 hat9 hHeld
              (refine Hd.readyE (rs := [11]) (by kernel_rfl) (by simp) ?_; refine Hd.AllE.last (i := 11) rfl (fun K hK => ?_); go_simp; refine hK.out _ _ ?_; clear hK K; (try simp only [Act.put, List.setIfInBounds_toArray, List.set_cons_zero, List.set_cons_succ]))
              (refine Hd.endE (by kernel_rfl) ?_ _)
              clear c4 f4
              go_wp2_with fail
              go_roundg (j + 1)
              case measure => have := HK.out; omega
              case rel => exact ⟨j, ({ t.1 with held := t.1.held ++ [⟨strOfNums l, gen⟩] }, r3), _, by first | go_num | simp [hwj] | (rw [hwj]) | (simp only [Int.natCast_add, Int.natCast_one, Int.add_sub_cancel, hwj]), ⟨rfl⟩, ⟨by rw [← HST.out]; exact HLP2.out⟩, T9, ⟨by have := HLE.out; simp only [List.length_append, List.length_cons, List.length_nil]; omega⟩⟩
          · have h1 : (t.2.e == 0) = false := by simpa using he
            have HLP2 : Aside0 (t = s3 b) := ⟨by have := HLP.out; unfold loopS at this; rwa [if_neg he] at this⟩
            clear he
            generalize t.2.e = te at *
            go_wp2_with fail
            go_meet
            exact ⟨a, ⟨by rw [← HLP2.out]; exact T.out⟩⟩
    · have HE : Aside0 (s3 b = s2 b) := ⟨by unfold s3; rw [HSO.out, if_neg hf]⟩
      rw [show hasH say = false by simpa using hf]
      go_wp2_with fail
      go_meet
      exact ⟨_, ⟨by rw [HE.out]; exact T6.out⟩⟩
  case rest =>
  obtain ⟨a7, T7⟩ := hcut
  clear x0 x1 x2 x3 x4 T6
  obtain ⟨x0, x1, x2, x3, x4⟩ := T7.out.x
  go_upto_if 69 with fail
  go_cut [8] (fun s8 wx => ∃ a, Aside0 (Tn w wx (w.heap.size + 1) an A c b (Lx w3.heap.size w.heap.size say) (s4 b).1 a (s4 b).2))
  case first =>
    by_cases hf : hasP say = true
    · have HE : Aside0 (s4 b = listS (partS b) b 256 (s3 b)) := ⟨by unfold s4; rw [HSO.out, if_pos hf]⟩
      rw [hf]
      clear hf
      go_wp2_with fail
      have HM := Aside0.mk (manyR_in HG.out.hb (s3 b).2 256 (by decide))
      have HLL : Aside0 (listS (partS b) b 256 (s3 b) = loopS (partS b) (manyR b (s3 b).2 256).1.toNat ((s3 b).1, (manyR b (s3 b).2 256).2)) := ⟨rfl⟩
      refine (T7.out.many HG.out 256).mono ?_
      rintro e w9 ⟨rfl, ht9⟩
      have T9 := Aside0.mk ht9
      clear ht9 x0 x1 x2 x3 x4
      generalize manyR b (s3 b).2 256 = MR at *
      obtain ⟨mk, r3⟩ := MR
      dsimp only at *
      obtain ⟨K, rfl⟩ := Int.eq_ofNat_of_zero_le HM.out.1
      go_wp2_with fail
      go_loopg [8] (K + 1) (fun gk v8 wr => ∃ (j : Nat) (t : Nt × Rs) (a : Ads), v8 = .int .i64 j ∧ Aside0 (gk = j + 1) ∧ Aside0 (loopS (partS b) j t = s4 b) ∧ Aside0 (Tn w wr (w.heap.size + 1) an A c b (Lx w3.heap.size w.heap.size say) t.1 a t.2) ∧ Aside0 (t.1.parts.length + j ≤ 256))
      case atStart => exact ⟨K, ((s3 b).1, r3), _, rfl, ⟨rfl⟩, ⟨by rw [HE.out, HLL.out, Int.toNat_natCast]⟩, T9, ⟨by rw [s3_parts b]; have := HM.out.2; simp only [List.length_nil]; omega⟩⟩
      case round =>
        obtain ⟨j0, t, a, rfl, HK, HLP, T, HLE⟩ := hrel
        obtain ⟨q0, q1, q2, q3⟩ := T.out.rcells
        cases j0 with
        | zero =>
          have d1 : decide ((0 : Int) < ((0 : Nat) : Int)) = false := by decide
          go_wp2_with fail
          go_meet
          exact ⟨a, ⟨by rw [← HLP.out]; exact T.out⟩⟩
        | succ j =>
          have d1 : decide ((0 : Int) < ((j + 1 : Nat) : Int)) = true := by simp only [decide_eq_true_eq]; omega
          have hwj : IntKind.i64.wrap (j : Int) = (j : Int) := IntWalk.i64_in _ (by have := HLE.out; omega)
          by_cases he : t.2.e = 0
          · rw [he] at q2
            have HLP2 : Aside0 (loopS (partS b) j (partS b t) = s4 b) := ⟨by have := HLP.out; unfold loopS at this; rwa [if_pos he] at this⟩
            have HST : Aside0 (partS b t = ({ t.1 with parts := t.1.parts ++ [(partR b t.2).1] }, (partR b t.2).2)) := ⟨rfl⟩
            have HOK := Aside0.mk (partR_ok HG.out.hb T.out.i)
            have HPT := Aside0.mk (T.out.drew.part HG.out he)
            clear he
            go_wp2_with fail
            clear q0 q1 q2 q3 d1
            have T5 := Aside0.mk T.out.drew
            (refine Hd.startE (S := (fun X => X.cell? ⟨an, 5, none⟩ = some (.slice a.ap t.1.parts.length a.cp))) 7 (by kernel_rfl) (obj_cell T5.out.note 5 rfl) (fun hHeld => ?_))
            generalize wr.drew = W5 at *
            generalize partR b t.2 = PR at *
            obtain ⟨p, r2⟩ := PR
            dsimp only at *
            have HCL := Aside0.mk (Pt.cells_len HOK.out)
            (refine Hd.takeE (i := 0) (v := ?_) rfl rfl (by kernel_rfl) (by kernel_rfl) (by kernel_rfl) (by kernel_rfl) (by first | exact fun _ _ _ h => h | exact fun _ _ _ h => HQP.out (by decide) h) (Or.inl ⟨by rfl, ?_⟩) (by assumption) ?_; rotate_left; (focus (intro wS hS; (try go_split_ands); go_simp; all_goals (with_reducible rfl))); simp only [List.set_cons_zero, List.set_cons_succ, List.setIfInBounds_toArray]); (refine Hd.takeE (i := 1) (v := ?_) rfl rfl (by kernel_rfl) (by kernel_rfl) (by kernel_rfl) (by kernel_rfl) (by first | exact fun _ _ _ h => h | exact fun _ _ _ h => HQP.out (by decide) h) (Or.inl ⟨by rfl, ?_⟩) (by assumption) ?_; rotate_left; (focus (intro wS hS; (try go_split_ands); go_simp; all_goals (with_reducible rfl))); simp only [List.set_cons_zero, List.set_cons_succ, List.setIfInBounds_toArray]); (refine Hd.takeE (i := 2) (v := ?_) rfl rfl (by kernel_rfl) (by kernel_rfl) (by kernel_rfl) (by kernel_rfl) (by first | exact fun _ _ _ h => h | exact fun _ _ _ h => HQP.out (by decide) h) (Or.inl ⟨by rfl, ?_⟩) (by assumption) ?_; rotate_left; (focus (intro wS hS; (try go_split_ands); go_simp; all_goals (with_reducible rfl))); simp only [List.set_cons_zero, List.set_cons_succ, List.setIfInBounds_toArray])
            (refine Hd.readyE (rs := [3]) (by kernel_rfl) (by simp) ?_; refine Hd.AllE.cons (i := 3) rfl (fun K hK => ?_) Hd.AllE.nil; (go_simp; (with_reducible refine HPT.out.mono ?_); rintro e w6 ⟨rfl, ht6⟩); refine hK.out _ _ (obj_cell ht6.note 5 rfl) (fun hHeld => ?_); clear hK K; (try simp only [Act.put, List.setIfInBounds_toArray, List.set_cons_zero, List.set_cons_succ]))
            have T6 := Aside0.mk ht6
            clear ht6
            (refine Hd.readyE (rs := [4]) (by kernel_rfl) (by simp) ?_; refine Hd.AllE.cons (i := 4) rfl (fun K hK => ?_) Hd.AllE.nil; (refine Hd.step_of_list rfl ?_; refine Lit.wpList_lit1 rfl _ 51 (.tmp 86) rfl p.cells rfl Try.underlying24 infoPt HCL.out (by decide) (by decide) ?_; refine wpList_nil ?_); refine hK.out _ _ (obj_cell (T6.out.alloc _).note 5 rfl) (fun hHeld => ?_); clear hK K; (try simp only [Act.put, List.setIfInBounds_toArray, List.set_cons_zero, List.set_cons_succ]))
            (refine Hd.readyE (rs := [5]) (by kernel_rfl) (by simp) ?_; refine Hd.AllE.cons (i := 5) rfl (fun K hK => ?_) Hd.AllE.nil; (refine Hd.step_of_list rfl ?_; refine app1 dPt flat_pt w.heap.size (w0 := w) (.tmp 84) (.tmp 87) 24 51 _ 40 rfl rfl Try.underlying24 infoPt rfl (by decide) (by decide) _ t.1.parts p p.cells rfl rfl ⟨HOK.out, rfl⟩ T6.out.r.p T6.out.ts.b T6.out.ts.b.size (by have := HLE.out; omega) ?_; intro v9 w9 ho9 hb9 hg9 hat9; refine wpList_nil ?_); refine hK.out _ _ (obj_cell (T6.out.noteP hg9) 5 rfl) (fun hHeld => ?_); clear hK K; (try simp only [Act.put, List.setIfInBounds_toArray, List.set_cons_zero, List.set_cons_succ]))
            obtain ⟨A9, c9, rfl⟩ := Kd.R_slice ho9
            have t9 := T6.out.pushP ho9 hg9
            rw [List.length_append] at t9
            have T9 := Aside0.mk t9
            clear t9
            have c4 := obj_cell (v := .slice a.ap t.1.parts.length a.cp) (T6.out.noteP hg9) 5 rfl
            have f4 := obj_free (T6.out.noteP hg9) 5
            (refine Hd.takeE (i := 6) (v := ?_) rfl rfl (by kernel_rfl) (by kernel_rfl) (by kernel_rfl) (by kernel_rfl) (by first | exact fun _ _ _ h => h | exact fun _ _ _ h => HQP.out (by decide) h) (Or.inl ⟨by rfl, ?_⟩) (by assumption) ?_; rotate_left; (focus (intro wS hS; (try go_split_ands); go_simp; all_goals (with_reducible rfl))); (try simp only [List.set_cons_zero, List.set_cons_succ, List.setIfInBounds_toArray]))
            clear ho9 hb9 hg9 hat9 hHeld
            (refine Hd.readyE (rs := [7]) (by kernel_rfl) (by simp) ?_; refine Hd.AllE.last (i := 7) rfl (fun K hK => ?_); go_simp; refine hK.out _ _ ?_; clear hK K; (try simp only [Act.put, List.setIfInBounds_toArray, List.set_cons_zero, List.set_cons_succ]))
            (refine Hd.endE (by kernel_rfl) ?_ _)
            clear c4 f4
            go_wp2_with fail
            go_roundg (j + 1)
            case measure => have := HK.out; omega
            case rel => exact ⟨j, ({ t.1 with parts := t.1.parts ++ [p] }, r2), _, by first | go_num | simp [hwj] | (rw [hwj]) | (simp only [Int.natCast_add, Int.natCast_one, Int.add_sub_cancel, hwj]), ⟨rfl⟩, ⟨by rw [← HST.out]; exact HLP2.out⟩, T9, ⟨by have := HLE.out; simp only [List.length_append, List.length_cons, List.length_nil]; omega⟩⟩
          · have h1 : (t.2.e == 0) = false := by simpa using he
            have HLP2 : Aside0 (t = s4 b) := ⟨by have := HLP.out; unfold loopS at this; rwa [if_neg he] at this⟩
            clear he
            generalize t.2.e = te at *
            go_wp2_with fail
            go_meet
            exact ⟨a, ⟨by rw [← HLP2.out]; exact T.out⟩⟩
    · have HE : Aside0 (s4 b = s3 b) := ⟨by unfold s4; rw [HSO.out, if_neg hf]⟩
      rw [show hasP say = false by simpa using hf]
      go_wp2_with fail
      go_meet
      exact ⟨_, ⟨by rw [HE.out]; exact T7.out⟩⟩
  case rest =>
  obtain ⟨a8, T8⟩ := hcut
  clear x0 x1 x2 x3 x4 T7
  obtain ⟨x0, x1, x2, x3, x4⟩ := T8.out.x
  go_upto_if 91 with fail
  go_cut [] (fun wx => ∃ a, Aside0 (Tn w wx (w.heap.size + 1) an A c b (Lx w3.heap.size w.heap.size say) (s5 b).1 a (s5 b).2))
  case first =>
    by_cases hf : hasB say = true
    · have HE : Aside0 (s5 b = ({ (s4 b).1 with bytes := (textR b (s4 b).2 512).1 }, (textR b (s4 b).2 512).2)) := ⟨by unfold s5; rw [HSO.out, if_pos hf]; rfl⟩
      rw [hf]
      clear hf
      go_wp2_with fail
      have HBY := Aside0.mk (textR_bytes HG.out.hb (s4 b).2 512)
      refine (T8.out.text HG.out 512).mono ?_
      generalize textR b (s4 b).2 512 = TR at *
      obtain ⟨l, r2⟩ := TR
      dsimp only at *
      rintro e w9 ⟨v9, rfl, ht9, hr9⟩
      obtain ⟨A9, c9, rfl⟩ := Kd.R_slice hr9
      clear x0 x1 x2 x3 x4
      have c3 := obj_cell (v := .slice a8.ab (s4 b).1.bytes.length a8.cb) ht9.note 6 rfl
      have f3 := obj_free ht9.note 6
      have T9 := Aside0.mk (ht9.setB (Kd.R_lower hr9 T8.out.ts.b.size) HBY.out)
      clear ht9 hr9
      go_wp2_with fail
      go_meet
      exact ⟨_, ⟨by rw [HE.out]; exact T9.out⟩⟩
    · have HE : Aside0 (s5 b = s4 b) := ⟨by unfold s5; rw [HSO.out, if_neg hf]⟩
      rw [show hasB say = false by simpa using hf]
      go_wp2_with fail
      go_meet
      exact ⟨_, ⟨by rw [HE.out]; exact T8.out⟩⟩
  case rest =>
  obtain ⟨a9, T9⟩ := hcut
  clear x0 x1 x2 x3 x4 T8
  have HTF : Aside0 (takeF b = if (endS b (s5 b)).e = 0 then ((s5 b).1, 0) else (nZ, (endS b (s5 b)).e)) := ⟨rfl⟩
  have HEN : Aside0 (endS b (s5 b) = mustR ⟨(s5 b).2.at_, if (s5 b).2.e = 0 then checkF (s5 b).1 else (s5 b).2.e⟩ (decide ((s5 b).2.at_ = b.length)) 4) := ⟨rfl⟩
  generalize endS b (s5 b) = ES at *
  generalize s5 b = t at *
  obtain ⟨n, s⟩ := t
  dsimp only at *
  obtain ⟨q0, q1, q2, q3⟩ := T9.out.rcells
  go_upto_if 99 with fail
  go_cut [] (fun wx => Aside0 (Tn w wx (w.heap.size + 1) an A c b (Lx w3.heap.size w.heap.size say) n a9 ⟨s.at_, if s.e = 0 then checkF n else s.e⟩))
  case first =>
    by_cases he : s.e = 0
    · have h1 : (s.e == 0) = true := by simpa using he
      have HE0 := Aside0.mk he
      clear he
      have HCK := Aside0.mk (check_calls n a9 wc T9.out.r.C)
      simp only [noteV] at HCK
      obtain ⟨c0, c1, c2, c3, c4, c5, c6⟩ := note_cells T9.out.note
      go_wp2_with fail
      refine HCK.out.mono ?_
      rintro e w10 ⟨rfl, hb10⟩
      have T10 := Aside0.mk (T9.out.below hb10)
      clear hb10 c0 c1 c2 c3 c4 c5 c6 q0 q1 q2 q3
      obtain ⟨q0, q1, q2, q3⟩ := T10.out.rcells
      have T11 := Aside0.mk (T10.out.setE (checkF n))
      generalize checkF n = ck at *
      go_wp2_with fail
      go_meet
      exact ⟨by rw [if_pos HE0.out]; exact T11.out⟩
    · have h1 : (s.e == 0) = false := by simpa using he
      have HE0 := Aside0.mk he
      clear he
      go_wp2_with fail
      go_meet
      exact ⟨by rw [if_neg HE0.out]; exact T9.out⟩
  case rest =>
  have T10 := hcut
  clear hcut q0 q1 q2 q3
  generalize (if s.e = 0 then checkF n else s.e) = e1 at *
  obtain ⟨q0, q1, q2, q3⟩ := T10.out.rcells
  go_wp2_with fail
  refine (T10.out.must _ 4).mono ?_
  rintro e w11 ⟨rfl, ht11⟩
  have T11 := Aside0.mk ht11
  clear ht11 q0 q1 q2 q3
  have HES : Aside0 (mustR ⟨s.at_, e1⟩ (s.at_ == (b.length : Int)) 4 = ES) := ⟨by rw [HEN.out]; congr 1⟩
  rw [HES.out] at T11
  obtain ⟨q0, q1, q2, q3⟩ := T11.out.rcells
  have HT13 := Aside0.mk T11.out.ret
  have HB13 := Aside0.mk T11.out.ts.b
  have z0 := obj_cell (v := .int .i64 0) HT13.out 0 rfl
  have y0 := obj_free HT13.out 0
  have z1 := obj_cell (v := .string ⟨#[]⟩) HT13.out 1 rfl
  have y1 := obj_free HT13.out 1
  have z2 := obj_cell (v := .int .i64 0) HT13.out 2 rfl
  have y2 := obj_free HT13.out 2
  have z3 := obj_cell (v := .int .i64 0) HT13.out 3 rfl
  have y3 := obj_free HT13.out 3
  have z4 := obj_cell (v := .slice none 0 0) HT13.out 4 rfl
  have y4 := obj_free HT13.out 4
  have z5 := obj_cell (v := .slice none 0 0) HT13.out 5 rfl
  have y5 := obj_free HT13.out 5
  have z6 := obj_cell (v := .slice none 0 0) HT13.out 6 rfl
  have y6 := obj_free HT13.out 6
  by_cases he : ES.e = 0
  · have h1 : (ES.e != 0) = false := by simpa using he
    rw [if_pos he] at HTF
    clear he
    obtain ⟨c0, c1, c2, c3, c4, c5, c6⟩ := note_cells T11.out.note
    obtain ⟨WZ, hWZ⟩ : ∃ X, X = w11.setCells w.heap.size 0 [.int .i64 n.say, .string n.name, .int .i64 n.gen, .int .i64 n.i, .slice a9.ah n.held.length a9.ch, .slice a9.ap n.parts.length a9.cp, .slice a9.ab n.bytes.length a9.cb] := ⟨_, rfl⟩
    have HWE := Aside0.mk (show (((((((w11.setCell ⟨w.heap.size, 0, none⟩ (.int .i64 n.say)).setCell ⟨w.heap.size, 1, none⟩ (.string n.name)).setCell ⟨w.heap.size, 2, none⟩ (.int .i64 n.gen)).setCell ⟨w.heap.size, 3, none⟩ (.int .i64 n.i)).setCell ⟨w.heap.size, 4, none⟩ (.slice a9.ah n.held.length a9.ch)).setCell ⟨w.heap.size, 5, none⟩ (.slice a9.ap n.parts.length a9.cp)).setCell ⟨w.heap.size, 6, none⟩ (.slice a9.ab n.bytes.length a9.cb)) = WZ by rw [hWZ]; simp only [World.setCells, Nat.zero_add, Nat.reduceAdd])
    have HLD := Aside0.mk (show (loadVar 27 ⟨w.heap.size, 0, none⟩).run Try.prog WZ = .ok (.agg [.int .i64 n.say, .string n.name, .int .i64 n.gen, .int .i64 n.i, .slice a9.ah n.held.length a9.ch, .slice a9.ap n.parts.length a9.cp, .slice a9.ab n.bytes.length a9.cb].toArray) WZ by rw [hWZ]; exact load_sets HT13.out rfl rfl)
    have HBZ := Aside0.mk (show Below w.heap.size w WZ by rw [hWZ]; exact below_sets HB13.out (Nat.le_refl _) _)
    have HNR : Aside0 (NtR WZ w.heap.size n a9) := ⟨by rw [hWZ]; exact T11.out.r.other HT13.out (by decide) (by decide) (by decide) (grown_sets _ _ _ _)⟩
    clear hWZ
    go_wp2_with fail
    rw [HWE.out]
    rw [HTF.out]
    exact bodyPost_ret (results_ct rfl _ _ ⟨w.heap.size, 0, none⟩ _ rfl HLD.out) rfl ⟨a9, rfl, HNR.out, HBZ.out⟩
  · have h1 : (ES.e != 0) = true := by simpa using he
    rw [if_neg he] at HTF
    clear he
    go_wp2_with fail
    clear z0 y0 z1 y1 z2 y2 z3 y3 z4 y4 z5 y5 z6 y6 q0 q1 q2 q3
    have T12 := Aside0.mk T11.out.drew
    (refine Hd.startE (S := (fun X => X.cell? ⟨w.heap.size + 1, 2, none⟩ = some (.int .i64 ES.e))) 1000 (by kernel_rfl) (T12.out.rcells.2.2.1) (fun hHeld => ?_))
    generalize w11.drew = wd at *
    have z0 := obj_cell (v := .int .i64 0) T12.out.ret 0 rfl
    have y0 := obj_free T12.out.ret 0
    have z1 := obj_cell (v := .string ⟨#[]⟩) T12.out.ret 1 rfl
    have y1 := obj_free T12.out.ret 1
    have z2 := obj_cell (v := .int .i64 0) T12.out.ret 2 rfl
    have y2 := obj_free T12.out.ret 2
    have z3 := obj_cell (v := .int .i64 0) T12.out.ret 3 rfl
    have y3 := obj_free T12.out.ret 3
    have z4 := obj_cell (v := .slice none 0 0) T12.out.ret 4 rfl
    have y4 := obj_free T12.out.ret 4
    have z5 := obj_cell (v := .slice none 0 0) T12.out.ret 5 rfl
    have y5 := obj_free T12.out.ret 5
    have z6 := obj_cell (v := .slice none 0 0) T12.out.ret 6 rfl
    have y6 := obj_free T12.out.ret 6
    obtain ⟨WZ, hWZ⟩ : ∃ X, X = wd.setCells w.heap.size 0 [.int .i64 0, .string ⟨#[]⟩, .int .i64 0, .int .i64 0, .slice none 0 0, .slice none 0 0, .slice none 0 0] := ⟨_, rfl⟩
    have HWE := Aside0.mk (show (((((((wd.setCell ⟨w.heap.size, 0, none⟩ (.int .i64 0)).setCell ⟨w.heap.size, 1, none⟩ (.string ⟨#[]⟩)).setCell ⟨w.heap.size, 2, none⟩ (.int .i64 0)).setCell ⟨w.heap.size, 3, none⟩ (.int .i64 0)).setCell ⟨w.heap.size, 4, none⟩ (.slice none 0 0)).setCell ⟨w.heap.size, 5, none⟩ (.slice none 0 0)).setCell ⟨w.heap.size, 6, none⟩ (.slice none 0 0)) = WZ by rw [hWZ]; simp only [World.setCells, Nat.zero_add, Nat.reduceAdd])
    have HLD := Aside0.mk (show (loadVar 27 ⟨w.heap.size, 0, none⟩).run Try.prog WZ = .ok (.agg [.int .i64 0, .string ⟨#[]⟩, .int .i64 0, .int .i64 0, .slice none 0 0, .slice none 0 0, .slice none 0 0].toArray) WZ by rw [hWZ]; exact load_sets T12.out.ret rfl rfl)
    have HBZ := Aside0.mk (show Below w.heap.size w WZ by rw [hWZ]; exact below_sets T12.out.ts.b (Nat.le_refl _) _)
    have HCZ := Aside0.mk (show WZ.cell? ⟨w.heap.size + 1, 2, none⟩ = some (.int .i64 ES.e) by
      refine obj_cell (v := .int .i64 ES.e) (?_ : WZ.heap[w.heap.size + 1]? = some (.cells #[.slice A b.length c, .int .i64 ES.at_, .int .i64 ES.e] 60 (0, 0))) 2 rfl
      rw [hWZ]
      exact (setCells_far _ 0 _ (by omega)).trans T12.out.ts.rd.blk)
    clear hWZ
    (refine Hd.takeE (i := 0) (v := ?_) rfl rfl (by kernel_rfl) (by kernel_rfl) (by kernel_rfl) (by kernel_rfl) (by first | exact fun _ _ _ h => h | exact fun _ _ _ h => HQP.out (by decide) h) (Or.inl ⟨by rfl, ?_⟩) (by assumption) ?_; rotate_left; (focus (intro wS hS; (try go_split_ands); go_simp; all_goals (with_reducible rfl))); simp only [List.set_cons_zero, List.set_cons_succ, List.setIfInBounds_toArray]); (refine Hd.takeE (i := 1) (v := ?_) rfl rfl (by kernel_rfl) (by kernel_rfl) (by kernel_rfl) (by kernel_rfl) (by first | exact fun _ _ _ h => h | exact fun _ _ _ h => HQP.out (by decide) h) (Or.inl ⟨by rfl, ?_⟩) (by assumption) ?_; rotate_left; (focus (intro wS hS; (try go_split_ands); go_simp; all_goals (with_reducible rfl))); simp only [List.set_cons_zero, List.set_cons_succ, List.setIfInBounds_toArray]); (refine Hd.takeE (i := 2) (v := ?_) rfl rfl (by kernel_rfl) (by kernel_rfl) (by kernel_rfl) (by kernel_rfl) (by first | exact fun _ _ _ h => h | exact fun _ _ _ h => HQP.out (by decide) h) (Or.inl ⟨by rfl, ?_⟩) (by assumption) ?_; rotate_left; (focus (intro wS hS; (try go_split_ands); go_simp; all_goals (with_reducible rfl))); simp only [List.set_cons_zero, List.set_cons_succ, List.setIfInBounds_toArray]); (refine Hd.takeE (i := 3) (v := ?_) rfl rfl (by kernel_rfl) (by kernel_rfl) (by kernel_rfl) (by kernel_rfl) (by first | exact fun _ _ _ h => h | exact fun _ _ _ h => HQP.out (by decide) h) (Or.inl ⟨by rfl, ?_⟩) (by assumption) ?_; rotate_left; (focus (intro wS hS; (try go_split_ands); go_simp; all_goals (with_reducible rfl))); simp only [List.set_cons_zero, List.set_cons_succ, List.setIfInBounds_toArray]); (refine Hd.takeE (i := 4) (v := ?_) rfl rfl (by kernel_rfl) (by kernel_rfl) (by kernel_rfl) (by kernel_rfl) (by first | exact fun _ _ _ h => h | exact fun _ _ _ h => HQP.out (by decide) h) (Or.inl ⟨by rfl, ?_⟩) (by assumption) ?_; rotate_left; (focus (intro wS hS; (try go_split_ands); go_simp; all_goals (with_reducible rfl))); simp only [List.set_cons_zero, List.set_cons_succ, List.setIfInBounds_toArray])
    (refine Hd.readyE (rs := [5]) (by kernel_rfl) (by simp) ?_; refine Hd.AllE.cons (i := 5) rfl (fun K hK => ?_) Hd.AllE.nil; go_simp; refine hK.out _ _ (by rw [HWE.out]; exact HCZ.out) (fun hHeld => ?_); clear hK K; (try simp only [Act.put, List.setIfInBounds_toArray, List.set_cons_zero, List.set_cons_succ]))
    (refine Hd.takeE (i := 6) (v := ?_) rfl rfl (by kernel_rfl) (by kernel_rfl) (by kernel_rfl) (by kernel_rfl) (by first | exact fun _ _ _ h => h | exact fun _ _ _ h => HQP.out (by decide) h) (Or.inl ⟨by rfl, ?_⟩) (by assumption) ?_; rotate_left; (focus (intro wS hS; (try go_split_ands); go_simp; all_goals (with_reducible rfl))); simp only [List.set_cons_zero, List.set_cons_succ, List.setIfInBounds_toArray])
    (refine Hd.endE (by kernel_rfl) ?_ _)
    clear z0 y0 z1 y1 z2 y2 z3 y3 z4 y4 z5 y5 z6 y6
    go_wp2_with fail
    rw [HWE.out]
    rw [HTF.out]
    exact bodyPost_ret (results_ct rfl _ _ ⟨w.heap.size, 0, none⟩ _ rfl HLD.out) rfl ⟨⟨none, 0, none, 0, none, 0⟩, rfl, slice_nil _ _, HBZ.out⟩
end Go.Proofs.Ytbncmffifbcbjaa.WiX
