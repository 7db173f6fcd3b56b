/- wire.Take at a note that asks for a file: the note; condition: the bytes are right. -/
import Derived.Test.YtbncmffifbcbjaaWiU
import Derived.Test.YtbncmffifbcbjaaWiF
import Derived.Deep.DeepCutAuto
namespace Go.Proofs.Ytbncmffifbcbjaa.WiS
open Go Go.RowKit Go.Proofs.YtbncmffifbcbjaaW.PrintWords Go.Proofs.Ytbncmffifbcbjaa.K Go.Proofs.Ytbncmffifbcbjaa.OctS Go.Proofs.Ytbncmffifbcbjaa.OctP Go.Proofs.Ytbncmffifbcbjaa.Oct Go.Proofs.Ytbncmffifbcbjaa.Nm Go.Proofs.Ytbncmffifbcbjaa.Hl Go.Proofs.Ytbncmffifbcbjaa.WiA Go.Proofs.Ytbncmffifbcbjaa.WiB Go.Proofs.Ytbncmffifbcbjaa.WiD Go.Proofs.Ytbncmffifbcbjaa.WiE Go.Proofs.Ytbncmffifbcbjaa.WiF Go.Proofs.Ytbncmffifbcbjaa.Ap Go.Proofs.Ytbncmffifbcbjaa.WiT Go.Proofs.Ytbncmffifbcbjaa.WiR Go.Proofs.Ytbncmffifbcbjaa.WiU
set_option linter.unusedVariables false
set_option linter.unusedSimpArgs false
def noteZ : Array Value := #[.int .i64 0, .string ⟨#[]⟩, .int .i64 0, .int .i64 0, .slice none 0 0, .slice none 0 0, .slice none 0 0]
theorem exec_str {o : Oper} {ev : Operand → Value} {W : World} {base : Nat} {v : Value} {l : List Int} {x : Operand} (ho : o.op = .convert 25 9 x) (hx : ev x = v) (hR : Kd.R (Kd.int .u8) 5 W base (fun _ => True) (v) (l)) :
    (execOp ev o).run Try.prog W = .ok (.value (.string (strOfNums l))) W := by
  obtain ⟨A, c, rfl⟩ := Kd.R_slice hR
  have h := conv_own (P := Try.prog) (c := c) 25 9 5 Try.underlying25 Try.underlying5 Try.underlying9 hR rfl rfl
  unfold execOp
  simp only [ho, hx, Sem.run_bind, h, Result.andThen_ok, Sem.run_pure]
set_option maxHeartbeats 1000000 in
set_option maxRecDepth 100000 in
theorem take_file (A : Option Addr) (c : Nat) (b : List Int) (w : World) (hG : Given w A c b) (s1 s2 s3 : Rs) (l : List Int) (gen : Int) (h1 : numR b ⟨0, 0⟩ = (3, s1)) (e1 : s1.e = 0) (h2 : textR b s1 32 = (l, s2)) (e2 : s2.e = 0) (h3 : numR b s2 = (gen, s3)) (e3 : s3.e = 0) (h4 : s3.at_ = b.length)
    (hl : (strOfNums l).size ≤ 9223372036854775807) (h5 : checkF ⟨3, strOfNums l, gen, 0, [], [], []⟩ = 0) : Calls Try.prog 12 #[.slice A b.length c] w fun e w' => e = .returned (.tuple #[.agg (noteV ⟨3, strOfNums l, gen, 0, [], [], []⟩ ⟨none, 0, none, 0, none, 0⟩), .int .i64 0]) ∧ Below w.heap.size w w' := by
  have hlt : (strOfNums l).size ≤ 9223372036854775807 := hl
  have HG := Aside0.mk hG
  have HH := Aside0.mk (And.intro h1 (And.intro e1 (And.intro h2 (And.intro e2 (And.intro h3 (And.intro e3 (And.intro h4 h5)))))))
  clear hl hG h1 e1 h2 e2 h3 e3 h4 h5
  go_enter Try.func12, Try.ntmps12
  go_wp2_with fail
  obtain ⟨W0, hW0⟩ : ∃ X, X = (w.alloc (.cells noteZ 27)).alloc (.cells #[.slice A b.length c, .int .i64 0, .int .i64 0] 60) := ⟨_, rfl⟩
  have T0 : Aside0 (Ts w W0 (w.heap.size + 1) A c b ⟨0, 0⟩ [(w.heap.size, noteZ, 27)]) := ⟨by
    rw [hW0]
    have hs := World.size_alloc w (.cells noteZ 27)
    refine ⟨⟨by have := heap_alloc_new (w.alloc (.cells noteZ 27)) (.cells #[.slice A b.length c, .int .i64 0, .int .i64 0] 60); rwa [hs] at this⟩, below_alloc (below_alloc (Below.refl _ _) _) _, by omega, fun x hx => ?_⟩
    simp only [List.mem_cons, List.not_mem_nil, or_false] at hx
    subst hx
    exact ⟨by simp, by simp, (Below.heap_alloc _ _ _ (by rw [hs]; simp)).trans (heap_alloc_new w _)⟩⟩
  simp only [noteZ] at hW0
  rw [← hW0]
  clear hW0
  refine (T0.out.num HG.out).mono ?_
  rw [HH.out.1]
  rintro e W1 ⟨rfl, ht, hg⟩
  have T1 := Aside0.mk ht
  clear ht hg
  go_wp2_with fail
  have HA : Aside0 (w.heap.size + 1 < W1.heap.size) := ⟨T1.out.rd.lt⟩
  obtain ⟨W2, hW2⟩ : ∃ X, X = W1.alloc (.cells #[.int .i64 3, .string ⟨#[]⟩, .int .i64 0, .int .i64 0, .slice none 0 0, .slice none 0 0, .slice none 0 0] 27) := ⟨_, rfl⟩
  have T2 : Aside0 (Ts w W2 (w.heap.size + 1) A c b s1 [(W1.heap.size, #[.int .i64 3, .string ⟨#[]⟩, .int .i64 0, .int .i64 0, .slice none 0 0, .slice none 0 0, .slice none 0 0], 27), (w.heap.size, noteZ, 27)]) := ⟨by rw [hW2]; exact T1.out.lit _ _⟩
  rw [← hW2]
  clear hW2
  refine (T2.out.must true 4).mono ?_
  rw [show mustR s1 true 4 = s1 from if_neg (by simp)]
  rintro e W3 ⟨rfl, ht, hg⟩
  have T3 := Aside0.mk ht
  clear ht hg
  generalize hn : W1.heap.size = an at *
  clear hn
  have c0 := obj_cell (v := .int .i64 3) (T3.out.get _ List.mem_cons_self) 0 rfl
  go_wp2_with fail
  refine (named_calls 3 W3).mono ?_
  rw [show namesV 3 = .agg #[.bool true, .bool false, .bool false, .bool false, .bool false] from rfl]
  rintro e W4 ⟨rfl, hb4⟩
  have T4 := Aside0.mk ((T3.out.below hb4).lit #[.bool true, .bool false, .bool false, .bool false, .bool false] 40)
  have HA4 : Aside0 (an < W4.heap.size ∧ w.heap.size + 1 < W4.heap.size) := ⟨⟨Nat.lt_of_lt_of_le (Array.getElem?_eq_some_iff.1 (T3.out.get _ List.mem_cons_self)).1 hb4.size, Nat.lt_of_lt_of_le T3.out.rd.lt hb4.size⟩⟩
  clear hb4 c0
  go_wp2_with fail
  obtain ⟨W5, hW5⟩ : ∃ X, X = W4.alloc (.cells #[.bool true, .bool false, .bool false, .bool false, .bool false] 40) := ⟨_, rfl⟩
  rw [← hW5] at T4
  rw [← hW5]
  clear hW5
  generalize hn : W4.heap.size = ax at *
  clear hn
  have T5 := Aside0.mk ((T4.out.drew.less (L1 := [(an, #[.int .i64 3, .string ⟨#[]⟩, .int .i64 0, .int .i64 0, .slice none 0 0, .slice none 0 0, .slice none 0 0], 27), (ax, #[.bool true, .bool false, .bool false, .bool false, .bool false], 40), (w.heap.size, noteZ, 27)]) (by simp)))
  have HNE : Aside0 (∀ (C1 C2 : Array Value), ∀ y ∈ [((ax, C1, 40) : Nat × Array Value × TypeId), (w.heap.size, C2, 27)], y.1 ≠ an) := ⟨fun C1 C2 y hy => by
    have h1 := HA.out
    have h2 := HA4.out.1
    simp only [List.mem_cons, List.not_mem_nil, or_false] at hy
    rcases hy with rfl | rfl <;> simp only <;> omega⟩
  (refine Hd.startE (S := (fun _ => True)) 1000 (by kernel_rfl) (trivial) (fun hHeld => ?_))
  (refine Hd.takeE (i := 0) (v := ?_) rfl rfl (by kernel_rfl) (by kernel_rfl) (by kernel_rfl) (by kernel_rfl) (by first | exact fun _ _ _ h => h | exact fun _ _ _ h => HQP.out (by decide) h) (Or.inl ⟨by rfl, ?_⟩) (by assumption) ?_; rotate_left; (focus (intro wS hS; (try go_split_ands); go_simp; all_goals (with_reducible rfl))); simp only [List.set_cons_zero, List.set_cons_succ, List.setIfInBounds_toArray]); (refine Hd.takeE (i := 3) (v := ?_) rfl rfl (by kernel_rfl) (by kernel_rfl) (by kernel_rfl) (by kernel_rfl) (by first | exact fun _ _ _ h => h | exact fun _ _ _ h => HQP.out (by decide) h) (Or.inl ⟨by rfl, ?_⟩) (by assumption) ?_; rotate_left; (focus (intro wS hS; (try go_split_ands); go_simp; all_goals (with_reducible rfl))); simp only [List.set_cons_zero, List.set_cons_succ, List.setIfInBounds_toArray])
  (refine Hd.readyE (rs := [1]) (by kernel_rfl) (by simp) ?_; refine Hd.AllE.cons (i := 1) rfl (fun K hK => ?_) Hd.AllE.nil; (go_simp; (with_reducible refine (T5.out.text HG.out 32).mono ?_); rw [HH.out.2.2.1]; rintro e w6 ⟨v6, rfl, ht6, hg6, hr6⟩); refine hK.out _ _ (trivial) (fun hHeld => ?_); clear hK K; (try simp only [Act.put, List.setIfInBounds_toArray, List.set_cons_zero, List.set_cons_succ]))
  have T6 := Aside0.mk ht6
  have HR6 := Aside0.mk hr6
  clear ht6 hg6 hr6
  (refine Hd.readyE (rs := [2, 4]) (by kernel_rfl) (by simp) ?_; refine Hd.AllE.cons (i := 2) rfl (fun K hK => ?_) (Hd.AllE.cons (i := 4) rfl (fun K hK => ?_) (Hd.AllE.nil)))
  · ((refine Hd.step_of_list rfl ?_; refine Hd.step_run rfl (exec_str rfl (by first | rfl | simp [Act.eval]) HR6.out) ?_; refine wpList_nil ?_); refine hK.out _ _ (trivial) (fun hHeld => ?_); clear hK K; (try simp only [Act.put, List.setIfInBounds_toArray, List.set_cons_zero, List.set_cons_succ]))
    (refine Hd.takeE (i := 5) (v := ?_) rfl rfl (by kernel_rfl) (by kernel_rfl) (by kernel_rfl) (by kernel_rfl) (by first | exact fun _ _ _ h => h | exact fun _ _ _ h => HQP.out (by decide) h) (Or.inl ⟨by rfl, ?_⟩) (by assumption) ?_; rotate_left; (focus (intro wS hS; (try go_split_ands); go_simp; all_goals (with_reducible rfl))); simp only [List.set_cons_zero, List.set_cons_succ, List.setIfInBounds_toArray])
    (refine Hd.readyE (rs := [4]) (by kernel_rfl) (by simp) ?_; refine Hd.AllE.cons (i := 4) rfl (fun K hK => ?_) Hd.AllE.nil; (go_simp; (with_reducible refine (T6.out.num HG.out).mono ?_); rw [HH.out.2.2.2.2.1]; rintro e w7 ⟨rfl, ht7, hg7⟩); refine hK.out _ _ (trivial) (fun hHeld => ?_); clear hK K; (try simp only [Act.put, List.setIfInBounds_toArray, List.set_cons_zero, List.set_cons_succ]))
    have T7 := Aside0.mk ht7
    clear ht7 hg7
    have c1 := obj_cell (v := .string ⟨#[]⟩) (T7.out.get _ List.mem_cons_self) 1 rfl
    have f1 := obj_free (T7.out.get _ List.mem_cons_self) 1
    have T8 := Aside0.mk (T7.out.put (HNE.out _ _) 1 (.string (strOfNums l)))
    have c2 := obj_cell (v := .int .i64 0) (T8.out.get _ List.mem_cons_self) 2 rfl
    have f2 := obj_free (T8.out.get _ List.mem_cons_self) 2
    have T9 := Aside0.mk (T8.out.put (HNE.out _ _) 2 (.int .i64 gen))
    (refine Hd.readyE (rs := [6]) (by kernel_rfl) (by simp) ?_; refine Hd.AllE.cons (i := 6) rfl (fun K hK => ?_) Hd.AllE.nil; go_simp; refine hK.out _ _ (trivial) (fun hHeld => ?_); clear hK K; (try simp only [Act.put, List.setIfInBounds_toArray, List.set_cons_zero, List.set_cons_succ]))
    (refine Hd.takeE (i := 7) (v := ?_) rfl rfl (by kernel_rfl) (by kernel_rfl) (by kernel_rfl) (by kernel_rfl) (by first | exact fun _ _ _ h => h | exact fun _ _ _ h => HQP.out (by decide) h) (Or.inl ⟨by rfl, ?_⟩) (by assumption) ?_; rotate_left; (focus (intro wS hS; (try go_split_ands); go_simp; all_goals (with_reducible rfl))); simp only [List.set_cons_zero, List.set_cons_succ, List.setIfInBounds_toArray])
    (refine Hd.readyE (rs := [8]) (by kernel_rfl) (by simp) ?_; refine Hd.AllE.cons (i := 8) rfl (fun K hK => ?_) Hd.AllE.nil; go_simp; refine hK.out _ _ (trivial) (fun hHeld => ?_); clear hK K; (try simp only [Act.put, List.setIfInBounds_toArray, List.set_cons_zero, List.set_cons_succ]))
    (refine Hd.endE (by kernel_rfl) ?_ _)
    clear c1 c2 f1 f2
    (obtain ⟨W9, hW9⟩ : ∃ X, X = (w7.setCell ⟨an, 1, none⟩ (.string (strOfNums l))).setCell ⟨an, 2, none⟩ (.int .i64 gen) := ⟨_, rfl⟩
     rw [← hW9] at T9 ⊢
     clear hW9
     have x1 := obj_cell (v := .bool false) (T9.out.get _ (List.mem_cons_of_mem _ List.mem_cons_self)) 1 rfl
     have x2 := obj_cell (v := .bool false) (T9.out.get _ (List.mem_cons_of_mem _ List.mem_cons_self)) 2 rfl
     have x3 := obj_cell (v := .bool false) (T9.out.get _ (List.mem_cons_of_mem _ List.mem_cons_self)) 3 rfl
     have x4 := obj_cell (v := .bool false) (T9.out.get _ (List.mem_cons_of_mem _ List.mem_cons_self)) 4 rfl
     have n0 := obj_cell (v := .int .i64 3) (T9.out.get _ List.mem_cons_self) 0 rfl
     have n1 := obj_cell (v := .string (strOfNums l)) (T9.out.get _ List.mem_cons_self) 1 rfl
     have n2 := obj_cell (v := .int .i64 gen) (T9.out.get _ List.mem_cons_self) 2 rfl
     have n3 := obj_cell (v := .int .i64 0) (T9.out.get _ List.mem_cons_self) 3 rfl
     have n4 := obj_cell (v := .slice none 0 0) (T9.out.get _ List.mem_cons_self) 4 rfl
     have n5 := obj_cell (v := .slice none 0 0) (T9.out.get _ List.mem_cons_self) 5 rfl
     have n6 := obj_cell (v := .slice none 0 0) (T9.out.get _ List.mem_cons_self) 6 rfl
     obtain ⟨r0, r1, r2, r3⟩ := T9.out.rcells
     rw [HH.out.2.2.2.2.2.1] at r2
     rw [HH.out.2.2.2.2.2.2.1] at r1
     go_wp2_with fail
     have HNT := Aside0.mk (show NtC W9 ⟨3, strOfNums l, gen, 0, [], [], []⟩ ⟨none, 0, none, 0, none, 0⟩ from ⟨hlt, ⟨rfl, Nat.zero_le _, fun h => absurd h (Nat.lt_irrefl 0)⟩, Nat.le_refl _, ⟨rfl, Nat.zero_le _, fun h => absurd h (Nat.lt_irrefl 0)⟩, Nat.le_refl _, ⟨rfl, Nat.zero_le _, fun h => absurd h (Nat.lt_irrefl 0)⟩, Nat.le_refl _, fun c hc => by simp at hc⟩)
     refine (check_calls ⟨3, strOfNums l, gen, 0, [], [], []⟩ ⟨none, 0, none, 0, none, 0⟩ W9 HNT.out).mono ?_
     rw [HH.out.2.2.2.2.2.2.2]
     rintro e W10 ⟨rfl, hb10⟩
     have T10 := Aside0.mk (T9.out.below hb10)
     clear hb10 x1 x2 x3 x4 n0 n1 n2 n3 n4 n5 n6 r0 r1 r2 r3
     obtain ⟨r0, r1, r2, r3⟩ := T10.out.rcells
     rw [HH.out.2.2.2.2.2.1] at r2
     rw [HH.out.2.2.2.2.2.2.1] at r1
     have T11 := Aside0.mk (T10.out.read (T10.out.rd.setE 0) (grown_set W10 (w.heap.size + 1) 2 (.int .i64 0)))
     obtain ⟨q0, q1, q2, q3⟩ := T11.out.rcells
     simp only [HH.out.2.2.2.2.2.2.1] at q1
     go_wp2_with fail
     refine (T11.out.must true 4).mono ?_
     rw [show ∀ z, mustR ⟨z, 0⟩ true 4 = ⟨z, 0⟩ from fun z => if_neg (by simp)]
     rintro e W12 ⟨rfl, ht, hg⟩
     have T12 := Aside0.mk ht
     clear ht hg q0 q1 q2 q3 r0 r1 r2 r3
     obtain ⟨r0, r1, r2, r3⟩ := T12.out.rcells
     have n0 := obj_cell (v := .int .i64 3) (T12.out.get _ List.mem_cons_self) 0 rfl
     have n1 := obj_cell (v := .string (strOfNums l)) (T12.out.get _ List.mem_cons_self) 1 rfl
     have n2 := obj_cell (v := .int .i64 gen) (T12.out.get _ List.mem_cons_self) 2 rfl
     have n3 := obj_cell (v := .int .i64 0) (T12.out.get _ List.mem_cons_self) 3 rfl
     have n4 := obj_cell (v := .slice none 0 0) (T12.out.get _ List.mem_cons_self) 4 rfl
     have n5 := obj_cell (v := .slice none 0 0) (T12.out.get _ List.mem_cons_self) 5 rfl
     have n6 := obj_cell (v := .slice none 0 0) (T12.out.get _ List.mem_cons_self) 6 rfl
     have HT13 := Aside0.mk (T12.out.get (w.heap.size, noteZ, 27) (by simp))
     have HB13 := Aside0.mk T12.out.b
     obtain ⟨WZ, hWZ⟩ : ∃ X, X = W12.setCells w.heap.size 0 [.int .i64 3, .string (strOfNums l), .int .i64 gen, .int .i64 0, .slice none 0 0, .slice none 0 0, .slice none 0 0] := ⟨_, rfl⟩
     have HWE := Aside0.mk (show (((((((W12.setCell ⟨w.heap.size, 0, none⟩ (.int .i64 3)).setCell ⟨w.heap.size, 1, none⟩ (.string (strOfNums l))).setCell ⟨w.heap.size, 2, none⟩ (.int .i64 gen)).setCell ⟨w.heap.size, 3, none⟩ (.int .i64 0)).setCell ⟨w.heap.size, 4, none⟩ (.slice none 0 0)).setCell ⟨w.heap.size, 5, none⟩ (.slice none 0 0)).setCell ⟨w.heap.size, 6, none⟩ (.slice none 0 0)) = WZ by rw [hWZ]; simp only [World.setCells, Nat.zero_add, Nat.reduceAdd])
     have HLD := Aside0.mk (show (loadVar 27 ⟨w.heap.size, 0, none⟩).run Try.prog WZ = .ok (.agg [.int .i64 3, .string (strOfNums l), .int .i64 gen, .int .i64 0, .slice none 0 0, .slice none 0 0, .slice none 0 0].toArray) WZ by rw [hWZ]; exact load_sets HT13.out rfl rfl)
     have HBZ := Aside0.mk (show Below w.heap.size w WZ by rw [hWZ]; exact below_sets HB13.out (Nat.le_refl _) _)
     clear hWZ
     have z0 := obj_cell (v := .int .i64 0) HT13.out 0 rfl
     have y0 := obj_free HT13.out 0
     have z1 := obj_cell (v := .string ⟨#[]⟩) HT13.out 1 rfl
     have y1 := obj_free HT13.out 1
     have z2 := obj_cell (v := .int .i64 0) HT13.out 2 rfl
     have y2 := obj_free HT13.out 2
     have z3 := obj_cell (v := .int .i64 0) HT13.out 3 rfl
     have y3 := obj_free HT13.out 3
     have z4 := obj_cell (v := .slice none 0 0) HT13.out 4 rfl
     have y4 := obj_free HT13.out 4
     have z5 := obj_cell (v := .slice none 0 0) HT13.out 5 rfl
     have y5 := obj_free HT13.out 5
     have z6 := obj_cell (v := .slice none 0 0) HT13.out 6 rfl
     have y6 := obj_free HT13.out 6
     go_wp2_with fail
     rw [HWE.out]
     exact bodyPost_ret (results_ct rfl _ _ ⟨w.heap.size, 0, none⟩ _ rfl HLD.out) rfl ⟨rfl, HBZ.out⟩)
  · ((go_simp; (with_reducible refine (T6.out.num HG.out).mono ?_); rw [HH.out.2.2.2.2.1]; rintro e w7 ⟨rfl, ht7, hg7⟩); refine hK.out _ _ (trivial) (fun hHeld => ?_); clear hK K; (try simp only [Act.put, List.setIfInBounds_toArray, List.set_cons_zero, List.set_cons_succ]))
    have T7 := Aside0.mk ht7
    have HR7 := Aside0.mk (R_kept_row (flat_int .u8) HR6.out (fun g' hg' e => by injection hg' with hg'; have h3 := ((Kd.R_bound HR6.out).1 _ e).2.1; have h4 := T5.out.rd.lt; omega) hg7)
    clear ht7 hg7
    (refine Hd.readyE (rs := [2]) (by kernel_rfl) (by simp) ?_; refine Hd.AllE.cons (i := 2) rfl (fun K hK => ?_) Hd.AllE.nil; (refine Hd.step_of_list rfl ?_; refine Hd.step_run rfl (exec_str rfl (by first | rfl | simp [Act.eval]) HR7.out) ?_; refine wpList_nil ?_); refine hK.out _ _ (trivial) (fun hHeld => ?_); clear hK K; (try simp only [Act.put, List.setIfInBounds_toArray, List.set_cons_zero, List.set_cons_succ]))
    (refine Hd.takeE (i := 5) (v := ?_) rfl rfl (by kernel_rfl) (by kernel_rfl) (by kernel_rfl) (by kernel_rfl) (by first | exact fun _ _ _ h => h | exact fun _ _ _ h => HQP.out (by decide) h) (Or.inl ⟨by rfl, ?_⟩) (by assumption) ?_; rotate_left; (focus (intro wS hS; (try go_split_ands); go_simp; all_goals (with_reducible rfl))); simp only [List.set_cons_zero, List.set_cons_succ, List.setIfInBounds_toArray])
    have c1 := obj_cell (v := .string ⟨#[]⟩) (T7.out.get _ List.mem_cons_self) 1 rfl
    have f1 := obj_free (T7.out.get _ List.mem_cons_self) 1
    have T8 := Aside0.mk (T7.out.put (HNE.out _ _) 1 (.string (strOfNums l)))
    have c2 := obj_cell (v := .int .i64 0) (T8.out.get _ List.mem_cons_self) 2 rfl
    have f2 := obj_free (T8.out.get _ List.mem_cons_self) 2
    have T9 := Aside0.mk (T8.out.put (HNE.out _ _) 2 (.int .i64 gen))
    (refine Hd.readyE (rs := [6]) (by kernel_rfl) (by simp) ?_; refine Hd.AllE.cons (i := 6) rfl (fun K hK => ?_) Hd.AllE.nil; go_simp; refine hK.out _ _ (trivial) (fun hHeld => ?_); clear hK K; (try simp only [Act.put, List.setIfInBounds_toArray, List.set_cons_zero, List.set_cons_succ]))
    (refine Hd.takeE (i := 7) (v := ?_) rfl rfl (by kernel_rfl) (by kernel_rfl) (by kernel_rfl) (by kernel_rfl) (by first | exact fun _ _ _ h => h | exact fun _ _ _ h => HQP.out (by decide) h) (Or.inl ⟨by rfl, ?_⟩) (by assumption) ?_; rotate_left; (focus (intro wS hS; (try go_split_ands); go_simp; all_goals (with_reducible rfl))); simp only [List.set_cons_zero, List.set_cons_succ, List.setIfInBounds_toArray])
    (refine Hd.readyE (rs := [8]) (by kernel_rfl) (by simp) ?_; refine Hd.AllE.cons (i := 8) rfl (fun K hK => ?_) Hd.AllE.nil; go_simp; refine hK.out _ _ (trivial) (fun hHeld => ?_); clear hK K; (try simp only [Act.put, List.setIfInBounds_toArray, List.set_cons_zero, List.set_cons_succ]))
    (refine Hd.endE (by kernel_rfl) ?_ _)
    clear c1 c2 f1 f2
    (obtain ⟨W9, hW9⟩ : ∃ X, X = (w7.setCell ⟨an, 1, none⟩ (.string (strOfNums l))).setCell ⟨an, 2, none⟩ (.int .i64 gen) := ⟨_, rfl⟩
     rw [← hW9] at T9 ⊢
     clear hW9
     have x1 := obj_cell (v := .bool false) (T9.out.get _ (List.mem_cons_of_mem _ List.mem_cons_self)) 1 rfl
     have x2 := obj_cell (v := .bool false) (T9.out.get _ (List.mem_cons_of_mem _ List.mem_cons_self)) 2 rfl
     have x3 := obj_cell (v := .bool false) (T9.out.get _ (List.mem_cons_of_mem _ List.mem_cons_self)) 3 rfl
     have x4 := obj_cell (v := .bool false) (T9.out.get _ (List.mem_cons_of_mem _ List.mem_cons_self)) 4 rfl
     have n0 := obj_cell (v := .int .i64 3) (T9.out.get _ List.mem_cons_self) 0 rfl
     have n1 := obj_cell (v := .string (strOfNums l)) (T9.out.get _ List.mem_cons_self) 1 rfl
     have n2 := obj_cell (v := .int .i64 gen) (T9.out.get _ List.mem_cons_self) 2 rfl
     have n3 := obj_cell (v := .int .i64 0) (T9.out.get _ List.mem_cons_self) 3 rfl
     have n4 := obj_cell (v := .slice none 0 0) (T9.out.get _ List.mem_cons_self) 4 rfl
     have n5 := obj_cell (v := .slice none 0 0) (T9.out.get _ List.mem_cons_self) 5 rfl
     have n6 := obj_cell (v := .slice none 0 0) (T9.out.get _ List.mem_cons_self) 6 rfl
     obtain ⟨r0, r1, r2, r3⟩ := T9.out.rcells
     rw [HH.out.2.2.2.2.2.1] at r2
     rw [HH.out.2.2.2.2.2.2.1] at r1
     go_wp2_with fail
     have HNT := Aside0.mk (show NtC W9 ⟨3, strOfNums l, gen, 0, [], [], []⟩ ⟨none, 0, none, 0, none, 0⟩ from ⟨hlt, ⟨rfl, Nat.zero_le _, fun h => absurd h (Nat.lt_irrefl 0)⟩, Nat.le_refl _, ⟨rfl, Nat.zero_le _, fun h => absurd h (Nat.lt_irrefl 0)⟩, Nat.le_refl _, ⟨rfl, Nat.zero_le _, fun h => absurd h (Nat.lt_irrefl 0)⟩, Nat.le_refl _, fun c hc => by simp at hc⟩)
     refine (check_calls ⟨3, strOfNums l, gen, 0, [], [], []⟩ ⟨none, 0, none, 0, none, 0⟩ W9 HNT.out).mono ?_
     rw [HH.out.2.2.2.2.2.2.2]
     rintro e W10 ⟨rfl, hb10⟩
     have T10 := Aside0.mk (T9.out.below hb10)
     clear hb10 x1 x2 x3 x4 n0 n1 n2 n3 n4 n5 n6 r0 r1 r2 r3
     obtain ⟨r0, r1, r2, r3⟩ := T10.out.rcells
     rw [HH.out.2.2.2.2.2.1] at r2
     rw [HH.out.2.2.2.2.2.2.1] at r1
     have T11 := Aside0.mk (T10.out.read (T10.out.rd.setE 0) (grown_set W10 (w.heap.size + 1) 2 (.int .i64 0)))
     obtain ⟨q0, q1, q2, q3⟩ := T11.out.rcells
     simp only [HH.out.2.2.2.2.2.2.1] at q1
     go_wp2_with fail
     refine (T11.out.must true 4).mono ?_
     rw [show ∀ z, mustR ⟨z, 0⟩ true 4 = ⟨z, 0⟩ from fun z => if_neg (by simp)]
     rintro e W12 ⟨rfl, ht, hg⟩
     have T12 := Aside0.mk ht
     clear ht hg q0 q1 q2 q3 r0 r1 r2 r3
     obtain ⟨r0, r1, r2, r3⟩ := T12.out.rcells
     have n0 := obj_cell (v := .int .i64 3) (T12.out.get _ List.mem_cons_self) 0 rfl
     have n1 := obj_cell (v := .string (strOfNums l)) (T12.out.get _ List.mem_cons_self) 1 rfl
     have n2 := obj_cell (v := .int .i64 gen) (T12.out.get _ List.mem_cons_self) 2 rfl
     have n3 := obj_cell (v := .int .i64 0) (T12.out.get _ List.mem_cons_self) 3 rfl
     have n4 := obj_cell (v := .slice none 0 0) (T12.out.get _ List.mem_cons_self) 4 rfl
     have n5 := obj_cell (v := .slice none 0 0) (T12.out.get _ List.mem_cons_self) 5 rfl
     have n6 := obj_cell (v := .slice none 0 0) (T12.out.get _ List.mem_cons_self) 6 rfl
     have HT13 := Aside0.mk (T12.out.get (w.heap.size, noteZ, 27) (by simp))
     have HB13 := Aside0.mk T12.out.b
     obtain ⟨WZ, hWZ⟩ : ∃ X, X = W12.setCells w.heap.size 0 [.int .i64 3, .string (strOfNums l), .int .i64 gen, .int .i64 0, .slice none 0 0, .slice none 0 0, .slice none 0 0] := ⟨_, rfl⟩
     have HWE := Aside0.mk (show (((((((W12.setCell ⟨w.heap.size, 0, none⟩ (.int .i64 3)).setCell ⟨w.heap.size, 1, none⟩ (.string (strOfNums l))).setCell ⟨w.heap.size, 2, none⟩ (.int .i64 gen)).setCell ⟨w.heap.size, 3, none⟩ (.int .i64 0)).setCell ⟨w.heap.size, 4, none⟩ (.slice none 0 0)).setCell ⟨w.heap.size, 5, none⟩ (.slice none 0 0)).setCell ⟨w.heap.size, 6, none⟩ (.slice none 0 0)) = WZ by rw [hWZ]; simp only [World.setCells, Nat.zero_add, Nat.reduceAdd])
     have HLD := Aside0.mk (show (loadVar 27 ⟨w.heap.size, 0, none⟩).run Try.prog WZ = .ok (.agg [.int .i64 3, .string (strOfNums l), .int .i64 gen, .int .i64 0, .slice none 0 0, .slice none 0 0, .slice none 0 0].toArray) WZ by rw [hWZ]; exact load_sets HT13.out rfl rfl)
     have HBZ := Aside0.mk (show Below w.heap.size w WZ by rw [hWZ]; exact below_sets HB13.out (Nat.le_refl _) _)
     clear hWZ
     have z0 := obj_cell (v := .int .i64 0) HT13.out 0 rfl
     have y0 := obj_free HT13.out 0
     have z1 := obj_cell (v := .string ⟨#[]⟩) HT13.out 1 rfl
     have y1 := obj_free HT13.out 1
     have z2 := obj_cell (v := .int .i64 0) HT13.out 2 rfl
     have y2 := obj_free HT13.out 2
     have z3 := obj_cell (v := .int .i64 0) HT13.out 3 rfl
     have y3 := obj_free HT13.out 3
     have z4 := obj_cell (v := .slice none 0 0) HT13.out 4 rfl
     have y4 := obj_free HT13.out 4
     have z5 := obj_cell (v := .slice none 0 0) HT13.out 5 rfl
     have y5 := obj_free HT13.out 5
     have z6 := obj_cell (v := .slice none 0 0) HT13.out 6 rfl
     have y6 := obj_free HT13.out 6
     go_wp2_with fail
     rw [HWE.out]
     exact bodyPost_ret (results_ct rfl _ _ ⟨w.heap.size, 0, none⟩ _ rfl HLD.out) rfl ⟨rfl, HBZ.out⟩)
end Go.Proofs.Ytbncmffifbcbjaa.WiS
