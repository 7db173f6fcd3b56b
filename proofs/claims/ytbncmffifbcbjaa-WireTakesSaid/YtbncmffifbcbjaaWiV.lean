/- wire's reading: a list's length, the next part; condition: the reading's block, and its bytes read as bytes. -/
import Derived.Test.YtbncmffifbcbjaaWiU
import Derived.Test.YtbncmffifbcbjaaWiP
import Derived.Deep.DeepCutAuto
namespace Go.Proofs.Ytbncmffifbcbjaa.WiV
open Go Go.RowKit Go.Proofs.YtbncmffifbcbjaaW.PrintWords Go.Proofs.Ytbncmffifbcbjaa.K Go.Proofs.Ytbncmffifbcbjaa.OctS Go.Proofs.Ytbncmffifbcbjaa.OctP Go.Proofs.Ytbncmffifbcbjaa.Oct Go.Proofs.Ytbncmffifbcbjaa.Ap Go.Proofs.Ytbncmffifbcbjaa.WiR Go.Proofs.Ytbncmffifbcbjaa.WiU Go.Proofs.Ytbncmffifbcbjaa.WiD Go.Proofs.Ytbncmffifbcbjaa.WiP
set_option linter.unusedVariables false
set_option linter.unusedSimpArgs false
set_option maxHeartbeats 1000000 in
theorem many_calls {w : World} {g c : Nat} {A : Option Addr} {b : List Int} {s : Rs} (h : Rd w g A b.length c s) (hC : (Kd.int .u8).C w A b.length b) (hc : b.length ≤ c) (hb : Bytes b) (hm : b.length ≤ 140737488355328) (most : Int) :
    Calls Try.prog 32 #[.pointer (some ⟨g, 0, none⟩), .int .i64 most] w fun e w' => e = .returned (.int .i64 (manyR b s most).1) ∧ Rd w' g A b.length c (manyR b s most).2 ∧ w.grownBy w' (some g) := by
  have HN := Aside0.mk (num_calls h hC hc hb hm)
  have HM := Aside0.mk (show manyR b s most = (if (mustR (numR b s).2 (decide ((numR b s).1 ≤ most)) 6).e = 0 then (numR b s).1 else 0, mustR (numR b s).2 (decide ((numR b s).1 ≤ most)) 6) from rfl)
  obtain ⟨⟨v, s1⟩, hv⟩ : ∃ t, t = numR b s := ⟨_, rfl⟩
  rw [← hv] at HN HM
  clear hv h hC hc hb hm
  dsimp only at HN HM
  go_enter Try.func32, Try.ntmps32
  go_wp2_with fail
  refine HN.out.mono ?_
  rintro e w1 ⟨rfl, hr1, hg1⟩
  have HG1 := Aside0.mk hg1
  have HR1 := Aside0.mk hr1
  clear hr1 hg1
  go_wp2_with fail
  refine (must_calls HR1.out (decide (v ≤ most)) 6).mono ?_
  rintro e w2 ⟨rfl, hr2, hg2⟩
  have HG2 := Aside0.mk (grown_trans HG1.out hg2)
  have HR2 := Aside0.mk hr2
  have q2 := obj_cell (v := .int .i64 (mustR s1 (decide (v ≤ most)) 6).e) hr2.blk 2 rfl
  clear hr2 hg2
  generalize mustR s1 (decide (v ≤ most)) 6 = s2 at *
  by_cases he : s2.e = 0
  · have h1 : (s2.e != 0) = false := by simpa using he
    have HE := Aside0.mk he
    clear he
    go_wp2_with fail
    go_ret
    exact ⟨by rw [HM.out, if_pos HE.out]; rfl, by rw [HM.out]; exact HR2.out, HG2.out⟩
  · have h1 : (s2.e != 0) = true := by simpa using he
    have HE := Aside0.mk he
    clear he
    go_wp2_with fail
    go_ret
    exact ⟨by rw [HM.out, if_neg HE.out]; rfl, by rw [HM.out]; exact HR2.out, HG2.out⟩
/-- Where a part's sum stands, and the reading behind it. -/
def sumR (b : List Int) (s : Rs) : List Int × Rs := if 32 ≤ (b.length : Int) - s.at_ then ((b.drop s.at_.toNat).take 32, ⟨s.at_ + 32, 0⟩) else (List.replicate 32 0, ⟨s.at_, 3⟩)
/-- The next part of a reading without a fault. -/
def partR (b : List Int) (s : Rs) : Pt × Rs := (⟨(sumR b s).1, (numR b (sumR b s).2).1⟩, (numR b (sumR b s).2).2)
theorem results_cell1 {P : Program} {fn : Func} {p : Tmp} {t : TypeId} (h : fn.results = #[.cell p t]) (tmps : Array Value) (w : World) (ad : Addr) (v : Value) (e : tmps.getD p undef = .pointer (some ad)) (r : (loadVar t ad).run P w = .ok v w) :
    (results fn tmps).run P w = .ok v w := by
  have e' : tmps[p]?.getD undef = .pointer (some ad) := by simpa using e
  simp [results, h, e', asAddr, r]
theorem row_range {w : World} {ad : Addr} {n : Nat} {l : List Int} (h : (Kd.int .u8).C w (some ad) n l) : Hd.RangeA w ad (nums .u8 l) := fun j v hj => by
  have hl := h.1
  have hjl : j < l.length := by have := (List.getElem?_eq_some_iff.1 hj).1; simpa [nums] using this
  obtain ⟨ad', e, hc⟩ := h.2.2 (by omega)
  injection e with e
  subst e
  obtain ⟨cs, e1, e2, e3⟩ := hc j _ (List.getElem?_eq_getElem hjl)
  obtain rfl : cs = [.int .u8 l[j]] := e2
  have x1 := e3 0 _ rfl
  have hv : v = .int .u8 l[j] := by
    have := (List.getElem?_eq_some_iff.1 hj).2
    simp [nums] at this
    exact this.symm
  rw [hv, ← x1]
  congr 2
  show j = j * 1 + 0
  omega
def setAll (C : Array Value) (o : Nat) : List Value → Array Value
  | [] => C
  | v :: vs => setAll (C.setIfInBounds o v) (o + 1) vs
theorem blk_sets {g : Nat} {t : TypeId} : ∀ (vs : List Value) (o : Nat) (W : World) (C : Array Value), W.heap[g]? = some (.cells C t (0, 0)) → (W.setCells g o vs).heap[g]? = some (.cells (setAll C o vs) t (0, 0))
  | [], _, _, _, h => h
  | v :: vs, o, W, C, h => blk_sets vs (o + 1) _ _ (obj_set h o v)
theorem setAll_app : ∀ (vs X P Y : List Value), X.length = vs.length → setAll (P ++ X ++ Y).toArray P.length vs = (P ++ vs ++ Y).toArray
  | [], X, P, Y, h => by
    obtain rfl := List.length_eq_zero_iff.1 h
    rfl
  | v :: vs, [], _, _, h => by cases h
  | v :: vs, x :: X, P, Y, h => by
    have h2 := setAll_app vs X (P ++ [v]) Y (by simpa using h)
    have e1 : ((P ++ (x :: X) ++ Y).toArray.setIfInBounds P.length v) = (P ++ [v] ++ X ++ Y).toArray := by
      rw [List.setIfInBounds_toArray, List.append_assoc, List.set_append_right _ _ (Nat.le_refl _), Nat.sub_self]
      simp
    show setAll ((P ++ (x :: X) ++ Y).toArray.setIfInBounds P.length v) (P.length + 1) vs = _
    rw [e1]
    rw [show P.length + 1 = (P ++ [v]).length from by simp]
    rw [h2]
    simp
theorem Pt.set_sum {s : List Int} (h : s.length = 32) : setAll (Pt.mk (List.replicate 32 0) 0).cells.toArray 0 (nums .u8 s) = (Pt.mk s 0).cells.toArray :=
  setAll_app (nums .u8 s) (nums .u8 (List.replicate 32 0)) [] [.int .i64 0] (by simp [nums, h])
theorem Pt.set_len {s : List Int} (h : s.length = 32) (z : Int) : (Pt.mk s 0).cells.toArray.setIfInBounds 32 (.int .i64 z) = (Pt.mk s z).cells.toArray := by
  have hl : (nums .u8 s).length = 32 := by simp [nums, h]
  show (nums .u8 s ++ [Value.int .i64 0]).toArray.setIfInBounds 32 (.int .i64 z) = (nums .u8 s ++ [Value.int .i64 z]).toArray
  rw [List.setIfInBounds_toArray, List.set_append_right _ _ (by omega), hl]
  rfl
theorem grown_sets (W : World) (g o : Nat) (vs : List Value) : W.grownBy (W.setCells g o vs) (some g) := by
  obtain ⟨q1, q2, q3, q4⟩ := setCells_same g vs o W
  exact ⟨q1, q2, q3, by rw [q4]; exact Nat.le_refl _, fun k hk hne => setCells_far vs o k (fun e => hne (by rw [e]))⟩
theorem grown_sets_new {w w1 : World} {row : Option Nat} (h : w.grownBy w1 row) {b o : Nat} (hp : w.heap.size ≤ b) (vs : List Value) : w.grownBy (w1.setCells b o vs) row := by
  obtain ⟨q1, q2, q3, q4⟩ := setCells_same b vs o w1
  exact ⟨q1.trans h.os, q2.trans h.tape, q3.trans h.output, by rw [q4]; exact h.size, fun k hk hne => (setCells_far vs o k (by omega)).trans (h.block k hk hne)⟩
theorem grown_set_new {w w1 : World} {row : Option Nat} (h : w.grownBy w1 row) {p : Addr} (hp : w.heap.size ≤ p.block) (u : Value) : w.grownBy (w1.setCell p u) row := ⟨h.os, h.tape, h.output, by simpa [World.setCell] using h.size, fun k hk hne => (Below.heap_setCell w1 p u k (by omega)).trans (h.block k hk hne)⟩
theorem zeroPt2 : ∀ W, (zeroValue 51).run Try.prog W = .ok (.agg (Pt.mk (List.replicate 32 0) 0).cells.toArray) W := fun W => by
  obtain ⟨i, h1, h2⟩ := Option.map_eq_some_iff.1 infoPt
  simp only [Prod.mk.injEq] at h2
  obtain ⟨h2, _, _⟩ := h2
  simp [zeroValue, typeInfo, Sem.run_bind, h1, h2, Pt.cells, nums]
theorem infoS32 (s : List Int) (h : s.length = 32) : (Try.prog.info? 49).map (·.size) = some (nums .u8 s).length := by
  rw [show (nums .u8 s).length = 32 by simp [nums, h]]
  kernel_rfl
theorem ptz_len : (Pt.mk (List.replicate 32 0) 0).cells.length = 33 := rfl
set_option maxHeartbeats 4000000 in
set_option maxRecDepth 100000 in
theorem part_calls {w : World} {g c : Nat} {A : Option Addr} {b : List Int} {pl : Nat} (h : Rd w g A b.length c ⟨(pl : Int), 0⟩) (hC : (Kd.int .u8).C w A b.length b) (hc : b.length ≤ c) (hb : Bytes b) (hm : b.length ≤ 140737488355328) (hp : pl ≤ b.length) :
    Calls Try.prog 33 #[.pointer (some ⟨g, 0, none⟩)] w fun e w' => e = .returned (.agg (partR b ⟨(pl : Int), 0⟩).1.cells.toArray) ∧ Rd w' g A b.length c (partR b ⟨(pl : Int), 0⟩).2 ∧ w.grownBy w' (some g) := by
  have HI := Aside0.mk h
  have HC := Aside0.mk hC
  have hgl : g < w.heap.size := h.lt
  have HUS := Aside0.mk Try.underlying49
  have HU := Aside0.mk Try.underlying51
  have HPR := Aside0.mk (show partR b ⟨(pl : Int), 0⟩ = (⟨(sumR b ⟨(pl : Int), 0⟩).1, (numR b (sumR b ⟨(pl : Int), 0⟩).2).1⟩, (numR b (sumR b ⟨(pl : Int), 0⟩).2).2) from rfl)
  have HZV := Aside0.mk zeroPt2
  generalize hZ : (Pt.mk (List.replicate 32 0) 0).cells.toArray = Z at HZV
  have HZ := Aside0.mk hZ
  have hal : Below w.heap.size w ((w.alloc (.cells Z 51)).alloc (.cells Z 51)) := below_alloc (below_alloc (Below.refl _ _) _) _
  have HAL := Aside0.mk hal
  have hw1 : IntKind.i64.wrap ((b.length : Int) - (pl : Int)) = (b.length : Int) - (pl : Int) := IntWalk.i64_in _ (by omega)
  clear h hC hZ hal
  generalize partR b ⟨(pl : Int), 0⟩ = PR at *
  go_enter Try.func33, Try.ntmps33
  go_wp2_with ((with_reducible refine gate_ (.alloc 51) rfl ?_); refine Hd.step_run rfl (Hd.exec_alloc _ rfl _ (HZV.out _)) ?_)
  simp only [show (Value.agg Z).cells = Z from rfl, Act.put, List.setIfInBounds_toArray, List.set_cons_zero, List.set_cons_succ, World.size_alloc]
  obtain ⟨W1, hW1⟩ : ∃ X, X = ((w.alloc (.cells Z 51)).alloc (.cells Z 51)) := ⟨_, rfl⟩
  rw [← hW1]
  have HB1 : Aside0 (Below w.heap.size w W1) := ⟨by rw [hW1]; exact HAL.out⟩
  have HT0 : Aside0 (W1.heap[w.heap.size]? = some (.cells Z 51 (0, 0))) := ⟨by rw [hW1]; exact (Below.heap_alloc _ _ _ (by simp)).trans (heap_alloc_new w _)⟩
  have HT1 : Aside0 (W1.heap[w.heap.size + 1]? = some (.cells Z 51 (0, 0))) := ⟨by rw [hW1]; have := heap_alloc_new (w.alloc (.cells Z 51)) (.cells Z 51); rwa [World.size_alloc] at this⟩
  have hz1 : W1.heap.size = w.heap.size + 2 := by rw [hW1]; simp
  clear hW1
  have HR1 := Aside0.mk (HI.out.below (below_drew1 HB1.out))
  (refine Hd.startE (S := (fun X => X.cell? ⟨g, 0, none⟩ = some (.slice A b.length c) ∧ X.cell? ⟨g, 1, none⟩ = some (.int .i64 (pl : Int)))) 1000 (by kernel_rfl) (obj_at2 HR1.out) (fun hHeld => ?_))
  (refine Hd.takeE (i := 0) (v := ?_) rfl rfl (by kernel_rfl) (by kernel_rfl) (by kernel_rfl) (by kernel_rfl) (by first | exact fun _ _ _ h => h | exact fun _ _ _ h => HQP.out (by decide) h) (Or.inl ⟨by rfl, ?_⟩) (by assumption) ?_; rotate_left; (focus (intro wS hS; (try go_split_ands); go_simp; all_goals (with_reducible rfl))); simp only [List.set_cons_zero, List.set_cons_succ, List.setIfInBounds_toArray]); (refine Hd.takeE (i := 1) (v := ?_) rfl rfl (by kernel_rfl) (by kernel_rfl) (by kernel_rfl) (by kernel_rfl) (by first | exact fun _ _ _ h => h | exact fun _ _ _ h => HQP.out (by decide) h) (Or.inl ⟨by rfl, ?_⟩) (by assumption) ?_; rotate_left; (focus (intro wS hS; (try go_split_ands); go_simp; all_goals (with_reducible rfl))); simp only [List.set_cons_zero, List.set_cons_succ, List.setIfInBounds_toArray]); (refine Hd.takeE (i := 2) (v := ?_) rfl rfl (by kernel_rfl) (by kernel_rfl) (by kernel_rfl) (by kernel_rfl) (by first | exact fun _ _ _ h => h | exact fun _ _ _ h => HQP.out (by decide) h) (Or.inl ⟨by rfl, ?_⟩) (by assumption) ?_; rotate_left; (focus (intro wS hS; (try go_split_ands); go_simp; all_goals (with_reducible rfl))); simp only [List.set_cons_zero, List.set_cons_succ, List.setIfInBounds_toArray]); (refine Hd.takeE (i := 3) (v := ?_) rfl rfl (by kernel_rfl) (by kernel_rfl) (by kernel_rfl) (by kernel_rfl) (by first | exact fun _ _ _ h => h | exact fun _ _ _ h => HQP.out (by decide) h) (Or.inl ⟨by rfl, ?_⟩) (by assumption) ?_; rotate_left; (focus (intro wS hS; (try go_split_ands); go_simp; all_goals (with_reducible rfl))); simp only [List.set_cons_zero, List.set_cons_succ, List.setIfInBounds_toArray]); (refine Hd.takeE (i := 4) (v := ?_) rfl rfl (by kernel_rfl) (by kernel_rfl) (by kernel_rfl) (by kernel_rfl) (by first | exact fun _ _ _ h => h | exact fun _ _ _ h => HQP.out (by decide) h) (Or.inl ⟨by rfl, ?_⟩) (by assumption) ?_; rotate_left; (focus (intro wS hS; (try go_split_ands); go_simp; all_goals (with_reducible rfl))); simp only [List.set_cons_zero, List.set_cons_succ, List.setIfInBounds_toArray]); (refine Hd.takeE (i := 5) (v := ?_) rfl rfl (by kernel_rfl) (by kernel_rfl) (by kernel_rfl) (by kernel_rfl) (by first | exact fun _ _ _ h => h | exact fun _ _ _ h => HQP.out (by decide) h) (Or.inl ⟨by rfl, ?_⟩) (by assumption) ?_; rotate_left; (focus (intro wS hS; (try go_split_ands); go_simp; all_goals (with_reducible rfl))); simp only [List.set_cons_zero, List.set_cons_succ, List.setIfInBounds_toArray]); (refine Hd.takeE (i := 6) (v := ?_) rfl rfl (by kernel_rfl) (by kernel_rfl) (by kernel_rfl) (by kernel_rfl) (by first | exact fun _ _ _ h => h | exact fun _ _ _ h => HQP.out (by decide) h) (Or.inl ⟨by rfl, ?_⟩) (by assumption) ?_; rotate_left; (focus (intro wS hS; (try go_split_ands); go_simp; all_goals (with_reducible rfl))); simp only [List.set_cons_zero, List.set_cons_succ, List.setIfInBounds_toArray]); (refine Hd.takeE (i := 7) (v := ?_) rfl rfl (by kernel_rfl) (by kernel_rfl) (by kernel_rfl) (by kernel_rfl) (by first | exact fun _ _ _ h => h | exact fun _ _ _ h => HQP.out (by decide) h) (Or.inl ⟨by rfl, ?_⟩) (by assumption) ?_; rotate_left; (focus (intro wS hS; (try go_split_ands); go_simp; all_goals (with_reducible rfl))); simp only [List.set_cons_zero, List.set_cons_succ, List.setIfInBounds_toArray]); (refine Hd.takeE (i := 8) (v := ?_) rfl rfl (by kernel_rfl) (by kernel_rfl) (by kernel_rfl) (by kernel_rfl) (by first | exact fun _ _ _ h => h | exact fun _ _ _ h => HQP.out (by decide) h) (Or.inl ⟨by rfl, ?_⟩) (by assumption) ?_; rotate_left; (focus (intro wS hS; (try go_split_ands); go_simp; all_goals (with_reducible rfl))); simp only [List.set_cons_zero, List.set_cons_succ, List.setIfInBounds_toArray]); (refine Hd.takeE (i := 9) (v := ?_) rfl rfl (by kernel_rfl) (by kernel_rfl) (by kernel_rfl) (by kernel_rfl) (by first | exact fun _ _ _ h => h | exact fun _ _ _ h => HQP.out (by decide) h) (Or.inl ⟨by rfl, ?_⟩) (by assumption) ?_; rotate_left; (focus (intro wS hS; (try go_split_ands); go_simp; all_goals (with_reducible rfl))); simp only [List.set_cons_zero, List.set_cons_succ, List.setIfInBounds_toArray]); (refine Hd.takeE (i := 10) (v := ?_) rfl rfl (by kernel_rfl) (by kernel_rfl) (by kernel_rfl) (by kernel_rfl) (by first | exact fun _ _ _ h => h | exact fun _ _ _ h => HQP.out (by decide) h) (Or.inl ⟨by rfl, ?_⟩) (by assumption) ?_; rotate_left; (focus (intro wS hS; (try go_split_ands); go_simp; all_goals (with_reducible rfl))); simp only [List.set_cons_zero, List.set_cons_succ, List.setIfInBounds_toArray]); (refine Hd.takeE (i := 11) (v := ?_) rfl rfl (by kernel_rfl) (by kernel_rfl) (by kernel_rfl) (by kernel_rfl) (by first | exact fun _ _ _ h => h | exact fun _ _ _ h => HQP.out (by decide) h) (Or.inl ⟨by rfl, ?_⟩) (by assumption) ?_; rotate_left; (focus (intro wS hS; (try go_split_ands); go_simp; all_goals (with_reducible rfl))); simp only [List.set_cons_zero, List.set_cons_succ, List.setIfInBounds_toArray])
  (refine Hd.readyE (rs := [12]) (by kernel_rfl) (by simp) ?_; refine Hd.AllE.cons (i := 12) rfl (fun K hK => ?_) Hd.AllE.nil; (go_simp; (with_reducible refine (must_calls HR1.out _ 3).mono ?_); rintro e w2 ⟨rfl, hr2, hg2⟩); refine hK.out _ _ (by have := obj_at2 hr2; rwa [show ∀ ok, (mustR ⟨(pl : Int), 0⟩ ok 3).at_ = (pl : Int) from fun ok => by unfold mustR; split <;> rfl] at this) (fun hHeld => ?_); clear hK K; (try simp only [Act.put, List.setIfInBounds_toArray, List.set_cons_zero, List.set_cons_succ]))
  (refine Hd.endE (by kernel_rfl) ?_ _)
  have HR2 := Aside0.mk hr2
  have HG2 := Aside0.mk (grown_trans (Below.grown_none (below_drew1 HB1.out) g) hg2)
  have HT2 := Aside0.mk ((hg2.block w.heap.size (by simp; omega) (fun e => by injection e with e; omega)).trans HT0.out)
  have HT3 := Aside0.mk ((hg2.block (w.heap.size + 1) (by simp; omega) (fun e => by injection e with e; omega)).trans HT1.out)
  have hz2 : w.heap.size + 2 ≤ w2.heap.size := by have := hg2.size; simp at this; omega
  have HC2 := Aside0.mk (HI.out.bytes HC.out HG2.out)
  clear hHeld hr2 hg2 HT0 HT1 HB1 HR1 HAL
  have r2 := obj_cell (v := .int .i64 (mustR ⟨(pl : Int), 0⟩ (decide (32 ≤ (b.length : Int) - (pl : Int))) 3).e) HR2.out.blk 2 rfl
  have hms : (mustR ⟨(pl : Int), 0⟩ (decide (32 ≤ (b.length : Int) - (pl : Int))) 3) = ⟨(pl : Int), if 32 ≤ (b.length : Int) - (pl : Int) then 0 else 3⟩ := by
    unfold mustR
    by_cases h : 32 ≤ (b.length : Int) - (pl : Int)
    · rw [if_neg (by simp [h]), if_pos h]
    · rw [if_pos (by simp [h]), if_neg h]
  rw [hms] at HR2 r2
  clear hms
  simp only at r2
  generalize hdd : decide (32 ≤ (b.length : Int) - (pl : Int)) = dd
  clear hdd
  obtain ⟨se, hse⟩ : ∃ se : Int, se = (if 32 ≤ (b.length : Int) - (pl : Int) then 0 else 3) := ⟨_, rfl⟩
  rw [← hse] at HR2 r2
  have HSE := Aside0.mk hse
  clear hse
  go_upto_if 21 with fail
  go_cut [] (fun wx => ∃ (sl : List Int) (s1 : Rs), Aside0 (sumR b ⟨(pl : Int), 0⟩ = (sl, s1)) ∧ Aside0 (sl.length = 32) ∧ Aside0 (Rd wx g A b.length c s1) ∧ Aside0 (w.grownBy wx (some g)) ∧ Aside0 (wx.heap[w.heap.size]? = some (.cells Z 51 (0, 0))) ∧ Aside0 (wx.heap[w.heap.size + 1]? = some (.cells (Pt.mk sl 0).cells.toArray 51 (0, 0))))
  case first =>
    by_cases hs : 32 ≤ (b.length : Int) - (pl : Int)
    · obtain rfl : se = 0 := by rw [HSE.out, if_pos hs]
      have HS := Aside0.mk hs
      obtain ⟨hi, hhi⟩ : ∃ hi, hi = pl + 32 := ⟨_, rfl⟩
      have hw2 : IntKind.i64.wrap ((pl : Int) + 32) = (hi : Int) := by rw [IntWalk.i64_in _ (by omega)]; omega
      obtain ⟨A2, hcut, hCC⟩ := cutLH (Kd.int .u8) 25 5 Try.underlying25 infoU8 A b.length c pl hi (by omega) (by omega) hc
      have HCC := Aside0.mk (fun W (hW : Below w2.heap.size w2 W) => hCC W b (Kd.C_below HC2.out hW))
      clear hCC
      obtain ⟨sl, hsl⟩ : ∃ sl, sl = (b.take hi).drop pl := ⟨_, rfl⟩
      rw [← hsl] at HCC
      rw [show hi - pl = 32 by omega] at hcut HCC
      have HSR : Aside0 (sumR b ⟨(pl : Int), 0⟩ = (sl, ⟨(hi : Int), 0⟩)) := ⟨by
        unfold sumR
        rw [if_pos hs, hsl, hhi]
        simp only [Int.toNat_natCast, List.drop_take]
        congr 2
        omega⟩
      clear hhi hsl
      have hsl32 : sl.length = 32 := (HCC.out w2 (Below.refl _ _)).1
      obtain ⟨ad2, rfl⟩ : ∃ ad, A2 = some ad := by
        obtain ⟨ad, e, _⟩ := (HCC.out w2 (Below.refl _ _)).2.2 (by omega)
        exact ⟨ad, e⟩
      have hat : ∀ w, (Instr.arrayAt 49 (.slice (some ad2) 32 (c - pl))).run Try.prog w = .ok (.pointer (some ad2)) w := fun w => run_arrayAt w 49 _ 32 _ 32 _ Try.underlying49 (by omega)
      have HSL := Aside0.mk hsl32
      have HIS : Aside0 ((Try.prog.info? 49).map (·.size) = some (nums .u8 sl).length) := ⟨infoS32 sl hsl32⟩
      have HIS2 : Aside0 ((Try.prog.info? 49).map (·.size) = some (nums .u8 sl).toArray.size) := ⟨by rw [List.size_toArray]; exact HIS.out⟩
      have HON := Aside0.mk (show (nums .u8 sl).toArray.all (·.oneCell') = true from all_oneCell_toArray (fun v hv => by obtain ⟨x, _, rfl⟩ := List.mem_map.1 hv; rfl))
      clear hs
      go_wp2_with fail
      have hb3 : Below w2.heap.size w2 w2.drew := below_drew1 (Below.refl _ _)
      have HR3 := Aside0.mk (HR2.out.below hb3)
      have HD3 := Aside0.mk (show w2.drew.heap[w.heap.size + 1]? = some (.cells Z 51 (0, 0)) from HT3.out)
      have HD2 := Aside0.mk (show w2.drew.heap[w.heap.size]? = some (.cells Z 51 (0, 0)) from HT2.out)
      have HG3 := Aside0.mk (grown_trans HG2.out (Below.grown_none hb3 g))
      have HTH : Aside0 (w2.drew.there (w.heap.size + 1) 0 (nums .u8 sl).toArray.size) := ⟨fun j hj => by
        have hj2 : 0 + j < Z.size := by rw [← HZ.out, List.size_toArray, ptz_len]; simp [nums, HSL.out] at hj; omega
        refine ⟨?_, frozen_of_row _ _ _ _ _ HD3.out⟩
        rw [cell_of_row _ _ _ _ _ _ HD3.out]
        simp; omega⟩
      (refine Hd.startE (S := (fun X => Below w2.heap.size w2 X ∧ X.cell? ⟨g, 0, none⟩ = some (.slice A b.length c) ∧ X.cell? ⟨g, 1, none⟩ = some (.int .i64 (pl : Int)))) 17 (by kernel_rfl) (⟨hb3, obj_at2 HR3.out⟩) (fun hHeld => ?_))
      (refine Hd.takeE (i := 0) (v := ?_) rfl rfl (by kernel_rfl) (by kernel_rfl) (by kernel_rfl) (by kernel_rfl) (by first | exact fun _ _ _ h => h | exact fun _ _ _ h => HQP.out (by decide) h) (Or.inl ⟨by rfl, ?_⟩) (by assumption) ?_; rotate_left; (focus (intro wS hS; (try go_split_ands); go_simp; all_goals (with_reducible rfl))); simp only [List.set_cons_zero, List.set_cons_succ, List.setIfInBounds_toArray]); (refine Hd.takeE (i := 1) (v := ?_) rfl rfl (by kernel_rfl) (by kernel_rfl) (by kernel_rfl) (by kernel_rfl) (by first | exact fun _ _ _ h => h | exact fun _ _ _ h => HQP.out (by decide) h) (Or.inl ⟨by rfl, ?_⟩) (by assumption) ?_; rotate_left; (focus (intro wS hS; (try go_split_ands); go_simp; all_goals (with_reducible rfl))); simp only [List.set_cons_zero, List.set_cons_succ, List.setIfInBounds_toArray]); (refine Hd.takeE (i := 2) (v := ?_) rfl rfl (by kernel_rfl) (by kernel_rfl) (by kernel_rfl) (by kernel_rfl) (by first | exact fun _ _ _ h => h | exact fun _ _ _ h => HQP.out (by decide) h) (Or.inl ⟨by rfl, ?_⟩) (by assumption) ?_; rotate_left; (focus (intro wS hS; (try go_split_ands); go_simp; all_goals (with_reducible rfl))); simp only [List.set_cons_zero, List.set_cons_succ, List.setIfInBounds_toArray]); (refine Hd.takeE (i := 3) (v := ?_) rfl rfl (by kernel_rfl) (by kernel_rfl) (by kernel_rfl) (by kernel_rfl) (by first | exact fun _ _ _ h => h | exact fun _ _ _ h => HQP.out (by decide) h) (Or.inl ⟨by rfl, ?_⟩) (by assumption) ?_; rotate_left; (focus (intro wS hS; (try go_split_ands); go_simp; all_goals (with_reducible rfl))); simp only [List.set_cons_zero, List.set_cons_succ, List.setIfInBounds_toArray]); (refine Hd.takeE (i := 4) (v := ?_) rfl rfl (by kernel_rfl) (by kernel_rfl) (by kernel_rfl) (by kernel_rfl) (by first | exact fun _ _ _ h => h | exact fun _ _ _ h => HQP.out (by decide) h) (Or.inl ⟨by rfl, ?_⟩) (by assumption) ?_; rotate_left; (focus (intro wS hS; (try go_split_ands); go_simp; all_goals (with_reducible rfl))); simp only [List.set_cons_zero, List.set_cons_succ, List.setIfInBounds_toArray]); (refine Hd.takeE (i := 5) (v := ?_) rfl rfl (by kernel_rfl) (by kernel_rfl) (by kernel_rfl) (by kernel_rfl) (by first | exact fun _ _ _ h => h | exact fun _ _ _ h => HQP.out (by decide) h) (Or.inl ⟨by rfl, ?_⟩) (by assumption) ?_; rotate_left; (focus (intro wS hS; (try go_split_ands); go_simp; all_goals (with_reducible rfl))); simp only [List.set_cons_zero, List.set_cons_succ, List.setIfInBounds_toArray]); (refine Hd.takeE (i := 6) (v := ?_) rfl rfl (by kernel_rfl) (by kernel_rfl) (by kernel_rfl) (by kernel_rfl) (by first | exact fun _ _ _ h => h | exact fun _ _ _ h => HQP.out (by decide) h) (Or.inl ⟨by rfl, ?_⟩) (by assumption) ?_; rotate_left; (focus (intro wS hS; (try go_split_ands); go_simp; all_goals (with_reducible rfl))); simp only [List.set_cons_zero, List.set_cons_succ, List.setIfInBounds_toArray]); (refine Hd.takeE (i := 7) (v := ?_) rfl rfl (by kernel_rfl) (by kernel_rfl) (by kernel_rfl) (by kernel_rfl) (by first | exact fun _ _ _ h => h | exact fun _ _ _ h => HQP.out (by decide) h) (Or.inl ⟨by rfl, ?_⟩) (by assumption) ?_; rotate_left; (focus (intro wS hS; (try go_split_ands); go_simp; all_goals (with_reducible rfl))); simp only [List.set_cons_zero, List.set_cons_succ, List.setIfInBounds_toArray]); (refine Hd.takeE (i := 8) (v := ?_) rfl rfl (by kernel_rfl) (by kernel_rfl) (by kernel_rfl) (by kernel_rfl) (by first | exact fun _ _ _ h => h | exact fun _ _ _ h => HQP.out (by decide) h) (Or.inl ⟨by rfl, ?_⟩) (by assumption) ?_; rotate_left; (focus (intro wS hS; (try go_split_ands); go_simp; all_goals (with_reducible rfl))); simp only [List.set_cons_zero, List.set_cons_succ, List.setIfInBounds_toArray]); (refine Hd.takeE (i := 9) (v := ?_) rfl rfl (by kernel_rfl) (by kernel_rfl) (by kernel_rfl) (by kernel_rfl) (by first | exact fun _ _ _ h => h | exact fun _ _ _ h => HQP.out (by decide) h) (Or.inl ⟨by rfl, ?_⟩) (by assumption) ?_; rotate_left; (focus (intro wS hS; (try go_split_ands); go_simp; all_goals (with_reducible rfl))); simp only [List.set_cons_zero, List.set_cons_succ, List.setIfInBounds_toArray]); (refine Hd.takeE (i := 10) (v := ?_) rfl rfl (by kernel_rfl) (by kernel_rfl) (by kernel_rfl) (by kernel_rfl) (by first | exact fun _ _ _ h => h | exact fun _ _ _ h => HQP.out (by decide) h) (Or.inl ⟨by rfl, ?_⟩) (by assumption) ?_; rotate_left; (focus (intro wS hS; (try go_split_ands); go_simp; all_goals (with_reducible rfl))); simp only [List.set_cons_zero, List.set_cons_succ, List.setIfInBounds_toArray]); (refine Hd.takeE (i := 11) (v := ?_) rfl rfl (by kernel_rfl) (by kernel_rfl) (by kernel_rfl) (by kernel_rfl) (by first | exact fun _ _ _ h => h | exact fun _ _ _ h => HQP.out (by decide) h) (Or.inl ⟨by rfl, ?_⟩) (by assumption) ?_; rotate_left; (focus (intro wS hS; (try go_split_ands); go_simp; all_goals (with_reducible rfl))); simp only [List.set_cons_zero, List.set_cons_succ, List.setIfInBounds_toArray]); (refine Hd.takeE (i := 12) (v := ?_) rfl rfl (by kernel_rfl) (by kernel_rfl) (by kernel_rfl) (by kernel_rfl) (by first | exact fun _ _ _ h => h | exact fun _ _ _ h => HQP.out (by decide) h) (Or.inl ⟨by rfl, ?_⟩) (by assumption) ?_; rotate_left; (focus (intro wS hS; (try go_split_ands); go_simp; all_goals (with_reducible rfl))); simp only [List.set_cons_zero, List.set_cons_succ, List.setIfInBounds_toArray]); (refine Hd.takeE (i := 13) (v := ?_) rfl rfl (by kernel_rfl) (by kernel_rfl) (by kernel_rfl) (by kernel_rfl) (by first | exact fun _ _ _ h => h | exact fun _ _ _ h => HQP.out (by decide) h) (Or.inl ⟨by rfl, ?_⟩) (by assumption) ?_; rotate_left; (focus (intro wS hS; (try go_split_ands); go_simp; all_goals (with_reducible rfl))); simp only [List.set_cons_zero, List.set_cons_succ, List.setIfInBounds_toArray]); (refine Hd.takeE (i := 14) (v := ?_) rfl rfl (by kernel_rfl) (by kernel_rfl) (by kernel_rfl) (by kernel_rfl) (by first | exact fun _ _ _ h => h | exact fun _ _ _ h => HQP.out (by decide) h) (Or.inl ⟨by rfl, ?_⟩) (by assumption) ?_; rotate_left; (focus (intro wS hS; (try go_split_ands); go_simp; all_goals (with_reducible rfl))); simp only [List.set_cons_zero, List.set_cons_succ, List.setIfInBounds_toArray])
      (refine Hd.takeE (i := 15) rfl rfl (by kernel_rfl) (by kernel_rfl) (by kernel_rfl) (by kernel_rfl) (by first | exact fun _ _ _ h => h | exact fun _ _ _ h => HQP.out (by decide) h) (Hd.yieldsIf_load_any (by rfl) 49 _ rfl _ rfl (nums .u8 sl) _ (fun wS hS => row_range (HCC.out _ hS.1)) HUS.out rfl HIS.out) (by assumption) ?_; simp only [List.set_cons_zero, List.set_cons_succ, List.setIfInBounds_toArray])
      (refine Hd.takeE (i := 16) (v := ?_) rfl rfl (by kernel_rfl) (by kernel_rfl) (by kernel_rfl) (by kernel_rfl) (by first | exact fun _ _ _ h => h | exact fun _ _ _ h => HQP.out (by decide) h) (Or.inl ⟨by rfl, ?_⟩) (by assumption) ?_; rotate_left; (focus (intro wS hS; (try go_split_ands); go_simp; all_goals (with_reducible rfl))); simp only [List.set_cons_zero, List.set_cons_succ, List.setIfInBounds_toArray])
      (refine Hd.readyE (rs := [17]) (by kernel_rfl) (by simp) ?_; refine Hd.AllE.last (i := 17) rfl (fun K hK => ?_); (refine Hd.step_of_list rfl ?_; refine wpList_store_mid rfl _ _ _ (by rfl) (w.heap.size + 1) 0 (nums .u8 sl).toArray (by rfl) (by rfl) HTH.out HIS2.out HON.out ?_; refine wpList_nil ?_); refine hK.out _ _ ?_; clear hK K; (try simp only [Act.put, List.setIfInBounds_toArray, List.set_cons_zero, List.set_cons_succ]))
      (refine Hd.endE (by kernel_rfl) ?_ _)
      (try rw [List.toList_toArray])
      obtain ⟨W5, hW5⟩ : ∃ X, X = w2.drew.setCells (w.heap.size + 1) 0 (nums .u8 sl) := ⟨_, rfl⟩
      rw [← hW5]
      have hg5 : w2.drew.grownBy W5 (some (w.heap.size + 1)) := by rw [hW5]; exact grown_sets _ _ _ _
      have HR5 := Aside0.mk (HR3.out.kept hg5 (fun e => by injection e with e; omega))
      have HT5 := Aside0.mk ((hg5.block w.heap.size (by simp; omega) (fun e => by injection e with e; omega)).trans HD2.out)
      have HT6 : Aside0 (W5.heap[w.heap.size + 1]? = some (.cells (Pt.mk sl 0).cells.toArray 51 (0, 0))) := ⟨by rw [hW5, ← Pt.set_sum hsl32, HZ.out]; exact blk_sets _ 0 _ _ HD3.out⟩
      have HG5 : Aside0 (w.grownBy W5 (some g)) := ⟨by rw [hW5]; exact grown_sets_new HG3.out (Nat.le_succ _) _⟩
      have hz5 : w.heap.size + 2 ≤ W5.heap.size := by have := hg5.size; simp at this; omega
      clear hW5 hg5 hHeld hcut hat r2
      have q6 := obj_cell (v := .int .i64 (pl : Int)) HR5.out.blk 1 rfl
      have q7 := obj_free HR5.out.blk 1
      go_wp2_with fail
      go_meet
      have hg6 := obj_grown W5 g 1 (.int .i64 (hi : Int))
      exact ⟨sl, ⟨(hi : Int), 0⟩, HSR, HSL, ⟨HR5.out.setAt _⟩, ⟨grown_trans HG5.out hg6⟩, ⟨(hg6.block _ (by omega) (fun e => by injection e with e; omega)).trans HT5.out⟩, ⟨(hg6.block _ (by omega) (fun e => by injection e with e; omega)).trans HT6.out⟩⟩
    · obtain rfl : se = 3 := by rw [HSE.out, if_neg hs]
      have HSR : Aside0 (sumR b ⟨(pl : Int), 0⟩ = (List.replicate 32 0, ⟨(pl : Int), 3⟩)) := ⟨by unfold sumR; rw [if_neg hs]⟩
      clear hs
      go_wp2_with fail
      go_meet
      exact ⟨_, _, HSR, ⟨rfl⟩, HR2, HG2, HT2, ⟨by rw [HZ.out]; exact HT3.out⟩⟩
  case rest =>
  obtain ⟨sl, s1, HSR, HSL, HR6, HG6, HT6, HT7⟩ := hcut
  rw [HSR.out] at HPR
  clear r2 HT2 HT3 HC2 HG2 HR2
  have hz6 : w.heap.size ≤ wc.heap.size := HG6.out.size
  go_wp2_with fail
  refine (num_calls HR6.out (HI.out.bytes HC.out HG6.out) hc hb hm).mono ?_
  rintro e W7 ⟨rfl, hr7, hg7⟩
  have hz7 : w.heap.size + 2 ≤ wc.heap.size := by have := (Array.getElem?_eq_some_iff.1 HT7.out).1; omega
  have HR7 := Aside0.mk hr7
  have HG7 := Aside0.mk (grown_trans HG6.out hg7)
  have HT8 := Aside0.mk ((hg7.block w.heap.size (by omega) (fun e => by injection e with e; omega)).trans HT6.out)
  have hT9 := (hg7.block (w.heap.size + 1) (by omega) (fun e => by injection e with e; omega)).trans HT7.out
  have hz8 : w.heap.size + 2 ≤ W7.heap.size := by have := hg7.size; omega
  clear hr7 hg7
  (try dsimp only at HPR)
  generalize numR b s1 = NR at *
  obtain ⟨z, s2⟩ := NR
  dsimp only at *
  have c32 := obj_cell (v := .int .i64 0) hT9 32 (by simp [Pt.cells, nums, HSL.out])
  have f32 := obj_free hT9 32
  have hg8 := obj_grown W7 (w.heap.size + 1) 32 (.int .i64 z)
  have hT10 := obj_set hT9 32 (.int .i64 z)
  rw [Pt.set_len HSL.out] at hT10
  have hG8 := grown_set_new HG7.out (p := ⟨w.heap.size + 1, 32, none⟩) (Nat.le_succ _) (.int .i64 z)
  obtain ⟨W8, hW8⟩ : ∃ X, X = W7.setCell ⟨w.heap.size + 1, 32, none⟩ (.int .i64 z) := ⟨_, rfl⟩
  rw [← hW8] at hg8 hT10 hG8
  have HW8 := Aside0.mk hW8
  have hR8 := HR7.out.kept hg8 (fun e => by injection e with e; omega)
  have hT11 := (hg8.block w.heap.size (by omega) (fun e => by injection e with e; omega)).trans HT8.out
  have hD0 : (Pt.mk sl z).cells.length = 33 := by simp [Pt.cells, nums, HSL.out]
  have hON := Pt.one ⟨sl, z⟩
  obtain ⟨D, hD⟩ : ∃ D, D = (Pt.mk sl z).cells := ⟨_, rfl⟩
  rw [← hD] at hT10 hD0 hON
  have HD := Aside0.mk hD
  have HON := Aside0.mk hON
  have HRGD : Aside0 (Hd.RangeA W8 ⟨w.heap.size + 1, 0, none⟩ D) := ⟨fun j v hj => by
    have := obj_cell hT10 j (v := v) (by simpa using hj)
    by_cases hj0 : j = 0
    · subst hj0; simpa [Addr.add] using this
    · simpa [Addr.add, hj0] using this⟩
  have HID : Aside0 ((Try.prog.info? 51).map (·.size) = some D.length) := ⟨by rw [hD0]; kernel_rfl⟩
  have HID2 : Aside0 ((Try.prog.info? 51).map (·.size) = some D.toArray.size) := ⟨by rw [List.size_toArray]; exact HID.out⟩
  have HTH : Aside0 (W8.there w.heap.size 0 D.toArray.size) := ⟨fun j hj => by
    have hj2 : 0 + j < Z.size := by rw [← HZ.out, List.size_toArray, ptz_len]; simp at hj; omega
    refine ⟨?_, frozen_of_row _ _ _ _ _ hT11⟩
    rw [cell_of_row _ _ _ _ _ _ hT11]
    simp; omega⟩
  obtain ⟨W9, hW9⟩ : ∃ X, X = W8.setCells w.heap.size 0 D := ⟨_, rfl⟩
  have HW9 := Aside0.mk hW9
  have hG9 : w.grownBy W9 (some g) := by rw [hW9]; exact grown_sets_new hG8 (Nat.le_refl _) _
  have hR9 : Rd W9 g A b.length c s2 := ⟨by rw [hW9]; exact (setCells_far _ 0 _ (by omega)).trans hR8.blk⟩
  have hL9 : (loadVar 51 ⟨w.heap.size, 0, none⟩).run Try.prog W9 = .ok (.agg D.toArray) W9 := by
    refine Hd.run_load_any W9 ⟨w.heap.size, 0, none⟩ 51 D _ (fun j v hj => ?_) HU.out rfl HID.out
    have h1 := World.rangeAt_setCells_same W8 w.heap.size 0 D (by simpa using HTH.out) j v hj
    rw [Nat.zero_add] at h1
    rw [hW9]
    by_cases hj0 : j = 0
    · subst hj0; simpa [Addr.add] using h1
    · simpa [Addr.add, hj0] using h1
  have HX := Aside0.mk (And.intro hG9 (And.intro hR9 hL9))
  clear hW9 hG9 hR9 hL9 hG8 hT10 hT11 hR8 hW8 hg8 hT9 hD0 hON hD
  go_wp2_with (first
    | ((with_reducible refine gate_ (.load 51 (.tmp 3)) rfl ?_); rw [← HW8.out]; refine Hd.wpList_load_any rfl _ (.tmp 3) rfl _ rfl D _ HRGD.out HU.out rfl HID.out ?_)
    | ((with_reducible refine gate_ (.store 51 (.tmp 2) (.tmp 49)) rfl ?_); refine wpList_store_mid rfl _ _ _ rfl w.heap.size 0 D.toArray rfl rfl HTH.out HID2.out (all_oneCell_toArray HON.out) ?_; rw [List.toList_toArray, ← HW9.out]))
  refine bodyPost_ret (results_cell1 rfl _ _ ⟨w.heap.size, 0, none⟩ _ rfl HX.out.2.2) rfl ⟨?_, ?_, HX.out.1⟩
  · rw [HPR.out, HD.out]
  · rw [HPR.out]; exact HX.out.2.1
end Go.Proofs.Ytbncmffifbcbjaa.WiV
