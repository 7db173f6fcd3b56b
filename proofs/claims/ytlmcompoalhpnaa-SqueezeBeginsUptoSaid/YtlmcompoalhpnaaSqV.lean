/- The finder's match, walked: the longest match by where four bytes stood; condition: the finder stands. -/
import Derived.Test.YtlmcompoalhpnaaSqR
import Derived.Test.YtlmcompoalhpnaaIt
import Derived.RangeFuncBox
namespace Go.Proofs.Ytlmcompoalhpnaa.SqV
open Go Go.RowKit Go.Shelf Go.Maps Go.Proofs.YtlmcompoalhpnaaW.PrintWords Go.Proofs.Ytlmcompoalhpnaa.K Go.Proofs.Ytlmcompoalhpnaa.Mp Go.Proofs.Ytlmcompoalhpnaa.It Go.Proofs.Ytlmcompoalhpnaa.OctS Go.Proofs.Ytlmcompoalhpnaa.OctP Go.Proofs.Ytlmcompoalhpnaa.Oct Go.Proofs.Ytlmcompoalhpnaa.Ap Go.Proofs.Ytlmcompoalhpnaa.SqA Go.Proofs.Ytlmcompoalhpnaa.SqC Go.Proofs.Ytlmcompoalhpnaa.SqM Go.Proofs.Ytlmcompoalhpnaa.SqK Go.Proofs.Ytlmcompoalhpnaa.SqF Go.Proofs.Ytlmcompoalhpnaa.SqJ Go.Proofs.Ytlmcompoalhpnaa.SqR
set_option linter.unusedVariables false
set_option linter.unusedSimpArgs false
attribute [local go_sem] Oper.semAt_some
/-- The best so far, and a place more. -/
def stepB (p : List Int) (i : Nat) (r : Nat × Nat) (j : Nat) : Nat × Nat := if r.1 < lenD p i (i - j) then (lenD p i (i - j), i - j) else r
theorem back_near (p : List Int) (i : Nat) : ∀ (js : List Nat) (r : Nat × Nat), (∀ j ∈ js, i - j ≤ 4096) → backF p i js r = js.foldl (stepB p i) r
  | [], r, _ => rfl
  | j :: js, r, h => by
    show (if 4096 < i - j then r else backF p i js (stepB p i r j)) = _
    rw [if_neg (by have := h j (by simp); omega)]
    exact back_near p i js _ (fun q hq => h q (by simp [hq]))
theorem back_far (p : List Int) (i : Nat) : ∀ (js : List Nat) (j : Nat) (ks : List Nat) (r : Nat × Nat), (∀ q ∈ js, i - q ≤ 4096) → 4096 < i - j → backF p i (js ++ j :: ks) r = js.foldl (stepB p i) r
  | [], j, ks, r, _, hj => by
    show (if 4096 < i - j then r else _) = r
    rw [if_pos hj]
  | q :: js, j, ks, r, h, hj => by
    show (if 4096 < i - q then r else backF p i (js ++ j :: ks) (stepB p i r q)) = _
    rw [if_neg (by have := h q (by simp); omega)]
    exact back_far p i js j ks _ (fun x hx => h x (by simp [hx])) hj
theorem look_V {w : World} {m : Nat} {F : Value → Option Value} {n : Nat} (h : MapF Try.prog 59 w m F n) {k : List Int} {v : Value} (hk : OkKey k) (hv : (F (kV k)).getD (.slice none 0 0) = v) :
    (Instr.lookup 47 (.map (some m)) (kV k) false).run Try.prog w = .ok v w := by
  obtain ⟨l, hl⟩ := key_k k hk
  obtain ⟨_, _, h1, h2⟩ := h.look keyed_k (t := 47) (e := 57) Try.underlying47 zeroIs hl
  cases hf : F (kV k) with
  | none => rw [hf] at hv; rw [← hv]; exact h2 hf
  | some x => rw [hf] at hv; rw [← hv]; exact h1 x hf
def placesOf (ls : List Nat) {n : Nat} (pre : List (Fin n)) : List Nat := pre.map (fun x => ls.getD x.1 0)
theorem places_app (ls : List Nat) {n : Nat} (pre : List (Fin n)) (x : Fin n) : placesOf ls (pre ++ [x]) = placesOf ls pre ++ [ls.getD x.1 0] := by simp [placesOf]
theorem places_all (ls : List Nat) {n : Nat} (hn : n = ls.length) (xs : List (Fin n)) (h : xs.map (·.val) = (List.range n).reverse) : placesOf ls xs = ls.reverse := by
  have e : placesOf ls xs = (xs.map (·.val)).map (fun i => ls.getD i 0) := by
    unfold placesOf
    rw [List.map_map]
    rfl
  rw [e, h, List.map_reverse]
  congr 1
  subst hn
  refine List.ext_getElem (by simp) (fun i h1 h2 => ?_)
  simp at h1
  simp [h1]
theorem places_pre (ls : List Nat) {n : Nat} (hn : n = ls.length) (xs : List (Fin n)) (h : xs.map (·.val) <+: (List.range n).reverse) : placesOf ls xs <+: ls.reverse := by
  have e : placesOf ls xs = (xs.map (·.val)).map (fun i => ls.getD i 0) := by
    unfold placesOf
    rw [List.map_map]
    rfl
  have e2 : ((List.range n).reverse).map (fun i => ls.getD i 0) = ls.reverse := by
    rw [List.map_reverse]
    congr 1
    subst hn
    refine List.ext_getElem (by simp) (fun i h1 h2 => ?_)
    simp at h1
    simp [h1]
  rw [e, ← e2]
  obtain ⟨t, ht⟩ := h
  exact ⟨t.map (fun i => ls.getD i 0), by rw [← List.map_append, ht]⟩
/-- What holds between the rounds. -/
def MatI (B2 : Nat) (wr : World) (p : List Int) (i : Nat) (ls : List Nat) {n : Nat} (pre : List (Fin n)) (W : World) : Prop :=
  ∃ r1 r2 : Nat, (r1, r2) = (placesOf ls pre).foldl (stepB p i) (0, 0) ∧ (∀ j ∈ placesOf ls pre, i - j ≤ 4096) ∧ W.heap[B2]? = some (.cells #[.int .i64 (r1 : Int)] 3 (0, 0)) ∧ W.heap[B2 + 1]? = some (.cells #[.int .i64 (r2 : Int)] 3 (0, 0)) ∧ Chg (fun q => q = B2 ∨ q = B2 + 1) wr W
def MatX (B2 : Nat) (wr : World) (p : List Int) (i : Nat) (ls : List Nat) {n : Nat} (c : Code) (pre : List (Fin n)) (W : World) : Prop :=
  c = .exit 0 ∧ ∃ pre' x, pre = pre' ++ [x] ∧ MatI B2 wr p i ls pre' W ∧ 4096 < i - ls.getD x.1 0
theorem matI_own (B2 : Nat) (wr : World) (p : List Int) (i : Nat) (ls : List Nat) {n : Nat} (hB : B2 + 1 < wr.heap.size) : OwnFrom wr.heap.size (MatI B2 wr p i ls (n := n)) := fun pre W W' row h hg hr => by
  obtain ⟨r1, r2, h1, h2, h3, h4, h5⟩ := h
  have kp : ∀ q, q < wr.heap.size → W'.heap[q]? = W.heap[q]? := fun q hq => hg.block q (Nat.lt_of_lt_of_le hq h5.size) (fun e => by have := (hr q e.symm).1; omega)
  exact ⟨r1, r2, h1, h2, (kp _ (by omega)).trans h3, (kp _ hB).trans h4, ⟨hg.os.trans h5.os, hg.tape.trans h5.tape, hg.output.trans h5.output, Nat.le_trans h5.size hg.size, fun q hq hn => (kp q hq).trans (h5.block q hq hn)⟩⟩
theorem matX_own (B2 : Nat) (wr : World) (p : List Int) (i : Nat) (ls : List Nat) {n : Nat} (hB : B2 + 1 < wr.heap.size) (c : Code) : OwnFrom wr.heap.size (MatX B2 wr p i ls (n := n) c) := fun pre W W' row h hg hr => by
  obtain ⟨h1, pre', x, h2, h3, h4⟩ := h
  exact ⟨h1, pre', x, h2, matI_own B2 wr p i ls hB pre' W W' row h3 hg hr, h4⟩
structure Two (W W' : World) (B2 : Nat) (a b : Value) : Prop where
  one : W'.heap[B2]? = some (.cells #[a] 3 (0, 0))
  two : W'.heap[B2 + 1]? = some (.cells #[b] 3 (0, 0))
  rest : ∀ q, q ≠ B2 → q ≠ B2 + 1 → W'.heap[q]? = W.heap[q]?
  size : W'.heap.size = W.heap.size
  os : W'.os = W.os
  tape : W'.tape = W.tape
  output : W'.output = W.output
theorem two_sets {W : World} {B2 : Nat} {u v a b : Value} (h2 : W.heap[B2]? = some (.cells #[u] 3 (0, 0))) (h3 : W.heap[B2 + 1]? = some (.cells #[v] 3 (0, 0))) :
    Two W ((W.setCell ⟨B2, 0, none⟩ a).setCell ⟨B2 + 1, 0, none⟩ b) B2 a b ∧ Two W ((W.setCell ⟨B2 + 1, 0, none⟩ b).setCell ⟨B2, 0, none⟩ a) B2 a b := by
  refine ⟨⟨?_, ?_, fun q e1 e2 => ?_, ?_, rfl, rfl, rfl⟩, ⟨?_, ?_, fun q e1 e2 => ?_, ?_, rfl, rfl, rfl⟩⟩
  · exact (Below.heap_setCell _ _ _ _ (by show B2 ≠ B2 + 1; omega)).trans (obj_set h2 0 a)
  · exact obj_set ((Below.heap_setCell _ _ _ _ (by show B2 + 1 ≠ B2; omega)).trans h3) 0 b
  · exact (Below.heap_setCell _ _ _ _ e2).trans (Below.heap_setCell _ _ _ _ e1)
  · simp [World.setCell]
  · exact obj_set ((Below.heap_setCell _ _ _ _ (by show B2 ≠ B2 + 1; omega)).trans h2) 0 a
  · exact (Below.heap_setCell _ _ _ _ (by show B2 + 1 ≠ B2; omega)).trans (obj_set h3 0 b)
  · exact (Below.heap_setCell _ _ _ _ e1).trans (Below.heap_setCell _ _ _ _ e2)
  · simp [World.setCell]
set_option maxHeartbeats 4000000 in
set_option maxRecDepth 100000 in
theorem match_calls {w : World} {B0 : Nat} {T : Nat → Prop} {f m : Nat} {A : Option Addr} {c : Nat} {p : List Int} {i : Nat} (h : Fi w B0 T f m A c p i) (hB : Bytes p) (hp : p.length ≤ 8192) (hi : i ≤ p.length) :
    CallsIn Fence.wide 3 Try.prog 22 #[.pointer (some ⟨f, 0, none⟩), .int .i64 (i : Int)] w fun e w' => e = .returned (.tuple #[.int .i64 ((matchP p i).1 : Int), .int .i64 ((matchP p i).2 : Int)]) ∧ w.grownBy w' none := by
  have H := Aside0.mk h
  have hfl := h.f_lt
  have hwi : IntKind.i64.wrap ((i : Int) + 4) = (i : Int) + 4 := IntWalk.i64_in _ (by omega)
  have hal : Below w.heap.size w ((w.alloc (.cells #[.pointer (some ⟨f, 0, none⟩)] 46)).alloc (.cells #[.int .i64 (i : Int)] 3)) := below_alloc (below_alloc (Below.refl _ _) _) _
  have HAL := Aside0.mk hal
  have p0 := (hal.cell (p := ⟨f, 0, none⟩) hfl).trans (fd_cell h.blk)
  by_cases h4 : i + 4 ≤ p.length
  · have d1 : decide ((p.length : Int) < (i : Int) + 4) = false := by simp only [decide_eq_false_iff_not]; omega
    have HI4 := Aside0.mk h4
    clear h hal h4
    refine callsIn_of_wp_marks Try.func22 rfl trivial ?_ rfl
    simp only [Try.ntmps22, List.size_toArray, List.length_cons, List.length_nil, Nat.reduceAdd, Nat.reduceSub, Array.replicate_succ, Array.replicate_zero, List.push_toArray, List.append_toArray, List.nil_append, List.cons_append]
    refine wpIn_wide.2 ?_
    go_wp2_with fail
    have hbx0 : ((w.alloc (.cells #[.pointer (some ⟨f, 0, none⟩)] 46)).alloc (.cells #[.int .i64 (i : Int)] 3)).heap[w.heap.size]? = some (.cells #[.pointer (some ⟨f, 0, none⟩)] 46 (0, 0)) := (Below.heap_alloc _ _ _ (by simp)).trans (heap_alloc_new w _)
    have hbx1 : ((w.alloc (.cells #[.pointer (some ⟨f, 0, none⟩)] 46)).alloc (.cells #[.int .i64 (i : Int)] 3)).heap[w.heap.size + 1]? = some (.cells #[.int .i64 (i : Int)] 3 (0, 0)) := by have := heap_alloc_new (w.alloc (.cells #[.pointer (some ⟨f, 0, none⟩)] 46)) (.cells #[.int .i64 (i : Int)] 3); rwa [World.size_alloc] at this
    have hwz : ((w.alloc (.cells #[.pointer (some ⟨f, 0, none⟩)] 46)).alloc (.cells #[.int .i64 (i : Int)] 3)).heap.size = w.heap.size + 2 := by simp
    generalize ((w.alloc (.cells #[.pointer (some ⟨f, 0, none⟩)] 46)).alloc (.cells #[.int .i64 (i : Int)] 3)) = W0 at *
    have HX0 := Aside0.mk hbx0
    have HX1 := Aside0.mk hbx1
    have b0 := obj_cell (v := .pointer (some ⟨f, 0, none⟩)) hbx0 0 rfl
    have b1 := obj_cell (v := .int .i64 (i : Int)) hbx1 0 rfl
    clear hbx0 hbx1
    refine wp_region_noPanic ?_
    (refine Hd.startE (S := (fun X => X.cell? ⟨w.heap.size, 0, none⟩ = some (.pointer (some ⟨f, 0, none⟩)) ∧ X.cell? ⟨w.heap.size + 1, 0, none⟩ = some (.int .i64 (i : Int)) ∧ X.cell? ⟨f, 0, none⟩ = some (.slice A p.length c))) 1000 (by kernel_rfl) (⟨b0, b1, p0⟩) (fun hHeld => ?_))
    (refine Hd.takeE (i := 0) (v := ?_) rfl rfl (by kernel_rfl) (by kernel_rfl) (by kernel_rfl) (by kernel_rfl) (by first | exact fun _ _ _ h => h | exact fun _ _ _ h => HQP.out (by decide) h) (Or.inl ⟨by rfl, ?_⟩) (by assumption) ?_; rotate_left; (focus (intro wS hS; (try go_split_ands); go_simp; all_goals (with_reducible rfl))); simp only [List.set_cons_zero, List.set_cons_succ, List.setIfInBounds_toArray]); (refine Hd.takeE (i := 1) (v := ?_) rfl rfl (by kernel_rfl) (by kernel_rfl) (by kernel_rfl) (by kernel_rfl) (by first | exact fun _ _ _ h => h | exact fun _ _ _ h => HQP.out (by decide) h) (Or.inl ⟨by rfl, ?_⟩) (by assumption) ?_; rotate_left; (focus (intro wS hS; (try go_split_ands); go_simp; all_goals (with_reducible rfl))); simp only [List.set_cons_zero, List.set_cons_succ, List.setIfInBounds_toArray]); (refine Hd.takeE (i := 2) (v := ?_) rfl rfl (by kernel_rfl) (by kernel_rfl) (by kernel_rfl) (by kernel_rfl) (by first | exact fun _ _ _ h => h | exact fun _ _ _ h => HQP.out (by decide) h) (Or.inl ⟨by rfl, ?_⟩) (by assumption) ?_; rotate_left; (focus (intro wS hS; (try go_split_ands); go_simp; all_goals (with_reducible rfl))); simp only [List.set_cons_zero, List.set_cons_succ, List.setIfInBounds_toArray]); (refine Hd.takeE (i := 3) (v := ?_) rfl rfl (by kernel_rfl) (by kernel_rfl) (by kernel_rfl) (by kernel_rfl) (by first | exact fun _ _ _ h => h | exact fun _ _ _ h => HQP.out (by decide) h) (Or.inl ⟨by rfl, ?_⟩) (by assumption) ?_; rotate_left; (focus (intro wS hS; (try go_split_ands); go_simp; all_goals (with_reducible rfl))); simp only [List.set_cons_zero, List.set_cons_succ, List.setIfInBounds_toArray]); (refine Hd.takeE (i := 4) (v := ?_) rfl rfl (by kernel_rfl) (by kernel_rfl) (by kernel_rfl) (by kernel_rfl) (by first | exact fun _ _ _ h => h | exact fun _ _ _ h => HQP.out (by decide) h) (Or.inl ⟨by rfl, ?_⟩) (by assumption) ?_; rotate_left; (focus (intro wS hS; (try go_split_ands); go_simp; all_goals (with_reducible rfl))); simp only [List.set_cons_zero, List.set_cons_succ, List.setIfInBounds_toArray]); (refine Hd.takeE (i := 5) (v := ?_) rfl rfl (by kernel_rfl) (by kernel_rfl) (by kernel_rfl) (by kernel_rfl) (by first | exact fun _ _ _ h => h | exact fun _ _ _ h => HQP.out (by decide) h) (Or.inl ⟨by rfl, ?_⟩) (by assumption) ?_; rotate_left; (focus (intro wS hS; (try go_split_ands); go_simp; all_goals (with_reducible rfl))); simp only [List.set_cons_zero, List.set_cons_succ, List.setIfInBounds_toArray]); (refine Hd.takeE (i := 6) (v := ?_) rfl rfl (by kernel_rfl) (by kernel_rfl) (by kernel_rfl) (by kernel_rfl) (by first | exact fun _ _ _ h => h | exact fun _ _ _ h => HQP.out (by decide) h) (Or.inl ⟨by rfl, ?_⟩) (by assumption) ?_; rotate_left; (focus (intro wS hS; (try go_split_ands); go_simp; all_goals (with_reducible rfl))); simp only [List.set_cons_zero, List.set_cons_succ, List.setIfInBounds_toArray]); (refine Hd.takeE (i := 7) (v := ?_) rfl rfl (by kernel_rfl) (by kernel_rfl) (by kernel_rfl) (by kernel_rfl) (by first | exact fun _ _ _ h => h | exact fun _ _ _ h => HQP.out (by decide) h) (Or.inl ⟨by rfl, ?_⟩) (by assumption) ?_; rotate_left; (focus (intro wS hS; (try go_split_ands); go_simp; all_goals (with_reducible rfl))); simp only [List.set_cons_zero, List.set_cons_succ, List.setIfInBounds_toArray])
    (refine Hd.endE (by kernel_rfl) ?_ _; refine NoPanic.normal ?_)
    clear b0 b1 p0
    go_wp2_with fail
    obtain ⟨W1, hW1⟩ : ∃ X, X = ((W0.alloc (.cells #[.int .i64 0] 3)).alloc (.cells #[.int .i64 0] 3)).drew := ⟨_, rfl⟩
    rw [← hW1]
    have HB1 : Aside0 (Below w.heap.size w W1) := ⟨by rw [hW1]; exact below_drew1 (below_alloc (below_alloc HAL.out _) _)⟩
    have hz1 : W1.heap.size = w.heap.size + 4 := by rw [hW1]; simp [hwz]
    have old : ∀ q, q < W0.heap.size → W1.heap[q]? = W0.heap[q]? := fun q hq => by
      rw [hW1]
      exact (Below.heap_alloc _ _ _ (by simp; omega)).trans (Below.heap_alloc _ _ _ hq)
    have HX2 : Aside0 (W1.heap[w.heap.size]? = some (.cells #[.pointer (some ⟨f, 0, none⟩)] 46 (0, 0))) := ⟨(old _ (by omega)).trans HX0.out⟩
    have HX3 : Aside0 (W1.heap[w.heap.size + 1]? = some (.cells #[.int .i64 (i : Int)] 3 (0, 0))) := ⟨(old _ (by omega)).trans HX1.out⟩
    have HX4 : Aside0 (W1.heap[w.heap.size + 2]? = some (.cells #[.int .i64 0] 3 (0, 0))) := ⟨by
      rw [hW1, ← hwz]
      exact (Below.heap_alloc _ _ _ (by simp)).trans (heap_alloc_new W0 _)⟩
    have HX5 : Aside0 (W1.heap[w.heap.size + 2 + 1]? = some (.cells #[.int .i64 0] 3 (0, 0))) := ⟨by
      rw [hW1, ← hwz]
      have := heap_alloc_new (W0.alloc (.cells #[.int .i64 0] 3)) (.cells #[.int .i64 0] 3)
      rwa [World.size_alloc] at this⟩
    clear hW1 old HX0 HX1
    have hc := H.out.hc
    obtain ⟨A2, hcut, hCC⟩ := cutLH (Kd.int .u8) 22 5 Try.underlying22 infoU8 A p.length c i (i + 4) (by omega) (by have := HI4.out; omega) hc
    have HKK := Aside0.mk (key_ok hB HI4.out)
    have hkk : (p.take (i + 4)).drop i = keyAt p i := by unfold keyAt; rw [List.drop_take]; congr 1; omega
    have hCC' : ∀ X, Below w.heap.size w X → (Kd.int .u8).C X A2 4 (keyAt p i) := fun X hX => by
      have := hCC X p (Kd.C_below H.out.C hX)
      rw [hkk] at this
      rwa [show i + 4 - i = 4 by omega] at this
    rw [show i + 4 - i = 4 by omega] at hcut
    rw [show ((i + 4 : Nat) : Int) = (i : Int) + 4 by omega] at hcut
    obtain ⟨ad2, rfl⟩ : ∃ ad, A2 = some ad := by
      obtain ⟨ad, e, _⟩ := (hCC' _ (Below.refl _ _)).2.2 (by omega)
      exact ⟨ad, e⟩
    have hat : ∀ w, (Instr.arrayAt 59 (.slice (some ad2) 4 (c - i))).run Try.prog w = .ok (.pointer (some ad2)) w := fun w => run_arrayAt w 59 _ 4 _ 4 _ Try.underlying59 (by omega)
    have HMP : Aside0 (matchP p i = backF p i (SqM.seen p i (keyAt p i)).reverse (0, 0)) := ⟨if_neg (by have := HI4.out; omega)⟩
    generalize keyAt p i = k at *
    have HK4 := Aside0.mk HKK.out.1
    have HCC := Aside0.mk hCC'
    have HUK := Aside0.mk Try.underlying59
    have HIK := Aside0.mk (info4 k HKK.out.1)
    obtain ⟨F, nF, V, hMF, hn, hV⟩ := H.out.map
    obtain ⟨hF, hR, hV0, hVT⟩ := hV k HKK.out
    have hFV : (F (kV k)).getD (.slice none 0 0) = V k := by
      rw [hF]
      by_cases e : SqM.seen p i k = []
      · rw [if_pos e, hV0 e]; rfl
      · rw [if_neg e]; rfl
    have hlook : ∀ X, Below w.heap.size w X → (Instr.lookup 47 (.map (some m)) (kV k) false).run Try.prog X = .ok (V k) X := fun X hX => look_V (hMF.below hX) HKK.out hFV
    have HLK := Aside0.mk hlook
    obtain ⟨Ak, ck, hVk, hlk, hCk⟩ := Kd.R_reads hR
    have HCk := Aside0.mk hCk
    have HAk : Aside0 (∀ a, Ak = some a → a.block < w.heap.size) := ⟨fun a ha => R_lt_size hR _ (by rw [hVk, ha]; rfl)⟩
    have hsl := seen_len p i k
    have HSM : Aside0 (∀ j ∈ SqM.seen p i k, j < i) := ⟨fun j hj => by
      unfold SqM.seen at hj
      have := (List.mem_filter.1 hj).1
      simpa using this⟩
    generalize SqM.seen p i k = ls at *
    rw [hVk] at HLK
    clear hCC hCC' hkk hMF hn hV hF hR hV0 hVT hFV hlook hCk
    have s0 := obj_cell (v := .pointer (some ⟨f, 0, none⟩)) HX2.out 0 rfl
    have s1 := obj_cell (v := .int .i64 (i : Int)) HX3.out 0 rfl
    have s2 := HB1.out.cell (p := ⟨f, 0, none⟩) hfl |>.trans (fd_cell H.out.blk)
    have s3 := HB1.out.cell (p := ⟨f, 1, none⟩) hfl |>.trans (fd_map H.out.blk)
    generalize hL : pl ls = L at *
    have HLL := Aside0.mk hL
    have hLl : L.length ≤ i := by rw [← hL]; simp [pl]; exact hsl
    clear hL hsl
    refine wp_region_noPanic ?_
    (refine Hd.startE (S := (fun X => Below w.heap.size w X ∧ X.cell? ⟨w.heap.size, 0, none⟩ = some (.pointer (some ⟨f, 0, none⟩)) ∧ X.cell? ⟨w.heap.size + 1, 0, none⟩ = some (.int .i64 (i : Int)) ∧ X.cell? ⟨f, 0, none⟩ = some (.slice A p.length c) ∧ X.cell? ⟨f, 1, none⟩ = some (.map (some m)))) 1000 (by kernel_rfl) (⟨below_drew1 HB1.out, s0, s1, s2, s3⟩) (fun hHeld => ?_))
    (refine Hd.takeE (i := 0) (v := ?_) rfl rfl (by kernel_rfl) (by kernel_rfl) (by kernel_rfl) (by kernel_rfl) (by first | exact fun _ _ _ h => h | exact fun _ _ _ h => HQP.out (by decide) h) (Or.inl ⟨by rfl, ?_⟩) (by assumption) ?_; rotate_left; (focus (intro wS hS; (try go_split_ands); go_simp; all_goals (with_reducible rfl))); simp only [List.set_cons_zero, List.set_cons_succ, List.setIfInBounds_toArray]); (refine Hd.takeE (i := 1) (v := ?_) rfl rfl (by kernel_rfl) (by kernel_rfl) (by kernel_rfl) (by kernel_rfl) (by first | exact fun _ _ _ h => h | exact fun _ _ _ h => HQP.out (by decide) h) (Or.inl ⟨by rfl, ?_⟩) (by assumption) ?_; rotate_left; (focus (intro wS hS; (try go_split_ands); go_simp; all_goals (with_reducible rfl))); simp only [List.set_cons_zero, List.set_cons_succ, List.setIfInBounds_toArray]); (refine Hd.takeE (i := 2) (v := ?_) rfl rfl (by kernel_rfl) (by kernel_rfl) (by kernel_rfl) (by kernel_rfl) (by first | exact fun _ _ _ h => h | exact fun _ _ _ h => HQP.out (by decide) h) (Or.inl ⟨by rfl, ?_⟩) (by assumption) ?_; rotate_left; (focus (intro wS hS; (try go_split_ands); go_simp; all_goals (with_reducible rfl))); simp only [List.set_cons_zero, List.set_cons_succ, List.setIfInBounds_toArray]); (refine Hd.takeE (i := 3) (v := ?_) rfl rfl (by kernel_rfl) (by kernel_rfl) (by kernel_rfl) (by kernel_rfl) (by first | exact fun _ _ _ h => h | exact fun _ _ _ h => HQP.out (by decide) h) (Or.inl ⟨by rfl, ?_⟩) (by assumption) ?_; rotate_left; (focus (intro wS hS; (try go_split_ands); go_simp; all_goals (with_reducible rfl))); simp only [List.set_cons_zero, List.set_cons_succ, List.setIfInBounds_toArray]); (refine Hd.takeE (i := 4) (v := ?_) rfl rfl (by kernel_rfl) (by kernel_rfl) (by kernel_rfl) (by kernel_rfl) (by first | exact fun _ _ _ h => h | exact fun _ _ _ h => HQP.out (by decide) h) (Or.inl ⟨by rfl, ?_⟩) (by assumption) ?_; rotate_left; (focus (intro wS hS; (try go_split_ands); go_simp; all_goals (with_reducible rfl))); simp only [List.set_cons_zero, List.set_cons_succ, List.setIfInBounds_toArray]); (refine Hd.takeE (i := 5) (v := ?_) rfl rfl (by kernel_rfl) (by kernel_rfl) (by kernel_rfl) (by kernel_rfl) (by first | exact fun _ _ _ h => h | exact fun _ _ _ h => HQP.out (by decide) h) (Or.inl ⟨by rfl, ?_⟩) (by assumption) ?_; rotate_left; (focus (intro wS hS; (try go_split_ands); go_simp; all_goals (with_reducible rfl))); simp only [List.set_cons_zero, List.set_cons_succ, List.setIfInBounds_toArray]); (refine Hd.takeE (i := 6) (v := ?_) rfl rfl (by kernel_rfl) (by kernel_rfl) (by kernel_rfl) (by kernel_rfl) (by first | exact fun _ _ _ h => h | exact fun _ _ _ h => HQP.out (by decide) h) (Or.inl ⟨by rfl, ?_⟩) (by assumption) ?_; rotate_left; (focus (intro wS hS; (try go_split_ands); go_simp; all_goals (with_reducible rfl))); simp only [List.set_cons_zero, List.set_cons_succ, List.setIfInBounds_toArray]); (refine Hd.takeE (i := 7) (v := ?_) rfl rfl (by kernel_rfl) (by kernel_rfl) (by kernel_rfl) (by kernel_rfl) (by first | exact fun _ _ _ h => h | exact fun _ _ _ h => HQP.out (by decide) h) (Or.inl ⟨by rfl, ?_⟩) (by assumption) ?_; rotate_left; (focus (intro wS hS; (try go_split_ands); go_simp; all_goals (with_reducible rfl))); simp only [List.set_cons_zero, List.set_cons_succ, List.setIfInBounds_toArray]); (refine Hd.takeE (i := 8) (v := ?_) rfl rfl (by kernel_rfl) (by kernel_rfl) (by kernel_rfl) (by kernel_rfl) (by first | exact fun _ _ _ h => h | exact fun _ _ _ h => HQP.out (by decide) h) (Or.inl ⟨by rfl, ?_⟩) (by assumption) ?_; rotate_left; (focus (intro wS hS; (try go_split_ands); go_simp; all_goals (with_reducible rfl))); simp only [List.set_cons_zero, List.set_cons_succ, List.setIfInBounds_toArray]); (refine Hd.takeE (i := 9) (v := ?_) rfl rfl (by kernel_rfl) (by kernel_rfl) (by kernel_rfl) (by kernel_rfl) (by first | exact fun _ _ _ h => h | exact fun _ _ _ h => HQP.out (by decide) h) (Or.inl ⟨by rfl, ?_⟩) (by assumption) ?_; rotate_left; (focus (intro wS hS; (try go_split_ands); go_simp; all_goals (with_reducible rfl))); simp only [List.set_cons_zero, List.set_cons_succ, List.setIfInBounds_toArray]); (refine Hd.takeE (i := 10) (v := ?_) rfl rfl (by kernel_rfl) (by kernel_rfl) (by kernel_rfl) (by kernel_rfl) (by first | exact fun _ _ _ h => h | exact fun _ _ _ h => HQP.out (by decide) h) (Or.inl ⟨by rfl, ?_⟩) (by assumption) ?_; rotate_left; (focus (intro wS hS; (try go_split_ands); go_simp; all_goals (with_reducible rfl))); simp only [List.set_cons_zero, List.set_cons_succ, List.setIfInBounds_toArray]); (refine Hd.takeE (i := 11) (v := ?_) rfl rfl (by kernel_rfl) (by kernel_rfl) (by kernel_rfl) (by kernel_rfl) (by first | exact fun _ _ _ h => h | exact fun _ _ _ h => HQP.out (by decide) h) (Or.inl ⟨by rfl, ?_⟩) (by assumption) ?_; rotate_left; (focus (intro wS hS; (try go_split_ands); go_simp; all_goals (with_reducible rfl))); simp only [List.set_cons_zero, List.set_cons_succ, List.setIfInBounds_toArray]); (refine Hd.takeE (i := 12) (v := ?_) rfl rfl (by kernel_rfl) (by kernel_rfl) (by kernel_rfl) (by kernel_rfl) (by first | exact fun _ _ _ h => h | exact fun _ _ _ h => HQP.out (by decide) h) (Or.inl ⟨by rfl, ?_⟩) (by assumption) ?_; rotate_left; (focus (intro wS hS; (try go_split_ands); go_simp; all_goals (with_reducible rfl))); simp only [List.set_cons_zero, List.set_cons_succ, List.setIfInBounds_toArray])
    (refine Hd.takeE (i := 13) rfl rfl (by kernel_rfl) (by kernel_rfl) (by kernel_rfl) (by kernel_rfl) (by first | exact fun _ _ _ h => h | exact fun _ _ _ h => HQP.out (by decide) h) (Hd.yieldsIf_load_any (by rfl) 59 _ rfl _ rfl (nums .u8 k) _ (fun wS hS => (C_range (by rw [HK4.out]; exact HCC.out _ hS.1))) HUK.out rfl HIK.out) (by assumption) ?_; simp only [List.set_cons_zero, List.set_cons_succ, List.setIfInBounds_toArray])
    (refine Hd.takeE (i := 14) (v := (.slice Ak L.length ck)) rfl rfl (by kernel_rfl) (by kernel_rfl) (by kernel_rfl) (by kernel_rfl) (by first | exact fun _ _ _ h => h | exact fun _ _ _ h => HQP.out (by decide) h) (Or.inl ⟨by rfl, fun wS hS => (by have := HLK.out _ hS.1; go_simp)⟩) (by assumption) ?_; simp only [List.set_cons_zero, List.set_cons_succ, List.setIfInBounds_toArray])
    have hB2 : Below w.heap.size w (W1.drew.alloc (.cells #[.slice Ak L.length ck] 57)) := below_alloc (below_drew1 HB1.out) _
    have hal4 : ∀ q, q < W1.heap.size → (W1.drew.alloc (.cells #[.slice Ak L.length ck] 57)).heap[q]? = W1.heap[q]? := fun q hq => Below.heap_alloc _ _ _ hq
    (refine Hd.readyE (rs := [15]) (by kernel_rfl) (by simp) ?_; refine Hd.AllE.cons (i := 15) rfl (fun K hK => ?_) Hd.AllE.nil; (go_simp; refine (backI_calls _ _ _ _).mono ?_; rintro e w5 ⟨rfl, rfl⟩); refine hK.out _ _ (⟨hB2, obj_cell ((hal4 _ (by omega)).trans HX2.out) 0 rfl, obj_cell ((hal4 _ (by omega)).trans HX3.out) 0 rfl, (hB2.cell (p := ⟨f, 0, none⟩) hfl).trans (fd_cell H.out.blk), (hB2.cell (p := ⟨f, 1, none⟩) hfl).trans (fd_map H.out.blk)⟩) (fun hHeld => ?_); clear hK K; (try simp only [Act.put, List.setIfInBounds_toArray, List.set_cons_zero, List.set_cons_succ]))
    (refine Hd.endE (by kernel_rfl) ?_ _; refine NoPanic.normal ?_)
    clear hcut hat s0 s1 s2 s3
    obtain ⟨wr, hwr⟩ : ∃ X, X = W1.drew.alloc (.cells #[.slice Ak L.length ck] 57) := ⟨_, rfl⟩
    rw [← hwr]
    have hbw : W1.drew.heap.size = w.heap.size + 4 := hz1
    rw [hbw]
    have HBW : Aside0 (Below w.heap.size w wr) := ⟨by rw [hwr]; exact hB2⟩
    have hwz5 : wr.heap.size = w.heap.size + 5 := by rw [hwr]; simp [hz1]
    rw [← hwr] at hal4
    have HY0 := Aside0.mk ((hal4 (w.heap.size) (by omega)).trans HX2.out)
    have HY1 := Aside0.mk ((hal4 (w.heap.size + 1) (by omega)).trans HX3.out)
    have HY2 := Aside0.mk ((hal4 (w.heap.size + 2) (by omega)).trans HX4.out)
    have HY3 := Aside0.mk ((hal4 (w.heap.size + 2 + 1) (by omega)).trans HX5.out)
    have HY4 : Aside0 (wr.heap[w.heap.size + 4]? = some (.cells #[.slice Ak L.length ck] 57 (0, 0))) := ⟨by rw [hwr, ← hbw]; exact heap_alloc_new W1.drew _⟩
    clear hwr hB2 hal4 hbw HX2 HX3 HX4 HX5 HB1 hHeld
    go_wp2_with fail
    have FINW : Aside0 (∀ (D : Nat) (W : World), wr.heap.size ≤ D → W.heap[D]? = some (.deferred (some [])) → Chg (fun q => q = w.heap.size + 2 ∨ q = w.heap.size + 2 + 1) wr W → w.grownBy (W.drew.putObj D (.deferred none)) none) := ⟨fun D W hD hd hch => by
      have hgd := grownBy_putObj' W.drew D (.deferred none)
      have hs := hch.size
      exact ⟨hgd.os.trans (hch.os.trans HBW.out.os), hgd.tape.trans (hch.tape.trans HBW.out.tape), hgd.output.trans (hch.output.trans HBW.out.output), Nat.le_trans (show w.heap.size ≤ W.drew.heap.size from by show w.heap.size ≤ W.heap.size; omega) hgd.size, fun q hq _ => (hgd.block q (by show q < W.heap.size; omega) (fun e => by injection e with e; omega)).trans ((hch.block q (by omega) (fun h => by omega)).trans (HBW.out.block q hq))⟩⟩
    have HLls : Aside0 (L.length = ls.length) := ⟨by rw [← HLL.out]; simp [pl]⟩
    refine (wpIn_wide (n := 3)).1 ?_
    refine wpIn_rangeFunc_ownH rfl (by decide) (gf := 27) (lb := #[.pointer (some ⟨w.heap.size + 4, 0, none⟩)]) rfl trivial (enters_of Try.func27 (by kernel_rfl) rfl)
      (backI_stops (3 - 1) (by decide) (w.heap.size + 4) Ak ck L (fun q => q = w.heap.size + 4 ∨ ∃ a, Ak = some a ∧ q = a.block) wr (.inl rfl) (fun a ha => .inr ⟨a, ha, rfl⟩) (by omega) (fun a ha => by have := HAk.out a ha; omega) (obj_cell HY4.out 0 rfl) (Kd.C_below HCk.out HBW.out))
      keepR_t (keepR_b (fun q hq => by rcases hq with rfl | ⟨a, ha, rfl⟩; (· omega); (· have := HAk.out a ha; omega))) (Below.refl _ _) (fun _ => rfl) (MatI (w.heap.size + 2) wr p i ls) (MatX (w.heap.size + 2) wr p i ls) (matI_own _ _ _ _ _ (by omega)) (fun cc => matX_own _ _ _ _ _ (by omega) cc) ⟨0, 0, rfl, fun j hj => by simp [placesOf] at hj, HY2.out, HY3.out, Chg.of (World.grownBy.refl _ none) (fun r e => by cases e)⟩
      (fun x a' W => a' = { tmps := #[.pointer (some ⟨f, 0, none⟩), .int .i64 (i : Int), .pointer (some ⟨w.heap.size, 0, none⟩), .pointer (some ⟨w.heap.size + 1, 0, none⟩), .int .i64 0, .int .i64 0, .pointer (some ⟨w.heap.size + 2, 0, none⟩), .pointer (some ⟨w.heap.size + 2 + 1, 0, none⟩), undef, .int .i64 L[x.1], undef, .int .i64 (i : Int), .int .i64 ((i : Int) + 4), .pointer (some ⟨f, 0, none⟩), .pointer (some ⟨f, 0, none⟩), .pointer (some ⟨f, 0, none⟩), .slice A p.length c, .int .i64 (p.length : Int), .bool false, .pointer (some ⟨f, 0, none⟩), .pointer (some ⟨f, 0, none⟩), .pointer (some ⟨f, 1, none⟩), .map (some m), .pointer (some ⟨f, 0, none⟩), .pointer (some ⟨f, 0, none⟩), .pointer (some ⟨f, 0, none⟩), .slice A p.length c, .int .i64 (i : Int), .int .i64 (i : Int), .int .i64 ((i : Int) + 4), .slice (some ad2) 4 (c - i), .pointer (some ad2), .agg (nums .u8 k).toArray, .slice Ak L.length ck, .func (.func 27) #[] #[.pointer (some ⟨w.heap.size + 4, 0, none⟩)], .int .i64 (x.1 : Int), .int .i64 L[x.1], undef, undef, undef, undef, undef, undef, undef, undef, undef, undef, undef, undef, undef, undef, undef, undef, undef], defers := [] }) ?ax ?assign ?body ?done ?stop
    case ax =>
      intro x a' _ W W' row hI hg hr
      exact hI
    case assign =>
      intro l pre x W K hI hK
      have HK := Aside0.mk (hK _ W (KeepsFrom.refl _ _) ⟨Nat.le_refl _, fun _ _ _ => rfl⟩ hI rfl)
      clear hI hK
      simp only [encI] at HK ⊢
      gi_wp2
      exact HK.out
    case body =>
      rintro l pre x a' W hlw hlr ⟨r1, r2, hr, hnear, hc1, hc2, hch⟩ rfl hlt
      have hxl : x.1 < ls.length := by have := HLls.out; have := x.2; omega
      obtain ⟨j, hj⟩ : ∃ j, j = ls.getD x.1 0 := ⟨_, rfl⟩
      have hLx : L[x.1] = (j : Int) := by
        have e : L.getD x.1 0 = L[x.1] := by simp [x.2]
        rw [← e, hj]
        have e2 : ∀ q : Nat, L.getD q 0 = ((ls.getD q 0 : Nat) : Int) := fun q => by
          rw [← HLL.out]
          unfold pl
          rw [List.getD_eq_getElem?_getD, List.getD_eq_getElem?_getD, List.getElem?_map]
          cases ls[q]? <;> rfl
        exact e2 _
      rw [hLx]
      have hji : j < i := HSM.out j (by rw [hj, List.getD_eq_getElem?_getD, List.getElem?_eq_getElem hxl]; exact List.getElem_mem hxl)
      obtain ⟨d, hd⟩ : ∃ d, d = i - j := ⟨_, rfl⟩
      have hwd : IntKind.i64.wrap ((i : Int) - (j : Int)) = (d : Int) := by rw [IntWalk.i64_in _ (by omega)]; omega
      have same : ∀ q, q < wr.heap.size → q ≠ w.heap.size + 2 → q ≠ w.heap.size + 2 + 1 → W.heap[q]? = wr.heap[q]? := fun q hq h1 h2 => hch.block q hq (fun h => h.elim h1 h2)
      have HSA := Aside0.mk same
      have cb0 := obj_cell (v := .pointer (some ⟨f, 0, none⟩)) ((same _ (by omega) (by omega) (by omega)).trans HY0.out) 0 rfl
      have cb1 := obj_cell (v := .int .i64 (i : Int)) ((same _ (by omega) (by omega) (by omega)).trans HY1.out) 0 rfl
      have hF : W.heap[f]? = some (fd A p.length c m) := (same f (by omega) (by omega) (by omega)).trans ((HBW.out.block f hfl).trans H.out.blk)
      have hCp : (Kd.int .u8).C W A p.length p := C_same H.out.C (fun a ha => by
        have hl := (H.out.al a ha).2
        exact (same _ (by omega) (by omega) (by omega)).trans (HBW.out.block _ hl))
      have hlong := long_calls f m c A p i d W hF hCp hp hi (by omega)
      rw [show i - d = j by omega] at hlong
      have HLG := Aside0.mk hlong
      have HC1 := Aside0.mk hc1
      have HC2 := Aside0.mk hc2
      have HCH := Aside0.mk hch
      have HRR := Aside0.mk hr
      have HNR := Aside0.mk hnear
      have HJ := Aside0.mk hj
      have HD := Aside0.mk hd
      have hWw : wr.heap.size ≤ W.heap.size := hch.size
      have HXL := Aside0.mk hxl
      clear hlong hF hCp same hch hr hnear hj hxl hLx hlt hd hc1 hc2
      by_cases hfar : 4096 < d
      · have e1 : decide ((4096 : Int) < (d : Int)) = true := by simp only [decide_eq_true_eq]; omega
        have e1' : decide (4096 < d) = true := decide_eq_true hfar
        have HFAR := Aside0.mk hfar
        clear hfar
        gi_wp2
        exact ⟨KeepsFrom.refl _ _, rfl, pre, x, rfl, ⟨r1, r2, HRR.out, HNR.out, HC1.out, HC2.out, HCH.out⟩, by rw [← HJ.out, ← HD.out]; exact HFAR.out⟩
      · have e1 : decide ((4096 : Int) < (d : Int)) = false := by simp only [decide_eq_false_iff_not]; omega
        have e1' : decide (4096 < d) = false := decide_eq_false hfar
        have HNF := Aside0.mk hfar
        clear hfar
        have HSTEP : Aside0 ((placesOf ls (pre ++ [x])).foldl (stepB p i) (0, 0) = stepB p i (r1, r2) j) := ⟨by rw [places_app, List.foldl_append, ← HRR.out, ← HJ.out]; rfl⟩
        have HNEAR2 : Aside0 (∀ q ∈ placesOf ls (pre ++ [x]), i - q ≤ 4096) := ⟨fun q hq => by
          rw [places_app] at hq
          rcases List.mem_append.1 hq with h | h
          · exact HNR.out q h
          · rw [List.mem_singleton.1 h, ← HJ.out, ← HD.out]; have := HNF.out; omega⟩
        have hld : (stepB p i (r1, r2) j) = if r1 < lenD p i d then (lenD p i d, d) else (r1, r2) := by unfold stepB; rw [HD.out]
        rw [hld] at HSTEP
        clear hld
        have hle := lenD_le p i d
        generalize lenD p i d = N at *
        by_cases hb : r1 < N
        · have e2 : decide ((r1 : Int) < (N : Int)) = true := by simp only [decide_eq_true_eq]; omega
          have e2' : decide (r1 < N) = true := decide_eq_true hb
          have HS2 : Aside0 ((N, d) = (placesOf ls (pre ++ [x])).foldl (stepB p i) (0, 0)) := ⟨by rw [HSTEP.out, if_pos hb]⟩
          clear hb HSTEP
          gi_wp2_with (refine ⟨trivial, ?_⟩; gi_at_call 26; (with_reducible refine (CallsIn.inRound l (callsIn_wide.2 HLG.out)).mono ?_); rintro e W2 ⟨rfl, hb2⟩; have HB2 := Aside0.mk hb2; have hb2z := hb2.size; have k2 := (hb2.block (w.heap.size + 2) (by omega)).trans HC1.out; have k3 := (hb2.block (w.heap.size + 2 + 1) (by omega)).trans HC2.out; have HK2 := Aside0.mk k2; have HK3 := Aside0.mk k3; have q2 := obj_cell (v := .int .i64 (r1 : Int)) k2 0 rfl; have q1 := hb2.cell (p := ⟨w.heap.size + 1, 0, none⟩) (by show w.heap.size + 1 < W.heap.size; omega) |>.trans cb1; clear hb2 k2 k3)
          have g2 : W2.drew.heap[w.heap.size + 2]? = some (.cells #[.int .i64 (r1 : Int)] 3 (0, 0)) := HK2.out
          have g3 : W2.drew.heap[w.heap.size + 2 + 1]? = some (.cells #[.int .i64 (r2 : Int)] 3 (0, 0)) := HK3.out
          have q1' : W2.drew.cell? ⟨w.heap.size + 1, 0, none⟩ = some (.int .i64 (i : Int)) := q1
          have c2 := obj_cell (v := .int .i64 (r1 : Int)) g2 0 rfl
          have f2 := obj_free g2 0
          have c3 := obj_cell (v := .int .i64 (r2 : Int)) g3 0 rfl
          have f3 := obj_free g3 0
          have G2 := Aside0.mk g2
          have G3 := Aside0.mk g3
          have g3b : (W2.drew.setCell ⟨w.heap.size + 2, 0, none⟩ (.int .i64 (N : Int))).heap[w.heap.size + 2 + 1]? = _ := (Below.heap_setCell _ _ _ _ (by show w.heap.size + 2 + 1 ≠ w.heap.size + 2; omega)).trans g3
          have c3b : (W2.setCell ⟨w.heap.size + 2, 0, none⟩ (.int .i64 (N : Int))).drew.cell? ⟨w.heap.size + 2 + 1, 0, none⟩ = some (.int .i64 (r2 : Int)) := obj_cell (v := .int .i64 (r2 : Int)) g3b 0 rfl
          have f3b : (W2.setCell ⟨w.heap.size + 2, 0, none⟩ (.int .i64 (N : Int))).drew.frozen? ⟨w.heap.size + 2 + 1, 0, none⟩ = false := obj_free g3b 0
          have hT := two_sets (a := .int .i64 (N : Int)) (b := .int .i64 (d : Int)) g2 g3
          have HT := Aside0.mk hT
          have q1a : (W2.drew.setCell ⟨w.heap.size + 2, 0, none⟩ (.int .i64 (N : Int))).cell? ⟨w.heap.size + 1, 0, none⟩ = some (.int .i64 (i : Int)) := (World.cell?_of_block (a := ⟨w.heap.size + 1, 0, none⟩) (Below.heap_setCell _ _ _ _ (by show w.heap.size + 1 ≠ w.heap.size + 2; omega))).trans q1'
          have q1c : ((W2.drew.setCell ⟨w.heap.size + 2, 0, none⟩ (.int .i64 (N : Int))).setCell ⟨w.heap.size + 2 + 1, 0, none⟩ (.int .i64 (d : Int))).cell? ⟨w.heap.size + 1, 0, none⟩ = some (.int .i64 (i : Int)) := (World.cell?_of_block (a := ⟨w.heap.size + 1, 0, none⟩) (Below.heap_setCell _ _ _ _ (by show w.heap.size + 1 ≠ w.heap.size + 2 + 1; omega))).trans q1a
          have FIN : Aside0 (∀ W9, Two W2.drew W9 (w.heap.size + 2) (.int .i64 (N : Int)) (.int .i64 (d : Int)) → KeepsFrom wr.heap.size W W9 ∧ KeepR (fun q => q = w.heap.size + 4 ∨ ∃ a, Ak = some a ∧ q = a.block) W W9 ∧ MatI (w.heap.size + 2) wr p i ls (pre ++ [x]) W9) := ⟨fun W9 t => by
            have hz : W.heap.size ≤ W9.heap.size := by rw [t.size]; exact HB2.out.size
            have hs : ∀ q, q < W.heap.size → q ≠ w.heap.size + 2 → q ≠ w.heap.size + 2 + 1 → W9.heap[q]? = W.heap[q]? := fun q hq h1 h2 => (t.rest q h1 h2).trans (HB2.out.block q hq)
            refine ⟨⟨hz, fun q o hq ho hc => (hs q (Array.getElem?_eq_some_iff.1 ho).1 (by omega) (by omega)).trans ho⟩, ⟨hz, fun q hq hl => hs q hl (fun e => ?_) (fun e => ?_)⟩, N, d, HS2.out, HNEAR2.out, t.one, t.two, HCH.out.trans ⟨t.os.trans HB2.out.os, t.tape.trans HB2.out.tape, t.output.trans HB2.out.output, hz, fun q hq hn => hs q hq (fun e => hn (.inl e)) (fun e => hn (.inr e))⟩⟩
            · rcases hq with h | ⟨a, ha, h⟩
              · omega
              · have := HAk.out a ha; omega
            · rcases hq with h | ⟨a, ha, h⟩
              · omega
              · have := HAk.out a ha; omega⟩
          clear hT g2 g3 g3b
          (refine Hd.startI (S := (fun X => X.cell? ⟨w.heap.size + 1, 0, none⟩ = some (.int .i64 (i : Int)))) 1000 (by kernel_rfl) (by kernel_rfl) (q1') (fun hHeld => ?_))
          (refine Hd.takeE (i := 0) (v := ?_) rfl rfl (by kernel_rfl) (by kernel_rfl) (by kernel_rfl) (by kernel_rfl) (by first | exact fun _ _ _ h => h | exact fun _ _ _ h => HQP.out (by decide) h) (Or.inl ⟨by rfl, ?_⟩) (by assumption) ?_; rotate_left; (focus (intro wS hS; (try go_split_ands); go_simp; all_goals (with_reducible rfl))); simp only [List.set_cons_zero, List.set_cons_succ, List.setIfInBounds_toArray]); (refine Hd.takeE (i := 1) (v := ?_) rfl rfl (by kernel_rfl) (by kernel_rfl) (by kernel_rfl) (by kernel_rfl) (by first | exact fun _ _ _ h => h | exact fun _ _ _ h => HQP.out (by decide) h) (Or.inl ⟨by rfl, ?_⟩) (by assumption) ?_; rotate_left; (focus (intro wS hS; (try go_split_ands); go_simp; all_goals (with_reducible rfl))); simp only [List.set_cons_zero, List.set_cons_succ, List.setIfInBounds_toArray]); (refine Hd.takeE (i := 2) (v := ?_) rfl rfl (by kernel_rfl) (by kernel_rfl) (by kernel_rfl) (by kernel_rfl) (by first | exact fun _ _ _ h => h | exact fun _ _ _ h => HQP.out (by decide) h) (Or.inl ⟨by rfl, ?_⟩) (by assumption) ?_; rotate_left; (focus (intro wS hS; (try go_split_ands); go_simp; all_goals (with_reducible rfl))); simp only [List.set_cons_zero, List.set_cons_succ, List.setIfInBounds_toArray]); (refine Hd.takeE (i := 3) (v := ?_) rfl rfl (by kernel_rfl) (by kernel_rfl) (by kernel_rfl) (by kernel_rfl) (by first | exact fun _ _ _ h => h | exact fun _ _ _ h => HQP.out (by decide) h) (Or.inl ⟨by rfl, ?_⟩) (by assumption) ?_; rotate_left; (focus (intro wS hS; (try go_split_ands); go_simp; all_goals (with_reducible rfl))); simp only [List.set_cons_zero, List.set_cons_succ, List.setIfInBounds_toArray])
          (refine Hd.readyE (rs := [4]) (by kernel_rfl) (by simp) ?_; refine Hd.AllE.cons (i := 4) rfl (fun K hK => ?_) Hd.AllE.nil; go_simp; refine hK.out _ _ (q1a) (fun hHeld => ?_); clear hK K; (try simp only [Act.put, List.setIfInBounds_toArray, List.set_cons_zero, List.set_cons_succ]))
          (refine Hd.readyE (rs := [5]) (by kernel_rfl) (by simp) ?_; refine Hd.AllE.cons (i := 5) rfl (fun K hK => ?_) Hd.AllE.nil; go_simp; refine hK.out _ _ (q1c) (fun hHeld => ?_); clear hK K; (try simp only [Act.put, List.setIfInBounds_toArray, List.set_cons_zero, List.set_cons_succ]))
          (refine Hd.endE (by kernel_rfl) ?_ _)
          exact FIN.out _ HT.out.1
        · have e2 : decide ((r1 : Int) < (N : Int)) = false := by simp only [decide_eq_false_iff_not]; omega
          have e2' : decide (r1 < N) = false := decide_eq_false hb
          have HS2 : Aside0 ((r1, r2) = (placesOf ls (pre ++ [x])).foldl (stepB p i) (0, 0)) := ⟨by rw [HSTEP.out, if_neg hb]⟩
          clear hb HSTEP
          gi_wp2_with (refine ⟨trivial, ?_⟩; gi_at_call 26; (with_reducible refine (CallsIn.inRound l (callsIn_wide.2 HLG.out)).mono ?_); rintro e W2 ⟨rfl, hb2⟩; have HB2 := Aside0.mk hb2; have hb2z := hb2.size; have k2 := (hb2.block (w.heap.size + 2) (by omega)).trans HC1.out; have k3 := (hb2.block (w.heap.size + 2 + 1) (by omega)).trans HC2.out; have HK2 := Aside0.mk k2; have HK3 := Aside0.mk k3; have q2 := obj_cell (v := .int .i64 (r1 : Int)) k2 0 rfl; have q1 := hb2.cell (p := ⟨w.heap.size + 1, 0, none⟩) (by show w.heap.size + 1 < W.heap.size; omega) |>.trans cb1; clear hb2 k2 k3)
          exact ⟨⟨HB2.out.size, fun q o hq ho hc => (HB2.out.block q (Array.getElem?_eq_some_iff.1 ho).1).trans ho⟩, keepR_below HB2.out, r1, r2, HS2.out, HNEAR2.out, HK2.out, HK3.out, HCH.out.trans (Chg.of (row := none) ⟨HB2.out.os, HB2.out.tape, HB2.out.output, HB2.out.size, fun k hk _ => HB2.out.block k hk⟩ (fun r e => by cases e))⟩
    case done =>
      rintro D xs W hDl hS ⟨r1, r2, hr, hnear, hc1, hc2, hch⟩ hD
      have hpl := places_all ls HLls.out xs hS
      rw [hpl] at hr hnear
      have HM : Aside0 (matchP p i = (r1, r2)) := ⟨by rw [HMP.out, back_near p i _ _ hnear, ← hr]⟩
      have HC1 := Aside0.mk hc1
      have HC2 := Aside0.mk hc2
      have HCH := Aside0.mk hch
      have HDD := Aside0.mk hD
      have hWw : wr.heap.size ≤ W.heap.size := hch.size
      have c2 := obj_cell (v := .int .i64 (r1 : Int)) hc1 0 rfl
      have c3 := obj_cell (v := .int .i64 (r2 : Int)) hc2 0 rfl
      clear hr hnear hc1 hc2 hch hD hS hpl
      go_wp2_with fail
      refine wp_region_noPanic ?_
      (refine Hd.startE (S := (fun X => X.cell? ⟨w.heap.size + 2, 0, none⟩ = some (.int .i64 (r1 : Int)) ∧ X.cell? ⟨w.heap.size + 2 + 1, 0, none⟩ = some (.int .i64 (r2 : Int)))) 1000 (by kernel_rfl) (⟨c2, c3⟩) (fun hHeld => ?_))
      (refine Hd.takeE (i := 0) (v := ?_) rfl rfl (by kernel_rfl) (by kernel_rfl) (by kernel_rfl) (by kernel_rfl) (by first | exact fun _ _ _ h => h | exact fun _ _ _ h => HQP.out (by decide) h) (Or.inl ⟨by rfl, ?_⟩) (by assumption) ?_; rotate_left; (focus (intro wS hS; (try go_split_ands); go_simp; all_goals (with_reducible rfl))); simp only [List.set_cons_zero, List.set_cons_succ, List.setIfInBounds_toArray]); (refine Hd.takeE (i := 1) (v := ?_) rfl rfl (by kernel_rfl) (by kernel_rfl) (by kernel_rfl) (by kernel_rfl) (by first | exact fun _ _ _ h => h | exact fun _ _ _ h => HQP.out (by decide) h) (Or.inl ⟨by rfl, ?_⟩) (by assumption) ?_; rotate_left; (focus (intro wS hS; (try go_split_ands); go_simp; all_goals (with_reducible rfl))); simp only [List.set_cons_zero, List.set_cons_succ, List.setIfInBounds_toArray]); (refine Hd.takeE (i := 2) (v := ?_) rfl rfl (by kernel_rfl) (by kernel_rfl) (by kernel_rfl) (by kernel_rfl) (by first | exact fun _ _ _ h => h | exact fun _ _ _ h => HQP.out (by decide) h) (Or.inl ⟨by rfl, ?_⟩) (by assumption) ?_; rotate_left; (focus (intro wS hS; (try go_split_ands); go_simp; all_goals (with_reducible rfl))); simp only [List.set_cons_zero, List.set_cons_succ, List.setIfInBounds_toArray]); (refine Hd.takeE (i := 3) (v := ?_) rfl rfl (by kernel_rfl) (by kernel_rfl) (by kernel_rfl) (by kernel_rfl) (by first | exact fun _ _ _ h => h | exact fun _ _ _ h => HQP.out (by decide) h) (Or.inl ⟨by rfl, ?_⟩) (by assumption) ?_; rotate_left; (focus (intro wS hS; (try go_split_ands); go_simp; all_goals (with_reducible rfl))); simp only [List.set_cons_zero, List.set_cons_succ, List.setIfInBounds_toArray])
      (refine Hd.endE (by kernel_rfl) ?_ _; refine NoPanic.normal ?_)
      go_wp2
      refine ⟨by simp, .inl ⟨_, _, rfl, run_takeDeferred (show W.drew.heap[D]? = some (.deferred (some [])) from HDD.out), ?_⟩⟩
      exact ⟨_, results_tmp2 rfl _ _ _, by rw [HM.out]; rfl, FINW.out D W hDl HDD.out HCH.out⟩
    case stop =>
      rintro D cc pre W hDl hS ⟨rfl, pre', x, rfl, ⟨r1, r2, hr, hnear, hc1, hc2, hch⟩, hfar⟩ hD
      have hpl := places_pre ls HLls.out (pre' ++ [x]) hS
      rw [places_app] at hpl
      obtain ⟨t, ht⟩ := hpl
      have HM : Aside0 (matchP p i = (r1, r2)) := ⟨by rw [HMP.out, ← ht, List.append_assoc, List.singleton_append, back_far p i _ _ _ _ hnear hfar, ← hr]⟩
      have HDD := Aside0.mk hD
      have HCH := Aside0.mk hch
      have hWw : wr.heap.size ≤ W.heap.size := hch.size
      have c2 := obj_cell (v := .int .i64 (r1 : Int)) hc1 0 rfl
      have c3 := obj_cell (v := .int .i64 (r2 : Int)) hc2 0 rfl
      clear hr hnear hc1 hc2 hch hD hS ht hfar
      gi_wp2
      go_wp2_with fail
      refine wp_region_noPanic ?_
      (refine Hd.startE (S := (fun X => X.cell? ⟨w.heap.size + 2, 0, none⟩ = some (.int .i64 (r1 : Int)) ∧ X.cell? ⟨w.heap.size + 2 + 1, 0, none⟩ = some (.int .i64 (r2 : Int)))) 1000 (by kernel_rfl) (⟨c2, c3⟩) (fun hHeld => ?_))
      (refine Hd.takeE (i := 0) (v := ?_) rfl rfl (by kernel_rfl) (by kernel_rfl) (by kernel_rfl) (by kernel_rfl) (by first | exact fun _ _ _ h => h | exact fun _ _ _ h => HQP.out (by decide) h) (Or.inl ⟨by rfl, ?_⟩) (by assumption) ?_; rotate_left; (focus (intro wS hS; (try go_split_ands); go_simp; all_goals (with_reducible rfl))); simp only [List.set_cons_zero, List.set_cons_succ, List.setIfInBounds_toArray]); (refine Hd.takeE (i := 1) (v := ?_) rfl rfl (by kernel_rfl) (by kernel_rfl) (by kernel_rfl) (by kernel_rfl) (by first | exact fun _ _ _ h => h | exact fun _ _ _ h => HQP.out (by decide) h) (Or.inl ⟨by rfl, ?_⟩) (by assumption) ?_; rotate_left; (focus (intro wS hS; (try go_split_ands); go_simp; all_goals (with_reducible rfl))); simp only [List.set_cons_zero, List.set_cons_succ, List.setIfInBounds_toArray]); (refine Hd.takeE (i := 2) (v := ?_) rfl rfl (by kernel_rfl) (by kernel_rfl) (by kernel_rfl) (by kernel_rfl) (by first | exact fun _ _ _ h => h | exact fun _ _ _ h => HQP.out (by decide) h) (Or.inl ⟨by rfl, ?_⟩) (by assumption) ?_; rotate_left; (focus (intro wS hS; (try go_split_ands); go_simp; all_goals (with_reducible rfl))); simp only [List.set_cons_zero, List.set_cons_succ, List.setIfInBounds_toArray]); (refine Hd.takeE (i := 3) (v := ?_) rfl rfl (by kernel_rfl) (by kernel_rfl) (by kernel_rfl) (by kernel_rfl) (by first | exact fun _ _ _ h => h | exact fun _ _ _ h => HQP.out (by decide) h) (Or.inl ⟨by rfl, ?_⟩) (by assumption) ?_; rotate_left; (focus (intro wS hS; (try go_split_ands); go_simp; all_goals (with_reducible rfl))); simp only [List.set_cons_zero, List.set_cons_succ, List.setIfInBounds_toArray])
      (refine Hd.endE (by kernel_rfl) ?_ _; refine NoPanic.normal ?_)
      go_wp2
      refine ⟨by simp, .inl ⟨_, _, rfl, run_takeDeferred (show W.drew.heap[D]? = some (.deferred (some [])) from HDD.out), ?_⟩⟩
      exact ⟨_, results_tmp2 rfl _ _ _, by rw [HM.out]; rfl, FINW.out D W hDl HDD.out HCH.out⟩
  · have d1 : decide ((p.length : Int) < (i : Int) + 4) = true := by simp only [decide_eq_true_eq]; omega
    have HMP : Aside0 (matchP p i = (0, 0)) := ⟨if_pos (by omega)⟩
    clear h hal h4
    refine callsIn_of_wp_marks Try.func22 rfl trivial ?_ rfl
    simp only [Try.ntmps22, List.size_toArray, List.length_cons, List.length_nil, Nat.reduceAdd, Nat.reduceSub, Array.replicate_succ, Array.replicate_zero, List.push_toArray, List.append_toArray, List.nil_append, List.cons_append]
    refine wpIn_wide.2 ?_
    go_wp2_with fail
    have hbx0 : ((w.alloc (.cells #[.pointer (some ⟨f, 0, none⟩)] 46)).alloc (.cells #[.int .i64 (i : Int)] 3)).heap[w.heap.size]? = some (.cells #[.pointer (some ⟨f, 0, none⟩)] 46 (0, 0)) := (Below.heap_alloc _ _ _ (by simp)).trans (heap_alloc_new w _)
    have hbx1 : ((w.alloc (.cells #[.pointer (some ⟨f, 0, none⟩)] 46)).alloc (.cells #[.int .i64 (i : Int)] 3)).heap[w.heap.size + 1]? = some (.cells #[.int .i64 (i : Int)] 3 (0, 0)) := by have := heap_alloc_new (w.alloc (.cells #[.pointer (some ⟨f, 0, none⟩)] 46)) (.cells #[.int .i64 (i : Int)] 3); rwa [World.size_alloc] at this
    generalize ((w.alloc (.cells #[.pointer (some ⟨f, 0, none⟩)] 46)).alloc (.cells #[.int .i64 (i : Int)] 3)) = W0 at *
    have b0 := obj_cell (v := .pointer (some ⟨f, 0, none⟩)) hbx0 0 rfl
    have b1 := obj_cell (v := .int .i64 (i : Int)) hbx1 0 rfl
    clear hbx0 hbx1
    refine wp_region_noPanic ?_
    (refine Hd.startE (S := (fun X => X.cell? ⟨w.heap.size, 0, none⟩ = some (.pointer (some ⟨f, 0, none⟩)) ∧ X.cell? ⟨w.heap.size + 1, 0, none⟩ = some (.int .i64 (i : Int)) ∧ X.cell? ⟨f, 0, none⟩ = some (.slice A p.length c))) 1000 (by kernel_rfl) (⟨b0, b1, p0⟩) (fun hHeld => ?_))
    (refine Hd.takeE (i := 0) (v := ?_) rfl rfl (by kernel_rfl) (by kernel_rfl) (by kernel_rfl) (by kernel_rfl) (by first | exact fun _ _ _ h => h | exact fun _ _ _ h => HQP.out (by decide) h) (Or.inl ⟨by rfl, ?_⟩) (by assumption) ?_; rotate_left; (focus (intro wS hS; (try go_split_ands); go_simp; all_goals (with_reducible rfl))); simp only [List.set_cons_zero, List.set_cons_succ, List.setIfInBounds_toArray]); (refine Hd.takeE (i := 1) (v := ?_) rfl rfl (by kernel_rfl) (by kernel_rfl) (by kernel_rfl) (by kernel_rfl) (by first | exact fun _ _ _ h => h | exact fun _ _ _ h => HQP.out (by decide) h) (Or.inl ⟨by rfl, ?_⟩) (by assumption) ?_; rotate_left; (focus (intro wS hS; (try go_split_ands); go_simp; all_goals (with_reducible rfl))); simp only [List.set_cons_zero, List.set_cons_succ, List.setIfInBounds_toArray]); (refine Hd.takeE (i := 2) (v := ?_) rfl rfl (by kernel_rfl) (by kernel_rfl) (by kernel_rfl) (by kernel_rfl) (by first | exact fun _ _ _ h => h | exact fun _ _ _ h => HQP.out (by decide) h) (Or.inl ⟨by rfl, ?_⟩) (by assumption) ?_; rotate_left; (focus (intro wS hS; (try go_split_ands); go_simp; all_goals (with_reducible rfl))); simp only [List.set_cons_zero, List.set_cons_succ, List.setIfInBounds_toArray]); (refine Hd.takeE (i := 3) (v := ?_) rfl rfl (by kernel_rfl) (by kernel_rfl) (by kernel_rfl) (by kernel_rfl) (by first | exact fun _ _ _ h => h | exact fun _ _ _ h => HQP.out (by decide) h) (Or.inl ⟨by rfl, ?_⟩) (by assumption) ?_; rotate_left; (focus (intro wS hS; (try go_split_ands); go_simp; all_goals (with_reducible rfl))); simp only [List.set_cons_zero, List.set_cons_succ, List.setIfInBounds_toArray]); (refine Hd.takeE (i := 4) (v := ?_) rfl rfl (by kernel_rfl) (by kernel_rfl) (by kernel_rfl) (by kernel_rfl) (by first | exact fun _ _ _ h => h | exact fun _ _ _ h => HQP.out (by decide) h) (Or.inl ⟨by rfl, ?_⟩) (by assumption) ?_; rotate_left; (focus (intro wS hS; (try go_split_ands); go_simp; all_goals (with_reducible rfl))); simp only [List.set_cons_zero, List.set_cons_succ, List.setIfInBounds_toArray]); (refine Hd.takeE (i := 5) (v := ?_) rfl rfl (by kernel_rfl) (by kernel_rfl) (by kernel_rfl) (by kernel_rfl) (by first | exact fun _ _ _ h => h | exact fun _ _ _ h => HQP.out (by decide) h) (Or.inl ⟨by rfl, ?_⟩) (by assumption) ?_; rotate_left; (focus (intro wS hS; (try go_split_ands); go_simp; all_goals (with_reducible rfl))); simp only [List.set_cons_zero, List.set_cons_succ, List.setIfInBounds_toArray]); (refine Hd.takeE (i := 6) (v := ?_) rfl rfl (by kernel_rfl) (by kernel_rfl) (by kernel_rfl) (by kernel_rfl) (by first | exact fun _ _ _ h => h | exact fun _ _ _ h => HQP.out (by decide) h) (Or.inl ⟨by rfl, ?_⟩) (by assumption) ?_; rotate_left; (focus (intro wS hS; (try go_split_ands); go_simp; all_goals (with_reducible rfl))); simp only [List.set_cons_zero, List.set_cons_succ, List.setIfInBounds_toArray]); (refine Hd.takeE (i := 7) (v := ?_) rfl rfl (by kernel_rfl) (by kernel_rfl) (by kernel_rfl) (by kernel_rfl) (by first | exact fun _ _ _ h => h | exact fun _ _ _ h => HQP.out (by decide) h) (Or.inl ⟨by rfl, ?_⟩) (by assumption) ?_; rotate_left; (focus (intro wS hS; (try go_split_ands); go_simp; all_goals (with_reducible rfl))); simp only [List.set_cons_zero, List.set_cons_succ, List.setIfInBounds_toArray])
    (refine Hd.endE (by kernel_rfl) ?_ _; refine NoPanic.normal ?_)
    clear b0 b1 p0
    go_wp2
    exact ⟨_, results_tmp2 rfl _ _ _, by rw [HMP.out]; rfl, ⟨HAL.out.os, HAL.out.tape, HAL.out.output, HAL.out.size, fun q hq _ => HAL.out.block q hq⟩⟩
end Go.Proofs.Ytlmcompoalhpnaa.SqV
