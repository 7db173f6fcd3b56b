/- squeeze.Put, walked: the pieces' bytes one behind the other; condition: the bytes read as bytes. -/
import Derived.Test.YtlmcompoalhpnaaSqI
import Derived.Test.YtlmcompoalhpnaaONum
namespace Go.Proofs.Ytlmcompoalhpnaa.SqW
open Go Go.RowKit Go.Shelf Go.Maps Go.Proofs.YtlmcompoalhpnaaW.PrintWords Go.Proofs.Ytlmcompoalhpnaa.K Go.Proofs.Ytlmcompoalhpnaa.Mp Go.Proofs.Ytlmcompoalhpnaa.It Go.Proofs.Ytlmcompoalhpnaa.ItC Go.Proofs.Ytlmcompoalhpnaa.OctS Go.Proofs.Ytlmcompoalhpnaa.OctP Go.Proofs.Ytlmcompoalhpnaa.Oct Go.Proofs.Ytlmcompoalhpnaa.Ap Go.Proofs.Ytlmcompoalhpnaa.SqA Go.Proofs.Ytlmcompoalhpnaa.SqC Go.Proofs.Ytlmcompoalhpnaa.SqE Go.Proofs.Ytlmcompoalhpnaa.SqM Go.Proofs.Ytlmcompoalhpnaa.SqN Go.Proofs.Ytlmcompoalhpnaa.SqK Go.Proofs.Ytlmcompoalhpnaa.SqF Go.Proofs.Ytlmcompoalhpnaa.SqJ Go.Proofs.Ytlmcompoalhpnaa.SqR Go.Proofs.Ytlmcompoalhpnaa.SqV Go.Proofs.Ytlmcompoalhpnaa.SqI
set_option linter.unusedVariables false
set_option linter.unusedSimpArgs false
attribute [local go_sem] Oper.semAt_some
def told (pre : List Pv) : List Int := pre.flatMap (fun x => enc x.pc)
theorem told_app (pre : List Pv) (x : Pv) : told (pre ++ [x]) = told pre ++ enc x.pc := by simp [told]
theorem told_map (pre : List Pv) : told pre = (pre.map Pv.pc).flatMap enc := by simp [told, List.flatMap_map]
theorem enc_len {T : Nat → Prop} {x : Pv} {W : World} (h : Gv T x W) : (enc x.pc).length ≤ 130 := by
  unfold enc
  split
  · have := h.few; simp; omega
  · have : (numB x.pc.d).length ≤ 8 := numB_len8 _ (by rcases h.num with h | h <;> omega)
    simp; omega
/-- What Put holds: its variable, its row, and all that lay below. -/
structure Out (wb : World) (T : Nat → Prop) (pre : List Pv) (W : World) : Prop where
  box : ∃ v, W.heap[wb.heap.size]? = some (.cells #[v] 22 (0, 0)) ∧ Kd.R (Kd.int .u8) 5 W wb.heap.size (fun _ => True) (v) (told pre) ∧ ∀ b, v.ownBlock = some b → ¬ T b
  own : ∀ k, T k → wb.heap.size < k ∧ k < W.heap.size
  below : Below wb.heap.size wb W
  len : (told pre).length ≤ 130 * pre.length
theorem Out.bears (wb : World) : BearsC (Out wb) where
  chg := by
    intro T T' s W W' h hc h1 h2
    obtain ⟨v, hv, hr, hn⟩ := h.box
    have hlt := (Array.getElem?_eq_some_iff.1 hv).1
    refine ⟨⟨v, (hc.block _ hlt (fun ht => by have := (h.own _ ht).1; omega)).trans hv, R_same (flat_int _) hr (fun g hg => hc.block g (R_lt_size hr g hg) (hn g hg)), fun b hb ht => ?_⟩, fun k ht => ?_, ⟨hc.os.trans h.below.os, hc.tape.trans h.below.tape, hc.output.trans h.below.output, Nat.le_trans h.below.size hc.size, fun k hk => (hc.block k (Nat.lt_of_lt_of_le hk h.below.size) (fun ht => by have := (h.own k ht).1; omega)).trans (h.below.block k hk)⟩, h.len⟩
    · rcases h2 b ht with ht | ht
      · exact hn b hb ht
      · have := R_lt_size hr b hb; omega
    · have hs := hc.size
      rcases h2 k ht with ht | ht
      · have := h.own k ht; omega
      · omega
theorem Out.turns (wb : World) (B : Nat) (hB : wb.heap.size < B) : Turns B (Out wb) := by
  intro T s W W' r h hr ho hg
  obtain ⟨v, hv, hrow, hn⟩ := h.box
  obtain ⟨o, ho1, ho2⟩ := ho
  refine ⟨⟨v, (hg.block _ (Array.getElem?_eq_some_iff.1 hv).1 (fun e => by injection e with e; omega)).trans hv, R_same (flat_int _) hrow (fun g hgv => hg.block g (R_lt_size hrow g hgv) (fun e => ?_)), hn⟩, fun k hk => ⟨(h.own k hk).1, Nat.lt_of_lt_of_le (h.own k hk).2 hg.size⟩, h.below.grown hg h.below.size (fun r' e => by injection e with e; omega), h.len⟩
  injection e with e
  subst e
  obtain ⟨cells, hcs⟩ := Kd.R_typed hrow _ hgv
  rw [hcs] at ho1
  cases ho1
  cases ho2
/-- A round: only the variable and its row change. -/
theorem out_step {wb : World} {T : Nat → Prop} {pre : List Pv} {x : Pv} {W W' : World} {v v' : Value} {B : Nat} (h : Out wb T pre W) (hx : Gv T x W) (hv : W.heap[wb.heap.size]? = some (.cells #[v] 22 (0, 0))) (hr : Kd.R (Kd.int .u8) 5 W wb.heap.size (fun _ => True) (v) (told pre)) (hn : ∀ b, v.ownBlock = some b → ¬ T b)
    (h1 : W'.heap[wb.heap.size]? = some (.cells #[v'] 22 (0, 0))) (h2 : Kd.R (Kd.int .u8) 5 W' wb.heap.size (fun _ => True) (v') (told pre ++ enc x.pc)) (h3 : ∀ b, v'.ownBlock = some b → v.ownBlock = some b ∨ W.heap.size ≤ b)
    (h4 : Below wb.heap.size wb W') (hz : W.heap.size ≤ W'.heap.size) (hs : ∀ k, k < W.heap.size → k ≠ wb.heap.size → v.ownBlock ≠ some k → W'.heap[k]? = W.heap[k]?) : KeepsFrom B W W' ∧ Kept wb.heap.size T W W' ∧ Out wb T (pre ++ [x]) W' := by
  have hBo := (Array.getElem?_eq_some_iff.1 hv).1
  refine ⟨⟨hz, fun k o hk ho hc => (hs k (Array.getElem?_eq_some_iff.1 ho).1 (fun e => ?_) (fun e => ?_)).trans ho⟩, ⟨hz, fun k hk hl => hs k hl (fun e => ?_) (fun e => ?_)⟩, ⟨v', h1, by rw [told_app]; exact h2, fun b hb ht => ?_⟩, fun k hk => ⟨(h.own k hk).1, Nat.lt_of_lt_of_le (h.own k hk).2 hz⟩, h4, ?_⟩
  · subst e
    rw [hv] at ho
    cases ho
    cases hc
  · obtain ⟨cells, hcs⟩ := Kd.R_typed hr _ e
    rw [hcs] at ho
    cases ho
    cases hc
  · subst e
    rcases hk with hk | hk
    · omega
    · have := (h.own _ hk).1; omega
  · rcases hk with hk | hk
    · have := Kd.R_base hr _ e; omega
    · exact hn k e hk
  · rcases h3 b hb with h3 | h3
    · exact hn b h3 ht
    · have := (h.own b ht).2; omega
  · rw [told_app, List.length_append, List.length_append]
    have := h.len
    have := enc_len hx
    simp
    omega
theorem out_two {wb : World} {T : Nat → Prop} {pre : List Pv} {x : Pv} {W W1 w8 w9 : World} {v v8 v9 : Value} {B : Nat} {b : Int} {ys : List Int} (h : Out wb T pre W) (hx : Gv T x W) (hv : W.heap[wb.heap.size]? = some (.cells #[v] 22 (0, 0))) (hr : Kd.R (Kd.int .u8) 5 W wb.heap.size (fun _ => True) (v) (told pre)) (hn : ∀ b, v.ownBlock = some b → ¬ T b)
    (hB1 : Below W.heap.size W W1) (hg8 : W1.grownBy w8 v.ownBlock) (h8n : ∀ k, v8.ownBlock = some k → v.ownBlock = some k ∨ W.heap.size ≤ k) (hg9 : w8.grownBy w9 v8.ownBlock) (h9n : v9.ownBlock = v8.ownBlock ∨ ∃ b, v9.ownBlock = some b ∧ w8.heap.size ≤ b)
    (ho9 : Kd.R (Kd.int .u8) 5 w9 wb.heap.size (fun _ => True) (v9) (told pre ++ [b] ++ ys)) (he : enc x.pc = b :: ys) (hno : v.ownBlock ≠ some wb.heap.size) :
    KeepsFrom B W (w9.setCell ⟨wb.heap.size, 0, none⟩ v9) ∧ Kept wb.heap.size T W (w9.setCell ⟨wb.heap.size, 0, none⟩ v9) ∧ Out wb T (pre ++ [x]) (w9.setCell ⟨wb.heap.size, 0, none⟩ v9) := by
  have hBo := (Array.getElem?_eq_some_iff.1 hv).1
  have z1 := hB1.size
  have z8 := hg8.size
  have z9 := hg9.size
  have h9 : ∀ k, v9.ownBlock = some k → v.ownBlock = some k ∨ W.heap.size ≤ k := fun k hk => by
    rcases h9n with e | ⟨b, e, hb⟩
    · exact h8n k (e.symm.trans hk)
    · rw [hk] at e; injection e with e; exact .inr (by omega)
  have gW : W.grownBy W1 none := ⟨hB1.os, hB1.tape, hB1.output, hB1.size, fun k hk _ => hB1.block k hk⟩
  have b1 := h.below.grown gW h.below.size (fun r e => by cases e)
  have b8 := b1.grown hg8 b1.size (fun r e => Kd.R_base hr _ e)
  have b9 := b8.grown hg9 b8.size (fun r e => by
    rcases h8n r e with h | h
    · exact Kd.R_base hr _ h
    · omega)
  have same : ∀ k, k < W.heap.size → v.ownBlock ≠ some k → w9.heap[k]? = W.heap[k]? := fun k hk hk2 =>
    (hg9.block k (by omega) (fun e => by
      rcases h8n k e.symm with h | h
      · exact hk2 h
      · omega)).trans ((hg8.block k (by omega) (fun e => hk2 e.symm)).trans (hB1.block k hk))
  have hv9 : w9.heap[wb.heap.size]? = some (.cells #[v] 22 (0, 0)) := (same _ hBo hno).trans hv
  have hg10 := obj_grown w9 wb.heap.size 0 v9
  have hno9 : v9.ownBlock ≠ some wb.heap.size := fun e => by
    rcases h9 _ e with h | h
    · exact hno h
    · omega
  refine out_step h hx hv hr hn (v' := v9) ?_ ?_ h9 (b9.grown hg10 b9.size (fun r e => by injection e with e; omega)) (by have := hg10.size; omega) (fun k hk h1 h2 => (Below.heap_setCell _ _ _ _ h1).trans (same k hk h2))
  · exact obj_set hv9 0 v9
  · rw [he]
    have e : told pre ++ b :: ys = told pre ++ [b] ++ ys := by simp
    rw [e]
    exact R_same (flat_int _) ho9 (fun g hg => Below.heap_setCell _ _ _ _ (fun e => hno9 (by rw [hg]; exact congrArg some e)))
theorem gv_same {T : Nat → Prop} {x : Pv} {W W' : World} (h : Gv T x W) (hs : ∀ k : Nat, (∃ cs, W.heap[k]? = some (Obj.cells cs 5 (0, 0))) → W'.heap[k]? = W.heap[k]?) : Gv T x W' :=
  ⟨C_same h.C (fun a ha => hs _ (h.at_ a ha).2), h.c, fun a ha => ⟨(h.at_ a ha).1, by
    obtain ⟨cs, hcs⟩ := (h.at_ a ha).2
    exact ⟨cs, (hs _ ⟨cs, hcs⟩).trans hcs⟩⟩, h.few, h.num⟩
theorem one_C8 {w : World} {g : Nat} {x : Int} {t : TypeId} {fr : Nat × Nat} (h : w.heap[g]? = some (.cells #[.int .u8 x] t fr)) : (Kd.int .u8).C w (some ⟨g, 0, none⟩) 1 [x] := by
  refine Kd.C_of_reads (d := 0) ⟨rfl, by simp [maxLen], fun _ => ⟨⟨g, 0, none⟩, rfl, fun j hj => ?_⟩⟩
  obtain rfl : j = 0 := by simpa using hj
  have : w.cell? ⟨g, 0, none⟩ = some (.int .u8 x) := by
    unfold World.cell?
    simp only [h]
    simp
  simpa [Addr.add] using this
theorem pieces_calls (A : Option Addr) (n c : Nat) (w : World) : Calls Try.prog 14 #[.slice A n c] w fun e w' => e = .returned (.func (.func 21) #[] #[.pointer (some ⟨w.heap.size, 0, none⟩)]) ∧ w.alloc (.cells #[.slice A n c] 22) = w' := by
  go_enter Try.func14, Try.ntmps14
  go_wp2
  go_ret
  exact ⟨rfl, rfl⟩
set_option maxHeartbeats 4000000 in
set_option maxRecDepth 100000 in
theorem iter_nil (n : Nat) (hn : 1 ≤ n) (l Bp : Nat) (A : Option Addr) (c : Nat) (J : (Nat → Prop) → List Pv → World → Prop) (T0 : Nat → Prop) (W : World) (hJ : BearsC J) (hcp : W.heap[Bp]? = some (.cells #[.slice A 0 c] 22 (0, 0))) (hJ0 : J T0 [] W) :
    CallsIn Fence.wide n Try.prog 21 #[.func (.yield l) #[] #[], .pointer (some ⟨Bp, 0, none⟩)] W fun e W' => (∃ v, e = .returned v) ∧ ∃ T xs, xs.map Pv.pc = pcs [] 0 0 [] ∧ J T xs W' := by
  have hbl := (Array.getElem?_eq_some_iff.1 hcp).1
  have c0 := obj_cell (v := .slice A 0 c) hcp 0 rfl
  have HCP := Aside0.mk hcp
  have HJ0 := Aside0.mk hJ0
  clear hcp hJ0
  refine callsIn_of_wp Try.func21 rfl trivial ?_ rfl
  simp only [Try.ntmps21, List.size_toArray, List.length_cons, List.length_nil, Nat.reduceAdd, Nat.reduceSub, Array.replicate_succ, Array.replicate_zero, List.push_toArray, List.append_toArray, List.nil_append, List.cons_append]
  have hmm := @run_makeMap Try.prog
  gi_wp2
  obtain ⟨W2, hW2⟩ : ∃ X, X = (W.alloc (.map #[] 0)).alloc (.cells #[.slice A 0 c, .map (some W.heap.size)] 49) := ⟨_, rfl⟩
  rw [← hW2]
  have hg2 : W.grownBy W2 none := by rw [hW2]; exact (World.grownBy_alloc _ _ none).trans (World.grownBy_alloc _ _ none)
  have HJ2 := Aside0.mk (hJ.fresh HJ0.out hg2)
  have hcp2 : W2.heap[Bp]? = some (.cells #[.slice A 0 c] 22 (0, 0)) := (hg2.block Bp hbl (fun e => by cases e)).trans HCP.out
  have c2 := obj_cell (v := .slice A 0 c) hcp2 0 rfl
  clear hW2 hg2 hcp2 c0 hmm hbl
  gi_loopw [5] (fun v5 wr => v5 = .int .i64 0 ∧ wr = W2) (fun v5 wr => 0)
  case atStart => exact ⟨rfl, rfl⟩
  case round =>
    obtain ⟨rfl, rfl⟩ := hrel
    gi_wp2
    go_end0
    exact ⟨⟨_, rfl⟩, T0, [], rfl, HJ2.out⟩
set_option maxHeartbeats 4000000 in
set_option maxRecDepth 100000 in
theorem put_calls (A : Option Addr) (c : Nat) (p : List Int) (w : World) (hC : (Kd.int .u8).C w A p.length p) (hc : p.length ≤ c) (hB : Bytes p) (hm : p.length ≤ 140737488351232) (hal : p = [] ∨ ∀ a, A = some a → a.block < w.heap.size) :
    Calls Try.prog 9 #[.slice A p.length c] w fun e w' => ∃ v, e = .returned (.tuple #[v, .int .i64 (putF p).2]) ∧ Kd.R (Kd.int .u8) 5 w' w.heap.size (fun _ => True) (v) ((putF p).1) ∧ Below w.heap.size w w' := by
  by_cases h8 : 8192 < p.length
  · have d1 : decide ((8192 : Int) < (p.length : Int)) = true := by simp only [decide_eq_true_eq]; omega
    have HF : Aside0 (putF p = ([], 6)) := ⟨if_pos h8⟩
    clear hC h8
    go_enter Try.func9, Try.ntmps9
    go_wp2_with fail
    go_ret2
    exact ⟨_, by rw [HF.out]; rfl, by rw [HF.out]; exact Kd.R_nil _ _ _ _ _, Below.refl _ _⟩
  have d1 : decide ((8192 : Int) < (p.length : Int)) = false := by simp only [decide_eq_false_iff_not]; omega
  have HF : Aside0 ((putF p).2 = 0) := ⟨by unfold putF; rw [if_neg h8]⟩
  have HF1 := Aside0.mk (put_pcs (p := p) (by omega))
  have hp8 : p.length ≤ 8192 := by omega
  have HC := Aside0.mk hC
  have HB := Aside0.mk hB
  have HAL := Aside0.mk hal
  clear hC h8 hB hal
  refine (callsIn_wide (n := 4)).1 ?_
  refine callsIn_of_wp_marks Try.func9 rfl trivial ?_ rfl
  simp only [Try.ntmps9, List.size_toArray, List.length_cons, List.length_nil, Nat.reduceAdd, Nat.reduceSub, Array.replicate_succ, Array.replicate_zero, List.push_toArray, List.append_toArray, List.nil_append, List.cons_append]
  gi_wp2_with (refine ⟨trivial, ?_⟩; gi_at_call 14; (with_reducible refine (callsIn_wide.2 (pieces_calls _ _ _ _)).mono ?_); rintro e w1 ⟨rfl, rfl⟩)
  have HO0 := Aside0.mk (show ((w.alloc (.cells #[.slice none 0 0] 22)).alloc (.cells #[.slice A p.length c] 22)).heap[w.heap.size]? = some (.cells #[.slice none 0 0] 22 (0, 0)) from (Below.heap_alloc _ _ _ (by simp)).trans (heap_alloc_new w _))
  have HP0 := Aside0.mk (show ((w.alloc (.cells #[.slice none 0 0] 22)).alloc (.cells #[.slice A p.length c] 22)).heap[w.heap.size + 1]? = some (.cells #[.slice A p.length c] 22 (0, 0)) from by have := heap_alloc_new (w.alloc (.cells #[.slice none 0 0] 22)) (.cells #[.slice A p.length c] 22); rwa [World.size_alloc] at this)
  have HBW : Aside0 (Below w.heap.size w ((w.alloc (.cells #[.slice none 0 0] 22)).alloc (.cells #[.slice A p.length c] 22))) := ⟨below_alloc (below_alloc (Below.refl _ _) _) _⟩
  have hz : ((w.alloc (.cells #[.slice none 0 0] 22)).alloc (.cells #[.slice A p.length c] 22)).heap.size = w.heap.size + 2 := by simp
  generalize (w.alloc (.cells #[.slice none 0 0] 22)).alloc (.cells #[.slice A p.length c] 22) = wr at *
  refine wpIn_rangeFunc_C rfl (by decide) (gf := 21) (lb := #[.pointer (some ⟨w.heap.size + 1, 0, none⟩)]) rfl trivial (enters_of Try.func21 (by kernel_rfl) rfl) (encs := encV) (B0 := w.heap.size) (T0 := fun k => k = w.heap.size + 1) (G := Gv) (S := fun xs => xs.map Pv.pc = pcs p p.length 0 []) (N := 8193) (w0 := wr)
    (fun l J W hk hJ hY hJ0 => by
      rcases HAL.out with h0 | hal
      · subst h0
        exact iter_nil 3 (by decide) l _ A c J _ W hJ ((hk.same _ (.inr rfl) (by omega)).trans HP0.out) hJ0
      · exact iter_in 3 (by decide) l (w.heap.size + 1) A c p HB.out hp8 hc w.heap.size (fun a ha => hal a ha) (by omega) J W hJ hY (Nat.le_trans (by omega) hk.size) ((hk.same _ (.inr rfl) (by omega)).trans HP0.out) (C_same (Kd.C_below HC.out HBW.out) (fun a ha => hk.same _ (.inl (hal a ha)) (by have := hal a ha; omega))) hJ0)
    (by omega) (fun k h => by omega) (Kept.refl _ _ _) (fun _ => rfl)
    (fun T x W W' r h hr ho hg => gv_same h (fun k hk => by
      obtain ⟨cs, hcs⟩ := hk
      refine hg.block k (Array.getElem?_eq_some_iff.1 hcs).1 (fun e => ?_)
      injection e with e
      subst e
      obtain ⟨o, ho1, ho2⟩ := ho
      rw [hcs] at ho1
      cases ho1
      cases ho2))
    (Out w) (Out.bears _) (Out.turns _ _ (by omega))
    ⟨⟨_, HO0.out, Kd.R_nil _ _ _ _ _, fun b hb => by simp [Value.ownBlock] at hb⟩, fun k h => by omega, HBW.out, by simp [told]⟩
    (fun x a' W => ∃ B5, W.heap[B5]? = some (.cells #[.slice x.A x.pc.pl.length x.c, .int .i64 (x.pc.n : Int), .int .i64 (x.pc.d : Int)] 38 (0, 0)) ∧ a' = { tmps := #[.slice A p.length c, undef, .slice none 0 0, .int .i64 0, .pointer (some ⟨w.heap.size, 0, none⟩), .pointer (some ⟨B5, 0, none⟩), undef, undef, .slice A p.length c, .int .i64 (p.length : Int), .bool false, .slice A p.length c, .func (.func 21) #[] #[.pointer (some ⟨w.heap.size + 1, 0, none⟩)], x.v, undef, undef, undef, undef, undef, undef, undef, undef, undef, undef, undef, undef, undef, undef, undef, undef, undef, undef, undef, undef, undef, undef, undef, undef, undef, undef, undef, undef, undef, undef, undef], defers := [] })
    ?ax (fun T x W W' h hg => gv_same h (fun k hk => by
      obtain ⟨cs, hcs⟩ := hk
      exact hg.block k (Array.getElem?_eq_some_iff.1 hcs).1 (fun e => by cases e))) ?assign ?body ?done
  case ax =>
    rintro x a' W W' r ⟨B5, hb, rfl⟩ hr ⟨o, ho, hc⟩ hg
    refine ⟨B5, (hg.block B5 (Array.getElem?_eq_some_iff.1 hb).1 (fun e => ?_)).trans hb, rfl⟩
    injection e with e
    subst e
    rw [hb] at ho; cases ho; cases hc
  case assign =>
    intro l x W K hK
    have HK := Aside0.mk (hK _ (W.alloc (.cells #[.slice x.A x.pc.pl.length x.c, .int .i64 (x.pc.n : Int), .int .i64 (x.pc.d : Int)] 38)) (World.grownBy_alloc _ _ none) ⟨W.heap.size, heap_alloc_new _ _, rfl⟩)
    clear hK
    simp only [encV, Pv.v] at HK ⊢
    gi_wp2
    exact HK.out
  case body =>
    rintro l T pre ⟨⟨q, n, d⟩, xA, xc⟩ a' W hI hG ⟨B5, hb5, rfl⟩ hlt hsz
    have HI := Aside0.mk hI
    have HG := Aside0.mk hG
    obtain ⟨v, hv, hrow, hnT⟩ := hI.box
    have HV := Aside0.mk hv
    have HRW := Aside0.mk hrow
    have HNT := Aside0.mk hnT
    have HB5 := Aside0.mk hb5
    have hBo := (Array.getElem?_eq_some_iff.1 hv).1
    have hB5 := (Array.getElem?_eq_some_iff.1 hb5).1
    have HNE : Aside0 (B5 ≠ w.heap.size) := ⟨fun e => by rw [e, hv] at hb5; injection hb5 with hb5; injection hb5 with _ e2 _; exact absurd e2 (by decide)⟩
    have HNV : Aside0 (v.ownBlock ≠ some B5) := ⟨fun e => by
      obtain ⟨cells, hcs⟩ := Kd.R_typed hrow _ e
      rw [hb5] at hcs
      injection hcs with hcs
      injection hcs with _ e2 _
      exact absurd e2 (by decide)⟩
    have HNO : Aside0 (v.ownBlock ≠ some w.heap.size) := ⟨fun e => by
      obtain ⟨cells, hcs⟩ := Kd.R_typed hrow _ e
      rw [hv] at hcs
      injection hcs with hcs
      injection hcs with _ e2 _
      exact absurd e2 (by decide)⟩
    have HLE : Aside0 ((told pre).length ≤ 1200000) := ⟨by have := hI.len; omega⟩
    have hcv := obj_cell (v := v) hv 0 rfl
    have hc0 := obj_cell (v := .slice xA q.length xc) hb5 0 rfl
    have hc1 := obj_cell (v := .int .i64 (n : Int)) hb5 1 rfl
    have hc2 := obj_cell (v := .int .i64 (d : Int)) hb5 2 rfl

    have HBW2 := Aside0.mk hI.below
    clear hI hG hv hrow hnT hb5
    by_cases hn : n = 0
    · subst hn
      have hq := HG.out.num
      have hq2 := HG.out.few
      simp only at hq hq2
      have hql : 1 ≤ q.length := by omega
      have hw1 : IntKind.i64.wrap ((q.length : Int) - 1) = (q.length : Int) - 1 := IntWalk.i64_in _ (by omega)
      have hw2 : IntKind.u8.wrap ((q.length : Int) - 1) = (q.length : Int) - 1 := IntWalk.u8_in _ (by omega)
      have HEN : Aside0 (enc ⟨q, 0, d⟩ = ((q.length : Int) - 1) :: q) := ⟨rfl⟩
      clear hq
      gi_wp2
      (refine Hd.startI (S := (fun X => X.cell? ⟨w.heap.size, 0, none⟩ = some v ∧ X.cell? ⟨B5, 0, none⟩ = some (.slice xA q.length xc))) 11 (by kernel_rfl) (by kernel_rfl) (⟨hcv, hc0⟩) (fun hHeld => ?_))
      (refine Hd.takeE (i := 0) (v := ?_) rfl rfl (by kernel_rfl) (by kernel_rfl) (by kernel_rfl) (by kernel_rfl) (by first | exact fun _ _ _ h => h | exact fun _ _ _ h => HQP.out (by decide) h) (Or.inl ⟨by rfl, ?_⟩) (by assumption) ?_; rotate_left; (focus (intro wS hS; (try go_split_ands); go_simp; all_goals (with_reducible rfl))); simp only [List.set_cons_zero, List.set_cons_succ, List.setIfInBounds_toArray]); (refine Hd.takeE (i := 1) (v := ?_) rfl rfl (by kernel_rfl) (by kernel_rfl) (by kernel_rfl) (by kernel_rfl) (by first | exact fun _ _ _ h => h | exact fun _ _ _ h => HQP.out (by decide) h) (Or.inl ⟨by rfl, ?_⟩) (by assumption) ?_; rotate_left; (focus (intro wS hS; (try go_split_ands); go_simp; all_goals (with_reducible rfl))); simp only [List.set_cons_zero, List.set_cons_succ, List.setIfInBounds_toArray]); (refine Hd.takeE (i := 2) (v := ?_) rfl rfl (by kernel_rfl) (by kernel_rfl) (by kernel_rfl) (by kernel_rfl) (by first | exact fun _ _ _ h => h | exact fun _ _ _ h => HQP.out (by decide) h) (Or.inl ⟨by rfl, ?_⟩) (by assumption) ?_; rotate_left; (focus (intro wS hS; (try go_split_ands); go_simp; all_goals (with_reducible rfl))); simp only [List.set_cons_zero, List.set_cons_succ, List.setIfInBounds_toArray]); (refine Hd.takeE (i := 3) (v := ?_) rfl rfl (by kernel_rfl) (by kernel_rfl) (by kernel_rfl) (by kernel_rfl) (by first | exact fun _ _ _ h => h | exact fun _ _ _ h => HQP.out (by decide) h) (Or.inl ⟨by rfl, ?_⟩) (by assumption) ?_; rotate_left; (focus (intro wS hS; (try go_split_ands); go_simp; all_goals (with_reducible rfl))); simp only [List.set_cons_zero, List.set_cons_succ, List.setIfInBounds_toArray]); (refine Hd.takeE (i := 4) (v := ?_) rfl rfl (by kernel_rfl) (by kernel_rfl) (by kernel_rfl) (by kernel_rfl) (by first | exact fun _ _ _ h => h | exact fun _ _ _ h => HQP.out (by decide) h) (Or.inl ⟨by rfl, ?_⟩) (by assumption) ?_; rotate_left; (focus (intro wS hS; (try go_split_ands); go_simp; all_goals (with_reducible rfl))); simp only [List.set_cons_zero, List.set_cons_succ, List.setIfInBounds_toArray]); (refine Hd.takeE (i := 5) (v := ?_) rfl rfl (by kernel_rfl) (by kernel_rfl) (by kernel_rfl) (by kernel_rfl) (by first | exact fun _ _ _ h => h | exact fun _ _ _ h => HQP.out (by decide) h) (Or.inl ⟨by rfl, ?_⟩) (by assumption) ?_; rotate_left; (focus (intro wS hS; (try go_split_ands); go_simp; all_goals (with_reducible rfl))); simp only [List.set_cons_zero, List.set_cons_succ, List.setIfInBounds_toArray]); (refine Hd.takeE (i := 8) (v := ?_) rfl rfl (by kernel_rfl) (by kernel_rfl) (by kernel_rfl) (by kernel_rfl) (by first | exact fun _ _ _ h => h | exact fun _ _ _ h => HQP.out (by decide) h) (Or.inl ⟨by rfl, ?_⟩) (by assumption) ?_; rotate_left; (focus (intro wS hS; (try go_split_ands); go_simp; all_goals (with_reducible rfl))); simp only [List.set_cons_zero, List.set_cons_succ, List.setIfInBounds_toArray]); (refine Hd.takeE (i := 9) (v := ?_) rfl rfl (by kernel_rfl) (by kernel_rfl) (by kernel_rfl) (by kernel_rfl) (by first | exact fun _ _ _ h => h | exact fun _ _ _ h => HQP.out (by decide) h) (Or.inl ⟨by rfl, ?_⟩) (by assumption) ?_; rotate_left; (focus (intro wS hS; (try go_split_ands); go_simp; all_goals (with_reducible rfl))); simp only [List.set_cons_zero, List.set_cons_succ, List.setIfInBounds_toArray])
      (refine Hd.readyE (rs := [6]) (by kernel_rfl) (by simp) ?_; refine Hd.AllE.cons (i := 6) rfl (fun K hK => ?_) Hd.AllE.nil; go_simp; refine hK.out _ _ (⟨((below_alloc (Below.refl _ _) _).cell (p := ⟨w.heap.size, 0, none⟩) (by exact hBo)).trans hcv, ((below_alloc (Below.refl _ _) _).cell (p := ⟨B5, 0, none⟩) (by exact hB5)).trans hc0⟩) (fun hHeld => ?_); clear hK K; (try simp only [Act.put, List.setIfInBounds_toArray, List.set_cons_zero, List.set_cons_succ]))
      obtain ⟨W1, hW1⟩ : ∃ X, X = (W.alloc (.cells #[.int .u8 ((q.length : Int) - 1)] 5)).drew := ⟨_, rfl⟩
      rw [← hW1]
      have hb1 : Below W.heap.size W W1 := by rw [hW1]; exact below_drew1 (below_alloc (Below.refl _ _) _)
      have HB1 := Aside0.mk hb1
      have hz1 : W1.heap.size = W.heap.size + 1 := by rw [hW1]; simp
      have HO1 : Aside0 ((Kd.int .u8).C W1 (some ⟨W.heap.size, 0, none⟩) 1 [(q.length : Int) - 1]) := ⟨by rw [hW1]; exact one_C8 (heap_alloc_new W _)⟩
      have HR1 := Aside0.mk (R_same (w1 := W1) (flat_int _) HRW.out (fun g hg => hb1.block g (R_lt_size HRW.out g hg)))
      have hS1 : W1.cell? ⟨w.heap.size, 0, none⟩ = some v ∧ W1.cell? ⟨B5, 0, none⟩ = some (.slice xA q.length xc) := ⟨(hb1.cell (p := ⟨w.heap.size, 0, none⟩) (by exact hBo)).trans hcv, (hb1.cell (p := ⟨B5, 0, none⟩) (by exact hB5)).trans hc0⟩
      clear hW1 hb1 hHeld
      (refine Hd.readyE (rs := [7]) (by kernel_rfl) (by simp) ?_; refine Hd.AllE.cons (i := 7) rfl (fun K hK => ?_) Hd.AllE.nil; (refine Hd.step_of_list rfl ?_; refine app (Kd.int .u8) (flat_int _) w.heap.size (w0 := W1) (.tmp 17) (.tmp 23) 22 5 (.int .u8 0) 1 rfl rfl Try.underlying22 infoU8 rfl (by decide) (by decide) v (told pre) [(q.length : Int) - 1] (some ⟨W.heap.size, 0, none⟩) 1 1 (by rfl) (by rfl) HR1.out HO1.out (Below.refl _ W1) (by omega) (by have := HLE.out; omega) ?_; intro v8 w8 ho8 hb8 hg8 hat8; refine wpList_nil ?_); refine hK.out _ _ (⟨hg8.cell hS1.1 (fun e => HNO.out e.symm), hg8.cell hS1.2 (fun e => HNV.out e.symm)⟩) (fun hHeld => ?_); clear hK K; (try simp only [Act.put, List.setIfInBounds_toArray, List.set_cons_zero, List.set_cons_succ]))
      have HO8 := Aside0.mk ho8
      have HG8 := Aside0.mk hg8
      have HA8 := Aside0.mk hat8
      have hS8 : w8.cell? ⟨w.heap.size, 0, none⟩ = some v ∧ w8.cell? ⟨B5, 0, none⟩ = some (.slice xA q.length xc) := ⟨hg8.cell hS1.1 (fun e => HNO.out e.symm), hg8.cell hS1.2 (fun e => HNV.out e.symm)⟩
      have HQ8 : Aside0 ((Kd.int .u8).C w8 xA q.length q) := ⟨C_same HG.out.C (fun a ha => by
        obtain ⟨ht, cs, hcs⟩ := HG.out.at_ a ha
        have hl := (Array.getElem?_eq_some_iff.1 hcs).1
        exact (HG8.out.block _ (by omega) (fun e => HNT.out _ e.symm ht)).trans (HB1.out.block _ hl))⟩
      have hs8 := hg8.size
      clear ho8 hb8 hg8 hat8 hHeld hS1
      have h8n : ∀ k, v8.ownBlock = some k → v.ownBlock = some k ∨ W.heap.size ≤ k := fun k hk => by
        rcases HA8.out with e | ⟨b, e, hb⟩
        · exact .inl (e.symm.trans hk)
        · rw [hk] at e; injection e with e; exact .inr (by omega)
      have H8N := Aside0.mk h8n
      have hn8o : v8.ownBlock ≠ some w.heap.size := fun e => by
        rcases h8n _ e with h | h
        · exact HNO.out h
        · omega
      have hn8b : v8.ownBlock ≠ some B5 := fun e => by
        rcases h8n _ e with h | h
        · exact HNV.out h
        · omega
      (refine Hd.readyE (rs := [10]) (by kernel_rfl) (by simp) ?_; refine Hd.AllE.cons (i := 10) rfl (fun K hK => ?_) Hd.AllE.nil; (refine Hd.step_of_list rfl ?_; refine app (Kd.int .u8) (flat_int _) w.heap.size (w0 := w8) (.tmp 24) (.tmp 26) 22 5 (.int .u8 0) 1 rfl rfl Try.underlying22 infoU8 rfl (by decide) (by decide) v8 (told pre ++ [(q.length : Int) - 1]) q xA q.length xc (by rfl) (by rfl) HO8.out HQ8.out (Below.refl _ w8) (by omega) (by have := HLE.out; simp; omega) ?_; intro v9 w9 ho9 hb9 hg9 hat9; refine wpList_nil ?_); refine hK.out _ _ (⟨hg9.cell hS8.1 (fun e => hn8o e.symm), hg9.cell hS8.2 (fun e => hn8b e.symm)⟩) (fun hHeld => ?_); clear hK K; (try simp only [Act.put, List.setIfInBounds_toArray, List.set_cons_zero, List.set_cons_succ]))
      have e9 : (told pre ++ [(q.length : Int) - 1] ++ q).length = (told pre).length + (q.length + 1) := by simp
      obtain ⟨A9, c9, rfl⟩ := Kd.R_slice ho9
      rw [e9] at ho9 hat9
      have hv9 : w9.heap[w.heap.size]? = some (.cells #[v] 22 (0, 0)) := (hg9.block _ (by omega) (fun e => hn8o e.symm)).trans ((HG8.out.block _ (by omega) (fun e => HNO.out e.symm)).trans ((HB1.out.block _ hBo).trans HV.out))
      have hc9 := obj_cell (v := v) hv9 0 rfl
      have hf9 := obj_free hv9 0
      have hs9 := hg9.size
      (refine Hd.readyE (rs := [11]) (by kernel_rfl) (by simp) ?_; refine Hd.AllE.last (i := 11) rfl (fun K hK => ?_); go_simp; refine hK.out _ _ ?_; clear hK K; (try simp only [Act.put, List.setIfInBounds_toArray, List.set_cons_zero, List.set_cons_succ]))
      (refine Hd.endE (by kernel_rfl) ?_ _)
      rename_i K1 h1 K0 h0 hSx
      refine h0 _ _ ?_
      clear h0 h1
      gi_wp2
      exact out_two HI.out HG.out HV.out HRW.out HNT.out HB1.out HG8.out H8N.out hg9 hat9 ho9 HEN.out HNO.out
    · have hn0 : ((n : Int) == 0) = false := by simp [hn]
      have hm := HG.out.num
      simp only at hm
      have hm2 : 4 ≤ n ∧ n ≤ 131 ∧ 1 ≤ d ∧ d ≤ 4096 := by omega
      have HNM := Aside0.mk (num_ok d (by omega) W)
      have HEN : Aside0 (enc ⟨q, n, d⟩ = (124 + (n : Int)) :: numB d) := ⟨if_neg hn⟩
      have hw1 : IntKind.i64.wrap (128 + (n : Int)) = 128 + (n : Int) := IntWalk.i64_in _ (by omega)
      have hw2 : IntKind.i64.wrap (128 + (n : Int) - 4) = 124 + (n : Int) := by rw [IntWalk.i64_in _ (by omega)]; omega
      have hw2' : IntKind.i64.wrap (128 + (n : Int) + -4) = 124 + (n : Int) := by rw [IntWalk.i64_in _ (by omega)]; omega
      have hw3 : IntKind.u8.wrap (124 + (n : Int)) = 124 + (n : Int) := IntWalk.u8_in _ (by omega)
      have HDL : Aside0 ((numB d).length ≤ 8) := ⟨numB_len8 d (by omega)⟩
      clear hm hm2 hn
      gi_wp2_with (first
        | (refine ⟨trivial, ?_⟩; gi_at_call 15; (with_reducible refine (CallsIn.inRound l (callsIn_wide.2 HNM.out)).mono ?_); rintro e w2 ⟨v2, rfl, ho2, hb2⟩; have HB2 := Aside0.mk hb2; have HV2 := Aside0.mk ho2; have hb2z := hb2.size; have hcv2 := (hb2.cell (p := ⟨w.heap.size, 0, none⟩) (by exact hBo)).trans hcv; have hc12 := (hb2.cell (p := ⟨B5, 1, none⟩) (by exact hB5)).trans hc1; have HR2 := Aside0.mk (R_same (w1 := w2) (flat_int _) HRW.out (fun g hg => hb2.block g (R_lt_size HRW.out g hg))); clear ho2 hb2)
        | (gi_at_builtin; refine listIn_plain rfl (by intro c h; cases h) (fun KK hKK => ?_); refine app1 (Kd.int .u8) (flat_int .u8) w.heap.size (w0 := w2) (.tmp 34) (.tmp 40) 22 5 (.int .u8 0) 1 rfl rfl Try.underlying22 infoU8 rfl (by decide) (by decide) _ (told pre) (124 + (n : Int)) [.int .u8 (124 + (n : Int))] rfl rfl rfl HR2.out (Below.refl _ _) (by omega) (by have := HLE.out; omega) ?_; intro v8 w8 ho8 hb8 hg8 hat8; refine wpList_nil (hKK _ _ ?_); have HO8 := Aside0.mk ho8; have HG8 := Aside0.mk hg8; have HA8 := Aside0.mk hat8; have hs8 := hg8.size; obtain ⟨A2, c2, rfl, hcc2, hC2⟩ := Kd.R_reads (R_same (w1 := w8) (flat_int _) HV2.out (fun g hg => hg8.block g (R_lt_size HV2.out g hg) (fun e => by have := Kd.R_base HV2.out g hg; have := R_lt_size HRW.out g e.symm; omega))); have HC2 := Aside0.mk hC2; clear ho8 hb8 hg8 hat8 hC2)
        | (gi_at_builtin; refine listIn_plain rfl (by intro c h; cases h) (fun KK hKK => ?_); refine app (Kd.int .u8) (flat_int .u8) w.heap.size (w0 := w8) (.tmp 41) (.tmp 42) 22 5 (.int .u8 0) 1 rfl rfl Try.underlying22 infoU8 rfl (by decide) (by decide) _ (told pre ++ [124 + (n : Int)]) (numB d) A2 (numB d).length c2 rfl rfl HO8.out HC2.out (Below.refl _ _) (by omega) (by have := HLE.out; have := HDL.out; simp; omega) ?_; intro v9 w9 ho9 hb9 hg9 hat9; refine wpList_nil (hKK _ _ ?_); have e9 : (told pre ++ [124 + (n : Int)] ++ numB d).length = (told pre).length + ((numB d).length + 1) := (by simp); obtain ⟨A9, c9, rfl⟩ := Kd.R_slice ho9; rw [e9] at ho9 hat9; have HE9 := Aside0.mk e9; have h8n : ∀ k, v8.ownBlock = some k → v.ownBlock = some k ∨ W.heap.size ≤ k := (fun k hk => HA8.out.elim (fun e => .inl (e.symm.trans hk)) (fun ⟨b, e, hb⟩ => .inr (by rw [hk] at e; injection e with e; omega))); have hn8o : v8.ownBlock ≠ some w.heap.size := (fun e => (h8n _ e).elim (fun h => HNO.out h) (fun h => by omega)); have hv9 : w9.heap[w.heap.size]? = some (.cells #[v] 22 (0, 0)) := (hg9.block _ (by omega) (fun e => hn8o e.symm)).trans ((HG8.out.block _ (by omega) (fun e => HNO.out e.symm)).trans ((HB2.out.block _ hBo).trans HV.out)); have hc9 := obj_cell (v := v) hv9 0 rfl; have hf9 := obj_free hv9 0; have H8N := Aside0.mk h8n; have HO9 := Aside0.mk ho9; have HG9 := Aside0.mk hg9; have HA9 := Aside0.mk hat9; clear e9 h8n hn8o hv9 ho9 hb9 hg9 hat9))
      exact out_two HI.out HG.out HV.out HRW.out HNT.out HB2.out HG8.out H8N.out HG9.out HA9.out HO9.out HEN.out HNO.out
  case done =>
    rintro D T xs W hD hSx hI hTD hK
    obtain ⟨v, hv, hrow, hnT⟩ := hI.box
    have HI := Aside0.mk hI
    have HRW := Aside0.mk hrow
    have HK := Aside0.mk hK
    have HSX := Aside0.mk hSx
    have hc := obj_cell (v := v) hv 0 rfl
    have HD : Aside0 (w.heap.size < D) := ⟨by omega⟩
    clear hI hrow hnT hv hSx
    gi_wp2
    refine ⟨by simp, .inl ⟨_, _, rfl, run_takeDeferred HK.out, ?_⟩⟩
    have hg := grownBy_putObj' W D (.deferred none)
    exact ⟨_, results_tmp2 rfl _ _ _, v, by rw [HF.out]; rfl, by
      rw [HF1.out, ← HSX.out, ← told_map]
      exact R_same (flat_int _) HRW.out (fun g hgv => hg.block g (R_lt_size HRW.out g hgv) (fun e => by
        injection e with e
        subst e
        obtain ⟨cells, hcs⟩ := Kd.R_typed HRW.out _ hgv
        rw [HK.out] at hcs
        cases hcs)), HI.out.below.grown hg HI.out.below.size (fun r e => by injection e with e; have := HD.out; omega)⟩
theorem al_C {w : World} {A : Option Addr} {p : List Int} (h : (Kd.int .u8).C w A p.length p) : p = [] ∨ ∀ a, A = some a → a.block < w.heap.size := by
  rcases Nat.eq_zero_or_pos p.length with h0 | h0
  · exact .inl (List.length_eq_zero_iff.1 h0)
  · refine .inr (fun a ha => ?_)
    obtain ⟨ad, had, hc⟩ := Kd.at_int h 0 (by omega) (by omega)
    rw [had] at ha
    cases ha
    have := World.block_lt_of_cell? w _ hc
    simpa [Addr.add] using this
end Go.Proofs.Ytlmcompoalhpnaa.SqW
