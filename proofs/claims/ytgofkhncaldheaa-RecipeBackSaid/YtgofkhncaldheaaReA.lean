/- What goes through the iterator over pieces collects: AppendSeq, Collect; and Cut; condition: the recipe stands. -/
import Derived.Test.YtgofkhncaldheaaRePi
import Derived.RangeFuncBox
import Derived.Maps.AppendAt
namespace Go.Proofs.Ytgofkhncaldheaa.ReA
open Go Go.RowKit Go.Shelf Go.Proofs.YtgofkhncaldheaaW.PrintWords Go.Proofs.Ytgofkhncaldheaa.K Go.Proofs.Ytgofkhncaldheaa.OctS Go.Proofs.Ytgofkhncaldheaa.OctP Go.Proofs.Ytgofkhncaldheaa.Oct Go.Proofs.Ytgofkhncaldheaa.ReS Go.Proofs.Ytgofkhncaldheaa.ReR Go.Proofs.Ytgofkhncaldheaa.ReT Go.Proofs.Ytgofkhncaldheaa.ReN Go.Proofs.Ytgofkhncaldheaa.ReP Go.Proofs.Ytgofkhncaldheaa.ReC Go.Proofs.Ytgofkhncaldheaa.ReK Go.Proofs.Ytgofkhncaldheaa.ReW Go.Proofs.Ytgofkhncaldheaa.ReF Go.Proofs.Ytgofkhncaldheaa.It Go.Proofs.Ytgofkhncaldheaa.RePi
set_option linter.unusedVariables false
set_option linter.unusedSimpArgs false
attribute [local go_sem] Oper.semAt_some
def dPc : Kd Pc := Kd.flatK 3 (fun _ => True) Pc.cells (fun _ _ => rfl) (fun x _ u hu => by
  simp [Pc.cells] at hu
  rcases hu with rfl | rfl | rfl <;> rfl)
theorem flat_pc : Flat dPc := Kd.flatK_flat _ _ _ _ _
theorem infoPc : (Try.prog.info? 45).map (fun i => (i.zero, i.size, i.bytes)) = some (some (.agg #[.int .i64 0, .int .i64 0, .int .i64 0]), 3, 24) := by kernel_rfl
/-- What the collector holds: its variable, its row, and all that lay below. -/
structure Col (w wb : World) (T : Nat → Prop) (pre : List Pc) (W : World) : Prop where
  box : ∃ v, Boxed W w.heap.size 32 v ∧ Kd.R dPc 45 W w.heap.size (fun _ => True) (v) (pre) ∧ ∀ b, v.ownBlock = some b → ¬ T b
  apart : ¬ T w.heap.size
  own : ∀ k, T k → wb.heap.size ≤ k ∧ k < W.heap.size
  below : Below wb.heap.size wb W
theorem below_grown {wb W W' : World} {row : Option Nat} (h : Below wb.heap.size wb W) (hg : W.grownBy W' row) (hr : ∀ r, row = some r → wb.heap.size ≤ r) : Below wb.heap.size wb W' :=
  h.grown hg h.size hr
theorem Col.bears (w wb : World) (hle : wb.heap.size ≤ w.heap.size) : Bears (Col w wb) where
  fresh := by
    intro T s W W' h hg
    obtain ⟨v, hv, hr, hn⟩ := h.box
    exact ⟨⟨v, hv.kept hg (by simp), Kd.R_grown2 hr rfl hg (fun k e => by cases e), hn⟩, h.apart, fun k hk => ⟨(h.own k hk).1, Nat.lt_of_lt_of_le (h.own k hk).2 hg.size⟩, below_grown h.below hg (fun r e => by cases e)⟩
  own := by
    intro T s W W' r h hT hg
    obtain ⟨v, hv, hr, hn⟩ := h.box
    exact ⟨⟨v, hv.kept hg (fun e => by injection e with e; subst e; exact h.apart hT), Kd.R_grown2 hr rfl hg (fun k e hb => by injection e with e; subst e; exact hn _ hb.symm hT), hn⟩, h.apart, fun k hk => ⟨(h.own k hk).1, Nat.lt_of_lt_of_le (h.own k hk).2 hg.size⟩, below_grown h.below hg (fun r' e => by injection e with e; subst e; exact (h.own _ hT).1)⟩
  claim := by
    intro T s W W' r h hg h1 h2
    obtain ⟨v, hv, hr, hn⟩ := h.box
    have hl := hv.lt
    refine ⟨⟨v, hv.kept hg (by simp), Kd.R_grown2 hr rfl hg (fun k e => by cases e), fun b hb ht => ?_⟩, fun ht => ?_, fun k ht => ?_, below_grown h.below hg (fun r e => by cases e)⟩
    · rcases ht with ht | ht
      · exact hn b hb ht
      · have := Kd.R_lt hr b hb
        omega
    · rcases ht with ht | ht
      · exact h.apart ht
      · omega
    · have hs := hg.size
      rcases ht with ht | ht
      · have := h.own k ht
        omega
      · have := h.below.size
        omega
theorem Col.turns (w wb : World) (hle : wb.heap.size ≤ w.heap.size) (B : Nat) (hB : w.heap.size < B) : Turns B (Col w wb) := by
  intro T s W W' r h hr ho hg
  obtain ⟨v, hv, hrow, hn⟩ := h.box
  refine ⟨⟨v, hv.kept hg (fun e => by injection e with e; omega), Kd.R_grown2 hrow rfl hg (fun b e hb => ?_), hn⟩, h.apart, fun k hk => ⟨(h.own k hk).1, Nat.lt_of_lt_of_le (h.own k hk).2 hg.size⟩, below_grown h.below hg (fun r' e => by injection e with e; omega)⟩
  injection e with e
  subst e
  obtain ⟨o, ho1, ho2⟩ := ho
  obtain ⟨cells, hcs⟩ := Kd.R_typed hrow _ hb.symm
  rw [hcs] at ho1
  cases ho1
  cases ho2
set_option maxRecDepth 100000 in
set_option maxHeartbeats 4000000 in
theorem append_in (n : Nat) (hn : 3 ≤ n) (gf : Nat) (lb : Array Value) (eg : ∀ args w, (callFunc gf args).run Try.prog w = .ok (.enter gf args) w) (S : List Pc → Prop) (T0 : Nat → Prop) (wb w : World) (hle : Below wb.heap.size wb w) (hT0 : ∀ k, T0 k → wb.heap.size ≤ k ∧ k < w.heap.size)
    (hS : SeqT Fence.wide (n - 1) Try.prog gf lb encP w.heap.size T0 (fun _ _ => True) S 257 w) :
    CallsIn Fence.wide n Try.prog 43 #[.slice none 0 0, .func (.func gf) #[] lb] w fun e W' =>
      ∃ v xs, e = .returned v ∧ S xs ∧ Kd.R dPc 45 W' w.heap.size (fun _ => True) (v) (xs) ∧ Below wb.heap.size wb W' := by
  have h1 : 1 ≤ n := by omega
  obtain ⟨i0, hi, hz0, hz1, hz2⟩ := info_parts infoPc
  have HLE := Aside0.mk hle
  have HT0 := Aside0.mk hT0
  clear hle hT0
  refine callsIn_of_wp_marks Try.func43 rfl trivial ?_ rfl
  simp only [Try.ntmps43, List.size_toArray, List.length_cons, List.length_nil, Nat.reduceAdd, Nat.reduceSub, Array.replicate_succ, Array.replicate_zero, List.push_toArray, List.append_toArray, List.nil_append, List.cons_append]
  gi_wp2
  have bO := Boxed.new w 32 (.slice none 0 0)
  have hlw : wb.heap.size ≤ w.heap.size := HLE.out.size
  have hB0 : Below wb.heap.size wb (w.alloc (.cells #[.slice none 0 0] 32)) := below_alloc HLE.out _
  refine wpIn_rangeFunc_T rfl h1 (gf := gf) (lb := lb) rfl trivial eg hS (by simp) (fun k hk => by have := (HT0.out k hk).2; simp; omega) (Kept.of_none (World.grownBy_alloc _ _ none)) (fun _ => rfl) (fun _ _ _ _ h _ _ _ => trivial)
    (Col w wb) (Col.bears w wb hlw) (Col.turns w wb hlw _ (by simp)) ⟨⟨_, bO, Kd.R_nil _ _ _ _ _, fun b hb => by simp [Value.ownBlock] at hb⟩, fun h => by have := (HT0.out _ h).2; omega, fun k hk => ⟨(HT0.out k hk).1, by have := (HT0.out k hk).2; simp; omega⟩, hB0⟩
    (fun x a' W => ∃ B5, W.heap[B5]? = some (.cells x.cells.toArray 45 (0, 0)) ∧ a' = { tmps := #[.slice none 0 0, .func (.func gf) #[] lb, .pointer (some ⟨w.heap.size, 0, none⟩), undef, .slice none 0 0, .pointer (some ⟨B5, 0, none⟩), .func (.func gf) #[] lb, .agg x.cells.toArray, undef, undef, undef, undef, undef], defers := [] })
    ?ax (fun _ _ _ _ _ => trivial) ?assign ?body ?done
  case ax =>
    rintro x a' W W' r ⟨B5, hb, rfl⟩ hr ⟨o, ho, hc⟩ hg
    refine ⟨B5, (hg.block B5 (Array.getElem?_eq_some_iff.1 hb).1 (fun e => ?_)).trans hb, rfl⟩
    injection e with e
    subst e
    rw [hb] at ho; cases ho; cases hc
  case assign =>
    intro l x W K hK
    have HK := Aside0.mk (hK _ (W.alloc (.cells x.cells.toArray 45)) (World.grownBy_alloc _ _ none) ⟨W.heap.size, heap_alloc_new _ _, rfl⟩)
    clear hK
    simp only [encP, Pc.cells] at HK ⊢
    gi_wp2
    exact HK.out
  case body =>
    rintro l T pre x a' W hI - ⟨B5, hb5, rfl⟩ hlt hsz
    have HI := Aside0.mk hI
    obtain ⟨v, hv, hrow, hnT⟩ := hI.box
    have HV := Aside0.mk hv
    have HRW := Aside0.mk hrow
    have HNT := Aside0.mk hnT
    have hc := hv.cell
    have c0 := obj_cell (v := .int .i64 (x.1 : Int)) hb5 0 rfl
    have c1 := obj_cell (v := .int .i64 (x.2.1 : Int)) hb5 1 rfl
    have c2 := obj_cell (v := .int .i64 (x.2.2 : Int)) hb5 2 rfl
    clear hv hrow hnT hI hb5
    have HBS : Aside0 (w.heap.size ≤ W.heap.size) := ⟨by simp at hsz; omega⟩
    have HG1 := Aside0.mk (World.grownBy_alloc W (.cells x.cells.toArray 45) none)
    gi_wp2_with (gi_at_builtin; refine listIn_plain rfl (by intro c h; cases h) (fun KK hKK => ?_); refine app1 dPc flat_pc w.heap.size (w0 := W) (.tmp 8) (.tmp 10) 32 45 (.agg #[.int .i64 0, .int .i64 0, .int .i64 0]) 24 rfl rfl Try.underlying32 infoPc rfl (by decide) (by decide) _ pre x x.cells rfl rfl ⟨trivial, rfl⟩ HRW.out (Below.refl _ _) HBS.out (by omega) ?_; intro v1 w1 ho1 hb1 hg1 hat1; refine wpList_nil (hKK _ _ ?_); have HO1 := Aside0.mk ho1; have HB1 := Aside0.mk hb1; have HGR := Aside0.mk hg1; have HAT := Aside0.mk hat1; have hv1 := HV.out.kept hg1 (Kd.R_ne HRW.out HV.out (by decide)); have hc1 := hv1.cell; have hf1 := hv1.frozen; have HV1 := Aside0.mk hv1; obtain ⟨A1, c1', rfl⟩ := Kd.R_slice ho1; clear ho1 hb1 hg1 hat1 hv1)
    have hs1 := HGR.out.size
    have hwr : W.grownBy w1 v.ownBlock := HGR.out
    have e1 : (pre ++ [x]).length = pre.length + 1 := by simp
    have ho1 := HO1.out
    have hat1 := HAT.out
    rw [e1] at ho1 hat1
    have hg2 := obj_grown w1 w.heap.size 0 (.slice A1 (pre.length + 1) c1')
    have hv2 := HV1.out.set (.slice A1 (pre.length + 1) c1')
    have ho2 := Kd.R_grown2 ho1 rfl hg2 (fun k e hb => by injection e with e; subst e; exact Kd.R_ne ho1 HV1.out (by decide) hb)
    have hs2 := hg2.size
    refine ⟨⟨Nat.le_trans hs1 hs2, fun k o hk ho hc => ?_⟩, ⟨Nat.le_trans hs1 hs2, fun k hk hlk => ?_⟩, ⟨_, hv2, ho2, fun b hb hT => ?_⟩, HI.out.apart, fun k hk => ⟨(HI.out.own k hk).1, ?_⟩, ?_⟩
    · refine (hg2.block k ?_ (fun e => by injection e with e; simp at hk; omega)).trans ((hwr.block k (Array.getElem?_eq_some_iff.1 ho).1 (fun e => ?_)).trans ho)
      · exact Nat.lt_of_lt_of_le (Array.getElem?_eq_some_iff.1 ho).1 hs1
      · obtain ⟨cells, hcs⟩ := Kd.R_typed HRW.out _ e.symm
        rw [hcs] at ho
        cases ho
        cases hc
    · refine (hg2.block k (Nat.lt_of_lt_of_le hlk hs1) (fun e => ?_)).trans (hwr.block k hlk (fun e => ?_))
      · injection e with e
        rcases hk with hk | hk
        · omega
        · rw [e] at hk; exact HI.out.apart hk
      · rcases hk with hk | hk
        · have := Kd.R_base HRW.out _ e.symm
          omega
        · exact HNT.out _ e.symm hk
    · rcases hat1 with e | ⟨b', e, hb'⟩
      · exact HNT.out b (e.symm.trans hb) hT
      · have h2 := (HI.out.own b hT).2
        rw [hb] at e
        injection e with e
        omega
    · have := (HI.out.own k hk).2
      omega
    · refine below_grown (below_grown HI.out.below hwr (fun r e => ?_)) hg2 (fun r e => ?_)
      · have := Kd.R_base HRW.out _ e
        omega
      · injection e with e
        omega
  case done =>
    rintro D T xs W hD hSx hI hTD hK
    obtain ⟨v, hv, hrow, hnT⟩ := hI.box
    have HI := Aside0.mk hI
    have HRW := Aside0.mk hrow
    have HD : Aside0 (w.heap.size < D) := ⟨by simp at hD; omega⟩
    have HK := Aside0.mk hK
    have HSX := Aside0.mk hSx
    have hc := hv.cell
    clear hI hrow hnT hv hSx
    gi_wp2
    refine ⟨by simp, .inl ⟨_, _, rfl, run_takeDeferred HK.out, ?_⟩⟩
    have hg := grownBy_putObj' W D (.deferred none)
    exact ⟨_, results_tmp rfl _ _ _, v, xs, rfl, HSX.out, Kd.R_grown2 HRW.out rfl hg (fun b e hb => by
      injection e with e
      subst e
      obtain ⟨cells, hcs⟩ := Kd.R_typed HRW.out _ hb.symm
      rw [HK.out] at hcs
      cases hcs), below_grown HI.out.below hg (fun r e => by injection e with e; have := HD.out; omega)⟩
theorem pieces_calls (g f m : Nat) (w : World) : Calls Try.prog 34 #[.pointer (some ⟨g, 0, none⟩), .int .i64 f, .int .i64 m] w fun e w' =>
    e = .returned (.func (.func 44) #[] #[.pointer (some ⟨w.heap.size, 0, none⟩), .pointer (some ⟨w.heap.size + 1, 0, none⟩), .pointer (some ⟨w.heap.size + 2, 0, none⟩)]) ∧
      ((w.alloc (.cells #[.pointer (some ⟨g, 0, none⟩)] 23)).alloc (.cells #[.int .i64 f] 3)).alloc (.cells #[.int .i64 m] 3) = w' := by
  go_enter Try.func34, Try.ntmps34
  go_wp2
  go_ret
  exact ⟨rfl, rfl⟩
theorem collect_calls (wb w : World) (g : Nat) (rs : List Ref) (A : Option Addr) (c : Nat) (Ab : Option Addr) (cb : Nat) (hr : Rec wb g rs A c Ab cb) (f m : Nat) (hm : m ≤ 9223372036854775807)
    (hw : w = ((wb.alloc (.cells #[.pointer (some ⟨g, 0, none⟩)] 23)).alloc (.cells #[.int .i64 f] 3)).alloc (.cells #[.int .i64 m] 3)) :
    Calls Try.prog 33 #[.func (.func 44) #[] #[.pointer (some ⟨wb.heap.size, 0, none⟩), .pointer (some ⟨wb.heap.size + 1, 0, none⟩), .pointer (some ⟨wb.heap.size + 2, 0, none⟩)]] w fun e W' =>
      ∃ v, e = .returned v ∧ Kd.R dPc 45 W' w.heap.size (fun _ => True) (v) (ReS.cutL (lens rs) 0 f m) ∧ Below wb.heap.size wb W' := by
  have hs : w.heap.size = wb.heap.size + 3 := by rw [hw]; simp
  have HC := Aside0.mk (callsIn_wide.1 (append_in 3 (by decide) 44 _ (enters_of Try.func44 (by kernel_rfl) rfl) _ _ wb w (by rw [hw]; exact below_alloc (below_alloc (below_alloc (Below.refl _ _) _) _) _) (fun k hk => by omega) (pieces_seq 2 (by decide) wb w g rs A c Ab cb hr f m hm hw w.heap.size (Nat.le_refl _))))
  clear hr hw hs
  go_enter Try.func33, Try.ntmps33
  go_wp2_with fail
  refine HC.out.mono ?_
  rintro e w' ⟨v, xs, rfl, rfl, ho, hb⟩
  have HO := Aside0.mk ho
  clear ho
  go_wp2
  go_ret
  exact ⟨_, rfl, HO.out, hb⟩
theorem cut_neg {w : World} (g : Nat) (f m : Int) (hf : f < 0) : Calls Try.prog 14 #[.pointer (some ⟨g, 0, none⟩), .int .i64 f, .int .i64 m] w fun e w' => e = .returned (.tuple #[.slice none 0 0, .int .i64 2]) ∧ Below w.heap.size w w' := by
  have h1 : decide (f < 0) = true := by simpa using hf
  go_enter Try.func14, Try.ntmps14
  go_wp2
  go_ret2
  exact ⟨rfl, Below.refl _ _⟩
theorem cut_past {w : World} {g : Nat} {rs : List Ref} {A : Option Addr} {c : Nat} {Ab : Option Addr} {cb : Nat} (h : Rec w g rs A c Ab cb) (f : Nat) (m : Int) (hf : (lens rs).sum < f) : Calls Try.prog 14 #[.pointer (some ⟨g, 0, none⟩), .int .i64 (f : Int), .int .i64 m] w fun e w' => e = .returned (.tuple #[.slice none 0 0, .int .i64 2]) ∧ Below w.heap.size w w' := by
  have h1 : decide ((f : Int) < 0) = false := by simp
  have HC := Aside0.mk (sz_calls h)
  have h2 : decide ((lens rs).sum < f) = true := by simp; omega
  clear h hf
  generalize (lens rs).sum = s at *
  go_enter Try.func14, Try.ntmps14
  go_wp2_with (go_at_call 17; (with_reducible refine (HC.out).mono ?_); rintro e w' ⟨rfl, hb1⟩; have HB1 := Aside0.mk hb1; clear hb1)
  go_ret2
  exact ⟨rfl, HB1.out⟩
theorem cut_few {w : World} {g : Nat} {rs : List Ref} {A : Option Addr} {c : Nat} {Ab : Option Addr} {cb : Nat} (h : Rec w g rs A c Ab cb) (f : Nat) (m : Int) (hf : f ≤ (lens rs).sum) (hm : m < 0) : Calls Try.prog 14 #[.pointer (some ⟨g, 0, none⟩), .int .i64 (f : Int), .int .i64 m] w fun e w' => e = .returned (.tuple #[.slice none 0 0, .int .i64 2]) ∧ Below w.heap.size w w' := by
  have h1 : decide ((f : Int) < 0) = false := by simp
  have HC := Aside0.mk (sz_calls h)
  have h2 : decide ((lens rs).sum < f) = false := by simp; omega
  have h3 : decide (m < 0) = true := by simpa using hm
  clear h hf hm
  generalize (lens rs).sum = s at *
  go_enter Try.func14, Try.ntmps14
  go_wp2_with (go_at_call 17; (with_reducible refine (HC.out).mono ?_); rintro e w' ⟨rfl, hb1⟩; have HB1 := Aside0.mk hb1; clear hb1)
  go_ret2
  exact ⟨rfl, HB1.out⟩
theorem cut_is {w : World} {g : Nat} {rs : List Ref} {A : Option Addr} {c : Nat} {Ab : Option Addr} {cb : Nat} (h : Rec w g rs A c Ab cb) (f m : Nat) (hf : f ≤ (lens rs).sum) (hm : m ≤ 9223372036854775807) : Calls Try.prog 14 #[.pointer (some ⟨g, 0, none⟩), .int .i64 (f : Int), .int .i64 (m : Int)] w fun e w' =>
    ∃ v, e = .returned (.tuple #[v, .int .i64 0]) ∧ Kd.R dPc 45 w' w.heap.size (fun _ => True) (v) (ReS.cutL (lens rs) 0 f m) ∧ Below w.heap.size w w' := by
  have h1 : decide ((f : Int) < 0) = false := by simp
  have HC := Aside0.mk (sz_calls h)
  have h2 : decide ((lens rs).sum < f) = false := by simp; omega
  have h3 : decide ((m : Int) < 0) = false := by simp
  have HR := Aside0.mk h
  clear h hf
  generalize hsl : (lens rs).sum = s at *
  clear hsl
  go_enter Try.func14, Try.ntmps14
  have HCO := Aside0.mk (fun wb (hr : Rec wb g rs A c Ab cb) => collect_calls wb _ g rs A c Ab cb hr f m hm rfl)
  clear hm
  go_wp2_with (first
    | (go_at_call 17; (with_reducible refine (HC.out).mono ?_); rintro e w' ⟨rfl, hb1⟩; have HB1 := Aside0.mk hb1; have HR1 := Aside0.mk (HR.out.below hb1); clear hb1)
    | (go_at_call 34; (with_reducible refine (pieces_calls g f m _).mono ?_); rintro e w' ⟨rfl, rfl⟩)
    | (go_at_call 33; (with_reducible refine (HCO.out _ HR1.out).mono ?_); rintro e w' ⟨v, rfl, ho, hb2⟩; have HO := Aside0.mk ho; have HB2 := Aside0.mk hb2; clear ho hb2))
  go_ret2
  exact ⟨_, rfl, Kd.R_lower HO.out (by have := HB1.out.size; simp; omega), below_then HB1.out HB1.out.size HB2.out⟩
end Go.Proofs.Ytgofkhncaldheaa.ReA
