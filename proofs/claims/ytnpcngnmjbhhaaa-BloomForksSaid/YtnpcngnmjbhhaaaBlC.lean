/- The makers of the iterator over a sum's places, and who goes through it; condition: the sum is 32 bytes, the size is positive. -/
import Derived.Test.YtnpcngnmjbhhaaaBlP
import Derived.RangeFuncBox
import Derived.Maps.AppendAt
namespace Go.Proofs.Ytnpcngnmjbhhaaa.BlC
open Go Go.RowKit Go.Shelf Go.Proofs.YtnpcngnmjbhhaaaW.PrintWords Go.Proofs.Ytnpcngnmjbhhaaa.K Go.Proofs.Ytnpcngnmjbhhaaa.OctS Go.Proofs.Ytnpcngnmjbhhaaa.BlS Go.Proofs.Ytnpcngnmjbhhaaa.BlP Go.Proofs.Ytnpcngnmjbhhaaa.Oct
set_option linter.unusedVariables false
attribute [local go_sem] Oper.semAt_some
theorem right_yes (s k : Int) (h : 1 ≤ s ∧ s ≤ 65536 ∧ 1 ≤ k ∧ k ≤ 8) (w : World) : Calls Try.prog 26 #[.int .i64 s, .int .i64 k] w fun e w' => e = .returned (.bool true) ∧ w = w' := by
  have h1 : decide (1 ≤ s) = true := by simp; omega
  have h2 : decide (s ≤ 65536) = true := by simp; omega
  have h3 : decide (1 ≤ k) = true := by simp; omega
  have h4 : decide (k ≤ 8) = true := by simp; omega
  go_enter Try.func26, Try.ntmps26
  go_wp2
  go_ret
  exact ⟨rfl, rfl⟩
theorem right_no (s k : Int) (h : ¬ (1 ≤ s ∧ s ≤ 65536 ∧ 1 ≤ k ∧ k ≤ 8)) (w : World) : Calls Try.prog 26 #[.int .i64 s, .int .i64 k] w fun e w' => e = .returned (.bool false) ∧ w = w' := by
  by_cases g1 : 1 ≤ s
  · have h1 : decide (1 ≤ s) = true := by simp; omega
    by_cases g2 : s ≤ 65536
    · have h2 : decide (s ≤ 65536) = true := by simp; omega
      by_cases g3 : 1 ≤ k
      · have h3 : decide (1 ≤ k) = true := by simp; omega
        have h4 : decide (k ≤ 8) = false := by simp; omega
        go_enter Try.func26, Try.ntmps26
        go_wp2
        go_ret
        exact ⟨rfl, rfl⟩
      · have h3 : decide (1 ≤ k) = false := by simp; omega
        go_enter Try.func26, Try.ntmps26
        go_wp2
        go_ret
        exact ⟨rfl, rfl⟩
    · have h2 : decide (s ≤ 65536) = false := by simp; omega
      go_enter Try.func26, Try.ntmps26
      go_wp2
      go_ret
      exact ⟨rfl, rfl⟩
  · have h1 : decide (1 ≤ s) = false := by simp; omega
    go_enter Try.func26, Try.ntmps26
    go_wp2
    go_ret
    exact ⟨rfl, rfl⟩


theorem places_calls (bs : List Int) (s k : Int) (w : World) : Calls Try.prog 28 #[.agg (nums .u8 bs).toArray, .int .i64 s, .int .i64 k] w fun e w' =>
    e = .returned (.func (.func 36) #[] #[.pointer (some ⟨w.heap.size, 0, none⟩), .pointer (some ⟨w.heap.size + 1, 0, none⟩), .pointer (some ⟨w.heap.size + 2, 0, none⟩)]) ∧
      ((w.alloc (.cells (nums .u8 bs).toArray 22)).alloc (.cells #[.int .i64 s] 3)).alloc (.cells #[.int .i64 k] 3) = w' := by
  go_enter Try.func28, Try.ntmps28
  go_wp2
  go_ret
  exact ⟨rfl, rfl⟩
/-- What the iterator stands on: its three variables. -/
structure Seat (w : World) (Bs Bz Bw : Nat) (bs : List Int) (size ways : Nat) : Prop where
  s : Kd.C (Kd.int .u8) w (some ⟨Bs, 0, none⟩) 32 bs
  z : w.cell? ⟨Bz, 0, none⟩ = some (.int .i64 size)
  y : w.cell? ⟨Bw, 0, none⟩ = some (.int .i64 ways)
  ls : Bs < w.heap.size
  lz : Bz < w.heap.size
  ly : Bw < w.heap.size
theorem Seat.below {w w1 : World} {Bs Bz Bw : Nat} {bs : List Int} {size ways : Nat} (h : Seat w Bs Bz Bw bs size ways) (hb : Below w.heap.size w w1) : Seat w1 Bs Bz Bw bs size ways :=
  ⟨Kd.C_below h.s hb, (hb.cell (p := ⟨Bz, 0, none⟩) h.lz).trans h.z, (hb.cell (p := ⟨Bw, 0, none⟩) h.ly).trans h.y, Nat.lt_of_lt_of_le h.ls hb.size, Nat.lt_of_lt_of_le h.lz hb.size, Nat.lt_of_lt_of_le h.ly hb.size⟩
theorem places_stops (n : Nat) (hn : 1 ≤ n) (Kp : World → World → Prop) (Bs Bz Bw : Nat) (bs : List Int) (size ways : Nat) (h0 : 0 < size) (hsz : size ≤ 65536) (hw : ways ≤ 8) (hbs : Bytes bs) (w : World) (hS : Seat w Bs Bz Bw bs size ways) (hz : ∀ W W', Kp W W' → Bz < W.heap.size → W'.cell? ⟨Bz, 0, none⟩ = W.cell? ⟨Bz, 0, none⟩) (hlz : ∀ W W', Kp W W' → W.heap.size ≤ W'.heap.size) :
    SeqStopsK Fence.wide n Try.prog 36 #[.pointer (some ⟨Bs, 0, none⟩), .pointer (some ⟨Bz, 0, none⟩), .pointer (some ⟨Bw, 0, none⟩)] (fun x : Fin size => #[.int .i64 (x.1 : Int)]) Kp (fun ys => ys = pfs bs size h0 ways) (fun pre => pre <+: pfs bs size h0 ways) ways w := fun l J Jx W hW hJ _ hY hJ0 => by
  have hI : AbidesFrom W.heap.size (fun pre W1 => J pre W1 ∧ Bz < W1.heap.size) := fun s W1 W2 row h hg hr => ⟨hJ s W1 W2 row h.1 hg hr, Nat.lt_of_lt_of_le h.2 hg.size⟩
  have h := places1_in n hn l Bs Bz Bw bs size ways h0 hsz hw hbs (fun pre W1 => J pre W1 ∧ Bz < W1.heap.size) Jx W hI
    (fun pre x W1 h1 h2 => by
      obtain ⟨fn, tmps, assign, body, hy, hR⟩ := hY pre x W1 h1.1 h2
      refine ⟨fn, tmps, assign, body, hy, hR.mono ?_⟩
      rintro e W' (⟨rfl, h3, h4⟩ | ⟨rfl, h3⟩)
      · exact .inl ⟨rfl, ⟨h3, Nat.lt_of_lt_of_le h1.2 (hlz _ _ h4)⟩, hz _ _ h4 h1.2⟩
      · exact .inr ⟨rfl, h3⟩)
    (hS.below hW).s (hS.below hW).z (hS.below hW).y ⟨hJ0, (hS.below hW).lz⟩
  refine h.mono ?_
  rintro e W' ⟨h1, h2⟩
  refine ⟨h1, h2.imp (fun ⟨ys, h3, h4⟩ => ⟨ys, h3, h4.1⟩) id⟩
theorem infoInt : (Try.prog.info? 3).map (fun i => (i.zero, i.size, i.bytes)) = some (some (.int .i64 0), 1, 8) := by kernel_rfl
def outs {size : Nat} (l : List (Fin size)) : List Int := l.map fun x => (x.1 : Int)
set_option maxRecDepth 100000 in
set_option maxHeartbeats 2000000 in
theorem append_in (n : Nat) (hn : 3 ≤ n) (Bs Bz Bw : Nat) (bs : List Int) (size ways : Nat) (h0 : 0 < size) (hsz : size ≤ 65536) (hw : ways ≤ 8) (hbs : Bytes bs) (w : World) (hS : Seat w Bs Bz Bw bs size ways) :
    CallsIn Fence.wide n Try.prog 35 #[.slice none 0 0, .func (.func 36) #[] #[.pointer (some ⟨Bs, 0, none⟩), .pointer (some ⟨Bz, 0, none⟩), .pointer (some ⟨Bw, 0, none⟩)]] w fun e W' =>
      ∃ v, e = .returned v ∧ W'.ownsRow w.heap.size 3 1 v ways (nums .i64 (outs (pfs bs size h0 ways))) ∧ Below w.heap.size w W' := by
  have h1 : 1 ≤ n := by omega
  obtain ⟨i0, hi, hz0, hz1, hz2⟩ := info_parts infoInt
  refine callsIn_of_wp_marks Try.func35 rfl trivial ?_ rfl
  simp only [Try.ntmps35, List.size_toArray, List.length_cons, List.length_nil, Nat.reduceAdd, Nat.reduceSub, Array.replicate_succ, Array.replicate_zero, List.push_toArray, List.append_toArray, List.nil_append, List.cons_append]
  gi_wp2
  have bO := Boxed.new w 30 (.slice none 0 0)
  have hB0 : Below w.heap.size w (w.alloc (.cells #[.slice none 0 0] 30)) := (Below.refl _ w).alloc (Nat.le_refl _) _
  refine wpIn_rangeFunc_ownG rfl h1 (gf := 36) (lb := #[.pointer (some ⟨Bs, 0, none⟩), .pointer (some ⟨Bz, 0, none⟩), .pointer (some ⟨Bw, 0, none⟩)]) rfl trivial (enters_of Try.func36 (by kernel_rfl) rfl)
    (places_stops (n - 1) (by omega) (Below w.heap.size) Bs Bz Bw bs size ways h0 hsz hw hbs _ (hS.below hB0) (fun W W' hk _ => hk.cell (p := ⟨Bz, 0, none⟩) hS.lz) (fun _ _ hk => hk.size)) belowK_t (belowK_b (by simp)) (Below.refl _ _) (fun _ => rfl)
    (fun pre W => (∃ v, Boxed W w.heap.size 30 v ∧ W.ownsRow w.heap.size 3 1 v pre.length (nums .i64 (outs pre)) ∧ True) ∧ Below w.heap.size w W)
    (fun _ _ _ => False)
    (OwnFrom.and (Own.from (holdsRow_own w.heap.size w.heap.size 30 3 1 (fun pre => pre.length) (fun pre => nums .i64 (outs pre)) (fun pre v => True)) _) (ownFrom_below (Nat.le_refl _) (by simp)))
    (fun _ _ _ _ _ hs _ _ => hs)
    ⟨⟨_, bO, World.ownsRow_nil _ _ _ _, trivial⟩, hB0⟩
    (fun x => { tmps := #[.slice none 0 0, .func (.func 36) #[] #[.pointer (some ⟨Bs, 0, none⟩), .pointer (some ⟨Bz, 0, none⟩), .pointer (some ⟨Bw, 0, none⟩)], .pointer (some ⟨w.heap.size, 0, none⟩), undef, .slice none 0 0, .int .i64 (x.1 : Int), .func (.func 36) #[] #[.pointer (some ⟨Bs, 0, none⟩), .pointer (some ⟨Bz, 0, none⟩), .pointer (some ⟨Bw, 0, none⟩)], .int .i64 (x.1 : Int), undef, undef, undef, undef, undef], defers := [] }) ?assign ?body ?done ?stop
  case assign =>
    intro l x W K hK
    gi_wp2
    exact hK
  case body =>
    rintro l pre x W ⟨⟨v, hv, hrow, _⟩, hB⟩ hlt
    have hc := hv.cell
    have hpl : pre.length ≤ 8 := Nat.le_of_lt (Nat.lt_of_lt_of_le hlt hw)
    gi_wp2_with (gi_at_builtin; refine wpListIn_append_own _ rfl _ _ 30 rfl w.heap.size 3 i0 (.int .i64 0) 1 8 Try.underlying30 hi hz0 hz1 hz2 rfl (by decide) _ _ _ rfl (hrow.alloc _) ⟨W.heap.size, 0, none⟩ 1 1 [.int .i64 (x.1 : Int)] rfl rfl (cell_one_new _ _ _) (by simp [Value.oneCell']) (by simp only [maxLen]; omega) (by omega) (by have := hB.size; simp; omega) ?_; intro v' w1 hown' hgrow _; obtain ⟨g', cap', rfl⟩ := ownsRow_succ hown'; obtain ⟨hv1, hv2, hr2, hk2, hb2⟩ := hv.appended (by decide) hrow hB.size (Nat.le_refl _) hown' hgrow; have hc1 := hv1.cell; have hf1 := hv1.frozen)
    exact ⟨hk2.from _, hb2, ⟨_, hv2, by simpa [outs, nums] using hr2, trivial⟩, hB.trans hb2⟩
  case done =>
    rintro D ys W hD rfl ⟨⟨v, hv, hrow, _⟩, hB⟩ hK
    have hc := hv.cell
    gi_wp2
    refine ⟨by simp, .inl ⟨_, _, rfl, run_takeDeferred hK, ?_⟩⟩
    exact ⟨_, results_tmp rfl _ _ _, v, rfl, by rw [pfs_len] at hrow; exact ownsRow_putObj hrow _ hK rfl, hB.trans (belowK_b (w := w) (Nat.le_refl _) W D _ _ (by simp at hD; omega) hK rfl rfl)⟩
  case stop =>
    rintro D c pre W _ _ h _
    exact h.elim
theorem append_calls (Bs Bz Bw : Nat) (bs : List Int) (size ways : Nat) (h0 : 0 < size) (hsz : size ≤ 65536) (hw : ways ≤ 8) (hbs : Bytes bs) (w : World) (hS : Seat w Bs Bz Bw bs size ways) :
    Calls Try.prog 35 #[.slice none 0 0, .func (.func 36) #[] #[.pointer (some ⟨Bs, 0, none⟩), .pointer (some ⟨Bz, 0, none⟩), .pointer (some ⟨Bw, 0, none⟩)]] w fun e W' =>
      ∃ v, e = .returned v ∧ W'.ownsRow w.heap.size 3 1 v ways (nums .i64 (outs (pfs bs size h0 ways))) ∧ Below w.heap.size w W' :=
  callsIn_wide.1 (append_in 3 (by decide) Bs Bz Bw bs size ways h0 hsz hw hbs w hS)
theorem collect_calls (Bs Bz Bw : Nat) (bs : List Int) (size ways : Nat) (h0 : 0 < size) (hsz : size ≤ 65536) (hw : ways ≤ 8) (hbs : Bytes bs) (w : World) (hS : Seat w Bs Bz Bw bs size ways) :
    Calls Try.prog 27 #[.func (.func 36) #[] #[.pointer (some ⟨Bs, 0, none⟩), .pointer (some ⟨Bz, 0, none⟩), .pointer (some ⟨Bw, 0, none⟩)]] w fun e W' =>
      ∃ v, e = .returned v ∧ W'.ownsRow w.heap.size 3 1 v ways (nums .i64 (outs (pfs bs size h0 ways))) ∧ Below w.heap.size w W' := by
  have HC := Aside0.mk (append_calls Bs Bz Bw bs size ways h0 hsz hw hbs w hS)
  clear hS
  go_enter Try.func27, Try.ntmps27
  go_wp2_with fail
  refine HC.out.mono ?_
  rintro e w' ⟨v, rfl, ho, hb⟩
  have HO := Aside0.mk ho
  clear ho
  go_wp2
  go_ret
  exact ⟨_, rfl, HO.out, hb⟩
end Go.Proofs.Ytnpcngnmjbhhaaa.BlC
