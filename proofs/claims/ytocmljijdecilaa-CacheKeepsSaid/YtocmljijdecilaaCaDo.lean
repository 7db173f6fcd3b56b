/- What Put refuses; a deed on both caches: they answer alike, and stay alike; condition: they were alike. -/
import Derived.Test.YtocmljijdecilaaCaN
namespace Go.Proofs.Ytocmljijdecilaa.CaDo
open Go Go.RowKit Go.Proofs.YtocmljijdecilaaW.PrintWords Go.Proofs.Ytocmljijdecilaa.K Go.Proofs.Ytocmljijdecilaa.CaS Go.Proofs.Ytocmljijdecilaa.CaC Go.Proofs.Ytocmljijdecilaa.CaD Go.Proofs.Ytocmljijdecilaa.CaB2 Go.Proofs.Ytocmljijdecilaa.CaO Go.Proofs.Ytocmljijdecilaa.CaP Go.Proofs.Ytocmljijdecilaa.CaQ Go.Proofs.Ytocmljijdecilaa.CaX Go.Proofs.Ytocmljijdecilaa.CaM Go.Proofs.Ytocmljijdecilaa.CaN
set_option linter.unusedVariables false
set_option linter.unusedSimpArgs false
attribute [local go_sem] Oper.semAt_some
theorem put_arg (g : Nat) (b : Int) (hb : ¬ (0 ≤ b ∧ b < 4096)) (v : Value) (w : World) : Calls Try.prog 13 #[.pointer (some ⟨g, 0, none⟩), .int .i64 b, v] w fun e w' => e = .returned (.int .i64 2) ∧ w' = w := by
  by_cases h0 : b < 0
  · have d1 : decide (b < 0) = true := by simpa using h0
    clear hb h0
    refine (callsIn_wide (n := 3)).1 ?_
    refine callsIn_of_wp_marks Try.func13 rfl trivial ?_ rfl
    simp only [Try.ntmps13, List.size_toArray, List.length_cons, List.length_nil, Nat.reduceAdd, Nat.reduceSub, Array.replicate_succ, Array.replicate_zero, List.push_toArray, List.append_toArray, List.nil_append, List.cons_append]
    refine wpIn_wide.2 ?_
    go_wp2
    exact ⟨_, results_tmp rfl _ _ _, rfl, rfl⟩
  · have d1 : decide (b < 0) = false := by simpa using h0
    have d2 : decide (4096 ≤ b) = true := by simp; omega
    clear hb h0
    refine (callsIn_wide (n := 3)).1 ?_
    refine callsIn_of_wp_marks Try.func13 rfl trivial ?_ rfl
    simp only [Try.ntmps13, List.size_toArray, List.length_cons, List.length_nil, Nat.reduceAdd, Nat.reduceSub, Array.replicate_succ, Array.replicate_zero, List.push_toArray, List.append_toArray, List.nil_append, List.cons_append]
    refine wpIn_wide.2 ?_
    go_wp2
    exact ⟨_, results_tmp rfl _ _ _, rfl, rfl⟩
theorem put_lim (g : Nat) (b : Int) (hb0 : 0 ≤ b) (hb1 : b < 4096) (A : Option Addr) (k c : Nat) (hk : 64 < k) (w : World) : Calls Try.prog 13 #[.pointer (some ⟨g, 0, none⟩), .int .i64 b, .slice A k c] w fun e w' => e = .returned (.int .i64 6) ∧ w' = w := by
  have d1 : decide (b < 0) = false := by simpa using hb0
  have d2 : decide (4096 ≤ b) = false := by simpa using hb1
  have d3 : decide ((64 : Int) < (k : Int)) = true := by simp; omega
  clear hb0 hb1 hk
  refine (callsIn_wide (n := 3)).1 ?_
  refine callsIn_of_wp_marks Try.func13 rfl trivial ?_ rfl
  simp only [Try.ntmps13, List.size_toArray, List.length_cons, List.length_nil, Nat.reduceAdd, Nat.reduceSub, Array.replicate_succ, Array.replicate_zero, List.push_toArray, List.append_toArray, List.nil_append, List.cons_append]
  refine wpIn_wide.2 ?_
  go_wp2
  exact ⟨_, results_tmp rfl _ _ _, rfl, rfl⟩
theorem rput_arg (g : Nat) (b : Int) (hb : ¬ (0 ≤ b ∧ b < 4096)) (v : Value) (w : World) : Calls Try.prog 31 #[.pointer (some ⟨g, 0, none⟩), .int .i64 b, v] w fun e w' => e = .returned (.int .i64 2) ∧ w' = w := by
  by_cases h0 : b < 0
  · have d1 : decide (b < 0) = true := by simpa using h0
    clear hb h0
    go_enter Try.func31, Try.ntmps31
    go_wp2
    go_ret
    exact ⟨rfl, rfl⟩
  · have d1 : decide (b < 0) = false := by simpa using h0
    have d2 : decide (4095 < b) = true := by simp; omega
    clear hb h0
    go_enter Try.func31, Try.ntmps31
    go_wp2
    go_ret
    exact ⟨rfl, rfl⟩
theorem rput_lim (g : Nat) (b : Int) (hb0 : 0 ≤ b) (hb1 : b < 4096) (A : Option Addr) (k c : Nat) (hk : 64 < k) (w : World) : Calls Try.prog 31 #[.pointer (some ⟨g, 0, none⟩), .int .i64 b, .slice A k c] w fun e w' => e = .returned (.int .i64 6) ∧ w' = w := by
  have d1 : decide (b < 0) = false := by simpa using hb0
  have d2 : decide (4095 < b) = false := by simp; omega
  have d3 : decide ((64 : Int) < (k : Int)) = true := by simp; omega
  clear hb0 hb1 hk
  go_enter Try.func31, Try.ntmps31
  go_wp2
  go_ret
  exact ⟨rfl, rfl⟩
/-- What Put answers, and what it leaves. -/
def code (n : Int) (k : Nat) : Int := if 0 ≤ n ∧ n < 4096 then (if k ≤ 64 then 0 else 6) else 2
def putS (room : Nat) (xs : List Bn) (n : Int) (ss : List Sm) : List Bn := if 0 ≤ n ∧ n < 4096 ∧ ss.length ≤ 64 then putX room xs n ss else xs
theorem good_putS {room : Nat} {xs : List Bn} (h : CaM.Good room xs) (n : Int) (ss : List Sm) : CaM.Good room (putS room xs n ss) := by
  unfold putS
  split
  · rename_i e; exact good_put h n ss e.2.2
  · exact h
theorem x_put_any {w : World} {T : Nat → Prop} {g : Nat} {room : Nat} {xs : List Bn} (h : XS w T g room xs) (hG : CaM.Good room xs) (hr : room ≤ 900) (hT : ∀ k, T k → k < w.heap.size) (hTg : T g) (b : Int) (As : Option Addr) (k c2 : Nat) (ss : List Sm) (hs : dSum.C w As k ss) (hsa : 0 < k → ∀ a, As = some a → a.block ≠ g) :
    Calls Try.prog 13 #[.pointer (some ⟨g, 0, none⟩), .int .i64 b, .slice As k c2] w fun e w' => e = .returned (.int .i64 (code b k)) ∧ XS w' T g room (putS room xs b ss) ∧ w.grownBy w' (some g) := by
  have hkl : ss.length = k := hs.1
  unfold code putS
  rw [hkl]
  by_cases hb : 0 ≤ b ∧ b < 4096
  · rw [if_pos hb]
    by_cases hk : k ≤ 64
    · rw [if_pos hk, if_pos ⟨hb.1, hb.2, hk⟩]
      exact x_put h hG hr hT hTg b hb.1 hb.2 As k c2 ss hs hk hsa
    · rw [if_neg hk, if_neg (fun e => hk e.2.2)]
      refine (put_lim g b hb.1 hb.2 As k c2 (by omega) w).mono ?_
      rintro e w' ⟨rfl, rfl⟩
      exact ⟨rfl, h, World.grownBy.refl _ _⟩
  · rw [if_neg hb, if_neg (fun e => hb ⟨e.1, e.2.1⟩)]
    refine (put_arg g b hb _ w).mono ?_
    rintro e w' ⟨rfl, rfl⟩
    exact ⟨rfl, h, World.grownBy.refl _ _⟩
theorem y_put_any {w : World} {T : Nat → Prop} {g : Nat} {room : Nat} {xs : List Bn} (h : YS w T g room xs.reverse) (hG : CaM.Good room xs) (hr : 0 < room ∧ room ≤ 900) (hT : ∀ k, T k → k < w.heap.size) (hTg : T g) (b : Int) (As : Option Addr) (k c2 : Nat) (ss : List Sm) (hs : dSum.C w As k ss) (hsa : 0 < k → ∀ a, As = some a → a.block ≠ g) :
    Calls Try.prog 31 #[.pointer (some ⟨g, 0, none⟩), .int .i64 b, .slice As k c2] w fun e w' => e = .returned (.int .i64 (code b k)) ∧ YS w' T g room (putS room xs b ss).reverse ∧ w.grownBy w' (some g) := by
  have hkl : ss.length = k := hs.1
  unfold code putS
  rw [hkl]
  by_cases hb : 0 ≤ b ∧ b < 4096
  · rw [if_pos hb]
    by_cases hk : k ≤ 64
    · rw [if_pos hk, if_pos ⟨hb.1, hb.2, hk⟩, ← put_rev hr.1 hG]
      exact y_put h (by have := hG.len; simp; omega) hT hTg b hb.1 hb.2 As k c2 ss hs hk hsa
    · rw [if_neg hk, if_neg (fun e => hk e.2.2)]
      refine (rput_lim g b hb.1 hb.2 As k c2 (by omega) w).mono ?_
      rintro e w' ⟨rfl, rfl⟩
      exact ⟨rfl, h, World.grownBy.refl _ _⟩
  · rw [if_neg hb, if_neg (fun e => hb ⟨e.1, e.2.1⟩)]
    refine (rput_arg g b hb _ w).mono ?_
    rintro e w' ⟨rfl, rfl⟩
    exact ⟨rfl, h, World.grownBy.refl _ _⟩
def foundX (xs : List Bn) (s : Sm) : List Bn := ((findX xs s).map (fun p => moveX xs p.1)).getD xs
theorem found_none {xs : List Bn} {s : Sm} (h : findX xs s = none) : foundX xs s = xs := by unfold foundX; rw [h]; rfl
theorem found_some {xs : List Bn} {s : Sm} {i j : Nat} (h : findX xs s = some (i, j)) : foundX xs s = moveX xs i := by unfold foundX; rw [h]; rfl
def stepX (room : Nat) (xs : List Bn) (d : Deed) : List Bn :=
  if d.op = 0 then putS room xs d.n d.ls
  else if d.op = 1 then foundX xs d.s
  else if d.op = 2 then rmX xs d.n
  else if d.op = 3 then xs else []
structure Two (w : World) (T : Nat → Prop) (gx gy : Nat) (room : Nat) (xs : List Bn) : Prop where
  x : XS w T gx room xs
  y : YS w T gy room xs.reverse
  good : CaM.Good room xs
  ne : gx ≠ gy
  tx : T gx
  ty : T gy
  lim : ∀ k, T k → k < w.heap.size
structure Tch (w w' : World) (gx gy : Nat) : Prop where
  os : w'.os = w.os
  tape : w'.tape = w.tape
  output : w'.output = w.output
  size : w.heap.size ≤ w'.heap.size
  block : ∀ k, k < w.heap.size → k ≠ gx → k ≠ gy → w'.heap[k]? = w.heap[k]?
theorem Tch.trans {w w1 w2 : World} {gx gy : Nat} (h : Tch w w1 gx gy) (k : Tch w1 w2 gx gy) : Tch w w2 gx gy :=
  ⟨k.os.trans h.os, k.tape.trans h.tape, k.output.trans h.output, Nat.le_trans h.size k.size, fun j hj h1 h2 => (k.block j (Nat.lt_of_lt_of_le hj h.size) h1 h2).trans (h.block j hj h1 h2)⟩
theorem Tch.of_below {w w1 : World} (gx gy : Nat) (h : Below w.heap.size w w1) : Tch w w1 gx gy := ⟨h.os, h.tape, h.output, h.size, fun j hj _ _ => h.block j hj⟩
theorem Tch.of_none {w w1 : World} (gx gy : Nat) (h : w.grownBy w1 none) : Tch w w1 gx gy := ⟨h.os, h.tape, h.output, h.size, fun j hj _ _ => h.block j hj (fun e => by cases e)⟩
theorem Tch.of_x {w w1 : World} {gx : Nat} (gy : Nat) (h : w.grownBy w1 (some gx)) : Tch w w1 gx gy := ⟨h.os, h.tape, h.output, h.size, fun j hj h1 _ => h.block j hj (fun e => by injection e with e; exact h1 e)⟩
theorem Tch.of_y {w w1 : World} (gx : Nat) {gy : Nat} (h : w.grownBy w1 (some gy)) : Tch w w1 gx gy := ⟨h.os, h.tape, h.output, h.size, fun j hj _ h1 => h.block j hj (fun e => by injection e with e; exact h1 e)⟩
theorem Tch.of_new {w w1 : World} (gx gy : Nat) {b B : Nat} (h : w.grownBy w1 (some b)) (hB : B ≤ b) (w0 : World) (h0 : Tch w0 w gx gy) (hb : w0.heap.size = B) : Tch w0 w1 gx gy :=
  ⟨h.os.trans h0.os, h.tape.trans h0.tape, h.output.trans h0.output, Nat.le_trans h0.size h.size, fun j hj h1 h2 => (h.block j (Nat.lt_of_lt_of_le hj h0.size) (fun e => by injection e with e; omega)).trans (h0.block j hj h1 h2)⟩
theorem Tch.below {w0 w w' : World} {gx gy B : Nat} (h : Tch w w' gx gy) (hb : Below B w0 w) (hB : B ≤ w.heap.size) (h1 : B ≤ gx) (h2 : B ≤ gy) : Below B w0 w' :=
  ⟨h.os.trans hb.os, h.tape.trans hb.tape, h.output.trans hb.output, Nat.le_trans hb.size h.size, fun j hj => (h.block j (Nat.lt_of_lt_of_le hj hB) (by omega) (by omega)).trans (hb.block j hj)⟩
section
variable {w w1 : World} {T : Nat → Prop} {gx gy : Nat} {room : Nat} {xs : List Bn}
theorem Two.below (h : Two w T gx gy room xs) (hb : Below w.heap.size w w1) : Two w1 T gx gy room xs := ⟨h.x.below hb, h.y.below hb, h.good, h.ne, h.tx, h.ty, fun k hk => Nat.lt_of_lt_of_le (h.lim k hk) hb.size⟩
theorem Two.none (h : Two w T gx gy room xs) (hg : w.grownBy w1 none) : Two w1 T gx gy room xs := h.below ⟨hg.os, hg.tape, hg.output, hg.size, fun k hk => hg.block k hk (fun e => by cases e)⟩
theorem Two.both {xs' : List Bn} {w2 : World} (h : Two w T gx gy room xs) (hx : XS w1 T gx room xs') (g1 : w.grownBy w1 (some gx)) (hy : YS w2 T gy room xs'.reverse) (g2 : w1.grownBy w2 (some gy)) (hgd : CaM.Good room xs') : Two w2 T gx gy room xs' ∧ Tch w w2 gx gy :=
  ⟨⟨hx.other g2 h.ty h.ne, hy, hgd, h.ne, h.tx, h.ty, fun k hk => Nat.lt_of_lt_of_le (h.lim k hk) (Nat.le_trans g1.size g2.size)⟩, (Tch.of_x gy g1).trans (Tch.of_y gx g2)⟩
theorem Two.both' {xs' : List Bn} {w2 : World} (h : Two w T gx gy room xs) (hy : YS w1 T gy room xs'.reverse) (g1 : w.grownBy w1 (some gy)) (hx : XS w2 T gx room xs') (g2 : w1.grownBy w2 (some gx)) (hgd : CaM.Good room xs') : Two w2 T gx gy room xs' ∧ Tch w w2 gx gy :=
  ⟨⟨hx, hy.other g2 h.tx h.ne.symm, hgd, h.ne, h.tx, h.ty, fun k hk => Nat.lt_of_lt_of_le (h.lim k hk) (Nat.le_trans g1.size g2.size)⟩, (Tch.of_y gx g1).trans (Tch.of_x gy g2)⟩
theorem Two.yblk (h : Two w T gx gy room xs) : ∃ A c tr, w.heap[gy]? = some (.cells #[.int .i64 (room : Int), .slice A xs.length c] 62 (0, 0)) ∧ dKr.C w A xs.length tr ∧ All2 (fun t p => ToldR w T t p.1 p.2) tr xs.reverse := by
  obtain ⟨tr, ⟨A, c, e1, e2, e3, e4⟩, h2⟩ := h.y
  have hl := h2.len
  rw [List.length_reverse] at hl
  rw [hl] at e1 e2
  exact ⟨A, c, tr, e1, e2, h2⟩
end
end Go.Proofs.Ytocmljijdecilaa.CaDo
