/- A deed that finds, drops, asks or clears, on both caches; condition: they were alike. -/
import Derived.Test.YtocmljijdecilaaCaDo
namespace Go.Proofs.Ytocmljijdecilaa.CaDp
open Go Go.RowKit Go.Proofs.YtocmljijdecilaaW.PrintWords Go.Proofs.Ytocmljijdecilaa.K Go.Proofs.Ytocmljijdecilaa.CaS Go.Proofs.Ytocmljijdecilaa.CaC Go.Proofs.Ytocmljijdecilaa.CaD Go.Proofs.Ytocmljijdecilaa.CaB2 Go.Proofs.Ytocmljijdecilaa.CaO Go.Proofs.Ytocmljijdecilaa.CaP Go.Proofs.Ytocmljijdecilaa.CaQ Go.Proofs.Ytocmljijdecilaa.CaX Go.Proofs.Ytocmljijdecilaa.CaY Go.Proofs.Ytocmljijdecilaa.CaM Go.Proofs.Ytocmljijdecilaa.CaN Go.Proofs.Ytocmljijdecilaa.CaDo
set_option linter.unusedVariables false
set_option linter.unusedSimpArgs false
theorem deed34 (d : Deed) (h : d.s.length = 32) : d.cells.toArray[34]? = some (.slice d.A d.k d.c) := by
  rw [List.getElem?_toArray]
  unfold Deed.cells
  rw [show (34 : Nat) = 32 + 1 + 1 from rfl, List.getElem?_cons_succ, List.getElem?_cons_succ, List.getElem?_append_right (by simp [nums, h])]
  simp [nums, h]
theorem deed_sum (d : Deed) (h : d.s.length = 32) {W : World} {B : Nat} {t : TypeId} (hb : W.heap[B]? = some (.cells d.cells.toArray t (0, 0))) : Hd.RangeA W ⟨B, 2, none⟩ (nums .u8 d.s) := fun j v hj => by
  have : (⟨B, 2, none⟩ : Addr).add j = ⟨B, 2 + j, none⟩ := by
    unfold Addr.add
    split
    · rename_i e; subst e; rfl
    · rfl
  rw [this]
  refine obj_cell hb (2 + j) ?_
  rw [List.getElem?_toArray]
  unfold Deed.cells
  rw [show 2 + j = j + 1 + 1 by omega, List.getElem?_cons_succ, List.getElem?_cons_succ, List.getElem?_append_left (List.getElem?_eq_some_iff.1 hj).1]
  exact hj
section
variable {w : World} {T : Nat → Prop} {gx gy : Nat} {room : Nat} {xs : List Bn}
theorem ys_nil {w : World} {T : Nat → Prop} {g : Nat} {room : Int} {A : Option Addr} {n c : Nat} (h : w.heap[g]? = some (.cells #[.int .i64 room, .slice A n c] 62 (0, 0))) : YS (w.setCell ⟨g, 1, none⟩ (.slice none 0 0)) T g room [] :=
  ⟨[], ⟨none, 0, (obj_set h 1 _).trans rfl, ⟨rfl, by decide, fun h => absurd h (Nat.lt_irrefl 0)⟩, Nat.le_refl _, fun a ha => by cases ha⟩, .nil⟩
set_option maxHeartbeats 4000000 in
set_option maxRecDepth 100000 in
theorem do_clear (h : Two w T gx gy room xs) (d : Deed) (h0 : d.op ≠ 0) (h1 : d.op ≠ 1) (h2 : d.op ≠ 2) (h3 : d.op ≠ 3) :
    Calls Try.prog 17 #[.pointer (some ⟨gx, 0, none⟩), .pointer (some ⟨gy, 0, none⟩), .agg d.cells.toArray] w fun e w' => e = .returned (.bool true) ∧ Two w' T gx gy room ([]) ∧ Tch w w' gx gy := by
  have hb := below_alloc (Below.refl w.heap.size w) (.cells d.cells.toArray 40)
  have hbox := heap_alloc_new w (.cells d.cells.toArray 40)
  have b0 := obj_cell hbox 0 (v := .int .i64 d.op) rfl
  have b1 := obj_cell hbox 1 (v := .int .i64 d.n) rfl
  have e0 : (d.op == 0) = false := by simpa using h0
  have e1 : (d.op == 1) = false := by simpa using h1
  have e2 : (d.op == 2) = false := by simpa using h2
  have e3 : (d.op == 3) = false := by simpa using h3
  have HW := Aside0.mk (h.below hb)
  obtain ⟨A, c, tr, hy, hC, h2⟩ := HW.out.yblk
  have y1 := obj_cell hy 1 (v := .slice A xs.length c) rfl
  have f1 := obj_free hy 1
  have HB := Aside0.mk hb
  have HY := Aside0.mk hy
  clear hb hbox hy hC h2 h
  go_enter Try.func17, Try.ntmps17
  go_wp2_with fail
  have hg1 := obj_grown (w.alloc (.cells d.cells.toArray 40)) gy 1 (.slice none 0 0)
  refine (x_clear (HW.out.x.other hg1 HW.out.ty HW.out.ne)).mono ?_
  rintro e w' ⟨rfl, h6, h7⟩
  have HR := Aside0.mk (HW.out.both' (xs' := []) (ys_nil HY.out) hg1 h6 h7 (CaM.good_nil room))
  clear h6 h7 hg1
  go_wp2
  go_ret
  exact ⟨rfl, HR.out.1, (Tch.of_below gx gy HB.out).trans HR.out.2⟩
set_option maxHeartbeats 4000000 in
set_option maxRecDepth 100000 in
theorem do_drop (h : Two w T gx gy room xs) (hr : 0 < room ∧ room ≤ 900) (d : Deed) (h2 : d.op = 2) :
    Calls Try.prog 17 #[.pointer (some ⟨gx, 0, none⟩), .pointer (some ⟨gy, 0, none⟩), .agg d.cells.toArray] w fun e w' => e = .returned (.bool true) ∧ Two w' T gx gy room (rmX xs d.n) ∧ Tch w w' gx gy := by
  have hb := below_alloc (Below.refl w.heap.size w) (.cells d.cells.toArray 40)
  have hbox := heap_alloc_new w (.cells d.cells.toArray 40)
  have b0 := obj_cell hbox 0 (v := .int .i64 d.op) rfl
  have b1 := obj_cell hbox 1 (v := .int .i64 d.n) rfl
  rw [h2] at b0
  have HW := Aside0.mk (h.below hb)
  have HB := Aside0.mk hb
  have hlim := h.lim gy h.ty
  clear hb hbox h2 h
  have hln : xs.reverse.length ≤ 900 := by have := HW.out.good.len; simp; omega
  go_enter Try.func17, Try.ntmps17
  go_wp2_with fail
  refine (y_drop HW.out.y hln HW.out.lim HW.out.ty d.n).mono ?_
  rintro e w1 ⟨rfl, h6, h7⟩
  have b1' : w1.cell? ⟨w.heap.size, 1, none⟩ = some (.int .i64 d.n) := by
    rw [← b1]
    unfold World.cell?
    rw [h7.block w.heap.size (by simp) (fun e => by injection e with e; omega)]
  have H6 := Aside0.mk h6
  have H7 := Aside0.mk h7
  clear h6 h7
  go_wp2_with fail
  refine (x_drop (HW.out.x.other H7.out HW.out.ty HW.out.ne) HW.out.good hr.2 (fun k hk => Nat.lt_of_lt_of_le (HW.out.lim k hk) H7.out.size) HW.out.tx d.n).mono ?_
  rintro e w2 ⟨rfl, h8, h9⟩
  have HR := Aside0.mk (HW.out.both' (xs' := rmX xs d.n) (by rw [← rm_rev]; exact H6.out) H7.out h8 h9 (good_rm HW.out.good d.n))
  clear h8 h9
  go_wp2
  go_ret
  exact ⟨rfl, HR.out.1, (Tch.of_below gx gy HB.out).trans HR.out.2⟩
end
end Go.Proofs.Ytocmljijdecilaa.CaDp
