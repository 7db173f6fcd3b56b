/- A deed that asks, and one that finds, on both caches; condition: they were alike. -/
import Derived.Test.YtocmljijdecilaaCaDp
namespace Go.Proofs.Ytocmljijdecilaa.CaDq
open Go Go.RowKit Go.Proofs.YtocmljijdecilaaW.PrintWords Go.Proofs.Ytocmljijdecilaa.K Go.Proofs.Ytocmljijdecilaa.CaS Go.Proofs.Ytocmljijdecilaa.CaC Go.Proofs.Ytocmljijdecilaa.CaD Go.Proofs.Ytocmljijdecilaa.CaB2 Go.Proofs.Ytocmljijdecilaa.CaO Go.Proofs.Ytocmljijdecilaa.CaP Go.Proofs.Ytocmljijdecilaa.CaQ Go.Proofs.Ytocmljijdecilaa.CaX Go.Proofs.Ytocmljijdecilaa.CaY Go.Proofs.Ytocmljijdecilaa.CaM Go.Proofs.Ytocmljijdecilaa.CaN Go.Proofs.Ytocmljijdecilaa.CaDo Go.Proofs.Ytocmljijdecilaa.CaDp
set_option linter.unusedVariables false
set_option linter.unusedSimpArgs false
section
variable {w : World} {T : Nat → Prop} {gx gy : Nat} {room : Nat} {xs : List Bn}
set_option maxHeartbeats 4000000 in
set_option maxRecDepth 100000 in
theorem do_find (h : Two w T gx gy room xs) (hr : 0 < room ∧ room ≤ 900) (d : Deed) (hok : OkSum d.s) (h1 : d.op = 1) :
    Calls Try.prog 17 #[.pointer (some ⟨gx, 0, none⟩), .pointer (some ⟨gy, 0, none⟩), .agg d.cells.toArray] w fun e w' => e = .returned (.bool true) ∧ Two w' T gx gy room (foundX xs d.s) ∧ Tch w w' gx gy := by
  have hb := below_alloc (Below.refl w.heap.size w) (.cells d.cells.toArray 40)
  have hbox := heap_alloc_new w (.cells d.cells.toArray 40)
  have b0 := obj_cell hbox 0 (v := .int .i64 d.op) rfl
  have b1 := obj_cell hbox 1 (v := .int .i64 d.n) rfl
  rw [h1] at b0
  have HW := Aside0.mk (h.below hb)
  have HB := Aside0.mk hb
  have HRA := Aside0.mk (deed_sum d hok.1 hbox)
  have HUS := Aside0.mk Try.underlying35
  have HIS := Aside0.mk (infoSmS d.s hok)
  have hlim := h.lim gy h.ty
  have hlim2 := h.lim gx h.tx
  have hn : xs.length ≤ 900 := by have := h.good.len; omega
  have hnr : xs.reverse.length ≤ 900 := by simpa using hn
  have HBX := Aside0.mk hbox
  clear hb hbox h1 h b1
  go_enter Try.func17, Try.ntmps17
  have HXF := Aside0.mk (x_find HW.out.x hn HW.out.lim HW.out.tx d.s hok)
  have HYF : Aside0 (∀ W1 : World, YS W1 T gy room xs.reverse → (∀ k, T k → k < W1.heap.size) → _) := ⟨fun W1 hy hl => y_find hy hnr hl HW.out.ty d.s hok⟩
  have HRA2 : Aside0 (∀ W1 : World, (w.alloc (.cells d.cells.toArray 40)).grownBy W1 (some gx) → Hd.RangeA W1 ⟨w.heap.size, 2, none⟩ (nums .u8 d.s)) := ⟨fun W1 hg => deed_sum d hok.1 ((hg.block w.heap.size (by simp) (fun e => by injection e with e; omega)).trans HBX.out)⟩
  generalize hN : nums .u8 d.s = N at *
  go_wp2_with ((with_reducible refine gate_ (.load 35 (.tmp 57)) rfl ?_); refine Hd.wpList_load_any rfl _ (.tmp 57) rfl _ rfl N _ HRA.out HUS.out rfl HIS.out ?_)
  refine HXF.out.mono ?_
  rintro e w1 (⟨h3, rfl, h5⟩ | ⟨i, j, h3, rfl, h5, h6⟩)
  · have hT1 := HW.out.none h5
    have hgx : (w.alloc (.cells d.cells.toArray 40)).grownBy w1 (some gx) := grown_old h5
    have HRB := Aside0.mk (HRA2.out w1 hgx)
    have HT1 := Aside0.mk hT1
    have H5 := Aside0.mk h5
    have HYG := Aside0.mk (HYF.out w1 hT1.y hT1.lim)
    clear hT1 hgx h5 HXF
    go_wp2_with ((with_reducible refine gate_ (.load 35 (.tmp 65)) rfl ?_); refine Hd.wpList_load_any rfl _ (.tmp 65) rfl _ rfl N _ HRB.out HUS.out rfl HIS.out ?_)
    refine HYG.out.mono ?_
    have hrev := find_rev xs d.s
    rw [h3] at hrev
    rintro e w2 (⟨g3, rfl, g5⟩ | ⟨i, j, g3, _⟩)
    · have G5 := Aside0.mk g5
      clear g5
      go_wp2
      go_ret
      rw [found_none h3]
      exact ⟨rfl, HT1.out.below G5.out, ((Tch.of_below gx gy HB.out).trans (Tch.of_none gx gy H5.out)).trans (Tch.of_below gx gy G5.out)⟩
    · rw [g3] at hrev; cases hrev
  · have hi := find_in_lt h3
    generalize hbq : (xs.getD i default).1 = bb
    have hy1 : YS w1 T gy room xs.reverse := HW.out.y.other h6 HW.out.tx HW.out.ne.symm
    have HRB := Aside0.mk (HRA2.out w1 h6)
    have H5 := Aside0.mk h5
    have H6 := Aside0.mk h6
    have HYG := Aside0.mk (HYF.out w1 hy1 (fun k hk => Nat.lt_of_lt_of_le (HW.out.lim k hk) h6.size))
    clear h5 h6 HXF hy1
    go_wp2_with ((with_reducible refine gate_ (.load 35 (.tmp 65)) rfl ?_); refine Hd.wpList_load_any rfl _ (.tmp 65) rfl _ rfl N _ HRB.out HUS.out rfl HIS.out ?_)
    refine HYG.out.mono ?_
    have hrev := find_rev xs d.s
    rw [h3] at hrev
    rintro e w2 (⟨g3, _⟩ | ⟨i2, j2, g3, g4, rfl, g5, g6⟩)
    · rw [g3] at hrev; cases hrev
    · rw [g3] at hrev
      injection hrev with hrev
      injection hrev with e1 e2
      simp only at e1 e2
      subst e1
      subst e2
      rw [getD_rev xs i hi, hbq]
      rw [move_rev HW.out.good i hi] at g5
      have HR := Aside0.mk (HW.out.both (xs' := moveX xs i) H5.out H6.out g5 g6 (good_move HW.out.good i hi))
      clear g5 g6
      have hbb : (bb == bb) = true := by simp
      have hjj : ((j2 : Int) == (j2 : Int)) = true := by simp
      go_wp2
      go_ret
      rw [found_some h3]
      exact ⟨rfl, HR.out.1, (Tch.of_below gx gy HB.out).trans HR.out.2⟩
end
end Go.Proofs.Ytocmljijdecilaa.CaDq
