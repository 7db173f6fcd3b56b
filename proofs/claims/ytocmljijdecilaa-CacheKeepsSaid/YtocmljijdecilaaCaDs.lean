/- A deed that puts, on both caches; condition: they were alike. -/
import Derived.Test.YtocmljijdecilaaCaDr
namespace Go.Proofs.Ytocmljijdecilaa.CaDs
open Go Go.RowKit Go.Proofs.YtocmljijdecilaaW.PrintWords Go.Proofs.Ytocmljijdecilaa.K Go.Proofs.Ytocmljijdecilaa.CaS Go.Proofs.Ytocmljijdecilaa.CaC Go.Proofs.Ytocmljijdecilaa.CaD Go.Proofs.Ytocmljijdecilaa.CaB2 Go.Proofs.Ytocmljijdecilaa.CaO Go.Proofs.Ytocmljijdecilaa.CaP Go.Proofs.Ytocmljijdecilaa.CaQ Go.Proofs.Ytocmljijdecilaa.CaX Go.Proofs.Ytocmljijdecilaa.CaY Go.Proofs.Ytocmljijdecilaa.CaM Go.Proofs.Ytocmljijdecilaa.CaN Go.Proofs.Ytocmljijdecilaa.CaDo Go.Proofs.Ytocmljijdecilaa.CaDp
set_option linter.unusedVariables false
set_option linter.unusedSimpArgs false
/-- The first number of each of k sums, in one block. -/
def U8s (w : World) (a : Addr) (k : Nat) : Prop := ∃ g cur, ∃ e : TypeId, a = ⟨g, 0, none⟩ ∧ w.heap[g]? = some (.cells cur e (0, 0)) ∧ ∀ j, j < k → ∃ x, cur[j * 32]? = some (.int .u8 x)
theorem U8s.cell {w : World} {a : Addr} {k j : Nat} (h : U8s w a k) (hj : j < k) : ∃ x, w.cell? (a.add (j * 32)) = some (.int .u8 x) ∧ w.frozen? (a.add (j * 32)) = false := by
  obtain ⟨g, cur, e, rfl, hh, hc⟩ := h
  obtain ⟨x, hx⟩ := hc j hj
  exact ⟨x, by rw [addr0]; exact obj_cell hh _ hx, by rw [addr0]; exact obj_free hh _⟩
theorem U8s.set {w : World} {a : Addr} {k i : Nat} (h : U8s w a k) (hi : i < k) (y : Int) : U8s (w.setCell (a.add (i * 32)) (.int .u8 y)) a k ∧ w.grownBy (w.setCell (a.add (i * 32)) (.int .u8 y)) (some a.block) := by
  obtain ⟨g, cur, e, rfl, hh, hc⟩ := h
  rw [addr0]
  refine ⟨⟨g, _, e, rfl, obj_set hh _ _, fun j hj => ?_⟩, obj_grown _ _ _ _⟩
  rw [Array.getElem?_setIfInBounds]
  split
  · rename_i e1
    obtain ⟨x, hx⟩ := hc j hj
    rw [e1, if_pos (Array.getElem?_eq_some_iff.1 hx).1]
    exact ⟨y, rfl⟩
  · exact hc j hj
theorem U8s.kept {w w1 : World} {a : Addr} {k : Nat} (h : U8s w a k) (hb : w1.heap[a.block]? = w.heap[a.block]?) : U8s w1 a k := by
  obtain ⟨g, cur, e, rfl, hh, hc⟩ := h
  exact ⟨g, cur, e, rfl, hb.trans hh, hc⟩
theorem u8s_of {w : World} {e : TypeId} {base : Nat} {v : Value} {l : List Sm} {A : Option Addr} {c : Nat} (h : dSum.R e w base (fun _ => True) v l) (hv : v = .slice A l.length c) : ∀ a, A = some a → 0 < l.length → U8s w a l.length := by
  intro a ha hl
  obtain ⟨g, cap, e2, _, _, cur, hcur⟩ := Kd.R_form h hl
  rw [e2] at hv
  injection hv with hv _ _
  rw [ha] at hv
  injection hv with hv
  subst hv
  have hC := (Kd.R_reads' (by rw [e2] at h; exact h)).2.2
  refine ⟨g, cur, _, rfl, hcur, fun j hj => ?_⟩
  obtain ⟨ad, had, hok, hra⟩ := sm_at hC j hj
  injection had with had
  subst had
  have h0 : 0 < (nums .u8 l[j]).length := by simp [nums, hok.1]
  have := hra 0 _ (List.getElem?_eq_getElem h0)
  rw [Addr.add_add, addr0, Nat.add_zero] at this
  rw [cell_of_row w g _ cur _ (0, 0) hcur] at this
  exact ⟨(l[j]'hj)[0]'(by rw [hok.1]; decide), this.trans (by simp [nums])⟩
section
variable {w : World} {T : Nat → Prop} {gx gy : Nat} {room : Nat} {xs : List Bn}
set_option maxHeartbeats 8000000 in
set_option maxRecDepth 100000 in
theorem do_put (h : Two w T gx gy room xs) (hr : 0 < room ∧ room ≤ 900) (d : Deed) (hd : d.Ok w) (hdA : 0 < d.k → ∀ a, d.A = some a → a.block ≠ gx ∧ a.block ≠ gy) (h0 : d.op = 0) :
    Calls Try.prog 17 #[.pointer (some ⟨gx, 0, none⟩), .pointer (some ⟨gy, 0, none⟩), .agg d.cells.toArray] w fun e w' => e = .returned (.bool true) ∧ Two w' T gx gy room (putS room xs d.n d.ls) ∧ Tch w w' gx gy := by
  have hb := below_alloc (Below.refl w.heap.size w) (.cells d.cells.toArray 40)
  have hbox := heap_alloc_new w (.cells d.cells.toArray 40)
  have b0 := obj_cell hbox 0 (v := .int .i64 d.op) rfl
  have b1 := obj_cell hbox 1 (v := .int .i64 d.n) rfl
  have b34 := obj_cell hbox 34 (deed34 d hd.len)
  have b34b := obj_cell (CaF.old_al (o := .cells #[] 35) hbox) 34 (deed34 d hd.len)
  rw [h0] at b0
  have HW := Aside0.mk (h.below hb)
  have HB := Aside0.mk hb
  have hn : xs.length ≤ 900 := by have := h.good.len; omega
  have HL := Aside0.mk (Kd.C_below (sums_C hd.l) hb)
  have hsm := hd.small
  have hlk : d.ls.length = d.k := hd.l.len
  have hmn := Kd.R_made_nil dSum (w.alloc (.cells d.cells.toArray 40)) 35
  have hba := below_alloc (Below.refl (w.alloc (.cells d.cells.toArray 40)).heap.size (w.alloc (.cells d.cells.toArray 40))) (.cells #[] 35)
  rw [World.size_alloc] at hmn hba
  have HMN := Aside0.mk hmn
  have HBA := Aside0.mk hba
  clear hmn hba
  have HLX := Aside0.mk (show gx < w.heap.size ∧ gy < w.heap.size from ⟨h.lim gx h.tx, h.lim gy h.ty⟩)
  have HBX := Aside0.mk hbox
  clear hb hbox h0 h
  go_enter Try.func17, Try.ntmps17
  go_wp2_with ((with_reducible refine gate_builtin (b := .append) (xs := #[.tmp 22, .tmp 24]) rfl ?_); at_builtin; refine app dSum flat_sum (w.heap.size + 1) (w0 := (w.alloc (.cells d.cells.toArray 40))) (.tmp 22) (.tmp 24) 38 35 (.agg (List.replicate 32 (Value.int .u8 0)).toArray) 32 rfl rfl Try.underlying38 infoSm rfl (by decide) (by decide) _ [] d.ls d.A d.k d.c rfl rfl ?aO ?aR ?aB ?aS ?aL ?_; (case aO => exact HMN.out); (case aR => exact (Kd.C_below HL.out (below_alloc (Below.refl _ _) _))); (case aB => exact HBA.out); (case aS => exact (by simp)); (case aL => exact (by simp; omega)); intro v1 w1 ho1 hb1 hg1 hat1; have HO1 := Aside0.mk ho1; have HB1 := Aside0.mk hb1; have b1c := (hb1.cell (p := ⟨w.heap.size, 1, none⟩) (by simp)).trans b1; clear ho1 hb1 hg1 hat1)
  have ho1 := HO1.out
  rw [List.nil_append] at ho1
  have hrd := Kd.R_reads ho1
  obtain ⟨A5, c5, hv1, hlc5, hC5⟩ := hrd
  subst hv1
  have HA5 : Aside0 (∀ a, A5 = some a → w.heap.size + 1 ≤ a.block ∧ a.block < w1.heap.size) := ⟨fun a ha => ⟨Kd.R_base ho1 _ (by rw [ha]; rfl), Kd.R_lt ho1 _ (by rw [ha]; rfl)⟩⟩
  have HU5 := Aside0.mk (u8s_of ho1 rfl)
  have hsz1 := HB1.out.size
  rw [World.size_alloc] at hsz1
  have hb1' : Below (w.alloc (.cells d.cells.toArray 40)).heap.size (w.alloc (.cells d.cells.toArray 40)) w1 := by rw [World.size_alloc]; exact HB1.out
  have hw0 : ∀ k, k < (w.alloc (.cells d.cells.toArray 40)).heap.size → (T k ∨ ∃ a, A5 = some a ∧ k = a.block) → T k := fun k hk ht => by
    rw [World.size_alloc] at hk
    rcases ht with ht | ⟨a, ha, rfl⟩
    · exact ht
    · have := (HA5.out a ha).1; omega
  have HW1 : Aside0 (Two w1 (fun k => T k ∨ ∃ a, A5 = some a ∧ k = a.block) gx gy room xs) := ⟨⟨(HW.out.x.wider hw0).below hb1', (HW.out.y.wider hw0).below hb1', HW.out.good, HW.out.ne, .inl HW.out.tx, .inl HW.out.ty, fun k hk => by
    rcases hk with hk | ⟨a, ha, rfl⟩
    · have := HW.out.lim k hk; rw [World.size_alloc] at this; omega
    · exact (HA5.out a ha).2⟩⟩
  rw [hlk] at hC5 HU5
  have HC5 := Aside0.mk hC5
  have hgxw := HLX.out.1
  have hgyw := HLX.out.2
  clear ho1 hC5 hw0 hb1' HO1 HMN HBA b34 b34b
  rw [hlk]
  refine (x_put_any HW1.out.x HW1.out.good hr.2 HW1.out.lim HW1.out.tx d.n A5 d.k c5 d.ls HC5.out (fun _ a ha => by have := (HA5.out a ha).1; omega)).mono ?_
  rintro e w2 ⟨rfl, hx2, hg2⟩
  have HX2 := Aside0.mk hx2
  have HG2 := Aside0.mk hg2
  have hb12 := (show w2.cell? ⟨w.heap.size, 1, none⟩ = some (.int .i64 d.n) from by
    rw [← b1c]
    unfold World.cell?
    rw [hg2.block w.heap.size (by omega) (fun e => by injection e with e; omega)])
  have HB12 := Aside0.mk hb12
  clear hx2 hg2 hb12 b1c b1 b0
  go_wp2_with fail
  go_loopg [9] (d.k + 1) (fun gk v9 wr => ∃ i : Nat, v9 = .int .i64 i ∧ i ≤ d.k ∧ Aside0 (gk = d.k - i + 1) ∧ Aside0 (∀ a, A5 = some a → 0 < d.k → U8s wr a d.k) ∧ Aside0 (w2.grownBy wr (A5.map (·.block))))
  case atStart => exact ⟨0, rfl, Nat.zero_le _, ⟨rfl⟩, ⟨fun a ha h0 => (HU5.out a ha h0).kept (HG2.out.block _ (HA5.out a ha).2 (fun e => by injection e with e; have := (HA5.out a ha).1; omega))⟩, ⟨World.grownBy.refl _ _⟩⟩
  case round =>
    obtain ⟨i, rfl, hi, HGK, HU, HGR⟩ := hrel
    obtain ⟨wo, rfl⟩ : ∃ X : World, X = wr := ⟨_, rfl⟩
    by_cases hlt : i < d.k
    · have h1 : decide ((i : Int) < (d.k : Int)) = true := by simp; omega
      have hp1 : (0 : Int) ≤ (i : Int) := by omega
      have hp2 : (i : Int) < (d.k : Int) := by omega
      obtain ⟨a5, rfl, _, _⟩ := sm_at HC5.out i (by omega)
      obtain ⟨x, hx, hf⟩ := (HU.out a5 rfl (by omega)).cell hlt
      go_wp2_with fail
      (refine Hd.startE (S := (fun X => X.cell? (a5.add (i * 32)) = some (.int .u8 x))) 8 (by kernel_rfl) (hx) (fun hHeld => ?_))
      (refine Hd.takeE (i := 0) (v := ?_) rfl rfl (by kernel_rfl) (by kernel_rfl) (by kernel_rfl) (by kernel_rfl) (fun _ _ _ h => h) (Or.inl ⟨by rfl, ?_⟩) (by assumption) ?_; rotate_left; (focus (intro wS hS; (try go_split_ands); go_simp; all_goals (with_reducible rfl))); simp only [List.set_cons_zero, List.set_cons_succ, List.setIfInBounds_toArray]); (refine Hd.takeE (i := 1) (v := ?_) rfl rfl (by kernel_rfl) (by kernel_rfl) (by kernel_rfl) (by kernel_rfl) (fun _ _ _ h => h) (Or.inl ⟨by rfl, ?_⟩) (by assumption) ?_; rotate_left; (focus (intro wS hS; (try go_split_ands); go_simp; all_goals (with_reducible rfl))); simp only [List.set_cons_zero, List.set_cons_succ, List.setIfInBounds_toArray]); (refine Hd.takeE (i := 2) (v := ?_) rfl rfl (by kernel_rfl) (by kernel_rfl) (by kernel_rfl) (by kernel_rfl) (fun _ _ _ h => h) (Or.inl ⟨by rfl, ?_⟩) (by assumption) ?_; rotate_left; (focus (intro wS hS; (try go_split_ands); go_simp; all_goals (with_reducible rfl))); simp only [List.set_cons_zero, List.set_cons_succ, List.setIfInBounds_toArray]); (refine Hd.takeE (i := 3) (v := ?_) rfl rfl (by kernel_rfl) (by kernel_rfl) (by kernel_rfl) (by kernel_rfl) (fun _ _ _ h => h) (Or.inl ⟨by rfl, ?_⟩) (by assumption) ?_; rotate_left; (focus (intro wS hS; (try go_split_ands); go_simp; all_goals (with_reducible rfl))); simp only [List.set_cons_zero, List.set_cons_succ, List.setIfInBounds_toArray]); (refine Hd.takeE (i := 4) (v := ?_) rfl rfl (by kernel_rfl) (by kernel_rfl) (by kernel_rfl) (by kernel_rfl) (fun _ _ _ h => h) (Or.inl ⟨by rfl, ?_⟩) (by assumption) ?_; rotate_left; (focus (intro wS hS; (try go_split_ands); go_simp; all_goals (with_reducible rfl))); simp only [List.set_cons_zero, List.set_cons_succ, List.setIfInBounds_toArray]); (refine Hd.takeE (i := 5) (v := ?_) rfl rfl (by kernel_rfl) (by kernel_rfl) (by kernel_rfl) (by kernel_rfl) (fun _ _ _ h => h) (Or.inl ⟨by rfl, ?_⟩) (by assumption) ?_; rotate_left; (focus (intro wS hS; (try go_split_ands); go_simp; all_goals (with_reducible rfl))); simp only [List.set_cons_zero, List.set_cons_succ, List.setIfInBounds_toArray])
      (refine Hd.readyE (rs := [6]) (by kernel_rfl) (by simp) ?_; refine Hd.AllE.cons (i := 6) rfl (fun K hK => ?_) Hd.AllE.nil; go_simp; refine hK.out _ _ (hx) (fun hHeld => ?_); clear hK K; (try simp only [Act.put, List.setIfInBounds_toArray, List.set_cons_zero, List.set_cons_succ]))
      (refine Hd.readyE (rs := [7]) (by kernel_rfl) (by simp) ?_; refine Hd.AllE.cons (i := 7) rfl (fun K hK => ?_) Hd.AllE.nil; go_simp; refine hK.out _ _ (hx) (fun hHeld => ?_); clear hK K; (try simp only [Act.put, List.setIfInBounds_toArray, List.set_cons_zero, List.set_cons_succ]))
      (refine Hd.readyE (rs := [8]) (by kernel_rfl) (by simp) ?_; refine Hd.AllE.last (i := 8) rfl (fun K hK => ?_); go_simp; refine hK.out _ _ ?_; clear hK K; (try simp only [Act.put, List.setIfInBounds_toArray, List.set_cons_zero, List.set_cons_succ]))
      (refine Hd.endE (by kernel_rfl) ?_ _)
      have HUD : Aside0 (U8s wo.drew a5 d.k) := ⟨(HU.out a5 rfl (by omega)).kept rfl⟩
      clear hx hf
      go_wp2
      go_roundg (d.k - (i + 1) + 1)
      case measure => have := HGK.out; omega
      case rel => exact ⟨i + 1, by go_num, by omega, ⟨rfl⟩, ⟨fun a ha _ => by
        injection ha with ha
        subst ha
        exact (HUD.out.set hlt _).1⟩, ⟨World.grownBy.trans HGR.out (World.grownBy.trans (b := wo.drew) ⟨rfl, rfl, rfl, Nat.le_refl _, fun _ _ _ => rfl⟩ (HUD.out.set hlt _).2)⟩⟩
    · obtain rfl : i = d.k := by omega
      have h1 : decide ((d.k : Int) < (d.k : Int)) = false := by simp
      have hrow : ∀ k, some k = A5.map (·.block) → ∃ a, A5 = some a ∧ k = a.block := fun k e => by
        obtain ⟨a, ha, e2⟩ := Option.map_eq_some_iff.1 e.symm
        exact ⟨a, ha, e2.symm⟩
      have hg3 := HGR.out
      have hlow : ∀ k, k < w.heap.size + 1 → some k ≠ A5.map (·.block) := fun k hk e => by
        obtain ⟨a, ha, rfl⟩ := hrow k e
        have := (HA5.out a ha).1
        omega
      have hs12 := HG2.out.size
      have hx3 := HX2.out.move hg3.size (fun k hk hnt => hg3.block k hk (fun e => hnt (.inr (hrow k e)))) (hg3.block gx (by omega) (hlow gx (by omega)))
      have hy2 := HW1.out.y.other HG2.out HW1.out.tx HW1.out.ne.symm
      have hy3 := hy2.move hg3.size (fun k hk hnt => hg3.block k hk (fun e => hnt (.inr (hrow k e)))) (hg3.block gy (by omega) (hlow gy (by omega)))
      have hb3 := (show wo.cell? ⟨w.heap.size, 1, none⟩ = some (.int .i64 d.n) from by
        rw [← HB12.out]
        unfold World.cell?
        rw [hg3.block w.heap.size (by omega) (hlow _ (by omega))])
      have hk3 : ∀ k, k < w.heap.size + 1 → k ≠ gx → wo.heap[k]? = (w.alloc (.cells d.cells.toArray 40)).heap[k]? := fun k hk hne => (hg3.block k (by omega) (hlow k hk)).trans ((HG2.out.block k (by omega) (fun e => hne (by injection e))).trans (HB1.out.block k hk))
      have hk4 := hk3 w.heap.size (by omega) (by omega)
      have hb34 := obj_cell (hk4.trans HBX.out) 34 (deed34 d hd.len)
      have hl3 := C_kept' HL.out (fun h0 a ha hl => hk3 a.block (by rw [World.size_alloc] at hl; exact hl) (hdA h0 a ha).1)
      have hlim3 : ∀ k, (T k ∨ ∃ a, A5 = some a ∧ k = a.block) → k < wo.heap.size := fun k hk => Nat.lt_of_lt_of_le (HW1.out.lim k hk) (Nat.le_trans hs12 hg3.size)
      have HYP := Aside0.mk (y_put_any hy3 HW1.out.good hr hlim3 HW1.out.ty d.n d.A d.k d.c d.ls hl3 (fun h0 a ha => (hdA h0 a ha).2))
      have HX3 := Aside0.mk hx3
      have HK3 := Aside0.mk hk3
      have HG3 := Aside0.mk hg3
      clear hx3 hy2 hy3 hk3 hk4 hl3 hlow hrow hg3 hlim3
      generalize hcd : code d.n d.k = cd at *
      have hcc : (cd == cd) = true := by simp
      go_wp2_with fail
      refine HYP.out.mono ?_
      rintro e w4 ⟨rfl, hy4, hg4⟩
      have HY4 := Aside0.mk hy4
      have HG4 := Aside0.mk hg4
      clear hy4 hg4 HYP
      go_wp2
      go_ret
      have hz : w.heap.size + 1 ≤ wo.heap.size := Nat.le_trans hsz1 (Nat.le_trans hs12 HG3.out.size)
      refine ⟨rfl, ⟨(HX3.out.other HG4.out HW1.out.ty HW1.out.ne).wider (fun k _ hk => .inl hk), HY4.out.wider (fun k _ hk => .inl hk), good_putS HW1.out.good _ _, HW1.out.ne, HW.out.tx, HW.out.ty, fun k hk => ?_⟩, ?_⟩
      · have := HW.out.lim k hk
        rw [World.size_alloc] at this
        have := HG4.out.size
        omega
      · refine ⟨HG4.out.os.trans (HG3.out.os.trans (HG2.out.os.trans (HB1.out.os.trans HB.out.os))), HG4.out.tape.trans (HG3.out.tape.trans (HG2.out.tape.trans (HB1.out.tape.trans HB.out.tape))), HG4.out.output.trans (HG3.out.output.trans (HG2.out.output.trans (HB1.out.output.trans HB.out.output))), by have := HG4.out.size; omega, fun k hk h1 h2 => ?_⟩
        exact (HG4.out.block k (by omega) (fun e => h2 (by injection e))).trans ((HK3.out k (by omega) h1).trans (HB.out.block k hk))
end
end Go.Proofs.Ytocmljijdecilaa.CaDs
