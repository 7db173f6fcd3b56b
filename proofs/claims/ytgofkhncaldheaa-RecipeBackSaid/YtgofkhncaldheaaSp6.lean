/- The law RecipeBack, walked; condition: the refs read as a list within the weight's reach. -/
import Derived.Test.YtgofkhncaldheaaSp5
import Derived.Test.YtgofkhncaldheaaReO
namespace Go.Proofs.Ytgofkhncaldheaa.Sp6
open Go Go.RowKit Go.Sort Go.Lib Go.Proofs.YtgofkhncaldheaaW.PrintWords Go.Proofs.Ytgofkhncaldheaa.K Go.Proofs.Ytgofkhncaldheaa.ReS Go.Proofs.Ytgofkhncaldheaa.ReR Go.Proofs.Ytgofkhncaldheaa.ReK Go.Proofs.Ytgofkhncaldheaa.ReL Go.Proofs.Ytgofkhncaldheaa.ReO Go.Proofs.Ytgofkhncaldheaa.RmS Go.Proofs.Ytgofkhncaldheaa.RmA Go.Proofs.Ytgofkhncaldheaa.SpK Go.Proofs.Ytgofkhncaldheaa.SpC Go.Proofs.Ytgofkhncaldheaa.SpE Go.Proofs.Ytgofkhncaldheaa.SpF Go.Proofs.Ytgofkhncaldheaa.SpG Go.Proofs.Ytgofkhncaldheaa.SpH Go.Proofs.Ytgofkhncaldheaa.SpI Go.Proofs.Ytgofkhncaldheaa.SpL Go.Proofs.Ytgofkhncaldheaa.Sp5
set_option linter.unusedVariables false
set_option linter.unusedSimpArgs false
theorem flat_mv : Flat dMv := Kd.flatK_flat _ _ _ _ _
theorem infoMv : (Try.prog.info? 66).map (fun i => (i.zero, i.size, i.bytes)) = some (some (.agg #[.int .i64 0, .int .i64 0, .int .i64 0, .int .i64 0]), 4, 32) := by kernel_rfl
theorem spots_len (rs : List Ref) : (spotsOf rs).length ≤ rs.length := by
  rw [spots_same]
  have := rspots_len (rs.map spotR)
  rwa [List.length_map] at this
theorem cell_same {W w1 : World} {a : Addr} {v : Value} (hb : w1.heap[a.block]? = W.heap[a.block]?) (h : W.cell? a = some v) : w1.cell? a = some v := by
  rw [← h]
  unfold World.cell?
  rw [hb]
theorem wf_nat (i : Nat) (h : i ≤ 9223372036854775807) : (Lit.int .i64 (i : Int)).wf = true := by
  simp [Lit.wf, IntKind.min, IntKind.max, IntKind.bits, IntKind.signed]
  omega
/-- What is read while the moves are told. -/
def Held (gs : Nat) (a : Addr) (x1 x2 b i : Int) (W : World) : Prop := W.cell? a = some (.int .i64 x1) ∧ W.cell? ⟨a.block, a.off + 1, none⟩ = some (.int .i64 x2) ∧ W.cell? ⟨gs, 0, none⟩ = some (.int .i64 b) ∧ W.cell? ⟨gs, 1, none⟩ = some (.int .i64 i)
theorem Held.move {gs : Nat} {a : Addr} {x1 x2 b i : Int} {W w1 : World} (h : Held gs a x1 x2 b i W) (e1 : w1.heap[a.block]? = W.heap[a.block]?) (e2 : w1.heap[gs]? = W.heap[gs]?) : Held gs a x1 x2 b i w1 :=
  ⟨cell_same e1 h.1, cell_same e1 h.2.1, cell_same e2 h.2.2.1, cell_same e2 h.2.2.2⟩
set_option maxHeartbeats 16000000 in
set_option maxRecDepth 100000 in
theorem back_calls (A : Option Addr) (k c : Nat) (rs : List Ref) (bin : Int) (w : World) (h : RefsC w A k rs) (hc : k ≤ c) (hk : k * 56 ≤ 140737488351232) (hbin : (Lit.int .i64 bin).wf = true) :
    Calls Try.prog 8 #[.slice A k c, .int .i64 bin] w fun e w' => e = .returned (.bool true) ∧ Below w.heap.size w w' := by
  have HS := Aside0.mk (spots_calls A k c rs w h hk)
  have hln := spots_len rs
  rw [h.len] at hln
  have HBIN := Aside0.mk hbin
  have H := Aside0.mk h
  have HWE := Aside0.mk (went rs bin)
  have HCA := Aside0.mk (came rs bin)
  have HSB := Aside0.mk (same_back rs bin)
  clear h hbin
  generalize spotsOf rs = l at *
  go_enter Try.func8, Try.ntmps8
  go_wp2_with (go_at_call 26; (with_reducible refine (HS.out).mono ?_); rintro e w' ⟨A1, c1, rfl, hC1, hb1⟩; have HC1 := Aside0.mk hC1; have HB1 := Aside0.mk hb1; clear hC1 hb1 HS)
  obtain ⟨ws, rfl⟩ : ∃ ws : World, ws = w' := ⟨_, rfl⟩
  go_loopg [6, 7, 8] (l.length + 1) (fun gk v6 v7 v8 wr => ∃ i : Nat, v8 = .int .i64 i ∧ i ≤ l.length ∧ Aside0 (gk = l.length - i + 1) ∧ Aside0 (Kd.R dMv 66 wr ws.heap.size (fun _ => True) (v6) (thereL l bin i)) ∧ Aside0 (Kd.R dMv 66 wr ws.heap.size (fun _ => True) (v7) (backL l bin i)) ∧ Aside0 (∀ g, v6.ownBlock = some g → v7.ownBlock ≠ some g) ∧ Aside0 (Below ws.heap.size ws wr))
  case atStart => exact ⟨0, rfl, Nat.zero_le _, ⟨rfl⟩, ⟨Kd.R_nil _ _ _ _ _⟩, ⟨Kd.R_nil _ _ _ _ _⟩, ⟨fun g e => by cases e⟩, ⟨Below.refl _ _⟩⟩
  case round =>
    obtain ⟨i, rfl, hi, HG, HO6, HO7, HAP, HB⟩ := hrel
    obtain ⟨wo, rfl⟩ : ∃ wo : World, wo = wr := ⟨_, rfl⟩
    by_cases hlt : i < l.length
    · have h1 : decide ((i : Int) < (l.length : Int)) = true := by simp; omega
      have hp1 : (0 : Int) ≤ (i : Int) := by omega
      have hp2 : (i : Int) < (l.length : Int) := by omega
      obtain ⟨ad, rfl, hok, b0, b1⟩ := sp_cells (Kd.C_below HC1.out HB.out) i hlt
      have hadl : (ad.add (i * 2)).block < ws.heap.size := by
        obtain ⟨ad', e', _, b0', _⟩ := sp_cells HC1.out i hlt
        injection e' with e'
        subst e'
        exact World.block_lt_of_cell? _ _ b0'
      have HTS := Aside0.mk (there_succ l bin i)
      have HKS := Aside0.mk (back_succ l bin i)
      generalize l.getD i default = p at *
      obtain ⟨x1, x2⟩ := p
      simp only at b0 b1 HTS HKS
      have HOKT : Aside0 (Mv.Ok ⟨x1, x2, bin, i⟩) := ⟨⟨hok.1, hok.2, HBIN.out, wf_nat i (by omega)⟩⟩
      have HOKB : Aside0 (Mv.Ok ⟨bin, i, x1, x2⟩) := ⟨⟨HOKT.out.c, HOKT.out.d, hok.1, hok.2⟩⟩
      by_cases he : x1 = bin
      · have hee : (x1 == bin) = true := by simpa using he
        clear he
        go_wp2_with (go_at_call 10; (with_reducible refine (live_calls _).mono ?_); rintro e w' ⟨rfl, hb4⟩; have HB4 := Aside0.mk hb4; clear hb4)
        go_ret
        exact ⟨rfl, below_then (below_then HB1.out HB1.out.size HB.out) (below_then HB1.out HB1.out.size HB.out).size HB4.out⟩
      · have hee : (x1 == bin) = false := by simpa using he
        clear he
        have hgx := heap_alloc_new wo (.cells #[.int .i64 bin, .int .i64 i] 61)
        have hwb := below_alloc (Below.refl wo.heap.size wo) (.cells #[.int .i64 bin, .int .i64 i] 61)
        have hadw : (ad.add (i * 2)).block < wo.heap.size := Nat.lt_of_lt_of_le hadl HB.out.size
        have HX : Aside0 (Held wo.heap.size (ad.add (i * 2)) x1 x2 bin i (wo.alloc (.cells #[.int .i64 bin, .int .i64 i] 61))) := ⟨⟨(hwb.cell hadw).trans b0, (hwb.cell (p := ⟨(ad.add (i * 2)).block, (ad.add (i * 2)).off + 1, none⟩) hadw).trans b1, obj_cell hgx 0 rfl, obj_cell hgx 1 rfl⟩⟩
        have HO6a := Aside0.mk (Kd.R_drew (Kd.R_alloc HO6.out (.cells #[.int .i64 bin, .int .i64 i] 61)))
        have HO7a := Aside0.mk (Kd.R_drew (Kd.R_alloc HO7.out (.cells #[.int .i64 bin, .int .i64 i] 61)))
        have HBa := Aside0.mk (below_drew1 (below_alloc HB.out (.cells #[.int .i64 bin, .int .i64 i] 61)))
        have hszx : (wo.alloc (.cells #[.int .i64 bin, .int .i64 i] 61)).heap.size = wo.heap.size + 1 := by simp
        have L6 : Aside0 (∀ g, u6.ownBlock = some g → ws.heap.size ≤ g ∧ g < wo.heap.size) := ⟨fun g e => ⟨Kd.R_base HO6.out g e, Kd.R_lt HO6.out g e⟩⟩
        have L7 : Aside0 (∀ g, u7.ownBlock = some g → ws.heap.size ≤ g ∧ g < wo.heap.size) := ⟨fun g e => ⟨Kd.R_base HO7.out g e, Kd.R_lt HO7.out g e⟩⟩
        have HAD := Aside0.mk hadl
        have HGS := Aside0.mk HB.out.size
        clear hgx hwb hadl hadw
        go_wp2_with fail
        clear b0 b1
        generalize hwx : wo.alloc (.cells #[.int .i64 bin, .int .i64 i] 61) = wx at *
        clear hwx
        have HSX := Aside0.mk hszx
        clear hszx
        (refine Hd.startE (S := (fun W => W.cell? (ad.add (i * 2)) = some (.int .i64 x1) ∧ W.cell? ⟨(ad.add (i * 2)).block, (ad.add (i * 2)).off + 1, none⟩ = some (.int .i64 x2) ∧ W.cell? ⟨wo.heap.size, 0, none⟩ = some (.int .i64 bin) ∧ W.cell? ⟨wo.heap.size, 1, none⟩ = some (.int .i64 (i : Int)))) 1000 (by kernel_rfl) (HX.out) (fun hHeld => ?_))
        (refine Hd.takeE (i := 0) (v := ?_) rfl rfl (by kernel_rfl) (by kernel_rfl) (by kernel_rfl) (by kernel_rfl) (fun _ _ _ h => h) (Or.inl ⟨by rfl, ?_⟩) (by assumption) ?_; rotate_left; (focus (intro wS hS; (try go_split_ands); go_simp; all_goals (with_reducible rfl))); simp only [List.set_cons_zero, List.set_cons_succ, List.setIfInBounds_toArray]); (refine Hd.takeE (i := 1) (v := ?_) rfl rfl (by kernel_rfl) (by kernel_rfl) (by kernel_rfl) (by kernel_rfl) (fun _ _ _ h => h) (Or.inl ⟨by rfl, ?_⟩) (by assumption) ?_; rotate_left; (focus (intro wS hS; (try go_split_ands); go_simp; all_goals (with_reducible rfl))); simp only [List.set_cons_zero, List.set_cons_succ, List.setIfInBounds_toArray]); (refine Hd.takeE (i := 2) (v := ?_) rfl rfl (by kernel_rfl) (by kernel_rfl) (by kernel_rfl) (by kernel_rfl) (fun _ _ _ h => h) (Or.inl ⟨by rfl, ?_⟩) (by assumption) ?_; rotate_left; (focus (intro wS hS; (try go_split_ands); go_simp; all_goals (with_reducible rfl))); simp only [List.set_cons_zero, List.set_cons_succ, List.setIfInBounds_toArray]); (refine Hd.takeE (i := 3) (v := ?_) rfl rfl (by kernel_rfl) (by kernel_rfl) (by kernel_rfl) (by kernel_rfl) (fun _ _ _ h => h) (Or.inl ⟨by rfl, ?_⟩) (by assumption) ?_; rotate_left; (focus (intro wS hS; (try go_split_ands); go_simp; all_goals (with_reducible rfl))); simp only [List.set_cons_zero, List.set_cons_succ, List.setIfInBounds_toArray]); (refine Hd.takeE (i := 4) (v := ?_) rfl rfl (by kernel_rfl) (by kernel_rfl) (by kernel_rfl) (by kernel_rfl) (fun _ _ _ h => h) (Or.inl ⟨by rfl, ?_⟩) (by assumption) ?_; rotate_left; (focus (intro wS hS; (try go_split_ands); go_simp; all_goals (with_reducible rfl))); simp only [List.set_cons_zero, List.set_cons_succ, List.setIfInBounds_toArray]); (refine Hd.takeE (i := 5) (v := ?_) rfl rfl (by kernel_rfl) (by kernel_rfl) (by kernel_rfl) (by kernel_rfl) (fun _ _ _ h => h) (Or.inl ⟨by rfl, ?_⟩) (by assumption) ?_; rotate_left; (focus (intro wS hS; (try go_split_ands); go_simp; all_goals (with_reducible rfl))); simp only [List.set_cons_zero, List.set_cons_succ, List.setIfInBounds_toArray]); (refine Hd.takeE (i := 6) (v := ?_) rfl rfl (by kernel_rfl) (by kernel_rfl) (by kernel_rfl) (by kernel_rfl) (fun _ _ _ h => h) (Or.inl ⟨by rfl, ?_⟩) (by assumption) ?_; rotate_left; (focus (intro wS hS; (try go_split_ands); go_simp; all_goals (with_reducible rfl))); simp only [List.set_cons_zero, List.set_cons_succ, List.setIfInBounds_toArray])
        have HW := Aside0.mk hHeld
        (refine Hd.readyE (rs := [7]) (by kernel_rfl) (by simp) ?_; refine Hd.AllE.cons (i := 7) rfl (fun K hK => ?_) Hd.AllE.nil; go_simp; refine hK.out _ _ (⟨Lib.cell?_alloc_some _ hHeld.1, Lib.cell?_alloc_some _ hHeld.2.1, Lib.cell?_alloc_some _ hHeld.2.2.1, Lib.cell?_alloc_some _ hHeld.2.2.2⟩) (fun hHeld => ?_); clear hK K; (try simp only [Act.put, List.setIfInBounds_toArray, List.set_cons_zero, List.set_cons_succ]))
        have hlen6 := there_len l bin i
        (refine Hd.readyE (rs := [8]) (by kernel_rfl) (by simp) ?_; refine Hd.AllE.cons (i := 8) rfl (fun K hK => ?_) Hd.AllE.nil; (refine Hd.step_of_list rfl ?_; refine app1 dMv flat_mv ws.heap.size (w0 := ws) (W := wx.drew) (.tmp 33) (.tmp 40) 51 66 (.agg #[.int .i64 0, .int .i64 0, .int .i64 0, .int .i64 0]) 32 rfl rfl Try.underlying51 infoMv rfl (by decide) (by decide) u6 (thereL l bin i) ⟨x1, x2, bin, i⟩ (Mv.cells ⟨x1, x2, bin, i⟩) (by rfl) (by rfl) ⟨HOKT.out, rfl⟩ HO6a.out HBa.out HBa.out.size (by omega) ?_; intro v1 w1 ho1 hb1 hg1 hat1; refine wpList_nil ?_); refine hK.out _ _ (Held.move HW.out (hg1.block _ (by have := HAD.out; have := HGS.out; have := HSX.out; show _ < wx.heap.size; omega) (fun e => by have := (L6.out _ e.symm).1; have := HAD.out; omega)) (hg1.block _ (by have := HSX.out; show _ < wx.heap.size; omega) (fun e => by have := (L6.out _ e.symm).2; omega))) (fun hHeld => ?_); clear hK K; (try simp only [Act.put, List.setIfInBounds_toArray, List.set_cons_zero, List.set_cons_succ]))
        (refine Hd.takeE (i := 9) (v := ?_) rfl rfl (by kernel_rfl) (by kernel_rfl) (by kernel_rfl) (by kernel_rfl) (fun _ _ _ h => h) (Or.inl ⟨by rfl, ?_⟩) (by assumption) ?_; rotate_left; (focus (intro wS hS; (try go_split_ands); go_simp; all_goals (with_reducible rfl))); simp only [List.set_cons_zero, List.set_cons_succ, List.setIfInBounds_toArray])
        (refine Hd.endE (by kernel_rfl) ?_ _)
        have hsz1 : wx.heap.size ≤ w1.heap.size := hg1.size
        have HH1 := Aside0.mk hHeld
        have HO6b := Aside0.mk (Kd.R_drew ho1)
        have HO7b := Aside0.mk (Kd.R_drew (Kd.R_grown2 HO7a.out rfl hg1 (fun g e hb => HAP.out g e hb.symm)))
        have HBb := Aside0.mk (below_drew1 hb1)
        have HAP1 : Aside0 (∀ g, v1.ownBlock = some g → u7.ownBlock ≠ some g) := ⟨fun g e => by
          rcases hat1 with ht | ⟨b, ht, hle⟩
          · exact HAP.out g (ht ▸ e)
          · rw [ht] at e
            injection e with e
            subst e
            intro e7
            have := (L7.out _ e7).2
            have := HSX.out
            have hle : wx.heap.size ≤ b := hle
            omega⟩
        have HSZ := Aside0.mk hsz1
        have hlt1 := Kd.R_lt ho1
        have HLT1 := Aside0.mk hlt1
        clear hg1 hat1 ho1 hb1 hsz1 hHeld hlt1 hlen6
        go_wp2_with fail
        (refine Hd.startE (S := (fun W => W.cell? (ad.add (i * 2)) = some (.int .i64 x1) ∧ W.cell? ⟨(ad.add (i * 2)).block, (ad.add (i * 2)).off + 1, none⟩ = some (.int .i64 x2) ∧ W.cell? ⟨wo.heap.size, 0, none⟩ = some (.int .i64 bin) ∧ W.cell? ⟨wo.heap.size, 1, none⟩ = some (.int .i64 (i : Int)))) 1000 (by kernel_rfl) (HH1.out) (fun hHeld => ?_))
        (refine Hd.takeE (i := 0) (v := ?_) rfl rfl (by kernel_rfl) (by kernel_rfl) (by kernel_rfl) (by kernel_rfl) (fun _ _ _ h => h) (Or.inl ⟨by rfl, ?_⟩) (by assumption) ?_; rotate_left; (focus (intro wS hS; (try go_split_ands); go_simp; all_goals (with_reducible rfl))); simp only [List.set_cons_zero, List.set_cons_succ, List.setIfInBounds_toArray]); (refine Hd.takeE (i := 1) (v := ?_) rfl rfl (by kernel_rfl) (by kernel_rfl) (by kernel_rfl) (by kernel_rfl) (fun _ _ _ h => h) (Or.inl ⟨by rfl, ?_⟩) (by assumption) ?_; rotate_left; (focus (intro wS hS; (try go_split_ands); go_simp; all_goals (with_reducible rfl))); simp only [List.set_cons_zero, List.set_cons_succ, List.setIfInBounds_toArray]); (refine Hd.takeE (i := 2) (v := ?_) rfl rfl (by kernel_rfl) (by kernel_rfl) (by kernel_rfl) (by kernel_rfl) (fun _ _ _ h => h) (Or.inl ⟨by rfl, ?_⟩) (by assumption) ?_; rotate_left; (focus (intro wS hS; (try go_split_ands); go_simp; all_goals (with_reducible rfl))); simp only [List.set_cons_zero, List.set_cons_succ, List.setIfInBounds_toArray]); (refine Hd.takeE (i := 3) (v := ?_) rfl rfl (by kernel_rfl) (by kernel_rfl) (by kernel_rfl) (by kernel_rfl) (fun _ _ _ h => h) (Or.inl ⟨by rfl, ?_⟩) (by assumption) ?_; rotate_left; (focus (intro wS hS; (try go_split_ands); go_simp; all_goals (with_reducible rfl))); simp only [List.set_cons_zero, List.set_cons_succ, List.setIfInBounds_toArray]); (refine Hd.takeE (i := 4) (v := ?_) rfl rfl (by kernel_rfl) (by kernel_rfl) (by kernel_rfl) (by kernel_rfl) (fun _ _ _ h => h) (Or.inl ⟨by rfl, ?_⟩) (by assumption) ?_; rotate_left; (focus (intro wS hS; (try go_split_ands); go_simp; all_goals (with_reducible rfl))); simp only [List.set_cons_zero, List.set_cons_succ, List.setIfInBounds_toArray]); (refine Hd.takeE (i := 5) (v := ?_) rfl rfl (by kernel_rfl) (by kernel_rfl) (by kernel_rfl) (by kernel_rfl) (fun _ _ _ h => h) (Or.inl ⟨by rfl, ?_⟩) (by assumption) ?_; rotate_left; (focus (intro wS hS; (try go_split_ands); go_simp; all_goals (with_reducible rfl))); simp only [List.set_cons_zero, List.set_cons_succ, List.setIfInBounds_toArray]); (refine Hd.takeE (i := 6) (v := ?_) rfl rfl (by kernel_rfl) (by kernel_rfl) (by kernel_rfl) (by kernel_rfl) (fun _ _ _ h => h) (Or.inl ⟨by rfl, ?_⟩) (by assumption) ?_; rotate_left; (focus (intro wS hS; (try go_split_ands); go_simp; all_goals (with_reducible rfl))); simp only [List.set_cons_zero, List.set_cons_succ, List.setIfInBounds_toArray])
        have HW2 := Aside0.mk hHeld
        (refine Hd.readyE (rs := [7]) (by kernel_rfl) (by simp) ?_; refine Hd.AllE.cons (i := 7) rfl (fun K hK => ?_) Hd.AllE.nil; go_simp; refine hK.out _ _ (⟨Lib.cell?_alloc_some _ hHeld.1, Lib.cell?_alloc_some _ hHeld.2.1, Lib.cell?_alloc_some _ hHeld.2.2.1, Lib.cell?_alloc_some _ hHeld.2.2.2⟩) (fun hHeld => ?_); clear hK K; (try simp only [Act.put, List.setIfInBounds_toArray, List.set_cons_zero, List.set_cons_succ]))
        have hlen7 := back_len l bin i
        (refine Hd.readyE (rs := [8]) (by kernel_rfl) (by simp) ?_; refine Hd.AllE.cons (i := 8) rfl (fun K hK => ?_) Hd.AllE.nil; (refine Hd.step_of_list rfl ?_; refine app1 dMv flat_mv ws.heap.size (w0 := ws) (W := w1.drew) (.tmp 42) (.tmp 49) 51 66 (.agg #[.int .i64 0, .int .i64 0, .int .i64 0, .int .i64 0]) 32 rfl rfl Try.underlying51 infoMv rfl (by decide) (by decide) u7 (backL l bin i) ⟨bin, i, x1, x2⟩ (Mv.cells ⟨bin, i, x1, x2⟩) (by rfl) (by rfl) ⟨HOKB.out, rfl⟩ HO7b.out HBb.out HBb.out.size (by omega) ?_; intro v2 w2 ho2 hb2 hg2 hat2; refine wpList_nil ?_); refine hK.out _ _ (Held.move HW2.out (hg2.block _ (by have := HAD.out; have := HGS.out; have := HSX.out; have := HSZ.out; show _ < w1.heap.size; omega) (fun e => by have := (L7.out _ e.symm).1; have := HAD.out; omega)) (hg2.block _ (by have := HSX.out; have := HSZ.out; show _ < w1.heap.size; omega) (fun e => by have := (L7.out _ e.symm).2; omega))) (fun hHeld => ?_); clear hK K; (try simp only [Act.put, List.setIfInBounds_toArray, List.set_cons_zero, List.set_cons_succ]))
        (refine Hd.takeE (i := 9) (v := ?_) rfl rfl (by kernel_rfl) (by kernel_rfl) (by kernel_rfl) (by kernel_rfl) (fun _ _ _ h => h) (Or.inl ⟨by rfl, ?_⟩) (by assumption) ?_; rotate_left; (focus (intro wS hS; (try go_split_ands); go_simp; all_goals (with_reducible rfl))); simp only [List.set_cons_zero, List.set_cons_succ, List.setIfInBounds_toArray])
        (refine Hd.endE (by kernel_rfl) ?_ _)
        have HO7c := Aside0.mk ho2
        have HO6c := Aside0.mk (Kd.R_grown2 HO6b.out rfl hg2 (fun g e hb => HAP1.out g hb.symm e))
        have HBc := Aside0.mk hb2
        have HAP2 : Aside0 (∀ g, v1.ownBlock = some g → v2.ownBlock ≠ some g) := ⟨fun g e => by
          rcases hat2 with ht | ⟨b, ht, hle⟩
          · rw [ht]; exact HAP1.out g e
          · rw [ht]
            intro e7
            injection e7 with e7
            subst e7
            have := HLT1.out _ e
            have hle : w1.heap.size ≤ b := hle
            omega⟩
        clear hg2 hat2 ho2 hb2 hHeld hlen7
        go_wp2
        go_roundg (l.length - (i + 1) + 1)
        case measure => have := HG.out; omega
        case rel => exact ⟨i + 1, by go_num, by omega, ⟨rfl⟩, ⟨by rw [HTS.out]; exact HO6c.out⟩, ⟨by rw [HKS.out]; exact HO7c.out⟩, HAP2, HBc⟩
    · obtain rfl : i = l.length := by omega
      have h1 : decide ((l.length : Int) < (l.length : Int)) = false := by simp
      obtain ⟨A6, c6, hv6, _, hC6⟩ := Kd.R_reads HO6.out
      obtain ⟨A7, c7, hv7, _, hC7⟩ := Kd.R_reads HO7.out
      rw [there_len] at hv6 hC6
      rw [back_len] at hv7 hC7
      subst hv6
      subst hv7
      have HBW := Aside0.mk (below_then HB1.out HB1.out.size HB.out)
      have HM1 := Aside0.mk (move_calls A k c rs A6 l.length c6 (thereL l bin l.length) wo (H.out.below HBW.out) hk hC6 (by omega))
      have HC7 := Aside0.mk hC7
      have HLM : Aside0 ((rs.map (mvR (thereL l bin l.length))).length = k) := ⟨by rw [List.length_map]; exact H.out.len⟩
      have HLM2 : Aside0 (((rs.map (mvR (thereL l bin l.length))).map (mvR (backL l bin l.length))).length = k) := ⟨by rw [List.length_map, List.length_map]; exact H.out.len⟩
      have HKM : Aside0 (k ≤ maxLen) := ⟨H.out.lim⟩
      have HM2 := Aside0.mk (fun A1 c1' (W : World) (hR : RefsC W A1 k (rs.map (mvR (thereL l bin l.length)))) (hC : dMv.C W A7 l.length (backL l bin l.length)) => move_calls A1 k c1' (rs.map (mvR (thereL l bin l.length))) A7 l.length c7 (backL l bin l.length) W hR hk hC (by omega))
      rw [HWE.out] at HM1
      rw [HCA.out] at HM2
      rw [H.out.len] at HM1 HM2
      clear hC6 hC7 HO6 HO7
      have HSM := Aside0.mk (fun (W : World) A1 A2 c1 c2 (h1 : RefsC W A1 k rs) (h2 : RefsC W A2 k rs) => sameR_calls A1 A2 k c1 c2 rs W h1 h2)
      go_wp2_with (first
        | (go_at_call 24; (with_reducible refine (HM1.out).mono ?_); rintro e w' ⟨va, rfl, hoa, hba⟩; obtain ⟨Aa, ca, rfl, _, hCa⟩ := Kd.R_reads hoa; rw [HLM.out] at hCa ⊢; have HCa := Aside0.mk (refs_of_C hCa HKM.out); have HBA := Aside0.mk (below_then HBW.out HBW.out.size hba); have HC7a := Aside0.mk (Kd.C_below HC7.out hba); clear hoa hba hCa HM1)
        | (go_at_call 24; (with_reducible refine (HM2.out _ _ _ HCa.out HC7a.out).mono ?_); rintro e w' ⟨vb, rfl, hob, hbb⟩; obtain ⟨Ab, cb, rfl, _, hCb⟩ := Kd.R_reads hob; rw [HLM2.out] at hCb ⊢; rw [HSB.out] at hCb; have HCb := Aside0.mk (refs_of_C hCb HKM.out); have HBB := Aside0.mk (below_then HBA.out HBA.out.size hbb); clear hob hbb hCb HM2)
        | (go_at_call 10; (with_reducible refine (live_calls _).mono ?_); rintro e w' ⟨rfl, hb4⟩; have HCc := Aside0.mk (HCb.out.below hb4); have HB4 := Aside0.mk (below_then HBB.out HBB.out.size hb4); clear hb4)
        | (go_at_call 23; (with_reducible refine (HSM.out _ _ _ _ _ HCc.out (H.out.below HB4.out)).mono ?_); rintro e w' ⟨rfl, hb5⟩; have HB5 := Aside0.mk (below_then HB4.out HB4.out.size hb5); clear hb5))
      go_ret
      exact ⟨rfl, HB5.out⟩
end Go.Proofs.Ytgofkhncaldheaa.Sp6
