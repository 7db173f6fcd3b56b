/- The bytes of pieces, as the law tells them; condition: the pieces lie in their chunks. -/
import Derived.Test.YtgofkhncaldheaaReG
namespace Go.Proofs.Ytgofkhncaldheaa.ReH
open Go Go.RowKit Go.Proofs.YtgofkhncaldheaaW.PrintWords Go.Proofs.Ytgofkhncaldheaa.K Go.Proofs.Ytgofkhncaldheaa.OctS Go.Proofs.Ytgofkhncaldheaa.OctP Go.Proofs.Ytgofkhncaldheaa.Oct Go.Proofs.Ytgofkhncaldheaa.ReS Go.Proofs.Ytgofkhncaldheaa.ReR Go.Proofs.Ytgofkhncaldheaa.ReT Go.Proofs.Ytgofkhncaldheaa.ReN Go.Proofs.Ytgofkhncaldheaa.ReP Go.Proofs.Ytgofkhncaldheaa.ReC Go.Proofs.Ytgofkhncaldheaa.ReK Go.Proofs.Ytgofkhncaldheaa.ReW Go.Proofs.Ytgofkhncaldheaa.ReF Go.Proofs.Ytgofkhncaldheaa.RePi Go.Proofs.Ytgofkhncaldheaa.ReA Go.Proofs.Ytgofkhncaldheaa.ReQ Go.Proofs.Ytgofkhncaldheaa.ReL Go.Proofs.Ytgofkhncaldheaa.ReG
set_option linter.unusedVariables false
set_option linter.unusedSimpArgs false
abbrev Tw := Nat × Nat
def Tw.cells (x : Tw) : List Value := [.int .i64 (x.1 : Int), .int .i64 (x.2 : Int)]
def dTw : Kd Tw := Kd.flatK 2 (fun _ => True) Tw.cells (fun _ _ => rfl) (fun x _ u hu => by
  simp [Tw.cells] at hu
  rcases hu with rfl | rfl <;> rfl)
theorem flat_tw : Flat dTw := Kd.flatK_flat _ _ _ _ _
theorem infoTw : (Try.prog.info? 43).map (fun i => (i.zero, i.size, i.bytes)) = some (some (.agg #[.int .i64 0, .int .i64 0]), 2, 16) := by kernel_rfl
theorem tw_cells {w : World} {A : Option Addr} {n : Nat} {xs : List Tw} (h : dTw.C w A n xs) (i : Nat) (hi : i < n) : ∃ ad, A = some ad ∧ w.cell? (ad.add (i * 2)) = some (.int .i64 ((xs.getD i (0, 0)).1 : Int)) ∧ w.cell? ⟨(ad.add (i * 2)).block, (ad.add (i * 2)).off + 1, none⟩ = some (.int .i64 ((xs.getD i (0, 0)).2 : Int)) := by
  obtain ⟨ad, had, hc⟩ := h.2.2 (by omega)
  have hl := h.1
  have hx : xs[i]? = some (xs.getD i (0, 0)) := by
    have : i < xs.length := by omega
    simp [this]
  obtain ⟨cs, h1, ⟨_, rfl⟩, h3⟩ := hc i _ hx
  refine ⟨ad, had, ?_, ?_⟩
  · exact h3 0 _ rfl
  · have := h3 1 _ rfl
    rw [← Addr.add_add] at this
    exact this
/-- A piece lies in its chunk. -/
def In (rs : List Ref) (x : Pc) : Prop := x.1 < rs.length ∧ 1 ≤ x.2.2 ∧ x.2.1 + x.2.2 ≤ (rs.getD x.1 default).len.toNat
theorem told_take (xs : List Pc) (i : Nat) (h : i < xs.length) : ReS.told (xs.take (i + 1)) = ReS.told (xs.take i) ++ (List.range (xs.getD i (0, 0, 0)).2.2).map (fun k => ((xs.getD i (0, 0, 0)).1, (xs.getD i (0, 0, 0)).2.1 + k)) := by
  unfold ReS.told
  rw [List.take_add_one, List.getElem?_eq_getElem h, List.flatMap_append]
  simp [h]
theorem told_le (xs : List Pc) (i : Nat) : (ReS.told (xs.take i)).length ≤ (ReS.told xs).length := by
  have e : ReS.told xs = ReS.told (xs.take i) ++ ReS.told (xs.drop i) := by
    unfold ReS.told
    rw [← List.flatMap_append, List.take_append_drop]
  rw [e, List.length_append]
  omega
theorem range_snoc (x1 x0 j : Nat) : (List.range (j + 1)).map (fun k => (x0, x1 + k)) = (List.range j).map (fun k => (x0, x1 + k)) ++ [(x0, x1 + j)] := by
  rw [List.range_succ, List.map_append]; rfl
set_option maxRecDepth 100000 in
set_option maxHeartbeats 8000000 in
theorem told_calls (A : Option Addr) (k c : Nat) (rs : List Ref) (B : Option Addr) (m c2 : Nat) (xs : List Pc) (w : World) (h : RefsC w A k rs) (hk : k ≤ 256) (ho : AllOk rs) (hB : dPc.C w B m xs) (hm : m ≤ 1000) (hin : ∀ x, x ∈ xs → In rs x) (hlen : (ReS.told xs).length ≤ 1000000) :
    Calls Try.prog 18 #[.slice A k c, .slice B m c2] w fun e w' => ∃ v, e = .returned (.tuple #[v, .bool true]) ∧ Kd.R dTw 43 w' w.heap.size (fun _ => True) (v) (ReS.told xs) ∧ Below w.heap.size w w' := by
  have H := Aside0.mk h
  have HO := Aside0.mk ho
  have HL := Aside0.mk h.len
  have HB := Aside0.mk hB
  have HIN := Aside0.mk hin
  have HLN := Aside0.mk hlen
  have HXL := Aside0.mk (show xs.length = m from hB.1)
  clear h ho hB hin hlen
  go_enter Try.func18, Try.ntmps18
  go_wp2
  go_loopg [6, 7] (m + 1) (fun gk v6 v7 wr => ∃ i : Nat, v7 = .int .i64 i ∧ i ≤ m ∧ Aside0 (gk = m - i + 1) ∧ Aside0 (Kd.R dTw 43 wr w.heap.size (fun _ => True) (v6) (ReS.told (xs.take i))) ∧ Aside0 (Below w.heap.size w wr))
  case atStart => exact ⟨0, rfl, Nat.zero_le _, ⟨rfl⟩, ⟨Kd.R_nil _ _ _ _ _⟩, ⟨Below.refl _ _⟩⟩
  case round =>
    obtain ⟨i, rfl, hi, HG, HOr, HBr⟩ := hrel
    obtain ⟨wo, rfl⟩ : ∃ wo : World, wo = wr := ⟨_, rfl⟩
    by_cases hlt : i < m
    · have h1 : decide ((i : Int) < (m : Int)) = true := by simp; omega
      have hp1 : (0 : Int) ≤ (i : Int) := by omega
      have hp2 : (i : Int) < (m : Int) := by omega
      have HCELL := Aside0.mk (fun W (hW : Below w.heap.size w W) => pc_cells (Kd.C_below HB.out hW) i hlt)
      obtain ⟨bd, rfl, a0, a1, a2⟩ := HCELL.out _ HBr.out
      have hx := HIN.out (xs.getD i (0, 0, 0)) (by
        have : i < xs.length := by rw [HXL.out]; exact hlt
        simp [this])
      have HTT := Aside0.mk (told_take xs i (by rw [HXL.out]; exact hlt))
      have HTL := Aside0.mk (told_le xs (i + 1))
      unfold In at hx
      generalize (xs.getD i (0, 0, 0)).1 = x0 at *
      generalize (xs.getD i (0, 0, 0)).2.1 = x1 at *
      generalize (xs.getD i (0, 0, 0)).2.2 = x2 at *
      obtain ⟨hx0, hx2, hx3⟩ := hx
      rw [HL.out] at hx0
      obtain ⟨ad, rfl⟩ := H.out.is (by omega)
      have hok := H.out.ok x0 hx0
      have hk1 := getD_ok rs HO.out x0 (by rw [HL.out]; exact hx0)
      have hl : (rs.getD x0 default).len = ((rs.getD x0 default).len.toNat : Int) := by unfold okRef at hk1; omega
      have hl2 : (rs.getD x0 default).len.toNat ≤ 512 := by unfold okRef at hk1; omega
      have hcl : wo.cell? ⟨(ad.add (x0 * 35)).block, (ad.add (x0 * 35)).off + 32, none⟩ = some (.int .i64 ((rs.getD x0 default).len.toNat : Int)) := by
        have h1 := (H.out.below HBr.out).cells ad rfl x0 hx0 32 (.int .i64 (rs.getD x0 default).len) (by have := Ref.cell_len hok; rwa [List.getElem?_toArray] at this)
        rw [hl] at h1
        simpa [Addr.add] using h1
      clear hok hk1 hl
      generalize (rs.getD x0 default).len.toNat = xl at *
      have hq1 : decide ((x0 : Int) < 0) = false := by simp
      have hq2 : decide (k ≤ x0) = false := by simp; omega
      have hq3 : decide ((x1 : Int) < 0) = false := by simp
      have hq4 : decide ((x2 : Int) < 1) = false := by simp; omega
      have hq5 : decide ((xl : Int) - (x1 : Int) < (x2 : Int)) = false := by simp; omega
      have hp3 : (0 : Int) ≤ (x0 : Int) := by omega
      have hp4 : (x0 : Int) < (k : Int) := by omega
      have HS2 : Aside0 (∀ W, Below w.heap.size w W → W.cell? (bd.add (i * 3)) = some (.int .i64 (x0 : Int)) ∧ W.cell? ⟨(bd.add (i * 3)).block, (bd.add (i * 3)).off + 1, none⟩ = some (.int .i64 (x1 : Int))) := ⟨fun W hW => by
        obtain ⟨bd', e', b0, b1, _⟩ := HCELL.out W hW
        injection e' with e'
        subst e'
        exact ⟨b0, b1⟩⟩
      have HA2 : Aside0 (∀ W, Below w.heap.size w W → W.cell? ⟨(bd.add (i * 3)).block, (bd.add (i * 3)).off + 2, none⟩ = some (.int .i64 (x2 : Int))) := ⟨fun W hW => by
        obtain ⟨bd', e', _, _, b2⟩ := HCELL.out W hW
        injection e' with e'
        subst e'
        exact b2⟩
      go_wp2
      go_quiet (fail)
      have HOq := Aside0.mk (Kd.R_drewN HOr.out nq)
      have HBq := Aside0.mk (below_then HBr.out HBr.out.size (pw_below_drewN (Below.refl _ wo) nq))
      clear a0 a1 a2 hcl hq1 hq2 hq3 hq4 hq5 hp3 hp4
      go_wp2
      go_loopg [6, 8] (x2 + 1) (fun gk2 v6 v8 wr => ∃ j : Nat, v8 = .int .i64 j ∧ j ≤ x2 ∧ Aside0 (gk2 = x2 - j + 1) ∧ Aside0 (Kd.R dTw 43 wr w.heap.size (fun _ => True) (v6) ((ReS.told (xs.take i) ++ (List.range j).map (fun k => (x0, x1 + k))))) ∧ Aside0 (Below w.heap.size w wr))
      case atStart => exact ⟨0, rfl, Nat.zero_le _, ⟨rfl⟩, ⟨by simpa using HOq.out⟩, HBq⟩
      case round =>
        obtain ⟨j, rfl, hj, HG2, HO2, HB2⟩ := hrel
        obtain ⟨a0, a1⟩ := HS2.out _ HB2.out
        have a2 := HA2.out _ HB2.out
        by_cases hjx : j < x2
        · have h4 : decide (j < x2) = true := by simpa using hjx
          obtain ⟨A6, c6, rfl⟩ := Kd.R_slice HO2.out
          have HLB : Aside0 ((ReS.told (xs.take i) ++ (List.range j).map (fun k => (x0, x1 + k))).length ≤ 1000000) := ⟨by
            have h1 := HTL.out
            have h2 := HLN.out
            rw [HTT.out] at h1
            simp at h1 ⊢
            omega⟩
          have HSN := Aside0.mk (range_snoc x1 x0 j)
          have HO2' := HO2
          generalize hacc : (ReS.told (xs.take i) ++ (List.range j).map (fun k => (x0, x1 + k))) = acc at *
          have HACC := Aside0.mk hacc
          clear hacc
          generalize hnl : acc.length = nl at *
          have HNL := Aside0.mk hnl
          clear hnl
          go_wp2
          have hwr : IntKind.i64.wrap ((x1 : Int) + (j : Int)) = (x1 : Int) + (j : Int) := by rw [IntKind.wrap_i64]; omega
          have hs0 := HS2.out _ HB2.out
          (refine Hd.startE (S := (fun W => W.cell? (bd.add (i * 3)) = some (.int .i64 (x0 : Int)) ∧ W.cell? ⟨(bd.add (i * 3)).block, (bd.add (i * 3)).off + 1, none⟩ = some (.int .i64 (x1 : Int)))) 1000 (by kernel_rfl) (hs0) (fun hHeld => ?_))
          (refine Hd.takeE (i := 0) (v := ?_) rfl rfl (by kernel_rfl) (by kernel_rfl) (by kernel_rfl) (by kernel_rfl) (fun _ _ _ h => h) (Or.inl ⟨by rfl, ?_⟩) (by assumption) ?_; rotate_left; (focus (intro wS hS; (try go_split_ands); go_simp; all_goals (with_reducible rfl))); simp only [List.set_cons_zero, List.set_cons_succ, List.setIfInBounds_toArray]); (refine Hd.takeE (i := 1) (v := ?_) rfl rfl (by kernel_rfl) (by kernel_rfl) (by kernel_rfl) (by kernel_rfl) (fun _ _ _ h => h) (Or.inl ⟨by rfl, ?_⟩) (by assumption) ?_; rotate_left; (focus (intro wS hS; (try go_split_ands); go_simp; all_goals (with_reducible rfl))); simp only [List.set_cons_zero, List.set_cons_succ, List.setIfInBounds_toArray]); (refine Hd.takeE (i := 2) (v := ?_) rfl rfl (by kernel_rfl) (by kernel_rfl) (by kernel_rfl) (by kernel_rfl) (fun _ _ _ h => h) (Or.inl ⟨by rfl, ?_⟩) (by assumption) ?_; rotate_left; (focus (intro wS hS; (try go_split_ands); go_simp; all_goals (with_reducible rfl))); simp only [List.set_cons_zero, List.set_cons_succ, List.setIfInBounds_toArray]); (refine Hd.takeE (i := 3) (v := ?_) rfl rfl (by kernel_rfl) (by kernel_rfl) (by kernel_rfl) (by kernel_rfl) (fun _ _ _ h => h) (Or.inl ⟨by rfl, ?_⟩) (by assumption) ?_; rotate_left; (focus (intro wS hS; (try go_split_ands); go_simp; all_goals (with_reducible rfl))); simp only [List.set_cons_zero, List.set_cons_succ, List.setIfInBounds_toArray]); (refine Hd.takeE (i := 4) (v := ?_) rfl rfl (by kernel_rfl) (by kernel_rfl) (by kernel_rfl) (by kernel_rfl) (fun _ _ _ h => h) (Or.inl ⟨by rfl, ?_⟩) (by assumption) ?_; rotate_left; (focus (intro wS hS; (try go_split_ands); go_simp; all_goals (with_reducible rfl))); simp only [List.set_cons_zero, List.set_cons_succ, List.setIfInBounds_toArray]); (refine Hd.takeE (i := 5) (v := ?_) rfl rfl (by kernel_rfl) (by kernel_rfl) (by kernel_rfl) (by kernel_rfl) (fun _ _ _ h => h) (Or.inl ⟨by rfl, ?_⟩) (by assumption) ?_; rotate_left; (focus (intro wS hS; (try go_split_ands); go_simp; all_goals (with_reducible rfl))); simp only [List.set_cons_zero, List.set_cons_succ, List.setIfInBounds_toArray]); (refine Hd.takeE (i := 6) (v := ?_) rfl rfl (by kernel_rfl) (by kernel_rfl) (by kernel_rfl) (by kernel_rfl) (fun _ _ _ h => h) (Or.inl ⟨by rfl, ?_⟩) (by assumption) ?_; rotate_left; (focus (intro wS hS; (try go_split_ands); go_simp; all_goals (with_reducible rfl))); simp only [List.set_cons_zero, List.set_cons_succ, List.setIfInBounds_toArray]); (refine Hd.takeE (i := 7) (v := ?_) rfl rfl (by kernel_rfl) (by kernel_rfl) (by kernel_rfl) (by kernel_rfl) (fun _ _ _ h => h) (Or.inl ⟨by rfl, ?_⟩) (by assumption) ?_; rotate_left; (focus (intro wS hS; (try go_split_ands); go_simp; all_goals (with_reducible rfl))); simp only [List.set_cons_zero, List.set_cons_succ, List.setIfInBounds_toArray]); (refine Hd.takeE (i := 8) (v := ?_) rfl rfl (by kernel_rfl) (by kernel_rfl) (by kernel_rfl) (by kernel_rfl) (fun _ _ _ h => h) (Or.inl ⟨by rfl, ?_⟩) (by assumption) ?_; rotate_left; (focus (intro wS hS; (try go_split_ands); go_simp; all_goals (with_reducible rfl))); simp only [List.set_cons_zero, List.set_cons_succ, List.setIfInBounds_toArray]); (refine Hd.takeE (i := 9) (v := ?_) rfl rfl (by kernel_rfl) (by kernel_rfl) (by kernel_rfl) (by kernel_rfl) (fun _ _ _ h => h) (Or.inl ⟨by rfl, ?_⟩) (by assumption) ?_; rotate_left; (focus (intro wS hS; (try go_split_ands); go_simp; all_goals (with_reducible rfl))); simp only [List.set_cons_zero, List.set_cons_succ, List.setIfInBounds_toArray]); (refine Hd.takeE (i := 10) (v := ?_) rfl rfl (by kernel_rfl) (by kernel_rfl) (by kernel_rfl) (by kernel_rfl) (fun _ _ _ h => h) (Or.inl ⟨by rfl, ?_⟩) (by assumption) ?_; rotate_left; (focus (intro wS hS; (try go_split_ands); go_simp; all_goals (with_reducible rfl))); simp only [List.set_cons_zero, List.set_cons_succ, List.setIfInBounds_toArray]); (refine Hd.takeE (i := 11) (v := ?_) rfl rfl (by kernel_rfl) (by kernel_rfl) (by kernel_rfl) (by kernel_rfl) (fun _ _ _ h => h) (Or.inl ⟨by rfl, ?_⟩) (by assumption) ?_; rotate_left; (focus (intro wS hS; (try go_split_ands); go_simp; all_goals (with_reducible rfl))); simp only [List.set_cons_zero, List.set_cons_succ, List.setIfInBounds_toArray]); (refine Hd.takeE (i := 12) (v := ?_) rfl rfl (by kernel_rfl) (by kernel_rfl) (by kernel_rfl) (by kernel_rfl) (fun _ _ _ h => h) (Or.inl ⟨by rfl, ?_⟩) (by assumption) ?_; rotate_left; (focus (intro wS hS; (try go_split_ands); go_simp; all_goals (with_reducible rfl))); simp only [List.set_cons_zero, List.set_cons_succ, List.setIfInBounds_toArray]); (refine Hd.takeE (i := 13) (v := ?_) rfl rfl (by kernel_rfl) (by kernel_rfl) (by kernel_rfl) (by kernel_rfl) (fun _ _ _ h => h) (Or.inl ⟨by rfl, ?_⟩) (by assumption) ?_; rotate_left; (focus (intro wS hS; (try go_split_ands); go_simp; all_goals (with_reducible rfl))); simp only [List.set_cons_zero, List.set_cons_succ, List.setIfInBounds_toArray])
          clear hwr
          have HBL := Aside0.mk (below_drew1 (below_alloc HB2.out (.cells (Tw.cells (x0, x1 + j)).toArray 43)))
          have HOB := Aside0.mk (Kd.R_drew (Kd.R_alloc HO2.out (.cells (Tw.cells (x0, x1 + j)).toArray 43)))
          have HCL := Aside0.mk (Kd.C_drew (Kd.R_reads' (Kd.R_lit1 dTw flat_tw wr 43 (x0, x1 + j) (Tw.cells (x0, x1 + j)) ⟨trivial, rfl⟩ wr.heap.size (Nat.le_refl _))).2.2)
          (refine Hd.readyE (rs := [14]) (by kernel_rfl) (by simp) ?_; refine Hd.AllE.cons (i := 14) rfl (fun K hK => ?_) Hd.AllE.nil; go_simp; refine hK.out _ _ (HS2.out _ HBL.out) (fun hHeld => ?_); clear hK K; (try simp only [Act.put, List.setIfInBounds_toArray, List.set_cons_zero, List.set_cons_succ]))
          (refine Hd.readyE (rs := [15]) (by kernel_rfl) (by simp) ?_; refine Hd.AllE.cons (i := 15) rfl (fun K hK => ?_) Hd.AllE.nil; (refine Hd.step_of_list rfl ?_; refine app dTw flat_tw w.heap.size (w0 := w) (.tmp 79) (.tmp 93) 40 43 (.agg #[.int .i64 0, .int .i64 0]) 16 rfl rfl Try.underlying40 infoTw rfl (by decide) (by decide) _ acc [(x0, x1 + j)] (some ⟨wr.heap.size, 0, none⟩) 1 1 (by rfl) (by first | rfl | simp [Act.eval]) HOB.out HCL.out HBL.out HBL.out.size (by have := HNL.out; have := HLB.out; omega) ?_; intro v3 w3 ho3 hb3 hg3 hat3; refine wpList_nil ?_); refine hK.out _ _ (HS2.out _ hb3) (fun hHeld => ?_); clear hK K; (try simp only [Act.put, List.setIfInBounds_toArray, List.set_cons_zero, List.set_cons_succ]))
          have HO3 := Aside0.mk ho3
          have HB3 := Aside0.mk hb3
          clear ho3 hb3 hg3 hat3
          (refine Hd.readyE (rs := [16]) (by kernel_rfl) (by simp) ?_; refine Hd.AllE.cons (i := 16) rfl (fun K hK => ?_) Hd.AllE.nil; go_simp; refine hK.out _ _ (hHeld) (fun hHeld => ?_); clear hK K; (try simp only [Act.put, List.setIfInBounds_toArray, List.set_cons_zero, List.set_cons_succ]))
          (refine Hd.endE (by kernel_rfl) ?_ _)
          go_wp2
          go_roundg (x2 - (j + 1) + 1)
          case measure => have := HG2.out; omega
          case rel => exact ⟨j + 1, by go_num, by omega, ⟨rfl⟩, ⟨by rw [HSN.out, ← List.append_assoc, HACC.out]; exact HO3.out⟩, HB3⟩
        · obtain rfl : j = x2 := by omega
          have h4 : decide (j < j) = false := by simp
          go_wp2
          go_roundg (m - (i + 1) + 1)
          case measure => have := HG.out; omega
          case rel => exact ⟨i + 1, by go_num, by omega, ⟨rfl⟩, ⟨by rw [HTT.out]; exact HO2.out⟩, HB2⟩
    · obtain rfl : i = m := by omega
      have h1 : decide ((i : Int) < (i : Int)) = false := by simp
      go_wp2
      go_ret2
      exact ⟨_, rfl, by have := HOr.out; rwa [List.take_of_length_le (by rw [HXL.out]; exact Nat.le_refl _)] at this, HBr.out⟩
end Go.Proofs.Ytgofkhncaldheaa.ReH
