/- What recipe.New computes: a recipe, or why there is none. -/
import Derived.Test.YtgofkhncaldheaaReK
namespace Go.Proofs.Ytgofkhncaldheaa.ReW
open Go Go.RowKit Go.Proofs.YtgofkhncaldheaaW.PrintWords Go.Proofs.Ytgofkhncaldheaa.K Go.Proofs.Ytgofkhncaldheaa.OctS Go.Proofs.Ytgofkhncaldheaa.OctP Go.Proofs.Ytgofkhncaldheaa.Oct Go.Proofs.Ytgofkhncaldheaa.ReS Go.Proofs.Ytgofkhncaldheaa.ReR Go.Proofs.Ytgofkhncaldheaa.ReT Go.Proofs.Ytgofkhncaldheaa.ReN Go.Proofs.Ytgofkhncaldheaa.ReP Go.Proofs.Ytgofkhncaldheaa.ReC Go.Proofs.Ytgofkhncaldheaa.ReK
set_option linter.unusedVariables false
set_option linter.unusedSimpArgs false
theorem infoInt : (Try.prog.info? 3).map (fun i => (i.zero, i.size, i.bytes)) = some (some (.int .i64 0), 1, 8) := by kernel_rfl
/-- Where the chunks begin, and behind the i-th one the next. -/
def begs (rs : List Ref) (i : Nat) : List Int := (List.range (i + 1)).map (fun j => ((((lens rs).take j).sum : Nat) : Int))
theorem begs_len (rs : List Ref) (i : Nat) : (begs rs i).length = i + 1 := by simp [begs]
theorem begs_zero (rs : List Ref) : begs rs 0 = [0] := by simp [begs]
theorem begs_succ (rs : List Ref) (i : Nat) : begs rs (i + 1) = begs rs i ++ [((((lens rs).take (i + 1)).sum : Nat) : Int)] := by
  unfold begs
  rw [List.range_succ (n := i + 1), List.map_append]
  rfl
theorem begs_get (rs : List Ref) (n i : Nat) (h : i ≤ n) : (begs rs n).getD i 0 = ((((lens rs).take i).sum : Nat) : Int) := by
  unfold begs
  have : i < (List.range (n + 1)).length := by simp; omega
  rw [List.getD_eq_getElem?_getD, List.getElem?_map, List.getElem?_eq_getElem this]
  simp
theorem lit_C (w : World) (x : Int) : (Kd.int .i64).C (w.alloc (.cells #[.int .i64 x] 3)) (some ⟨w.heap.size, 0, none⟩) 1 [x] :=
  Kd.C_of_reads (d := 0) ⟨rfl, by omega, fun _ => ⟨⟨w.heap.size, 0, none⟩, rfl, fun j hj => by
    obtain rfl : j = 0 := by omega
    rw [Addr.add_zero']
    exact obj_cell (heap_alloc_new w (.cells #[.int .i64 x] 3)) 0 rfl⟩⟩
/-- A recipe: its block, its refs, where they begin. -/
structure Rec (w : World) (g : Nat) (rs : List Ref) (A : Option Addr) (c : Nat) (Ab : Option Addr) (cb : Nat) : Prop where
  blk : w.heap[g]? = some (.cells #[.slice A rs.length c, .slice Ab (rs.length + 1) cb] 70 (0, 0))
  refs : RefsC w A rs.length rs
  cap : rs.length ≤ c
  beg : (Kd.int .i64).C w Ab (rs.length + 1) (begs rs rs.length)
  ok : AllOk rs
  few : rs.length ≤ 256
theorem Rec.lt {w : World} {g : Nat} {rs : List Ref} {A : Option Addr} {c : Nat} {Ab : Option Addr} {cb : Nat} (h : Rec w g rs A c Ab cb) : g < w.heap.size := (Array.getElem?_eq_some_iff.1 h.blk).1
theorem Rec.below {w w1 : World} {g : Nat} {rs : List Ref} {A : Option Addr} {c : Nat} {Ab : Option Addr} {cb : Nat} (h : Rec w g rs A c Ab cb) (hb : Below w.heap.size w w1) : Rec w1 g rs A c Ab cb :=
  ⟨(hb.block g h.lt).trans h.blk, h.refs.below hb, h.cap, Kd.C_below h.beg hb, h.ok, h.few⟩
theorem new_no (A : Option Addr) (k c : Nat) (rs : List Ref) (w : World) (h : RefsC w A k rs) (hc : k ≤ c) (he : checkE rs ≠ 0) : Calls Try.prog 9 #[.slice A k c] w fun e w' => e = .returned (.tuple #[.pointer none, .int .i64 (checkE rs)]) ∧ Below w.heap.size w w' := by
  have HC := Aside0.mk (check_calls A k c rs w h hc)
  clear h hc
  have h1 : (checkE rs != 0) = true := by simpa using he
  clear he
  generalize checkE rs = x at *
  go_enter Try.func9, Try.ntmps9
  go_wp2_with (go_at_call 19; (with_reducible refine (HC.out).mono ?_); rintro e w' ⟨rfl, hb1⟩; have HB1 := Aside0.mk hb1; clear hb1)
  go_ret2
  exact ⟨rfl, HB1.out⟩
set_option maxHeartbeats 4000000 in
theorem new_yes (A : Option Addr) (k c : Nat) (rs : List Ref) (w : World) (h : RefsC w A k rs) (hc : k ≤ c) (he : checkE rs = 0) : Calls Try.prog 9 #[.slice A k c] w fun e w' => ∃ g A1 c1 Ab cb, e = .returned (.tuple #[.pointer (some ⟨g, 0, none⟩), .int .i64 0]) ∧ Rec w' g rs A1 c1 Ab cb ∧ w.heap.size ≤ g ∧ Below w.heap.size w w' := by
  have HC := Aside0.mk (he ▸ check_calls A k c rs w h hc)
  have H := Aside0.mk h
  have HL := Aside0.mk h.len
  have hx : k ≤ 256 ∧ AllOk rs := by
    unfold checkE at he
    rw [h.len] at he
    by_cases h1 : 256 < k
    · rw [if_pos h1] at he; cases he
    · rw [if_neg h1] at he
      by_cases h2 : AllOk rs
      · exact ⟨by omega, h2⟩
      · rw [if_neg h2] at he; cases he
  have hk := hx.1
  have HA := Aside0.mk hx.2
  have HU := Aside0.mk Try.underlying56
  obtain ⟨Z, hz, hzv⟩ := zeroRef
  have HZ := Aside0.mk hz
  have HZV := Aside0.mk hzv
  clear h hc he hx hz hzv
  go_enter Try.func9, Try.ntmps9
  have HCL := Aside0.mk (fun W (hW : Below w.heap.size w W) => cloneR A k c rs W (refs_C (H.out.below hW)) (by omega))
  go_wp2_with (first
    | (go_at_call 19; (with_reducible refine (HC.out).mono ?_); rintro e w' ⟨rfl, hb1⟩; have HB1 := Aside0.mk hb1; clear hb1 HC)
    | (go_at_call 31; (with_reducible refine (HCL.out _ HB1.out).mono ?_); rintro e w' ⟨v1, rfl, ho1, hb2⟩; obtain ⟨A1, c1, rfl, hlc1, hC1⟩ := Kd.R_reads ho1; rw [HL.out] at hlc1 hC1; rw [HL.out]; have HC1 := Aside0.mk (refs_of_C hC1 H.out.lim); have HLC := Aside0.mk hlc1; have HB2 := Aside0.mk (below_then HB1.out HB1.out.size hb2); clear ho1 hC1 hb2 hlc1 HCL))
  have hge : ∃ W1, W1 = w' := ⟨_, rfl⟩
  obtain ⟨W1, hW1⟩ := hge
  subst hW1
  have hB0 := below_alloc (below_alloc (Below.refl W1.heap.size W1) (.cells #[.int .i64 0] 3)) (.cells #[.slice A1 k c1, .slice (some ⟨W1.heap.size, 0, none⟩) 1 1] 70)
  have hG0 : ((W1.alloc (.cells #[.int .i64 0] 3)).alloc (.cells #[.slice A1 k c1, .slice (some ⟨W1.heap.size, 0, none⟩) 1 1] 70)).heap[W1.heap.size + 1]? = some (.cells #[.slice A1 k c1, .slice (some ⟨W1.heap.size, 0, none⟩) 1 1] 70 (0, 0)) := by
    have := heap_alloc_new (W1.alloc (.cells #[.int .i64 0] 3)) (.cells #[.slice A1 k c1, .slice (some ⟨W1.heap.size, 0, none⟩) 1 1] 70)
    rwa [World.size_alloc] at this
  have hR0 : Kd.R (Kd.int .i64) 3 ((W1.alloc (.cells #[.int .i64 0] 3)).alloc (.cells #[.slice A1 k c1, .slice (some ⟨W1.heap.size, 0, none⟩) 1 1] 70)) W1.heap.size (fun _ => True) ((.slice (some ⟨W1.heap.size, 0, none⟩) 1 1)) (begs rs 0) := by
    rw [begs_zero]
    exact Kd.R_alloc (Kd.R_lit1 (Kd.int .i64) (flat_int _) W1 3 (0 : Int) [.int .i64 0] rfl W1.heap.size (Nat.le_refl _)) _
  have HB0 := Aside0.mk hB0
  have HG0 := Aside0.mk hG0
  have HR0 := Aside0.mk hR0
  clear hB0 hG0 hR0
  go_loopg [20] (k + 1) (fun gk v20 wr => ∃ i : Nat, v20 = .int .i64 i ∧ i ≤ k ∧ Aside0 (gk = k - i + 1) ∧ Aside0 (Below W1.heap.size W1 wr) ∧ Aside0 (∃ vb, wr.heap[W1.heap.size + 1]? = some (.cells #[.slice A1 k c1, vb] 70 (0, 0)) ∧ Kd.R (Kd.int .i64) 3 wr W1.heap.size (fun _ => True) (vb) (begs rs i)))
  case atStart => exact ⟨0, rfl, Nat.zero_le _, ⟨rfl⟩, HB0, ⟨_, HG0.out, HR0.out⟩⟩
  case round =>
    obtain ⟨i, rfl, hi, HK, HBr, HV⟩ := hrel
    by_cases hlt : i < k
    · have h1 : decide ((i : Int) < (k : Int)) = true := by simp; omega
      obtain ⟨ad, hA⟩ := H.out.is (by omega)
      subst hA
      have hp1 : (0 : Int) ≤ (i : Int) := by omega
      have hp2 : (i : Int) < (k : Int) := by omega
      have hp3 : (i : Int) < ((begs rs i).length : Int) := by rw [begs_len]; omega
      obtain ⟨vb, hgb, hrb⟩ := HV.out
      obtain ⟨Ab, cb, rfl, hlb, hCb⟩ := Kd.R_reads hrb
      have HGB := Aside0.mk hgb
      have HRB := Aside0.mk hrb
      have hok := H.out.ok i hlt
      have hRA := (H.out.below (below_then HB2.out HB2.out.size HBr.out)).cells ad rfl i hlt
      have HS := Aside0.mk (lens_take rs i (by rw [HL.out]; exact hlt))
      have HLE := Aside0.mk (lens_le rs HA.out i)
      have hk1 := getD_ok rs HA.out i (by rw [HL.out]; exact hlt)
      obtain ⟨ab, rfl, hcb⟩ := Kd.at_int hCb (i : Int) (by omega) (by rw [begs_len]; omega)
      have hrd : rd (begs rs i) (i : Int) = ((((lens rs).take i).sum : Nat) : Int) := begs_get rs i i (Nat.le_refl _)
      rw [hrd, Int.toNat_natCast] at hcb
      have HCB := Aside0.mk hcb
      generalize rs.getD i default = r at *
      obtain ⟨x0, h00, hx0⟩ : ∃ x : Nat, r.len = x ∧ x ≤ 512 := ⟨r.len.toNat, by unfold okRef at hk1; omega, by unfold okRef at hk1; omega⟩
      have HBS : Aside0 (begs rs (i + 1) = begs rs i ++ [((((lens rs).take i).sum : Nat) : Int) + (x0 : Int)]) := ⟨by rw [begs_succ, HS.out, h00]; simp⟩
      have hsm : ((lens rs).take i).sum ≤ 131072 := by have := HLE.out; omega
      generalize ((lens rs).take i).sum = s0 at *
      have HI := Aside0.mk (infoRef _ hok)
      have HRA := Aside0.mk hRA
      have HI2 : Aside0 ((Try.prog.info? 56).map (·.size) = some r.cells.toArray.size) := ⟨by rw [List.size_toArray]; exact HI.out⟩
      have HZC := Aside0.mk (show Z.size = r.cells.toArray.size from HZ.out.trans (by rw [List.size_toArray, Ref.cells_len hok]))
      have HON := Aside0.mk (Ref.cells_one (r := r))
      have HGX := Aside0.mk (heap_alloc_new wr (.cells r.cells.toArray 56))
      have hcx : ∀ W : World, W.heap[wr.heap.size]? = some (.cells r.cells.toArray 56 (0, 0)) → W.cell? ⟨wr.heap.size, 32, none⟩ = some (.int .i64 (x0 : Int)) := fun W hW => by
        have := (obj_cell hW 32 (Ref.cell_len hok))
        rwa [h00] at this
      have HCX := Aside0.mk hcx
      have HBX := Aside0.mk (below_alloc HBr.out (.cells r.cells.toArray 56))
      have HGBX : Aside0 ((wr.alloc (.cells r.cells.toArray 56)).heap[W1.heap.size + 1]? = some (.cells #[.slice A1 k c1, .slice (some ab) (begs rs i).length cb] 70 (0, 0))) := ⟨(Below.heap_alloc wr _ _ (Array.getElem?_eq_some_iff.1 HGB.out).1).trans HGB.out⟩
      have HRBX := Aside0.mk (Kd.R_alloc HRB.out (.cells r.cells.toArray 56))
      have hcbx : (wr.alloc (.cells r.cells.toArray 56)).cell? (ab.add i) = some (.int .i64 (s0 : Int)) := ((below_alloc (Below.refl wr.heap.size wr) (.cells r.cells.toArray 56)).cell (p := ab.add i) (World.block_lt_of_cell? wr _ hcb)).trans hcb
      clear hok hRA hgb hrb hCb hcb hrd hk1 h00 hcx HV
      generalize hC : r.cells = C at *
      clear hC
      generalize hnb : (begs rs i).length = nb at *
      have HNB := Aside0.mk hnb
      clear hnb
      go_wp2_with (first
        | ((with_reducible refine gate_ (.load 56 (.tmp 23)) rfl ?_); refine Hd.wpList_load_any rfl _ (.tmp 23) rfl _ rfl C _ HRA.out HU.out rfl HI.out ?_)
        | ((with_reducible refine gate_ (.alloc 56) rfl ?_); refine Hd.step_run rfl (Hd.exec_alloc _ rfl _ (HZV.out _)) ?_; refine Hd.step_run (v := .int .i64 (i : Int)) rfl (by rfl) ?_; refine Hd.wpList_store_new rfl _ _ _ rfl _ Z C.toArray rfl rfl HZC.out HI2.out HON.out ?_))
      simp only [Act.put, List.setIfInBounds_toArray, List.set_cons_zero, List.set_cons_succ]
      generalize hwx : wr.alloc (.cells C.toArray 56) = wx at *
      have HWX := Aside0.mk hwx
      clear hwx
      have hs0 : wx.cell? ⟨W1.heap.size + 1, 1, none⟩ = some (.slice (some ab) nb cb) ∧ wx.cell? ⟨wr.heap.size, 32, none⟩ = some (.int .i64 (x0 : Int)) := ⟨obj_cell HGBX.out 1 rfl, HCX.out _ HGX.out⟩
      (refine Hd.startE (S := (fun W => W.cell? ⟨W1.heap.size + 1, 1, none⟩ = some (.slice (some ab) nb cb) ∧ W.cell? ⟨wr.heap.size, 32, none⟩ = some (.int .i64 (x0 : Int)))) 19 (by kernel_rfl) (hs0) (fun hHeld => ?_))
      (refine Hd.takeE (i := 0) (v := ?_) rfl rfl (by kernel_rfl) (by kernel_rfl) (by kernel_rfl) (by kernel_rfl) (fun _ _ _ h => h) (Or.inl ⟨by rfl, ?_⟩) (by assumption) ?_; rotate_left; (focus (intro wS hS; (try go_split_ands); go_simp; all_goals (with_reducible rfl))); simp only [List.set_cons_zero, List.set_cons_succ, List.setIfInBounds_toArray]); (refine Hd.takeE (i := 1) (v := ?_) rfl rfl (by kernel_rfl) (by kernel_rfl) (by kernel_rfl) (by kernel_rfl) (fun _ _ _ h => h) (Or.inl ⟨by rfl, ?_⟩) (by assumption) ?_; rotate_left; (focus (intro wS hS; (try go_split_ands); go_simp; all_goals (with_reducible rfl))); simp only [List.set_cons_zero, List.set_cons_succ, List.setIfInBounds_toArray]); (refine Hd.takeE (i := 2) (v := ?_) rfl rfl (by kernel_rfl) (by kernel_rfl) (by kernel_rfl) (by kernel_rfl) (fun _ _ _ h => h) (Or.inl ⟨by rfl, ?_⟩) (by assumption) ?_; rotate_left; (focus (intro wS hS; (try go_split_ands); go_simp; all_goals (with_reducible rfl))); simp only [List.set_cons_zero, List.set_cons_succ, List.setIfInBounds_toArray]); (refine Hd.takeE (i := 3) (v := ?_) rfl rfl (by kernel_rfl) (by kernel_rfl) (by kernel_rfl) (by kernel_rfl) (fun _ _ _ h => h) (Or.inl ⟨by rfl, ?_⟩) (by assumption) ?_; rotate_left; (focus (intro wS hS; (try go_split_ands); go_simp; all_goals (with_reducible rfl))); simp only [List.set_cons_zero, List.set_cons_succ, List.setIfInBounds_toArray]); (refine Hd.takeE (i := 4) (v := ?_) rfl rfl (by kernel_rfl) (by kernel_rfl) (by kernel_rfl) (by kernel_rfl) (fun _ _ _ h => h) (Or.inl ⟨by rfl, ?_⟩) (by assumption) ?_; rotate_left; (focus (intro wS hS; (try go_split_ands); go_simp; all_goals (with_reducible rfl))); simp only [List.set_cons_zero, List.set_cons_succ, List.setIfInBounds_toArray]); (refine Hd.takeE (i := 5) (v := ?_) rfl rfl (by kernel_rfl) (by kernel_rfl) (by kernel_rfl) (by kernel_rfl) (fun _ _ _ h => h) (Or.inl ⟨by rfl, ?_⟩) (by assumption) ?_; rotate_left; (focus (intro wS hS; (try go_split_ands); go_simp; all_goals (with_reducible rfl))); simp only [List.set_cons_zero, List.set_cons_succ, List.setIfInBounds_toArray]); (refine Hd.takeE (i := 6) (v := ?_) rfl rfl (by kernel_rfl) (by kernel_rfl) (by kernel_rfl) (by kernel_rfl) (fun _ _ _ h => h) (Or.inl ⟨by rfl, ?_⟩) (by assumption) ?_; rotate_left; (focus (intro wS hS; (try go_split_ands); go_simp; all_goals (with_reducible rfl))); simp only [List.set_cons_zero, List.set_cons_succ, List.setIfInBounds_toArray]); (refine Hd.takeE (i := 7) (v := ?_) rfl rfl (by kernel_rfl) (by kernel_rfl) (by kernel_rfl) (by kernel_rfl) (fun _ _ _ h => h) (Or.inl ⟨by rfl, ?_⟩) (by assumption) ?_; rotate_left; (focus (intro wS hS; (try go_split_ands); go_simp; all_goals (with_reducible rfl))); simp only [List.set_cons_zero, List.set_cons_succ, List.setIfInBounds_toArray]); (refine Hd.takeE (i := 8) (v := ?_) rfl rfl (by kernel_rfl) (by kernel_rfl) (by kernel_rfl) (by kernel_rfl) (fun _ _ _ h => h) (Or.inl ⟨by rfl, ?_⟩) (by assumption) ?_; rotate_left; (focus (intro wS hS; (try go_split_ands); go_simp; all_goals (with_reducible rfl))); simp only [List.set_cons_zero, List.set_cons_succ, List.setIfInBounds_toArray]); (refine Hd.takeE (i := 9) (v := ?_) rfl rfl (by kernel_rfl) (by kernel_rfl) (by kernel_rfl) (by kernel_rfl) (fun _ _ _ h => h) (Or.inl ⟨by rfl, ?_⟩) (by assumption) ?_; rotate_left; (focus (intro wS hS; (try go_split_ands); go_simp; all_goals (with_reducible rfl))); simp only [List.set_cons_zero, List.set_cons_succ, List.setIfInBounds_toArray]); (refine Hd.takeE (i := 10) (v := ?_) rfl rfl (by kernel_rfl) (by kernel_rfl) (by kernel_rfl) (by kernel_rfl) (fun _ _ _ h => h) (Or.inl ⟨by rfl, ?_⟩) (by assumption) ?_; rotate_left; (focus (intro wS hS; (try go_split_ands); go_simp; all_goals (with_reducible rfl))); simp only [List.set_cons_zero, List.set_cons_succ, List.setIfInBounds_toArray]); (refine Hd.takeE (i := 12) (v := ?_) rfl rfl (by kernel_rfl) (by kernel_rfl) (by kernel_rfl) (by kernel_rfl) (fun _ _ _ h => h) (Or.inl ⟨by rfl, ?_⟩) (by assumption) ?_; rotate_left; (focus (intro wS hS; (try go_split_ands); go_simp; all_goals (with_reducible rfl))); simp only [List.set_cons_zero, List.set_cons_succ, List.setIfInBounds_toArray]); (refine Hd.takeE (i := 13) (v := ?_) rfl rfl (by kernel_rfl) (by kernel_rfl) (by kernel_rfl) (by kernel_rfl) (fun _ _ _ h => h) (Or.inl ⟨by rfl, ?_⟩) (by assumption) ?_; rotate_left; (focus (intro wS hS; (try go_split_ands); go_simp; all_goals (with_reducible rfl))); simp only [List.set_cons_zero, List.set_cons_succ, List.setIfInBounds_toArray])
      (refine Hd.readyE (rs := [11]) (by kernel_rfl) (by simp) ?_; refine Hd.AllE.cons (i := 11) rfl (fun K hK => ?_) Hd.AllE.nil; go_simp; refine hK.out _ _ (hs0) (fun hHeld => ?_); clear hK K; (try simp only [Act.put, List.setIfInBounds_toArray, List.set_cons_zero, List.set_cons_succ]))
      have hwr : IntKind.i64.wrap ((s0 : Int) + (x0 : Int)) = (s0 : Int) + (x0 : Int) := by rw [IntKind.wrap_i64]; omega
      (refine Hd.takeE (i := 14) (v := ?_) rfl rfl (by kernel_rfl) (by kernel_rfl) (by kernel_rfl) (by kernel_rfl) (fun _ _ _ h => h) (Or.inl ⟨by rfl, ?_⟩) (by assumption) ?_; rotate_left; (focus (intro wS hS; (try go_split_ands); go_simp; all_goals (with_reducible rfl))); simp only [List.set_cons_zero, List.set_cons_succ, List.setIfInBounds_toArray])
      clear hwr
      have HLT : Aside0 (s0 + x0 ≤ 262144) := ⟨by omega⟩
      have HX1 : Aside0 ((wx.alloc (.cells #[.int .i64 ((s0 : Int) + (x0 : Int))] 3)).drew.heap[W1.heap.size + 1]? = some (.cells #[.slice A1 k c1, .slice (some ab) nb cb] 70 (0, 0))) := ⟨(Below.heap_alloc wx _ _ (Array.getElem?_eq_some_iff.1 HGBX.out).1).trans HGBX.out⟩
      have HX2 : Aside0 ((wx.alloc (.cells #[.int .i64 ((s0 : Int) + (x0 : Int))] 3)).drew.heap[wr.heap.size]? = some (.cells C.toArray 56 (0, 0))) := ⟨(Below.heap_alloc wx _ _ (Array.getElem?_eq_some_iff.1 HGX.out).1).trans HGX.out⟩
      (refine Hd.readyE (rs := [15]) (by kernel_rfl) (by simp) ?_; refine Hd.AllE.cons (i := 15) rfl (fun K hK => ?_) Hd.AllE.nil; go_simp; refine hK.out _ _ (⟨obj_cell HX1.out 1 rfl, HCX.out _ HX2.out⟩) (fun hHeld => ?_); clear hK K; (try simp only [Act.put, List.setIfInBounds_toArray, List.set_cons_zero, List.set_cons_succ]))
      have HOB := Aside0.mk (Kd.R_drew (Kd.R_alloc HRBX.out (.cells #[.int .i64 ((s0 : Int) + (x0 : Int))] 3)))
      have HCL : Aside0 ((Kd.int .i64).C (wx.alloc (.cells #[.int .i64 ((s0 : Int) + (x0 : Int))] 3)).drew (some ⟨wx.heap.size, 0, none⟩) 1 [(s0 : Int) + (x0 : Int)]) := ⟨Kd.C_drew (lit_C wx _)⟩
      have HBL := Aside0.mk (below_drew1 (below_alloc HBX.out (.cells #[.int .i64 ((s0 : Int) + (x0 : Int))] 3)))
      (refine Hd.readyE (rs := [16]) (by kernel_rfl) (by simp) ?_; refine Hd.AllE.cons (i := 16) rfl (fun K hK => ?_) Hd.AllE.nil; (refine Hd.step_of_list rfl ?_; refine app (Kd.int .i64) (flat_int .i64) W1.heap.size (w0 := W1) (.tmp 29) (.tmp 40) 63 3 (.int .i64 0) 8 rfl rfl Try.underlying63 infoInt rfl (by decide) (by decide) _ (begs rs i) [(s0 : Int) + (x0 : Int)] (some ⟨wx.heap.size, 0, none⟩) 1 1 (by rfl) (by first | rfl | simp [Act.eval]) HOB.out HCL.out HBL.out HBL.out.size (by have := HNB.out; have := begs_len rs i; omega) ?_; intro v3 w3 ho3 hb3 hg3 hat3; refine wpList_nil ?_); refine hK.out _ _ (⟨obj_cell ((hg3.block _ (Array.getElem?_eq_some_iff.1 HX1.out).1 (Kd.R_ne HOB.out HX1.out (by decide))).trans HX1.out) 1 rfl, HCX.out _ ((hg3.block _ (Array.getElem?_eq_some_iff.1 HX2.out).1 (Kd.R_ne HOB.out HX2.out (by decide))).trans HX2.out)⟩) (fun hHeld => ?_); clear hK K; (try simp only [Act.put, List.setIfInBounds_toArray, List.set_cons_zero, List.set_cons_succ]))
      have hx3 := (hg3.block _ (Array.getElem?_eq_some_iff.1 HX1.out).1 (Kd.R_ne HOB.out HX1.out (by decide))).trans HX1.out
      have HX3 := Aside0.mk hx3
      have HO3 := Aside0.mk ho3
      have HB3 := Aside0.mk hb3
      have hfz := obj_free hx3 1
      have hc3 := obj_cell (v := .slice (some ab) nb cb) hx3 1 rfl
      clear ho3 hb3 hg3 hat3 hx3
      obtain ⟨A3, c3, rfl⟩ := Kd.R_slice HO3.out
      (refine Hd.readyE (rs := [17]) (by kernel_rfl) (by simp) ?_; refine Hd.AllE.cons (i := 17) rfl (fun K hK => ?_) Hd.AllE.nil; go_simp; refine hK.out _ _ (hHeld) (fun hHeld => ?_); clear hK K; (try simp only [Act.put, List.setIfInBounds_toArray, List.set_cons_zero, List.set_cons_succ]))
      (refine Hd.readyE (rs := [18]) (by kernel_rfl) (by simp) ?_; refine Hd.AllE.cons (i := 18) rfl (fun K hK => ?_) Hd.AllE.nil; go_simp; refine hK.out _ _ (hHeld) (fun hHeld => ?_); clear hK K; (try simp only [Act.put, List.setIfInBounds_toArray, List.set_cons_zero, List.set_cons_succ]))
      (refine Hd.readyE (rs := [19]) (by kernel_rfl) (by simp) ?_; refine Hd.AllE.last (i := 19) rfl (fun K hK => ?_); go_simp; refine hK.out _ _ ?_; clear hK K; (try simp only [Act.put, List.setIfInBounds_toArray, List.set_cons_zero, List.set_cons_succ]))
      (refine Hd.endE (by kernel_rfl) ?_ _)
      have HB4 := Aside0.mk (Below.setCell HB3.out (p := ⟨W1.heap.size + 1, 1, none⟩) (Nat.le_succ _) (.slice A3 ((begs rs i).length + 1) c3))
      have HX4 := Aside0.mk (obj_set HX3.out 1 (.slice A3 ((begs rs i).length + 1) c3))
      have HO4 := Aside0.mk (R_kept_t (flat_int _) HO3.out HX3.out (by decide) (obj_grown w3 (W1.heap.size + 1) 1 (.slice A3 ((begs rs i).length + 1) c3)))
      go_wp2
      go_roundg (k - (i + 1) + 1)
      case measure => have := HK.out; omega
      case rel => exact ⟨i + 1, by go_num, by omega, ⟨rfl⟩, HB4, ⟨_, HX4.out, by rw [HBS.out]; have := HO4.out; rwa [List.length_append] at this⟩⟩
    · obtain rfl : i = k := by omega
      have h1 : decide ((i : Int) < (i : Int)) = false := by simp
      go_wp2
      go_ret2
      obtain ⟨vb, hgb, hrb⟩ := HV.out
      obtain ⟨Ab, cb, rfl, hlb, hCb⟩ := Kd.R_reads hrb
      rw [begs_len] at hgb hlb hCb
      refine ⟨W1.heap.size + 1, A1, c1, Ab, cb, rfl, ⟨by rw [HL.out]; exact hgb, by rw [HL.out]; exact HC1.out.below HBr.out, by rw [HL.out]; exact HLC.out, by rw [HL.out]; exact hCb, HA.out, by rw [HL.out]; exact hk⟩, by have := HB2.out.size; omega, below_then HB2.out HB2.out.size HBr.out⟩
end Go.Proofs.Ytgofkhncaldheaa.ReW
