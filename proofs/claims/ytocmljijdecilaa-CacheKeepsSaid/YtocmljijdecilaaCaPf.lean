/- The reference's Find, walked; condition: the reference's cache stands, its sums read as lists. -/
import Derived.Test.YtocmljijdecilaaCaPr
import Derived.Test.YtocmljijdecilaaCaH
namespace Go.Proofs.Ytocmljijdecilaa.CaPf
open Go Go.RowKit Go.Proofs.YtocmljijdecilaaW.PrintWords Go.Proofs.Ytocmljijdecilaa.K Go.Proofs.Ytocmljijdecilaa.Mp Go.Proofs.Ytocmljijdecilaa.Eq Go.Proofs.Ytocmljijdecilaa.CaS Go.Proofs.Ytocmljijdecilaa.CaC Go.Proofs.Ytocmljijdecilaa.CaD Go.Proofs.Ytocmljijdecilaa.CaB2 Go.Proofs.Ytocmljijdecilaa.CaO Go.Proofs.Ytocmljijdecilaa.CaP Go.Proofs.Ytocmljijdecilaa.CaQ Go.Proofs.Ytocmljijdecilaa.CaX Go.Proofs.Ytocmljijdecilaa.CaY Go.Proofs.Ytocmljijdecilaa.CaPr
set_option linter.unusedVariables false
set_option linter.unusedSimpArgs false
/-- The first known that has the sum, and where. -/
def findU (fs : Nat → List Sm) (s : Sm) : Nat → Nat → Option (Nat × Nat)
  | 0, _ => none
  | k + 1, i => match firstAt (fs i) s 0 with
    | some j => some (i, j)
    | none => findU fs s k (i + 1)
theorem findU_at (fs : Nat → List Sm) (s : Sm) (j : Nat) : ∀ (k i x : Nat), i ≤ x → x < i + k → (∀ q, i ≤ q → q < x → firstAt (fs q) s 0 = none) → firstAt (fs x) s 0 = some j → findU fs s k i = some (x, j)
  | 0, i, x, h1, h2, _, _ => by omega
  | k + 1, i, x, h1, h2, hq, hx => by
    unfold findU
    by_cases e : i = x
    · subst e; rw [hx]
    · rw [hq i (Nat.le_refl _) (by omega)]
      exact findU_at fs s j k (i + 1) x (by omega) (by omega) (fun q h3 h4 => hq q (by omega) h4) hx
theorem findU_no (fs : Nat → List Sm) (s : Sm) : ∀ (k i : Nat), (∀ q, i ≤ q → q < i + k → firstAt (fs q) s 0 = none) → findU fs s k i = none
  | 0, i, _ => rfl
  | k + 1, i, hq => by
    unfold findU
    rw [hq i (Nat.le_refl _) (by omega)]
    exact findU_no fs s k (i + 1) (fun q h3 h4 => hq q (by omega) (by omega))
theorem cr_below {w w1 : World} {T : Nat → Prop} {g : Nat} {room : Int} {ts : List Kr} (h : Cr w T g room ts) (hb : Below w.heap.size w w1) : Cr w1 T g room ts := by
  obtain ⟨A, c, hg, hC, hc, hA⟩ := h
  exact ⟨A, c, (hb.block g (Array.getElem?_eq_some_iff.1 hg).1).trans hg, Kd.C_below hC hb, hc, fun a ha => ⟨Nat.lt_of_lt_of_le (hA a ha).1 hb.size, (hA a ha).2⟩⟩
theorem sm_eq (s : Sm) (h : OkSum s) (w : World) : (binOp .eql 35 (.agg (nums .u8 s).toArray) (.agg (nums .u8 s).toArray)).run Try.prog w = .ok (.bool true) w := by
  obtain ⟨l, hl⟩ := key_sm s h
  exact eql_same ⟨⟨2, by omega, by kernel_rfl, by kernel_rfl⟩, by rw [Try.underlying35]⟩ hl (by simp [sumV]) w
theorem sm_ne (s t : Sm) (h : OkSum s) (h2 : OkSum t) (hne : s ≠ t) (w : World) : (binOp .eql 35 (.agg (nums .u8 s).toArray) (.agg (nums .u8 t).toArray)).run Try.prog w = .ok (.bool false) w := by
  obtain ⟨l, hl⟩ := key_sm s h
  obtain ⟨l2, hl2⟩ := key_sm t h2
  refine eql_other ⟨⟨2, by omega, by kernel_rfl, by kernel_rfl⟩, by rw [Try.underlying35]⟩ hl hl2 (fun e => hne ?_) w
  unfold sumV at e
  injection e with e
  have e2 := congrArg (fun a => dec a.toList) e
  simp only [List.toList_toArray, dec_nums] at e2
  injection e2
theorem first_drop (ss : List Sm) (s : Sm) (j : Nat) (h : j < ss.length) : firstAt (ss.drop j) s j = if ss[j] = s then some j else firstAt (ss.drop (j + 1)) s (j + 1) := by
  rw [List.drop_eq_getElem_cons h]; rfl
set_option maxHeartbeats 8000000 in
set_option maxRecDepth 100000 in
theorem rfind_calls {w : World} {T : Nat → Prop} {g : Nat} {room : Int} {ts : List Kr} (h : Cr w T g room ts) (fs : Nat → List Sm) (hf : ∀ i, i < ts.length → (ts.getD i default).sn = (fs i).length ∧ (fs i).length ≤ 64 ∧ dSum.C w (ts.getD i default).sa (fs i).length (fs i)) (s : Sm) (hs : OkSum s) (hn : ts.length ≤ 900) (hT : ∀ k, T k → k < w.heap.size) (hTg : T g) :
    Calls Try.prog 32 #[.pointer (some ⟨g, 0, none⟩), sumV s] w fun e w' =>
      (findU fs s ts.length 0 = none ∧ e = .returned (.tuple #[.int .i64 0, .int .i64 0, .bool false]) ∧ Below w.heap.size w w') ∨
      (∃ i j : Nat, findU fs s ts.length 0 = some (i, j) ∧ e = .returned (.tuple #[.int .i64 (ts.getD i default).bin, .int .i64 (j : Int), .bool true]) ∧ Cr w' T g room (ts.getD i default :: rrm ts (ts.getD i default).bin) ∧ w.grownBy w' (some g)) := by
  have hh := h
  obtain ⟨A, c, hg, hC, hc, hA⟩ := hh
  have hgl := (Array.getElem?_eq_some_iff.1 hg).1
  have HG := Aside0.mk hg
  have HC := Aside0.mk hC
  have HF := Aside0.mk hf
  have H := Aside0.mk h
  clear hg hC hA hf h
  unfold sumV
  go_enter Try.func32, Try.ntmps32
  go_wp2
  go_loopg [7] (ts.length + 1) (fun gk v7 wr => ∃ i : Nat, v7 = .int .i64 i ∧ i ≤ ts.length ∧ Aside0 (gk = ts.length - i + 1) ∧ Aside0 (∀ q, q < i → firstAt (fs q) s 0 = none) ∧ Aside0 (Below w.heap.size w wr) ∧ Aside0 (wr.heap[w.heap.size]? = some (.cells (nums .u8 s).toArray 35 (0, 0))))
  case atStart => exact ⟨0, rfl, Nat.zero_le _, ⟨rfl⟩, ⟨fun q hq => by omega⟩, ⟨below_alloc (Below.refl _ _) _⟩, ⟨heap_alloc_new _ _⟩⟩
  case round =>
    obtain ⟨i, rfl, hi, HGK, HNO, HB, HS⟩ := hrel
    obtain ⟨wo, rfl⟩ : ∃ wo : World, wo = wr := ⟨_, rfl⟩
    have a1 := obj_cell ((HB.out.block g hgl).trans HG.out) 1 (v := .slice A ts.length c) rfl
    by_cases hlt : i < ts.length
    · have h1 : decide ((i : Int) < (ts.length : Int)) = true := by simp; omega
      have hp1 : (0 : Int) ≤ (i : Int) := by omega
      have hp2 : (i : Int) < (ts.length : Int) := by omega
      obtain ⟨ad, rfl, b0, b1⟩ := kr_at (Kd.C_below HC.out HB.out) i hlt
      obtain ⟨f1, f2, f3⟩ := HF.out i hlt
      have HFC := Aside0.mk f3
      have HTI : Aside0 (ts.getD i default = ts.getD i default) := ⟨rfl⟩
      generalize hk : ts.getD i default = k at *
      have HK := Aside0.mk hk
      generalize hss : fs i = ss at *
      have HSS := Aside0.mk hss
      obtain ⟨kb, ka, kn, kc⟩ := k
      simp only at b0 b1 f1 HFC
      subst f1
      clear hk hss HTI f3
      have HB1 : Aside0 (Below w.heap.size w (wo.alloc (.cells #[.int .i64 kb, .slice ka ss.length kc] 80))) := ⟨below_alloc HB.out _⟩
      have HS1 : Aside0 ((wo.alloc (.cells #[.int .i64 kb, .slice ka ss.length kc] 80)).heap[w.heap.size]? = some (.cells (nums .u8 s).toArray 35 (0, 0))) := ⟨CaF.old_al HS.out⟩
      have HP1 : Aside0 ((wo.alloc (.cells #[.int .i64 kb, .slice ka ss.length kc] 80)).heap[wo.heap.size]? = some (.cells #[.int .i64 kb, .slice ka ss.length kc] 80 (0, 0))) := ⟨heap_alloc_new _ _⟩
      go_wp2_with fail
      clear a1 b0 b1
      go_loopg [9] (ss.length + 1) (fun gi v9 wi => ∃ j : Nat, v9 = .int .i64 j ∧ j ≤ ss.length ∧ Aside0 (gi = ss.length - j + 1) ∧ Aside0 (firstAt ss s 0 = firstAt (ss.drop j) s j) ∧ Aside0 (Below w.heap.size w wi) ∧ Aside0 (wi.heap[w.heap.size]? = some (.cells (nums .u8 s).toArray 35 (0, 0))) ∧ Aside0 (wi.heap[wo.heap.size]? = some (.cells #[.int .i64 kb, .slice ka ss.length kc] 80 (0, 0))))
      case atStart => exact ⟨0, rfl, Nat.zero_le _, ⟨rfl⟩, ⟨by rw [List.drop_zero]⟩, HB1, HS1, HP1⟩
      case round =>
        obtain ⟨j, rfl, hj, HGI, HFI, HBI, HSI, HPI⟩ := hrel
        obtain ⟨wi, rfl⟩ : ∃ X : World, X = wr := ⟨_, rfl⟩
        have q1 := obj_cell (v := .slice ka ss.length kc) HPI.out 1 rfl
        by_cases hjl : j < ss.length
        · have hj1 : decide ((j : Int) < (ss.length : Int)) = true := by simp; omega
          have hq1 : (0 : Int) ≤ (j : Int) := by omega
          have hq2 : (j : Int) < (ss.length : Int) := by omega
          obtain ⟨ad2, rfl, hok, hrm⟩ := sm_at (Kd.C_below HFC.out HBI.out) j hjl
          have HRM := Aside0.mk hrm
          have HRN := Aside0.mk (show Hd.RangeA wi ⟨w.heap.size, 0, none⟩ (nums .u8 s) from fun q v hv => by
            rw [addr0]
            exact obj_cell HSI.out q (by rw [List.getElem?_toArray]; exact hv))
          have HIN := Aside0.mk (infoSmS s hs)
          have HIM := Aside0.mk (infoSmS ss[j] hok)
          have HUS := Aside0.mk Try.underlying35
          have hfd := HFI.out
          rw [first_drop ss s j hjl] at hfd
          have HSM := Aside0.mk hok
          by_cases he : ss[j] = s
          · rw [if_pos he] at hfd
            have heq := sm_eq s hs
            rw [he] at HRM HIM
            have HFD := Aside0.mk hfd
            clear hrm hok he hfd HSM
            have q0 := obj_cell (v := .int .i64 kb) HPI.out 0 rfl
            have HDR := Aside0.mk (rdrop_calls (show Cr wi.drew T g room ts from cr_below H.out (below_drew1 HBI.out)) kb hn (fun q hq => Nat.lt_of_lt_of_le (hT q hq) HBI.out.size))
            have hpw : wo.heap.size < wi.heap.size := World.block_lt_of_cell? _ _ q0
            have hpg : w.heap.size ≤ wo.heap.size := HB.out.size
            generalize hN : nums .u8 s = N at *
            go_wp2_with fail
            (refine Hd.startE (S := (fun X => X.cell? ⟨wo.heap.size, 1, none⟩ = some (.slice (some ad2) ss.length kc) ∧ Hd.RangeA X (ad2.add (j * 32)) N ∧ Hd.RangeA X ⟨w.heap.size, 0, none⟩ N)) 1000 (by kernel_rfl) (⟨q1, HRM.out, HRN.out⟩) (fun hHeld => ?_))
            (refine Hd.takeE (i := 0) (v := ?_) rfl rfl (by kernel_rfl) (by kernel_rfl) (by kernel_rfl) (by kernel_rfl) (fun _ _ _ h => h) (Or.inl ⟨by rfl, ?_⟩) (by assumption) ?_; rotate_left; (focus (intro wS hS; (try go_split_ands); go_simp; all_goals (with_reducible rfl))); simp only [List.set_cons_zero, List.set_cons_succ, List.setIfInBounds_toArray]); (refine Hd.takeE (i := 1) (v := ?_) rfl rfl (by kernel_rfl) (by kernel_rfl) (by kernel_rfl) (by kernel_rfl) (fun _ _ _ h => h) (Or.inl ⟨by rfl, ?_⟩) (by assumption) ?_; rotate_left; (focus (intro wS hS; (try go_split_ands); go_simp; all_goals (with_reducible rfl))); simp only [List.set_cons_zero, List.set_cons_succ, List.setIfInBounds_toArray]); (refine Hd.takeE (i := 2) (v := ?_) rfl rfl (by kernel_rfl) (by kernel_rfl) (by kernel_rfl) (by kernel_rfl) (fun _ _ _ h => h) (Or.inl ⟨by rfl, ?_⟩) (by assumption) ?_; rotate_left; (focus (intro wS hS; (try go_split_ands); go_simp; all_goals (with_reducible rfl))); simp only [List.set_cons_zero, List.set_cons_succ, List.setIfInBounds_toArray]); (refine Hd.takeE (i := 3) (v := ?_) rfl rfl (by kernel_rfl) (by kernel_rfl) (by kernel_rfl) (by kernel_rfl) (fun _ _ _ h => h) (Or.inl ⟨by rfl, ?_⟩) (by assumption) ?_; rotate_left; (focus (intro wS hS; (try go_split_ands); go_simp; all_goals (with_reducible rfl))); simp only [List.set_cons_zero, List.set_cons_succ, List.setIfInBounds_toArray])
            (refine Hd.takeE (i := 4) rfl rfl (by kernel_rfl) (by kernel_rfl) (by kernel_rfl) (by kernel_rfl) (fun _ _ _ h => h) (Hd.yieldsIf_load_any (by rfl) 35 _ rfl _ rfl N _ (fun wS hS => hS.2.1) HUS.out rfl HIM.out) (by assumption) ?_; simp only [List.set_cons_zero, List.set_cons_succ, List.setIfInBounds_toArray])
            (refine Hd.takeE (i := 5) rfl rfl (by kernel_rfl) (by kernel_rfl) (by kernel_rfl) (by kernel_rfl) (fun _ _ _ h => h) (Hd.yieldsIf_load_any (by rfl) 35 _ rfl _ rfl N _ (fun wS hS => hS.2.2) HUS.out rfl HIN.out) (by assumption) ?_; simp only [List.set_cons_zero, List.set_cons_succ, List.setIfInBounds_toArray])
            (refine Hd.takeE (i := 6) (v := ?_) rfl rfl (by kernel_rfl) (by kernel_rfl) (by kernel_rfl) (by kernel_rfl) (fun _ _ _ h => h) (Or.inl ⟨by rfl, ?_⟩) (by assumption) ?_; rotate_left; (focus (intro wS hS; (try go_split_ands); go_simp; all_goals (with_reducible rfl))); simp only [List.set_cons_zero, List.set_cons_succ, List.setIfInBounds_toArray])
            (refine Hd.endE (by kernel_rfl) ?_ _)
            go_wp2_with (go_at_call 33; (with_reducible refine (HDR.out).mono ?_); rintro e w' ⟨rfl, hc5, hg5⟩; have HC5 := Aside0.mk hc5; have HG5 := Aside0.mk hg5; clear hc5 hg5 HDR)
            obtain ⟨w5, rfl⟩ : ∃ X : World, X = w' := ⟨_, rfl⟩
            obtain ⟨A2, c2, hg2, hC2, hc2, hA2⟩ := HC5.out
            have hgl5 := (Array.getElem?_eq_some_iff.1 hg2).1
            have g1 := obj_cell hg2 1 (v := .slice A2 (rrm ts kb).length c2) rfl
            have hp5 : w5.heap[wo.heap.size]? = some (.cells #[.int .i64 kb, .slice (some ad2) ss.length kc] 80 (0, 0)) := (HG5.out.block wo.heap.size hpw (fun e => by injection e with e; omega)).trans HPI.out
            have p0 := obj_cell (v := .int .i64 kb) hp5 0 rfl
            have p1 := obj_cell (v := .slice (some ad2) ss.length kc) hp5 1 rfl
            have hp5l := (Array.getElem?_eq_some_iff.1 hp5).1
            have HC2 := Aside0.mk hC2
            have HP5 := Aside0.mk hp5
            have HSB := Aside0.mk (fun (X : World) (hX : Below w5.heap.size w5 X) => (show X.cell? ⟨wo.heap.size, 0, none⟩ = some (.int .i64 kb) ∧ X.cell? ⟨wo.heap.size, 1, none⟩ = some (.slice (some ad2) ss.length kc) ∧ X.cell? ⟨g, 1, none⟩ = some (.slice A2 (rrm ts kb).length c2) from ⟨(hX.cell (p := ⟨wo.heap.size, 0, none⟩) hp5l).trans p0, (hX.cell (p := ⟨wo.heap.size, 1, none⟩) hp5l).trans p1, (hX.cell (p := ⟨g, 1, none⟩) hgl5).trans g1⟩))
            have hrl : (rrm ts kb).length ≤ ts.length := List.length_filter_le _ _
            clear hC2 hp5 hg2
            (refine Hd.startE (S := (fun X => X.cell? ⟨wo.heap.size, 0, none⟩ = some (.int .i64 kb) ∧ X.cell? ⟨wo.heap.size, 1, none⟩ = some (.slice (some ad2) ss.length kc) ∧ X.cell? ⟨g, 1, none⟩ = some (.slice A2 (rrm ts kb).length c2))) 10 (by kernel_rfl) (HSB.out _ (below_drew1 (Below.refl _ _))) (fun hHeld => ?_))
            (refine Hd.takeE (i := 0) (v := ?_) rfl rfl (by kernel_rfl) (by kernel_rfl) (by kernel_rfl) (by kernel_rfl) (fun _ _ _ h => h) (Or.inl ⟨by rfl, ?_⟩) (by assumption) ?_; rotate_left; (focus (intro wS hS; (try go_split_ands); go_simp; all_goals (with_reducible rfl))); simp only [List.set_cons_zero, List.set_cons_succ, List.setIfInBounds_toArray]); (refine Hd.takeE (i := 1) (v := ?_) rfl rfl (by kernel_rfl) (by kernel_rfl) (by kernel_rfl) (by kernel_rfl) (fun _ _ _ h => h) (Or.inl ⟨by rfl, ?_⟩) (by assumption) ?_; rotate_left; (focus (intro wS hS; (try go_split_ands); go_simp; all_goals (with_reducible rfl))); simp only [List.set_cons_zero, List.set_cons_succ, List.setIfInBounds_toArray]); (refine Hd.takeE (i := 3) (v := ?_) rfl rfl (by kernel_rfl) (by kernel_rfl) (by kernel_rfl) (by kernel_rfl) (fun _ _ _ h => h) (Or.inl ⟨by rfl, ?_⟩) (by assumption) ?_; rotate_left; (focus (intro wS hS; (try go_split_ands); go_simp; all_goals (with_reducible rfl))); simp only [List.set_cons_zero, List.set_cons_succ, List.setIfInBounds_toArray]); (refine Hd.takeE (i := 4) (v := ?_) rfl rfl (by kernel_rfl) (by kernel_rfl) (by kernel_rfl) (by kernel_rfl) (fun _ _ _ h => h) (Or.inl ⟨by rfl, ?_⟩) (by assumption) ?_; rotate_left; (focus (intro wS hS; (try go_split_ands); go_simp; all_goals (with_reducible rfl))); simp only [List.set_cons_zero, List.set_cons_succ, List.setIfInBounds_toArray]); (refine Hd.takeE (i := 5) (v := ?_) rfl rfl (by kernel_rfl) (by kernel_rfl) (by kernel_rfl) (by kernel_rfl) (fun _ _ _ h => h) (Or.inl ⟨by rfl, ?_⟩) (by assumption) ?_; rotate_left; (focus (intro wS hS; (try go_split_ands); go_simp; all_goals (with_reducible rfl))); simp only [List.set_cons_zero, List.set_cons_succ, List.setIfInBounds_toArray]); (refine Hd.takeE (i := 6) (v := ?_) rfl rfl (by kernel_rfl) (by kernel_rfl) (by kernel_rfl) (by kernel_rfl) (fun _ _ _ h => h) (Or.inl ⟨by rfl, ?_⟩) (by assumption) ?_; rotate_left; (focus (intro wS hS; (try go_split_ands); go_simp; all_goals (with_reducible rfl))); simp only [List.set_cons_zero, List.set_cons_succ, List.setIfInBounds_toArray])
            (refine Hd.readyE (rs := [2]) (by kernel_rfl) (by simp) ?_; refine Hd.AllE.cons (i := 2) rfl (fun K hK => ?_) Hd.AllE.nil; go_simp; refine hK.out _ _ (HSB.out _ (below_alloc (below_drew1 (Below.refl _ _)) _)) (fun hHeld => ?_); clear hK K; (try simp only [Act.put, List.setIfInBounds_toArray, List.set_cons_zero, List.set_cons_succ]))
            have hbx := Kd.R_lit1 dKr flat_kr w5.drew 80 (⟨kb, some ad2, ss.length, kc⟩ : Kr) (Kr.cells ⟨kb, some ad2, ss.length, kc⟩) ⟨trivial, rfl⟩ w5.heap.size (Nat.le_refl _)
            have hb4a := below_alloc (below_drew1 (Below.refl w5.heap.size w5)) (.cells (Kr.cells ⟨kb, some ad2, ss.length, kc⟩).toArray 80)
            have hcr := Kd.C_below HC2.out hb4a
            (refine Hd.readyE (rs := [7]) (by kernel_rfl) (by simp) ?_; refine Hd.AllE.cons (i := 7) rfl (fun K hK => ?_) Hd.AllE.nil; (refine Hd.step_of_list rfl ?_; refine app dKr flat_kr w5.heap.size (w0 := w5) (.tmp 46) (.tmp 50) 60 80 (.agg #[.int .i64 0, .slice none 0 0]) 32 rfl rfl Try.underlying60 infoKr rfl (by decide) (by decide) (.slice (some ⟨w5.heap.size, 0, none⟩) 1 1) [(⟨kb, some ad2, ss.length, kc⟩ : Kr)] (rrm ts kb) A2 (rrm ts kb).length c2 (by rfl) (by rfl) hbx hcr hb4a hb4a.size (by simp; omega) ?_; intro v6 w6 ho6 hb6 hg6 hat6; refine wpList_nil ?_); refine hK.out _ _ (HSB.out _ hb6) (fun hHeld => ?_); clear hK K; (try simp only [Act.put, List.setIfInBounds_toArray, List.set_cons_zero, List.set_cons_succ]))
            obtain ⟨A6, c6, rfl, hca6, hgr6, ⟨u6, hc6⟩, hf6⟩ := rrow_in HC5.out hb6 ho6 (by simp) (fun q hq => Nat.lt_of_lt_of_le (hT q hq) (Nat.le_trans HBI.out.size HG5.out.size))
            (refine Hd.readyE (rs := [8]) (by kernel_rfl) (by simp) ?_; refine Hd.AllE.cons (i := 8) rfl (fun K hK => ?_) Hd.AllE.nil; go_simp; refine hK.out _ _ (HSB.out _ hb6) (fun hHeld => ?_); clear hK K; (try simp only [Act.put, List.setIfInBounds_toArray, List.set_cons_zero, List.set_cons_succ]))
            (refine Hd.readyE (rs := [9]) (by kernel_rfl) (by simp) ?_; refine Hd.AllE.cons (i := 9) rfl (fun K hK => ?_) Hd.AllE.nil; go_simp; refine hK.out _ _ (HSB.out _ hb6) (fun hHeld => ?_); clear hK K; (try simp only [Act.put, List.setIfInBounds_toArray, List.set_cons_zero, List.set_cons_succ]))
            (refine Hd.readyE (rs := [10]) (by kernel_rfl) (by simp) ?_; refine Hd.AllE.last (i := 10) rfl (fun K hK => ?_); go_simp; refine hK.out _ _ ?_; clear hK K; (try simp only [Act.put, List.setIfInBounds_toArray, List.set_cons_zero, List.set_cons_succ]))
            (refine Hd.endE (by kernel_rfl) ?_ _)
            have hp6 := (Below.heap_setCell w6 ⟨g, 1, none⟩ (.slice A6 ([(⟨kb, some ad2, ss.length, kc⟩ : Kr)] ++ rrm ts kb).length c6) wo.heap.size (by show wo.heap.size ≠ g; omega)).trans ((hb6.block wo.heap.size hp5l).trans HP5.out)
            have r0 := obj_cell (v := .int .i64 kb) hp6 0 rfl
            have HCA := Aside0.mk hca6
            have HGA := Aside0.mk hgr6
            clear hp6 hca6 hgr6
            go_wp2
            go_ret3
            have hfu := findU_at fs s j ts.length 0 i (Nat.zero_le _) (by omega) (fun q _ h4 => HNO.out q h4) (by rw [HSS.out]; exact HFD.out)
            have hgk : ts.getD i default = ⟨kb, some ad2, ss.length, kc⟩ := HK.out
            refine .inr ⟨i, j, hfu, by rw [hgk]; rfl, by rw [hgk]; exact HCA.out, World.grownBy.trans (grown_below HBI.out) (World.grownBy.trans (World.grownBy.trans (b := wi.drew) ⟨rfl, rfl, rfl, Nat.le_refl _, fun _ _ _ => rfl⟩ HG5.out) HGA.out)⟩
          · rw [if_neg he] at hfd
            have heq := sm_ne _ _ hok hs he
            have HFD := Aside0.mk hfd
            clear hrm hok he hfd HSM
            generalize nums .u8 ss[j] = M at *
            generalize hN : nums .u8 s = N at *
            go_wp2_with fail
            (refine Hd.startE (S := (fun X => X.cell? ⟨wo.heap.size, 1, none⟩ = some (.slice (some ad2) ss.length kc) ∧ Hd.RangeA X (ad2.add (j * 32)) M ∧ Hd.RangeA X ⟨w.heap.size, 0, none⟩ N)) 1000 (by kernel_rfl) (⟨q1, HRM.out, HRN.out⟩) (fun hHeld => ?_))
            (refine Hd.takeE (i := 0) (v := ?_) rfl rfl (by kernel_rfl) (by kernel_rfl) (by kernel_rfl) (by kernel_rfl) (fun _ _ _ h => h) (Or.inl ⟨by rfl, ?_⟩) (by assumption) ?_; rotate_left; (focus (intro wS hS; (try go_split_ands); go_simp; all_goals (with_reducible rfl))); simp only [List.set_cons_zero, List.set_cons_succ, List.setIfInBounds_toArray]); (refine Hd.takeE (i := 1) (v := ?_) rfl rfl (by kernel_rfl) (by kernel_rfl) (by kernel_rfl) (by kernel_rfl) (fun _ _ _ h => h) (Or.inl ⟨by rfl, ?_⟩) (by assumption) ?_; rotate_left; (focus (intro wS hS; (try go_split_ands); go_simp; all_goals (with_reducible rfl))); simp only [List.set_cons_zero, List.set_cons_succ, List.setIfInBounds_toArray]); (refine Hd.takeE (i := 2) (v := ?_) rfl rfl (by kernel_rfl) (by kernel_rfl) (by kernel_rfl) (by kernel_rfl) (fun _ _ _ h => h) (Or.inl ⟨by rfl, ?_⟩) (by assumption) ?_; rotate_left; (focus (intro wS hS; (try go_split_ands); go_simp; all_goals (with_reducible rfl))); simp only [List.set_cons_zero, List.set_cons_succ, List.setIfInBounds_toArray]); (refine Hd.takeE (i := 3) (v := ?_) rfl rfl (by kernel_rfl) (by kernel_rfl) (by kernel_rfl) (by kernel_rfl) (fun _ _ _ h => h) (Or.inl ⟨by rfl, ?_⟩) (by assumption) ?_; rotate_left; (focus (intro wS hS; (try go_split_ands); go_simp; all_goals (with_reducible rfl))); simp only [List.set_cons_zero, List.set_cons_succ, List.setIfInBounds_toArray])
            (refine Hd.takeE (i := 4) rfl rfl (by kernel_rfl) (by kernel_rfl) (by kernel_rfl) (by kernel_rfl) (fun _ _ _ h => h) (Hd.yieldsIf_load_any (by rfl) 35 _ rfl _ rfl M _ (fun wS hS => hS.2.1) HUS.out rfl HIM.out) (by assumption) ?_; simp only [List.set_cons_zero, List.set_cons_succ, List.setIfInBounds_toArray])
            (refine Hd.takeE (i := 5) rfl rfl (by kernel_rfl) (by kernel_rfl) (by kernel_rfl) (by kernel_rfl) (fun _ _ _ h => h) (Hd.yieldsIf_load_any (by rfl) 35 _ rfl _ rfl N _ (fun wS hS => hS.2.2) HUS.out rfl HIN.out) (by assumption) ?_; simp only [List.set_cons_zero, List.set_cons_succ, List.setIfInBounds_toArray])
            (refine Hd.takeE (i := 6) (v := ?_) rfl rfl (by kernel_rfl) (by kernel_rfl) (by kernel_rfl) (by kernel_rfl) (fun _ _ _ h => h) (Or.inl ⟨by rfl, ?_⟩) (by assumption) ?_; rotate_left; (focus (intro wS hS; (try go_split_ands); go_simp; all_goals (with_reducible rfl))); simp only [List.set_cons_zero, List.set_cons_succ, List.setIfInBounds_toArray])
            (refine Hd.endE (by kernel_rfl) ?_ _)
            go_wp2
            go_roundg (ss.length - (j + 1) + 1)
            case measure => have := HGI.out; omega
            case rel => exact ⟨j + 1, by go_num, by omega, ⟨rfl⟩, HFD, ⟨below_drew1 HBI.out⟩, ⟨HSI.out⟩, ⟨HPI.out⟩⟩
        · obtain rfl : j = ss.length := by omega
          have hj1 : decide ((ss.length : Int) < (ss.length : Int)) = false := by simp
          have hff := HFI.out
          rw [List.drop_length] at hff
          have HNN : Aside0 (∀ q, q < i + 1 → firstAt (fs q) s 0 = none) := ⟨fun q hq => by
            rcases Nat.lt_or_ge q i with h3 | h3
            · exact HNO.out q h3
            · obtain rfl : q = i := by omega
              rw [HSS.out]; exact hff⟩
          clear hff
          go_wp2
          go_roundg (ts.length - (i + 1) + 1)
          case measure => have := HGK.out; omega
          case rel => exact ⟨i + 1, by go_num, by omega, ⟨rfl⟩, HNN, HBI, HSI⟩
    · obtain rfl : i = ts.length := by omega
      have h1 : decide ((ts.length : Int) < (ts.length : Int)) = false := by simp
      have HFU := Aside0.mk (findU_no fs s ts.length 0 (fun q _ h2 => HNO.out q (by omega)))
      go_wp2
      go_ret3
      exact .inl ⟨HFU.out, rfl, HB.out⟩
end Go.Proofs.Ytocmljijdecilaa.CaPf
