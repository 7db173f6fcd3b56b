/- Sums as kinds of elements; slices.Index and slices.Contains at sums; condition: each sum is 32 bytes. -/
import Derived.Test.YtkobolgbmfhpgaaSgLv
import Derived.Test.YtkobolgbmfhpgaaMp
import Derived.Test.YtkobolgbmfhpgaaEq
import Derived.Test.YtkobolgbmfhpgaaLit
namespace Go.Proofs.Ytkobolgbmfhpgaa.SgS
open Go Go.RowKit Go.Proofs.YtkobolgbmfhpgaaW.PrintWords Go.Proofs.Ytkobolgbmfhpgaa.K Go.Proofs.Ytkobolgbmfhpgaa.Mp Go.Proofs.Ytkobolgbmfhpgaa.Eq Go.Proofs.Ytkobolgbmfhpgaa.SgD Go.Proofs.Ytkobolgbmfhpgaa.SgLv
set_option linter.unusedVariables false
set_option linter.unusedSimpArgs false
abbrev Sm := List Int
def OkSum (s : Sm) : Prop := s.length = 32 ∧ ∀ x ∈ s, (Lit.int .u8 x).wf = true
def dSum : Kd Sm := Kd.flatK 32 OkSum (nums .u8) (fun x h => by simp [nums, h.1]) (fun x _ u hu => by
  obtain ⟨y, _, rfl⟩ := List.mem_map.1 hu
  rfl)
theorem flat_sum : Flat dSum := Kd.flatK_flat _ _ _ _ _
def sumV (s : Sm) : Value := .agg (nums .u8 s).toArray
def dec : List Value → Option Sm
  | [] => some []
  | .int .u8 x :: l => (dec l).map (x :: ·)
  | _ => none
theorem dec_nums : ∀ s : Sm, dec (nums .u8 s) = some s
  | [] => rfl
  | x :: s => by
    show (dec (nums .u8 s)).map (x :: ·) = _
    rw [dec_nums s]; rfl
theorem sm_at {w : World} {A : Option Addr} {n : Nat} {xs : List Sm} (h : dSum.C w A n xs) (i : Nat) (hi : i < xs.length) : ∃ ad, A = some ad ∧ OkSum xs[i] ∧ Hd.RangeA w (ad.add (i * 32)) (nums .u8 xs[i]) := by
  have hl := h.1
  obtain ⟨ad, had, hc⟩ := h.2.2 (by omega)
  obtain ⟨cs, h1, ⟨ho, rfl⟩, h3⟩ := hc i _ (List.getElem?_eq_getElem hi)
  refine ⟨ad, had, ho, fun j v hv => ?_⟩
  rw [Addr.add_add]
  exact h3 j v hv
theorem info32 : (Try.prog.info? 31).map (·.size) = some 32 := by kernel_rfl
theorem infoSmS (s : Sm) (h : OkSum s) : (Try.prog.info? 31).map (·.size) = some (nums .u8 s).length := by
  have e : (nums .u8 s).length = 32 := by simp [nums, h.1]
  exact info32.trans (by rw [e])
theorem wide32 : Wide Try.prog 31 := ⟨⟨2, by omega, by kernel_rfl, by kernel_rfl⟩, by rw [Try.underlying31]⟩
theorem key_sm (s : Sm) (h : OkSum s) : ∃ l, keyOf Try.prog 31 (sumV s) = some l := by
  obtain ⟨m, hm⟩ : ∃ m, Try.prog.types.size = m + 1 := ⟨Try.prog.types.size - 1, by kernel_rfl⟩
  obtain ⟨L, hL⟩ := lits_arr (P := Try.prog) (k := 31) (e := 5) (n := 32) Try.underlying31 Try.underlying5 (by kernel_rfl) (by kernel_rfl) m h.1 h.2
  rw [show m + 2 = Try.prog.types.size + 1 from by omega] at hL
  show ∃ l, keyOf Try.prog 31 (.agg (nums .u8 s).toArray) = some l
  exact key_of_lits wide32 (by kernel_rfl) (by rw [show (nums .u8 s).length = 32 by simp [nums, h.1]]; kernel_rfl) hL
theorem sm_inj {s t : Sm} (e : sumV s = sumV t) : s = t := by
  unfold sumV at e
  injection e with e
  have e2 := congrArg (fun a => dec a.toList) e
  simp only [List.toList_toArray, dec_nums] at e2
  injection e2
theorem sm_eq (s : Sm) (h : OkSum s) (w : World) : (binOp .eql 31 (.agg (nums .u8 s).toArray) (.agg (nums .u8 s).toArray)).run Try.prog w = .ok (.bool true) w := by
  obtain ⟨l, hl⟩ := key_sm s h
  exact eql_same wide32 hl (by simp [sumV]) w
theorem sm_ne (s t : Sm) (h : OkSum s) (h2 : OkSum t) (hne : s ≠ t) (w : World) : (binOp .eql 31 (.agg (nums .u8 s).toArray) (.agg (nums .u8 t).toArray)).run Try.prog w = .ok (.bool false) w := by
  obtain ⟨l, hl⟩ := key_sm s h
  obtain ⟨l2, hl2⟩ := key_sm t h2
  exact eql_other wide32 hl hl2 (fun e => hne (sm_inj e)) w
theorem sm_neq (s : Sm) (h : OkSum s) (w : World) : (binOp .neq 31 (.agg (nums .u8 s).toArray) (.agg (nums .u8 s).toArray)).run Try.prog w = .ok (.bool false) w := by
  obtain ⟨l, hl⟩ := key_sm s h
  exact neq_same wide32 hl w
/-- Where a sum stands first, or -1. -/
def idxS : List Sm → Sm → Nat → Int
  | [], _, _ => -1
  | x :: l, s, i => if s = x then (i : Int) else idxS l s (i + 1)
theorem idxS_has : ∀ (l : List Sm) (s : Sm) (i : Nat), decide (0 ≤ idxS l s i) = decide (s ∈ l)
  | [], _, _ => by simp [idxS]
  | x :: l, s, i => by
    unfold idxS
    split
    · rename_i h; subst h; simp
    · rename_i h
      rw [idxS_has l s (i + 1)]
      simp [h]
set_option maxHeartbeats 2000000 in
set_option maxRecDepth 100000 in
theorem indexS_calls (A : Option Addr) (k c : Nat) (l : List Sm) (s : Sm) (w : World) (h : dSum.C w A k l) (hs : OkSum s) :
    Calls Try.prog 48 #[.slice A k c, .agg (nums .u8 s).toArray] w fun e w' => e = .returned (.int .i64 (idxS l s 0)) ∧ Below w.heap.size w w' := by
  have H := Aside0.mk h
  have hkm := h.2.1
  have hl := h.1
  clear h
  go_enter Try.func48, Try.ntmps48
  go_wp2
  go_loopg [8] (k + 1) (fun gk v8 wr => ∃ i : Nat, v8 = .int .i64 i ∧ i ≤ k ∧ Aside0 (gk = k - i + 1) ∧ Aside0 (idxS l s 0 = idxS (l.drop i) s i) ∧ Aside0 (Below w.heap.size w wr) ∧ Aside0 (wr.heap[w.heap.size]? = some (.cells (nums .u8 s).toArray 31 (0, 0))))
  case atStart => exact ⟨0, rfl, Nat.zero_le _, ⟨rfl⟩, ⟨by rw [List.drop_zero]⟩, ⟨below_alloc (Below.refl _ _) _⟩, ⟨heap_alloc_new _ _⟩⟩
  case round =>
    obtain ⟨i, rfl, hi, HG, HAT, HB, HSI⟩ := hrel
    obtain ⟨wi, rfl⟩ : ∃ X : World, X = wr := ⟨_, rfl⟩
    by_cases hlt : i < k
    · have h1 : decide ((i : Int) < (k : Int)) = true := by simp; omega
      have hp1 : (0 : Int) ≤ (i : Int) := by omega
      have hp2 : (i : Int) < (k : Int) := by omega
      have hil : i < l.length := by omega
      obtain ⟨ad, rfl, hok, hrm⟩ := sm_at (Kd.C_below H.out HB.out) i hil
      have HRM := Aside0.mk hrm
      have HRN := Aside0.mk (show Hd.RangeA wi ⟨w.heap.size, 0, none⟩ (nums .u8 s) from fun q v hv => by
        rw [addr0]
        exact obj_cell HSI.out q (by rw [List.getElem?_toArray]; exact hv))
      have HIN := Aside0.mk (infoSmS s hs)
      have HIM := Aside0.mk (infoSmS l[i] hok)
      have HUS := Aside0.mk Try.underlying31
      have hat := HAT.out
      rw [List.drop_eq_getElem_cons hil] at hat
      unfold idxS at hat
      by_cases he : s = l[i]
      · have HAT2 := Aside0.mk (show idxS l s 0 = (i : Int) by conv => lhs; unfold idxS; rw [hat, if_pos he])
        have heq := sm_eq s hs
        rw [← he] at HRM HIM
        clear hrm hok he hat HAT hil
        generalize hN : nums .u8 s = N at *
        go_wp2_with fail
        (refine Hd.startE (S := (fun X => Hd.RangeA X (ad.add (i * 32)) N ∧ Hd.RangeA X ⟨w.heap.size, 0, none⟩ N)) 1000 (by kernel_rfl) (⟨HRM.out, HRN.out⟩) (fun hHeld => ?_))
        (refine Hd.takeE (i := 0) rfl rfl (by kernel_rfl) (by kernel_rfl) (by kernel_rfl) (by kernel_rfl) (by first | exact fun _ _ _ h => h | exact fun _ _ _ h => HQP.out (by decide) h) (Hd.yieldsIf_load_any (by rfl) 31 _ rfl _ rfl N _ (fun wS hS => hS.2) HUS.out rfl HIN.out) (by assumption) ?_; simp only [List.set_cons_zero, List.set_cons_succ, List.setIfInBounds_toArray])
        (refine Hd.takeE (i := 1) (v := ?_) rfl rfl (by kernel_rfl) (by kernel_rfl) (by kernel_rfl) (by kernel_rfl) (by first | exact fun _ _ _ h => h | exact fun _ _ _ h => HQP.out (by decide) h) (Or.inl ⟨by rfl, ?_⟩) (by assumption) ?_; rotate_left; (focus (intro wS hS; (try go_split_ands); go_simp; all_goals (with_reducible rfl))); simp only [List.set_cons_zero, List.set_cons_succ, List.setIfInBounds_toArray]); (refine Hd.takeE (i := 2) (v := ?_) rfl rfl (by kernel_rfl) (by kernel_rfl) (by kernel_rfl) (by kernel_rfl) (by first | exact fun _ _ _ h => h | exact fun _ _ _ h => HQP.out (by decide) h) (Or.inl ⟨by rfl, ?_⟩) (by assumption) ?_; rotate_left; (focus (intro wS hS; (try go_split_ands); go_simp; all_goals (with_reducible rfl))); simp only [List.set_cons_zero, List.set_cons_succ, List.setIfInBounds_toArray]); (refine Hd.takeE (i := 3) (v := ?_) rfl rfl (by kernel_rfl) (by kernel_rfl) (by kernel_rfl) (by kernel_rfl) (by first | exact fun _ _ _ h => h | exact fun _ _ _ h => HQP.out (by decide) h) (Or.inl ⟨by rfl, ?_⟩) (by assumption) ?_; rotate_left; (focus (intro wS hS; (try go_split_ands); go_simp; all_goals (with_reducible rfl))); simp only [List.set_cons_zero, List.set_cons_succ, List.setIfInBounds_toArray])
        (refine Hd.takeE (i := 4) rfl rfl (by kernel_rfl) (by kernel_rfl) (by kernel_rfl) (by kernel_rfl) (by first | exact fun _ _ _ h => h | exact fun _ _ _ h => HQP.out (by decide) h) (Hd.yieldsIf_load_any (by rfl) 31 _ rfl _ rfl N _ (fun wS hS => hS.1) HUS.out rfl HIM.out) (by assumption) ?_; simp only [List.set_cons_zero, List.set_cons_succ, List.setIfInBounds_toArray])
        (refine Hd.takeE (i := 5) (v := ?_) rfl rfl (by kernel_rfl) (by kernel_rfl) (by kernel_rfl) (by kernel_rfl) (by first | exact fun _ _ _ h => h | exact fun _ _ _ h => HQP.out (by decide) h) (Or.inl ⟨by rfl, ?_⟩) (by assumption) ?_; rotate_left; (focus (intro wS hS; (try go_split_ands); go_simp; all_goals (with_reducible rfl))); simp only [List.set_cons_zero, List.set_cons_succ, List.setIfInBounds_toArray])
        (refine Hd.endE (by kernel_rfl) ?_ _)
        go_wp2
        go_ret
        exact ⟨by rw [HAT2.out]; rfl, below_drew1 HB.out⟩
      · have HAT2 := Aside0.mk (show idxS l s 0 = idxS (l.drop (i + 1)) s (i + 1) by conv => lhs; unfold idxS; rw [hat, if_neg he])
        have heq := sm_ne _ _ hs hok he
        generalize hM : nums .u8 l[i] = M at *
        clear hM
        clear hrm hok he hat HAT hil
        generalize hN : nums .u8 s = N at *
        go_wp2_with fail
        (refine Hd.startE (S := (fun X => Hd.RangeA X (ad.add (i * 32)) M ∧ Hd.RangeA X ⟨w.heap.size, 0, none⟩ N)) 1000 (by kernel_rfl) (⟨HRM.out, HRN.out⟩) (fun hHeld => ?_))
        (refine Hd.takeE (i := 0) rfl rfl (by kernel_rfl) (by kernel_rfl) (by kernel_rfl) (by kernel_rfl) (by first | exact fun _ _ _ h => h | exact fun _ _ _ h => HQP.out (by decide) h) (Hd.yieldsIf_load_any (by rfl) 31 _ rfl _ rfl N _ (fun wS hS => hS.2) HUS.out rfl HIN.out) (by assumption) ?_; simp only [List.set_cons_zero, List.set_cons_succ, List.setIfInBounds_toArray])
        (refine Hd.takeE (i := 1) (v := ?_) rfl rfl (by kernel_rfl) (by kernel_rfl) (by kernel_rfl) (by kernel_rfl) (by first | exact fun _ _ _ h => h | exact fun _ _ _ h => HQP.out (by decide) h) (Or.inl ⟨by rfl, ?_⟩) (by assumption) ?_; rotate_left; (focus (intro wS hS; (try go_split_ands); go_simp; all_goals (with_reducible rfl))); simp only [List.set_cons_zero, List.set_cons_succ, List.setIfInBounds_toArray]); (refine Hd.takeE (i := 2) (v := ?_) rfl rfl (by kernel_rfl) (by kernel_rfl) (by kernel_rfl) (by kernel_rfl) (by first | exact fun _ _ _ h => h | exact fun _ _ _ h => HQP.out (by decide) h) (Or.inl ⟨by rfl, ?_⟩) (by assumption) ?_; rotate_left; (focus (intro wS hS; (try go_split_ands); go_simp; all_goals (with_reducible rfl))); simp only [List.set_cons_zero, List.set_cons_succ, List.setIfInBounds_toArray]); (refine Hd.takeE (i := 3) (v := ?_) rfl rfl (by kernel_rfl) (by kernel_rfl) (by kernel_rfl) (by kernel_rfl) (by first | exact fun _ _ _ h => h | exact fun _ _ _ h => HQP.out (by decide) h) (Or.inl ⟨by rfl, ?_⟩) (by assumption) ?_; rotate_left; (focus (intro wS hS; (try go_split_ands); go_simp; all_goals (with_reducible rfl))); simp only [List.set_cons_zero, List.set_cons_succ, List.setIfInBounds_toArray])
        (refine Hd.takeE (i := 4) rfl rfl (by kernel_rfl) (by kernel_rfl) (by kernel_rfl) (by kernel_rfl) (by first | exact fun _ _ _ h => h | exact fun _ _ _ h => HQP.out (by decide) h) (Hd.yieldsIf_load_any (by rfl) 31 _ rfl _ rfl M _ (fun wS hS => hS.1) HUS.out rfl HIM.out) (by assumption) ?_; simp only [List.set_cons_zero, List.set_cons_succ, List.setIfInBounds_toArray])
        (refine Hd.takeE (i := 5) (v := ?_) rfl rfl (by kernel_rfl) (by kernel_rfl) (by kernel_rfl) (by kernel_rfl) (by first | exact fun _ _ _ h => h | exact fun _ _ _ h => HQP.out (by decide) h) (Or.inl ⟨by rfl, ?_⟩) (by assumption) ?_; rotate_left; (focus (intro wS hS; (try go_split_ands); go_simp; all_goals (with_reducible rfl))); simp only [List.set_cons_zero, List.set_cons_succ, List.setIfInBounds_toArray])
        (refine Hd.endE (by kernel_rfl) ?_ _)
        go_wp2
        go_roundg (k - (i + 1) + 1)
        case measure => have := HG.out; omega
        case rel => exact ⟨i + 1, by go_num, by omega, ⟨rfl⟩, HAT2, ⟨below_drew1 HB.out⟩, ⟨HSI.out⟩⟩
    · obtain rfl : i = k := by omega
      have h1 : decide ((i : Int) < (i : Int)) = false := by simp
      have HAT2 := Aside0.mk (show idxS l s 0 = -1 by rw [HAT.out, List.drop_of_length_le (by omega)]; rfl)
      clear HAT
      go_wp2
      go_ret
      exact ⟨by rw [HAT2.out]; rfl, HB.out⟩
theorem containsS_calls (A : Option Addr) (k c : Nat) (l : List Sm) (s : Sm) (w : World) (h : dSum.C w A k l) (hs : OkSum s) :
    Calls Try.prog 33 #[.slice A k c, .agg (nums .u8 s).toArray] w fun e w' => e = .returned (.bool (decide (s ∈ l))) ∧ Below w.heap.size w w' := by
  have HI := Aside0.mk (indexS_calls A k c l s (w.alloc (.cells (nums .u8 s).toArray 31)) (Kd.C_below h (below_alloc (Below.refl _ _) _)) hs)
  have hh := idxS_has l s 0
  have HIN := Aside0.mk (infoSmS s hs)
  have HUS := Aside0.mk Try.underlying31
  have HRN := Aside0.mk (show Hd.RangeA (w.alloc (.cells (nums .u8 s).toArray 31)) ⟨w.heap.size, 0, none⟩ (nums .u8 s) from fun q v hv => by
    rw [addr0]
    exact obj_cell (heap_alloc_new w _) q (by rw [List.getElem?_toArray]; exact hv))
  clear h
  generalize hN : nums .u8 s = N at *
  go_enter Try.func33, Try.ntmps33
  go_wp2_with (first
    | ((with_reducible refine gate_ (.load 31 (.tmp 3)) rfl ?_); refine Hd.wpList_load_any rfl _ (.tmp 3) rfl _ rfl N _ HRN.out HUS.out rfl HIN.out ?_)
    | (go_at_call 48; (with_reducible refine (HI.out).mono ?_); rintro e w' ⟨rfl, hb4⟩; have HB4 := Aside0.mk (below_then (below_alloc (Below.refl _ _) _) (by simp) hb4); clear hb4))
  go_ret
  exact ⟨rfl, HB4.out⟩
end Go.Proofs.Ytkobolgbmfhpgaa.SgS
