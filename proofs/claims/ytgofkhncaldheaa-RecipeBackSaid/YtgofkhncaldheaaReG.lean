/- The law RecipeCuts, walked; condition: the refs read as a list. -/
import Derived.Test.YtgofkhncaldheaaReL
namespace Go.Proofs.Ytgofkhncaldheaa.ReG
open Go Go.RowKit Go.Proofs.YtgofkhncaldheaaW.PrintWords Go.Proofs.Ytgofkhncaldheaa.K Go.Proofs.Ytgofkhncaldheaa.OctS Go.Proofs.Ytgofkhncaldheaa.OctP Go.Proofs.Ytgofkhncaldheaa.Oct Go.Proofs.Ytgofkhncaldheaa.ReS Go.Proofs.Ytgofkhncaldheaa.ReR Go.Proofs.Ytgofkhncaldheaa.ReT Go.Proofs.Ytgofkhncaldheaa.ReN Go.Proofs.Ytgofkhncaldheaa.ReP Go.Proofs.Ytgofkhncaldheaa.ReC Go.Proofs.Ytgofkhncaldheaa.ReK Go.Proofs.Ytgofkhncaldheaa.ReW Go.Proofs.Ytgofkhncaldheaa.ReF Go.Proofs.Ytgofkhncaldheaa.RePi Go.Proofs.Ytgofkhncaldheaa.ReA Go.Proofs.Ytgofkhncaldheaa.ReQ Go.Proofs.Ytgofkhncaldheaa.ReL
set_option linter.unusedVariables false
set_option linter.unusedSimpArgs false
/-- Where a byte is. -/
def fd (rs : List Ref) (o : Int) : Int × Int × Bool := if o < 0 then (0, 0, false) else match findL (lens rs) o.toNat with
  | none => (0, 0, false)
  | some p => ((p.1 : Int), (p.2 : Int), true)
theorem fd_neg (rs : List Ref) (o : Int) (h : o < 0) : fd rs o = (0, 0, false) := if_pos h
theorem fd_past (rs : List Ref) (o : Nat) (h : (lens rs).sum ≤ o) : fd rs (o : Int) = (0, 0, false) := by
  unfold fd
  rw [if_neg (by omega), Int.toNat_natCast, findL_none _ _ h]
theorem fd_is (rs : List Ref) (o i : Nat) (hi : i < rs.length) (h1 : ((lens rs).take i).sum ≤ o) (h2 : o < ((lens rs).take (i + 1)).sum) : fd rs (o : Int) = ((i : Int), ((o - ((lens rs).take i).sum : Nat) : Int), true) := by
  unfold fd
  have hl : i < (lens rs).length := by simpa [lens] using hi
  rw [if_neg (by omega), Int.toNat_natCast, findL_some _ _ i hl h1 (by
    rw [List.take_add_one, List.getElem?_eq_getElem hl, List.sum_append] at h2
    simpa using h2)]
def tup3 (t : Int × Int × Bool) : Value := .tuple #[.int .i64 t.1, .int .i64 t.2.1, .bool t.2.2]
theorem find_fd {w : World} {g : Nat} {rs : List Ref} {A : Option Addr} {c : Nat} {Ab : Option Addr} {cb : Nat} (h : Rec w g rs A c Ab cb) (o : Int) : Calls Try.prog 12 #[.pointer (some ⟨g, 0, none⟩), .int .i64 o] w fun e w' => e = .returned (tup3 (fd rs o)) ∧ Below w.heap.size w w' := by
  by_cases h0 : o < 0
  · rw [fd_neg rs o h0]; exact find_neg g o h0
  · obtain ⟨n, rfl⟩ := Int.eq_ofNat_of_zero_le (show 0 ≤ o by omega)
    by_cases h1 : (lens rs).sum ≤ n
    · rw [fd_past rs n h1]; exact find_past h n h1
    · refine (find_is h n (by omega)).mono ?_
      rintro e w' ⟨i, hi, h2, h3, rfl, hb⟩
      rw [fd_is rs n i hi h2 h3]
      exact ⟨rfl, hb⟩
theorem rfind_fd (A : Option Addr) (k c : Nat) (rs : List Ref) (w : World) (h : RefsC w A k rs) (hk : k ≤ 256) (ho : AllOk rs) (o : Int) (hob : o ≤ 9223372036854775807) : Calls Try.prog 13 #[.slice A k c, .int .i64 o] w fun e w' => e = .returned (tup3 (fd rs o)) ∧ w = w' := by
  by_cases h0 : o < 0
  · rw [fd_neg rs o h0]; exact rfind_neg A k c w o h0
  · obtain ⟨n, rfl⟩ := Int.eq_ofNat_of_zero_le (show 0 ≤ o by omega)
    refine (rfind_calls A k c rs w h hk ho n (by omega)).mono ?_
    rintro e w' ⟨(⟨i, hi, h2, h3, rfl⟩ | ⟨h2, rfl⟩), rfl⟩
    · rw [fd_is rs n i hi h2 h3]
      exact ⟨rfl, rfl⟩
    · rw [fd_past rs n h2]
      exact ⟨rfl, rfl⟩
def badCut (rs : List Ref) (f m : Int) : Prop := f < 0 ∨ m < 0 ∨ ((lens rs).sum : Int) < f
theorem cut_bad {w : World} {g : Nat} {rs : List Ref} {A : Option Addr} {c : Nat} {Ab : Option Addr} {cb : Nat} (h : Rec w g rs A c Ab cb) (f m : Int) (hb : badCut rs f m) : Calls Try.prog 14 #[.pointer (some ⟨g, 0, none⟩), .int .i64 f, .int .i64 m] w fun e w' => e = .returned (.tuple #[.slice none 0 0, .int .i64 2]) ∧ Below w.heap.size w w' := by
  by_cases h0 : f < 0
  · exact cut_neg g f m h0
  · obtain ⟨n, rfl⟩ := Int.eq_ofNat_of_zero_le (show 0 ≤ f by omega)
    by_cases h1 : (lens rs).sum < n
    · exact cut_past h n m h1
    · exact cut_few h n m (by omega) (by unfold badCut at hb; omega)
theorem rcut_bad (A : Option Addr) (k c : Nat) (rs : List Ref) (w : World) (h : RefsC w A k rs) (hk : k ≤ 256) (ho : AllOk rs) (f m : Int) (hb : badCut rs f m) : Calls Try.prog 15 #[.slice A k c, .int .i64 f, .int .i64 m] w fun e w' => e = .returned (.tuple #[.slice none 0 0, .int .i64 2]) ∧ w = w' := by
  by_cases h0 : f < 0
  · exact rcut_bad1 A k c w f m h0
  · by_cases h1 : m < 0
    · exact rcut_bad2 A k c w f m h0 h1
    · obtain ⟨n, rfl⟩ := Int.eq_ofNat_of_zero_le (show 0 ≤ f by omega)
      obtain ⟨j, rfl⟩ := Int.eq_ofNat_of_zero_le (show 0 ≤ m by omega)
      exact rcut_bad3 A k c rs w h hk ho n j (by unfold badCut at hb; omega)
theorem cut_len (rs : List Ref) (f m : Nat) : (ReS.cutL (lens rs) 0 f m).length ≤ rs.length := by
  have := rest_len rs rs.length 0 f m (by omega)
  simpa [rest] using this
theorem cuts_no (A : Option Addr) (k c : Nat) (rs : List Ref) (w : World) (h : RefsC w A k rs) (hc : k ≤ c) (f m : Int) (he : checkE rs ≠ 0) : Calls Try.prog 3 #[.slice A k c, .int .i64 f, .int .i64 m] w fun e w' => e = .returned (.bool true) ∧ Below w.heap.size w w' := by
  have HN := Aside0.mk (new_no A k c rs w h hc he)
  have HC := Aside0.mk (fun W (hW : Below w.heap.size w W) => rcheck_calls A k c rs W (h.below hW))
  have h1 : (checkE rs != 0) = true := by simpa using he
  clear h hc he
  generalize checkE rs = x at *
  go_enter Try.func3, Try.ntmps3
  go_wp2_with (first
    | (go_at_call 9; (with_reducible refine (HN.out).mono ?_); rintro e w' ⟨rfl, hb1⟩; have HB1 := Aside0.mk hb1; clear hb1)
    | (go_at_call 10; (with_reducible refine (live_calls _).mono ?_); rintro e w' ⟨rfl, hb2⟩; have HB2 := Aside0.mk (below_then HB1.out HB1.out.size hb2); clear hb2)
    | (go_at_call 11; (with_reducible refine (HC.out _ HB2.out).mono ?_); rintro e w' ⟨rfl, hb3⟩; have HB3 := Aside0.mk (below_then HB2.out HB2.out.size hb3); clear hb3))
  go_ret
  exact ⟨rfl, HB3.out⟩
set_option maxRecDepth 100000 in
set_option maxHeartbeats 4000000 in
theorem cuts_yes (A : Option Addr) (k c : Nat) (rs : List Ref) (w : World) (h : RefsC w A k rs) (hc : k ≤ c) (f m : Int) (hf : f ≤ 9223372036854775807) (hm : m ≤ 9223372036854775807) (he : checkE rs = 0) : Calls Try.prog 3 #[.slice A k c, .int .i64 f, .int .i64 m] w fun e w' => e = .returned (.bool true) ∧ Below w.heap.size w w' := by
  have HN := Aside0.mk (new_yes A k c rs w h hc he)
  have hx : k ≤ 256 ∧ AllOk rs := by
    unfold checkE at he
    rw [h.len] at he
    by_cases h1 : 256 < k
    · rw [if_pos h1] at he; cases he
    · rw [if_neg h1] at he
      by_cases h2 : AllOk rs
      · exact ⟨by omega, h2⟩
      · rw [if_neg h2] at he; cases he
  have HX := Aside0.mk hx
  have H := Aside0.mk h
  have HF := Aside0.mk hf
  clear h hc he hx hf
  have HFR := Aside0.mk (fun W (hW : Below w.heap.size w W) => rfind_fd A k c rs W (H.out.below hW) HX.out.1 HX.out.2 f HF.out)
  by_cases hb : badCut rs f m
  · have HCB := Aside0.mk (fun W g A1 c1 Ab cb (hr : Rec W g rs A1 c1 Ab cb) => cut_bad hr f m hb)
    have HRB := Aside0.mk (fun W (hW : Below w.heap.size w W) => rcut_bad A k c rs W (H.out.below hW) HX.out.1 HX.out.2 f m hb)
    have HSM := Aside0.mk (fun W => same_calls none none 0 0 0 [] W ⟨rfl, by decide, fun h => by omega⟩ ⟨rfl, by decide, fun h => by omega⟩ (by decide))
    clear hb
    have HFD := Aside0.mk (fun W g A1 c1 Ab cb (hr : Rec W g rs A1 c1 Ab cb) => find_fd hr f)
    unfold tup3 at HFD HFR
    generalize (fd rs f).1 = x at *
    generalize (fd rs f).2.1 = y at *
    generalize (fd rs f).2.2 = t at *
    go_enter Try.func3, Try.ntmps3
    go_wp2_with (first
      | (go_at_call 9; (with_reducible refine (HN.out).mono ?_); rintro e w' ⟨g, A1, c1, Ab, cb, rfl, hr, hg, hb1⟩; have HB1 := Aside0.mk hb1; have HR1 := Aside0.mk hr; clear hr hg hb1)
      | (go_at_call 12; (with_reducible refine (HFD.out _ _ _ _ _ _ HR1.out).mono ?_); rintro e w' ⟨rfl, hb2⟩; have HB2 := Aside0.mk (below_then HB1.out HB1.out.size hb2); have HR2 := Aside0.mk (HR1.out.below hb2); clear hb2)
      | (go_at_call 13; (with_reducible refine (HFR.out _ HB2.out).mono ?_); rintro e w' ⟨rfl, rfl⟩)
      | (go_at_call 14; (with_reducible refine (HCB.out _ _ _ _ _ _ HR2.out).mono ?_); rintro e w' ⟨rfl, hb3⟩; have HB3 := Aside0.mk (below_then HB2.out HB2.out.size hb3); clear hb3)
      | (go_at_call 15; (with_reducible refine (HRB.out _ HB3.out).mono ?_); rintro e w' ⟨rfl, rfl⟩)
      | (go_at_call 10; (with_reducible refine (live_calls _).mono ?_); rintro e w' ⟨rfl, hb4⟩; have HB4 := Aside0.mk (below_then HB3.out HB3.out.size hb4); clear hb4)
      | (go_at_call 16; (with_reducible refine (HSM.out _).mono ?_); rintro e w' ⟨rfl, hb5⟩; have HB5 := Aside0.mk (below_then HB4.out HB4.out.size hb5); clear hb5))
    go_ret
    exact ⟨rfl, HB5.out⟩
  · unfold badCut at hb
    obtain ⟨F, rfl⟩ := Int.eq_ofNat_of_zero_le (show 0 ≤ f by omega)
    obtain ⟨M, rfl⟩ := Int.eq_ofNat_of_zero_le (show 0 ≤ m by omega)
    have HCB := Aside0.mk (fun W g A1 c1 Ab cb (hr : Rec W g rs A1 c1 Ab cb) => cut_is hr F M (by omega) (by omega))
    have HRB := Aside0.mk (fun W (hW : Below w.heap.size w W) => rcut_calls A k c rs W (H.out.below hW) HX.out.1 HX.out.2 F M (by omega) (by omega))
    have HLN : Aside0 ((ReS.cutL (lens rs) 0 F M).length ≤ 256) := ⟨by have := cut_len rs F M; have := HX.out.1; have := H.out.len; omega⟩
    have HFD := Aside0.mk (fun W g A1 c1 Ab cb (hr : Rec W g rs A1 c1 Ab cb) => find_fd hr (F : Int))
    clear hb
    unfold tup3 at HFD HFR
    generalize (fd rs (F : Int)).1 = x at *
    generalize (fd rs (F : Int)).2.1 = y at *
    generalize (fd rs (F : Int)).2.2 = t at *
    generalize ReS.cutL (lens rs) 0 F M = xs at *
    have HSM := Aside0.mk (fun W A B n c1 c2 (hA : dPc.C W A n xs) (hB : dPc.C W B n xs) (hn : n ≤ 1000000) => same_calls A B n c1 c2 xs W hA hB hn)
    go_enter Try.func3, Try.ntmps3
    go_wp2_with (first
      | (go_at_call 9; (with_reducible refine (HN.out).mono ?_); rintro e w' ⟨g, A1, c1, Ab, cb, rfl, hr, hg, hb1⟩; have HB1 := Aside0.mk hb1; have HR1 := Aside0.mk hr; clear hr hg hb1)
      | (go_at_call 12; (with_reducible refine (HFD.out _ _ _ _ _ _ HR1.out).mono ?_); rintro e w' ⟨rfl, hb2⟩; have HB2 := Aside0.mk (below_then HB1.out HB1.out.size hb2); have HR2 := Aside0.mk (HR1.out.below hb2); clear hb2)
      | (go_at_call 13; (with_reducible refine (HFR.out _ HB2.out).mono ?_); rintro e w' ⟨rfl, rfl⟩)
      | (go_at_call 14; (with_reducible refine (HCB.out _ _ _ _ _ _ HR2.out).mono ?_); rintro e w' ⟨v, rfl, ho3, hb3⟩; have HB3 := Aside0.mk (below_then HB2.out HB2.out.size hb3); obtain ⟨A3, c3, rfl, _, hC3⟩ := Kd.R_reads ho3; have HC3 := Aside0.mk hC3; clear hb3 ho3 hC3)
      | (go_at_call 15; (with_reducible refine (HRB.out _ HB3.out).mono ?_); rintro e w' ⟨v2, rfl, ho4, hb4⟩; have HB4 := Aside0.mk (below_then HB3.out HB3.out.size hb4); obtain ⟨A4, c4, rfl, _, hC4⟩ := Kd.R_reads ho4; have HC4 := Aside0.mk hC4; have HC34 := Aside0.mk (Kd.C_below HC3.out hb4); clear hb4 ho4 hC4)
      | (go_at_call 10; (with_reducible refine (live_calls _).mono ?_); rintro e w' ⟨rfl, hb5⟩; have HB5 := Aside0.mk (below_then HB4.out HB4.out.size hb5); have HC35 := Aside0.mk (Kd.C_below HC34.out hb5); have HC45 := Aside0.mk (Kd.C_below HC4.out hb5); clear hb5)
      | (go_at_call 16; (with_reducible refine (HSM.out _ _ _ _ _ _ HC35.out HC45.out (by have := HLN.out; omega)).mono ?_); rintro e w' ⟨rfl, hb6⟩; have HB6 := Aside0.mk (below_then HB5.out HB5.out.size hb6); clear hb6))
    go_ret
    exact ⟨rfl, HB6.out⟩
theorem cuts_calls (A : Option Addr) (k c : Nat) (rs : List Ref) (w : World) (h : RefsC w A k rs) (hc : k ≤ c) (f m : Int) (hf : f ≤ 9223372036854775807) (hm : m ≤ 9223372036854775807) : Calls Try.prog 3 #[.slice A k c, .int .i64 f, .int .i64 m] w fun e w' => e = .returned (.bool true) ∧ Below w.heap.size w w' := by
  by_cases he : checkE rs = 0
  · exact cuts_yes A k c rs w h hc f m hf hm he
  · exact cuts_no A k c rs w h hc f m he
theorem wf_le {x : Int} (h : (Lit.int .i64 x).wf = true) : x ≤ 9223372036854775807 := by
  have h1 : (decide (IntKind.i64.min ≤ x) && decide (x ≤ IntKind.i64.max)) = true := h
  rw [Bool.and_eq_true, decide_eq_true_eq, decide_eq_true_eq] at h1
  exact h1.2
theorem cuts_row (A : Option Addr) (k c : Nat) (rs : List Ref) (f m : Int) (w : World) (h : RefsC w A k rs) (hc : k ≤ c) (hf : (Lit.int .i64 f).wf = true) (hm : (Lit.int .i64 m).wf = true) : Calls Try.prog 3 #[.slice A k c, .int .i64 f, .int .i64 m] w fun e w' => e = .returned (.bool true) ∧ Below w.heap.size w w' :=
  cuts_calls A k c rs w h hc f m (wf_le hf) (wf_le hm)
end Go.Proofs.Ytgofkhncaldheaa.ReG
