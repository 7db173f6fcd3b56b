/- Whether refs are the same; a recipe's refs; the law RecipeNew, walked; condition: the refs read as a list. -/
import Derived.Test.YtgofkhncaldheaaReE
import Derived.Test.YtgofkhncaldheaaReL
namespace Go.Proofs.Ytgofkhncaldheaa.ReO
open Go Go.RowKit Go.Proofs.YtgofkhncaldheaaW.PrintWords Go.Proofs.Ytgofkhncaldheaa.K Go.Proofs.Ytgofkhncaldheaa.OctS Go.Proofs.Ytgofkhncaldheaa.OctP Go.Proofs.Ytgofkhncaldheaa.Oct Go.Proofs.Ytgofkhncaldheaa.ReS Go.Proofs.Ytgofkhncaldheaa.ReR Go.Proofs.Ytgofkhncaldheaa.ReT Go.Proofs.Ytgofkhncaldheaa.ReN Go.Proofs.Ytgofkhncaldheaa.ReP Go.Proofs.Ytgofkhncaldheaa.ReC Go.Proofs.Ytgofkhncaldheaa.ReK Go.Proofs.Ytgofkhncaldheaa.ReW Go.Proofs.Ytgofkhncaldheaa.ReF Go.Proofs.Ytgofkhncaldheaa.ReL Go.Proofs.Ytgofkhncaldheaa.ReE Go.Proofs.Ytgofkhncaldheaa.Eq
set_option linter.unusedVariables false
set_option linter.unusedSimpArgs false
theorem wide_ref : Wide Try.prog 56 := ⟨⟨3, by omega, by kernel_rfl, by kernel_rfl⟩, by rw [Try.underlying56]⟩
theorem key_ref (r : Ref) (h : r.Ok) : ∃ l, keyOf Try.prog 56 (.agg r.cells.toArray) = some l := by
  obtain ⟨m, hm⟩ : ∃ m, Try.prog.types.size = m + 2 := ⟨Try.prog.types.size - 2, by kernel_rfl⟩
  have hl : (nums .u8 r.s).length = 32 := by simp [nums, h.n]
  have h0 : ∃ L, Try.prog.keyLits (m + 2) 54 (nums .u8 r.s) = some L := lits_arr Try.underlying54 Try.underlying5 (by kernel_rfl) (by kernel_rfl) m h.n h.wf
  have c32 : Try.prog.cellsOf 54 = 32 := by kernel_rfl
  have c1 : Try.prog.cellsOf 3 = 1 := by kernel_rfl
  have d32 : r.cells.drop 32 = [.int .i64 r.len, .int .i64 r.bin, .int .i64 r.slot] := by
    show (nums .u8 r.s ++ _).drop 32 = _
    rw [List.drop_append_of_le_length (by omega), List.drop_of_length_le (by omega), List.nil_append]
  have d33 : r.cells.drop 33 = [.int .i64 r.bin, .int .i64 r.slot] := by
    rw [show (33 : Nat) = 32 + 1 from rfl, ← List.drop_drop, d32]; rfl
  have d34 : r.cells.drop 34 = [.int .i64 r.slot] := by
    rw [show (34 : Nat) = 32 + 2 from rfl, ← List.drop_drop, d32]; rfl
  have t0 : (r.cells.drop 0).take 32 = nums .u8 r.s := by
    rw [List.drop_zero]
    show (nums .u8 r.s ++ _).take 32 = _
    rw [List.take_append_of_le_length (by omega), List.take_of_length_le (by omega)]
  obtain ⟨L, hL⟩ := lits_struct (P := Try.prog) (k := 56) Try.underlying56 (cs := r.cells) (by rw [Ref.cells_len h]; kernel_rfl) (by kernel_rfl) (m + 2) (by
    intro f hf
    simp only [List.mem_cons, List.not_mem_nil, or_false] at hf
    rcases hf with rfl | rfl | rfl | rfl
    · show ∃ L, Try.prog.keyLits (m + 2) 54 ((r.cells.drop 0).take (Try.prog.cellsOf 54)) = some L
      rw [c32, t0]; exact h0
    · show ∃ L, Try.prog.keyLits (m + 2) 3 ((r.cells.drop 32).take (Try.prog.cellsOf 3)) = some L
      rw [c1, d32]; exact ⟨_, lits_int Try.underlying3 (m + 1) h.l⟩
    · show ∃ L, Try.prog.keyLits (m + 2) 3 ((r.cells.drop 33).take (Try.prog.cellsOf 3)) = some L
      rw [c1, d33]; exact ⟨_, lits_int Try.underlying3 (m + 1) h.b⟩
    · show ∃ L, Try.prog.keyLits (m + 2) 3 ((r.cells.drop 34).take (Try.prog.cellsOf 3)) = some L
      rw [c1, d34]; exact ⟨_, lits_int Try.underlying3 (m + 1) h.sl⟩)
  rw [show m + 2 + 1 = Try.prog.types.size + 1 from by omega] at hL
  exact key_of_lits wide_ref (by kernel_rfl) (by rw [Ref.cells_len h]; kernel_rfl) hL
set_option maxHeartbeats 2000000 in
theorem sameR_calls (A B : Option Addr) (n c1 c2 : Nat) (rs : List Ref) (w : World) (hA : RefsC w A n rs) (hB : RefsC w B n rs) : Calls Try.prog 23 #[.slice A n c1, .slice B n c2] w fun e w' => e = .returned (.bool true) ∧ Below w.heap.size w w' := by
  have HA := Aside0.mk hA
  have HB := Aside0.mk hB
  have hn := hA.lim
  unfold maxLen at hn
  have HU := Aside0.mk Try.underlying56
  clear hA hB
  go_enter Try.func23, Try.ntmps23
  go_wp2
  go_loopg [5] (n + 1) (fun gk v5 wr => ∃ i : Nat, v5 = .int .i64 i ∧ i ≤ n ∧ Aside0 (gk = n - i + 1) ∧ Aside0 (Below w.heap.size w wr))
  case atStart => exact ⟨0, rfl, Nat.zero_le _, ⟨rfl⟩, ⟨Below.refl _ _⟩⟩
  case round =>
    obtain ⟨i, rfl, hi, HG, HBr⟩ := hrel
    by_cases hlt : i < n
    · have h1 : decide ((i : Int) < (n : Int)) = true := by simp; omega
      obtain ⟨ad, rfl⟩ := HA.out.is (by omega)
      obtain ⟨bd, rfl⟩ := HB.out.is (by omega)
      have hp1 : (0 : Int) ≤ (i : Int) := by omega
      have hp2 : (i : Int) < (n : Int) := by omega
      have hok := HA.out.ok i hlt
      have hs0 : Hd.RangeA wr (ad.add (i * 35)) (rs.getD i default).cells ∧ Hd.RangeA wr (bd.add (i * 35)) (rs.getD i default).cells := ⟨(HA.out.below HBr.out).cells ad rfl i hlt, (HB.out.below HBr.out).cells bd rfl i hlt⟩
      have HI := Aside0.mk (infoRef _ hok)
      obtain ⟨l, hkey⟩ := key_ref _ hok
      have hne := fun W => neq_same wide_ref hkey W
      clear hok hkey
      generalize (rs.getD i default).cells = C at *
      have HS0 := Aside0.mk hs0
      clear hs0
      go_wp2
      (refine Hd.startE (S := (fun W => Hd.RangeA W (ad.add (i * 35)) C ∧ Hd.RangeA W (bd.add (i * 35)) C)) 1000 (by kernel_rfl) (HS0.out) (fun hHeld => ?_))
      (refine Hd.takeE (i := 0) (v := ?_) rfl rfl (by kernel_rfl) (by kernel_rfl) (by kernel_rfl) (by kernel_rfl) (fun _ _ _ h => h) (Or.inl ⟨by rfl, ?_⟩) (by assumption) ?_; rotate_left; (focus (intro wS hS; (try go_split_ands); go_simp; all_goals (with_reducible rfl))); simp only [List.set_cons_zero, List.set_cons_succ, List.setIfInBounds_toArray]); (refine Hd.takeE (i := 1) (v := ?_) rfl rfl (by kernel_rfl) (by kernel_rfl) (by kernel_rfl) (by kernel_rfl) (fun _ _ _ h => h) (Or.inl ⟨by rfl, ?_⟩) (by assumption) ?_; rotate_left; (focus (intro wS hS; (try go_split_ands); go_simp; all_goals (with_reducible rfl))); simp only [List.set_cons_zero, List.set_cons_succ, List.setIfInBounds_toArray]); (refine Hd.takeE (i := 2) (v := ?_) rfl rfl (by kernel_rfl) (by kernel_rfl) (by kernel_rfl) (by kernel_rfl) (fun _ _ _ h => h) (Or.inl ⟨by rfl, ?_⟩) (by assumption) ?_; rotate_left; (focus (intro wS hS; (try go_split_ands); go_simp; all_goals (with_reducible rfl))); simp only [List.set_cons_zero, List.set_cons_succ, List.setIfInBounds_toArray])
      (refine Hd.takeE (i := 3) rfl rfl (by kernel_rfl) (by kernel_rfl) (by kernel_rfl) (by kernel_rfl) (fun _ _ _ h => h) (Hd.yieldsIf_load_any (by rfl) 56 _ rfl _ rfl C _ (fun wS hS => hS.1) HU.out rfl HI.out) (by assumption) ?_; simp only [List.set_cons_zero, List.set_cons_succ, List.setIfInBounds_toArray])
      (refine Hd.takeE (i := 4) (v := ?_) rfl rfl (by kernel_rfl) (by kernel_rfl) (by kernel_rfl) (by kernel_rfl) (fun _ _ _ h => h) (Or.inl ⟨by rfl, ?_⟩) (by assumption) ?_; rotate_left; (focus (intro wS hS; (try go_split_ands); go_simp; all_goals (with_reducible rfl))); simp only [List.set_cons_zero, List.set_cons_succ, List.setIfInBounds_toArray]); (refine Hd.takeE (i := 5) (v := ?_) rfl rfl (by kernel_rfl) (by kernel_rfl) (by kernel_rfl) (by kernel_rfl) (fun _ _ _ h => h) (Or.inl ⟨by rfl, ?_⟩) (by assumption) ?_; rotate_left; (focus (intro wS hS; (try go_split_ands); go_simp; all_goals (with_reducible rfl))); simp only [List.set_cons_zero, List.set_cons_succ, List.setIfInBounds_toArray]); (refine Hd.takeE (i := 6) (v := ?_) rfl rfl (by kernel_rfl) (by kernel_rfl) (by kernel_rfl) (by kernel_rfl) (fun _ _ _ h => h) (Or.inl ⟨by rfl, ?_⟩) (by assumption) ?_; rotate_left; (focus (intro wS hS; (try go_split_ands); go_simp; all_goals (with_reducible rfl))); simp only [List.set_cons_zero, List.set_cons_succ, List.setIfInBounds_toArray])
      (refine Hd.takeE (i := 7) rfl rfl (by kernel_rfl) (by kernel_rfl) (by kernel_rfl) (by kernel_rfl) (fun _ _ _ h => h) (Hd.yieldsIf_load_any (by rfl) 56 _ rfl _ rfl C _ (fun wS hS => hS.2) HU.out rfl HI.out) (by assumption) ?_; simp only [List.set_cons_zero, List.set_cons_succ, List.setIfInBounds_toArray])
      (refine Hd.takeE (i := 8) (v := ?_) rfl rfl (by kernel_rfl) (by kernel_rfl) (by kernel_rfl) (by kernel_rfl) (fun _ _ _ h => h) (Or.inl ⟨by rfl, ?_⟩) (by assumption) ?_; rotate_left; (focus (intro wS hS; (try go_split_ands); go_simp; all_goals (with_reducible rfl))); simp only [List.set_cons_zero, List.set_cons_succ, List.setIfInBounds_toArray])
      (refine Hd.endE (by kernel_rfl) ?_ _)
      go_wp2
      go_roundg (n - (i + 1) + 1)
      case measure => have := HG.out; omega
      case rel => exact ⟨i + 1, by go_num, by omega, ⟨rfl⟩, ⟨below_then HBr.out HBr.out.size (pw_below_drewN (Below.refl _ _) 1)⟩⟩
    · obtain rfl : i = n := by omega
      have h1 : decide ((i : Int) < (i : Int)) = false := by simp
      go_wp2
      go_ret
      exact ⟨rfl, HBr.out⟩
theorem refs_nil (w : World) : Calls Try.prog 20 #[.pointer none] w fun e w' => e = .returned (.slice none 0 0) ∧ w = w' := by
  go_enter Try.func20, Try.ntmps20
  go_wp2
  go_ret
  exact ⟨rfl, rfl⟩
theorem refs_calls {w : World} {g : Nat} {rs : List Ref} {A : Option Addr} {c : Nat} {Ab : Option Addr} {cb : Nat} (h : Rec w g rs A c Ab cb) : Calls Try.prog 20 #[.pointer (some ⟨g, 0, none⟩)] w fun e w' => ∃ A' c', e = .returned (.slice A' rs.length c') ∧ RefsC w' A' rs.length rs ∧ Below w.heap.size w w' := by
  have a0 := obj_cell (v := .slice A rs.length c) h.blk 0 rfl
  have HC := Aside0.mk (cloneR A rs.length c rs w (refs_C h.refs) (by have := h.few; omega))
  have HLM := Aside0.mk h.refs.lim
  clear h
  generalize hn : rs.length = n at *
  have HN := Aside0.mk hn
  clear hn
  go_enter Try.func20, Try.ntmps20
  go_wp2_with fail
  refine HC.out.mono ?_
  rintro e w' ⟨v, rfl, ho, hb⟩
  obtain ⟨A1, c1, rfl, _, hC⟩ := Kd.R_reads ho
  rw [HN.out] at hC ⊢
  have HC1 := Aside0.mk (refs_of_C hC HLM.out)
  have HB := Aside0.mk hb
  clear ho hC hb
  go_wp2
  go_ret
  exact ⟨_, _, rfl, HC1.out, HB.out⟩
set_option maxRecDepth 100000 in
theorem new_row_no (A : Option Addr) (k c : Nat) (rs : List Ref) (w : World) (h : RefsC w A k rs) (hc : k ≤ c) (he : checkE rs ≠ 0) : Calls Try.prog 5 #[.slice A k c] w fun e w' => e = .returned (.bool true) ∧ Below w.heap.size w w' := by
  have HN := Aside0.mk (new_no A k c rs w h hc he)
  have HC := Aside0.mk (fun W (hW : Below w.heap.size w W) => check_calls A k c rs W (h.below hW) hc)
  have HR := Aside0.mk (fun W (hW : Below w.heap.size w W) => rcheck_calls A k c rs W (h.below hW))
  have h1 : (checkE rs != 0) = true := by simpa using he
  have h2 : (checkE rs == 0) = false := by simpa using he
  clear h hc he
  generalize checkE rs = x at *
  go_enter Try.func5, Try.ntmps5
  go_wp2_with (first
    | (go_at_call 9; (with_reducible refine (HN.out).mono ?_); rintro e w' ⟨rfl, hb1⟩; have HB1 := Aside0.mk hb1; clear hb1)
    | (go_at_call 11; (with_reducible refine (HR.out _ HB1.out).mono ?_); rintro e w' ⟨rfl, hb2⟩; have HB2 := Aside0.mk (below_then HB1.out HB1.out.size hb2); clear hb2)
    | (go_at_call 19; (with_reducible refine (HC.out _ HB2.out).mono ?_); rintro e w' ⟨rfl, hb3⟩; have HB3 := Aside0.mk (below_then HB2.out HB2.out.size hb3); clear hb3)
    | (go_at_call 10; (with_reducible refine (live_calls _).mono ?_); rintro e w' ⟨rfl, hb4⟩; have HB4 := Aside0.mk (below_then HB3.out HB3.out.size hb4); clear hb4)
    | (go_at_call 17; (with_reducible refine (sz_nil _).mono ?_); rintro e w' ⟨rfl, hb5⟩; have HB5 := Aside0.mk (below_then HB4.out HB4.out.size hb5); clear hb5)
    | (go_at_call 20; (with_reducible refine (refs_nil _).mono ?_); rintro e w' ⟨rfl, rfl⟩))
  go_ret
  exact ⟨rfl, HB5.out⟩
set_option maxRecDepth 100000 in
set_option maxHeartbeats 2000000 in
theorem new_row_yes (A : Option Addr) (k c : Nat) (rs : List Ref) (w : World) (h : RefsC w A k rs) (hc : k ≤ c) (he : checkE rs = 0) : Calls Try.prog 5 #[.slice A k c] w fun e w' => e = .returned (.bool true) ∧ Below w.heap.size w w' := by
  have HN := Aside0.mk (new_yes A k c rs w h hc he)
  have HC := Aside0.mk (fun W (hW : Below w.heap.size w W) => (he ▸ check_calls A k c rs W (h.below hW) hc))
  have HR := Aside0.mk (fun W (hW : Below w.heap.size w W) => (he ▸ rcheck_calls A k c rs W (h.below hW)))
  have hx : k ≤ 256 ∧ AllOk rs := by
    unfold checkE at he
    rw [h.len] at he
    by_cases h1 : 256 < k
    · rw [if_pos h1] at he; cases he
    · rw [if_neg h1] at he
      by_cases h2 : AllOk rs
      · exact ⟨by omega, h2⟩
      · rw [if_neg h2] at he; cases he
  have HS1 := Aside0.mk (fun W (hW : Below w.heap.size w W) => rsize_calls A k c rs W (h.below hW) hx.1 hx.2)
  have HS2 := Aside0.mk (fun W (hW : Below w.heap.size w W) => size_calls A k c rs W (h.below hW) hx.1 hx.2)
  have HSZ := Aside0.mk (fun W g A1 c1 Ab cb (hr : Rec W g rs A1 c1 Ab cb) => sz_calls hr)
  have HRF := Aside0.mk (fun W g A1 c1 Ab cb (hr : Rec W g rs A1 c1 Ab cb) => refs_calls hr)
  have HSM := Aside0.mk (fun W A' c1 (hA : RefsC W A' k rs) (hW : Below w.heap.size w W) => sameR_calls A' A k c1 c rs W hA (h.below hW))
  have hlen := h.len
  clear h hc he hx
  rw [hlen] at HRF
  generalize (lens rs).sum = s at *
  clear hlen
  go_enter Try.func5, Try.ntmps5
  go_wp2_with fail
  refine HN.out.mono ?_
  rintro e w1 ⟨g, A1, c1, Ab, cb, rfl, hr, hg, hb1⟩
  have HR0 := Aside0.mk (fun W (hW : Below w1.heap.size w1 W) => hr.below hW)
  have HB1 := Aside0.mk hb1
  clear hr hg hb1
  go_wp2_with fail
  refine (HR.out _ HB1.out).mono ?_
  rintro e w2 ⟨rfl, hb2⟩
  have HV2 := Aside0.mk hb2
  have HB2 := Aside0.mk (below_then HB1.out HB1.out.size hb2)
  clear hb2
  go_wp2_with fail
  refine (HC.out _ HB2.out).mono ?_
  rintro e w3 ⟨rfl, hb3⟩
  have HV3 := Aside0.mk (below_then HV2.out HV2.out.size hb3)
  have HB3 := Aside0.mk (below_then HB2.out HB2.out.size hb3)
  clear hb3
  go_wp2_with fail
  refine (live_calls _).mono ?_
  rintro e w4 ⟨rfl, hb4⟩
  have HV4 := Aside0.mk (below_then HV3.out HV3.out.size hb4)
  have HB4 := Aside0.mk (below_then HB3.out HB3.out.size hb4)
  clear hb4
  go_wp2_with fail
  refine (HSZ.out _ _ _ _ _ _ (HR0.out _ HV4.out)).mono ?_
  rintro e w5 ⟨rfl, hb5⟩
  have HV5 := Aside0.mk (below_then HV4.out HV4.out.size hb5)
  have HB5 := Aside0.mk (below_then HB4.out HB4.out.size hb5)
  clear hb5
  go_wp2_with fail
  refine (HS1.out _ HB5.out).mono ?_
  rintro e w6 ⟨rfl, rfl⟩
  go_wp2_with fail
  refine (HS2.out _ HB5.out).mono ?_
  rintro e w7 ⟨rfl, hb7⟩
  have HV7 := Aside0.mk (below_then HV5.out HV5.out.size hb7)
  have HB7 := Aside0.mk (below_then HB5.out HB5.out.size hb7)
  clear hb7
  go_wp2_with fail
  refine (HSZ.out _ _ _ _ _ _ (HR0.out _ HV7.out)).mono ?_
  rintro e w8 ⟨rfl, hb8⟩
  have HV8 := Aside0.mk (below_then HV7.out HV7.out.size hb8)
  have HB8 := Aside0.mk (below_then HB7.out HB7.out.size hb8)
  clear hb8
  go_wp2_with fail
  refine (HRF.out _ _ _ _ _ _ (HR0.out _ HV8.out)).mono ?_
  rintro e w9 ⟨A9, c9, rfl, hr9, hb9⟩
  have HR9 := Aside0.mk hr9
  have HB9 := Aside0.mk (below_then HB8.out HB8.out.size hb9)
  clear hb9 hr9
  go_wp2_with fail
  refine (HSM.out _ _ _ HR9.out HB9.out).mono ?_
  rintro e w10 ⟨rfl, hb10⟩
  have HB10 := Aside0.mk (below_then HB9.out HB9.out.size hb10)
  clear hb10
  go_wp2
  go_ret
  exact ⟨rfl, HB10.out⟩
theorem new_row (A : Option Addr) (k c : Nat) (rs : List Ref) (w : World) (h : RefsC w A k rs) (hc : k ≤ c) : Calls Try.prog 5 #[.slice A k c] w fun e w' => e = .returned (.bool true) ∧ Below w.heap.size w w' := by
  by_cases he : checkE rs = 0
  · exact new_row_yes A k c rs w h hc he
  · exact new_row_no A k c rs w h hc he
end Go.Proofs.Ytgofkhncaldheaa.ReO
