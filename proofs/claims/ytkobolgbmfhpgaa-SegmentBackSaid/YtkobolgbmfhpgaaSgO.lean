/- Whether refs are the same; condition: both read as the same list. -/
import Derived.Test.YtkobolgbmfhpgaaSgQb
import Derived.Test.YtkobolgbmfhpgaaEq
namespace Go.Proofs.Ytkobolgbmfhpgaa.ReO
open Go Go.RowKit Go.Proofs.YtkobolgbmfhpgaaW.PrintWords Go.Proofs.Ytkobolgbmfhpgaa.K Go.Proofs.Ytkobolgbmfhpgaa.OctS Go.Proofs.Ytkobolgbmfhpgaa.OctP Go.Proofs.Ytkobolgbmfhpgaa.Oct Go.Proofs.Ytkobolgbmfhpgaa.ReS Go.Proofs.Ytkobolgbmfhpgaa.ReR Go.Proofs.Ytkobolgbmfhpgaa.ReT Go.Proofs.Ytkobolgbmfhpgaa.ReN Go.Proofs.Ytkobolgbmfhpgaa.ReP Go.Proofs.Ytkobolgbmfhpgaa.ReK Go.Proofs.Ytkobolgbmfhpgaa.Eq
set_option linter.unusedVariables false
set_option linter.unusedSimpArgs false
theorem wide_ref : Wide Try.prog 34 := ⟨⟨3, by omega, by kernel_rfl, by kernel_rfl⟩, by rw [Try.underlying34]⟩
theorem key_ref (r : Ref) (h : r.Ok) : ∃ l, keyOf Try.prog 34 (.agg r.cells.toArray) = some l := by
  obtain ⟨m, hm⟩ : ∃ m, Try.prog.types.size = m + 2 := ⟨Try.prog.types.size - 2, by kernel_rfl⟩
  have hl : (nums .u8 r.s).length = 32 := by simp [nums, h.n]
  have h0 : ∃ L, Try.prog.keyLits (m + 2) 31 (nums .u8 r.s) = some L := lits_arr Try.underlying31 Try.underlying5 (by kernel_rfl) (by kernel_rfl) m h.n h.wf
  have c32 : Try.prog.cellsOf 31 = 32 := by kernel_rfl
  have c1 : Try.prog.cellsOf 3 = 1 := by kernel_rfl
  have d32 : r.cells.drop 32 = [.int .i64 r.len, .int .i64 r.bin, .int .i64 r.slot] := by
    show (nums .u8 r.s ++ _).drop 32 = _
    rw [List.drop_append_of_le_length (by omega), List.drop_of_length_le (by omega), List.nil_append]
  have d33 : r.cells.drop 33 = [.int .i64 r.bin, .int .i64 r.slot] := by
    rw [show (33 : Nat) = 32 + 1 from rfl, ← List.drop_drop, d32]; rfl
  have d34 : r.cells.drop 34 = [.int .i64 r.slot] := by
    rw [show (34 : Nat) = 32 + 2 from rfl, ← List.drop_drop, d32]; rfl
  have t0 : (r.cells.drop 0).take 32 = nums .u8 r.s := by
    rw [List.drop_zero]
    show (nums .u8 r.s ++ _).take 32 = _
    rw [List.take_append_of_le_length (by omega), List.take_of_length_le (by omega)]
  obtain ⟨L, hL⟩ := lits_struct (P := Try.prog) (k := 34) Try.underlying34 (cs := r.cells) (by rw [Ref.cells_len h]; kernel_rfl) (by kernel_rfl) (m + 2) (by
    intro f hf
    simp only [List.mem_cons, List.not_mem_nil, or_false] at hf
    rcases hf with rfl | rfl | rfl | rfl
    · show ∃ L, Try.prog.keyLits (m + 2) 31 ((r.cells.drop 0).take (Try.prog.cellsOf 31)) = some L
      rw [c32, t0]; exact h0
    · show ∃ L, Try.prog.keyLits (m + 2) 3 ((r.cells.drop 32).take (Try.prog.cellsOf 3)) = some L
      rw [c1, d32]; exact ⟨_, lits_int Try.underlying3 (m + 1) h.l⟩
    · show ∃ L, Try.prog.keyLits (m + 2) 3 ((r.cells.drop 33).take (Try.prog.cellsOf 3)) = some L
      rw [c1, d33]; exact ⟨_, lits_int Try.underlying3 (m + 1) h.b⟩
    · show ∃ L, Try.prog.keyLits (m + 2) 3 ((r.cells.drop 34).take (Try.prog.cellsOf 3)) = some L
      rw [c1, d34]; exact ⟨_, lits_int Try.underlying3 (m + 1) h.sl⟩)
  rw [show m + 2 + 1 = Try.prog.types.size + 1 from by omega] at hL
  exact key_of_lits wide_ref (by kernel_rfl) (by rw [Ref.cells_len h]; kernel_rfl) hL
set_option maxHeartbeats 2000000 in
theorem sameR_calls (A B : Option Addr) (n c1 c2 : Nat) (rs : List Ref) (w : World) (hA : RefsC w A n rs) (hB : RefsC w B n rs) : Calls Try.prog 21 #[.slice A n c1, .slice B n c2] w fun e w' => e = .returned (.bool true) ∧ Below w.heap.size w w' := by
  have HA := Aside0.mk hA
  have HB := Aside0.mk hB
  have hn := hA.lim
  unfold maxLen at hn
  have HU := Aside0.mk Try.underlying34
  clear hA hB
  go_enter Try.func21, Try.ntmps21
  go_wp2
  go_loopg [5] (n + 1) (fun gk v5 wr => ∃ i : Nat, v5 = .int .i64 i ∧ i ≤ n ∧ Aside0 (gk = n - i + 1) ∧ Aside0 (Below w.heap.size w wr))
  case atStart => exact ⟨0, rfl, Nat.zero_le _, ⟨rfl⟩, ⟨Below.refl _ _⟩⟩
  case round =>
    obtain ⟨i, rfl, hi, HG, HBr⟩ := hrel
    by_cases hlt : i < n
    · have h1 : decide ((i : Int) < (n : Int)) = true := by simp; omega
      obtain ⟨ad, rfl⟩ := HA.out.is (by omega)
      obtain ⟨bd, rfl⟩ := HB.out.is (by omega)
      have hp1 : (0 : Int) ≤ (i : Int) := by omega
      have hp2 : (i : Int) < (n : Int) := by omega
      have hok := HA.out.ok i hlt
      have hs0 : Hd.RangeA wr (ad.add (i * 35)) (rs.getD i default).cells ∧ Hd.RangeA wr (bd.add (i * 35)) (rs.getD i default).cells := ⟨(HA.out.below HBr.out).cells ad rfl i hlt, (HB.out.below HBr.out).cells bd rfl i hlt⟩
      have HI := Aside0.mk (infoRef _ hok)
      obtain ⟨l, hkey⟩ := key_ref _ hok
      have hne := fun W => neq_same wide_ref hkey W
      clear hok hkey
      generalize (rs.getD i default).cells = C at *
      have HS0 := Aside0.mk hs0
      clear hs0
      go_wp2
      (refine Hd.startE (S := (fun W => Hd.RangeA W (ad.add (i * 35)) C ∧ Hd.RangeA W (bd.add (i * 35)) C)) 1000 (by kernel_rfl) (HS0.out) (fun hHeld => ?_))
      (refine Hd.takeE (i := 0) (v := ?_) rfl rfl (by kernel_rfl) (by kernel_rfl) (by kernel_rfl) (by kernel_rfl) (by first | exact fun _ _ _ h => h | exact fun _ _ _ h => HQP.out (by decide) h) (Or.inl ⟨by rfl, ?_⟩) (by assumption) ?_; rotate_left; (focus (intro wS hS; (try go_split_ands); go_simp; all_goals (with_reducible rfl))); simp only [List.set_cons_zero, List.set_cons_succ, List.setIfInBounds_toArray]); (refine Hd.takeE (i := 1) (v := ?_) rfl rfl (by kernel_rfl) (by kernel_rfl) (by kernel_rfl) (by kernel_rfl) (by first | exact fun _ _ _ h => h | exact fun _ _ _ h => HQP.out (by decide) h) (Or.inl ⟨by rfl, ?_⟩) (by assumption) ?_; rotate_left; (focus (intro wS hS; (try go_split_ands); go_simp; all_goals (with_reducible rfl))); simp only [List.set_cons_zero, List.set_cons_succ, List.setIfInBounds_toArray]); (refine Hd.takeE (i := 2) (v := ?_) rfl rfl (by kernel_rfl) (by kernel_rfl) (by kernel_rfl) (by kernel_rfl) (by first | exact fun _ _ _ h => h | exact fun _ _ _ h => HQP.out (by decide) h) (Or.inl ⟨by rfl, ?_⟩) (by assumption) ?_; rotate_left; (focus (intro wS hS; (try go_split_ands); go_simp; all_goals (with_reducible rfl))); simp only [List.set_cons_zero, List.set_cons_succ, List.setIfInBounds_toArray])
      (refine Hd.takeE (i := 3) rfl rfl (by kernel_rfl) (by kernel_rfl) (by kernel_rfl) (by kernel_rfl) (by first | exact fun _ _ _ h => h | exact fun _ _ _ h => HQP.out (by decide) h) (Hd.yieldsIf_load_any (by rfl) 34 _ rfl _ rfl C _ (fun wS hS => hS.1) HU.out rfl HI.out) (by assumption) ?_; simp only [List.set_cons_zero, List.set_cons_succ, List.setIfInBounds_toArray])
      (refine Hd.takeE (i := 4) (v := ?_) rfl rfl (by kernel_rfl) (by kernel_rfl) (by kernel_rfl) (by kernel_rfl) (by first | exact fun _ _ _ h => h | exact fun _ _ _ h => HQP.out (by decide) h) (Or.inl ⟨by rfl, ?_⟩) (by assumption) ?_; rotate_left; (focus (intro wS hS; (try go_split_ands); go_simp; all_goals (with_reducible rfl))); simp only [List.set_cons_zero, List.set_cons_succ, List.setIfInBounds_toArray]); (refine Hd.takeE (i := 5) (v := ?_) rfl rfl (by kernel_rfl) (by kernel_rfl) (by kernel_rfl) (by kernel_rfl) (by first | exact fun _ _ _ h => h | exact fun _ _ _ h => HQP.out (by decide) h) (Or.inl ⟨by rfl, ?_⟩) (by assumption) ?_; rotate_left; (focus (intro wS hS; (try go_split_ands); go_simp; all_goals (with_reducible rfl))); simp only [List.set_cons_zero, List.set_cons_succ, List.setIfInBounds_toArray]); (refine Hd.takeE (i := 6) (v := ?_) rfl rfl (by kernel_rfl) (by kernel_rfl) (by kernel_rfl) (by kernel_rfl) (by first | exact fun _ _ _ h => h | exact fun _ _ _ h => HQP.out (by decide) h) (Or.inl ⟨by rfl, ?_⟩) (by assumption) ?_; rotate_left; (focus (intro wS hS; (try go_split_ands); go_simp; all_goals (with_reducible rfl))); simp only [List.set_cons_zero, List.set_cons_succ, List.setIfInBounds_toArray])
      (refine Hd.takeE (i := 7) rfl rfl (by kernel_rfl) (by kernel_rfl) (by kernel_rfl) (by kernel_rfl) (by first | exact fun _ _ _ h => h | exact fun _ _ _ h => HQP.out (by decide) h) (Hd.yieldsIf_load_any (by rfl) 34 _ rfl _ rfl C _ (fun wS hS => hS.2) HU.out rfl HI.out) (by assumption) ?_; simp only [List.set_cons_zero, List.set_cons_succ, List.setIfInBounds_toArray])
      (refine Hd.takeE (i := 8) (v := ?_) rfl rfl (by kernel_rfl) (by kernel_rfl) (by kernel_rfl) (by kernel_rfl) (by first | exact fun _ _ _ h => h | exact fun _ _ _ h => HQP.out (by decide) h) (Or.inl ⟨by rfl, ?_⟩) (by assumption) ?_; rotate_left; (focus (intro wS hS; (try go_split_ands); go_simp; all_goals (with_reducible rfl))); simp only [List.set_cons_zero, List.set_cons_succ, List.setIfInBounds_toArray])
      (refine Hd.endE (by kernel_rfl) ?_ _)
      go_wp2
      go_roundg (n - (i + 1) + 1)
      case measure => have := HG.out; omega
      case rel => exact ⟨i + 1, by go_num, by omega, ⟨rfl⟩, ⟨below_then HBr.out HBr.out.size (pw_below_drewN (Below.refl _ _) 1)⟩⟩
    · obtain rfl : i = n := by omega
      have h1 : decide ((i : Int) < (i : Int)) = false := by simp
      go_wp2
      go_ret
      exact ⟨rfl, HBr.out⟩
end Go.Proofs.Ytkobolgbmfhpgaa.ReO
