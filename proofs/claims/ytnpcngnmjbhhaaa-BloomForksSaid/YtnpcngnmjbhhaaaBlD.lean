/- What bloom.Places and the reference's Places, and both packages' New, compute; condition: a sum is 32 bytes. -/
import Derived.Test.YtnpcngnmjbhhaaaBlC
import Derived.Deep.MidRow
namespace Go.Proofs.Ytnpcngnmjbhhaaa.BlD
open Go Go.RowKit Go.Proofs.YtnpcngnmjbhhaaaW.PrintWords Go.Proofs.Ytnpcngnmjbhhaaa.K Go.Proofs.Ytnpcngnmjbhhaaa.OctS Go.Proofs.Ytnpcngnmjbhhaaa.BlS Go.Proofs.Ytnpcngnmjbhhaaa.BlP Go.Proofs.Ytnpcngnmjbhhaaa.BlC Go.Proofs.Ytnpcngnmjbhhaaa.Oct
set_option linter.unusedVariables false
def okF (s k : Int) : Prop := 1 ≤ s ∧ s ≤ 65536 ∧ 1 ≤ k ∧ k ≤ 8
instance (s k : Int) : Decidable (okF s k) := by unfold okF; infer_instance
/-- A sum's places. -/
def plL (bs : List Int) (s k : Int) : List Int := if okF s k then (List.range k.toNat).map (fun j => ((place bs s.toNat j : Nat) : Int)) else []
theorem range_new (w : World) (cs : List Value) (t : TypeId) : (w.alloc (.cells cs.toArray t)).rangeAt w.heap.size 0 cs := fun j v hv => by
  have h := obj_cell (heap_alloc_new w (.cells cs.toArray t)) (0 + j) (v := v) (by simpa using hv)
  exact h
theorem infoSum0 : (Try.prog.info? 22).map (·.size) = some 32 := by kernel_rfl
theorem infoSum (bs : List Int) (h : bs.length = 32) : (Try.prog.info? 22).map (·.size) = some (nums .u8 bs).length := by
  have e : (nums .u8 bs).length = 32 := by simp [nums, h]
  rw [e]
  exact infoSum0
theorem outs_eq (bs : List Int) (size ways : Nat) (h0 : 0 < size) (h : okF size ways) : outs (pfs bs size h0 ways) = plL bs size ways := by
  unfold plL
  rw [if_pos h]
  simp [outs, pfs, pf]
theorem seat_new (w : World) (bs : List Int) (size ways : Nat) (hl : bs.length = 32) :
    Seat (((w.alloc (.cells (nums .u8 bs).toArray 22)).alloc (.cells #[.int .i64 size] 3)).alloc (.cells #[.int .i64 ways] 3)) w.heap.size (w.heap.size + 1) (w.heap.size + 2) bs size ways := by
  have h1 := own_lit w w.heap.size 22 .u8 bs (Nat.le_refl _) (by rw [hl]; decide)
  have h2 := (Kd.R_reads' (Kd.R_of_own (enc := Value.int .u8) (h1 := fun _ => rfl) (ok := fun _ => True) h1 (fun _ _ => trivial))).2.2
  rw [hl] at h2
  refine ⟨Kd.C_below h2 (below_alloc (below_alloc (Below.refl _ _) _) _), ?_, ?_, by simp; omega, by simp, by simp⟩
  · have h := obj_cell (heap_alloc_new (w.alloc (.cells (nums .u8 bs).toArray 22)) (.cells #[.int .i64 size] 3)) 0 (v := .int .i64 size) rfl
    rw [World.size_alloc] at h
    rw [World.cell?_alloc_old _ _ _ (by simp)]
    exact h
  · have h := obj_cell (heap_alloc_new (((w.alloc (.cells (nums .u8 bs).toArray 22)).alloc (.cells #[.int .i64 size] 3))) (.cells #[.int .i64 ways] 3)) 0 (v := .int .i64 ways) rfl
    simpa using h
set_option maxHeartbeats 1000000 in
theorem places_all (bs : List Int) (s k : Int) (w : World) (hl : bs.length = 32) (hb : Bytes bs) : Calls Try.prog 10 #[.agg (nums .u8 bs).toArray, .int .i64 s, .int .i64 k] w fun e w' =>
    ∃ v, e = .returned v ∧ Kd.R (Kd.int .i64) 3 w' w.heap.size (fun _ => True) (v) (plL bs s k) ∧ Below w.heap.size w w' := by
  by_cases h : okF s k
  · obtain ⟨m, rfl⟩ := Int.eq_ofNat_of_zero_le (show 0 ≤ s by unfold okF at h; omega)
    obtain ⟨n, rfl⟩ := Int.eq_ofNat_of_zero_le (show 0 ≤ k by unfold okF at h; omega)
    have HL := Aside0.mk hl
    have HY := Aside0.mk hb
    have HH := Aside0.mk (show 1 ≤ (m : Int) ∧ (m : Int) ≤ 65536 ∧ 1 ≤ (n : Int) ∧ (n : Int) ≤ 8 from h)
    have HK := Aside0.mk h
    clear hl hb h
    go_enter Try.func10, Try.ntmps10
    go_wp2_with (first | (go_at_call 26; (with_reducible refine (right_yes _ _ HH.out _).mono ?_); rintro e w' ⟨rfl, rfl⟩) | ((with_reducible refine gate_ (.load 22 (.tmp 3)) rfl ?_); refine wpList_load_mid rfl _ (.tmp 3) rfl w.heap.size 0 rfl (nums .u8 bs) _ (range_new w _ _) Try.underlying22 rfl (infoSum bs HL.out) ?_))
    refine (places_calls bs m n _).mono ?_
    rintro e w' ⟨rfl, rfl⟩
    go_wp2_with fail
    have hs := seat_new (w.alloc (.cells (nums .u8 bs).toArray 22)) bs m n HL.out
    rw [World.size_alloc] at hs
    refine (collect_calls (w.heap.size + 1) (w.heap.size + 1 + 1) (w.heap.size + 1 + 2) bs m n (by have := HH.out; omega) (by have := HH.out; omega) (by have := HH.out; omega) HY.out _ hs).mono ?_
    clear hs
    rintro e w' ⟨v, rfl, ho, hb⟩
    have HO := Aside0.mk ho
    have HB := Aside0.mk hb
    clear ho hb
    go_wp2
    go_ret
    have hB := HB.out
    simp only [World.size_alloc] at hB
    refine ⟨v, rfl, ?_, ?_⟩
    · have ho := HO.out
      rw [← outs_eq bs m n (by have := HH.out; omega) HK.out]
      have hlen : (outs (pfs bs m (by have := HH.out; omega) n)).length = n := by simp [outs, pfs_len]
      have h := Kd.R_of_own (enc := Value.int .i64) (h1 := fun _ => rfl) (ok := fun _ => True) (by rw [hlen]; exact ho) (fun _ _ => trivial)
      exact Kd.R_lower h (by simp; omega)
    · exact below_then (below_alloc (below_alloc (below_alloc (below_alloc (Below.refl _ _) _) _) _) _) (by simp; omega) HB.out
  · have HH := Aside0.mk (show ¬ (1 ≤ s ∧ s ≤ 65536 ∧ 1 ≤ k ∧ k ≤ 8) from h)
    have e : plL bs s k = [] := if_neg h
    rw [e]
    clear e h
    go_enter Try.func10, Try.ntmps10
    go_wp2_with (go_at_call 26; (with_reducible refine (right_no _ _ HH.out _).mono ?_); rintro e w' ⟨rfl, rfl⟩)
    go_ret
    exact ⟨_, rfl, Kd.R_nil _ _ _ _ _, below_alloc (Below.refl _ _) _⟩
end Go.Proofs.Ytnpcngnmjbhhaaa.BlD
