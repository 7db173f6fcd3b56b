/- What both packages' New computes: a summary, or why there is none. -/
import Derived.Test.YtnpcngnmjbhhaaaBlD
namespace Go.Proofs.Ytnpcngnmjbhhaaa.BlN
open Go Go.RowKit Go.Proofs.YtnpcngnmjbhhaaaW.PrintWords Go.Proofs.Ytnpcngnmjbhhaaa.K Go.Proofs.Ytnpcngnmjbhhaaa.OctS Go.Proofs.Ytnpcngnmjbhhaaa.BlS Go.Proofs.Ytnpcngnmjbhhaaa.BlP Go.Proofs.Ytnpcngnmjbhhaaa.BlC Go.Proofs.Ytnpcngnmjbhhaaa.BlD Go.Proofs.Ytnpcngnmjbhhaaa.Oct
set_option linter.unusedVariables false
/-- A summary of the reference's: its block, the bits that are on. -/
structure RF (w : World) (base g : Nat) (size ways : Int) (v : Value) (on : List Int) : Prop where
  ge : base ≤ g
  blk : w.heap[g]? = some (.cells #[.int .i64 size, .int .i64 ways, v] 46 (0, 0))
  row : Kd.R (Kd.int .i64) 3 w base (fun _ => True) (v) (on)
theorem rnew_no (s k : Int) (h : ¬ okF s k) (w : World) : Calls Try.prog 9 #[.int .i64 s, .int .i64 k] w fun e w' => e = .returned (.tuple #[.pointer none, .int .i64 2]) ∧ w = w' := by
  unfold okF at h
  by_cases g1 : 1 ≤ s
  · have h1 : decide (s < 1) = false := by simp; omega
    by_cases g2 : s ≤ 65536
    · have h2 : decide (65536 < s) = false := by simp; omega
      by_cases g3 : 1 ≤ k
      · have h3 : decide (k < 1) = false := by simp; omega
        have h4 : decide (8 < k) = true := by simp; omega
        go_enter Try.func9, Try.ntmps9
        go_wp2
        go_ret2
        exact ⟨rfl, rfl⟩
      · have h3 : decide (k < 1) = true := by simp; omega
        go_enter Try.func9, Try.ntmps9
        go_wp2
        go_ret2
        exact ⟨rfl, rfl⟩
    · have h2 : decide (65536 < s) = true := by simp; omega
      go_enter Try.func9, Try.ntmps9
      go_wp2
      go_ret2
      exact ⟨rfl, rfl⟩
  · have h1 : decide (s < 1) = true := by simp; omega
    go_enter Try.func9, Try.ntmps9
    go_wp2
    go_ret2
    exact ⟨rfl, rfl⟩
theorem rnew_yes (s k : Int) (h : okF s k) (w : World) : Calls Try.prog 9 #[.int .i64 s, .int .i64 k] w fun e w' => ∃ g, e = .returned (.tuple #[.pointer (some ⟨g, 0, none⟩), .int .i64 0]) ∧ RF w' w.heap.size g s k (.slice none 0 0) [] ∧ Below w.heap.size w w' := by
  unfold okF at h
  have h1 : decide (s < 1) = false := by simp; omega
  have h2 : decide (65536 < s) = false := by simp; omega
  have h3 : decide (k < 1) = false := by simp; omega
  have h4 : decide (8 < k) = false := by simp; omega
  clear h
  go_enter Try.func9, Try.ntmps9
  go_wp2
  go_ret2
  exact ⟨_, rfl, ⟨Nat.le_refl _, heap_alloc_new _ _, Kd.R_nil _ _ _ _ _⟩, below_alloc (Below.refl _ _) _⟩
/-- A summary of the program's: its block, its words. -/
structure BF (w : World) (base g : Nat) (size ways : Int) (v : Value) (words : List Int) : Prop where
  ge : base ≤ g
  blk : w.heap[g]? = some (.cells #[.int .i64 size, .int .i64 ways, v] 62 (0, 0))
  row : Kd.R (Kd.int .u64) 68 w base (fun _ => True) (v) (words)
theorem infoU64 : (Try.prog.info? 68).map (fun i => (i.zero, i.size, i.bytes)) = some (some (.int .u64 0), 1, 8) := by kernel_rfl
theorem new_no (s k : Int) (h : ¬ okF s k) (w : World) : Calls Try.prog 8 #[.int .i64 s, .int .i64 k] w fun e w' => e = .returned (.tuple #[.pointer none, .int .i64 2]) ∧ w = w' := by
  have HH := Aside0.mk (show ¬ (1 ≤ s ∧ s ≤ 65536 ∧ 1 ≤ k ∧ k ≤ 8) from h)
  clear h
  go_enter Try.func8, Try.ntmps8
  go_wp2_with (go_at_call 26; (with_reducible refine (right_no _ _ HH.out _).mono ?_); rintro e w' ⟨rfl, rfl⟩)
  go_ret2
  exact ⟨rfl, rfl⟩
set_option maxHeartbeats 1000000 in
theorem new_yes (s k : Nat) (h : okF s k) (w : World) : Calls Try.prog 8 #[.int .i64 s, .int .i64 k] w fun e w' => ∃ g v, e = .returned (.tuple #[.pointer (some ⟨g, 0, none⟩), .int .i64 0]) ∧ BF w' w.heap.size g s k v (List.replicate ((s + 63) / 64) 0) ∧ Below w.heap.size w w' := by
  have hb : 1 ≤ s ∧ s ≤ 65536 := by unfold okF at h; omega
  have HH := Aside0.mk (show 1 ≤ (s : Int) ∧ (s : Int) ≤ 65536 ∧ 1 ≤ (k : Int) ∧ (k : Int) ≤ 8 from h)
  obtain ⟨m, hm⟩ : ∃ m, m = (s + 63) / 64 := ⟨_, rfl⟩
  have hm2 : m ≤ 1025 := by omega
  have hmk := print_make (P := Try.prog) 59 68 .u64 8 Try.underlying59 infoU64 (by decide) m (by omega)
  have HO0 := Aside0.mk (own_made w w.heap.size 68 .u64 m (Nat.le_refl _) (by omega))
  have hsh : ((s : Int) + 64 - 1) / 64 = (m : Int) := by omega
  have HM := Aside0.mk hm
  clear h hm
  rw [← HM.out]
  go_enter Try.func8, Try.ntmps8
  go_wp2_with (go_at_call 26; (with_reducible refine (right_yes _ _ HH.out _).mono ?_); rintro e w' ⟨rfl, rfl⟩)
  go_ret2
  exact ⟨_, _, rfl, ⟨by simp, by have h := heap_alloc_new (w.alloc (.cells (madeCells #[.int .u64 0] m) 68)) (.cells #[.int .i64 s, .int .i64 k, .slice (some ⟨w.heap.size, 0, none⟩) m m] 62); rw [World.size_alloc] at h; exact h, Kd.R_alloc (Kd.R_of_own (enc := Value.int .u64) (h1 := fun _ => rfl) (by rw [List.length_replicate]; exact HO0.out) (fun _ _ => trivial)) _⟩, below_alloc (below_alloc (Below.refl _ _) _) _⟩
end Go.Proofs.Ytnpcngnmjbhhaaa.BlN
