/- What the program's summary computes: Fork, and what a nil summary answers. -/
import Derived.Test.YtnpcngnmjbhhaaaBlQ
namespace Go.Proofs.Ytnpcngnmjbhhaaa.BlR
open Go Go.RowKit Go.Proofs.YtnpcngnmjbhhaaaW.PrintWords Go.Proofs.Ytnpcngnmjbhhaaa.K Go.Proofs.Ytnpcngnmjbhhaaa.OctS Go.Proofs.Ytnpcngnmjbhhaaa.OctP Go.Proofs.Ytnpcngnmjbhhaaa.BlS Go.Proofs.Ytnpcngnmjbhhaaa.BlP Go.Proofs.Ytnpcngnmjbhhaaa.BlC Go.Proofs.Ytnpcngnmjbhhaaa.BlD Go.Proofs.Ytnpcngnmjbhhaaa.BlN Go.Proofs.Ytnpcngnmjbhhaaa.BlW Go.Proofs.Ytnpcngnmjbhhaaa.BlO Go.Proofs.Ytnpcngnmjbhhaaa.BlQ Go.Proofs.Ytnpcngnmjbhhaaa.Oct
set_option linter.unusedVariables false
set_option linter.unusedSimpArgs false
theorem qU (w : World) (a : Option Addr) (n c n' c' : Nat) : (binOp .eql 59 (.slice a n c) (.slice none n' c')).run Try.prog w = .ok (.bool a.isNone) w := Lib.run_eql_slice_nil w _ _ a n c n' c' Try.underlying59
set_option maxHeartbeats 1000000 in
theorem clone64 (A0 : Option Addr) (n c0 : Nat) (l0 : List Int) (w : World) (hr : Kd.C (Kd.int .u64) w A0 n l0) (hb : n ≤ 1000000) :
    Calls Try.prog 34 #[.slice A0 n c0] w fun e w' => ∃ v, e = .returned v ∧ Kd.R (Kd.int .u64) 68 w' w.heap.size (fun _ => True) (v) (l0) ∧ Below w.heap.size w w' := by
  have HB := Aside0.mk (Below.refl w.heap.size w)
  have hq := qU
  cases A0 with
  | none =>
    obtain rfl : l0 = [] := C_none hr
    go_enter Try.func34, Try.ntmps34
    go_wp2
    go_ret
    exact ⟨_, rfl, Kd.R_nil _ _ _ _ _, HB.out⟩
  | some a =>
    have HR := Aside0.mk hr
    clear hr
    have HN := Aside0.mk (Kd.R_made_nil (Kd.int .u64) w 68)
    go_enter Try.func34, Try.ntmps34
    go_wp2_with ((with_reducible refine gate_builtin (b := .append) (xs := #[.tmp 5, .tmp 6]) rfl ?_); at_builtin; refine app (Kd.int .u64) (flat_int _) w.heap.size (w0 := w) (.tmp 5) (.tmp 6) 59 68 (.int .u64 0) 8 rfl rfl Try.underlying59 infoU64 rfl (by decide) (by decide) _ [] l0 (some a) n c0 rfl rfl ?aO ?aR ?aB ?aS ?aL ?_; (case aO => exact HN.out); (case aR => exact (Kd.C_below HR.out (by repeat (first | (with_reducible first | exact HB.out | apply below_alloc | apply pw_below_drewN | apply below_drew1) | exact HB.out)))); (case aB => exact (by repeat (first | (with_reducible first | exact HB.out | apply below_alloc | apply pw_below_drewN | apply below_drew1) | exact HB.out))); (case aS => exact (below_size (by repeat (first | (with_reducible first | exact HB.out | apply below_alloc | apply pw_below_drewN | apply below_drew1) | exact HB.out)))); (case aL => exact (by simp; omega)); intro v1 w1 ho hb1 hg hat)
    go_ret
    exact ⟨_, rfl, by simpa using ho, hb1⟩
set_option maxHeartbeats 1000000 in
theorem fork_calls (w : World) (base g : Nat) (size ways : Int) (v : Value) (ws : List Int) (h : BF w base g size ways v ws) (hn : ws.length ≤ 1000000) :
    Calls Try.prog 22 #[.pointer (some ⟨g, 0, none⟩)] w fun e w' => ∃ v', e = .returned (.pointer (some ⟨w.heap.size, 0, none⟩)) ∧ BF w' w.heap.size w.heap.size size ways v' ws ∧ Below w.heap.size w w' := by
  obtain ⟨A, c, rfl, hlc, hr⟩ := Kd.R_reads h.row
  have a0 := obj_cell (v := .int .i64 size) h.blk 0 rfl
  have a1 := obj_cell (v := .int .i64 ways) h.blk 1 rfl
  have a2 := obj_cell (v := .slice A ws.length c) h.blk 2 rfl
  have hg0 := bf_lt h
  have hgn : g ≠ w.heap.size := by omega
  have HC := Aside0.mk (fun W (hW : Below w.heap.size w W) => clone64 A ws.length c ws W (Kd.C_below hr hW) hn)
  clear hr h
  go_enter Try.func22, Try.ntmps22
  go_wp2_with fail
  have HB1 := Aside0.mk (below_alloc (Below.refl w.heap.size w) (.cells #[.int .i64 size, .int .i64 ways, .slice A ws.length c] 62))
  refine (HC.out _ HB1.out).mono ?_
  rintro e w1 ⟨v1, rfl, ho, hb⟩
  have HO := Aside0.mk ho
  have HB2 := Aside0.mk hb
  have hblk : w1.heap[w.heap.size]? = some (.cells #[.int .i64 size, .int .i64 ways, .slice A ws.length c] 62 (0, 0)) := (hb.block w.heap.size (by simp)).trans (heap_alloc_new _ _)
  have HK := Aside0.mk hblk
  have hc3 := obj_cell (v := .slice A ws.length c) hblk 2 rfl
  have hfz := obj_free hblk 2
  obtain ⟨A1, c1, rfl, _, _⟩ := Kd.R_reads ho
  clear ho hb hblk
  go_wp2
  go_ret
  have hB : Below w.heap.size w w1 := below_then HB1.out (by simp) HB2.out
  exact ⟨_, rfl, ⟨Nat.le_refl _, obj_set HK.out 2 _, R_kept_t (flat_int _) (Kd.R_lower HO.out (by simp)) HK.out (by decide) (obj_grown _ _ _ _)⟩, hB.setCell (Nat.le_refl _) _⟩
theorem add_nil (w : World) (bs : List Int) : Calls Try.prog 15 #[.pointer none, .agg (nums .u8 bs).toArray] w fun e w' => e = .returned (.int .i64 1) ∧ Below w.heap.size w w' := by
  go_enter Try.func15, Try.ntmps15
  go_wp2
  go_ret
  exact ⟨rfl, below_alloc (below_alloc (Below.refl _ _) _) _⟩
theorem clear_nil (w : World) : Calls Try.prog 25 #[.pointer none] w fun e w' => e = .returned (.int .i64 1) ∧ w = w' := by
  go_enter Try.func25, Try.ntmps25
  go_wp2
  go_ret
  exact ⟨rfl, rfl⟩
theorem ones_nil (w : World) : Calls Try.prog 14 #[.pointer none] w fun e w' => e = .returned (.int .i64 0) ∧ w = w' := by
  go_enter Try.func14, Try.ntmps14
  go_wp2
  go_ret
  exact ⟨rfl, rfl⟩
theorem size_nil (w : World) : Calls Try.prog 19 #[.pointer none] w fun e w' => e = .returned (.int .i64 0) ∧ w = w' := by
  go_enter Try.func19, Try.ntmps19
  go_wp2
  go_ret
  exact ⟨rfl, rfl⟩
theorem fork_nil (w : World) : Calls Try.prog 22 #[.pointer none] w fun e w' => e = .returned (.pointer none) ∧ w = w' := by
  go_enter Try.func22, Try.ntmps22
  go_wp2
  go_ret
  exact ⟨rfl, rfl⟩
theorem merge_nil1 (w : World) (a : Option Addr) : Calls Try.prog 24 #[.pointer none, .pointer a] w fun e w' => e = .returned (.int .i64 1) ∧ w = w' := by
  go_enter Try.func24, Try.ntmps24
  go_wp2
  go_ret
  exact ⟨rfl, rfl⟩
theorem merge_nil2 (w : World) (a : Addr) : Calls Try.prog 24 #[.pointer (some a), .pointer none] w fun e w' => e = .returned (.int .i64 1) ∧ w = w' := by
  go_enter Try.func24, Try.ntmps24
  go_wp2
  go_ret
  exact ⟨rfl, rfl⟩
theorem merge_apart (w : World) (base g : Nat) (size ways : Int) (v : Value) (ws : List Int) (base2 g2 : Nat) (size2 ways2 : Int) (v2 : Value) (ws2 : List Int) (h : BF w base g size ways v ws) (h2 : BF w base2 g2 size2 ways2 v2 ws2) (hne : size ≠ size2) :
    Calls Try.prog 24 #[.pointer (some ⟨g, 0, none⟩), .pointer (some ⟨g2, 0, none⟩)] w fun e w' => e = .returned (.int .i64 2) ∧ ∃ n, w' = w.drewN n := by
  have a0 := obj_cell (v := .int .i64 size) h.blk 0 rfl
  have d0 := obj_cell (v := .int .i64 size2) h2.blk 0 rfl
  have hs : (size == size2) = false := by simpa using hne
  clear h h2
  go_enter Try.func24, Try.ntmps24
  go_wp2_with fail
  go_quiet (fail)
  go_wp2
  go_ret
  exact ⟨rfl, _, rfl⟩
end Go.Proofs.Ytnpcngnmjbhhaaa.BlR
