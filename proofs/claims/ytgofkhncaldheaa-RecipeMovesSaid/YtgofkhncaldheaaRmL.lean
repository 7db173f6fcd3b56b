/- The law RecipeMoves, walked; condition: the refs and the moves read as lists. -/
import Derived.Test.YtgofkhncaldheaaRmB
namespace Go.Proofs.Ytgofkhncaldheaa.RmL
open Go Go.RowKit Go.Proofs.YtgofkhncaldheaaW.PrintWords Go.Proofs.Ytgofkhncaldheaa.K Go.Proofs.Ytgofkhncaldheaa.ReS Go.Proofs.Ytgofkhncaldheaa.ReR Go.Proofs.Ytgofkhncaldheaa.ReT Go.Proofs.Ytgofkhncaldheaa.ReK Go.Proofs.Ytgofkhncaldheaa.ReL Go.Proofs.Ytgofkhncaldheaa.ReE Go.Proofs.Ytgofkhncaldheaa.ReO Go.Proofs.Ytgofkhncaldheaa.Mp Go.Proofs.Ytgofkhncaldheaa.Eq Go.Proofs.Ytgofkhncaldheaa.RmS Go.Proofs.Ytgofkhncaldheaa.RmA Go.Proofs.Ytgofkhncaldheaa.RmB
set_option linter.unusedVariables false
set_option linter.unusedSimpArgs false
theorem mvR_keeps (ms : List Mv) (r : Ref) : (mvR ms r).s = r.s ∧ (mvR ms r).len = r.len := by
  unfold mvR
  split <;> exact ⟨rfl, rfl⟩
theorem wide_sum : Wide Try.prog 54 := ⟨⟨2, by omega, by kernel_rfl, by kernel_rfl⟩, by rw [Try.underlying54]⟩
theorem key_sum {s : List Int} (hn : s.length = 32) (hw : ∀ x ∈ s, (Lit.int .u8 x).wf = true) : ∃ l, keyOf Try.prog 54 (.agg (nums .u8 s).toArray) = some l := by
  obtain ⟨m, hm⟩ : ∃ m, Try.prog.types.size = m + 1 := ⟨Try.prog.types.size - 1, by kernel_rfl⟩
  obtain ⟨L, hL⟩ := lits_arr (P := Try.prog) (k := 54) (e := 5) (n := 32) Try.underlying54 Try.underlying5 (by kernel_rfl) (by kernel_rfl) m hn hw
  rw [show m + 2 = Try.prog.types.size + 1 from by omega] at hL
  show ∃ l, keyOf Try.prog 54 (.agg (nums .u8 s).toArray) = some l
  exact key_of_lits wide_sum (by kernel_rfl) (by rw [show (nums .u8 s).length = 32 by simp [nums, hn]]; kernel_rfl) hL
theorem infoSum : (Try.prog.info? 54).map (·.size) = some 32 := by kernel_rfl
/-- A ref's sum and length, at a row's place. -/
theorem ref_parts {w : World} {ad : Addr} {r : Ref} (h : Hd.RangeA w ad r.cells) (ho : r.Ok) : Hd.RangeA w ad (nums .u8 r.s) ∧ w.cell? (ad.add 32) = some (.int .i64 r.len) := by
  refine ⟨fun j v hj => h j v ?_, h 32 _ (by have := Ref.cell_len ho; rwa [List.getElem?_toArray] at this)⟩
  show (nums .u8 r.s ++ _)[j]? = _
  rw [List.getElem?_append_left (List.getElem?_eq_some_iff.1 hj).1]
  exact hj
theorem infoMv : (Try.prog.info? 66).map (fun i => (i.zero, i.size, i.bytes)) = some (some (.agg #[.int .i64 0, .int .i64 0, .int .i64 0, .int .i64 0]), 4, 32) := by kernel_rfl
set_option maxRecDepth 100000 in
set_option maxHeartbeats 16000000 in
theorem moves_calls (A : Option Addr) (k c : Nat) (rs : List Ref) (B : Option Addr) (m c2 : Nat) (ms : List Mv) (w : World) (h : RefsC w A k rs) (hk : k * 56 ≤ 140737488351232) (hB : dMv.C w B m ms) (hmc : m ≤ c2) (hmx : m ≤ 9223372036854775807) :
    Calls Try.prog 6 #[.slice A k c, .slice B m c2] w fun e w' => e = .returned (.bool true) ∧ Below w.heap.size w w' := by
  by_cases hm : 100 < m
  · have h1 : decide ((100 : Int) < (m : Int)) = true := by simp; omega
    obtain ⟨hcut, hcut2⟩ := cutH dMv 51 66 Try.underlying51 infoMv B m c2 100 (by omega) hmc
    have hcut : ∀ W : World, (Instr.slice 51 (.slice B m c2) none (some (.int .i64 100)) none).run Try.prog W = .ok (.slice B 100 c2) W := hcut
    have HB' := Aside0.mk (hcut2 w ms hB)
    have HM' : Aside0 (100 ≤ 1000000) := ⟨by decide⟩
    clear hcut2
    have HMV := Aside0.mk (move_calls A k c rs B 100 c2 (ms.take 100) w h hk HB'.out HM'.out)
    have HRM := Aside0.mk (fun W (hW : Below w.heap.size w W) => rmove_calls A k c rs B 100 c2 (ms.take 100) W (h.below hW) hk (Kd.C_below HB'.out hW) HM'.out)
    have HLM : Aside0 ((rs.map (mvR (ms.take 100))).length = k) := ⟨by rw [List.length_map]; exact h.len⟩
    have HKM : Aside0 (k ≤ maxLen) := ⟨h.lim⟩
    have HSM := Aside0.mk (fun W A1 A2 c1 c2 (h1 : dRef.C W A1 k (rs.map (mvR (ms.take 100)))) (h2 : dRef.C W A2 k (rs.map (mvR (ms.take 100)))) => sameR_calls A1 A2 k c1 c2 (rs.map (mvR (ms.take 100))) W (refs_of_C h1 h.lim) (refs_of_C h2 h.lim))
    have H := Aside0.mk h
    have HL := Aside0.mk h.len
    have HUS := Aside0.mk Try.underlying54
    have hkm := h.lim
    unfold maxLen at hkm
    clear h hB HB'
    go_enter Try.func6, Try.ntmps6
    go_wp2_with (first
      | (go_at_call 24; (with_reducible refine (HMV.out).mono ?_); rintro e w' ⟨v1, rfl, ho1, hb1⟩; obtain ⟨A1, c1, rfl, _, hC1⟩ := Kd.R_reads ho1; rw [HLM.out] at hC1 ⊢; have HC1 := Aside0.mk hC1; have HB1 := Aside0.mk hb1; clear ho1 hb1 hC1 HMV)
      | (go_at_call 25; (with_reducible refine (HRM.out _ HB1.out).mono ?_); rintro e w' ⟨v2, rfl, ho2, hb2⟩; obtain ⟨A2, c2', rfl, _, hC2⟩ := Kd.R_reads ho2; rw [HLM.out] at hC2 ⊢; have HC2 := Aside0.mk hC2; have HC12 := Aside0.mk (Kd.C_below HC1.out hb2); have HB2 := Aside0.mk (below_then HB1.out HB1.out.size hb2); clear ho2 hb2 hC2 HRM)
      | (go_at_call 23; (with_reducible refine (HSM.out _ _ _ _ _ HC12.out HC2.out).mono ?_); rintro e w' ⟨rfl, hb3⟩; have HC13 := Aside0.mk (Kd.C_below HC12.out hb3); have HB3 := Aside0.mk (below_then HB2.out HB2.out.size hb3); clear hb3 HSM))
    obtain ⟨w3, rfl⟩ : ∃ W : World, W = w' := ⟨_, rfl⟩
    go_loopg [9] (k + 1) (fun gk v9 wr => ∃ i : Nat, v9 = .int .i64 i ∧ i ≤ k ∧ Aside0 (gk = k - i + 1) ∧ Aside0 (Below w3.heap.size w3 wr))
    case atStart => exact ⟨0, rfl, Nat.zero_le _, ⟨rfl⟩, ⟨Below.refl _ _⟩⟩
    case round =>
      obtain ⟨i, rfl, hi, HG, HBr⟩ := hrel
      have HBw := Aside0.mk (below_then HB3.out HB3.out.size HBr.out)
      by_cases hlt : i < k
      · have h2 : decide ((i : Int) < (k : Int)) = true := by simp; omega
        have hR1 := refs_of_C (Kd.C_below HC13.out HBr.out) HKM.out
        have hR2 := H.out.below HBw.out
        obtain ⟨a1, rfl⟩ := hR1.is (by omega)
        obtain ⟨a2, rfl⟩ := hR2.is (by omega)
        have hp1 : (0 : Int) ≤ (i : Int) := by omega
        have hp2 : (i : Int) < (k : Int) := by omega
        have hg1 : (rs.map (mvR (ms.take 100))).getD i default = mvR (ms.take 100) (rs.getD i default) := by
          have : i < rs.length := by rw [HL.out]; exact hlt
          simp [this]
        have q1 := ref_parts (hR1.cells a1 rfl i hlt) (hR1.ok i hlt)
        have q2 := ref_parts (hR2.cells a2 rfl i hlt) (hR2.ok i hlt)
        have hok := hR2.ok i hlt
        rw [hg1, (mvR_keeps (ms.take 100) (rs.getD i default)).1, (mvR_keeps (ms.take 100) (rs.getD i default)).2] at q1
        clear hR1 hR2 hg1
        generalize rs.getD i default = r at *
        obtain ⟨lk, hkey⟩ := key_sum hok.n hok.wf
        have hne := fun W => neq_same wide_sum hkey W
        have HIS : Aside0 ((Try.prog.info? 54).map (·.size) = some (nums .u8 r.s).length) := ⟨by rw [infoSum]; simp [nums, hok.n]⟩
        clear hok hkey
        generalize nums .u8 r.s = N at *
        have hs0 : Hd.RangeA wr (a1.add (i * 35)) N ∧ wr.cell? ⟨(a1.add (i * 35)).block, (a1.add (i * 35)).off + 32, none⟩ = some (.int .i64 r.len) ∧ Hd.RangeA wr (a2.add (i * 35)) N ∧ wr.cell? ⟨(a2.add (i * 35)).block, (a2.add (i * 35)).off + 32, none⟩ = some (.int .i64 r.len) := ⟨q1.1, q1.2, q2.1, q2.2⟩
        generalize r.len = rl at *
        have HS0 := Aside0.mk hs0
        clear hs0 q1 q2
        go_wp2
        (refine Hd.startE (S := (fun W => Hd.RangeA W (a1.add (i * 35)) N ∧ W.cell? ⟨(a1.add (i * 35)).block, (a1.add (i * 35)).off + 32, none⟩ = some (.int .i64 rl) ∧ Hd.RangeA W (a2.add (i * 35)) N ∧ W.cell? ⟨(a2.add (i * 35)).block, (a2.add (i * 35)).off + 32, none⟩ = some (.int .i64 rl))) 1000 (by kernel_rfl) (HS0.out) (fun hHeld => ?_))
        (refine Hd.takeE (i := 0) (v := ?_) rfl rfl (by kernel_rfl) (by kernel_rfl) (by kernel_rfl) (by kernel_rfl) (fun _ _ _ h => h) (Or.inl ⟨by rfl, ?_⟩) (by assumption) ?_; rotate_left; (focus (intro wS hS; (try go_split_ands); go_simp; all_goals (with_reducible rfl))); simp only [List.set_cons_zero, List.set_cons_succ, List.setIfInBounds_toArray]); (refine Hd.takeE (i := 1) (v := ?_) rfl rfl (by kernel_rfl) (by kernel_rfl) (by kernel_rfl) (by kernel_rfl) (fun _ _ _ h => h) (Or.inl ⟨by rfl, ?_⟩) (by assumption) ?_; rotate_left; (focus (intro wS hS; (try go_split_ands); go_simp; all_goals (with_reducible rfl))); simp only [List.set_cons_zero, List.set_cons_succ, List.setIfInBounds_toArray]); (refine Hd.takeE (i := 2) (v := ?_) rfl rfl (by kernel_rfl) (by kernel_rfl) (by kernel_rfl) (by kernel_rfl) (fun _ _ _ h => h) (Or.inl ⟨by rfl, ?_⟩) (by assumption) ?_; rotate_left; (focus (intro wS hS; (try go_split_ands); go_simp; all_goals (with_reducible rfl))); simp only [List.set_cons_zero, List.set_cons_succ, List.setIfInBounds_toArray]); (refine Hd.takeE (i := 3) (v := ?_) rfl rfl (by kernel_rfl) (by kernel_rfl) (by kernel_rfl) (by kernel_rfl) (fun _ _ _ h => h) (Or.inl ⟨by rfl, ?_⟩) (by assumption) ?_; rotate_left; (focus (intro wS hS; (try go_split_ands); go_simp; all_goals (with_reducible rfl))); simp only [List.set_cons_zero, List.set_cons_succ, List.setIfInBounds_toArray])
        (refine Hd.takeE (i := 4) rfl rfl (by kernel_rfl) (by kernel_rfl) (by kernel_rfl) (by kernel_rfl) (fun _ _ _ h => h) (Hd.yieldsIf_load_any (by rfl) 54 _ rfl _ rfl N _ (fun wS hS => hS.1) HUS.out rfl HIS.out) (by assumption) ?_; simp only [List.set_cons_zero, List.set_cons_succ, List.setIfInBounds_toArray])
        (refine Hd.takeE (i := 5) (v := ?_) rfl rfl (by kernel_rfl) (by kernel_rfl) (by kernel_rfl) (by kernel_rfl) (fun _ _ _ h => h) (Or.inl ⟨by rfl, ?_⟩) (by assumption) ?_; rotate_left; (focus (intro wS hS; (try go_split_ands); go_simp; all_goals (with_reducible rfl))); simp only [List.set_cons_zero, List.set_cons_succ, List.setIfInBounds_toArray]); (refine Hd.takeE (i := 6) (v := ?_) rfl rfl (by kernel_rfl) (by kernel_rfl) (by kernel_rfl) (by kernel_rfl) (fun _ _ _ h => h) (Or.inl ⟨by rfl, ?_⟩) (by assumption) ?_; rotate_left; (focus (intro wS hS; (try go_split_ands); go_simp; all_goals (with_reducible rfl))); simp only [List.set_cons_zero, List.set_cons_succ, List.setIfInBounds_toArray]); (refine Hd.takeE (i := 7) (v := ?_) rfl rfl (by kernel_rfl) (by kernel_rfl) (by kernel_rfl) (by kernel_rfl) (fun _ _ _ h => h) (Or.inl ⟨by rfl, ?_⟩) (by assumption) ?_; rotate_left; (focus (intro wS hS; (try go_split_ands); go_simp; all_goals (with_reducible rfl))); simp only [List.set_cons_zero, List.set_cons_succ, List.setIfInBounds_toArray]); (refine Hd.takeE (i := 8) (v := ?_) rfl rfl (by kernel_rfl) (by kernel_rfl) (by kernel_rfl) (by kernel_rfl) (fun _ _ _ h => h) (Or.inl ⟨by rfl, ?_⟩) (by assumption) ?_; rotate_left; (focus (intro wS hS; (try go_split_ands); go_simp; all_goals (with_reducible rfl))); simp only [List.set_cons_zero, List.set_cons_succ, List.setIfInBounds_toArray])
        (refine Hd.takeE (i := 9) rfl rfl (by kernel_rfl) (by kernel_rfl) (by kernel_rfl) (by kernel_rfl) (fun _ _ _ h => h) (Hd.yieldsIf_load_any (by rfl) 54 _ rfl _ rfl N _ (fun wS hS => hS.2.2.1) HUS.out rfl HIS.out) (by assumption) ?_; simp only [List.set_cons_zero, List.set_cons_succ, List.setIfInBounds_toArray])
        (refine Hd.takeE (i := 10) (v := ?_) rfl rfl (by kernel_rfl) (by kernel_rfl) (by kernel_rfl) (by kernel_rfl) (fun _ _ _ h => h) (Or.inl ⟨by rfl, ?_⟩) (by assumption) ?_; rotate_left; (focus (intro wS hS; (try go_split_ands); go_simp; all_goals (with_reducible rfl))); simp only [List.set_cons_zero, List.set_cons_succ, List.setIfInBounds_toArray]); (refine Hd.takeE (i := 11) (v := ?_) rfl rfl (by kernel_rfl) (by kernel_rfl) (by kernel_rfl) (by kernel_rfl) (fun _ _ _ h => h) (Or.inl ⟨by rfl, ?_⟩) (by assumption) ?_; rotate_left; (focus (intro wS hS; (try go_split_ands); go_simp; all_goals (with_reducible rfl))); simp only [List.set_cons_zero, List.set_cons_succ, List.setIfInBounds_toArray]); (refine Hd.takeE (i := 12) (v := ?_) rfl rfl (by kernel_rfl) (by kernel_rfl) (by kernel_rfl) (by kernel_rfl) (fun _ _ _ h => h) (Or.inl ⟨by rfl, ?_⟩) (by assumption) ?_; rotate_left; (focus (intro wS hS; (try go_split_ands); go_simp; all_goals (with_reducible rfl))); simp only [List.set_cons_zero, List.set_cons_succ, List.setIfInBounds_toArray]); (refine Hd.takeE (i := 13) (v := ?_) rfl rfl (by kernel_rfl) (by kernel_rfl) (by kernel_rfl) (by kernel_rfl) (fun _ _ _ h => h) (Or.inl ⟨by rfl, ?_⟩) (by assumption) ?_; rotate_left; (focus (intro wS hS; (try go_split_ands); go_simp; all_goals (with_reducible rfl))); simp only [List.set_cons_zero, List.set_cons_succ, List.setIfInBounds_toArray]); (refine Hd.takeE (i := 14) (v := ?_) rfl rfl (by kernel_rfl) (by kernel_rfl) (by kernel_rfl) (by kernel_rfl) (fun _ _ _ h => h) (Or.inl ⟨by rfl, ?_⟩) (by assumption) ?_; rotate_left; (focus (intro wS hS; (try go_split_ands); go_simp; all_goals (with_reducible rfl))); simp only [List.set_cons_zero, List.set_cons_succ, List.setIfInBounds_toArray]); (refine Hd.takeE (i := 15) (v := ?_) rfl rfl (by kernel_rfl) (by kernel_rfl) (by kernel_rfl) (by kernel_rfl) (fun _ _ _ h => h) (Or.inl ⟨by rfl, ?_⟩) (by assumption) ?_; rotate_left; (focus (intro wS hS; (try go_split_ands); go_simp; all_goals (with_reducible rfl))); simp only [List.set_cons_zero, List.set_cons_succ, List.setIfInBounds_toArray]); (refine Hd.takeE (i := 16) (v := ?_) rfl rfl (by kernel_rfl) (by kernel_rfl) (by kernel_rfl) (by kernel_rfl) (fun _ _ _ h => h) (Or.inl ⟨by rfl, ?_⟩) (by assumption) ?_; rotate_left; (focus (intro wS hS; (try go_split_ands); go_simp; all_goals (with_reducible rfl))); simp only [List.set_cons_zero, List.set_cons_succ, List.setIfInBounds_toArray]); (refine Hd.takeE (i := 17) (v := ?_) rfl rfl (by kernel_rfl) (by kernel_rfl) (by kernel_rfl) (by kernel_rfl) (fun _ _ _ h => h) (Or.inl ⟨by rfl, ?_⟩) (by assumption) ?_; rotate_left; (focus (intro wS hS; (try go_split_ands); go_simp; all_goals (with_reducible rfl))); simp only [List.set_cons_zero, List.set_cons_succ, List.setIfInBounds_toArray]); (refine Hd.takeE (i := 18) (v := ?_) rfl rfl (by kernel_rfl) (by kernel_rfl) (by kernel_rfl) (by kernel_rfl) (fun _ _ _ h => h) (Or.inl ⟨by rfl, ?_⟩) (by assumption) ?_; rotate_left; (focus (intro wS hS; (try go_split_ands); go_simp; all_goals (with_reducible rfl))); simp only [List.set_cons_zero, List.set_cons_succ, List.setIfInBounds_toArray]); (refine Hd.takeE (i := 19) (v := ?_) rfl rfl (by kernel_rfl) (by kernel_rfl) (by kernel_rfl) (by kernel_rfl) (fun _ _ _ h => h) (Or.inl ⟨by rfl, ?_⟩) (by assumption) ?_; rotate_left; (focus (intro wS hS; (try go_split_ands); go_simp; all_goals (with_reducible rfl))); simp only [List.set_cons_zero, List.set_cons_succ, List.setIfInBounds_toArray]); (refine Hd.takeE (i := 20) (v := ?_) rfl rfl (by kernel_rfl) (by kernel_rfl) (by kernel_rfl) (by kernel_rfl) (fun _ _ _ h => h) (Or.inl ⟨by rfl, ?_⟩) (by assumption) ?_; rotate_left; (focus (intro wS hS; (try go_split_ands); go_simp; all_goals (with_reducible rfl))); simp only [List.set_cons_zero, List.set_cons_succ, List.setIfInBounds_toArray]); (refine Hd.takeE (i := 21) (v := ?_) rfl rfl (by kernel_rfl) (by kernel_rfl) (by kernel_rfl) (by kernel_rfl) (fun _ _ _ h => h) (Or.inl ⟨by rfl, ?_⟩) (by assumption) ?_; rotate_left; (focus (intro wS hS; (try go_split_ands); go_simp; all_goals (with_reducible rfl))); simp only [List.set_cons_zero, List.set_cons_succ, List.setIfInBounds_toArray]); (refine Hd.takeE (i := 22) (v := ?_) rfl rfl (by kernel_rfl) (by kernel_rfl) (by kernel_rfl) (by kernel_rfl) (fun _ _ _ h => h) (Or.inl ⟨by rfl, ?_⟩) (by assumption) ?_; rotate_left; (focus (intro wS hS; (try go_split_ands); go_simp; all_goals (with_reducible rfl))); simp only [List.set_cons_zero, List.set_cons_succ, List.setIfInBounds_toArray]); (refine Hd.takeE (i := 23) (v := ?_) rfl rfl (by kernel_rfl) (by kernel_rfl) (by kernel_rfl) (by kernel_rfl) (fun _ _ _ h => h) (Or.inl ⟨by rfl, ?_⟩) (by assumption) ?_; rotate_left; (focus (intro wS hS; (try go_split_ands); go_simp; all_goals (with_reducible rfl))); simp only [List.set_cons_zero, List.set_cons_succ, List.setIfInBounds_toArray])
        (refine Hd.endE (by kernel_rfl) ?_ _)
        go_wp2
        go_roundg (k - (i + 1) + 1)
        case measure => have := HG.out; omega
        case rel => exact ⟨i + 1, by go_num, by omega, ⟨rfl⟩, ⟨below_then HBr.out HBr.out.size (pw_below_drewN (Below.refl _ _) 1)⟩⟩
      · obtain rfl : i = k := by omega
        have h2 : decide ((i : Int) < (i : Int)) = false := by simp
        go_wp2_with (go_at_call 10; (with_reducible refine (live_calls _).mono ?_); rintro e w' ⟨rfl, hb4⟩; have HB4 := Aside0.mk (below_then HBw.out HBw.out.size hb4); clear hb4)
        go_ret
        exact ⟨rfl, HB4.out⟩
  · have h1 : decide ((100 : Int) < (m : Int)) = false := by simp; omega
    have HB' := Aside0.mk hB
    have HM' : Aside0 (m ≤ 1000000) := ⟨by omega⟩
    have HMV := Aside0.mk (move_calls A k c rs B m c2 ms w h hk HB'.out HM'.out)
    have HRM := Aside0.mk (fun W (hW : Below w.heap.size w W) => rmove_calls A k c rs B m c2 ms W (h.below hW) hk (Kd.C_below HB'.out hW) HM'.out)
    have HLM : Aside0 ((rs.map (mvR ms)).length = k) := ⟨by rw [List.length_map]; exact h.len⟩
    have HKM : Aside0 (k ≤ maxLen) := ⟨h.lim⟩
    have HSM := Aside0.mk (fun W A1 A2 c1 c2 (h1 : dRef.C W A1 k (rs.map (mvR ms))) (h2 : dRef.C W A2 k (rs.map (mvR ms))) => sameR_calls A1 A2 k c1 c2 (rs.map (mvR ms)) W (refs_of_C h1 h.lim) (refs_of_C h2 h.lim))
    have H := Aside0.mk h
    have HL := Aside0.mk h.len
    have HUS := Aside0.mk Try.underlying54
    have hkm := h.lim
    unfold maxLen at hkm
    clear h hB HB'
    go_enter Try.func6, Try.ntmps6
    go_wp2_with (first
      | (go_at_call 24; (with_reducible refine (HMV.out).mono ?_); rintro e w' ⟨v1, rfl, ho1, hb1⟩; obtain ⟨A1, c1, rfl, _, hC1⟩ := Kd.R_reads ho1; rw [HLM.out] at hC1 ⊢; have HC1 := Aside0.mk hC1; have HB1 := Aside0.mk hb1; clear ho1 hb1 hC1 HMV)
      | (go_at_call 25; (with_reducible refine (HRM.out _ HB1.out).mono ?_); rintro e w' ⟨v2, rfl, ho2, hb2⟩; obtain ⟨A2, c2', rfl, _, hC2⟩ := Kd.R_reads ho2; rw [HLM.out] at hC2 ⊢; have HC2 := Aside0.mk hC2; have HC12 := Aside0.mk (Kd.C_below HC1.out hb2); have HB2 := Aside0.mk (below_then HB1.out HB1.out.size hb2); clear ho2 hb2 hC2 HRM)
      | (go_at_call 23; (with_reducible refine (HSM.out _ _ _ _ _ HC12.out HC2.out).mono ?_); rintro e w' ⟨rfl, hb3⟩; have HC13 := Aside0.mk (Kd.C_below HC12.out hb3); have HB3 := Aside0.mk (below_then HB2.out HB2.out.size hb3); clear hb3 HSM))
    obtain ⟨w3, rfl⟩ : ∃ W : World, W = w' := ⟨_, rfl⟩
    go_loopg [9] (k + 1) (fun gk v9 wr => ∃ i : Nat, v9 = .int .i64 i ∧ i ≤ k ∧ Aside0 (gk = k - i + 1) ∧ Aside0 (Below w3.heap.size w3 wr))
    case atStart => exact ⟨0, rfl, Nat.zero_le _, ⟨rfl⟩, ⟨Below.refl _ _⟩⟩
    case round =>
      obtain ⟨i, rfl, hi, HG, HBr⟩ := hrel
      have HBw := Aside0.mk (below_then HB3.out HB3.out.size HBr.out)
      by_cases hlt : i < k
      · have h2 : decide ((i : Int) < (k : Int)) = true := by simp; omega
        have hR1 := refs_of_C (Kd.C_below HC13.out HBr.out) HKM.out
        have hR2 := H.out.below HBw.out
        obtain ⟨a1, rfl⟩ := hR1.is (by omega)
        obtain ⟨a2, rfl⟩ := hR2.is (by omega)
        have hp1 : (0 : Int) ≤ (i : Int) := by omega
        have hp2 : (i : Int) < (k : Int) := by omega
        have hg1 : (rs.map (mvR ms)).getD i default = mvR ms (rs.getD i default) := by
          have : i < rs.length := by rw [HL.out]; exact hlt
          simp [this]
        have q1 := ref_parts (hR1.cells a1 rfl i hlt) (hR1.ok i hlt)
        have q2 := ref_parts (hR2.cells a2 rfl i hlt) (hR2.ok i hlt)
        have hok := hR2.ok i hlt
        rw [hg1, (mvR_keeps ms (rs.getD i default)).1, (mvR_keeps ms (rs.getD i default)).2] at q1
        clear hR1 hR2 hg1
        generalize rs.getD i default = r at *
        obtain ⟨lk, hkey⟩ := key_sum hok.n hok.wf
        have hne := fun W => neq_same wide_sum hkey W
        have HIS : Aside0 ((Try.prog.info? 54).map (·.size) = some (nums .u8 r.s).length) := ⟨by rw [infoSum]; simp [nums, hok.n]⟩
        clear hok hkey
        generalize nums .u8 r.s = N at *
        have hs0 : Hd.RangeA wr (a1.add (i * 35)) N ∧ wr.cell? ⟨(a1.add (i * 35)).block, (a1.add (i * 35)).off + 32, none⟩ = some (.int .i64 r.len) ∧ Hd.RangeA wr (a2.add (i * 35)) N ∧ wr.cell? ⟨(a2.add (i * 35)).block, (a2.add (i * 35)).off + 32, none⟩ = some (.int .i64 r.len) := ⟨q1.1, q1.2, q2.1, q2.2⟩
        generalize r.len = rl at *
        have HS0 := Aside0.mk hs0
        clear hs0 q1 q2
        go_wp2
        (refine Hd.startE (S := (fun W => Hd.RangeA W (a1.add (i * 35)) N ∧ W.cell? ⟨(a1.add (i * 35)).block, (a1.add (i * 35)).off + 32, none⟩ = some (.int .i64 rl) ∧ Hd.RangeA W (a2.add (i * 35)) N ∧ W.cell? ⟨(a2.add (i * 35)).block, (a2.add (i * 35)).off + 32, none⟩ = some (.int .i64 rl))) 1000 (by kernel_rfl) (HS0.out) (fun hHeld => ?_))
        (refine Hd.takeE (i := 0) (v := ?_) rfl rfl (by kernel_rfl) (by kernel_rfl) (by kernel_rfl) (by kernel_rfl) (fun _ _ _ h => h) (Or.inl ⟨by rfl, ?_⟩) (by assumption) ?_; rotate_left; (focus (intro wS hS; (try go_split_ands); go_simp; all_goals (with_reducible rfl))); simp only [List.set_cons_zero, List.set_cons_succ, List.setIfInBounds_toArray]); (refine Hd.takeE (i := 1) (v := ?_) rfl rfl (by kernel_rfl) (by kernel_rfl) (by kernel_rfl) (by kernel_rfl) (fun _ _ _ h => h) (Or.inl ⟨by rfl, ?_⟩) (by assumption) ?_; rotate_left; (focus (intro wS hS; (try go_split_ands); go_simp; all_goals (with_reducible rfl))); simp only [List.set_cons_zero, List.set_cons_succ, List.setIfInBounds_toArray]); (refine Hd.takeE (i := 2) (v := ?_) rfl rfl (by kernel_rfl) (by kernel_rfl) (by kernel_rfl) (by kernel_rfl) (fun _ _ _ h => h) (Or.inl ⟨by rfl, ?_⟩) (by assumption) ?_; rotate_left; (focus (intro wS hS; (try go_split_ands); go_simp; all_goals (with_reducible rfl))); simp only [List.set_cons_zero, List.set_cons_succ, List.setIfInBounds_toArray]); (refine Hd.takeE (i := 3) (v := ?_) rfl rfl (by kernel_rfl) (by kernel_rfl) (by kernel_rfl) (by kernel_rfl) (fun _ _ _ h => h) (Or.inl ⟨by rfl, ?_⟩) (by assumption) ?_; rotate_left; (focus (intro wS hS; (try go_split_ands); go_simp; all_goals (with_reducible rfl))); simp only [List.set_cons_zero, List.set_cons_succ, List.setIfInBounds_toArray])
        (refine Hd.takeE (i := 4) rfl rfl (by kernel_rfl) (by kernel_rfl) (by kernel_rfl) (by kernel_rfl) (fun _ _ _ h => h) (Hd.yieldsIf_load_any (by rfl) 54 _ rfl _ rfl N _ (fun wS hS => hS.1) HUS.out rfl HIS.out) (by assumption) ?_; simp only [List.set_cons_zero, List.set_cons_succ, List.setIfInBounds_toArray])
        (refine Hd.takeE (i := 5) (v := ?_) rfl rfl (by kernel_rfl) (by kernel_rfl) (by kernel_rfl) (by kernel_rfl) (fun _ _ _ h => h) (Or.inl ⟨by rfl, ?_⟩) (by assumption) ?_; rotate_left; (focus (intro wS hS; (try go_split_ands); go_simp; all_goals (with_reducible rfl))); simp only [List.set_cons_zero, List.set_cons_succ, List.setIfInBounds_toArray]); (refine Hd.takeE (i := 6) (v := ?_) rfl rfl (by kernel_rfl) (by kernel_rfl) (by kernel_rfl) (by kernel_rfl) (fun _ _ _ h => h) (Or.inl ⟨by rfl, ?_⟩) (by assumption) ?_; rotate_left; (focus (intro wS hS; (try go_split_ands); go_simp; all_goals (with_reducible rfl))); simp only [List.set_cons_zero, List.set_cons_succ, List.setIfInBounds_toArray]); (refine Hd.takeE (i := 7) (v := ?_) rfl rfl (by kernel_rfl) (by kernel_rfl) (by kernel_rfl) (by kernel_rfl) (fun _ _ _ h => h) (Or.inl ⟨by rfl, ?_⟩) (by assumption) ?_; rotate_left; (focus (intro wS hS; (try go_split_ands); go_simp; all_goals (with_reducible rfl))); simp only [List.set_cons_zero, List.set_cons_succ, List.setIfInBounds_toArray]); (refine Hd.takeE (i := 8) (v := ?_) rfl rfl (by kernel_rfl) (by kernel_rfl) (by kernel_rfl) (by kernel_rfl) (fun _ _ _ h => h) (Or.inl ⟨by rfl, ?_⟩) (by assumption) ?_; rotate_left; (focus (intro wS hS; (try go_split_ands); go_simp; all_goals (with_reducible rfl))); simp only [List.set_cons_zero, List.set_cons_succ, List.setIfInBounds_toArray])
        (refine Hd.takeE (i := 9) rfl rfl (by kernel_rfl) (by kernel_rfl) (by kernel_rfl) (by kernel_rfl) (fun _ _ _ h => h) (Hd.yieldsIf_load_any (by rfl) 54 _ rfl _ rfl N _ (fun wS hS => hS.2.2.1) HUS.out rfl HIS.out) (by assumption) ?_; simp only [List.set_cons_zero, List.set_cons_succ, List.setIfInBounds_toArray])
        (refine Hd.takeE (i := 10) (v := ?_) rfl rfl (by kernel_rfl) (by kernel_rfl) (by kernel_rfl) (by kernel_rfl) (fun _ _ _ h => h) (Or.inl ⟨by rfl, ?_⟩) (by assumption) ?_; rotate_left; (focus (intro wS hS; (try go_split_ands); go_simp; all_goals (with_reducible rfl))); simp only [List.set_cons_zero, List.set_cons_succ, List.setIfInBounds_toArray]); (refine Hd.takeE (i := 11) (v := ?_) rfl rfl (by kernel_rfl) (by kernel_rfl) (by kernel_rfl) (by kernel_rfl) (fun _ _ _ h => h) (Or.inl ⟨by rfl, ?_⟩) (by assumption) ?_; rotate_left; (focus (intro wS hS; (try go_split_ands); go_simp; all_goals (with_reducible rfl))); simp only [List.set_cons_zero, List.set_cons_succ, List.setIfInBounds_toArray]); (refine Hd.takeE (i := 12) (v := ?_) rfl rfl (by kernel_rfl) (by kernel_rfl) (by kernel_rfl) (by kernel_rfl) (fun _ _ _ h => h) (Or.inl ⟨by rfl, ?_⟩) (by assumption) ?_; rotate_left; (focus (intro wS hS; (try go_split_ands); go_simp; all_goals (with_reducible rfl))); simp only [List.set_cons_zero, List.set_cons_succ, List.setIfInBounds_toArray]); (refine Hd.takeE (i := 13) (v := ?_) rfl rfl (by kernel_rfl) (by kernel_rfl) (by kernel_rfl) (by kernel_rfl) (fun _ _ _ h => h) (Or.inl ⟨by rfl, ?_⟩) (by assumption) ?_; rotate_left; (focus (intro wS hS; (try go_split_ands); go_simp; all_goals (with_reducible rfl))); simp only [List.set_cons_zero, List.set_cons_succ, List.setIfInBounds_toArray]); (refine Hd.takeE (i := 14) (v := ?_) rfl rfl (by kernel_rfl) (by kernel_rfl) (by kernel_rfl) (by kernel_rfl) (fun _ _ _ h => h) (Or.inl ⟨by rfl, ?_⟩) (by assumption) ?_; rotate_left; (focus (intro wS hS; (try go_split_ands); go_simp; all_goals (with_reducible rfl))); simp only [List.set_cons_zero, List.set_cons_succ, List.setIfInBounds_toArray]); (refine Hd.takeE (i := 15) (v := ?_) rfl rfl (by kernel_rfl) (by kernel_rfl) (by kernel_rfl) (by kernel_rfl) (fun _ _ _ h => h) (Or.inl ⟨by rfl, ?_⟩) (by assumption) ?_; rotate_left; (focus (intro wS hS; (try go_split_ands); go_simp; all_goals (with_reducible rfl))); simp only [List.set_cons_zero, List.set_cons_succ, List.setIfInBounds_toArray]); (refine Hd.takeE (i := 16) (v := ?_) rfl rfl (by kernel_rfl) (by kernel_rfl) (by kernel_rfl) (by kernel_rfl) (fun _ _ _ h => h) (Or.inl ⟨by rfl, ?_⟩) (by assumption) ?_; rotate_left; (focus (intro wS hS; (try go_split_ands); go_simp; all_goals (with_reducible rfl))); simp only [List.set_cons_zero, List.set_cons_succ, List.setIfInBounds_toArray]); (refine Hd.takeE (i := 17) (v := ?_) rfl rfl (by kernel_rfl) (by kernel_rfl) (by kernel_rfl) (by kernel_rfl) (fun _ _ _ h => h) (Or.inl ⟨by rfl, ?_⟩) (by assumption) ?_; rotate_left; (focus (intro wS hS; (try go_split_ands); go_simp; all_goals (with_reducible rfl))); simp only [List.set_cons_zero, List.set_cons_succ, List.setIfInBounds_toArray]); (refine Hd.takeE (i := 18) (v := ?_) rfl rfl (by kernel_rfl) (by kernel_rfl) (by kernel_rfl) (by kernel_rfl) (fun _ _ _ h => h) (Or.inl ⟨by rfl, ?_⟩) (by assumption) ?_; rotate_left; (focus (intro wS hS; (try go_split_ands); go_simp; all_goals (with_reducible rfl))); simp only [List.set_cons_zero, List.set_cons_succ, List.setIfInBounds_toArray]); (refine Hd.takeE (i := 19) (v := ?_) rfl rfl (by kernel_rfl) (by kernel_rfl) (by kernel_rfl) (by kernel_rfl) (fun _ _ _ h => h) (Or.inl ⟨by rfl, ?_⟩) (by assumption) ?_; rotate_left; (focus (intro wS hS; (try go_split_ands); go_simp; all_goals (with_reducible rfl))); simp only [List.set_cons_zero, List.set_cons_succ, List.setIfInBounds_toArray]); (refine Hd.takeE (i := 20) (v := ?_) rfl rfl (by kernel_rfl) (by kernel_rfl) (by kernel_rfl) (by kernel_rfl) (fun _ _ _ h => h) (Or.inl ⟨by rfl, ?_⟩) (by assumption) ?_; rotate_left; (focus (intro wS hS; (try go_split_ands); go_simp; all_goals (with_reducible rfl))); simp only [List.set_cons_zero, List.set_cons_succ, List.setIfInBounds_toArray]); (refine Hd.takeE (i := 21) (v := ?_) rfl rfl (by kernel_rfl) (by kernel_rfl) (by kernel_rfl) (by kernel_rfl) (fun _ _ _ h => h) (Or.inl ⟨by rfl, ?_⟩) (by assumption) ?_; rotate_left; (focus (intro wS hS; (try go_split_ands); go_simp; all_goals (with_reducible rfl))); simp only [List.set_cons_zero, List.set_cons_succ, List.setIfInBounds_toArray]); (refine Hd.takeE (i := 22) (v := ?_) rfl rfl (by kernel_rfl) (by kernel_rfl) (by kernel_rfl) (by kernel_rfl) (fun _ _ _ h => h) (Or.inl ⟨by rfl, ?_⟩) (by assumption) ?_; rotate_left; (focus (intro wS hS; (try go_split_ands); go_simp; all_goals (with_reducible rfl))); simp only [List.set_cons_zero, List.set_cons_succ, List.setIfInBounds_toArray]); (refine Hd.takeE (i := 23) (v := ?_) rfl rfl (by kernel_rfl) (by kernel_rfl) (by kernel_rfl) (by kernel_rfl) (fun _ _ _ h => h) (Or.inl ⟨by rfl, ?_⟩) (by assumption) ?_; rotate_left; (focus (intro wS hS; (try go_split_ands); go_simp; all_goals (with_reducible rfl))); simp only [List.set_cons_zero, List.set_cons_succ, List.setIfInBounds_toArray])
        (refine Hd.endE (by kernel_rfl) ?_ _)
        go_wp2
        go_roundg (k - (i + 1) + 1)
        case measure => have := HG.out; omega
        case rel => exact ⟨i + 1, by go_num, by omega, ⟨rfl⟩, ⟨below_then HBr.out HBr.out.size (pw_below_drewN (Below.refl _ _) 1)⟩⟩
      · obtain rfl : i = k := by omega
        have h2 : decide ((i : Int) < (i : Int)) = false := by simp
        go_wp2_with (go_at_call 10; (with_reducible refine (live_calls _).mono ?_); rintro e w' ⟨rfl, hb4⟩; have HB4 := Aside0.mk (below_then HBw.out HBw.out.size hb4); clear hb4)
        go_ret
        exact ⟨rfl, HB4.out⟩
theorem moves_row (A : Option Addr) (k c : Nat) (rs : List Ref) (B : Option Addr) (m c2 : Nat) (ms : List Mv) (w : World) (h : RefsC w A k rs) (_ : k ≤ c) (hk : k * 56 ≤ 140737488351232) (hB : dMv.C w B m ms) (hmc : m ≤ c2) (hmx : m ≤ maxLen) :
    Calls Try.prog 6 #[.slice A k c, .slice B m c2] w fun e w' => e = .returned (.bool true) ∧ Below w.heap.size w w' :=
  moves_calls A k c rs B m c2 ms w h hk hB hmc (by unfold maxLen at hmx; omega)
end Go.Proofs.Ytgofkhncaldheaa.RmL
