/- The iterator over a sum's places hands each place to the loop's body, in order; condition: its captured variables lie in blocks of their own. -/
import Derived.Test.YtnpcngnmjbhhaaaOTF
import Derived.Test.YtnpcngnmjbhhaaaBlS
import Derived.RangeFuncNested
import Derived.RangeFuncBound
import Derived.RangeFuncCalls
import Derived.RangeFuncLeaves
import Derived.Shelf.Abstract
import Derived.Shelf.RegionOpen
import Derived.WalkKit
import Derived.OwnWalkIn
import Derived.TacticsInMore
import Derived.LoopNIn
import Derived.LoopIn
namespace Go.Proofs.Ytnpcngnmjbhhaaa.BlP
open Go Go.RowKit Go.Proofs.YtnpcngnmjbhhaaaW.PrintWords Go.Proofs.Ytnpcngnmjbhhaaa.K Go.Proofs.Ytnpcngnmjbhhaaa.OctS Go.Proofs.Ytnpcngnmjbhhaaa.BlS Go.Proofs.Ytnpcngnmjbhhaaa.Oct
set_option linter.unusedVariables false
attribute [local go_sem] Oper.semAt_some
/-- A number of six bytes. -/
theorem take6 (r : List Int) (h : r.length = 6) (hb : Bytes r) : takeFixed r 0 6 = ((val 0 r : Int), 6, 0) := by
  have hv := val_lt r 0 0 hb (by decide)
  rw [h] at hv
  have e : (r.drop (0 : Int).toNat).take (6 : Int).toNat = r := by
    show (r.drop 0).take 6 = r
    rw [List.drop_zero, List.take_of_length_le (by omega)]
  rw [takeFixed_ok _ _ _ (by omega) (by omega) (by rw [e]; have : (256 : Nat) ^ (0 + 6) = 281474976710656 := by decide
                                                   omega), e]
  rfl
theorem take_both (W : World) (Bs : Nat) (bs : List Int) (hbs : Bytes bs) (hC : Kd.C (Kd.int .u8) W (some ⟨Bs, 0, none⟩) 32 bs) :
    Calls Try.prog 37 #[.slice (some ⟨Bs, 0, none⟩) 6 32, .int .i64 0, .int .i64 6] W (fun e w' => e = .returned (.tuple #[.int .i64 (val 0 (bs.take 6)), .int .i64 6, .int .i64 0]) ∧ W = w') ∧
    Calls Try.prog 37 #[.slice (some ⟨Bs, 6, none⟩) 6 26, .int .i64 0, .int .i64 6] W (fun e w' => e = .returned (.tuple #[.int .i64 (val 0 ((bs.drop 6).take 6)), .int .i64 6, .int .i64 0]) ∧ W = w') := by
  have hl : bs.length = 32 := hC.1
  have hC' : Kd.C (Kd.int .u8) W (some ⟨Bs, 0, none⟩) bs.length bs := by rw [hl]; exact hC
  have l1 : (bs.take 6).length = 6 := by rw [List.length_take, hl]; rfl
  have l2 : ((bs.drop 6).take 6).length = 6 := by rw [List.length_take, List.length_drop, hl]; rfl
  have c1 := Kd.C_take (m := 6) hC' (by omega)
  have c2 := Kd.C_drop (m := 6) (c := 32) hC' (by omega) (by omega)
  rw [if_neg (by decide)] at c2
  have c3 := Kd.C_take (m := 6) c2 (by rw [List.length_drop, hl]; decide)
  rw [l1] at c1
  rw [l2] at c3
  have t1 := takeFixed_calls _ 6 32 _ 0 6 W c1 (by decide) (hbs.take 6) (by decide)
  have t2 := takeFixed_calls _ 6 26 _ 0 6 W c3 (by decide) ((hbs.drop 6).take 6) (by decide)
  rw [take6 _ l1 (hbs.take 6)] at t1
  rw [take6 _ l2 ((hbs.drop 6).take 6)] at t2
  exact ⟨t1, t2⟩
set_option maxHeartbeats 2000000 in
theorem places1_in (n : Nat) (hn : 1 ≤ n) (l Bs Bz Bw : Nat) (bs : List Int) (size ways : Nat) (h0 : 0 < size) (hsz : size ≤ 65536) (hw : ways ≤ 8) (hbs : Bytes bs)
    (J Jx : List (Fin size) → World → Prop) (W : World) (hJ : AbidesFrom W.heap.size J)
    (hY : ∀ pre x W, J pre W → pre.length < ways → YieldAt Fence.wide (n - 1) Try.prog l #[.int .i64 ((x : Fin size).1 : Int)] W fun e W' =>
      (e = .returned (.bool true) ∧ J (pre ++ [x]) W' ∧ W'.cell? ⟨Bz, 0, none⟩ = W.cell? ⟨Bz, 0, none⟩) ∨ (e = .returned (.bool false) ∧ Jx (pre ++ [x]) W'))
    (hC : Kd.C (Kd.int .u8) W (some ⟨Bs, 0, none⟩) 32 bs) (hcz : W.cell? ⟨Bz, 0, none⟩ = some (.int .i64 size)) (hcw : W.cell? ⟨Bw, 0, none⟩ = some (.int .i64 ways)) (hJ0 : J [] W) :
    CallsIn Fence.wide n Try.prog 36 #[.func (.yield l) #[] #[], .pointer (some ⟨Bs, 0, none⟩), .pointer (some ⟨Bz, 0, none⟩), .pointer (some ⟨Bw, 0, none⟩)] W fun e W' => (∃ v, e = .returned v) ∧
      ((∃ ys, ys = pfs bs size h0 ways ∧ J ys W') ∨ (∃ pre, pre <+: pfs bs size h0 ways ∧ Jx pre W')) := by
  have HC := Aside0.mk hC
  clear hC
  refine callsIn_of_wp Try.func36 rfl trivial ?_ rfl
  simp only [Try.ntmps36, List.size_toArray, List.length_cons, List.length_nil, Nat.reduceAdd, Nat.reduceSub, Array.replicate_succ, Array.replicate_zero, List.push_toArray, List.append_toArray, List.nil_append, List.cons_append]
  obtain ⟨T1, T2⟩ := take_both W Bs bs hbs HC.out
  have T1 := Aside0.mk T1
  have T2 := Aside0.mk T2
  gi_wp2_with (refine ⟨trivial, ?_⟩; gi_at_call 37; (with_reducible refine (callsIn_wide.2 T1.out).mono ?_); clear T1; rintro e w' ⟨rfl, rfl⟩)
  gi_wp2_with (refine ⟨trivial, ?_⟩; gi_at_call 37; (with_reducible refine (callsIn_wide.2 T2.out).mono ?_); clear T2; rintro e w' ⟨rfl, rfl⟩)
  have hs0 : (0 : Int) < (size : Int) := by omega
  generalize hva : val 0 (bs.take 6) = a at *
  generalize hvb : val 0 ((bs.drop 6).take 6) = b at *
  gi_region
  have hJd : J [] W.drew := hJ [] W W.drew none hJ0 ⟨rfl, rfl, rfl, Nat.le_refl _, fun _ _ _ => rfl⟩ (fun r e => by cases e)
  gi_wp2
  gi_loopw [11, 32] (fun v11 v32 wr => ∃ k : Nat, v11 = .int .i64 (place bs size k : Nat) ∧ v32 = .int .i64 k ∧ k ≤ ways ∧ J (pfs bs size h0 k) wr ∧ wr.cell? ⟨Bz, 0, none⟩ = some (.int .i64 size))
    (fun v11 v32 wr => ways - (intOf v32).toNat)
  case atStart => exact ⟨0, by rw [place_zero, hva]; simp, rfl, Nat.zero_le _, hJd, hcz⟩
  case round =>
    obtain ⟨k, rfl, rfl, hk, hJs, hz1⟩ := hrel
    by_cases hlt : k < ways
    · have h1 : decide ((k : Int) < (ways : Int)) = true := by simp; omega
      have hpl : place bs size k < size := Nat.mod_lt _ h0
      obtain ⟨fn, tmps, assign, body, hy, hR⟩ := hY (pfs bs size h0 k) (pf bs size h0 k) wr hJs (by rw [pfs_len]; exact hlt)
      have hy' : (Instr.yield l #[.int .i64 ((place bs size k : Nat) : Int)]).run Try.prog wr = .ok (.round l fn tmps assign body) wr := hy
      clear hy
      gi_wp2
      refine hR.mono ?_
      rintro e W3 (⟨rfl, hJ3, hk3⟩ | ⟨rfl, hJx3⟩)
      · have hz3 : W3.cell? ⟨Bz, 0, none⟩ = some (.int .i64 size) := hk3.trans hz1
        have hbm : b % size < size := Nat.mod_lt _ h0
        gi_wp2
        go_roundw
        case rel => exact ⟨k + 1, by rw [place_succ, hvb]; go_num, by go_num, by omega, by rw [pfs_succ]; exact hJ3, hz3⟩
        case measure => simp [intOf]; omega
      · gi_wp2
        refine bodyPost_ret (results_none rfl _ _ _) rfl ?_
        exact ⟨⟨_, rfl⟩, .inr ⟨pfs bs size h0 k ++ [pf bs size h0 k], by rw [← pfs_succ]; exact pfs_prefix bs size h0 (k + 1) ways hlt, hJx3⟩⟩
    · obtain rfl : k = ways := by omega
      have h1 : decide ((k : Int) < (k : Int)) = false := by simp
      gi_wp2
      go_end0
      exact ⟨⟨_, rfl⟩, .inl ⟨_, rfl, hJs⟩⟩
end Go.Proofs.Ytnpcngnmjbhhaaa.BlP
