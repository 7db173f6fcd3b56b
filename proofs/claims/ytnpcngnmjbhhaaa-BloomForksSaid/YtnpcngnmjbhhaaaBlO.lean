/- math/bits.OnesCount64 counts a word's ones. -/
import Derived.Test.YtnpcngnmjbhhaaaBlV
import Derived.Test.YtnpcngnmjbhhaaaK
namespace Go.Proofs.Ytnpcngnmjbhhaaa.BlO
open Go Go.RowKit Go.Proofs.YtnpcngnmjbhhaaaW.PrintWords Go.Proofs.Ytnpcngnmjbhhaaa.K Go.Proofs.Ytnpcngnmjbhhaaa.BlW Go.Proofs.Ytnpcngnmjbhhaaa.BlV
set_option linter.unusedVariables false
theorem u64_in (n : Nat) (h : n < 18446744073709551616) : IntKind.u64.wrap (n : Int) = (n : Int) := by
  have : (IntKind.u64.wrap (n : Int)) = (n : Int) % 18446744073709551616 := rfl
  omega
theorem count_facts (x : Nat) (hx : x < 18446744073709551616) : ∃ u1 u2 y v1 v2 z t q q1 q2 q3 : Nat,
    bits .and .u64 ((x : Int) / 2) 6148914691236517205 = (u1 : Int) ∧ bits .and .u64 (x : Int) 6148914691236517205 = (u2 : Int) ∧ IntKind.u64.wrap ((u1 : Int) + (u2 : Int)) = (y : Int) ∧
    bits .and .u64 ((y : Int) / 4) 3689348814741910323 = (v1 : Int) ∧ bits .and .u64 (y : Int) 3689348814741910323 = (v2 : Int) ∧ IntKind.u64.wrap ((v1 : Int) + (v2 : Int)) = (z : Int) ∧
    IntKind.u64.wrap ((z : Int) / 16 + (z : Int)) = (t : Int) ∧ bits .and .u64 (t : Int) 1085102592571150095 = (q : Int) ∧
    IntKind.u64.wrap ((q : Int) + (q : Int) / 256) = (q1 : Int) ∧ IntKind.u64.wrap ((q1 : Int) + (q1 : Int) / 65536) = (q2 : Int) ∧ IntKind.u64.wrap ((q2 : Int) + (q2 : Int) / 4294967296) = (q3 : Int) ∧
    IntKind.i64.wrap (q3 : Int) = (q3 : Int) ∧ bits .and .i64 (q3 : Int) 127 = ((bc x 64 : Nat) : Int) := by
  obtain ⟨h1, h2, h3⟩ := bytesOf_spec 8 x (by have : (256 : Nat) ^ 8 = 18446744073709551616 := by decide
                                              omega)
  obtain ⟨y, z, hy, ly, hz, lz, hq⟩ := steps (BlV.bytesOf x 8) h2 h3
  obtain ⟨q1, q2, q3, e1, l1, e2, l2, e3, l3, e4⟩ := folds ((BlV.bytesOf x 8).map (fun d => bc d 8)) (by simp [h2]) (fun p hp => by obtain ⟨d, _, rfl⟩ := List.mem_map.1 hp; exact bc_le d 8)
  have hb := bc_bytes (BlV.bytesOf x 8) h3
  rw [h2, h1] at hb
  rw [h1] at hy
  have d2 : ∀ n : Nat, ((n : Int) / 2) = ((n / 2 : Nat) : Int) := fun n => rfl
  have d4 : ∀ n : Nat, ((n : Int) / 4) = ((n / 4 : Nat) : Int) := fun n => rfl
  have hu2 : (x &&& 6148914691236517205) < 18446744073709551616 := Nat.lt_of_le_of_lt Nat.and_le_left hx
  have hv2 : (y &&& 3689348814741910323) < 18446744073709551616 := Nat.lt_of_le_of_lt Nat.and_le_left ly
  refine ⟨(x / 2) &&& 6148914691236517205, x &&& 6148914691236517205, y, (y / 4) &&& 3689348814741910323, y &&& 3689348814741910323, z, z / 16 + z, fb ((BlV.bytesOf x 8).map (fun d => bc d 8)), q1, q2, q3,
    ?_, ?_, ?_, ?_, ?_, ?_, ?_, ?_, ?_, ?_, ?_, ?_, ?_⟩
  · rw [d2]; exact bits_and_u64_nat (x / 2) 6148914691236517205 (by omega) (by decide)
  · exact bits_and_u64_nat x 6148914691236517205 hx (by decide)
  · rw [← Int.natCast_add, hy]; exact u64_in y ly
  · rw [d4]; exact bits_and_u64_nat (y / 4) 3689348814741910323 (by omega) (by decide)
  · exact bits_and_u64_nat y 3689348814741910323 ly (by decide)
  · rw [← Int.natCast_add, hz]; exact u64_in z (by omega)
  · exact u64_in (z / 16 + z) lz
  · rw [← hq]; exact bits_and_u64_nat (z / 16 + z) 1085102592571150095 lz (by decide)
  · have := u64_in q1 l1
    rw [← e1] at this ⊢
    exact this
  · have := u64_in q2 l2
    rw [← e2] at this ⊢
    exact this
  · have := u64_in q3 (by omega)
    rw [← e3] at this ⊢
    exact this
  · exact IntWalk.i64_in _ (by omega)
  · have h5 := (bits_nat .i64 63 (by decide) (fun n h0 h1 => by rw [IntKind.wrap_i64]; omega) q3 127 (by omega) (by decide)).1
    rw [show ((127 : Nat) : Int) = (127 : Int) from rfl] at h5
    rw [h5, show (127 : Nat) = 2 ^ 7 - 1 from rfl, Nat.and_two_pow_sub_one_eq_mod, show (2 : Nat) ^ 7 = 128 from rfl, e4, ← hb]
theorem ones_calls (x : Nat) (hx : x < 18446744073709551616) (w : World) : Calls Try.prog 30 #[.int .u64 x] w fun e w' => e = .returned (.int .i64 (bc x 64)) ∧ w = w' := by
  obtain ⟨u1, u2, y, v1, v2, z, t, q, q1, q2, q3, a1, a2, a3, a4, a5, a6, a7, a8, a9, a10, a11, a12, a13⟩ := count_facts x hx
  generalize bc x 64 = r at *
  go_enter Try.func30, Try.ntmps30
  go_wp2
  go_ret
  exact ⟨rfl, rfl⟩
end Go.Proofs.Ytnpcngnmjbhhaaa.BlO
