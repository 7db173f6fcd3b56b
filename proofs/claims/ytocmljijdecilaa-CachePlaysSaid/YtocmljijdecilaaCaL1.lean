/- The laws CacheNew and CachePlays; condition: each deed reads as it should. -/
import Derived.Test.YtocmljijdecilaaCaLv
namespace Go.Proofs.Ytocmljijdecilaa.CaL1
open Go Go.RowKit Go.Proofs.YtocmljijdecilaaW.PrintWords Go.Proofs.Ytocmljijdecilaa.K Go.Proofs.Ytocmljijdecilaa.CaS Go.Proofs.Ytocmljijdecilaa.CaC Go.Proofs.Ytocmljijdecilaa.CaO Go.Proofs.Ytocmljijdecilaa.CaP Go.Proofs.Ytocmljijdecilaa.CaQ Go.Proofs.Ytocmljijdecilaa.CaR Go.Proofs.Ytocmljijdecilaa.CaX Go.Proofs.Ytocmljijdecilaa.CaM Go.Proofs.Ytocmljijdecilaa.CaN Go.Proofs.Ytocmljijdecilaa.CaDo Go.Proofs.Ytocmljijdecilaa.CaPy Go.Proofs.Ytocmljijdecilaa.CaLv
set_option linter.unusedVariables false
set_option linter.unusedSimpArgs false
theorem wf_u8 {x : Int} (h : (Lit.int .u8 x).wf = true) : ∃ p : Nat, x = p ∧ p ≤ 255 := by
  simp [Lit.wf, IntKind.min, IntKind.max, IntKind.signed, IntKind.bits] at h
  exact ⟨x.toNat, by omega, by omega⟩
theorem new_law (n : Int) (w : World) : Calls Try.prog 3 #[.int .i64 n] w fun e w' => e = .returned (.bool true) ∧ Below w.heap.size w w' := by
  by_cases h : 1 ≤ n ∧ n ≤ 256
  · obtain ⟨h1, h2⟩ := h
    have HB := Aside0.mk (below_alloc (below_alloc (Below.refl w.heap.size w) (.cells #[.int .i64 n, .slice none 0 0] 59)) (.cells #[.int .i64 n, .slice none 0 0] 62))
    go_enter Try.func3, Try.ntmps3
    go_wp2_with fail
    refine (new_ok n h1 h2 _).mono ?_
    rintro e W1 ⟨rfl, rfl⟩
    go_wp2_with fail
    refine (rnew_ok n h1 h2 _).mono ?_
    rintro e W2 ⟨rfl, rfl⟩
    go_wp2_with fail
    refine (live_calls _).mono ?_
    rintro e W3 ⟨rfl, hb3⟩
    have HB3 := Aside0.mk hb3
    clear hb3
    go_wp2
    go_ret
    exact ⟨rfl, below_then HB.out HB.out.size HB3.out⟩
  · have h0 : n < 1 ∨ 256 < n := by omega
    clear h
    go_enter Try.func3, Try.ntmps3
    go_wp2_with fail
    refine (new_no n h0 _).mono ?_
    rintro e W1 ⟨rfl, rfl⟩
    go_wp2_with fail
    refine (rnew_no n h0 _).mono ?_
    rintro e W2 ⟨rfl, rfl⟩
    go_wp2_with fail
    refine (live_calls _).mono ?_
    rintro e W3 ⟨rfl, hb3⟩
    have HB3 := Aside0.mk hb3
    clear hb3
    go_wp2
    go_ret
    exact ⟨rfl, HB3.out⟩
theorem new_row (n : Int) (w : World) (hn : (Lit.int .i64 n).wf = true) : Calls Try.prog 3 #[.int .i64 n] w fun e w' => e = .returned (.bool true) ∧ Below w.heap.size w w' := new_law n w
theorem plays_row (x : Int) (A : Option Addr) (k c : Nat) (ds : List Deed) (w : World) (hx : (Lit.int .u8 x).wf = true) (hs : DeedsC w A k ds) (hc : k ≤ c) : Calls Try.prog 4 #[.int .u8 x, .slice A k c] w fun e w' => e = .returned (.bool true) ∧ Below w.heap.size w w' := by
  obtain ⟨p, rfl, hp⟩ := wf_u8 hx
  have HPL := Aside0.mk (play_calls p hp _ rfl A k c ds w hs)
  clear hx hs hp
  go_enter Try.func4, Try.ntmps4
  go_wp2_with fail
  refine HPL.out.mono ?_
  rintro e W1 ⟨rfl, _, hB⟩
  have HB := Aside0.mk hB
  clear hB
  go_wp2_with fail
  refine (live_calls _).mono ?_
  rintro e W3 ⟨rfl, hb3⟩
  have HB3 := Aside0.mk hb3
  clear hb3
  go_wp2
  go_ret
  exact ⟨rfl, below_then HB.out HB.out.size HB3.out⟩
end Go.Proofs.Ytocmljijdecilaa.CaL1
