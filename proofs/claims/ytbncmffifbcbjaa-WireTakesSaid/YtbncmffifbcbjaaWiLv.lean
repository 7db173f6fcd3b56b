/- wire's live: it answers true. -/
import Derived.Test.YtbncmffifbcbjaaWiP
import Derived.Test.YtbncmffifbcbjaaWiS
namespace Go.Proofs.Ytbncmffifbcbjaa.WiLv
open Go Go.RowKit Go.Proofs.YtbncmffifbcbjaaW.PrintWords Go.Proofs.Ytbncmffifbcbjaa.K Go.Proofs.Ytbncmffifbcbjaa.OctS Go.Proofs.Ytbncmffifbcbjaa.OctP Go.Proofs.Ytbncmffifbcbjaa.Oct Go.Proofs.Ytbncmffifbcbjaa.Nm Go.Proofs.Ytbncmffifbcbjaa.Hl Go.Proofs.Ytbncmffifbcbjaa.WiA Go.Proofs.Ytbncmffifbcbjaa.WiB Go.Proofs.Ytbncmffifbcbjaa.WiD Go.Proofs.Ytbncmffifbcbjaa.WiE Go.Proofs.Ytbncmffifbcbjaa.WiF Go.Proofs.Ytbncmffifbcbjaa.Ap Go.Proofs.Ytbncmffifbcbjaa.WiT Go.Proofs.Ytbncmffifbcbjaa.WiR Go.Proofs.Ytbncmffifbcbjaa.WiU Go.Proofs.Ytbncmffifbcbjaa.WiP Go.Proofs.Ytbncmffifbcbjaa.WiS
set_option linter.unusedVariables false
set_option linter.unusedSimpArgs false
def nL : Nt := ⟨3, ⟨#[97]⟩, 1, 0, [], [], []⟩
def aL : Ads := ⟨none, 0, none, 0, none, 0⟩
def bL : List Int := [3, 1, 97, 1]
theorem put_live : putF nL = (0, bL) := by decide +kernel
theorem str_live : strOfNums [97] = ⟨#[97]⟩ := by kernel_rfl
theorem strb_live : strOfNums bL = ⟨#[3, 1, 97, 1]⟩ := by kernel_rfl
theorem check_live : checkF nL = 0 := by decide +kernel
theorem n1_live : numR bL ⟨0, 0⟩ = (3, ⟨1, 0⟩) := by kernel_rfl
theorem t_live : textR bL ⟨1, 0⟩ 32 = ([97], ⟨3, 0⟩) := by kernel_rfl
theorem n2_live : numR bL ⟨3, 0⟩ = (1, ⟨4, 0⟩) := by kernel_rfl
theorem ntc_live (w : World) : NtC w nL aL := ⟨by decide, ⟨rfl, Nat.zero_le _, fun h => absurd h (Nat.lt_irrefl 0)⟩, Nat.le_refl _, ⟨rfl, Nat.zero_le _, fun h => absurd h (Nat.lt_irrefl 0)⟩, Nat.le_refl _, ⟨rfl, Nat.zero_le _, fun h => absurd h (Nat.lt_irrefl 0)⟩, Nat.le_refl _, fun c hc => by simp [nL] at hc⟩
theorem take_live (A : Option Addr) (c : Nat) (w : World) (hG : Given w A c bL) : Calls Try.prog 12 #[.slice A 4 c] w fun e w' => e = .returned (.tuple #[.agg #[.int .i64 3, .string ⟨#[97]⟩, .int .i64 1, .int .i64 0, .slice none 0 0, .slice none 0 0, .slice none 0 0], .int .i64 0]) ∧ Below w.heap.size w w' := by
  have h := take_file A c bL w hG ⟨1, 0⟩ ⟨3, 0⟩ ⟨4, 0⟩ [97] 1 n1_live rfl t_live rfl n2_live rfl rfl (by rw [str_live]; decide) (by rw [str_live]; exact check_live)
  rw [str_live] at h
  exact h
set_option maxHeartbeats 2000000 in
theorem live_calls (w : World) : Calls Try.prog 7 #[] w fun e w' => e = .returned (.bool true) ∧ Below w.heap.size w w' := by
  have HP := Aside0.mk (put_calls nL aL w (ntc_live w))
  rw [put_live] at HP
  go_enter Try.func7, Try.ntmps7
  go_wp2_with fail
  refine HP.out.mono ?_
  rintro e w1 ⟨v, rfl, ho, hb⟩
  have HO := Aside0.mk ho
  have HB := Aside0.mk hb
  obtain ⟨A, c, hv⟩ := Kd.R_slice ho
  have hv2 : v = .slice A 4 c := hv
  clear hv
  subst hv2
  have HG : Aside0 (Given w1 A c bL) := ⟨(Kd.R_reads' ho).2.2, (Kd.R_reads' ho).2.1, by decide, by decide⟩
  clear ho hb
  have HT := Aside0.mk (take_live A c w1 HG.out)
  have hcv : ∀ W, Below w1.heap.size w1 W → (convert 25 9 (.slice A 4 c)).run Try.prog W = .ok (.string ⟨#[3, 1, 97, 1]⟩) W := fun W hW => conv_read (P := Try.prog) (c := c) 25 9 5 Try.underlying25 Try.underlying5 Try.underlying9 (Kd.C_below HG.out.C hW) strb_live
  have HC := Aside0.mk hcv
  clear hcv
  go_wp2_with fail
  refine HT.out.mono ?_
  rintro e w2 ⟨rfl, hb2⟩
  have HB2 := Aside0.mk (below_alloc hb2 (.cells #[.int .i64 3, .string ⟨#[97]⟩, .int .i64 1, .int .i64 0, .slice none 0 0, .slice none 0 0, .slice none 0 0] 27))
  have HB3 := Aside0.mk (below_then HB.out HB.out.size HB2.out)
  have hc1 := HC.out _ HB2.out
  clear hb2
  go_wp2_with fail
  go_ret
  exact ⟨rfl, HB3.out⟩
end Go.Proofs.Ytbncmffifbcbjaa.WiLv
