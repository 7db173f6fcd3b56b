/- What wire.Take computes: the note of bytes and the reading behind it; plain. -/
import Derived.Test.YtbncmffifbcbjaaWiV
namespace Go.Proofs.Ytbncmffifbcbjaa.WiM
open Go Go.RowKit Go.Proofs.YtbncmffifbcbjaaW.PrintWords Go.Proofs.Ytbncmffifbcbjaa.K Go.Proofs.Ytbncmffifbcbjaa.OctS Go.Proofs.Ytbncmffifbcbjaa.OctP Go.Proofs.Ytbncmffifbcbjaa.Oct Go.Proofs.Ytbncmffifbcbjaa.Ap Go.Proofs.Ytbncmffifbcbjaa.Hl Go.Proofs.Ytbncmffifbcbjaa.WiA Go.Proofs.Ytbncmffifbcbjaa.WiD Go.Proofs.Ytbncmffifbcbjaa.WiE Go.Proofs.Ytbncmffifbcbjaa.WiF Go.Proofs.Ytbncmffifbcbjaa.WiR Go.Proofs.Ytbncmffifbcbjaa.WiU Go.Proofs.Ytbncmffifbcbjaa.WiV
set_option linter.unusedVariables false
set_option linter.unusedSimpArgs false
theorem tk_zero (pl : Int) : ∀ (r : List Int) (i acc : Nat), (tk pl i acc r).2.2 ≠ 0 → (tk pl i acc r).1 = 0
  | [], _, _, _ => rfl
  | c :: r, i, acc, h => by
    unfold tk at h ⊢
    split
    · rfl
    · split
      · rename_i h1 h2
        rw [if_neg h1, if_pos h2] at h
        exact tk_zero pl r _ _ h
      · split
        · rfl
        · rename_i h1 h2 h3
          rw [if_neg h1, if_neg h2, if_neg h3] at h
          exact absurd rfl h
theorem takeNum_zero (l : List Int) (pl : Int) (h : (takeNum l pl).2.2 ≠ 0) : (takeNum l pl).1 = 0 := by
  unfold takeNum at h ⊢
  split
  · rfl
  · rename_i h1
    rw [if_neg h1] at h
    exact tk_zero _ _ _ _ h
theorem takeNum_in {l : List Int} (hb : Bytes l) (pl : Int) : 0 ≤ (takeNum l pl).1 ∧ (takeNum l pl).1 ≤ 9007199254740991 := by
  by_cases h : (takeNum l pl).2.2 = 0
  · have := takeNum_ok l pl hb h
    omega
  · rw [takeNum_zero l pl h]
    omega
theorem numR_in {b : List Int} (hb : Bytes b) (s : Rs) : 0 ≤ (numR b s).1 ∧ (numR b s).1 ≤ 9007199254740991 := by
  unfold numR
  split
  · exact takeNum_in hb _
  · simp
theorem wf_i64 {n : Int} (h1 : -9223372036854775808 ≤ n) (h2 : n ≤ 9223372036854775807) : (Lit.int .i64 n).wf = true := by
  show (decide (IntKind.i64.min ≤ n) && decide (n ≤ IntKind.i64.max)) = true
  rw [show IntKind.i64.min = -9223372036854775808 by decide, show IntKind.i64.max = 9223372036854775807 by decide]
  simp [h1, h2]
theorem wf_u8 {n : Int} (h : 0 ≤ n ∧ n ≤ 255) : (Lit.int .u8 n).wf = true := by
  show (decide (IntKind.u8.min ≤ n) && decide (n ≤ IntKind.u8.max)) = true
  rw [show IntKind.u8.min = 0 by decide, show IntKind.u8.max = 255 by decide]
  simp [h.1, h.2]
theorem numR_wf {b : List Int} (hb : Bytes b) (s : Rs) : (Lit.int .i64 (numR b s).1).wf = true := by
  have := numR_in hb s
  exact wf_i64 (by omega) (by omega)
/-- A reading stands within its bytes. -/
def In (b : List Int) (s : Rs) : Prop := 0 ≤ s.at_ ∧ s.at_ ≤ b.length
theorem In.must {b : List Int} {s : Rs} (h : In b s) (ok : Bool) (x : Int) : In b (mustR s ok x) := by
  unfold mustR
  split <;> exact h
theorem In.num {b : List Int} (hb : Bytes b) {s : Rs} (h : In b s) : In b (numR b s).2 := by
  unfold numR
  split
  · unfold goR
    by_cases he : (takeNum b s.at_).2.2 = 0
    · have := takeNum_ok b s.at_ hb he
      unfold In
      simp only [if_pos he]
      omega
    · unfold In
      simp only [if_neg he]
      exact h
  · exact h
theorem takeText_in {b : List Int} (hb : Bytes b) (pl most : Int) (he : (takeText b pl most).2.2 = 0) : 0 ≤ (takeText b pl most).2.1 ∧ (takeText b pl most).2.1 ≤ b.length ∧ ((takeText b pl most).1.length : Int) ≤ most := by
  by_cases h1 : (takeNum b pl).2.2 = 0
  · by_cases h2 : most < (takeNum b pl).1
    · rw [takeText_m b pl most h1 h2] at he; cases he
    · by_cases h3 : (b.length : Int) - (takeNum b pl).2.1 < (takeNum b pl).1
      · rw [takeText_s b pl most h1 h2 h3] at he; cases he
      · rw [takeText_o b pl most h1 h2 h3]
        have := takeNum_ok b pl hb h1
        refine ⟨by simp only; omega, by simp only; omega, ?_⟩
        simp only [List.length_drop, List.length_take]
        omega
  · rw [takeText_e b pl most h1] at he
    exact absurd he h1
theorem takeText_nil {b : List Int} (pl most : Int) (he : (takeText b pl most).2.2 ≠ 0) : (takeText b pl most).1 = [] := by
  by_cases h1 : (takeNum b pl).2.2 = 0
  · by_cases h2 : most < (takeNum b pl).1
    · rw [takeText_m b pl most h1 h2]
    · by_cases h3 : (b.length : Int) - (takeNum b pl).2.1 < (takeNum b pl).1
      · rw [takeText_s b pl most h1 h2 h3]
      · rw [takeText_o b pl most h1 h2 h3] at he
        exact absurd rfl he
  · rw [takeText_e b pl most h1]
theorem In.text {b : List Int} (hb : Bytes b) {s : Rs} (h : In b s) (most : Int) : In b (textR b s most).2 := by
  unfold textR
  split
  · unfold goR
    by_cases he : (takeText b s.at_ most).2.2 = 0
    · have := takeText_in hb s.at_ most he
      unfold In
      simp only [if_pos he]
      omega
    · unfold In
      simp only [if_neg he]
      exact h
  · exact h
theorem textR_len {b : List Int} (hb : Bytes b) (s : Rs) (most : Nat) : (textR b s most).1.length ≤ most := by
  unfold textR
  split
  · by_cases he : (takeText b s.at_ most).2.2 = 0
    · have := (takeText_in hb s.at_ most he).2.2
      simp only
      omega
    · simp only [takeText_nil _ _ he]
      simp
  · simp
theorem takeText_bytes {b : List Int} (hb : Bytes b) (pl most : Int) : Bytes (takeText b pl most).1 := by
  by_cases h1 : (takeText b pl most).2.2 = 0
  · by_cases h2 : (takeNum b pl).2.2 = 0
    · by_cases h3 : most < (takeNum b pl).1
      · rw [takeText_m b pl most h2 h3]; exact fun c hc => by cases hc
      · by_cases h4 : (b.length : Int) - (takeNum b pl).2.1 < (takeNum b pl).1
        · rw [takeText_s b pl most h2 h3 h4]; exact fun c hc => by cases hc
        · rw [takeText_o b pl most h2 h3 h4]
          exact (hb.take _).drop _
    · rw [takeText_e b pl most h2]; exact fun c hc => by cases hc
  · rw [takeText_nil _ _ h1]; exact fun c hc => by cases hc
theorem textR_bytes {b : List Int} (hb : Bytes b) (s : Rs) (most : Int) : Bytes (textR b s most).1 := by
  unfold textR
  split
  · exact takeText_bytes hb _ _
  · exact fun c hc => by cases hc
theorem In.many {b : List Int} (hb : Bytes b) {s : Rs} (h : In b s) (most : Int) : In b (manyR b s most).2 := (h.num hb).must _ _
theorem manyR_in {b : List Int} (hb : Bytes b) (s : Rs) (most : Int) (h0 : 0 ≤ most) : 0 ≤ (manyR b s most).1 ∧ (manyR b s most).1 ≤ most := by
  have h1 := numR_in hb s
  unfold manyR
  split
  · rename_i he
    refine ⟨h1.1, ?_⟩
    by_cases h : (numR b s).1 ≤ most
    · exact h
    · exfalso
      unfold mustR at he
      split at he
      · cases he
      · rename_i h2
        exact h2 ⟨he, by simpa using h⟩
  · exact ⟨Int.le_refl _, h0⟩
theorem sumR_in {b : List Int} {s : Rs} (h : In b s) : In b (sumR b s).2 ∧ ((sumR b s).1.length = 32) := by
  unfold sumR
  unfold In at h
  split
  · refine ⟨?_, ?_⟩
    · unfold In; simp only; omega
    · simp only [List.length_take, List.length_drop]; omega
  · exact ⟨h, rfl⟩
theorem sumR_bytes {b : List Int} (hb : Bytes b) (s : Rs) : Bytes (sumR b s).1 := by
  unfold sumR
  split
  · exact (hb.drop _).take _
  · intro c hc
    have := List.eq_of_mem_replicate hc
    omega
theorem In.part {b : List Int} (hb : Bytes b) {s : Rs} (h : In b s) : In b (partR b s).2 := (sumR_in h).1.num hb
theorem partR_ok {b : List Int} (hb : Bytes b) {s : Rs} (h : In b s) : (partR b s).1.Ok := ⟨(sumR_in h).2, fun x hx => wf_u8 (sumR_bytes hb s x hx), numR_wf hb _⟩
/-! The note, step by step. -/
def nZ : Nt := ⟨0, ⟨#[]⟩, 0, 0, [], [], []⟩
def sayS (b : List Int) : Nt × Rs := (⟨(numR b ⟨0, 0⟩).1, ⟨#[]⟩, 0, 0, [], [], []⟩, mustR (numR b ⟨0, 0⟩).2 (decide (1 ≤ (numR b ⟨0, 0⟩).1 ∧ (numR b ⟨0, 0⟩).1 ≤ 7)) 4)
def fileS (b : List Int) (t : Nt × Rs) : Nt × Rs := ({ t.1 with name := strOfNums (textR b t.2 32).1, gen := (numR b (textR b t.2 32).2).1 }, (numR b (textR b t.2 32).2).2)
def iS (b : List Int) (t : Nt × Rs) : Nt × Rs := ({ t.1 with i := (numR b t.2).1 }, (numR b t.2).2)
def heldS (b : List Int) (t : Nt × Rs) : Nt × Rs := ({ t.1 with held := t.1.held ++ [⟨strOfNums (textR b t.2 32).1, (numR b (textR b t.2 32).2).1⟩] }, (numR b (textR b t.2 32).2).2)
def partS (b : List Int) (t : Nt × Rs) : Nt × Rs := ({ t.1 with parts := t.1.parts ++ [(partR b t.2).1] }, (partR b t.2).2)
def bytesS (b : List Int) (t : Nt × Rs) : Nt × Rs := ({ t.1 with bytes := (textR b t.2 512).1 }, (textR b t.2 512).2)
def loopS (f : Nt × Rs → Nt × Rs) : Nat → Nt × Rs → Nt × Rs
  | 0, t => t
  | k + 1, t => if t.2.e = 0 then loopS f k (f t) else t
def listS (f : Nt × Rs → Nt × Rs) (b : List Int) (most : Int) (t : Nt × Rs) : Nt × Rs := loopS f (manyR b t.2 most).1.toNat (t.1, (manyR b t.2 most).2)
def sayOf (b : List Int) : Int := (numR b ⟨0, 0⟩).1
def s1 (b : List Int) : Nt × Rs := if hasF (sayOf b) then fileS b (sayS b) else sayS b
def s2 (b : List Int) : Nt × Rs := if hasI (sayOf b) then iS b (s1 b) else s1 b
def s3 (b : List Int) : Nt × Rs := if hasH (sayOf b) then listS (heldS b) b 64 (s2 b) else s2 b
def s4 (b : List Int) : Nt × Rs := if hasP (sayOf b) then listS (partS b) b 256 (s3 b) else s3 b
def s5 (b : List Int) : Nt × Rs := if hasB (sayOf b) then bytesS b (s4 b) else s4 b
def endS (b : List Int) (t : Nt × Rs) : Rs := mustR ⟨t.2.at_, if t.2.e = 0 then checkF t.1 else t.2.e⟩ (decide (t.2.at_ = b.length)) 4
def takeF (b : List Int) : Nt × Int := if (endS b (s5 b)).e = 0 then ((s5 b).1, 0) else (nZ, (endS b (s5 b)).e)
end Go.Proofs.Ytbncmffifbcbjaa.WiM
