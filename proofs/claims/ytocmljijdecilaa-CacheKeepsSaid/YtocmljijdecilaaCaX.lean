/- The reference's cache: its row; New and Fork, walked; no condition but that it stands. -/
import Derived.Test.YtocmljijdecilaaCaV
namespace Go.Proofs.Ytocmljijdecilaa.CaX
open Go Go.RowKit Go.Proofs.YtocmljijdecilaaW.PrintWords Go.Proofs.Ytocmljijdecilaa.K Go.Proofs.Ytocmljijdecilaa.CaS Go.Proofs.Ytocmljijdecilaa.CaC Go.Proofs.Ytocmljijdecilaa.CaD Go.Proofs.Ytocmljijdecilaa.CaO
set_option linter.unusedVariables false
set_option linter.unusedSimpArgs false
structure Kr where
  bin : Int
  sa : Option Addr
  sn : Nat
  sc : Nat
instance : Inhabited Kr := ⟨⟨0, none, 0, 0⟩⟩
def Kr.cells (k : Kr) : List Value := [.int .i64 k.bin, .slice k.sa k.sn k.sc]
def dKr : Kd Kr := Kd.flatK 2 (fun _ => True) Kr.cells (fun _ _ => rfl) (fun x _ u hu => by
  simp [Kr.cells] at hu
  rcases hu with rfl | rfl <;> rfl)
theorem flat_kr : Flat dKr := Kd.flatK_flat _ _ _ _ _
theorem infoKr : (Try.prog.info? 80).map (fun i => (i.zero, i.size, i.bytes)) = some (some (.agg #[.int .i64 0, .slice none 0 0]), 2, 32) := by kernel_rfl
/-- The reference's struct block g, and the row that it holds. -/
def Cr (w : World) (T : Nat → Prop) (g : Nat) (room : Int) (ts : List Kr) : Prop :=
  ∃ A c, w.heap[g]? = some (.cells #[.int .i64 room, .slice A ts.length c] 62 (0, 0)) ∧ dKr.C w A ts.length ts ∧ ts.length ≤ c ∧ ∀ a, A = some a → a.block < w.heap.size ∧ ¬ T a.block
theorem rnew_no (room : Int) (h : room < 1 ∨ 256 < room) (w : World) : Calls Try.prog 9 #[.int .i64 room] w fun e w' => e = .returned (.tuple #[.pointer none, .int .i64 2]) ∧ w' = w := by
  by_cases h1 : room < 1
  · have d1 : decide (room < 1) = true := by simpa using h1
    clear h h1
    go_enter Try.func9, Try.ntmps9
    go_wp2
    go_ret2
    exact ⟨rfl, rfl⟩
  · have d1 : decide (room < 1) = false := by simpa using h1
    have d2 : decide (256 < room) = true := by simp; omega
    clear h h1
    go_enter Try.func9, Try.ntmps9
    go_wp2
    go_ret2
    exact ⟨rfl, rfl⟩
theorem rnew_ok (room : Int) (h0 : 1 ≤ room) (h1 : room ≤ 256) (w : World) : Calls Try.prog 9 #[.int .i64 room] w fun e w' => e = .returned (.tuple #[.pointer (some ⟨w.heap.size, 0, none⟩), .int .i64 0]) ∧ w' = w.alloc (.cells #[.int .i64 room, .slice none 0 0] 62) := by
  have d1 : decide (room < 1) = false := by simp; omega
  have d2 : decide (256 < room) = false := by simp; omega
  clear h0 h1
  go_enter Try.func9, Try.ntmps9
  go_wp2
  go_ret2
  exact ⟨rfl, rfl⟩
theorem cr_new (w : World) (T : Nat → Prop) (room : Int) : Cr (w.alloc (.cells #[.int .i64 room, .slice none 0 0] 62)) T w.heap.size room [] :=
  ⟨none, 0, heap_alloc_new _ _, ⟨rfl, by decide, fun h => absurd h (Nat.lt_irrefl 0)⟩, Nat.le_refl _, fun a ha => by cases ha⟩
end Go.Proofs.Ytocmljijdecilaa.CaX
