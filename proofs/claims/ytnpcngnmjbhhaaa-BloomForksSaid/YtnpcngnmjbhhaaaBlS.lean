/- Where a summary's bits are: the places of a sum, as plain functions; condition: the size is positive. -/
import Derived.Test.YtnpcngnmjbhhaaaOctS
namespace Go.Proofs.Ytnpcngnmjbhhaaa.BlS
open Go.Proofs.Ytnpcngnmjbhhaaa.OctS
/-- The j-th place. -/
def place (bs : List Int) (size : Nat) (j : Nat) : Nat := (val 0 (bs.take 6) + j * val 0 ((bs.drop 6).take 6)) % size
def pf (bs : List Int) (size : Nat) (h : 0 < size) (j : Nat) : Fin size := ⟨place bs size j, Nat.mod_lt _ h⟩
def pfs (bs : List Int) (size : Nat) (h : 0 < size) (ways : Nat) : List (Fin size) := (List.range ways).map (pf bs size h)
theorem pfs_len (bs : List Int) (size : Nat) (h : 0 < size) (ways : Nat) : (pfs bs size h ways).length = ways := by simp [pfs]
theorem pfs_succ (bs : List Int) (size : Nat) (h : 0 < size) (k : Nat) : pfs bs size h (k + 1) = pfs bs size h k ++ [pf bs size h k] := by simp [pfs, List.range_succ]
theorem place_zero (bs : List Int) (size : Nat) : place bs size 0 = val 0 (bs.take 6) % size := by simp [place]
theorem place_succ (bs : List Int) (size j : Nat) : place bs size (j + 1) = (place bs size j + val 0 ((bs.drop 6).take 6) % size) % size := by
  unfold place
  rw [Nat.add_mul, Nat.one_mul, ← Nat.add_assoc, Nat.add_mod]
theorem pfs_prefix (bs : List Int) (size : Nat) (h : 0 < size) (k ways : Nat) (hk : k ≤ ways) : pfs bs size h k <+: pfs bs size h ways := by
  unfold pfs
  refine List.IsPrefix.map _ ?_
  obtain ⟨m, rfl⟩ : ∃ m, ways = k + m := ⟨ways - k, by omega⟩
  exact ⟨(List.range m).map (k + ·), by rw [List.range_add]⟩
end Go.Proofs.Ytnpcngnmjbhhaaa.BlS
