/- Plain laws of lists of places, and what two summaries of the program keep beside each other. -/
import Derived.Test.YtnpcngnmjbhhaaaBlX
import Derived.Test.YtnpcngnmjbhhaaaSums
namespace Go.Proofs.Ytnpcngnmjbhhaaa.BlY
open Go Go.RowKit Go.Proofs.YtnpcngnmjbhhaaaW.PrintWords Go.Proofs.Ytnpcngnmjbhhaaa.K Go.Proofs.Ytnpcngnmjbhhaaa.OctS Go.Proofs.Ytnpcngnmjbhhaaa.BlS Go.Proofs.Ytnpcngnmjbhhaaa.BlD Go.Proofs.Ytnpcngnmjbhhaaa.BlN Go.Proofs.Ytnpcngnmjbhhaaa.BlW Go.Proofs.Ytnpcngnmjbhhaaa.BlQ Go.Proofs.Ytnpcngnmjbhhaaa.BlL Go.Proofs.Ytnpcngnmjbhhaaa.BlX
set_option linter.unusedVariables false
theorem lay_app (on a b : List Int) : BlW.lay on (a ++ b) = BlW.lay (BlW.lay on a) b := by simp [BlW.lay]
theorem lay_same (on l : List Int) (h : ∀ p, p ∈ l → on.contains p = true) : BlW.lay on l = on := by
  induction l with
  | nil => rfl
  | cons p l ih =>
    have e : BlW.lay on (p :: l) = BlW.lay (put1 on p) l := rfl
    rw [e, put1, if_pos (h p (by simp))]
    exact ih (fun q hq => h q (by simp [hq]))
theorem lay_len (l : List Int) : ∀ on, (BlW.lay on l).length ≤ on.length + l.length := by
  induction l with
  | nil => intro on; exact Nat.le_refl _
  | cons p l ih =>
    intro on
    have e : BlW.lay on (p :: l) = BlW.lay (put1 on p) l := rfl
    have h1 : (put1 on p).length ≤ on.length + 1 := by unfold put1; split <;> simp
    rw [e]
    have := ih (put1 on p)
    simp only [List.length_cons]
    omega
theorem seg_congr (a b : List Int) (h : ∀ x, a.contains x = b.contains x) (k : Nat) : ∀ n, seg a k n = seg b k n
  | 0 => rfl
  | n + 1 => by
    show seg a k n + _ = seg b k n + _
    rw [seg_congr a b h k n, h]
theorem len_same {a b : List Int} {size : Nat} (ha : BlW.Good a size) (hb : BlW.Good b size) (h : ∀ x, a.contains x = b.contains x) : a.length = b.length := by
  rw [← seg_all a size ha.nd ha.lt, ← seg_all b size hb.nd hb.lt, seg_congr a b h]
theorem plL_good (bs : List Int) (size ways : Nat) (h : okF size ways) : ∀ p, p ∈ plL bs size ways → 0 ≤ p ∧ p < (size : Int) := by
  intro p hp
  unfold plL at hp
  rw [if_pos h] at hp
  obtain ⟨j, _, rfl⟩ := List.mem_map.1 hp
  have h0 : 0 < size := by unfold okF at h; omega
  have := Nat.mod_lt (val 0 (bs.take 6) + j * val 0 ((bs.drop 6).take 6)) h0
  unfold place
  simp only [Int.toNat_natCast]
  omega
theorem plL_ways (bs : List Int) (size ways : Nat) : (plL bs size ways).length ≤ ways := by
  unfold plL
  split
  · simp
  · simp
def fl (ls : List (List Int)) (size ways : Nat) : List Int := ls.flatMap (fun s => plL s size ways)
theorem fl_good (ls : List (List Int)) (size ways : Nat) (h : okF size ways) : BlW.Good (BlW.lay [] (fl ls size ways)) size :=
  good_lay _ (good_nil size) (fun p hp => by
    obtain ⟨s, _, hp⟩ := List.mem_flatMap.1 hp
    exact plL_good s size ways h p hp)
theorem fl_snoc (ls : List (List Int)) (s : List Int) (size ways : Nat) : BlW.lay [] (fl (ls ++ [s]) size ways) = BlW.lay (BlW.lay [] (fl ls size ways)) (plL s size ways) := by
  unfold fl
  rw [List.flatMap_append, lay_app]
  simp
theorem take_snoc' (ls : List (List Int)) (i : Nat) (h : i < ls.length) : ls.take (i + 1) = ls.take i ++ [ls.getD i []] := by
  rw [List.take_add_one]; simp [h]
theorem fl_mem (ls : List (List Int)) (size ways : Nat) (x : Int) : (BlW.lay [] (fl ls size ways)).contains x = (fl ls size ways).contains x := by
  rw [lay_contains]; simp
theorem fl_rev (ls : List (List Int)) (size ways : Nat) (x : Int) : (BlW.lay [] (fl ls.reverse size ways)).contains x = (BlW.lay [] (fl ls size ways)).contains x := by
  rw [fl_mem, fl_mem, Bool.eq_iff_iff, List.contains_iff_mem, List.contains_iff_mem]
  unfold fl
  simp [List.mem_flatMap]
theorem fl_has (ls : List (List Int)) (i : Nat) (h : i < ls.length) (size ways : Nat) : ∀ p, p ∈ plL (ls.getD i []) size ways → (BlW.lay [] (fl ls size ways)).contains p = true := by
  intro p hp
  rw [fl_mem, List.contains_iff_mem]
  unfold fl
  rw [List.mem_flatMap]
  refine ⟨ls.getD i [], ?_, hp⟩
  simp [h]
theorem all_has (l on : List Int) (h : ∀ p, p ∈ l → on.contains p = true) : l.all (fun p => on.contains p) = true := by
  rw [List.all_eq_true]; exact h
/-- A summary told from a lower world. -/
theorem bf_lower {w : World} {base base' g : Nat} {size ways : Int} {v : Value} {ws : List Int} (h : BF w base g size ways v ws) (hb : base' ≤ base) : BF w base' g size ways v ws := ⟨Nat.le_trans hb h.ge, h.blk, Kd.R_lower h.row hb⟩
/-- Another summary's words were written. -/
theorem bf_other {w w1 : World} {base g base2 g2 : Nat} {size ways size2 ways2 : Int} {v v2 : Value} {ws ws2 : List Int} (h : BF w base g size ways v ws) (h2 : BF w base2 g2 size2 ways2 v2 ws2) (hl : 0 < ws2.length) (hne : v2.ownBlock ≠ v.ownBlock) (hg : w.grownBy w1 v2.ownBlock) : BF w1 base g size ways v ws := by
  obtain ⟨b, c, cur, rfl, _, hh, _⟩ := row_form h2.row hl
  exact ⟨h.ge, bf_kept (v' := .slice none 0 0) (ws' := []) h hh (by decide) hg, R_kept_ne (flat_int .u64) h.row (fun e => hne e) hg⟩
theorem own_lt {w : World} {base g : Nat} {size ways : Int} {v : Value} {ws : List Int} (h : BF w base g size ways v ws) (k : Nat) (hk : v.ownBlock = some k) : k < w.heap.size := ((Kd.R_bound h.row).1 k hk).2.2.1
/-- What one of two writes leaves of the world ahead. -/
theorem below_own {W1 W W2 : World} {base g : Nat} {size ways : Int} {v : Value} {ws : List Int} (h : BF W base g size ways v ws) (hb : Below W1.heap.size W1 W) (hbase : W1.heap.size ≤ base) (hg : W.grownBy W2 v.ownBlock) : Below W1.heap.size W1 W2 := bf_grown h hb hbase hg
theorem apart_new {W W2 : World} {base g base2 g2 : Nat} {size ways size2 ways2 : Int} {v v2 : Value} {ws ws2 : List Int} (h : BF W base g size ways v ws) (h2 : BF W2 base2 g2 size2 ways2 v2 ws2) (hl : 0 < ws2.length) (hb : W.heap.size ≤ base2) : v2.ownBlock ≠ v.ownBlock := by
  obtain ⟨b, c, cur, rfl, hb2, _⟩ := row_form h2.row hl
  intro e
  have h3 := own_lt h b e.symm
  omega
end Go.Proofs.Ytnpcngnmjbhhaaa.BlY
