/- Where a byte of a file is, and the pieces of some bytes, as plain functions of the chunks' lengths. -/
namespace Go.Proofs.Ytkobolgbmfhpgaa.ReS
/-- The chunk in which a byte is, and where in it. -/
def findL : List Nat → Nat → Option (Nat × Nat)
  | [], _ => none
  | l :: ls, o => if o < l then some (0, o) else (findL ls (o - l)).map (fun p => (p.1 + 1, p.2))
/-- The pieces of n bytes from a byte on: chunk, place, how many. -/
def cutL : List Nat → Nat → Nat → Nat → List (Nat × Nat × Nat)
  | [], _, _, _ => []
  | l :: ls, i, o, n => if n = 0 then [] else if l ≤ o then cutL ls (i + 1) (o - l) n else (i, o, min n (l - o)) :: cutL ls (i + 1) 0 (n - min n (l - o))
def sumL (ls : List Nat) : Nat := ls.sum
theorem findL_none : ∀ (ls : List Nat) (o : Nat), ls.sum ≤ o → findL ls o = none
  | [], _, _ => rfl
  | l :: ls, o, h => by
    simp only [List.sum_cons] at h
    unfold findL
    rw [if_neg (by omega), findL_none ls (o - l) (by omega)]
    rfl
/-- The search's answer: it is the chunk whose beginning and end the byte stands between. -/
theorem findL_some : ∀ (ls : List Nat) (o i : Nat), (h : i < ls.length) → (ls.take i).sum ≤ o → o < (ls.take i).sum + ls[i] → findL ls o = some (i, o - (ls.take i).sum)
  | [], _, _, h, _, _ => by simp at h
  | l :: ls, o, 0, _, _, h2 => by
    simp at h2
    unfold findL
    rw [if_pos h2]
    simp
  | l :: ls, o, i + 1, h, h1, h2 => by
    simp only [List.take_succ_cons, List.sum_cons, List.getElem_cons_succ] at h1 h2 ⊢
    unfold findL
    rw [if_neg (by omega), findL_some ls (o - l) i (by simpa using h) (by omega) (by omega)]
    simp only [Option.map_some]
    congr 2
    omega
theorem cutL_none (ls : List Nat) (i o : Nat) : cutL ls i o 0 = [] := by
  cases ls <;> simp [cutL]
theorem cutL_past : ∀ (ls : List Nat) (i o n : Nat), ls.sum ≤ o → cutL ls i o n = []
  | [], _, _, _, _ => rfl
  | l :: ls, i, o, n, h => by
    simp only [List.sum_cons] at h
    unfold cutL
    by_cases hn : n = 0
    · rw [if_pos hn]
    · rw [if_neg hn, if_pos (by omega), cutL_past ls (i + 1) (o - l) n (by omega)]
/-- The pieces begin in the chunk in which the first byte is. -/
theorem cutL_from : ∀ (ls : List Nat) (i j o n : Nat), j ≤ ls.length → (ls.take j).sum ≤ o → cutL ls i o n = cutL (ls.drop j) (i + j) (o - (ls.take j).sum) n ∨ n = 0
  | ls, i, 0, o, n, _, _ => by simp
  | [], _, j + 1, _, _, h, _ => by simp at h
  | l :: ls, i, j + 1, o, n, h, h1 => by
    by_cases hn : n = 0
    · exact .inr hn
    · simp only [List.take_succ_cons, List.sum_cons] at h1
      have ih := cutL_from ls (i + 1) j (o - l) n (by simpa using h) (by omega)
      rcases ih with ih | ih
      · refine .inl ?_
        rw [show cutL (l :: ls) i o n = cutL ls (i + 1) (o - l) n from by show (if n = 0 then _ else if l ≤ o then _ else _) = _; rw [if_neg hn, if_pos (by omega)]]
        rw [ih]
        simp only [List.drop_succ_cons, List.take_succ_cons, List.sum_cons]
        rw [show i + 1 + j = i + (j + 1) from by omega, show o - l - (ls.take j).sum = o - (l + (ls.take j).sum) from by omega]
      · exact .inr ih
/-- The bytes of pieces: chunk and place. -/
def told (p : List (Nat × Nat × Nat)) : List (Nat × Nat) := p.flatMap (fun x => (List.range x.2.2).map (fun k => (x.1, x.2.1 + k)))
/-- All bytes of chunks, from number i on. -/
def allB : List Nat → Nat → List (Nat × Nat)
  | [], _ => []
  | l :: ls, i => (List.range l).map (fun k => (i, k)) ++ allB ls (i + 1)
theorem allB_cons (l : Nat) (ls : List Nat) (i : Nat) : allB (l :: ls) i = (List.range l).map (fun k => (i, k)) ++ allB ls (i + 1) := rfl
theorem allB_len : ∀ (ls : List Nat) (i : Nat), (allB ls i).length = ls.sum
  | [], _ => rfl
  | l :: ls, i => by simp [allB, allB_len ls (i + 1)]
/-- What pieces tell are the bytes that were asked for. -/
theorem told_cut : ∀ (ls : List Nat) (i o n : Nat), told (cutL ls i o n) = ((allB ls i).drop o).take n
  | [], _, _, _ => by simp [cutL, told, allB]
  | l :: ls, i, o, n => by
    unfold cutL
    by_cases hn : n = 0
    · subst hn; simp [told]
    · rw [if_neg hn]
      by_cases hl : l ≤ o
      · rw [if_pos hl, told_cut ls (i + 1) (o - l) n]
        have e0 : ((List.range l).map (fun k => (i, k))).drop o = [] := List.drop_of_length_le (by simpa using hl)
        rw [allB_cons, List.drop_append, e0, List.nil_append, List.length_map, List.length_range]
      · rw [if_neg hl]
        have ih := told_cut ls (i + 1) 0 (n - min n (l - o))
        have e : told ((i, o, min n (l - o)) :: cutL ls (i + 1) 0 (n - min n (l - o))) = (List.range (min n (l - o))).map (fun k => (i, o + k)) ++ told (cutL ls (i + 1) 0 (n - min n (l - o))) := by simp [told]
        rw [e, ih, List.drop_zero]
        rw [allB_cons, List.drop_append, List.take_append]
        have e1 : ((List.range l).map (fun k => (i, k))).drop o = (List.range (l - o)).map (fun k => (i, o + k)) := by
          refine List.ext_getElem (by simp) fun j h1 h2 => ?_
          simp
        rw [e1]
        simp only [List.length_map, List.length_range]
        have e2 : ((List.range (l - o)).map (fun k => (i, o + k))).take n = (List.range (min n (l - o))).map (fun k => (i, o + k)) := by
          rw [← List.map_take, List.take_range]
        rw [e2, show o - l = 0 from by omega, List.drop_zero]
        congr 2
        omega
/-- TWO CUTS SIDE BY SIDE tell what the cut of both tells. -/
theorem told_sides (ls : List Nat) (a b n : Nat) : told (cutL ls 0 a (b + n)) = told (cutL ls 0 a b) ++ told (cutL ls 0 (a + b) n) := by
  rw [told_cut, told_cut, told_cut, List.take_add, List.drop_drop]
theorem told_len (ls : List Nat) (a n : Nat) : (told (cutL ls 0 a n)).length = min n (ls.sum - a) := by
  rw [told_cut, List.length_take, List.length_drop, allB_len]
/-- No chunk stands in two pieces: their numbers rise. -/
theorem cut_rise : ∀ (ls : List Nat) (i o n : Nat), (∀ x, x ∈ cutL ls i o n → i ≤ x.1) ∧ (cutL ls i o n).Pairwise (fun x y => x.1 < y.1)
  | [], _, _, _ => by simp [cutL]
  | l :: ls, i, o, n => by
    unfold cutL
    by_cases hn : n = 0
    · rw [if_pos hn]; simp
    · rw [if_neg hn]
      by_cases hl : l ≤ o
      · rw [if_pos hl]
        obtain ⟨h1, h2⟩ := cut_rise ls (i + 1) (o - l) n
        exact ⟨fun x hx => by have := h1 x hx; omega, h2⟩
      · rw [if_neg hl]
        obtain ⟨h1, h2⟩ := cut_rise ls (i + 1) 0 (n - min n (l - o))
        refine ⟨fun x hx => ?_, List.pairwise_cons.2 ⟨fun x hx => by have := h1 x hx; show i < x.1; omega, h2⟩⟩
        rcases List.mem_cons.1 hx with rfl | hx
        · exact Nat.le_refl _
        · have := h1 x hx; omega
/-- A piece lies in its chunk. -/
theorem cut_in : ∀ (ls : List Nat) (i o n : Nat) (x : Nat × Nat × Nat), x ∈ cutL ls i o n → ∃ j l, x.1 = i + j ∧ ls[j]? = some l ∧ 1 ≤ x.2.2 ∧ x.2.1 + x.2.2 ≤ l
  | [], _, _, _, _, h => by simp [cutL] at h
  | l :: ls, i, o, n, x, h => by
    unfold cutL at h
    by_cases hn : n = 0
    · rw [if_pos hn] at h; simp at h
    · rw [if_neg hn] at h
      by_cases hl : l ≤ o
      · rw [if_pos hl] at h
        obtain ⟨j, l', h1, h2, h3⟩ := cut_in ls (i + 1) (o - l) n x h
        exact ⟨j + 1, l', by omega, by simpa using h2, h3⟩
      · rw [if_neg hl] at h
        rcases List.mem_cons.1 h with rfl | h
        · exact ⟨0, l, rfl, rfl, by show 1 ≤ min n (l - o); omega, by show o + min n (l - o) ≤ l; omega⟩
        · obtain ⟨j, l', h1, h2, h3⟩ := cut_in ls (i + 1) 0 _ x h
          exact ⟨j + 1, l', by omega, by simpa using h2, h3⟩
end Go.Proofs.Ytkobolgbmfhpgaa.ReS
