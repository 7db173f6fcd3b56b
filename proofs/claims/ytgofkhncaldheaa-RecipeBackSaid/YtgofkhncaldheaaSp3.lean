/- The reference's Spots, walked; its spots are the program's; condition: the refs read as a list. -/
import Derived.Test.YtgofkhncaldheaaSp2
import Derived.Shelf.SlSortCmp.QuietGrown
namespace Go.Proofs.Ytgofkhncaldheaa.SpH
open Go Go.RowKit Go.Sort Go.Lib Go.Proofs.YtgofkhncaldheaaW.PrintWords Go.Proofs.Ytgofkhncaldheaa.K Go.Proofs.Ytgofkhncaldheaa.ReS Go.Proofs.Ytgofkhncaldheaa.ReR Go.Proofs.Ytgofkhncaldheaa.ReK Go.Proofs.Ytgofkhncaldheaa.RmS Go.Proofs.Ytgofkhncaldheaa.SpK Go.Proofs.Ytgofkhncaldheaa.SpC Go.Proofs.Ytgofkhncaldheaa.SpE Go.Proofs.Ytgofkhncaldheaa.SpF
set_option linter.unusedVariables false
set_option linter.unusedSimpArgs false
theorem ltS_irrefl (x : Sp) : ¬ ltS x x := by unfold ltS; omega
theorem ltS_trans {x y z : Sp} (h1 : ltS x y) (h2 : ltS y z) : ltS x z := by unfold ltS at *; omega
theorem ltS_tri (x y : Sp) : ltS x y ∨ x = y ∨ ltS y x := by
  unfold ltS
  by_cases h : x = y
  · exact Or.inr (Or.inl h)
  · have : ¬ (x.1 = y.1 ∧ x.2 = y.2) := fun e => h (Prod.ext e.1 e.2)
    omega
/-- How many of the list's first are less. -/
def pos : List Sp → Sp → Nat
  | [], _ => 0
  | x :: l, s => if ltS x s then pos l s + 1 else 0
theorem pos_le : ∀ (l : List Sp) (s : Sp), pos l s ≤ l.length
  | [], _ => Nat.le_refl _
  | x :: l, s => by
    unfold pos
    split
    · have := pos_le l s
      simp; omega
    · simp
theorem pos_lt : ∀ (l : List Sp) (s : Sp) (i : Nat) (h : i < l.length), i < pos l s → ltS l[i] s
  | [], _, _, h, _ => by simp at h
  | x :: l, s, 0, h, hp => by
    unfold pos at hp
    split at hp
    · assumption
    · omega
  | x :: l, s, i + 1, h, hp => by
    unfold pos at hp
    split at hp
    · exact pos_lt l s i (by simpa using h) (by omega)
    · omega
theorem pos_at : ∀ (l : List Sp) (s : Sp) (h : pos l s < l.length), ¬ ltS l[pos l s] s
  | [], _, h => by simp at h
  | x :: l, s, h => by
    by_cases hx : ltS x s
    · have e : pos (x :: l) s = pos l s + 1 := by rw [pos, if_pos hx]
      simp only [e, List.getElem_cons_succ]
      exact pos_at l s (by rw [e] at h; simpa using h)
    · have e : pos (x :: l) s = 0 := by rw [pos, if_neg hx]
      simp only [e, List.getElem_cons_zero]
      exact hx
/-- The loop's stop is pos. -/
theorem pos_is (l : List Sp) (s : Sp) (i : Nat) (hi : i ≤ l.length) (h1 : ∀ j (h : j < l.length), j < i → ltS l[j] s) (h2 : ∀ h : i < l.length, ¬ ltS l[i] s) : pos l s = i := by
  rcases Nat.lt_trichotomy (pos l s) i with h | h | h
  · have hl : pos l s < l.length := by omega
    exact absurd (h1 _ hl h) (pos_at l s hl)
  · exact h
  · have hl : i < l.length := by have := pos_le l s; omega
    exact absurd (pos_lt l s i hl h) (h2 hl)
def ins (l : List Sp) (s : Sp) : List Sp := if l[pos l s]? = some s then l else l.take (pos l s) ++ [s] ++ l.drop (pos l s)
def rspots (l : List Sp) : List Sp := l.foldl ins []
abbrev Inc (l : List Sp) : Prop := l.Pairwise ltS
theorem ins_mem (l : List Sp) (s p : Sp) : p ∈ ins l s ↔ p ∈ l ∨ p = s := by
  unfold ins
  by_cases h : l[pos l s]? = some s
  · rw [if_pos h]
    constructor
    · exact Or.inl
    · rintro (h1 | rfl)
      · exact h1
      · exact List.mem_of_getElem? h
  · rw [if_neg h]
    have e : l = l.take (pos l s) ++ l.drop (pos l s) := (List.take_append_drop _ _).symm
    constructor
    · intro hp
      rw [List.mem_append, List.mem_append, List.mem_singleton] at hp
      rcases hp with (h1 | h1) | h1
      · exact Or.inl (List.mem_of_mem_take h1)
      · exact Or.inr h1
      · exact Or.inl (List.mem_of_mem_drop h1)
    · rw [List.mem_append, List.mem_append, List.mem_singleton]
      rintro (hp | rfl)
      · rw [e, List.mem_append] at hp
        rcases hp with hp | hp
        · exact Or.inl (Or.inl hp)
        · exact Or.inr hp
      · exact Or.inl (Or.inr rfl)
theorem ins_inc (l : List Sp) (s : Sp) (h : Inc l) : Inc (ins l s) := by
  unfold ins
  by_cases hs : l[pos l s]? = some s
  · rw [if_pos hs]; exact h
  · rw [if_neg hs]
    have hlo : ∀ x, x ∈ l.take (pos l s) → ltS x s := fun x hx => by
      obtain ⟨j, hj, rfl⟩ := List.getElem_of_mem hx
      rw [List.length_take] at hj
      rw [List.getElem_take]
      exact pos_lt l s j (by omega) (by omega)
    have hhi : ∀ x, x ∈ l.drop (pos l s) → ltS s x := fun x hx => by
      obtain ⟨j, hj, rfl⟩ := List.getElem_of_mem hx
      rw [List.length_drop] at hj
      rw [List.getElem_drop]
      have hp : pos l s < l.length := by omega
      have h0 : ltS s l[pos l s] := by
        rcases ltS_tri s l[pos l s] with h1 | h1 | h1
        · exact h1
        · exact absurd (by rw [List.getElem?_eq_getElem hp, ← h1]) hs
        · exact absurd h1 (pos_at l s hp)
      by_cases hj0 : j = 0
      · subst hj0; exact h0
      · exact ltS_trans h0 (List.pairwise_iff_getElem.1 h _ _ hp (by omega) (by omega))
    refine List.pairwise_append.2 ⟨List.pairwise_append.2 ⟨h.sublist (List.take_sublist _ _), List.pairwise_singleton _ _, fun a ha b hb => ?_⟩, h.sublist (List.drop_sublist _ _), fun a ha b hb => ?_⟩
    · rw [List.mem_singleton] at hb
      subst hb
      exact hlo a ha
    · rw [List.mem_append, List.mem_singleton] at ha
      rcases ha with ha | rfl
      · exact ltS_trans (hlo a ha) (hhi b hb)
      · exact hhi b hb
theorem fold_ins : ∀ (l acc : List Sp), Inc acc → Inc (l.foldl ins acc) ∧ ∀ p, p ∈ l.foldl ins acc ↔ p ∈ acc ∨ p ∈ l
  | [], acc, h => ⟨h, fun p => by simp⟩
  | s :: l, acc, h => by
    obtain ⟨h1, h2⟩ := fold_ins l (ins acc s) (ins_inc acc s h)
    refine ⟨h1, fun p => ?_⟩
    rw [List.foldl_cons, h2, ins_mem, List.mem_cons]
    constructor
    · rintro ((h | h) | h)
      · exact Or.inl h
      · exact Or.inr (Or.inl h)
      · exact Or.inr (Or.inr h)
    · rintro (h | h | h)
      · exact Or.inl (Or.inl h)
      · exact Or.inl (Or.inr h)
      · exact Or.inr h
/-- Two increasing lists of the same members are one. -/
theorem inc_ext : ∀ (a b : List Sp), Inc a → Inc b → (∀ p, p ∈ a ↔ p ∈ b) → a = b
  | [], [], _, _, _ => rfl
  | [], y :: b, _, _, h => by have := (h y).2 (by simp); simp at this
  | x :: a, [], _, _, h => by have := (h x).1 (by simp); simp at this
  | x :: a, y :: b, ha, hb, h => by
    obtain ⟨ha1, ha2⟩ := List.pairwise_cons.1 ha
    obtain ⟨hb1, hb2⟩ := List.pairwise_cons.1 hb
    have hxy : x = y := by
      have h1 := (h x).1 (by simp)
      have h2 := (h y).2 (by simp)
      rw [List.mem_cons] at h1 h2
      rcases h1 with h1 | h1
      · exact h1
      · rcases h2 with h2 | h2
        · exact h2.symm
        · exact absurd (ltS_trans (hb1 x h1) (ha1 y h2)) (ltS_irrefl y)
    subst hxy
    rw [inc_ext a b ha2 hb2 (fun p => ?_)]
    have hp := h p
    rw [List.mem_cons, List.mem_cons] at hp
    constructor
    · intro hm
      rcases hp.1 (Or.inr hm) with h1 | h1
      · subst h1; exact absurd (ha1 p hm) (ltS_irrefl p)
      · exact h1
    · intro hm
      rcases hp.2 (Or.inr hm) with h1 | h1
      · subst h1; exact absurd (hb1 p hm) (ltS_irrefl p)
      · exact h1
end Go.Proofs.Ytgofkhncaldheaa.SpH
namespace Go.Proofs.Ytgofkhncaldheaa.SpI
open Go Go.RowKit Go.Sort Go.Lib Go.Proofs.YtgofkhncaldheaaW.PrintWords Go.Proofs.Ytgofkhncaldheaa.K Go.Proofs.Ytgofkhncaldheaa.ReS Go.Proofs.Ytgofkhncaldheaa.ReR Go.Proofs.Ytgofkhncaldheaa.ReK Go.Proofs.Ytgofkhncaldheaa.RmS Go.Proofs.Ytgofkhncaldheaa.SpK Go.Proofs.Ytgofkhncaldheaa.SpC Go.Proofs.Ytgofkhncaldheaa.SpE Go.Proofs.Ytgofkhncaldheaa.SpF Go.Proofs.Ytgofkhncaldheaa.SpH
set_option linter.unusedVariables false
set_option linter.unusedSimpArgs false
theorem le_is (x y : Sp) : (!(ltOf cmpS) y x) = decide (¬ ltS y x) := by
  rw [lt_is]
  by_cases h : ltS y x <;> simp [h]
theorem sort_sorted (l : List Sp) : (sortS l).Pairwise (fun x y => ¬ ltS y x) := by
  have h := List.pairwise_mergeSort (le := fun x y => !(ltOf cmpS) y x) (fun a b c h1 h2 => by
    rw [le_is, decide_eq_true_eq] at *
    unfold ltS at *
    omega) (fun a b => by
    rw [le_is, le_is, Bool.or_eq_true, decide_eq_true_eq, decide_eq_true_eq]
    unfold ltS
    omega) l
  refine h.imp ?_
  intro a b hab
  rw [le_is, decide_eq_true_eq] at hab
  exact hab
theorem sorted_at {S : List Sp} (h : S.Pairwise (fun x y => ¬ ltS y x)) (i j : Nat) (hij : i ≤ j) (hj : j < S.length) : ¬ ltS (S.toArray[j]!) (S.toArray[i]!) := by
  rw [getElem!_pos _ j (by simpa using hj), getElem!_pos _ i (by simp; omega)]
  simp only [List.getElem_toArray]
  by_cases e : i = j
  · subst e; exact ltS_irrefl _
  · exact List.pairwise_iff_getElem.1 h i j (by omega) hj (by omega)
theorem kept_inc {S : List Sp} (h : S.Pairwise (fun x y => ¬ ltS y x)) (m : Nat) (hm : m ≤ S.length) : Inc (compactUpTo S.toArray m) := by
  unfold compactUpTo Inc
  rw [List.pairwise_map]
  have hr : (List.range m).Pairwise (fun i j => i < j) := List.pairwise_lt_range
  have hf := hr.filter (keeps S.toArray)
  refine List.Pairwise.imp_of_mem ?_ hf
  intro i j hi hj hij
  obtain ⟨hj1, hj2⟩ := List.mem_filter.1 hj
  have hjm := List.mem_range.1 hj1
  have hk : S.toArray[j]! ≠ S.toArray[j - 1]! := by
    have := hj2
    simp only [keeps, decide_eq_true_eq] at this
    rcases this with h0 | h0
    · omega
    · exact h0
  have h1 := sorted_at h i (j - 1) (by omega) (by omega)
  have h2 := sorted_at h (j - 1) j (by omega) (by omega)
  generalize S.toArray[i]! = a at *
  generalize S.toArray[j - 1]! = b at *
  generalize S.toArray[j]! = c at *
  rcases ltS_tri b c with h3 | h3 | h3
  · rcases ltS_tri a b with h4 | h4 | h4
    · exact ltS_trans h4 h3
    · subst h4; exact h3
    · exact absurd h4 h1
  · exact absurd h3.symm hk
  · exact absurd h3 h2
theorem kept_mem (S : List Sp) (i : Nat) (hi : i < S.length) : S.toArray[i]! ∈ compactUpTo S.toArray S.length := by
  induction i with
  | zero =>
    exact List.mem_map.2 ⟨0, List.mem_filter.2 ⟨List.mem_range.2 hi, by simp [keeps]⟩, rfl⟩
  | succ n ih =>
    by_cases hk : keeps S.toArray (n + 1) = true
    · exact List.mem_map.2 ⟨n + 1, List.mem_filter.2 ⟨List.mem_range.2 hi, hk⟩, rfl⟩
    · have he : S.toArray[n + 1]! = S.toArray[n]! := by
        simp only [keeps, decide_eq_true_eq, not_or, Nat.add_sub_cancel, Decidable.not_not] at hk
        exact hk.2
      rw [he]
      exact ih (by omega)
theorem kept_iff (S : List Sp) (p : Sp) : p ∈ compactUpTo S.toArray S.length ↔ p ∈ S := by
  constructor
  · intro h
    have := compact_mem S.toArray S.length (by simp) p h
    simpa using this
  · intro h
    obtain ⟨i, hi, rfl⟩ := List.getElem_of_mem h
    have := kept_mem S i hi
    rwa [getElem!_pos _ i (by simpa using hi), List.getElem_toArray] at this
theorem spots_same (rs : List Ref) : spotsOf rs = rspots (rs.map spotR) := by
  obtain ⟨h1, h2⟩ := fold_ins (rs.map spotR) [] List.Pairwise.nil
  refine inc_ext _ _ (kept_inc (sort_sorted _) _ (Nat.le_refl _)) h1 (fun p => ?_)
  unfold spotsOf
  rw [kept_iff, sort_mem]
  show _ ↔ p ∈ (rs.map spotR).foldl ins []
  rw [h2]
  simp
end Go.Proofs.Ytgofkhncaldheaa.SpI
namespace Go.Proofs.Ytgofkhncaldheaa.SpJ
open Go Go.RowKit Go.Sort Go.Lib Go.Proofs.YtgofkhncaldheaaW.PrintWords Go.Proofs.Ytgofkhncaldheaa.K Go.Proofs.Ytgofkhncaldheaa.ReS Go.Proofs.Ytgofkhncaldheaa.ReR Go.Proofs.Ytgofkhncaldheaa.ReK Go.Proofs.Ytgofkhncaldheaa.RmS Go.Proofs.Ytgofkhncaldheaa.SpK Go.Proofs.Ytgofkhncaldheaa.SpC Go.Proofs.Ytgofkhncaldheaa.SpE Go.Proofs.Ytgofkhncaldheaa.SpF Go.Proofs.Ytgofkhncaldheaa.SpG Go.Proofs.Ytgofkhncaldheaa.SpH
set_option linter.unusedVariables false
set_option linter.unusedSimpArgs false
set_option maxHeartbeats 2000000 in
theorem less_calls (x y : Sp) (w : World) : Calls Try.prog 41 #[.agg #[.int .i64 x.1, .int .i64 x.2], .agg #[.int .i64 y.1, .int .i64 y.2]] w fun e w' => e = .returned (.bool (decide (ltS x y))) ∧ ∃ q os', w' = grow (w.drewN q) os' := by
  have hfin : ∃ q os', (w.alloc (.cells #[.int .i64 x.1, .int .i64 x.2] 61)).alloc (.cells #[.int .i64 y.1, .int .i64 y.2] 61) = grow (w.drewN q) os' :=
    ⟨0, #[.cells #[.int .i64 x.1, .int .i64 x.2] 61, .cells #[.int .i64 y.1, .int .i64 y.2] 61], by rw [alloc_eq_grow, alloc_eq_grow, grow_grow]; rfl⟩
  have HF := Aside0.mk hfin
  clear hfin
  obtain ⟨x1, x2⟩ := x
  obtain ⟨y1, y2⟩ := y
  simp only at HF ⊢
  by_cases h1 : x1 < y1
  · have d1 : decide (x1 < y1) = true := by simpa using h1
    have hl : decide (ltS (x1, x2) (y1, y2)) = true := by simp [ltS, h1]
    rw [hl]
    clear hl h1
    go_enter Try.func41, Try.ntmps41
    go_wp2
    go_ret
    exact ⟨rfl, HF.out⟩
  · have d1 : decide (x1 < y1) = false := by simpa using h1
    by_cases h2 : x1 = y1
    · subst h2
      by_cases h3 : x2 < y2
      · have d3 : decide (x2 < y2) = true := by simpa using h3
        have hl : decide (ltS (x1, x2) (x1, y2)) = true := by simp [ltS, h3]
        rw [hl]
        clear hl h1 h3
        go_enter Try.func41, Try.ntmps41
        go_wp2
        go_ret
        exact ⟨rfl, HF.out⟩
      · have d3 : decide (x2 < y2) = false := by simpa using h3
        have hl : decide (ltS (x1, x2) (x1, y2)) = false := by simp [ltS]; omega
        rw [hl]
        clear hl h1 h3
        go_enter Try.func41, Try.ntmps41
        go_wp2
        go_ret
        exact ⟨rfl, HF.out⟩
    · have d2 : (x1 == y1) = false := by simpa using h2
      have hl : decide (ltS (x1, x2) (y1, y2)) = false := by simp [ltS, h2]; omega
      rw [hl]
      clear hl h1 h2
      go_enter Try.func41, Try.ntmps41
      go_wp2
      go_ret
      exact ⟨rfl, HF.out⟩
end Go.Proofs.Ytgofkhncaldheaa.SpJ
namespace Go.Proofs.Ytgofkhncaldheaa.SpL
open Go Go.RowKit Go.Sort Go.Lib Go.Proofs.YtgofkhncaldheaaW.PrintWords Go.Proofs.Ytgofkhncaldheaa.K Go.Proofs.Ytgofkhncaldheaa.ReS Go.Proofs.Ytgofkhncaldheaa.ReR Go.Proofs.Ytgofkhncaldheaa.ReT Go.Proofs.Ytgofkhncaldheaa.ReK Go.Proofs.Ytgofkhncaldheaa.RmS Go.Proofs.Ytgofkhncaldheaa.SpK Go.Proofs.Ytgofkhncaldheaa.SpC Go.Proofs.Ytgofkhncaldheaa.SpE Go.Proofs.Ytgofkhncaldheaa.SpF Go.Proofs.Ytgofkhncaldheaa.SpG Go.Proofs.Ytgofkhncaldheaa.SpH Go.Proofs.Ytgofkhncaldheaa.SpJ
set_option linter.unusedVariables false
set_option linter.unusedSimpArgs false
theorem ref_cell {w : World} {ad : Addr} {k : Nat} {rs : List Ref} (h : RefsC w (some ad) k rs) (i : Nat) (hi : i < k) : w.cell? ⟨(ad.add (i * 35)).block, (ad.add (i * 35)).off + 33, none⟩ = some (.int .i64 (rs.getD i default).bin) ∧ w.cell? ⟨(ad.add (i * 35)).block, (ad.add (i * 35)).off + 34, none⟩ = some (.int .i64 (rs.getD i default).slot) := by
  have h1 := h.cells ad rfl i hi 33 (.int .i64 (rs.getD i default).bin) (by have := Ref.cell_bin (h.ok i hi); rwa [List.getElem?_toArray] at this)
  have h2 := h.cells ad rfl i hi 34 (.int .i64 (rs.getD i default).slot) (by have := Ref.cell_slot (h.ok i hi); rwa [List.getElem?_toArray] at this)
  exact ⟨h1, h2⟩
theorem own_some {v1 v : Value} {n : Nat} (h : v1.ownBlock = v.ownBlock ∨ ∃ b, v1.ownBlock = some b ∧ n ≤ b) (hv : v.ownBlock ≠ none) : v1.ownBlock ≠ none := by
  rcases h with h | ⟨b, h, _⟩
  · rw [h]; exact hv
  · rw [h]; simp
theorem ins_len (l : List Sp) (s : Sp) : (ins l s).length ≤ l.length + 1 := by
  unfold ins
  split
  · omega
  · rw [List.length_append, List.length_append, List.length_take, List.length_drop, List.length_singleton]; omega
theorem fold_len : ∀ (l acc : List Sp), (l.foldl ins acc).length ≤ acc.length + l.length
  | [], _ => Nat.le_refl _
  | s :: l, acc => by
    have h1 := fold_len l (ins acc s)
    have h2 := ins_len acc s
    simp only [List.foldl_cons, List.length_cons]
    omega
theorem rspots_len (l : List Sp) : (rspots l).length ≤ l.length := by
  have := fold_len l []
  simpa [rspots] using this
theorem rspots_snoc (l : List Sp) (s : Sp) : rspots (l ++ [s]) = ins (rspots l) s := by
  unfold rspots
  rw [List.foldl_append]; rfl
theorem below_gr {wb W : World} (h : Below wb.heap.size wb W) (n : Nat) (os : Array Obj) : Below wb.heap.size wb (grow (W.drewN n) os) :=
  ReA.below_grown (row := none) h ⟨rfl, rfl, rfl, by simp, fun k hk _ => by rw [heap_grow_old _ _ (by simpa using hk)]; rfl⟩ (fun r e => by cases e)
set_option maxHeartbeats 16000000 in
set_option maxRecDepth 100000 in
theorem rspots_calls (A : Option Addr) (k c : Nat) (rs : List Ref) (w : World) (h : RefsC w A k rs) (hk : k * 56 ≤ 140737488351232) :
    Calls Try.prog 27 #[.slice A k c] w fun e w' => ∃ v, e = .returned v ∧ Kd.R dSp 61 w' w.heap.size (fun _ => True) (v) (rspots (rs.map spotR)) ∧ Below w.heap.size w w' := by
  have H := Aside0.mk h
  have HL := Aside0.mk h.len
  have HLES := Aside0.mk less_calls
  clear h
  go_enter Try.func27, Try.ntmps27
  go_wp2
  go_loopg [3, 4] (k + 1) (fun gk v3 v4 wr => ∃ i : Nat, v4 = .int .i64 i ∧ i ≤ k ∧ Aside0 (gk = k - i + 1) ∧ Aside0 (Kd.R dSp 61 wr w.heap.size (fun _ => True) (v3) (rspots ((rs.take i).map spotR))) ∧ Aside0 (Below w.heap.size w wr) ∧ Aside0 (v3.ownBlock ≠ none))
  case atStart => exact ⟨0, rfl, Nat.zero_le _, ⟨rfl⟩, ⟨Kd.R_made_nil _ _ _⟩, ⟨below_alloc (Below.refl _ _) _⟩, ⟨by simp [Value.ownBlock]⟩⟩
  case round =>
    obtain ⟨i, rfl, hi, HG, HO, HB, HNV⟩ := hrel
    obtain ⟨wo, rfl⟩ : ∃ wo : World, wo = wr := ⟨_, rfl⟩
    by_cases hlt : i < k
    · have h1 : decide ((i : Int) < (k : Int)) = true := by simp; omega
      have hir : i < rs.length := by rw [HL.out]; exact hlt
      obtain ⟨ad, rfl⟩ := H.out.is (by omega)
      have hp1 : (0 : Int) ≤ (i : Int) := by omega
      have hp2 : (i : Int) < (k : Int) := by omega
      obtain ⟨c33, c34⟩ := ref_cell (H.out.below HB.out) i hlt
      have hok := H.out.ok i hlt
      have HST := Aside0.mk (show (rs.take (i + 1)).map spotR = (rs.take i).map spotR ++ [((rs.getD i default).bin, (rs.getD i default).slot)] from spot_take rs i hir)
      have HSO : Aside0 (OkS ((rs.getD i default).bin, (rs.getD i default).slot)) := ⟨⟨hok.b, hok.sl⟩⟩
      clear hok
      generalize (rs.getD i default).bin = rb at *
      generalize (rs.getD i default).slot = rsl at *
      have a33 := Lib.cell?_alloc_some (.cells #[.int .i64 0, .int .i64 0] 61) c33
      have a34 := Lib.cell?_alloc_some (.cells #[.int .i64 0, .int .i64 0] 61) c34
      go_wp2_with fail
      go_region
      clear c33 c34 a33 a34
      have HX0 := (heap_alloc_new wo (.cells #[.int .i64 rb, .int .i64 rsl] 61))
      have HX : (wo.alloc (.cells #[.int .i64 rb, .int .i64 rsl] 61)).drew.heap[wo.heap.size]? = some (.cells #[.int .i64 rb, .int .i64 rsl] 61 (0, 0)) := HX0
      have HOX := Aside0.mk (Kd.R_drew (Kd.R_alloc HO.out (.cells #[.int .i64 rb, .int .i64 rsl] 61)))
      have HBX := Aside0.mk (below_drew1 (below_alloc HB.out (.cells #[.int .i64 rb, .int .i64 rsl] 61)))
      generalize (wo.alloc (.cells #[.int .i64 rb, .int .i64 rsl] 61)).drew = wx at *
      have hgx := (Array.getElem?_eq_some_iff.1 HX).1
      have HX := Aside0.mk HX
      have HGX := Aside0.mk hgx
      clear HX0 HO HB hgx
      have HSN : Aside0 (rspots ((rs.take (i + 1)).map spotR) = ins (rspots ((rs.take i).map spotR)) (rb, rsl)) := ⟨by rw [HST.out, rspots_snoc]⟩
      have hln := rspots_len ((rs.take i).map spotR)
      rw [List.length_map, List.length_take] at hln
      have hln : (rspots ((rs.take i).map spotR)).length ≤ i := by omega
      generalize rspots ((rs.take i).map spotR) = l0 at *
      obtain ⟨A0, c0, hv0, hlc0, hC0⟩ := Kd.R_reads HOX.out
      subst hv0
      have HC0 := Aside0.mk hC0
      clear hC0
      go_wp2
      go_loopg [6] (l0.length + 1) (fun g6 v6 wr => ∃ j : Nat, v6 = .int .i64 j ∧ j ≤ l0.length ∧ Aside0 (g6 = l0.length - j + 1) ∧ Aside0 (∀ q (h : q < l0.length), q < j → ltS l0[q] (rb, rsl)) ∧ Aside0 (Below wx.heap.size wx wr))
      case atStart => exact ⟨0, rfl, Nat.zero_le _, ⟨rfl⟩, ⟨fun q _ h => by omega⟩, ⟨Below.refl _ _⟩⟩
      case round =>
        obtain ⟨j, rfl, hj, HGj, HLj, HBj⟩ := hrel
        by_cases hjl : j < l0.length
        · obtain ⟨a0, rfl, hok0, b0, b1⟩ := sp_cells HC0.out j hjl
          have hx : l0.getD j default = l0[j] := by simp [hjl]
          rw [hx] at hok0 b0 b1
          obtain ⟨x, hxx⟩ : ∃ x, l0[j] = x := ⟨_, rfl⟩
          rw [hxx] at hok0 b0 b1
          have HXX := Aside0.mk hxx
          clear hx hxx
          have hbl := World.block_lt_of_cell? _ _ b0
          have b0n := fun n os => cell_grown (Nat.lt_of_lt_of_le hbl HBj.out.size) ((HBj.out.cell hbl).trans b0) n os
          have b1n := fun n os => cell_grown (a := ⟨(a0.add (j * 2)).block, (a0.add (j * 2)).off + 1, none⟩) (Nat.lt_of_lt_of_le hbl HBj.out.size) ((HBj.out.cell (p := ⟨(a0.add (j * 2)).block, (a0.add (j * 2)).off + 1, none⟩) hbl).trans b1) n os
          have s0 := obj_cell HX.out 0 (v := .int .i64 rb) rfl
          have s1 := obj_cell HX.out 1 (v := .int .i64 rsl) rfl
          have s0n := fun n os => cell_grown (w := wr) (a := ⟨wo.heap.size, 0, none⟩) (Nat.lt_of_lt_of_le HGX.out HBj.out.size) ((HBj.out.cell HGX.out).trans s0) n os
          have s1n := fun n os => cell_grown (w := wr) (a := ⟨wo.heap.size, 1, none⟩) (Nat.lt_of_lt_of_le HGX.out HBj.out.size) ((HBj.out.cell HGX.out).trans s1) n os
          have hjz : decide ((j : Int) < (l0.length : Int)) = true := by simp; omega
          have jp1 : (0 : Int) ≤ (j : Int) := by omega
          have jp2 : (j : Int) < (l0.length : Int) := by omega
          have mixed : Try.prog.follows .mixedOrders = true := by kernel_rfl
          have hls := fun W => less_calls x (rb, rsl) W
          by_cases hlv : ltS x (rb, rsl)
          · have hd : decide (ltS x (rb, rsl)) = true := by simpa using hlv
            rw [hd] at hls
            go_wp2_with fail
            go_quiet_grown (first | (go_at_call 41; refine Calls.grown_of (hls _)))
            go_wp2
            go_roundg (l0.length - (j + 1) + 1)
            case measure => have := HGj.out; omega
            case rel => exact ⟨j + 1, by go_num, by omega, ⟨rfl⟩, ⟨fun q hq hqj => by
              by_cases e : q = j
              · subst e; rw [HXX.out]; exact hlv
              · exact HLj.out q hq (by omega)⟩, ⟨below_gr HBj.out nq osq⟩⟩
          · have hd : decide (ltS x (rb, rsl)) = false := by simpa using hlv
            have HPO : Aside0 (pos l0 (rb, rsl) = j) := ⟨pos_is l0 _ j hj HLj.out (fun _ => by rw [HXX.out]; exact hlv)⟩
            rw [hd] at hls
            go_wp2_with fail
            go_quiet_grown (first | (go_at_call 41; refine Calls.grown_of (hls _)))
            go_wp2_with fail
            have b0q := b0n nq osq
            have b1q := b1n nq osq
            have s0q := s0n nq osq
            have s1q := s1n nq osq
            have HBq := Aside0.mk (below_gr HBj.out nq osq)
            clear b0n b1n s0n s1n b0 b1 hls s0 s1
            generalize hwq : grow (wr.drewN nq) osq = wq at *
            clear hwq
            by_cases hxe : x = (rb, rsl)
            · have heq := sp_eql_same x hok0
              have HXE := Aside0.mk hxe
              subst hxe
              simp only at b0q b1q heq
              have HIN : Aside0 (ins l0 (rb, rsl) = l0) := ⟨by unfold ins; rw [HPO.out, List.getElem?_eq_getElem hjl, HXX.out, if_pos rfl]⟩
              go_quiet (fail)
              go_wp2
              go_roundg (k - (i + 1) + 1)
              case measure => have := HG.out; omega
              case rel => exact ⟨i + 1, by go_num, by omega, ⟨rfl⟩, ⟨by rw [HSN.out, HIN.out]; exact Kd.R_below HOX.out (pw_below_drewN HBq.out nq)⟩, ⟨below_then HBX.out HBX.out.size (pw_below_drewN HBq.out nq)⟩, HNV⟩
            · have heq := sp_eql_other x (rb, rsl) hok0 HSO.out hxe
              simp only at heq
              have HIN : Aside0 (ins l0 (rb, rsl) = l0.take j ++ [(rb, rsl)] ++ l0.drop j) := ⟨by unfold ins; rw [HPO.out, List.getElem?_eq_getElem hjl, HXX.out, if_neg (fun e => hxe (by injection e))]⟩
              have HOK := HSO
              go_quiet (fail)
              have HBZ := Aside0.mk (below_then HBX.out HBX.out.size (pw_below_drewN HBq.out nq))
              have HXZ := Aside0.mk (pw_below_drewN HBq.out nq)
              have s0z : (wq.drewN nq).cell? ⟨wo.heap.size, 0, none⟩ = some (.int .i64 rb) := s0q
              have s1z : (wq.drewN nq).cell? ⟨wo.heap.size, 1, none⟩ = some (.int .i64 rsl) := s1q
              clear s0q s1q
              generalize hwz : wq.drewN nq = wz at *
              clear hwz
              have HN := Aside0.mk (Kd.R_lower (Kd.R_made_nil dSp wz 61) HBZ.out.size)
              have hct := Kd.C_take (m := j) HC0.out (by omega)
              have hlt9 : (l0.take j).length = j := by rw [List.length_take]; omega
              rw [hlt9] at hct
              have HCT := Aside0.mk hct
              have HL9 := Aside0.mk hlt9
              have hcd := Kd.C_drop (c := c0) (m := j) HC0.out (by omega) hlc0
              rw [if_neg (by omega)] at hcd
              have hld : (l0.drop j).length = l0.length - j := List.length_drop
              rw [hld] at hcd
              have HCD := Aside0.mk (show dSp.C wx (some (a0.add (j * 2))) (l0.length - j) (l0.drop j) from hcd)
              have HLD := Aside0.mk hld
              clear hcd hld
              have HZG := Aside0.mk (World.block_lt_of_cell? _ _ s0z)
              have HZ0 := Aside0.mk s0z
              have HZ1 := Aside0.mk s1z
              clear hct hlt9 s0z s1z HC0
              go_wp2_with (first
                | ((with_reducible refine gate_builtin (b := .append) (xs := #[.tmp 52, .tmp 55]) rfl ?_); at_builtin; refine app dSp flat_sp w.heap.size (w0 := w) (.tmp 52) (.tmp 55) 58 61 (.agg #[.int .i64 0, .int .i64 0]) 16 rfl rfl Try.underlying58 infoSpot rfl (by decide) (by decide) _ [] (l0.take j) (some a0) j c0 rfl rfl ?aO ?aR ?aB ?aS ?aL ?_; (case aO => exact HN.out); (case aR => exact (Kd.C_below HCT.out (below_alloc HXZ.out _))); (case aB => exact (by repeat (first | (with_reducible first | exact HBZ.out | apply below_alloc | apply pw_below_drewN | apply below_drew1) | exact HBZ.out))); (case aS => exact (below_size (by repeat (first | (with_reducible first | exact HBZ.out | apply below_alloc | apply pw_below_drewN | apply below_drew1) | exact HBZ.out)))); (case aL => exact (by simp <;> omega)); intro v1 w1 ho1 hb1 hg1 hat1; have HAT1 : Aside0 (∀ r, v1.ownBlock = some r → wz.heap.size ≤ r) := ⟨fun r e => by rcases hat1 with ht | ⟨b, ht, hle⟩; (· rw [ht] at e; injection e with e; rw [← e]; exact Nat.le_refl _); (· rw [ht] at e; injection e with e; rw [← e]; exact Nat.le_trans (Nat.le_of_lt (by simp)) hle)⟩; have HN1 := Aside0.mk (own_some (v := .slice (some ⟨wz.heap.size, 0, none⟩) 0 0) hat1 (by simp [Value.ownBlock])); have HO1 := Aside0.mk ho1; have HB1 := Aside0.mk hb1; have hz := below_alloc (Below.refl wz.heap.size wz) (.cells #[] 61); have HG1 := Aside0.mk (ReA.below_grown hz hg1 (fun r e => by injection e with e; rw [← e]; exact Nat.le_refl _)); have y0 := (HG1.out.cell HZG.out).trans HZ0.out; have y1 := (HG1.out.cell (p := ⟨wo.heap.size, 1, none⟩) HZG.out).trans HZ1.out; clear ho1 hb1 hg1 hz hat1)
                | ((with_reducible refine gate_builtin (b := .append) (xs := #[.tmp 57, .tmp 59]) rfl ?_); at_builtin; refine app1 dSp flat_sp w.heap.size (w0 := w) (.tmp 57) (.tmp 59) 58 61 (.agg #[.int .i64 0, .int .i64 0]) 16 rfl rfl Try.underlying58 infoSpot rfl (by decide) (by decide) _ ([] ++ l0.take j) (rb, rsl) (spE (rb, rsl)) rfl rfl ?aP ?aO ?aB ?aS ?aL ?_; (case aP => first | exact rfl | exact ⟨trivial, rfl⟩ | exact ⟨HOK.out, rfl⟩); (case aO => exact HO1.out); (case aB => exact (by repeat (first | (with_reducible first | exact HB1.out | apply below_alloc | apply pw_below_drewN | apply below_drew1) | exact HB1.out))); (case aS => exact (below_size (by repeat (first | (with_reducible first | exact HB1.out | apply below_alloc | apply pw_below_drewN | apply below_drew1) | exact HB1.out)))); (case aL => exact (by simp <;> omega)); intro v2 w2 ho2 hb2 hg2 hat2; have HN2 := Aside0.mk (own_some hat2 HN1.out); have HO2 := Aside0.mk ho2; have HB2 := Aside0.mk hb2; have HG2 := Aside0.mk (ReA.below_grown HG1.out hg2 HAT1.out); clear ho2 hb2 hg2 hat2)
                | ((with_reducible refine gate_builtin (b := .append) (xs := #[.tmp 61, .tmp 64]) rfl ?_); at_builtin; refine app dSp flat_sp w.heap.size (w0 := w) (.tmp 61) (.tmp 64) 58 61 (.agg #[.int .i64 0, .int .i64 0]) 16 rfl rfl Try.underlying58 infoSpot rfl (by decide) (by decide) _ ([] ++ l0.take j ++ [(rb, rsl)]) (l0.drop j) (some (a0.add (j * 2))) (l0.length - j) (c0 - j) rfl rfl ?aO ?aR ?aB ?aS ?aL ?_; (case aO => exact HO2.out); (case aR => exact (Kd.C_below HCD.out (below_then HXZ.out HXZ.out.size HG2.out))); (case aB => exact (by repeat (first | (with_reducible first | exact HB2.out | apply below_alloc | apply pw_below_drewN | apply below_drew1) | exact HB2.out))); (case aS => exact (below_size (by repeat (first | (with_reducible first | exact HB2.out | apply below_alloc | apply pw_below_drewN | apply below_drew1) | exact HB2.out)))); (case aL => exact (by simp <;> omega)); intro v3 w3 ho3 hb3 hg3 hat3; have HN3 := Aside0.mk (own_some hat3 HN2.out); have HO3 := Aside0.mk ho3; have HB3 := Aside0.mk hb3; clear ho3 hb3 hg3 hat3))
              go_roundg (k - (i + 1) + 1)
              case measure => have := HG.out; omega
              case rel => exact ⟨i + 1, by go_num, by omega, ⟨rfl⟩, ⟨by rw [HSN.out, HIN.out]; exact HO3.out⟩, HB3, HN3⟩
        · have hje : j = l0.length := by omega
          have hjz : decide ((j : Int) < (l0.length : Int)) = false := by simp; omega
          have HPO : Aside0 (pos l0 (rb, rsl) = l0.length) := ⟨pos_is l0 _ _ (Nat.le_refl _) (fun q h _ => HLj.out q h (by omega)) (fun h => absurd h (Nat.lt_irrefl _))⟩
          have HIN : Aside0 (ins l0 (rb, rsl) = l0 ++ [(rb, rsl)]) := ⟨by unfold ins; rw [HPO.out, List.getElem?_eq_none (Nat.le_refl _), if_neg (by simp), List.take_of_length_le (Nat.le_refl _), List.drop_of_length_le (Nat.le_refl _), List.append_nil]⟩
          have HOK := HSO
          have hjz0 : (0 : Int) ≤ (j : Int) := by omega
          subst hje
          go_wp2_with fail
          go_quiet (fail)
          go_wp2_with fail
          have HBq := Aside0.mk (pw_below_drewN HBj.out nq)
          generalize hwq : wr.drewN nq = wq at *
          clear hwq nq
          go_quiet (fail)
          have HBZ := Aside0.mk (below_then HBX.out HBX.out.size (pw_below_drewN HBq.out nq))
          have HXZ := Aside0.mk (pw_below_drewN HBq.out nq)
          have s0z := (HXZ.out.cell HGX.out).trans (obj_cell HX.out 0 (v := .int .i64 rb) rfl)
          have s1z := (HXZ.out.cell (p := ⟨wo.heap.size, 1, none⟩) HGX.out).trans (obj_cell HX.out 1 (v := .int .i64 rsl) rfl)
          generalize hwz : wq.drewN nq = wz at *
          clear hwz
          have HZG := Aside0.mk (World.block_lt_of_cell? _ _ s0z)
          have HZ0 := Aside0.mk s0z
          have HZ1 := Aside0.mk s1z
          clear s0z s1z
          obtain ⟨inner, hown⟩ := Kd.R_own HOX.out
          rcases hown.2 with ⟨hv, hn⟩ | ⟨g, cap, cur, hv, _⟩
          · exact absurd (by rw [hv]; rfl) HNV.out
          · injection hv with e1 e2 e3
            subst e1
            clear hown e2 e3
            by_cases hcj : c0 = l0.length
            · subst hcj
              have HN := Aside0.mk (Kd.R_lower (Kd.R_made_nil dSp wz 61) HBZ.out.size)
              go_wp2_with (first
                | ((with_reducible refine gate_builtin (b := .append) (xs := #[.tmp 52, .tmp 55]) rfl ?_); at_builtin; refine app dSp flat_sp w.heap.size (w0 := w) (.tmp 52) (.tmp 55) 58 61 (.agg #[.int .i64 0, .int .i64 0]) 16 rfl rfl Try.underlying58 infoSpot rfl (by decide) (by decide) _ [] l0 (some ⟨g, 0, none⟩) l0.length l0.length rfl rfl ?aO ?aR ?aB ?aS ?aL ?_; (case aO => exact HN.out); (case aR => exact (Kd.C_below HC0.out (below_then HXZ.out HXZ.out.size (below_alloc (Below.refl _ _) _)))); (case aB => exact (by repeat (first | (with_reducible first | exact HBZ.out | apply below_alloc | apply pw_below_drewN | apply below_drew1) | exact HBZ.out))); (case aS => exact (below_size (by repeat (first | (with_reducible first | exact HBZ.out | apply below_alloc | apply pw_below_drewN | apply below_drew1) | exact HBZ.out)))); (case aL => exact (by simp <;> omega)); intro v1 w1 ho1 hb1 hg1 hat1; have HN1 := Aside0.mk (own_some (v := .slice (some ⟨wz.heap.size, 0, none⟩) 0 0) hat1 (by simp [Value.ownBlock])); have HO1 := Aside0.mk ho1; have HB1 := Aside0.mk hb1; have hz := below_alloc (Below.refl wz.heap.size wz) (.cells #[] 61); have HG1 := Aside0.mk (ReA.below_grown hz hg1 (fun r e => by injection e with e; rw [← e]; exact Nat.le_refl _)); have y0 := (HG1.out.cell HZG.out).trans HZ0.out; have y1 := (HG1.out.cell (p := ⟨wo.heap.size, 1, none⟩) HZG.out).trans HZ1.out; clear ho1 hb1 hg1 hz hat1)
                | ((with_reducible refine gate_builtin (b := .append) (xs := #[.tmp 57, .tmp 59]) rfl ?_); at_builtin; refine app1 dSp flat_sp w.heap.size (w0 := w) (.tmp 57) (.tmp 59) 58 61 (.agg #[.int .i64 0, .int .i64 0]) 16 rfl rfl Try.underlying58 infoSpot rfl (by decide) (by decide) _ ([] ++ l0) (rb, rsl) (spE (rb, rsl)) rfl rfl ?aP ?aO ?aB ?aS ?aL ?_; (case aP => first | exact rfl | exact ⟨trivial, rfl⟩ | exact ⟨HOK.out, rfl⟩); (case aO => exact HO1.out); (case aB => exact (by repeat (first | (with_reducible first | exact HB1.out | apply below_alloc | apply pw_below_drewN | apply below_drew1) | exact HB1.out))); (case aS => exact (below_size (by repeat (first | (with_reducible first | exact HB1.out | apply below_alloc | apply pw_below_drewN | apply below_drew1) | exact HB1.out)))); (case aL => exact (by simp <;> omega)); intro v2 w2 ho2 hb2 hg2 hat2; have HN2 := Aside0.mk (own_some hat2 HN1.out); have HO2 := Aside0.mk ho2; have HB2 := Aside0.mk hb2; clear ho2 hb2 hg2 hat2)
                | ((with_reducible refine gate_builtin (b := .append) (xs := #[.tmp 61, .tmp 64]) rfl ?_); at_builtin; refine app dSp flat_sp w.heap.size (w0 := w) (.tmp 61) (.tmp 64) 58 61 (.agg #[.int .i64 0, .int .i64 0]) 16 rfl rfl Try.underlying58 infoSpot rfl (by decide) (by decide) _ ([] ++ l0 ++ [(rb, rsl)]) [] (some ⟨g, 0, none⟩) 0 0 rfl rfl ?aO ?aR ?aB ?aS ?aL ?_; (case aO => exact HO2.out); (case aR => exact ⟨rfl, by decide, fun h => absurd h (Nat.lt_irrefl 0)⟩); (case aB => exact (by repeat (first | (with_reducible first | exact HB2.out | apply below_alloc | apply pw_below_drewN | apply below_drew1) | exact HB2.out))); (case aS => exact (below_size (by repeat (first | (with_reducible first | exact HB2.out | apply below_alloc | apply pw_below_drewN | apply below_drew1) | exact HB2.out)))); (case aL => exact (by simp <;> omega)); intro v3 w3 ho3 hb3 hg3 hat3; have HN3 := Aside0.mk (own_some hat3 HN2.out); have HO3 := Aside0.mk ho3; have HB3 := Aside0.mk hb3; clear ho3 hb3 hg3 hat3))
              go_roundg (k - (i + 1) + 1)
              case measure => have := HG.out; omega
              case rel => exact ⟨i + 1, by go_num, by omega, ⟨rfl⟩, ⟨by rw [HSN.out, HIN.out]; simpa using HO3.out⟩, HB3, HN3⟩
            · have hcj2 : (l0.length : Int) < (c0 : Int) := by omega
              have HN := Aside0.mk (Kd.R_lower (Kd.R_made_nil dSp wz 61) HBZ.out.size)
              go_wp2_with (first
                | ((with_reducible refine gate_builtin (b := .append) (xs := #[.tmp 52, .tmp 55]) rfl ?_); at_builtin; refine app dSp flat_sp w.heap.size (w0 := w) (.tmp 52) (.tmp 55) 58 61 (.agg #[.int .i64 0, .int .i64 0]) 16 rfl rfl Try.underlying58 infoSpot rfl (by decide) (by decide) _ [] l0 (some ⟨g, 0, none⟩) l0.length c0 rfl rfl ?aO ?aR ?aB ?aS ?aL ?_; (case aO => exact HN.out); (case aR => exact (Kd.C_below HC0.out (below_then HXZ.out HXZ.out.size (below_alloc (Below.refl _ _) _)))); (case aB => exact (by repeat (first | (with_reducible first | exact HBZ.out | apply below_alloc | apply pw_below_drewN | apply below_drew1) | exact HBZ.out))); (case aS => exact (below_size (by repeat (first | (with_reducible first | exact HBZ.out | apply below_alloc | apply pw_below_drewN | apply below_drew1) | exact HBZ.out)))); (case aL => exact (by simp <;> omega)); intro v1 w1 ho1 hb1 hg1 hat1; have HN1 := Aside0.mk (own_some (v := .slice (some ⟨wz.heap.size, 0, none⟩) 0 0) hat1 (by simp [Value.ownBlock])); have HO1 := Aside0.mk ho1; have HB1 := Aside0.mk hb1; have hz := below_alloc (Below.refl wz.heap.size wz) (.cells #[] 61); have HG1 := Aside0.mk (ReA.below_grown hz hg1 (fun r e => by injection e with e; rw [← e]; exact Nat.le_refl _)); have y0 := (HG1.out.cell HZG.out).trans HZ0.out; have y1 := (HG1.out.cell (p := ⟨wo.heap.size, 1, none⟩) HZG.out).trans HZ1.out; clear ho1 hb1 hg1 hz hat1)
                | ((with_reducible refine gate_builtin (b := .append) (xs := #[.tmp 57, .tmp 59]) rfl ?_); at_builtin; refine app1 dSp flat_sp w.heap.size (w0 := w) (.tmp 57) (.tmp 59) 58 61 (.agg #[.int .i64 0, .int .i64 0]) 16 rfl rfl Try.underlying58 infoSpot rfl (by decide) (by decide) _ ([] ++ l0) (rb, rsl) (spE (rb, rsl)) rfl rfl ?aP ?aO ?aB ?aS ?aL ?_; (case aP => first | exact rfl | exact ⟨trivial, rfl⟩ | exact ⟨HOK.out, rfl⟩); (case aO => exact HO1.out); (case aB => exact (by repeat (first | (with_reducible first | exact HB1.out | apply below_alloc | apply pw_below_drewN | apply below_drew1) | exact HB1.out))); (case aS => exact (below_size (by repeat (first | (with_reducible first | exact HB1.out | apply below_alloc | apply pw_below_drewN | apply below_drew1) | exact HB1.out)))); (case aL => exact (by simp <;> omega)); intro v2 w2 ho2 hb2 hg2 hat2; have HN2 := Aside0.mk (own_some hat2 HN1.out); have HO2 := Aside0.mk ho2; have HB2 := Aside0.mk hb2; clear ho2 hb2 hg2 hat2)
                | ((with_reducible refine gate_builtin (b := .append) (xs := #[.tmp 61, .tmp 64]) rfl ?_); at_builtin; refine app dSp flat_sp w.heap.size (w0 := w) (.tmp 61) (.tmp 64) 58 61 (.agg #[.int .i64 0, .int .i64 0]) 16 rfl rfl Try.underlying58 infoSpot rfl (by decide) (by decide) _ ([] ++ l0 ++ [(rb, rsl)]) [] (some ⟨g, l0.length * 2, none⟩) 0 (c0 - l0.length) rfl rfl ?aO ?aR ?aB ?aS ?aL ?_; (case aO => exact HO2.out); (case aR => exact ⟨rfl, by decide, fun h => absurd h (Nat.lt_irrefl 0)⟩); (case aB => exact (by repeat (first | (with_reducible first | exact HB2.out | apply below_alloc | apply pw_below_drewN | apply below_drew1) | exact HB2.out))); (case aS => exact (below_size (by repeat (first | (with_reducible first | exact HB2.out | apply below_alloc | apply pw_below_drewN | apply below_drew1) | exact HB2.out)))); (case aL => exact (by simp <;> omega)); intro v3 w3 ho3 hb3 hg3 hat3; have HN3 := Aside0.mk (own_some hat3 HN2.out); have HO3 := Aside0.mk ho3; have HB3 := Aside0.mk hb3; clear ho3 hb3 hg3 hat3))
              go_roundg (k - (i + 1) + 1)
              case measure => have := HG.out; omega
              case rel => exact ⟨i + 1, by go_num, by omega, ⟨rfl⟩, ⟨by rw [HSN.out, HIN.out]; simpa using HO3.out⟩, HB3, HN3⟩
    · obtain rfl : i = k := by omega
      have h1 : decide ((i : Int) < (i : Int)) = false := by simp
      have hall : rs.take i = rs := List.take_of_length_le (by rw [HL.out]; exact Nat.le_refl _)
      have ho := HO.out
      rw [hall] at ho
      go_wp2
      go_ret
      exact ⟨_, rfl, ho, HB.out⟩
end Go.Proofs.Ytgofkhncaldheaa.SpL
