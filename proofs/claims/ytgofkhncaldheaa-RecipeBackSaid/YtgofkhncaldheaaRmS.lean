/- Chunks that lie elsewhere, as plain functions; keys and stores of the map of moves; no condition. -/
import Derived.Test.YtgofkhncaldheaaMv
import Derived.Test.YtgofkhncaldheaaReO
namespace Go.Proofs.Ytgofkhncaldheaa.RmS
open Go Go.RowKit Go.Proofs.YtgofkhncaldheaaW.PrintWords Go.Proofs.Ytgofkhncaldheaa.K Go.Proofs.Ytgofkhncaldheaa.ReS Go.Proofs.Ytgofkhncaldheaa.ReR Go.Proofs.Ytgofkhncaldheaa.ReT Go.Proofs.Ytgofkhncaldheaa.ReK Go.Proofs.Ytgofkhncaldheaa.ReE Go.Proofs.Ytgofkhncaldheaa.ReO Go.Proofs.Ytgofkhncaldheaa.Mp Go.Proofs.Ytgofkhncaldheaa.Eq
set_option linter.unusedVariables false
set_option linter.unusedSimpArgs false
abbrev Sp := Int × Int
def spotV (p : Sp) : Value := .agg #[.int .i64 p.1, .int .i64 p.2]
/-- The first move from a spot: where to. -/
def first (ms : List Mv) (a b : Int) : Option Sp := (ms.find? (fun m => decide (m.fb = a ∧ m.fs = b))).map (fun m => (m.tb, m.ts))
def mvR (ms : List Mv) (r : Ref) : Ref := match first ms r.bin r.slot with
  | some p => { r with bin := p.1, slot := p.2 }
  | none => r
def cnt (ms : List Mv) (rs : List Ref) : Nat := (rs.filter (fun r => (first ms r.bin r.slot).isSome)).length
/-- The map's answers. -/
def mfn (ms : List Mv) : Value → Option Value
  | .agg cs => match cs.toList with
    | [.int .i64 a, .int .i64 b] => (first ms a b).map spotV
    | _ => none
  | _ => none
theorem mfn_at (ms : List Mv) (a b : Int) : mfn ms (spotV (a, b)) = (first ms a b).map spotV := rfl
theorem mfn_nil : mfn [] = fun _ => none := by
  funext v
  unfold mfn
  split
  · split
    · rfl
    · rfl
  · rfl
theorem first_snoc (ms : List Mv) (m : Mv) (a b : Int) : first (ms ++ [m]) a b = match first ms a b with
    | some p => some p
    | none => if m.fb = a ∧ m.fs = b then some (m.tb, m.ts) else none := by
  unfold first
  rw [List.find?_append]
  cases h : ms.find? (fun m => decide (m.fb = a ∧ m.fs = b)) with
  | some x => simp
  | none =>
    by_cases he : m.fb = a ∧ m.fs = b
    · simp [List.find?_cons, he]
    · have : decide (m.fb = a ∧ m.fs = b) = false := decide_eq_false he
      simp [List.find?_cons, he, this]
theorem mfn_known (ms : List Mv) (m : Mv) (p : Sp) (h : first ms m.fb m.fs = some p) : mfn (ms ++ [m]) = mfn ms := by
  funext v
  unfold mfn
  split
  · split
    · rename_i a b _
      rw [first_snoc]
      cases h2 : first ms a b with
      | some q => rfl
      | none =>
        have hne : ¬ (m.fb = a ∧ m.fs = b) := fun e => by
          obtain ⟨rfl, rfl⟩ := e
          rw [h] at h2
          cases h2
        simp [hne]
    · rfl
  · rfl
theorem mfn_put (ms : List Mv) (m : Mv) (h : first ms m.fb m.fs = none) : Put (mfn ms) (spotV (m.fb, m.fs)) (spotV (m.tb, m.ts)) (mfn (ms ++ [m])) := by
  refine ⟨?_, fun v hv => ?_⟩
  · rw [mfn_at, first_snoc, h]
    simp
  · unfold mfn
    split
    · rename_i cs
      split
      · rename_i a b hcs
        rw [first_snoc]
        cases h2 : first ms a b with
        | some q => rfl
        | none =>
          have hne : ¬ (m.fb = a ∧ m.fs = b) := fun e => by
            obtain ⟨rfl, rfl⟩ := e
            apply hv
            unfold spotV
            congr 1
            apply Array.toList_inj.1
            exact hcs
          simp [hne]
      · rfl
    · rfl
theorem wide_spot : Wide Try.prog 61 := ⟨⟨2, by omega, by kernel_rfl, by kernel_rfl⟩, by rw [Try.underlying61]⟩
theorem key_spot (a b : Int) (ha : (Lit.int .i64 a).wf = true) (hb : (Lit.int .i64 b).wf = true) : ∃ l, keyOf Try.prog 61 (spotV (a, b)) = some l := by
  obtain ⟨m, hm⟩ : ∃ m, Try.prog.types.size = m + 1 := ⟨Try.prog.types.size - 1, by kernel_rfl⟩
  have c1 : Try.prog.cellsOf 3 = 1 := by kernel_rfl
  obtain ⟨L, hL⟩ := lits_struct (P := Try.prog) (k := 61) Try.underlying61 (cs := [.int .i64 a, .int .i64 b]) (by kernel_rfl) (by kernel_rfl) (m + 1) (by
    intro f hf
    simp only [List.mem_cons, List.not_mem_nil, or_false] at hf
    rcases hf with rfl | rfl
    · show ∃ L, Try.prog.keyLits (m + 1) 3 (([.int .i64 a, .int .i64 b] : List Value).take (Try.prog.cellsOf 3)) = some L
      rw [c1]; exact ⟨_, lits_int Try.underlying3 m ha⟩
    · show ∃ L, Try.prog.keyLits (m + 1) 3 (([.int .i64 b] : List Value).take (Try.prog.cellsOf 3)) = some L
      rw [c1]; exact ⟨_, lits_int Try.underlying3 m hb⟩)
  rw [show m + 1 + 1 = Try.prog.types.size + 1 from by omega] at hL
  exact key_of_lits wide_spot (by kernel_rfl) (by kernel_rfl) hL
theorem keyed_spot : Maps.Keyed Try.prog 61 := Maps.Keyed.of_law wide_spot.law
theorem infoSpot : (Try.prog.info? 61).map (fun i => (i.zero, i.size, i.bytes)) = some (some (.agg #[.int .i64 0, .int .i64 0]), 2, 16) := by kernel_rfl
theorem zeroSpot (W : World) : (zeroValue 61).run Try.prog W = .ok (.agg #[.int .i64 0, .int .i64 0]) W := by
  obtain ⟨i, h1, h2⟩ := Option.map_eq_some_iff.1 infoSpot
  simp only [Prod.mk.injEq] at h2
  simp [zeroValue, typeInfo, Sem.run_bind, h1, h2.1]
theorem mv_cells {w : World} {A : Option Addr} {n : Nat} {xs : List Mv} (h : dMv.C w A n xs) (i : Nat) (hi : i < n) : ∃ ad, A = some ad ∧ (xs.getD i default).Ok ∧ w.cell? (ad.add (i * 4)) = some (.int .i64 (xs.getD i default).fb) ∧ w.cell? ⟨(ad.add (i * 4)).block, (ad.add (i * 4)).off + 1, none⟩ = some (.int .i64 (xs.getD i default).fs) ∧ w.cell? ⟨(ad.add (i * 4)).block, (ad.add (i * 4)).off + 2, none⟩ = some (.int .i64 (xs.getD i default).tb) ∧ w.cell? ⟨(ad.add (i * 4)).block, (ad.add (i * 4)).off + 3, none⟩ = some (.int .i64 (xs.getD i default).ts) := by
  obtain ⟨ad, had, hc⟩ := h.2.2 (by omega)
  have hl := h.1
  have hx : xs[i]? = some (xs.getD i default) := by
    have : i < xs.length := by omega
    simp [this]
  obtain ⟨cs, h1, ⟨ho, rfl⟩, h3⟩ := hc i _ hx
  refine ⟨ad, had, ho, h3 0 _ rfl, ?_, ?_, ?_⟩
  · have := h3 1 _ rfl
    rw [← Addr.add_add] at this
    exact this
  · have := h3 2 _ rfl
    rw [← Addr.add_add] at this
    exact this
  · have := h3 3 _ rfl
    rw [← Addr.add_add] at this
    exact this
theorem mv_ok {w : World} {A : Option Addr} {n : Nat} {xs : List Mv} (h : dMv.C w A n xs) : ∀ x, x ∈ xs → x.Ok := fun x hx => by
  obtain ⟨i, hi, rfl⟩ := List.getElem_of_mem hx
  have hl := h.1
  obtain ⟨_, _, ho, _⟩ := mv_cells h i (by omega)
  rwa [show xs.getD i default = xs[i] from by simp [hi]] at ho
theorem first_ok (ms : List Mv) (h : ∀ x, x ∈ ms → x.Ok) (a b : Int) (p : Sp) (hf : first ms a b = some p) : (Lit.int .i64 p.1).wf = true ∧ (Lit.int .i64 p.2).wf = true := by
  unfold first at hf
  cases hg : ms.find? (fun m => decide (m.fb = a ∧ m.fs = b)) with
  | none => rw [hg] at hf; cases hf
  | some m =>
    rw [hg] at hf
    injection hf with hf
    subst hf
    have := h m (List.mem_of_find?_eq_some hg)
    exact ⟨this.c, this.d⟩
/-- Refs of which the first i are moved. -/
def mix (ms : List Mv) (rs : List Ref) (i : Nat) : List Ref := (rs.take i).map (mvR ms) ++ rs.drop i
theorem mix_zero (ms : List Mv) (rs : List Ref) : mix ms rs 0 = rs := by simp [mix]
theorem mix_end (ms : List Mv) (rs : List Ref) : mix ms rs rs.length = rs.map (mvR ms) := by simp [mix]
theorem mix_len (ms : List Mv) (rs : List Ref) (i : Nat) : (mix ms rs i).length = rs.length := by
  simp [mix]; omega
theorem mix_get (ms : List Mv) (rs : List Ref) (i : Nat) (h : i < rs.length) : (mix ms rs i)[i]? = some (rs.getD i default) := by
  unfold mix
  rw [List.getElem?_append_right (by simp; omega)]
  simp [Nat.min_eq_left (Nat.le_of_lt h), h]
theorem mix_succ (ms : List Mv) (rs : List Ref) (i : Nat) (h : i < rs.length) : (mix ms rs i).set i (mvR ms (rs.getD i default)) = mix ms rs (i + 1) := by
  unfold mix
  have hl : ((rs.take i).map (mvR ms)).length = i := by simp; omega
  have e : rs.getD i default = rs[i] := by simp [h]
  rw [List.set_append_right _ _ (by omega), hl, Nat.sub_self, List.drop_eq_getElem_cons h, List.set_cons_zero, List.take_add_one, List.getElem?_eq_getElem h, e]
  simp only [Option.toList_some, List.map_append, List.map_cons, List.map_nil, List.append_assoc, List.singleton_append]
theorem mix_same (ms : List Mv) (rs : List Ref) (i : Nat) (h : i < rs.length) (he : mvR ms (rs.getD i default) = rs.getD i default) : mix ms rs i = mix ms rs (i + 1) := by
  rw [← mix_succ ms rs i h, he]
  have := mix_get ms rs i h
  obtain ⟨hl, hg⟩ := List.getElem?_eq_some_iff.1 this
  rw [← hg, List.set_getElem_self]
theorem cnt_succ (ms : List Mv) (rs : List Ref) (i : Nat) (h : i < rs.length) : cnt ms (rs.take (i + 1)) = cnt ms (rs.take i) + (if (first ms (rs.getD i default).bin (rs.getD i default).slot).isSome then 1 else 0) := by
  unfold cnt
  rw [List.take_add_one, List.getElem?_eq_getElem h, List.filter_append, List.length_append]
  have e : rs.getD i default = rs[i] := by simp [h]
  rw [e]
  cases hb : (first ms rs[i].bin rs[i].slot).isSome <;> simp [List.filter_cons, hb]
theorem cnt_le (ms : List Mv) (rs : List Ref) (i : Nat) : cnt ms (rs.take i) ≤ i := by
  unfold cnt
  exact Nat.le_trans (List.length_filter_le _ _) (List.length_take_le _ _)
theorem moved_cells (r : Ref) (h : r.Ok) (p1 p2 : Int) : r.cells.take 33 ++ [.int .i64 p1, .int .i64 p2] ++ r.cells.drop 35 = ({ r with bin := p1, slot := p2 } : Ref).cells := by
  have hl : (nums .u8 r.s).length = 32 := by simp [nums, h.n]
  have e1 : r.cells.take 33 = nums .u8 r.s ++ [.int .i64 r.len] := by
    show (nums .u8 r.s ++ _).take 33 = _
    rw [List.take_append, List.take_of_length_le (by omega), hl]
    rfl
  have e2 : r.cells.drop 35 = [] := List.drop_of_length_le (by rw [Ref.cells_len h]; exact Nat.le_refl _)
  rw [e1, e2]
  simp [Ref.cells]
end Go.Proofs.Ytgofkhncaldheaa.RmS
