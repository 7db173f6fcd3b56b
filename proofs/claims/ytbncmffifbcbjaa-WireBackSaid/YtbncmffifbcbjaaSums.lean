/- What a row's argument that is an array of numbers reads as; condition: the argument is read as the form reads it. -/
import Derived.Test.YtbncmffifbcbjaaHd
import Derived.Deep.Slices
import Derived.WideKeyArr2
import Derived.SizedLaws
namespace Go.Proofs.YtbncmffifbcbjaaW.PrintWords
open Go Go.ChangeShapes Go.WideShapes Go.RowKit
theorem mapM_each {α β : Type} {f : α → Option β} : ∀ {l : List α} {ys : List β}, l.mapM f = some ys → ∀ x, x ∈ l → ∃ y, f x = some y
  | [], _, _, x, hx => by cases hx
  | a :: l, ys, h, x, hx => by
    rw [List.mapM_cons] at h
    simp only [bind, Option.bind_eq_some_iff, pure, Option.some.injEq] at h
    obtain ⟨y, hy, zs, hz, _⟩ := h
    rcases List.mem_cons.1 hx with rfl | hx
    · exact ⟨y, hy⟩
    · exact mapM_each hz x hx
def numOf : Value → Int
  | .int _ a => a
  | _ => 0
/-- An array of numbers: its cells. -/
theorem arr_cells {H : Type} {enc : TypeId × Value → H} {P : Program} {k e : TypeId} {n : Nat} {q : IntKind} {W : World} {base : Nat} {sp : Nat → Bool} {held : Bool} (A : WideMaps.ArrKey P k e n) (he : P.underlying e = some (.int q)) {xs : List Value} (hn : xs.length = n) {fuel : Nat} {y : DataW H × List MemPlace}
    (hf : DataW.trod enc P W base sp held fuel k xs = some y) : ∃ l : List Int, xs = nums q l ∧ l.length = n ∧ ∀ x ∈ l, (Lit.int q x).wf = true := by
  cases fuel with
  | zero => simp [DataW.trod] at hf
  | succ m =>
    rw [DataW.trod_step] at hf
    unfold DataW.trodStep at hf
    simp only [A.hu] at hf
    rw [if_pos (by rw [A.size]; exact hn)] at hf
    simp only [Option.map_eq_some_iff] at hf
    obtain ⟨ys, hy, _⟩ := hf
    have hv : ∀ i, (hi : i < xs.length) → ∃ a, xs[i] = .int q a ∧ (Lit.int q a).wf = true := fun i hi => by
      obtain ⟨y, h1⟩ := mapM_each hy i (by simp only [List.mem_range]; omega)
      obtain ⟨a, ea, _, wa⟩ := DataW.trod_int he h1
      rw [A.one, Nat.mul_one] at ea
      have h2 : (xs.drop i).take 1 = [xs[i]] := by rw [List.drop_eq_getElem_cons hi]; rfl
      rw [h2] at ea
      injection ea with ea _
      exact ⟨a, ea, wa⟩
    refine ⟨xs.map numOf, ?_, by simpa using hn, fun x hx => ?_⟩
    · refine List.ext_getElem (by simp [nums]) fun i h1 h2 => ?_
      obtain ⟨a, ea, _⟩ := hv i h1
      simp only [nums, List.getElem_map]
      rw [ea]
      rfl
    · obtain ⟨v, hvm, rfl⟩ := List.mem_map.1 hx
      obtain ⟨i, hi, rfl⟩ := List.getElem_of_mem hvm
      obtain ⟨a, ea, wa⟩ := hv i hi
      rw [ea]
      exact wa
/-- An array of numbers, by value. -/
theorem arr_ints {H : Type} {enc : TypeId × Value → H} {P : Program} {k e : TypeId} {n : Nat} {q : IntKind} {W : World} {base : Nat} {sp : Nat → Bool} {held : Bool} (A : WideMaps.ArrKey P k e n) (he : P.underlying e = some (.int q)) {xs : Array Value} (hn : xs.size = n) {d : DataW H} {ps : List MemPlace}
    (hd : DataW.Trod enc P W base sp held k (.agg xs) d ps) : ∃ l : List Int, xs = (nums q l).toArray ∧ l.length = n ∧ ∀ x ∈ l, (Lit.int q x).wf = true := by
  obtain ⟨fuel, hf⟩ := hd
  obtain ⟨l, h1, h2, h3⟩ := arr_cells A he (show (Value.agg xs).cells.toList.length = n from by simpa [Value.cells] using hn) hf
  refine ⟨l, ?_, h2, h3⟩
  have h4 : xs.toList = nums q l := by simpa [Value.cells] using h1
  rw [← h4]
/-- A slice of arrays of numbers. -/
structure SumsC (w : World) (A : Option Addr) (k : Nat) (ls : List (List Int)) : Prop where
  len : ls.length = k
  lim : k ≤ maxLen
  each : ∀ s, s ∈ ls → s.length = 32 ∧ ∀ x ∈ s, (Lit.int .u8 x).wf = true
  is : 0 < k → ∃ ad, A = some ad
  cells : ∀ ad, A = some ad → ∀ i, i < k → Go.Proofs.Ytbncmffifbcbjaa.Hd.RangeA w (ad.add (i * 32)) (nums .u8 (ls.getD i []))
theorem SumsC.below {w w1 : World} {A : Option Addr} {k : Nat} {ls : List (List Int)} (h : SumsC w A k ls) (hb : Below w.heap.size w w1) : SumsC w1 A k ls :=
  ⟨h.len, h.lim, h.each, h.is, fun ad ha i hi => (h.cells ad ha i hi).below hb⟩
theorem add_add' (a : Addr) (m n : Nat) : (a.add m).add n = a.add (m + n) := by
  unfold Addr.add
  by_cases h1 : m = 0
  · subst h1; simp
  · by_cases h2 : n = 0
    · subst h2; simp
    · rw [if_neg h1, if_neg h2, if_neg (by omega)]
      simp [Nat.add_assoc]
theorem choose_list {α : Type} [Inhabited α] {p : Nat → α → Prop} : ∀ n : Nat, (∀ i, i < n → ∃ x, p i x) → ∃ l : List α, l.length = n ∧ ∀ i, i < n → p i (l.getD i default)
  | 0, _ => ⟨[], rfl, fun i hi => by omega⟩
  | n + 1, h => by
    obtain ⟨l, hl, hp⟩ := choose_list n (fun i hi => h i (by omega))
    obtain ⟨x, hx⟩ := h n (by omega)
    refine ⟨l ++ [x], by simp [hl], fun i hi => ?_⟩
    by_cases e : i < n
    · rw [List.getD_eq_getElem?_getD, List.getElem?_append_left (by omega), ← List.getD_eq_getElem?_getD]
      exact hp i e
    · obtain rfl : i = n := by omega
      rw [List.getD_eq_getElem?_getD, List.getElem?_append_right (by omega), hl]
      simpa using hx
theorem sums_open {H : Type} {enc : TypeId × Value → H} {P : Program} {t k e : TypeId} {W : World} {base : Nat} {sp : Nat → Bool} {held : Bool} (A : WideMaps.ArrKey P k e 32) (he : P.underlying e = some (.int .u8)) (ht : P.underlying t = some (.slice k)) {a : Option Addr} {len cap : Nat} {fuel : Nat} {y : DataW H × List MemPlace}
    (hf : DataW.trod enc P W base sp held fuel t [.slice a len cap] = some y) : ∃ ls, SumsC W a len ls ∧ len ≤ cap := by
  rcases Go.Deep.open_slice ht hf with ⟨hcs, _⟩ | ⟨x, l, c, m, n, D, Pl, hcs, _, hl, hm, hmm, _, hx⟩
  · injection hcs with h1 _
    injection h1 with h1 h2 h3
    subst h1; subst h2; subst h3
    exact ⟨[], ⟨rfl, by simp [maxLen], fun s hs => (by cases hs), fun h => (by omega), fun ad ha => (by cases ha)⟩, Nat.le_refl _⟩
  · injection hcs with h1 _
    injection h1 with h1 h2 h3
    subst h1; subst h2; subst h3
    have hlm : len ≤ m := by rw [hmm]; split <;> omega
    obtain ⟨ls, hls, hp⟩ := choose_list (p := fun i (s : List Int) => s.length = 32 ∧ (∀ x ∈ s, (Lit.int .u8 x).wf = true) ∧ Go.Proofs.Ytbncmffifbcbjaa.Hd.RangeA W (x.add (i * 32)) (nums .u8 s)) len (fun i hi => by
      obtain ⟨cs', g1, g2⟩ := hx i (by omega)
      rw [A.size] at g1
      obtain ⟨_, hlen, hcell⟩ := World.cells?_some g1
      obtain ⟨s, e1, e2, e3⟩ := arr_cells A he hlen g2
      refine ⟨s, e2, e3, fun j v hv => ?_⟩
      rw [← e1] at hv
      obtain ⟨hj, hv⟩ := List.getElem?_eq_some_iff.1 hv
      have := hcell j (by omega)
      rw [← hv]
      simpa [hj] using this)
    refine ⟨ls, ⟨hls, Nat.le_trans hl hm, fun s hs => ?_, fun _ => ⟨x, rfl⟩, fun ad ha i hi => ?_⟩, hl⟩
    · obtain ⟨i, hi, rfl⟩ := List.getElem_of_mem hs
      have := hp i (by omega)
      rw [show ls.getD i default = ls[i] from by simp [hi]] at this
      exact ⟨this.1, this.2.1⟩
    · injection ha with ha
      subst ha
      exact (hp i hi).2.2
end Go.Proofs.YtbncmffifbcbjaaW.PrintWords
