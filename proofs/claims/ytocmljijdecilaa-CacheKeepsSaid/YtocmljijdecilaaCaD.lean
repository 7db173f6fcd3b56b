/- slices.Delete of one known; condition: the row is a block of its own that reads as a list. -/
import Derived.Test.YtocmljijdecilaaCaC
import Derived.Deep.RegionLaw
import Derived.Laws.IdiomCopy
namespace Go.Proofs.Ytocmljijdecilaa.CaD
open Go Go.RowKit Go.Proofs.YtocmljijdecilaaW.PrintWords Go.Proofs.Ytocmljijdecilaa.K Go.Proofs.Ytocmljijdecilaa.Mp Go.Proofs.Ytocmljijdecilaa.Eq Go.Proofs.Ytocmljijdecilaa.CaS Go.Proofs.Ytocmljijdecilaa.CaC
set_option linter.unusedVariables false
set_option linter.unusedSimpArgs false
theorem addr0 (g n : Nat) : (⟨g, 0, none⟩ : Addr).add n = ⟨g, n, none⟩ := by
  unfold Addr.add
  split
  · rename_i h; rw [h]
  · simp
theorem kn_cell {w : World} {g n : Nat} {xs : List Kn} (h : dKn.C w (some ⟨g, 0, none⟩) n xs) (j : Nat) (k : Kn) (hj : xs[j]? = some k) (r : Nat) (v : Value) (hv : k.cells[r]? = some v) : w.cell? ⟨g, j * 3 + r, none⟩ = some v := by
  have hl := h.1
  have hjl := (List.getElem?_eq_some_iff.1 hj).1
  obtain ⟨ad, had, hc⟩ := h.2.2 (by omega)
  injection had with had
  subst had
  obtain ⟨cs, _, ⟨_, e2⟩, e3⟩ := hc j k hj
  subst e2
  have := e3 r v hv
  rw [addr0] at this
  exact this
theorem flat_get : ∀ (l : List Kn) (t : Nat), (l.flatMap Kn.cells)[t]? = (l[t / 3]?).bind (fun k => k.cells[t % 3]?)
  | [], t => by simp
  | k :: l, t => by
    rw [List.flatMap_cons]
    have hk : k.cells.length = 3 := rfl
    by_cases h : t < 3
    · rw [List.getElem?_append_left (by rw [hk]; exact h)]
      have e1 : t / 3 = 0 := by omega
      have e2 : t % 3 = t := by omega
      rw [e1, e2]; rfl
    · rw [List.getElem?_append_right (by rw [hk]; omega), hk, flat_get l (t - 3)]
      have e1 : t / 3 = (t - 3) / 3 + 1 := by omega
      have e2 : (t - 3) % 3 = t % 3 := by omega
      rw [e1, e2, List.getElem?_cons_succ]
theorem flat_len (l : List Kn) : (l.flatMap Kn.cells).length = l.length * 3 := by
  induction l with
  | nil => rfl
  | cons k l ih => rw [List.flatMap_cons, List.length_append, ih]; show 3 + _ = _; simp only [List.length_cons]; omega
theorem zeroKn (W : World) : (zeroValue 68).run Try.prog W = .ok (.agg #[.int .i64 0, .slice none 0 0, .map none]) W := by
  obtain ⟨i, h1, h2⟩ := Option.map_eq_some_iff.1 infoKn
  simp only [Prod.mk.injEq] at h2
  simp [zeroValue, typeInfo, Sem.run_bind, h1, h2.1]
theorem infoKn0 : ∃ i0, Try.prog.info? 68 = some i0 ∧ i0.size = 3 := by
  obtain ⟨i, h1, h2⟩ := Option.map_eq_some_iff.1 infoKn
  simp only [Prod.mk.injEq] at h2
  exact ⟨i, h1, h2.2.1⟩
theorem run_clear1 (w : World) (ty : TypeId) (b o c : Nat) (hc : ∀ j, j < 3 → (w.cell? ⟨b, o + j, none⟩).isSome = true) (hf : ∀ j, j < 3 → w.frozen? ⟨b, o + j, none⟩ = false) :
    (Builtin.clear_ #[57] ty #[.slice (some ⟨b, o, none⟩) 1 c]).run Try.prog w = .ok (.tuple #[]) (w.setCells b o [.int .i64 0, .slice none 0 0, .map none]) := by
  have hst := run_storeCells_cells (P := Try.prog) b o [.int .i64 0, .slice none 0 0, .map none] 0 w (by simpa using hc) (by simpa using hf) (by intro v hv; simp at hv; rcases hv with rfl | rfl | rfl <;> rfl)
  simp only [Nat.add_zero] at hst
  have hz : (Builtin.zeroCells (#[.int .i64 0, .slice none 0 0, .map none] : Array Value) 1).toList = [.int .i64 0, .slice none 0 0, .map none] := by
    apply List.ext_getElem
    · simp [Builtin.zeroCells]
    · intro i h1 h2
      have h2 : i < 3 := h2
      have : i = 0 ∨ i = 1 ∨ i = 2 := by omega
      rcases this with rfl | rfl | rfl <;> simp [Builtin.zeroCells]
  simp [Builtin.clear_, run_underlying Try.underlying57, zeroKn, Value.cells, hz, hst]
/-- What lies behind: all ahead of i, then all behind it. -/
theorem del_reads {w : World} {g n i : Nat} {xs : List Kn} (h : dKn.C w (some ⟨g, 0, none⟩) n xs) (hi : i < n) (c0 c1 c2 : Value) : dKn.C ((w.drew.setCells g (i * 3) ((xs.drop (i + 1)).flatMap Kn.cells)).setCells g ((n - 1) * 3) [c0, c1, c2]) (some ⟨g, 0, none⟩) (n - 1) (xs.take i ++ xs.drop (i + 1)) := by
  have hl := h.1
  have hm := h.2.1
  refine ⟨by rw [List.length_append, List.length_take, List.length_drop]; omega, by omega, fun h0 => ⟨_, rfl, fun j k hj => ?_⟩⟩
  have hjl : j < n - 1 := by
    have := (List.getElem?_eq_some_iff.1 hj).1
    rw [List.length_append, List.length_take, List.length_drop] at this
    omega
  obtain ⟨ad, had, hc⟩ := h.2.2 (by omega)
  injection had with had
  subst had
  have hsome : ∀ q (hq : q < n) r, r < 3 → (w.drew.cell? ⟨g, q * 3 + r, none⟩).isSome = true := fun q hq r hr => by
    have hx : xs[q]? = some xs[q] := List.getElem?_eq_getElem (by omega)
    have : xs[q].cells[r]? = some (xs[q].cells[r]'(by show r < 3; exact hr)) := List.getElem?_eq_getElem _
    have e := kn_cell h q _ hx r _ this
    show (w.cell? _).isSome = true
    rw [e]; rfl
  by_cases hji : j < i
  · have hx : xs[j]? = some k := by
      rw [List.getElem?_append_left (by rw [List.length_take]; omega), List.getElem?_take_of_lt hji] at hj
      exact hj
    obtain ⟨cs, e1, e2, e3⟩ := hc j k hx
    refine ⟨cs, e1, e2, fun r u hu => ?_⟩
    have hr : r < 3 := by
      have := (List.getElem?_eq_some_iff.1 hu).1
      rw [e2.2] at this
      exact this
    rw [← e3 r u hu, addr0]
    rw [World.cell?_setCells_out _ _ _ _ _ (fun _ _ => Or.inl (by show j * 3 + r < _; omega)), World.cell?_setCells_out _ _ _ _ _ (fun _ _ => Or.inl (by show j * 3 + r < _; omega))]
    rfl
  · have hx : xs[j + 1]? = some k := by
      rw [List.getElem?_append_right (by rw [List.length_take]; omega), List.length_take, List.getElem?_drop] at hj
      rw [← hj]
      congr 1
      omega
    obtain ⟨cs, e1, e2, e3⟩ := hc (j + 1) k hx
    refine ⟨cs, e1, e2, fun r u hu => ?_⟩
    have hr : r < 3 := by
      have := (List.getElem?_eq_some_iff.1 hu).1
      rw [e2.2] at this
      exact this
    rw [addr0, World.cell?_setCells_out _ _ _ _ _ (fun _ _ => Or.inl (by show j * 3 + r < _; omega))]
    have hlen : ((xs.drop (i + 1)).flatMap Kn.cells).length = (n - (i + 1)) * 3 := by rw [flat_len, List.length_drop, hl]
    have hq : (j - i) * 3 + r < ((xs.drop (i + 1)).flatMap Kn.cells).length := by rw [hlen]; omega
    have hin := World.cell?_setCells_in g ((xs.drop (i + 1)).flatMap Kn.cells) (i * 3) w.drew (fun t ht => by
      rw [hlen] at ht
      have := hsome (i + t / 3) (by omega) (t % 3) (by omega)
      rwa [show (i + t / 3) * 3 + t % 3 = i * 3 + t by omega] at this) ((j - i) * 3 + r) hq
    rw [show i * 3 + ((j - i) * 3 + r) = j * 3 + r by omega] at hin
    refine hin.trans ?_
    rw [← List.getElem?_eq_getElem hq, flat_get, List.getElem?_drop, show ((j - i) * 3 + r) / 3 = j - i by omega, show ((j - i) * 3 + r) % 3 = r by omega, show i + 1 + (j - i) = j + 1 by omega, hx]
    rw [e2.2] at hu
    exact hu
theorem grown_set (w : World) (g o : Nat) (vs : List Value) : w.grownBy (w.setCells g o vs) (some g) := by
  induction vs generalizing w o with
  | nil => exact World.grownBy.refl _ _
  | cons v vs ih => exact World.grownBy.trans (obj_grown w g o v) (ih (w.setCell ⟨g, o, none⟩ v) (o + 1))
set_option maxHeartbeats 4000000 in
set_option maxRecDepth 1000000 in
theorem del_calls_j {w : World} {g n cap i j : Nat} (hji : j = i + 1) {xs : List Kn} {cur : Array Value} {e : TypeId} (h : dKn.C w (some ⟨g, 0, none⟩) n xs) (hcur : w.heap[g]? = some (.cells cur e (0, 0))) (hi : i < n) (hcap : n ≤ cap) (hm : cap ≤ 9223372036854775807) :
    Calls Try.prog 26 #[.slice (some ⟨g, 0, none⟩) n cap, .int .i64 i, .int .i64 (j : Int)] w fun e w' => e = .returned (.slice (some ⟨g, 0, none⟩) (n - 1) cap) ∧ dKn.C w' (some ⟨g, 0, none⟩) (n - 1) (xs.take i ++ xs.drop (i + 1)) ∧ w.grownBy w' (some g) := by
  obtain ⟨i0, hi0, hz1⟩ := infoKn0
  have hjn : j ≤ n := by omega
  have hij : i ≤ j := by omega
  have hij1 : j - i = 1 := by omega
  obtain ⟨news, hnews⟩ : ∃ news, news = (xs.drop (i + 1)).flatMap Kn.cells := ⟨_, rfl⟩
  have hl := h.1
  have hlen : news.length = (n - j) * 3 := by rw [hnews, flat_len, List.length_drop, hl, hji]
  have hfr : ∀ t, w.frozen? ⟨g, t, none⟩ = false := fun t => by simp [World.frozen?, hcur]
  have hsome : ∀ t, t < n * 3 → (w.cell? ⟨g, t, none⟩).isSome = true := fun t ht => by
    have hx : xs[t / 3]? = some (xs[t / 3]'(by omega)) := List.getElem?_eq_getElem (by omega)
    have e := kn_cell h (t / 3) _ hx (t % 3) _ (List.getElem?_eq_getElem (show t % 3 < (xs[t / 3]'(by omega)).cells.length from by show t % 3 < 3; omega))
    rw [show t / 3 * 3 + t % 3 = t by omega] at e
    rw [e]; rfl
  obtain ⟨A, hA, hsrc⟩ : ∃ A : Addr, (if cap = j then some (⟨g, 0, none⟩ : Addr) else some ⟨g, j * 3, none⟩) = some A ∧ Hid (∀ t u, news[t]? = some u → w.drew.cell? (A.add t) = some u) := by
    by_cases hc : cap = j
    · refine ⟨⟨g, 0, none⟩, by simp [hc], fun t u hu => ?_⟩
      have h0 : news.length = 0 := by rw [hlen]; omega
      rw [List.length_eq_zero_iff.1 h0] at hu
      simp at hu
    · refine ⟨⟨g, j * 3, none⟩, by simp [hc], fun t u hu => ?_⟩
      rw [hnews, flat_get, List.getElem?_drop] at hu
      obtain ⟨k, hk, hu⟩ := Option.bind_eq_some_iff.1 hu
      rw [Addr.add_lit]
      have e := kn_cell h _ k hk _ u hu
      rw [show (i + 1 + t / 3) * 3 + t % 3 = j * 3 + t by omega] at e
      exact e
  have s1 : Hid (news.length = (n - j) * 3) := hlen
  have s2 : Hid (∀ u ∈ news, u.oneCell' = true) := by
    intro u hu
    rw [hnews] at hu
    obtain ⟨k, hk, hu⟩ := List.mem_flatMap.1 hu
    obtain ⟨j, hj, rfl⟩ := List.getElem_of_mem (List.mem_of_mem_drop hk)
    simp [Kn.cells] at hu
    rcases hu with rfl | rfl | rfl <;> rfl
  have s3 : Hid (∀ t, t < news.length → (w.drew.cell? ⟨g, 0 + i * 3 + t, none⟩).isSome = true ∧ w.drew.frozen? ⟨g, 0 + i * 3 + t, none⟩ = false) := by
    intro t ht
    rw [hlen] at ht
    exact ⟨hsome _ (by omega), hfr _⟩
  obtain ⟨W1, hW1⟩ : ∃ W1, W1 = w.drew.setCells g (0 + i * 3) news := ⟨_, rfl⟩
  have hcl : ∀ ty, (Builtin.clear_ #[57] ty #[.slice (some ⟨g, (i + (n - j)) * 3, none⟩) (n - (i + (n - j))) (cap - (i + (n - j)))]).run Try.prog W1 = .ok (.tuple #[]) (W1.setCells g ((n - 1) * 3) [.int .i64 0, .slice none 0 0, .map none]) := fun ty => by
   rw [show i + (n - j) = n - 1 by omega, show n - (n - 1) = 1 by omega]
   exact run_clear1 W1 ty g _ _ (fun j hj => by
    rw [hW1, Nat.zero_add]
    by_cases hn : i + 1 = n
    · have : news = [] := List.eq_nil_of_length_eq_zero (by rw [hlen]; omega)
      rw [this]
      exact hsome _ (by omega)
    · rw [World.cell?_setCells_out _ _ _ _ _ (fun _ _ => Or.inr (by rw [hlen]; show _ ≤ (n - 1) * 3 + j; omega))]
      exact hsome _ (by omega)) (fun j hj => by rw [hW1, World.frozen?_setCells]; exact hfr _)
  have HD := Aside0.mk (del_reads h hi (.int .i64 0) (.slice none 0 0) (.map none))
  have HW := Aside0.mk hW1
  have HNW := Aside0.mk hnews
  have hic : i ≤ cap := by omega
  have hjc : j ≤ cap := by omega
  have hne : ((i : Int) == (j : Int)) = false := by simp; omega
  clear hji
  clear hW1 hnews h hcur hl hsome hfr hlen
  go_enter Try.func26, Try.ntmps26
  go_wp2_with fail
  go_region_law (refine step_append_room rfl (.tmp 22) (.tmp 25) 57 rfl 68 i0 3 Try.underlying57 hi0 hz1 g 0 i cap (by simp [Act.eval, Act.put]) A (n - j) (cap - j) news (by simp [Act.eval, Act.put]) s1.out hsrc.out s2.out (by omega) s3.out ?_; rw [← HW.out])
  have hk1 : i + (n - j) ≤ n := by omega
  have hk2 : i + (n - j) ≤ cap := by omega
  go_wp2
  go_ret
  refine ⟨by rw [show i + (n - j) = n - 1 by omega]; rfl, ?_, ?_⟩
  · rw [HW.out, HNW.out, Nat.zero_add]
    exact HD.out
  · rw [HW.out]
    exact World.grownBy.trans (World.grownBy.trans (b := w.drew) ⟨rfl, rfl, rfl, Nat.le_refl _, fun _ _ _ => rfl⟩ (grown_set _ g _ _)) (grown_set _ g _ _)
theorem del_calls {w : World} {g n cap i : Nat} {xs : List Kn} {cur : Array Value} {e : TypeId} (h : dKn.C w (some ⟨g, 0, none⟩) n xs) (hcur : w.heap[g]? = some (.cells cur e (0, 0))) (hi : i < n) (hcap : n ≤ cap) (hm : cap ≤ 9223372036854775807) :
    Calls Try.prog 26 #[.slice (some ⟨g, 0, none⟩) n cap, .int .i64 i, .int .i64 ((i : Int) + 1)] w fun e w' => e = .returned (.slice (some ⟨g, 0, none⟩) (n - 1) cap) ∧ dKn.C w' (some ⟨g, 0, none⟩) (n - 1) (xs.take i ++ xs.drop (i + 1)) ∧ w.grownBy w' (some g) :=
  del_calls_j (j := i + 1) rfl h hcur hi hcap hm
end Go.Proofs.Ytocmljijdecilaa.CaD
