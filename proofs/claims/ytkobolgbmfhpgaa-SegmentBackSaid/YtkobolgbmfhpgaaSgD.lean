/- The lists that a number isn't in: slices.IndexFunc and slices.DeleteFunc with segment.Champions' closure; condition: the row is a block of its own, the lists lie elsewhere. -/
import Derived.Test.YtkobolgbmfhpgaaSgV
import Derived.Shelf.Abstract
import Derived.Laws.IdiomCopy
namespace Go.Proofs.Ytkobolgbmfhpgaa.SgD
open Go Go.RowKit Go.Maps Go.Proofs.YtkobolgbmfhpgaaW.PrintWords Go.Proofs.Ytkobolgbmfhpgaa.K Go.Proofs.Ytkobolgbmfhpgaa.SgC Go.Proofs.Ytkobolgbmfhpgaa.SgL Go.Proofs.Ytkobolgbmfhpgaa.SgB
set_option linter.unusedVariables false
set_option linter.unusedSimpArgs false
theorem addr0 (g n : Nat) : (⟨g, 0, none⟩ : Addr).add n = ⟨g, n, none⟩ := by
  unfold Addr.add
  split
  · rename_i h; rw [h]
  · simp
theorem clo_calls (d : Ds) (l : List Int) (t : Int) (p : Nat) (w : World) (hd : TL w d l) (hp : w.cell? ⟨p, 0, none⟩ = some (.int .i64 t)) :
    Calls Try.prog 29 #[.slice d.a d.n d.c, .pointer (some ⟨p, 0, none⟩)] w fun e w' => e = .returned (.bool (decide (t ∈ l))) ∧ Below w.heap.size w w' := by
  have HI := Aside0.mk (contains_calls d.a d.n d.c l t w hd.row)
  clear hd
  go_enter Try.func29, Try.ntmps29
  go_wp2_with (go_at_call 30; (with_reducible refine (HI.out).mono ?_); rintro e w' ⟨rfl, hb4⟩; have HB4 := Aside0.mk hb4; clear hb4)
  go_ret
  exact ⟨rfl, HB4.out⟩
/-- Where the first is that q holds of, or -1. -/
def idxP (q : Ds → Bool) : List Ds → Nat → Int
  | [], _ => -1
  | x :: l, i => if q x = true then (i : Int) else idxP q l (i + 1)
theorem idxP_none (q : Ds → Bool) : ∀ (l : List Ds) (i : Nat), idxP q l i = -1 → l.filter (fun d => !q d) = l
  | [], _, _ => rfl
  | x :: l, i, h => by
    unfold idxP at h
    split at h
    · omega
    · rename_i hx
      have : q x = false := by simpa using hx
      rw [List.filter_cons_of_pos (by simp [this]), idxP_none q l (i + 1) h]
theorem idxP_some (q : Ds → Bool) : ∀ (l : List Ds) (i : Nat), idxP q l i ≠ -1 → ∃ j : Nat, idxP q l i = ((i + j : Nat) : Int) ∧ j < l.length ∧ (l.take j).filter (fun d => !q d) = l.take j ∧ q (l.getD j default) = true
  | [], _, h => absurd rfl h
  | x :: l, i, h => by
    unfold idxP at h ⊢
    split
    · rename_i hx
      exact ⟨0, rfl, by simp, rfl, by simpa using hx⟩
    · rename_i hx
      rw [if_neg hx] at h
      obtain ⟨j, h1, h2, h3, h4⟩ := idxP_some q l (i + 1) h
      have hf : q x = false := by simpa using hx
      refine ⟨j + 1, by rw [h1]; congr 1; omega, by simp; omega, ?_, by simpa using h4⟩
      rw [List.take_succ_cons, List.filter_cons_of_pos (by simp [hf]), h3]
theorem indexF_calls (A : Option Addr) (n c : Nat) (ds : List Ds) (f : Ds → List Int) (t : Int) (p : Nat) (w : World) (h : dSl.C w A n ds) (ht : Tls w f ds) (hp : w.cell? ⟨p, 0, none⟩ = some (.int .i64 t)) :
    Calls Try.prog 46 #[.slice A n c, .func (.func 29) #[] #[.pointer (some ⟨p, 0, none⟩)]] w fun e w' => e = .returned (.int .i64 (idxP (fun d => decide (t ∈ f d)) ds 0)) ∧ Below w.heap.size w w' := by
  have eg : ∀ args w, (callFunc 29 args).run Try.prog w = .ok (.enter 29 args) w := enters_of Try.func29 (by kernel_rfl) rfl
  have H := Aside0.mk h
  have HT := Aside0.mk ht
  have HBB := Aside0.mk hp
  have hn := h.2.1
  have hl := h.1
  clear h hp ht
  go_enter Try.func46, Try.ntmps46
  go_wp2
  go_loopg [8] (n + 1) (fun gk v8 wr => ∃ i : Nat, v8 = .int .i64 i ∧ i ≤ n ∧ Aside0 (gk = n - i + 1) ∧ Aside0 (idxP (fun d => decide (t ∈ f d)) ds 0 = idxP (fun d => decide (t ∈ f d)) (ds.drop i) i) ∧ Aside0 (Below w.heap.size w wr))
  case atStart => exact ⟨0, rfl, Nat.zero_le _, ⟨rfl⟩, ⟨by rw [List.drop_zero]⟩, ⟨Below.refl _ _⟩⟩
  case round =>
    obtain ⟨i, rfl, hi, HG, HAT, HB⟩ := hrel
    by_cases hlt : i < n
    · have h1 : decide ((i : Int) < (n : Int)) = true := by simp; omega
      have hp1 : (0 : Int) ≤ (i : Int) := by omega
      have hp2 : (i : Int) < (n : Int) := by omega
      obtain ⟨ad, rfl, b0⟩ := at_sl (Kd.C_below H.out HB.out) i hlt
      have hd : ds.drop i = ds.getD i default :: ds.drop (i + 1) := by
        rw [List.drop_eq_getElem_cons (by omega)]
        simp [show i < ds.length from by omega]
      have hm : ds.getD i default ∈ ds := by
        rw [show ds.getD i default = ds[i]'(by omega) from by simp [show i < ds.length by omega]]
        exact List.getElem_mem _
      have HAT2 := Aside0.mk (show idxP (fun d => decide (t ∈ f d)) ds 0 = if decide (t ∈ f (ds.getD i default)) = true then (i : Int) else idxP (fun d => decide (t ∈ f d)) (ds.drop (i + 1)) (i + 1) from HAT.out.trans (by rw [hd]; rfl))
      have HTL := Aside0.mk ((HT.out _ hm).below HB.out)
      clear hd HAT hm
      generalize ds.getD i default = k at *
      have HCL := Aside0.mk (clo_calls k (f k) t p wr HTL.out ((HB.out.cell (World.block_lt_of_cell? _ _ HBB.out)).trans HBB.out))
      cases he : decide (t ∈ f k) with
      | true =>
        have hat := HAT2.out
        rw [he, if_pos rfl] at hat
        have HAT3 := Aside0.mk hat
        rw [he] at HCL
        clear hat HAT2 he HTL
        obtain ⟨ka, kn, kc⟩ := k
        simp only at *
        go_wp2_with (go_at_call 29; (with_reducible refine (HCL.out).mono ?_); rintro e w' ⟨rfl, hb4⟩; have HB4 := Aside0.mk (below_then HB.out HB.out.size hb4); clear hb4)
        go_ret
        exact ⟨by rw [HAT3.out]; rfl, HB4.out⟩
      | false =>
        have hat := HAT2.out
        rw [he, if_neg (by simp)] at hat
        have HAT3 := Aside0.mk hat
        rw [he] at HCL
        clear hat HAT2 he HTL
        obtain ⟨ka, kn, kc⟩ := k
        simp only at *
        go_wp2_with (go_at_call 29; (with_reducible refine (HCL.out).mono ?_); rintro e w' ⟨rfl, hb4⟩; have HB4 := Aside0.mk (below_then HB.out HB.out.size hb4); clear hb4)
        go_roundg (n - (i + 1) + 1)
        case measure => have := HG.out; omega
        case rel => exact ⟨i + 1, by go_num, by omega, ⟨rfl⟩, HAT3, HB4⟩
    · obtain rfl : i = n := by omega
      have h1 : decide ((i : Int) < (i : Int)) = false := by simp
      have hat := HAT.out
      rw [List.drop_of_length_le (by omega)] at hat
      have HAT3 := Aside0.mk hat
      clear hat
      go_wp2
      go_ret
      exact ⟨by rw [HAT3.out]; rfl, HB.out⟩
/-- A store of one descriptor. -/
theorem C_set {w : World} {g n : Nat} {ds : List Ds} (h : dSl.C w (some ⟨g, 0, none⟩) n ds) (i : Nat) (hi : i < n) (d : Ds) : dSl.C (w.setCell ⟨g, i, none⟩ (.slice d.a d.n d.c)) (some ⟨g, 0, none⟩) n (ds.set i d) := by
  have hl := h.1
  refine ⟨by rw [List.length_set]; exact hl, h.2.1, fun h0 => ⟨_, rfl, fun j x hj => ?_⟩⟩
  obtain ⟨ad, had, hc⟩ := h.2.2 h0
  injection had with had
  subst had
  have hjn : j < n := by have := (List.getElem?_eq_some_iff.1 hj).1; rw [List.length_set] at this; omega
  refine ⟨x.cells, rfl, ⟨trivial, rfl⟩, fun r u hu => ?_⟩
  have hr : r = 0 := by
    have := (List.getElem?_eq_some_iff.1 hu).1
    have h1 : x.cells.length = 1 := rfl
    omega
  subst hr
  obtain rfl : Value.slice x.a x.n x.c = u := by simpa [Ds.cells] using hu
  rw [addr0]
  show World.cell? _ ⟨g, j * 1 + 0, none⟩ = _
  rw [Nat.mul_one, Nat.add_zero]
  by_cases e : i = j
  · subst e
    rw [List.getElem?_set_self (by omega)] at hj
    injection hj with hj
    subst hj
    obtain ⟨cs, e1, ⟨_, e2⟩, e3⟩ := hc i _ (List.getElem?_eq_getElem (by omega))
    subst e2
    have x1 := e3 0 _ rfl
    rw [addr0] at x1
    have x2 : World.cell? w ⟨g, i, none⟩ = some (.slice (ds[i]'(by omega)).a (ds[i]'(by omega)).n (ds[i]'(by omega)).c) := by
      rw [← x1]
      congr 2
      show i = i * 1 + 0
      omega
    exact World.cell?_setCell_same w _ _ x2
  · rw [List.getElem?_set_ne e] at hj
    obtain ⟨cs, e1, ⟨_, e2⟩, e3⟩ := hc j x hj
    subst e2
    have x1 := e3 0 _ rfl
    rw [addr0] at x1
    rw [World.cell?_setCell_other _ _ _ _ (fun h => e (by injection h))]
    rw [← x1]
    congr 2
    show j = j * 1 + 0
    omega
theorem run_clear (w : World) (ty : TypeId) (b o n c : Nat) (hc : ∀ j, j < n → (w.cell? ⟨b, o + j, none⟩).isSome = true) (hf : ∀ j, j < n → w.frozen? ⟨b, o + j, none⟩ = false) :
    (Builtin.clear_ #[22] ty #[.slice (some ⟨b, o, none⟩) n c]).run Try.prog w = .ok (.tuple #[]) (w.setCells b o (List.replicate n (.slice none 0 0))) := by
  have hst := run_storeCells_cells (P := Try.prog) b o (List.replicate n (Value.slice none 0 0)) 0 w (by simpa using hc) (by simpa using hf) (by intro v hv; rw [List.eq_of_mem_replicate hv]; rfl)
  simp only [Nat.add_zero] at hst
  have hz : (Builtin.zeroCells (#[.slice none 0 0] : Array Value) n).toList = List.replicate n (.slice none 0 0) := by
    apply List.ext_getElem
    · simp [Builtin.zeroCells]
    · intro i h1 h2
      have h2 : i < n := by simpa using h2
      have h3 : i % 1 = 0 := Nat.mod_one i
      simp [Builtin.zeroCells, h3]
  have hze : (zeroValue 24).run Try.prog w = .ok (.slice none 0 0) w := by
    obtain ⟨i, h1, h2⟩ := Option.map_eq_some_iff.1 infoSl
    simp only [Prod.mk.injEq] at h2
    simp [zeroValue, typeInfo, Sem.run_bind, h1, h2.1]
  cases n with
  | zero => simp [Builtin.clear_, run_underlying Try.underlying22]; rfl
  | succ n => simp [Builtin.clear_, run_underlying Try.underlying22, hze, Value.cells, hz, hst]
theorem grown_set (w : World) (g o : Nat) (vs : List Value) : w.grownBy (w.setCells g o vs) (some g) := by
  induction vs generalizing w o with
  | nil => exact World.grownBy.refl _ _
  | cons v vs ih => exact World.grownBy.trans (obj_grown w g o v) (ih (w.setCell ⟨g, o, none⟩ v) (o + 1))
theorem set_typed {g : Nat} {e : TypeId} (vs : List Value) : ∀ {w : World} {o : Nat}, (∃ cur, w.heap[g]? = some (Obj.cells cur e (0, 0))) → ∃ cur, (w.setCells g o vs).heap[g]? = some (Obj.cells cur e (0, 0)) := by
  induction vs with
  | nil => intro w o h; exact h
  | cons v vs ih =>
    intro w o h
    obtain ⟨cur, hc⟩ := h
    exact ih (w := w.setCell ⟨g, o, none⟩ v) (o := o + 1) ⟨_, obj_set hc o v⟩
theorem C_clear {w : World} {g m o : Nat} {ds : List Ds} (vs : List Value) (h : dSl.C w (some ⟨g, 0, none⟩) m ds) (hm : vs = [] ∨ m ≤ o) : dSl.C (w.setCells g o vs) (some ⟨g, 0, none⟩) m ds := by
  rcases hm with rfl | hm
  · exact h
  have hl := h.1
  refine ⟨hl, h.2.1, fun h0 => ⟨_, rfl, fun j x hj => ?_⟩⟩
  obtain ⟨ad, had, hc⟩ := h.2.2 h0
  injection had with had
  subst had
  obtain ⟨cs, e1, e2, e3⟩ := hc j x hj
  have hjm := (List.getElem?_eq_some_iff.1 hj).1
  refine ⟨cs, e1, e2, fun r u hu => ?_⟩
  have hr : r = 0 := by
    have := (List.getElem?_eq_some_iff.1 hu).1
    have h1 : cs.length = 1 := e1
    omega
  rw [← e3 r u hu, addr0]
  rw [World.cell?_setCells_out _ _ _ _ _ (fun _ _ => Or.inl (by show j * 1 + r < _; omega))]
theorem cut0 (g n cap lo : Nat) (h1 : lo ≤ n) (hnc : n ≤ cap) : ∃ o, (∀ W : World, (Instr.slice 22 (.slice (some ⟨g, 0, none⟩) n cap) (some (.int .i64 (lo : Int))) none none).run Try.prog W = .ok (.slice (some ⟨g, o, none⟩) (n - lo) (cap - lo)) W) ∧ (n - lo = 0 ∨ o = lo) := by
  obtain ⟨i0, hi0, hzz⟩ := Option.map_eq_some_iff.1 infoSl
  simp only [Prod.mk.injEq] at hzz
  obtain ⟨_, hsz, _⟩ := hzz
  refine ⟨if cap = lo then 0 else lo, fun W => ?_, ?_⟩
  · have hel : Try.prog.elem 22 = 24 := by simp [Program.elem, Try.underlying22]
    have hu : Try.prog.underlying 22 = some (.slice (Try.prog.elem 22)) := by rw [hel]; exact Try.underlying22
    rw [run_slice_l W 22 (some ⟨g, 0, none⟩) n cap hu .i64 lo (by omega) (by omega), hel]
    by_cases hc : cap = lo
    · simp [sizeOf, typeInfo, hi0, hsz, sliced, Result.andThen, hc]
    · simp [sizeOf, typeInfo, hi0, hsz, sliced, Result.andThen, hc, addr0]
  · by_cases hc : cap = lo
    · left; omega
    · right; rw [if_neg hc]
set_option maxHeartbeats 1000000 in
theorem delete_calls {w w0 : World} {g n cap p : Nat} {t : Int} {cur : Array Value} {ty : TypeId} {ds : List Ds} {f : Ds → List Int} (h : dSl.C w (some ⟨g, 0, none⟩) n ds) (hcur : w.heap[g]? = some (.cells cur ty (0, 0))) (hcap : n ≤ cap) (hm : cap ≤ 9223372036854775807)
    (hT : Tls w0 f ds) (hB : Below w0.heap.size w0 w) (hg : w0.heap.size ≤ g) (hp : w.cell? ⟨p, 0, none⟩ = some (.int .i64 t)) (hpg : p ≠ g) :
    Calls Try.prog 28 #[.slice (some ⟨g, 0, none⟩) n cap, .func (.func 29) #[] #[.pointer (some ⟨p, 0, none⟩)]] w fun e w' =>
      e = .returned (.slice (some ⟨g, 0, none⟩) (ds.filter (fun d => !decide (t ∈ f d))).length cap) ∧ dSl.C w' (some ⟨g, 0, none⟩) (ds.filter (fun d => !decide (t ∈ f d))).length (ds.filter (fun d => !decide (t ∈ f d))) ∧ w.grownBy w' (some g) ∧ ∃ cur', w'.heap[g]? = some (Obj.cells cur' ty (0, 0)) := by
  have eg : ∀ args w, (callFunc 29 args).run Try.prog w = .ok (.enter 29 args) w := enters_of Try.func29 (by kernel_rfl) rfl
  have HI := Aside0.mk (indexF_calls (some ⟨g, 0, none⟩) n cap ds f t p w h (hT.below hB (Nat.le_refl _)) hp)
  have H := Aside0.mk h
  have HT := Aside0.mk hT
  have HB0 := Aside0.mk hB
  have HP := Aside0.mk hp
  have HC := Aside0.mk hcur
  have hl := h.1
  clear h hT hB hp hcur
  by_cases hi : idxP (fun d => decide (t ∈ f d)) ds 0 = -1
  · have hout := idxP_none _ _ _ hi
    rw [hi] at HI
    rw [hout]
    clear hout hi
    go_enter Try.func28, Try.ntmps28
    go_wp2_with (go_at_call 46; (with_reducible refine (HI.out).mono ?_); rintro e w' ⟨rfl, hb4⟩; have HB4 := Aside0.mk hb4; clear hb4)
    go_ret
    exact ⟨by rw [hl]; rfl, by rw [hl]; exact Kd.C_below H.out HB4.out, grown_of_below HB4.out _, cur, by rw [HB4.out.block g (Array.getElem?_eq_some_iff.1 HC.out).1]; exact HC.out⟩
  · obtain ⟨i0, h1, h2, h3, h4⟩ := idxP_some _ _ _ hi
    rw [Nat.zero_add] at h1
    rw [h1] at HI
    clear hi h1
    go_enter Try.func28, Try.ntmps28
    go_wp2_with (go_at_call 46; (with_reducible refine (HI.out).mono ?_); rintro e w' ⟨rfl, hb4⟩; have HB4 := Aside0.mk hb4; clear hb4)
    have hne : ((i0 : Int) == -1) = false := by simp
    go_wp2
    go_loopg [5, 6] (n - (i0 + 1) + 1) (fun gk v5 v6 wr => ∃ (i j : Nat) (mid : List Ds), v5 = .int .i64 i ∧ v6 = .int .i64 j ∧ i < j ∧ j ≤ n ∧ Aside0 (gk = n - j + 1) ∧ Aside0 (((ds.take j).filter (fun d => !decide (t ∈ f d))).length = i) ∧ Aside0 (mid.length = j - i) ∧
      Aside0 (dSl.C wr (some ⟨g, 0, none⟩) n ((ds.take j).filter (fun d => !decide (t ∈ f d)) ++ mid ++ ds.drop j)) ∧ Aside0 (w.grownBy wr (some g)) ∧ Aside0 (∃ cur, wr.heap[g]? = some (.cells cur ty (0, 0))))
    case atStart =>
      have hdt : ds.take (i0 + 1) = ds.take i0 ++ [ds.getD i0 default] := by
        rw [List.take_add_one]
        simp [h2]
      have hft : (ds.take (i0 + 1)).filter (fun d => !decide (t ∈ f d)) = ds.take i0 := by
        rw [hdt, List.filter_append, h3, List.filter_cons_of_neg (by rw [h4]; simp)]
        simp
      have hall : ds = ds.take i0 ++ [ds.getD i0 default] ++ ds.drop (i0 + 1) := by
        rw [← hdt, List.take_append_drop]
      exact ⟨i0, i0 + 1, [ds.getD i0 default], rfl, by go_num, by omega, by omega, ⟨rfl⟩, ⟨by rw [hft, List.length_take]; omega⟩, ⟨by simp⟩, ⟨by rw [hft, ← hall]; exact Kd.C_below H.out HB4.out⟩, ⟨grown_of_below HB4.out _⟩, ⟨_, by rw [HB4.out.block g (Array.getElem?_eq_some_iff.1 HC.out).1]; exact HC.out⟩⟩
    case round =>
      clear HB4 h3 h4 HI
      obtain ⟨i, j, mid, rfl, rfl, hij, hj, HG, HL, HM, HX, HGR, HCU⟩ := hrel
      have HB5 := Aside0.mk ((HB0.out).grown HGR.out HB0.out.size (fun k hk => by cases hk; exact hg))
      have hpr : wr.cell? ⟨p, 0, none⟩ = some (.int .i64 t) := by
        rw [← HP.out]
        have := HGR.out.block p (World.block_lt_of_cell? _ _ HP.out) (fun e => hpg (by injection e))
        show World.cell? wr _ = World.cell? w _
        unfold World.cell?
        rw [this]
      by_cases hlt : j < n
      · have h1 : decide ((j : Int) < (n : Int)) = true := by simp; omega
        obtain ⟨d, hd⟩ : ∃ d, ds.getD j default = d := ⟨_, rfl⟩
        have hdm : d ∈ ds := by
          rw [← hd, show ds.getD j default = ds[j]'(by omega) from by simp [show j < ds.length by omega]]
          exact List.getElem_mem _
        have hdd : ds.drop j = d :: ds.drop (j + 1) := by
          rw [List.drop_eq_getElem_cons (by omega), ← hd]
          simp [show j < ds.length from by omega]
        have hdt : ds.take (j + 1) = ds.take j ++ [d] := by
          rw [List.take_add_one, ← hd]
          simp [show j < ds.length from by omega]
        have HDT := Aside0.mk hdt
        have hx := HX.out
        rw [hdd] at hx
        obtain ⟨ad, had, b0⟩ := at_sl hx j (by omega)
        injection had with had
        subst had
        rw [addr0] at b0
        have hget : ((ds.take j).filter (fun d => !decide (t ∈ f d)) ++ mid ++ d :: ds.drop (j + 1)).getD j default = d := by
          rw [List.getD_eq_getElem?_getD, List.getElem?_append_right (by rw [List.length_append, HL.out, HM.out]; omega), List.length_append, HL.out, HM.out, show j - (i + (j - i)) = 0 by omega]
          rfl
        rw [hget] at b0
        have HCL := Aside0.mk (clo_calls d (f d) t p wr ((HT.out d hdm).lower HB5.out (Nat.le_refl _)) hpr)
        have HX2 := Aside0.mk hx
        clear hx HX hd hdm hdd hdt hget
        cases he : decide (t ∈ f d) with
        | true =>
          have HF := Aside0.mk (show (ds.take (j + 1)).filter (fun d => !decide (t ∈ f d)) = (ds.take j).filter (fun d => !decide (t ∈ f d)) by
            rw [HDT.out, List.filter_append, List.filter_cons_of_neg (by rw [he]; simp)]; simp)
          rw [he] at HCL
          clear he HDT
          obtain ⟨ka, kn, kc⟩ := d
          simp only at *
          go_wp2_with (go_at_call 29; (with_reducible refine (HCL.out).mono ?_); rintro e w' ⟨rfl, hb4⟩; have HB6 := Aside0.mk hb4; clear hb4)
          go_roundg (n - (j + 1) + 1)
          case measure => have := HG.out; omega
          case rel => exact ⟨i, j + 1, mid ++ [⟨ka, kn, kc⟩], rfl, by go_num, by omega, by omega, ⟨rfl⟩, ⟨by rw [HF.out]; exact HL.out⟩, ⟨by rw [List.length_append, HM.out]; show _ + 1 = _; omega⟩, ⟨by
            rw [HF.out]
            have := Kd.C_below HX2.out HB6.out
            simpa using this⟩, ⟨HGR.out.trans (grown_of_below HB6.out _)⟩, ⟨by
            obtain ⟨cu, hcu⟩ := HCU.out
            exact ⟨cu, by rw [HB6.out.block g (Array.getElem?_eq_some_iff.1 hcu).1]; exact hcu⟩⟩⟩
        | false =>
          have HF := Aside0.mk (show (ds.take (j + 1)).filter (fun d => !decide (t ∈ f d)) = (ds.take j).filter (fun d => !decide (t ∈ f d)) ++ [d] by
            rw [HDT.out, List.filter_append, List.filter_cons_of_pos (by rw [he]; simp)]; simp)
          rw [he] at HCL
          clear he HDT
          obtain ⟨ka, kn, kc⟩ := d
          simp only at *
          obtain ⟨m0, mid', rfl⟩ : ∃ m0 mid', mid = m0 :: mid' := by
            cases mid with
            | nil => have := HM.out; simp at this; omega
            | cons m0 mid' => exact ⟨m0, mid', rfl⟩
          obtain ⟨v0, hv0⟩ : ∃ v0, wr.cell? ⟨g, i, none⟩ = some v0 := by
            obtain ⟨ad, had, b1⟩ := at_sl HX2.out i (by omega)
            injection had with had
            subst had
            rw [addr0] at b1
            exact ⟨_, b1⟩
          have hf0 : ∀ W, Below wr.heap.size wr W → W.frozen? ⟨g, i, none⟩ = false := fun W hW => by
            obtain ⟨cu, hcu⟩ := HCU.out
            exact obj_free (by rw [hW.block g (Array.getElem?_eq_some_iff.1 hcu).1]; exact hcu) i
          have hc0 : ∀ W, Below wr.heap.size wr W → W.cell? ⟨g, i, none⟩ = some v0 := fun W hW => (hW.cell (p := ⟨g, i, none⟩) (World.block_lt_of_cell? _ _ hv0)).trans hv0
          clear hv0
          go_wp2_with (go_at_call 29; (with_reducible refine (HCL.out).mono ?_); rintro e w' ⟨rfl, hb4⟩; have HB6 := Aside0.mk hb4; have hf1 := hf0 _ hb4; have hc1 := hc0 _ hb4; clear hb4)
          go_roundg (n - (j + 1) + 1)
          case measure => have := HG.out; omega
          case rel => exact ⟨i + 1, j + 1, mid' ++ [⟨ka, kn, kc⟩], by go_num, by go_num, by omega, by omega, ⟨rfl⟩, ⟨by rw [HF.out, List.length_append, HL.out]; rfl⟩, ⟨by have := HM.out; rw [List.length_cons] at this; rw [List.length_append]; show _ + 1 = _; omega⟩, ⟨by
            rw [HF.out]
            have h9 := C_set (Kd.C_below HX2.out HB6.out) i (by omega) ⟨ka, kn, kc⟩
            rw [List.append_assoc, List.set_append_right _ _ (by rw [HL.out]; exact Nat.le_refl _), HL.out, Nat.sub_self] at h9
            simpa using h9⟩, ⟨(HGR.out.trans (grown_of_below HB6.out _)).trans (obj_grown _ _ _ _)⟩, ⟨by
            obtain ⟨cu, hcu⟩ := HCU.out
            exact ⟨_, obj_set (by rw [HB6.out.block g (Array.getElem?_eq_some_iff.1 hcu).1]; exact hcu) i _⟩⟩⟩
      · obtain rfl : j = n := by omega
        have h1 : decide ((j : Int) < (j : Int)) = false := by simp
        have htk : ds.take j = ds := List.take_of_length_le (by omega)
        rw [htk] at HL HX
        rw [List.drop_of_length_le (by omega), List.append_nil] at HX
        have HX2 := Aside0.mk (show dSl.C wr (some ⟨g, 0, none⟩) i (ds.filter (fun d => !decide (t ∈ f d))) by
          have h8 : dSl.C wr (some ⟨g, 0, none⟩) (ds.filter (fun d => !decide (t ∈ f d)) ++ mid).length (ds.filter (fun d => !decide (t ∈ f d)) ++ mid) := by
            have := HX.out.1
            rw [this]; exact HX.out
          have h9 := Kd.C_take (m := i) h8 (by rw [List.length_append, HL.out]; omega)
          rw [List.take_append_of_le_length (by rw [HL.out]; exact Nat.le_refl _), List.take_of_length_le (by rw [HL.out]; exact Nat.le_refl _)] at h9
          rw [HL.out] at h9; exact h9)
        obtain ⟨o, hs, ho⟩ := cut0 g j cap i (by omega) hcap
        have hsome : ∀ q, q < j → (wr.cell? ⟨g, q, none⟩).isSome = true := fun q hq => by
          obtain ⟨ad, had, b1⟩ := at_sl HX.out q hq
          injection had with had
          subst had
          rw [addr0] at b1
          rw [b1]; rfl
        have hfz : ∀ q, wr.frozen? ⟨g, q, none⟩ = false := fun q => by
          obtain ⟨cu, hcu⟩ := HCU.out
          exact obj_free hcu q
        have hcl : ∀ ty, (Builtin.clear_ #[22] ty #[.slice (some ⟨g, o, none⟩) (j - i) (cap - i)]).run Try.prog wr = .ok (.tuple #[]) (wr.setCells g o (List.replicate (j - i) (.slice none 0 0))) := fun ty =>
          run_clear wr ty g o (j - i) _ (fun q hq => hsome _ (by omega)) (fun q hq => hfz _)
        have hcut := cutH dSl 22 24 Try.underlying22 infoSl (some ⟨g, 0, none⟩) j cap i (by omega) hcap
        have hcutH := hcut.1
        clear hcut hsome hfz
        go_wp2
        go_ret
        refine ⟨by rw [HL.out]; rfl, by rw [HL.out]; exact C_clear _ HX2.out (ho.imp (fun h => by rw [h]; rfl) (fun h => by omega)), HGR.out.trans (grown_set _ _ _ _), set_typed _ HCU.out⟩
end Go.Proofs.Ytkobolgbmfhpgaa.SgD
