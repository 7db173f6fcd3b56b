/- The iterator over the pieces of some bytes hands each piece to the loop's body, in order; condition: the recipe stands, its captured variables lie in blocks of their own. -/
import Derived.Test.YtgofkhncaldheaaReF
import Derived.Test.YtgofkhncaldheaaIt
import Derived.RangeFuncNested
import Derived.RangeFuncBound
import Derived.RangeFuncCalls
import Derived.RangeFuncLeaves
import Derived.Shelf.Abstract
import Derived.Shelf.RegionOpen
import Derived.WalkKit
import Derived.OwnWalkIn
import Derived.TacticsInMore
import Derived.LoopNIn
import Derived.LoopIn
namespace Go.Proofs.Ytgofkhncaldheaa.RePi
open Go Go.RowKit Go.Proofs.YtgofkhncaldheaaW.PrintWords Go.Proofs.Ytgofkhncaldheaa.K Go.Proofs.Ytgofkhncaldheaa.OctS Go.Proofs.Ytgofkhncaldheaa.OctP Go.Proofs.Ytgofkhncaldheaa.Oct Go.Proofs.Ytgofkhncaldheaa.ReS Go.Proofs.Ytgofkhncaldheaa.ReR Go.Proofs.Ytgofkhncaldheaa.ReT Go.Proofs.Ytgofkhncaldheaa.ReN Go.Proofs.Ytgofkhncaldheaa.ReP Go.Proofs.Ytgofkhncaldheaa.ReC Go.Proofs.Ytgofkhncaldheaa.ReK Go.Proofs.Ytgofkhncaldheaa.ReW Go.Proofs.Ytgofkhncaldheaa.ReF Go.Proofs.Ytgofkhncaldheaa.It
set_option linter.unusedVariables false
set_option linter.unusedSimpArgs false
attribute [local go_sem] Oper.semAt_some
theorem grown_of_below {w w1 : World} (h : Below w.heap.size w w1) : w.grownBy w1 none := ⟨h.os, h.tape, h.output, h.size, fun k hk _ => h.block k hk⟩
/-- All that lay is as it lay. -/
def Lies (w W : World) : Prop := w.heap.size ≤ W.heap.size ∧ ∀ k, k < w.heap.size → W.heap[k]? = w.heap[k]?
theorem Lies.cell {w W : World} (h : Lies w W) {p : Addr} {v : Value} (hv : w.cell? p = some v) : W.cell? p = some v := by
  have hb := World.block_lt_of_cell? w _ hv
  have e := h.2 _ hb
  unfold World.cell? at hv ⊢
  rw [e]
  exact hv
theorem Lies.below {w W : World} (h : Below w.heap.size w W) : Lies w W := ⟨h.size, fun k hk => h.block k hk⟩
theorem Lies.refs {w W : World} (h : Lies w W) {A : Option Addr} {k : Nat} {rs : List Ref} (hr : RefsC w A k rs) : RefsC W A k rs :=
  ⟨hr.len, hr.lim, hr.each, hr.is, fun ad ha i hi j v hj => h.cell (hr.cells ad ha i hi j v hj)⟩
theorem Lies.C {w W : World} (h : Lies w W) {k : IntKind} {A : Option Addr} {n : Nat} {xs : List Int} (hr : (Kd.int k).C w A n xs) : (Kd.int k).C W A n xs := by
  refine ⟨hr.1, hr.2.1, fun h0 => ?_⟩
  obtain ⟨ad, had, hc⟩ := hr.2.2 h0
  refine ⟨ad, had, fun j x hj => ?_⟩
  obtain ⟨cs, h1, h2, h3⟩ := hc j x hj
  exact ⟨cs, h1, h2, fun i v hv => h.cell (h3 i v hv)⟩
theorem Lies.rec {w W : World} (h : Lies w W) {g : Nat} {rs : List Ref} {A : Option Addr} {c : Nat} {Ab : Option Addr} {cb : Nat} (hr : Rec w g rs A c Ab cb) : Rec W g rs A c Ab cb :=
  ⟨(h.2 _ hr.lt).trans hr.blk, h.refs hr.refs, hr.cap, h.C hr.beg, hr.ok, hr.few⟩
theorem Lies.trans {x y z : World} (h : Lies x y) (k : Lies y z) : Lies x z := ⟨Nat.le_trans h.1 k.1, fun i hi => (k.2 i (Nat.lt_of_lt_of_le hi h.1)).trans (h.2 i hi)⟩
abbrev Pc := Nat × Nat × Nat
def Pc.cells (x : Pc) : List Value := [.int .i64 (x.1 : Int), .int .i64 (x.2.1 : Int), .int .i64 (x.2.2 : Int)]
def encP (x : Pc) : Array Value := #[.agg x.cells.toArray]
/-- The rest of the pieces, from a place on. -/
def rest (rs : List Ref) (i o m : Nat) : List Pc := ReS.cutL ((lens rs).drop i) i o m
theorem rest_step (rs : List Ref) (i o m : Nat) (h : i < rs.length) (hm : 0 < m) (ho : o < (rs.getD i default).len.toNat) :
    rest rs i o m = (i, o, min m ((rs.getD i default).len.toNat - o)) :: rest rs (i + 1) 0 (m - min m ((rs.getD i default).len.toNat - o)) := by
  have hl : i < (lens rs).length := by simpa [lens] using h
  unfold rest
  rw [List.drop_eq_getElem_cons hl]
  have e : (lens rs)[i] = (rs.getD i default).len.toNat := by simp [lens, h]
  rw [e]
  show (if m = 0 then [] else if _ ≤ o then _ else _) = _
  rw [if_neg (by omega), if_neg (by omega)]
theorem rest_end (rs : List Ref) (i o m : Nat) (h : m = 0 ∨ rs.length ≤ i) : rest rs i o m = [] := by
  unfold rest
  rcases h with h | h
  · rw [h, ReS.cutL_none]
  · rw [List.drop_of_length_le (by simpa [lens] using h)]; rfl
theorem rest_len (rs : List Ref) : ∀ (d i o m : Nat), rs.length - i = d → (rest rs i o m).length ≤ d := by
  intro d i o m h
  subst h
  have : ∀ (ls : List Nat) (i o m : Nat), (ReS.cutL ls i o m).length ≤ ls.length := by
    intro ls
    induction ls with
    | nil => intro i o m; simp [ReS.cutL]
    | cons l ls ih =>
      intro i o m
      unfold ReS.cutL
      split
      · simp
      · split
        · exact Nat.le_succ_of_le (ih _ _ _)
        · simp only [List.length_cons]; exact Nat.succ_le_succ (ih _ _ _)
  have h2 := this ((lens rs).drop i) i o m
  rw [List.length_drop] at h2
  simpa [rest, lens] using h2
set_option maxRecDepth 100000 in
set_option maxHeartbeats 8000000 in
theorem pieces1_in (n : Nat) (hn : 1 ≤ n) (l Br Bf Bn : Nat) (wb : World) (g : Nat) (rs : List Ref) (A : Option Addr) (c : Nat) (Ab : Option Addr) (cb : Nat) (hr : Rec wb g rs A c Ab cb) (f m : Nat) (hf : f < (lens rs).sum) (hm : m ≤ 9223372036854775807)
    (B0 : Nat) (T0 : Nat → Prop) (hT : T0 Bn) (hbr : Br < B0) (hbf : Bf < B0) (hwb : wb.heap.size ≤ B0) (hn1 : wb.heap.size ≤ Bn) (hnr : Bn ≠ Br)
    (J : (Nat → Prop) → List Pc → World → Prop) (W : World) (hJ : Bears J)
    (hY : ∀ T pre x W1, J T pre W1 → True → pre.length < 257 → YieldAt Fence.wide (n - 1) Try.prog l (encP x) W1 fun e W' => e = .returned (.bool true) ∧ J T (pre ++ [x]) W' ∧ Kept B0 T W1 W')
    (hL : Lies wb W) (hcr : W.heap[Br]? = some (.cells #[.pointer (some ⟨g, 0, none⟩)] 23 (0, 0))) (hcf : W.heap[Bf]? = some (.cells #[.int .i64 f] 3 (0, 0))) (hcn : W.heap[Bn]? = some (.cells #[.int .i64 m] 3 (0, 0))) (hJ0 : J T0 [] W) :
    CallsIn Fence.wide n Try.prog 44 #[.func (.yield l) #[] #[], .pointer (some ⟨Br, 0, none⟩), .pointer (some ⟨Bf, 0, none⟩), .pointer (some ⟨Bn, 0, none⟩)] W fun e W' => (∃ v, e = .returned v) ∧
      ∃ T xs, xs = ReS.cutL (lens rs) 0 f m ∧ J T xs W' := by
  have HL := Aside0.mk hL
  have HR := Aside0.mk hr
  have HCR := Aside0.mk hcr
  have HCN := Aside0.mk hcn
  have a1 := obj_cell (v := .pointer (some ⟨g, 0, none⟩)) hcr 0 rfl
  have a2 := obj_cell (v := .int .i64 f) hcf 0 rfl
  have HF := Aside0.mk (find_is (hL.rec hr) f hf)
  have HJ := Aside0.mk hJ0
  have HFL := Aside0.mk hf
  have hfw := hr.few
  clear hL hr hcr hcf hcn hf hJ0
  refine callsIn_of_wp Try.func44 rfl trivial ?_ rfl
  simp only [Try.ntmps44, List.size_toArray, List.length_cons, List.length_nil, Nat.reduceAdd, Nat.reduceSub, Array.replicate_succ, Array.replicate_zero, List.push_toArray, List.append_toArray, List.nil_append, List.cons_append]
  gi_wp2_with (refine ⟨trivial, ?_⟩; gi_at_call 12; (with_reducible refine (callsIn_wide.2 HF.out).mono ?_); rintro e w1 ⟨i0, hi0, hs0, hs1, rfl, hb1⟩; have HI0 := Aside0.mk hi0; have HS0 := Aside0.mk hs0; have HS1 := Aside0.mk hs1; have HB1 := Aside0.mk hb1; clear hi0 hs0 hs1 hb1)
  have HJ1 := Aside0.mk (hJ.fresh _ _ _ _ HJ.out (grown_of_below HB1.out))
  have HLn := (Array.getElem?_eq_some_iff.1 HCN.out).1
  have HLr := (Array.getElem?_eq_some_iff.1 HCR.out).1
  have HR1 : Aside0 (Lies wb w1) := ⟨HL.out.trans (Lies.below HB1.out)⟩
  have HN1 : Aside0 (w1.heap[Bn]? = some (.cells #[.int .i64 m] 3 (0, 0))) := ⟨(HB1.out.block _ HLn).trans HCN.out⟩
  have HC1 : Aside0 (w1.heap[Br]? = some (.cells #[.pointer (some ⟨g, 0, none⟩)] 23 (0, 0))) := ⟨(HB1.out.block _ HLr).trans HCR.out⟩
  have HST : Aside0 (i0 < rs.length → f - ((lens rs).take i0).sum < (rs.getD i0 default).len.toNat) := ⟨fun _ => by
    have h1 := HS1.out
    rw [lens_take rs i0 HI0.out] at h1
    have := HS0.out
    omega⟩
  have HFR : Aside0 (rest rs i0 (f - ((lens rs).take i0).sum) m = ReS.cutL (lens rs) 0 f m) := ⟨by
    rcases cutL_from (lens rs) 0 i0 f m (by simpa [lens] using Nat.le_of_lt HI0.out) HS0.out with h | h
    · rw [h, Nat.zero_add]; rfl
    · rw [h, ReS.cutL_none, rest_end _ _ _ _ (.inl rfl)]⟩
  have HI1 := Aside0.mk (Nat.le_of_lt HI0.out)
  generalize hxs : ReS.cutL (lens rs) 0 f m = xs0 at *
  have HXS := Aside0.mk hxs
  clear hxs
  generalize f - ((lens rs).take i0).sum = o0 at *
  gi_loopw [5, 6] (fun v5 v6 wr => ∃ i o q : Nat, ∃ pre : List Pc, v5 = .int .i64 i ∧ v6 = .int .i64 o ∧ i ≤ rs.length ∧ q ≤ m ∧ Aside0 (i < rs.length → o < (rs.getD i default).len.toNat) ∧ Aside0 (pre ++ rest rs i o q = xs0) ∧ Aside0 (pre.length ≤ i) ∧ Aside0 (J T0 pre wr) ∧ Aside0 (Lies wb wr) ∧ Aside0 (wr.heap[Bn]? = some (.cells #[.int .i64 q] 3 (0, 0))) ∧ Aside0 (wr.heap[Br]? = some (.cells #[.pointer (some ⟨g, 0, none⟩)] 23 (0, 0)))) (fun v5 v6 wr => rs.length - (intOf v5).toNat)
  case atStart => exact ⟨i0, o0, m, [], rfl, rfl, HI1.out, Nat.le_refl _, HST, ⟨HFR.out⟩, ⟨Nat.zero_le _⟩, HJ1, HR1, HN1, HC1⟩
  case round =>
    obtain ⟨i, o, q, pre, rfl, rfl, hi, hq, HO, HP, HPL, HJr, HLr, HNr, HCr⟩ := hrel
    have hcn := obj_cell (v := .int .i64 q) HNr.out 0 rfl
    have hcr := obj_cell (v := .pointer (some ⟨g, 0, none⟩)) HCr.out 0 rfl
    have HRr := Aside0.mk (HLr.out.rec HR.out)
    have hc0 := obj_cell (v := .slice A rs.length c) HRr.out.blk 0 rfl
    by_cases hq0 : q = 0
    · subst hq0
      have h1 : decide ((0 : Int) < ((0 : Nat) : Int)) = false := by simp
      gi_wp2
      go_end0
      exact ⟨⟨_, rfl⟩, T0, pre, by rw [HXS.out, ← HP.out, rest_end _ _ _ _ (.inl rfl), List.append_nil], HJr.out⟩
    · have h1 : decide ((0 : Int) < (q : Int)) = true := by simp; omega
      by_cases hlt : i < rs.length
      · have h2 : decide (i < rs.length) = true := by simpa using hlt
        obtain ⟨ad, hA⟩ := HRr.out.refs.is (by omega)
        subst hA
        have hp1 : (0 : Int) ≤ (i : Int) := by omega
        have hp2 : (i : Int) < (rs.length : Int) := by omega
        have hok := HRr.out.refs.ok i hlt
        have hRA := HRr.out.refs.cells ad rfl i hlt
        have hk1 := getD_ok rs HR.out.ok i hlt
        have HE := Aside0.mk (rest_step rs i o q hlt (by omega) (HO.out hlt))
        have hol := HO.out hlt
        have HOK := Aside0.mk (fun (h : i + 1 < rs.length) => getD_ok rs HR.out.ok (i + 1) h)
        have hcl : wr.cell? ⟨(ad.add (i * 35)).block, (ad.add (i * 35)).off + 32, none⟩ = some (.int .i64 (rs.getD i default).len) := by
          have := hRA 32 (.int .i64 (rs.getD i default).len) (by have := Ref.cell_len hok; rwa [List.getElem?_toArray] at this)
          simpa [Addr.add] using this
        have hl : (rs.getD i default).len = ((rs.getD i default).len.toNat : Int) := by unfold okRef at hk1; omega
        have hl2 : (rs.getD i default).len.toNat ≤ 512 := by unfold okRef at hk1; omega
        rw [hl] at hcl
        generalize (rs.getD i default).len.toNat = x at *
        clear hl hk1 hok hRA
        gi_wp2
        gi_region
        have hmin : min (q : Int) ((x : Int) - (o : Int)) = ((min q (x - o) : Nat) : Int) := by omega
        rw [hmin]
        have hmb : min q (x - o) ≤ q ∧ 1 ≤ min q (x - o) := by omega
        clear hmin
        generalize hz : min q (x - o) = z at *
        have HZ := Aside0.mk hz
        clear hz
        have HJd := Aside0.mk (hJ.fresh _ _ _ _ HJr.out (show wr.grownBy wr.drew none from ⟨rfl, rfl, rfl, Nat.le_refl _, fun _ _ _ => rfl⟩))
        obtain ⟨fn, tmps, assign, body, hy, hR⟩ := hY T0 pre (i, o, z) wr.drew HJd.out trivial (by have := HPL.out; omega)
        have hy' : (Instr.yield l #[.agg #[.int .i64 (i : Int), .int .i64 (o : Int), .int .i64 (z : Int)]]).run Try.prog wr.drew = .ok (.round l fn tmps assign body) wr.drew := hy
        clear hy
        gi_wp2
        refine hR.mono ?_
        rintro e W3 ⟨rfl, hJ3, hk3⟩
        clear hR hy'
        have HJ3 := Aside0.mk hJ3
        have HK3 := Aside0.mk hk3
        have HLr3 : Aside0 (Lies wb W3) := ⟨Nat.le_trans HLr.out.1 hk3.size, fun k hk => (hk3.same k (.inl (by omega)) (Nat.lt_of_lt_of_le hk HLr.out.1)).trans (HLr.out.2 k hk)⟩
        have HNr3 : Aside0 (W3.heap[Bn]? = some (.cells #[.int .i64 q] 3 (0, 0))) := ⟨(hk3.same Bn (.inr hT) (Array.getElem?_eq_some_iff.1 HNr.out).1).trans HNr.out⟩
        have HCr3 : Aside0 (W3.heap[Br]? = some (.cells #[.pointer (some ⟨g, 0, none⟩)] 23 (0, 0))) := ⟨(hk3.same Br (.inl hbr) (Array.getElem?_eq_some_iff.1 HCr.out).1).trans HCr.out⟩
        have hcn3 := obj_cell (v := .int .i64 q) HNr3.out 0 rfl
        have hfn3 := obj_free HNr3.out 0
        clear hJ3 hk3
        gi_wp2
        gi_region
        have hsub : (q : Int) - (z : Int) = ((q - z : Nat) : Int) := by omega
        rw [hsub]
        have HJ4 := Aside0.mk (hJ.fresh _ _ _ _ (hJ.own _ _ _ _ _ HJ3.out hT (obj_grown W3 Bn 0 (.int .i64 ((q - z : Nat) : Int)))) (show (W3.setCell ⟨Bn, 0, none⟩ (.int .i64 ((q - z : Nat) : Int))).grownBy (W3.setCell ⟨Bn, 0, none⟩ (.int .i64 ((q - z : Nat) : Int))).drew none from ⟨rfl, rfl, rfl, Nat.le_refl _, fun _ _ _ => rfl⟩))
        have hg4 := obj_grown W3 Bn 0 (.int .i64 ((q - z : Nat) : Int))
        have HL4 : Aside0 (Lies wb (W3.setCell ⟨Bn, 0, none⟩ (.int .i64 ((q - z : Nat) : Int))).drew) := ⟨Nat.le_trans HLr3.out.1 hg4.size, fun k hk => (hg4.block k (Nat.lt_of_lt_of_le hk HLr3.out.1) (fun e => by injection e with e; omega)).trans (HLr3.out.2 k hk)⟩
        have HN4 : Aside0 ((W3.setCell ⟨Bn, 0, none⟩ (.int .i64 ((q - z : Nat) : Int))).drew.heap[Bn]? = some (.cells #[.int .i64 ((q - z : Nat) : Int)] 3 (0, 0))) := ⟨obj_set HNr3.out 0 _⟩
        have HC4 : Aside0 ((W3.setCell ⟨Bn, 0, none⟩ (.int .i64 ((q - z : Nat) : Int))).drew.heap[Br]? = some (.cells #[.pointer (some ⟨g, 0, none⟩)] 23 (0, 0))) := ⟨(hg4.block Br (Array.getElem?_eq_some_iff.1 HCr3.out).1 (fun e => by injection e with e; omega)).trans HCr3.out⟩
        clear hsub hg4
        go_roundw
        case rel => iterate 41 apply Exists.intro
                    refine ⟨?_, rfl⟩
                    exact ⟨i + 1, 0, q - z, pre ++ [(i, o, z)], by go_num, rfl, by omega, by omega, ⟨fun h => by have := HOK.out h; unfold okRef at this; omega⟩, ⟨by rw [List.append_assoc, List.singleton_append, ← HE.out]; exact HP.out⟩, ⟨by have := HPL.out; simp; omega⟩, HJ4, HL4, HN4, HC4⟩
        case measure => simp [intOf]; omega
      · obtain rfl : i = rs.length := by omega
        have h2 : decide (rs.length < rs.length) = false := by simp
        gi_wp2
        go_end0
        exact ⟨⟨_, rfl⟩, T0, pre, by rw [HXS.out, ← HP.out, rest_end _ _ _ _ (.inr (Nat.le_refl _)), List.append_nil], HJr.out⟩
set_option maxRecDepth 100000 in
set_option maxHeartbeats 4000000 in
theorem pieces0_in (n : Nat) (hn : 1 ≤ n) (l Br Bf Bn : Nat) (g : Nat) (rs : List Ref) (A : Option Addr) (c : Nat) (Ab : Option Addr) (cb : Nat) (f m : Nat) (hf : (lens rs).sum ≤ f)
    (T0 : Nat → Prop) (J : (Nat → Prop) → List Pc → World → Prop) (W : World) (hJ : Bears J) (hr : Rec W g rs A c Ab cb)
    (hcr : W.heap[Br]? = some (.cells #[.pointer (some ⟨g, 0, none⟩)] 23 (0, 0))) (hcf : W.heap[Bf]? = some (.cells #[.int .i64 f] 3 (0, 0))) (hJ0 : J T0 [] W) :
    CallsIn Fence.wide n Try.prog 44 #[.func (.yield l) #[] #[], .pointer (some ⟨Br, 0, none⟩), .pointer (some ⟨Bf, 0, none⟩), .pointer (some ⟨Bn, 0, none⟩)] W fun e W' => (∃ v, e = .returned v) ∧
      ∃ T xs, xs = ReS.cutL (lens rs) 0 f m ∧ J T xs W' := by
  have a1 := obj_cell (v := .pointer (some ⟨g, 0, none⟩)) hcr 0 rfl
  have a2 := obj_cell (v := .int .i64 f) hcf 0 rfl
  have HF := Aside0.mk (find_past hr f hf)
  have HJ := Aside0.mk hJ0
  have HE : Aside0 ([] = ReS.cutL (lens rs) 0 f m) := ⟨(cutL_past _ _ _ _ hf).symm⟩
  clear hr hcr hcf hf hJ0
  refine callsIn_of_wp Try.func44 rfl trivial ?_ rfl
  simp only [Try.ntmps44, List.size_toArray, List.length_cons, List.length_nil, Nat.reduceAdd, Nat.reduceSub, Array.replicate_succ, Array.replicate_zero, List.push_toArray, List.append_toArray, List.nil_append, List.cons_append]
  gi_wp2_with (refine ⟨trivial, ?_⟩; gi_at_call 12; (with_reducible refine (callsIn_wide.2 HF.out).mono ?_); rintro e w1 ⟨rfl, hb1⟩; have HB1 := Aside0.mk hb1; clear hb1)
  have HJ1 := Aside0.mk (hJ.fresh _ _ _ _ HJ.out (grown_of_below HB1.out))
  gi_loopw [5] (fun v5 wr => wr = w1) (fun v5 wr => 0)
  case atStart => rfl
  case round =>
    obtain rfl := hrel
    gi_wp2
    go_end0
    exact ⟨⟨_, rfl⟩, T0, [], HE.out, HJ1.out⟩
/-- What the iterator stands on, and the pieces that it hands on. -/
theorem pieces_seq (n : Nat) (hn : 1 ≤ n) (wb w : World) (g : Nat) (rs : List Ref) (A : Option Addr) (c : Nat) (Ab : Option Addr) (cb : Nat) (hr : Rec wb g rs A c Ab cb) (f m : Nat) (hm : m ≤ 9223372036854775807)
    (hw : w = ((wb.alloc (.cells #[.pointer (some ⟨g, 0, none⟩)] 23)).alloc (.cells #[.int .i64 f] 3)).alloc (.cells #[.int .i64 m] 3)) (B0 : Nat) (hB0 : w.heap.size ≤ B0) :
    SeqT Fence.wide n Try.prog 44 #[.pointer (some ⟨wb.heap.size, 0, none⟩), .pointer (some ⟨wb.heap.size + 1, 0, none⟩), .pointer (some ⟨wb.heap.size + 2, 0, none⟩)] encP B0 (fun k => k = wb.heap.size + 2) (fun _ _ => True) (fun xs => xs = ReS.cutL (lens rs) 0 f m) 257 w := fun l J W hW hJ hY hJ0 => by
  have h0 : w.heap[wb.heap.size]? = some (.cells #[.pointer (some ⟨g, 0, none⟩)] 23 (0, 0)) := by
    rw [hw, Below.heap_alloc _ _ _ (by simp; omega), Below.heap_alloc _ _ _ (by simp)]
    exact heap_alloc_new _ _
  have h1 : w.heap[wb.heap.size + 1]? = some (.cells #[.int .i64 f] 3 (0, 0)) := by
    rw [hw, Below.heap_alloc _ _ _ (by simp)]
    have := heap_alloc_new (wb.alloc (.cells #[.pointer (some ⟨g, 0, none⟩)] 23)) (.cells #[.int .i64 f] 3)
    rwa [World.size_alloc] at this
  have h2 : w.heap[wb.heap.size + 2]? = some (.cells #[.int .i64 m] 3 (0, 0)) := by
    rw [hw]
    have := heap_alloc_new ((wb.alloc (.cells #[.pointer (some ⟨g, 0, none⟩)] 23)).alloc (.cells #[.int .i64 f] 3)) (.cells #[.int .i64 m] 3)
    rwa [World.size_alloc, World.size_alloc] at this
  have hs : w.heap.size = wb.heap.size + 3 := by rw [hw]; simp
  have hb : Below wb.heap.size wb w := by rw [hw]; exact below_alloc (below_alloc (below_alloc (Below.refl _ _) _) _) _
  have hl : Lies wb W := (Lies.below hb).trans ⟨hW.size, fun k hk => hW.same k (.inl (by omega)) hk⟩
  have e : ∀ k, k < wb.heap.size + 3 → W.heap[k]? = w.heap[k]? := fun k hk => hW.same k (.inl (by omega)) (by omega)
  by_cases hf : f < (lens rs).sum
  · exact pieces1_in n hn l _ _ _ wb g rs A c Ab cb hr f m hf hm B0 (fun k => k = wb.heap.size + 2) rfl (by omega) (by omega) (by omega) (by omega) (by omega) J W hJ (fun T pre x W1 h1 _ h2 => hY T pre x W1 h1 trivial h2) hl ((e _ (by omega)).trans h0) ((e _ (by omega)).trans h1) ((e _ (by omega)).trans h2) hJ0
  · exact pieces0_in n hn l _ _ _ g rs A c Ab cb f m (by omega) (fun k => k = wb.heap.size + 2) J W hJ (hl.rec hr) ((e _ (by omega)).trans h0) ((e _ (by omega)).trans h1) hJ0
end Go.Proofs.Ytgofkhncaldheaa.RePi
