/- The iterator over the pieces of bytes, walked; condition: the bytes read as bytes. -/
import Derived.Test.YtlmcompoalhpnaaSqV
import Derived.Test.YtlmcompoalhpnaaSqN
import Derived.Test.YtlmcompoalhpnaaItC
namespace Go.Proofs.Ytlmcompoalhpnaa.SqI
open Go Go.RowKit Go.Shelf Go.Maps Go.Proofs.YtlmcompoalhpnaaW.PrintWords Go.Proofs.Ytlmcompoalhpnaa.K Go.Proofs.Ytlmcompoalhpnaa.Mp Go.Proofs.Ytlmcompoalhpnaa.It Go.Proofs.Ytlmcompoalhpnaa.ItC Go.Proofs.Ytlmcompoalhpnaa.OctS Go.Proofs.Ytlmcompoalhpnaa.OctP Go.Proofs.Ytlmcompoalhpnaa.Oct Go.Proofs.Ytlmcompoalhpnaa.Ap Go.Proofs.Ytlmcompoalhpnaa.SqA Go.Proofs.Ytlmcompoalhpnaa.SqC Go.Proofs.Ytlmcompoalhpnaa.SqE Go.Proofs.Ytlmcompoalhpnaa.SqM Go.Proofs.Ytlmcompoalhpnaa.SqN Go.Proofs.Ytlmcompoalhpnaa.SqK Go.Proofs.Ytlmcompoalhpnaa.SqF Go.Proofs.Ytlmcompoalhpnaa.SqJ Go.Proofs.Ytlmcompoalhpnaa.SqR Go.Proofs.Ytlmcompoalhpnaa.SqV
set_option linter.unusedVariables false
set_option linter.unusedSimpArgs false
attribute [local go_sem] Oper.semAt_some
/-- A piece, and where its bytes lie. -/
structure Pv where
  pc : Pc
  A : Option Addr
  c : Nat
def Pv.v (x : Pv) : Value := .agg #[.slice x.A x.pc.pl.length x.c, .int .i64 (x.pc.n : Int), .int .i64 (x.pc.d : Int)]
def encV (x : Pv) : Array Value := #[x.v]
/-- A piece stands. -/
structure Gv (T : Nat → Prop) (x : Pv) (W : World) : Prop where
  C : (Kd.int .u8).C W x.A x.pc.pl.length x.pc.pl
  c : x.pc.pl.length ≤ x.c
  at_ : ∀ a, x.A = some a → T a.block ∧ ∃ cs, W.heap[a.block]? = some (.cells cs 5 (0, 0))
  few : x.pc.pl.length ≤ 128
  num : (x.pc.n = 0 ∧ 1 ≤ x.pc.pl.length) ∨ (4 ≤ x.pc.n ∧ x.pc.n ≤ 131 ∧ 1 ≤ x.pc.d ∧ x.pc.d ≤ 4096)
theorem toC {T : Nat → Prop} {w w' : World} (h : SqF.Chg T w w') : ItC.Chg T w w' := ⟨h.os, h.tape, h.output, h.size, h.block⟩
theorem chg_mono {T T' : Nat → Prop} {w w' : World} (h : ItC.Chg T w w') (hs : ∀ k, T k → T' k) : ItC.Chg T' w w' := ⟨h.os, h.tape, h.output, h.size, fun k hk hn => h.block k hk (fun ht => hn (hs k ht))⟩
def n5 : Value → Nat
  | .int _ x => x.toNat
  | _ => 0
/-- What stands between the rounds. -/
structure St (J : (Nat → Prop) → List Pv → World → Prop) (B0 Bp f m : Nat) (A : Option Addr) (c : Nat) (p : List Int) (i : Nat) (q : List Int) (v : Value) (pre : List Pv) (T T1 : Nat → Prop) (w : World) : Prop where
  fi : Fi w B0 T1 f m A c p i
  sub : ∀ k, T1 k → T k
  low : ∀ k, T k → B0 ≤ k
  tl : ∀ k, T k → k < w.heap.size
  size : B0 ≤ w.heap.size
  bp : T Bp ∧ ¬ T1 Bp
  row : Kd.R (Kd.int .u8) 5 w B0 (fun _ => True) (v) (q)
  rt : ∀ g, v.ownBlock = some g → T g ∧ ¬ T1 g
  j : J T pre w
  box : w.heap[Bp]? = some (.cells #[.slice A p.length c] 22 (0, 0))
section
variable {J : (Nat → Prop) → List Pv → World → Prop} {B0 Bp f m : Nat} {A : Option Addr} {c : Nat} {p : List Int} {i : Nat} {q : List Int} {v : Value} {pre : List Pv} {T T1 : Nat → Prop} {w w' : World}
theorem St.grown (h : St J B0 Bp f m A c p i q v pre T T1 w) (hJ : BearsC J) (hg : w.grownBy w' none) : St J B0 Bp f m A c p i q v pre T T1 w' := by
  have same : ∀ k, k < w.heap.size → w'.heap[k]? = w.heap[k]? := fun k hk => hg.block k hk (fun e => by cases e)
  exact ⟨h.fi.kept (fun _ h => h) h.fi.low hg.size (fun k _ hk => same k hk), h.sub, h.low, fun k hk => Nat.lt_of_lt_of_le (h.tl k hk) hg.size, Nat.le_trans h.size hg.size, h.bp, R_same (flat_int _) h.row (fun g hg' => same g (R_lt_size h.row g hg')), h.rt, hJ.fresh h.j hg, (same Bp (h.tl _ h.bp.1)).trans h.box⟩
theorem St.add (h : St J B0 Bp f m A c p i q v pre T T1 w) (hJ : BearsC J) (ha : AddP w B0 T1 f m A c p i w') : St J B0 Bp f m A c p (i + 1) q v pre (fun k => T k ∨ (w.heap.size ≤ k ∧ k < w'.heap.size)) (fun k => T1 k ∨ (w.heap.size ≤ k ∧ k < w'.heap.size)) w' := by
  obtain ⟨hc, hf⟩ := ha
  refine ⟨hf, fun k hk => hk.imp (h.sub k) id, fun k hk => ?_, fun k hk => ?_, Nat.le_trans h.size hc.size, ⟨.inl h.bp.1, fun ht => ht.elim h.bp.2 (fun ht => by have := h.tl _ h.bp.1; omega)⟩, R_same (flat_int _) h.row (fun g hg => hc.block g (R_lt_size h.row g hg) (h.rt g hg).2), fun g hg => ⟨.inl (h.rt g hg).1, fun ht => ?_⟩, hJ.chg _ _ _ _ _ h.j (chg_mono (toC hc) h.sub) (fun _ h => .inl h) (fun _ h => h), (hc.block Bp (h.tl _ h.bp.1) h.bp.2).trans h.box⟩
  · rcases hk with hk | hk
    · exact h.low k hk
    · have := h.size; omega
  · rcases hk with hk | hk
    · exact Nat.lt_of_lt_of_le (h.tl k hk) hc.size
    · exact hk.2
  · rcases ht with ht | ht
    · exact (h.rt g hg).2 ht
    · have := R_lt_size h.row g hg; omega
theorem St.app {v' : Value} {x : Int} (h : St J B0 Bp f m A c p i q v pre T T1 w) (hJ : BearsC J) (hr : Kd.R (Kd.int .u8) 5 w' B0 (fun _ => True) (v') (q ++ [x])) (hg : w.grownBy w' v.ownBlock) (hat : v'.ownBlock = v.ownBlock ∨ ∃ b, v'.ownBlock = some b ∧ w.heap.size ≤ b) :
    St J B0 Bp f m A c p i (q ++ [x]) v' pre (fun k => T k ∨ (v'.ownBlock = some k ∧ w.heap.size ≤ k)) T1 w' := by
  have hlow : ∀ k, v.ownBlock = some k → B0 ≤ k := fun k hk => h.low k (h.rt k hk).1
  refine ⟨h.fi.kept (fun _ h => h) h.fi.low hg.size (fun k hk hl => hg.block k hl (fun e => ?_)), fun k hk => .inl (h.sub k hk), fun k hk => ?_, fun k hk => ?_, Nat.le_trans h.size hg.size, ⟨.inl h.bp.1, h.bp.2⟩, hr, fun g hgv => ?_, hJ.chg _ _ _ _ _ h.j (ItC.Chg.of hg (fun r e => .inl (h.rt r e).1)) (fun _ h => .inl h) (fun k hk => hk.imp id (fun hk => ⟨hk.2, R_lt_size hr k hk.1⟩)), (hg.block Bp (h.tl _ h.bp.1) (fun e => by
    obtain ⟨cells, hcs⟩ := Kd.R_typed h.row _ e.symm
    rw [h.box] at hcs
    injection hcs with hcs
    injection hcs with _ e2 _
    exact absurd e2 (by decide))).trans h.box⟩
  · rcases hk with hk | hk
    · have := hlow _ e.symm; omega
    · exact (h.rt _ e.symm).2 hk
  · rcases hk with hk | hk
    · exact h.low k hk
    · have := h.size; omega
  · rcases hk with hk | hk
    · exact Nat.lt_of_lt_of_le (h.tl k hk) hg.size
    · exact R_lt_size hr k hk.1
  · rcases hat with e | ⟨b, e, hb⟩
    · rw [e] at hgv
      exact ⟨.inl (h.rt g hgv).1, (h.rt g hgv).2⟩
    · rw [hgv] at e
      injection e with e
      subst e
      exact ⟨.inr ⟨hgv, hb⟩, fun ht => by
        have hl : ∀ k, T1 k → k < w.heap.size := fun k hk => h.tl k (h.sub k hk)
        have := hl _ ht; omega⟩
theorem St.yield {x : Pv} (h : St J B0 Bp f m A c p i q v pre T T1 w) (hj : J T (pre ++ [x]) w') (hk : Kept B0 T w w') : St J B0 Bp f m A c p i q v (pre ++ [x]) T T1 w' :=
  ⟨h.fi.kept (fun _ h => h) h.fi.low hk.size (fun k hk' hl => hk.same k (hk'.imp id (h.sub k)) hl), h.sub, h.low, fun k hk' => Nat.lt_of_lt_of_le (h.tl k hk') hk.size, Nat.le_trans h.size hk.size, h.bp,
    R_same (flat_int _) h.row (fun g hg => hk.same g (.inr (h.rt g hg).1) (R_lt_size h.row g hg)), h.rt, hj, (hk.same Bp (.inr h.bp.1) (h.tl _ h.bp.1)).trans h.box⟩
theorem St.clear (h : St J B0 Bp f m A c p i q v pre T T1 w) : St J B0 Bp f m A c p i [] (.slice none 0 0) pre T T1 w :=
  ⟨h.fi, h.sub, h.low, h.tl, h.size, h.bp, Kd.R_nil _ _ _ _ _, fun g hg => by simp [Value.ownBlock] at hg, h.j, h.box⟩
theorem St.gv {A' : Option Addr} {c' : Nat} (h : St J B0 Bp f m A c p i q (.slice A' q.length c') pre T T1 w) (h1 : 1 ≤ q.length) (h2 : q.length ≤ 128) : Gv T ⟨⟨q, 0, 0⟩, A', c'⟩ w := by
  obtain ⟨_, h3, h4⟩ := Kd.R_reads' h.row
  exact ⟨h4, h3, fun a ha => by
    subst ha
    exact ⟨(h.rt a.block rfl).1, Kd.R_typed h.row _ rfl⟩, h2, .inl ⟨rfl, h1⟩⟩
theorem gv_match {n d : Nat} (h : 4 ≤ n ∧ n ≤ 131 ∧ 1 ≤ d ∧ d ≤ 4096) : Gv T ⟨⟨[], n, d⟩, none, 0⟩ w :=
  ⟨⟨rfl, by simp [maxLen], fun h => absurd h (by simp)⟩, Nat.le_refl _, fun a ha => (by cases ha), by simp, Or.inr h⟩
end
theorem pcs_succ {p : List Int} {g i : Nat} {pl : List Int} (h : i < p.length) : pcs p (g + 1) i pl = (if (matchP p i).1 = 0 then
        (if pl.length + 1 = 128 ∨ i + 1 = p.length then ⟨pl ++ [p.getD i 0], 0, 0⟩ :: pcs p g (i + 1) [] else pcs p g (i + 1) (pl ++ [p.getD i 0]))
      else (if 0 < pl.length then [⟨pl, 0, 0⟩] else []) ++ ⟨[], (matchP p i).1, (matchP p i).2⟩ :: pcs p g (i + (matchP p i).1) []) := if_pos h
set_option maxRecDepth 100000 in
set_option maxHeartbeats 8000000 in
theorem iter_in (n : Nat) (hn : 1 ≤ n) (l Bp : Nat) (A : Option Addr) (c : Nat) (p : List Int) (hB : Bytes p) (hp : p.length ≤ 8192) (hc : p.length ≤ c) (B0 : Nat) (hal : ∀ a, A = some a → a.block < B0) (hbp : B0 ≤ Bp)
    (J : (Nat → Prop) → List Pv → World → Prop) (W : World) (hJ : BearsC J)
    (hY : ∀ T pre x W1, J T pre W1 → Gv T x W1 → pre.length < 8193 → YieldAt Fence.wide (n - 1) Try.prog l (encV x) W1 fun e W' => e = .returned (.bool true) ∧ J T (pre ++ [x]) W' ∧ Kept B0 T W1 W')
    (hB0 : B0 ≤ W.heap.size) (hcp : W.heap[Bp]? = some (.cells #[.slice A p.length c] 22 (0, 0))) (hC : (Kd.int .u8).C W A p.length p) (hJ0 : J (fun k => k = Bp) [] W) :
    CallsIn Fence.wide n Try.prog 21 #[.func (.yield l) #[] #[], .pointer (some ⟨Bp, 0, none⟩)] W fun e W' => (∃ v, e = .returned v) ∧ ∃ T xs, xs.map Pv.pc = pcs p p.length 0 [] ∧ J T xs W' := by
  have hbl := (Array.getElem?_eq_some_iff.1 hcp).1
  have c0 := obj_cell (v := .slice A p.length c) hcp 0 rfl
  have HCP := Aside0.mk hcp
  have HC := Aside0.mk hC
  have HJ0 := Aside0.mk hJ0
  have HY := Aside0.mk hY
  have HB := Aside0.mk hB
  have HAL := Aside0.mk hal
  clear hcp hC hJ0 hY hB hal
  refine callsIn_of_wp Try.func21 rfl trivial ?_ rfl
  simp only [Try.ntmps21, List.size_toArray, List.length_cons, List.length_nil, Nat.reduceAdd, Nat.reduceSub, Array.replicate_succ, Array.replicate_zero, List.push_toArray, List.append_toArray, List.nil_append, List.cons_append]
  have hmm := @run_makeMap Try.prog
  gi_wp2
  have h0m : (W.alloc (.map #[] 0)).heap.size = W.heap.size + 1 := by simp
  obtain ⟨W2, hW2⟩ : ∃ X, X = (W.alloc (.map #[] 0)).alloc (.cells #[.slice A p.length c, .map (some W.heap.size)] 49) := ⟨_, rfl⟩
  rw [← hW2]
  have hz2 : W2.heap.size = W.heap.size + 2 := by rw [hW2]; simp
  have same2 : ∀ k, k < W.heap.size → W2.heap[k]? = W.heap[k]? := fun k hk => by rw [hW2]; exact (Below.heap_alloc _ _ _ (by simp; omega)).trans (Below.heap_alloc _ _ _ hk)
  have hf2 : W2.heap[W.heap.size + 1]? = some (fd A p.length c W.heap.size) := by
    rw [hW2, ← h0m]
    exact heap_alloc_new _ _
  have hm2 : W2.heap[W.heap.size]? = (W.alloc (.map #[] 0)).heap[W.heap.size]? := by
    rw [hW2]
    exact Below.heap_alloc _ _ _ (by simp)
  have hg2 : W.grownBy W2 none := by rw [hW2]; exact (World.grownBy_alloc _ _ none).trans (World.grownBy_alloc _ _ none)
  have HST : Aside0 (St J B0 Bp (W.heap.size + 1) W.heap.size A c p 0 [] (.slice none 0 0) [] (fun k => k = Bp ∨ k = W.heap.size ∨ k = W.heap.size + 1) (fun k => k = W.heap.size ∨ k = W.heap.size + 1) W2) := ⟨by
    refine ⟨⟨hf2, .inr rfl, .inl rfl, fun k hk => by omega, C_same HC.out (fun a ha => same2 _ (by have := HAL.out a ha; omega)), hc, fun a ha => ⟨HAL.out a ha, by have := HAL.out a ha; omega⟩, fun _ => none, 0, fun _ => .slice none 0 0, (MapF.made W).move hm2, Nat.le_refl _, fun k hk => ⟨rfl, Kd.R_nil _ _ _ _ _, fun _ => rfl, fun g hg => by simp [Value.ownBlock] at hg⟩⟩, fun _ h => .inr h, fun k hk => by omega, fun k hk => by omega, by omega, ⟨.inl rfl, fun h => by omega⟩, Kd.R_nil _ _ _ _ _, fun g hg => by simp [Value.ownBlock] at hg, ?_, (same2 Bp (by omega)).trans HCP.out⟩
    exact hJ.chg _ _ _ _ _ HJ0.out (ItC.Chg.of hg2 (fun r e => by cases e)) (fun _ h => .inl h) (fun k hk => hk.imp id (fun hk => by omega))⟩
  clear hW2 hbl same2 hf2 hm2 hg2 h0m c0 hmm
  gi_loopw [4, 5] (fun v4 v5 wr => ∃ (i g : Nat) (q : List Int) (pre : List Pv) (T T1 : Nat → Prop), v5 = .int .i64 (i : Int) ∧ i ≤ p.length ∧ Aside0 (p.length - i ≤ g) ∧ Aside0 (pre.map Pv.pc ++ pcs p g i q = pcs p p.length 0 []) ∧ Aside0 (pre.length + q.length ≤ i) ∧ Aside0 (q.length < 128) ∧ Aside0 (i = p.length → q = []) ∧ Aside0 (St J B0 Bp (W.heap.size + 1) W.heap.size A c p i q v4 pre T T1 wr)) (fun v4 v5 wr => p.length - n5 v5)
  case atStart => exact ⟨0, p.length, [], [], _, _, rfl, Nat.zero_le _, ⟨Nat.le_refl _⟩, ⟨rfl⟩, ⟨by simp⟩, ⟨by simp⟩, ⟨fun _ => rfl⟩, HST⟩
  case round =>
    obtain ⟨i, g, q, pre, T, T1, rfl, hi, HG, HPC, HLN, HQ, HEND, HS⟩ := hrel
    have cr := obj_cell (v := .slice A p.length c) HS.out.box 0 rfl
    obtain ⟨A4, c4, rfl, hc4, -⟩ := Kd.R_reads HS.out.row
    by_cases hlt : i < p.length
    · have d1 : decide ((i : Int) < (p.length : Int)) = true := by simp only [decide_eq_true_eq]; omega
      have d1' : decide (i < p.length) = true := decide_eq_true hlt
      obtain ⟨g, rfl⟩ : ∃ g', g = g' + 1 := ⟨g - 1, by have := HG.out; omega⟩
      have hmc := callsIn_wide.1 (match_calls HS.out.fi HB.out hp hi)
      have hmi := match_in (p := p) hi
      rw [← match_is p i hi] at hmi
      have hpc := HPC.out
      rw [pcs_succ hlt] at hpc
      obtain ⟨⟨n', d⟩, hM⟩ : ∃ M, M = matchP p i := ⟨_, rfl⟩
      rw [← hM] at hmc hmi hpc
      clear hM HPC
      dsimp only at *
      have HMC := Aside0.mk hmc
      have HPC := Aside0.mk hpc
      have HMI := Aside0.mk hmi
      obtain ⟨ad, rfl, -⟩ := Kd.at_int HS.out.fi.C (i : Int) (by omega) (by omega)
      have HCL : Aside0 (∀ w', Fi w' B0 (fun _ => False) 0 0 (some ad) c p 0 → True) := ⟨fun _ _ => trivial⟩
      have hib : i ≤ 8192 := by omega
      clear hmc hpc hmi HCL
      by_cases hn0 : n' = 0
      · have e0 : ((n' : Int) == 0) = true := by simp [hn0]
        have e1 : decide ((0 : Int) < (n' : Int)) = false := by simp [hn0]
        have e1' : decide (0 < n') = false := by simp [hn0]
        obtain ⟨s, hs⟩ : ∃ s, s = i + 1 := ⟨_, rfl⟩
        have hws : IntKind.i64.wrap ((i : Int) + 1) = (s : Int) := by rw [IntWalk.i64_in _ (by omega)]; omega
        have hpi1 : (0 : Int) ≤ (i : Int) := by omega
        have hpi2 : (i : Int) < (p.length : Int) := by omega
        have HN0 := Aside0.mk hn0
        have HSI := Aside0.mk hs
        have HPC0 := Aside0.mk (show List.map Pv.pc pre ++ (if q.length + 1 = 128 ∨ s = p.length then ⟨q ++ [p.getD i 0], 0, 0⟩ :: pcs p g s [] else pcs p g s (q ++ [p.getD i 0])) = pcs p p.length 0 [] from by have := HPC.out; rw [if_pos hn0] at this; rw [hs]; exact this)
        have hrd : rd p (i : Int) = p.getD i 0 := by show p.getD ((i : Int).toNat) 0 = _; rw [Int.toNat_natCast]
        have HCE := Aside0.mk (fun (w' : World) (h : (Kd.int .u8).C w' (some ad) p.length p) => show w'.cell? (ad.add i) = some (.int .u8 (p.getD i 0)) from by
          obtain ⟨ad', had, hc'⟩ := Kd.at_int h (i : Int) (by omega) (by omega)
          injection had with had
          subst had
          rw [hrd, Int.toNat_natCast] at hc'
          exact hc')
        obtain ⟨q2, hq2⟩ : ∃ q2, q2 = q ++ [p.getD i 0] := ⟨_, rfl⟩
        have HQ2 := Aside0.mk hq2
        have hq2l : q2.length = q.length + 1 := by rw [hq2]; simp
        rw [← hq2] at HPC0
        have f1 : decide ((0 : Int) < (q2.length : Int)) = true := by simp only [decide_eq_true_eq]; omega
        have f1' : decide (0 < q2.length) = true := by simp only [decide_eq_true_eq]; omega
        have HL2 := Aside0.mk hq2l
        clear hrd hq2
        generalize p.getD i 0 = ch at *
        clear hs hn0 hlt HPC
        by_cases h128 : q.length + 1 = 128
        · have b1 : ((q2.length : Int) == 128) = true := by rw [hq2l]; simp; omega
          have hpc1 := HPC0.out
          rw [if_pos (Or.inl h128)] at hpc1
          have HPC1 := Aside0.mk hpc1
          clear h128 hq2l hpc1
          gi_wp2_with (first
            | (refine ⟨trivial, ?_⟩; gi_at_call 22; (with_reducible refine (callsIn_wide.2 HMC.out).mono ?_); rintro e w1 ⟨rfl, hg1⟩; have HS1 := Aside0.mk (HS.out.grown hJ hg1); clear hg1)
            | (refine ⟨trivial, ?_⟩; gi_at_call 23; (with_reducible refine (callsIn_wide.2 (add_calls HS1.out.fi HB.out hp hi HS1.out.size)).mono ?_); rintro e w2 ⟨⟨v2, rfl⟩, ha⟩; have HS2 := Aside0.mk (HS1.out.add hJ ha); clear ha; have cr2 := obj_cell (v := .slice (some ad) p.length c) HS2.out.box 0 rfl; have cl2 := HCE.out _ HS2.out.fi.C)
            | (gi_at_builtin; refine listW_plain rfl (by intro c h; cases h) (fun KK hKK => ?_); refine app1 (Kd.int .u8) (flat_int .u8) B0 (w0 := w2) (.tmp 28) (.tmp 33) 22 5 (.int .u8 0) 1 rfl rfl Try.underlying22 infoU8 rfl (by decide) (by decide) _ q ch [.int .u8 ch] rfl rfl rfl HS2.out.row (Below.refl _ _) HS2.out.size (by have := HQ.out; omega) ?_; intro v3 w3 ho3 hb3 hg3 hat3; refine wpList_nil (hKK _ _ ?_); have HS3 := Aside0.mk (HS2.out.app hJ ho3 hg3 hat3); rw [← HQ2.out, ← HSI.out] at HS3; obtain ⟨A5, c5, rfl, hc5, -⟩ := Kd.R_reads HS3.out.row; have cr3 := obj_cell (v := .slice (some ad) p.length c) HS3.out.box 0 rfl; obtain ⟨fn, tmps, assign, body, hy, hR⟩ := HY.out _ pre ⟨⟨q2, 0, 0⟩, A5, c5⟩ w3 HS3.out.j (HS3.out.gv (by have := HL2.out; omega) (by have := HQ.out; have := HL2.out; omega)) (by have := HLN.out; omega); have hy' : (Instr.yield l #[.agg #[.slice A5 q2.length c5, .int .i64 0, .int .i64 0]]).run Try.prog w3 = .ok (.round l fn tmps assign body) w3 := hy; have HR := Aside0.mk hR; clear hR hy ho3 hb3 hg3 hat3 cl2 cr2))
          refine HR.out.mono ?_
          rintro e w4 ⟨rfl, hJ4, hk4⟩
          have HSz := Aside0.mk (HS3.out.yield hJ4 hk4).clear
          clear hJ4 hk4 HR hy'
          have HTL : Aside0 (s + n' ≤ p.length) := ⟨by have := HSI.out; have := HN0.out; omega⟩
          have HDN : Aside0 (i < s + n' ∧ i < p.length) := ⟨by have := HSI.out; omega⟩
          have HGz : Aside0 (p.length - (s + n') ≤ g) := ⟨by have := HSI.out; have := HG.out; omega⟩
          have HPCz : Aside0 ((pre ++ [(⟨⟨q2, 0, 0⟩, A5, c5⟩ : Pv)]).map Pv.pc ++ pcs p g (s + n') [] = pcs p p.length 0 []) := ⟨by rw [HN0.out, List.map_append, List.append_assoc]; exact HPC1.out⟩
          have HLNz : Aside0 ((pre ++ [(⟨⟨q2, 0, 0⟩, A5, c5⟩ : Pv)]).length + ([] : List Int).length ≤ s + n') := ⟨by have := HLN.out; have := HSI.out; simp; omega⟩
          have HQz : Aside0 (([] : List Int).length < 128) := ⟨by simp⟩
          have HEz : Aside0 (s + n' = p.length → ([] : List Int) = []) := ⟨fun _ => rfl⟩
          gi_wp2
          refine ⟨fun _ _ => trivial, ?_⟩
          rename_i K0 hK0 xr hh hw heq
          refine hK0 _ _ ?_
          clear hK0 heq
          gi_wp2
          gi_loopw [71] (fun v71 wq => ∃ (k : Nat) (T T1 : Nat → Prop), v71 = .int .i64 (k : Int) ∧ k ≤ n' ∧ Aside0 (St J B0 Bp (W.heap.size + 1) W.heap.size (some ad) c p (s + k) ([] : List Int) (.slice none 0 0) (pre ++ [(⟨⟨q2, 0, 0⟩, A5, c5⟩ : Pv)]) T T1 wq)) (fun v71 wq => n' - n5 v71)
          case atStart => exact ⟨0, _, _, rfl, Nat.zero_le _, HSz⟩
          case round =>
            obtain ⟨k, T, T1, rfl, hk, HSk⟩ := hrel
            by_cases hkn : k < n'
            · have k1 : decide ((k : Int) < (n' : Int)) = true := by simp only [decide_eq_true_eq]; omega
              have k1' : decide (k < n') = true := decide_eq_true hkn
              obtain ⟨j, hj⟩ : ∃ j, j = s + k := ⟨_, rfl⟩
              have hjb : j ≤ p.length := by have := HTL.out; omega
              have hwj : IntKind.i64.wrap ((s : Int) + (k : Int)) = (j : Int) := by rw [IntWalk.i64_in _ (by omega)]; omega
              have hwk : IntKind.i64.wrap ((k : Int) + 1) = (k : Int) + 1 := IntWalk.i64_in _ (by have := HTL.out; omega)
              have HJK := Aside0.mk hj
              have HKN := Aside0.mk hkn
              rw [← hj] at HSk
              have HJB : Aside0 (j ≤ p.length) := ⟨by have := HTL.out; omega⟩
              clear hj hkn
              gi_wp2_with (refine ⟨trivial, ?_⟩; gi_at_call 23; (with_reducible refine (callsIn_wide.2 (add_calls HSk.out.fi HB.out hp HJB.out HSk.out.size)).mono ?_); rintro e w9 ⟨⟨v9, rfl⟩, ha⟩; have HS9 := Aside0.mk (HSk.out.add hJ ha); clear ha)
              go_roundw
              case rel => exact ⟨k + 1, _, _, by go_num, by have := HKN.out; omega, ⟨by have := HS9.out; rw [HJK.out] at this; exact this⟩⟩
              case measure => have := HKN.out; simp [n5]; omega
            · obtain rfl : k = n' := by omega
              have k1 : decide ((k : Int) < (k : Int)) = false := by simp
              have hwt : IntKind.i64.wrap ((s : Int) + (k : Int)) = ((s + k : Nat) : Int) := by rw [IntWalk.i64_in _ (by have := HTL.out; omega)]; omega
              gi_wp2
              go_roundw
              case rel => exact ⟨s + k, g, _, _, _, _, rfl, HTL.out, HGz, HPCz, HLNz, HQz, by first | exact HEz | exact ⟨fun _ => rfl⟩, HSk⟩
              case measure => have := HDN.out; simp [n5]; omega
        · have b1 : ((q2.length : Int) == 128) = false := by rw [hq2l]; simp; omega
          by_cases hsp : s = p.length
          · have b2 : ((s : Int) == (p.length : Int)) = true := by simp; omega
            have hpc1 := HPC0.out
            rw [if_pos (Or.inr hsp)] at hpc1
            have HPC1 := Aside0.mk hpc1
            clear h128 hq2l hpc1 hsp
            gi_wp2_with (first
              | (refine ⟨trivial, ?_⟩; gi_at_call 22; (with_reducible refine (callsIn_wide.2 HMC.out).mono ?_); rintro e w1 ⟨rfl, hg1⟩; have HS1 := Aside0.mk (HS.out.grown hJ hg1); clear hg1)
              | (refine ⟨trivial, ?_⟩; gi_at_call 23; (with_reducible refine (callsIn_wide.2 (add_calls HS1.out.fi HB.out hp hi HS1.out.size)).mono ?_); rintro e w2 ⟨⟨v2, rfl⟩, ha⟩; have HS2 := Aside0.mk (HS1.out.add hJ ha); clear ha; have cr2 := obj_cell (v := .slice (some ad) p.length c) HS2.out.box 0 rfl; have cl2 := HCE.out _ HS2.out.fi.C)
              | (gi_at_builtin; refine listW_plain rfl (by intro c h; cases h) (fun KK hKK => ?_); refine app1 (Kd.int .u8) (flat_int .u8) B0 (w0 := w2) (.tmp 28) (.tmp 33) 22 5 (.int .u8 0) 1 rfl rfl Try.underlying22 infoU8 rfl (by decide) (by decide) _ q ch [.int .u8 ch] rfl rfl rfl HS2.out.row (Below.refl _ _) HS2.out.size (by have := HQ.out; omega) ?_; intro v3 w3 ho3 hb3 hg3 hat3; refine wpList_nil (hKK _ _ ?_); have HS3 := Aside0.mk (HS2.out.app hJ ho3 hg3 hat3); rw [← HQ2.out, ← HSI.out] at HS3; obtain ⟨A5, c5, rfl, hc5, -⟩ := Kd.R_reads HS3.out.row; have cr3 := obj_cell (v := .slice (some ad) p.length c) HS3.out.box 0 rfl; obtain ⟨fn, tmps, assign, body, hy, hR⟩ := HY.out _ pre ⟨⟨q2, 0, 0⟩, A5, c5⟩ w3 HS3.out.j (HS3.out.gv (by have := HL2.out; omega) (by have := HQ.out; have := HL2.out; omega)) (by have := HLN.out; omega); have hy' : (Instr.yield l #[.agg #[.slice A5 q2.length c5, .int .i64 0, .int .i64 0]]).run Try.prog w3 = .ok (.round l fn tmps assign body) w3 := hy; have HR := Aside0.mk hR; clear hR hy ho3 hb3 hg3 hat3 cl2 cr2))
            refine HR.out.mono ?_
            rintro e w4 ⟨rfl, hJ4, hk4⟩
            have HSz := Aside0.mk (HS3.out.yield hJ4 hk4).clear
            clear hJ4 hk4 HR hy'
            have HTL : Aside0 (s + n' ≤ p.length) := ⟨by have := HSI.out; have := HN0.out; omega⟩
            have HDN : Aside0 (i < s + n' ∧ i < p.length) := ⟨by have := HSI.out; omega⟩
            have HGz : Aside0 (p.length - (s + n') ≤ g) := ⟨by have := HSI.out; have := HG.out; omega⟩
            have HPCz : Aside0 ((pre ++ [(⟨⟨q2, 0, 0⟩, A5, c5⟩ : Pv)]).map Pv.pc ++ pcs p g (s + n') [] = pcs p p.length 0 []) := ⟨by rw [HN0.out, List.map_append, List.append_assoc]; exact HPC1.out⟩
            have HLNz : Aside0 ((pre ++ [(⟨⟨q2, 0, 0⟩, A5, c5⟩ : Pv)]).length + ([] : List Int).length ≤ s + n') := ⟨by have := HLN.out; have := HSI.out; simp; omega⟩
            have HQz : Aside0 (([] : List Int).length < 128) := ⟨by simp⟩
            have HEz : Aside0 (s + n' = p.length → ([] : List Int) = []) := ⟨fun _ => rfl⟩
            gi_wp2
            refine ⟨fun _ _ => trivial, ?_⟩
            rename_i K0 hK0 xr hh hw heq
            refine hK0 _ _ ?_
            clear hK0 heq
            gi_wp2
            gi_loopw [71] (fun v71 wq => ∃ (k : Nat) (T T1 : Nat → Prop), v71 = .int .i64 (k : Int) ∧ k ≤ n' ∧ Aside0 (St J B0 Bp (W.heap.size + 1) W.heap.size (some ad) c p (s + k) ([] : List Int) (.slice none 0 0) (pre ++ [(⟨⟨q2, 0, 0⟩, A5, c5⟩ : Pv)]) T T1 wq)) (fun v71 wq => n' - n5 v71)
            case atStart => exact ⟨0, _, _, rfl, Nat.zero_le _, HSz⟩
            case round =>
              obtain ⟨k, T, T1, rfl, hk, HSk⟩ := hrel
              by_cases hkn : k < n'
              · have k1 : decide ((k : Int) < (n' : Int)) = true := by simp only [decide_eq_true_eq]; omega
                have k1' : decide (k < n') = true := decide_eq_true hkn
                obtain ⟨j, hj⟩ : ∃ j, j = s + k := ⟨_, rfl⟩
                have hjb : j ≤ p.length := by have := HTL.out; omega
                have hwj : IntKind.i64.wrap ((s : Int) + (k : Int)) = (j : Int) := by rw [IntWalk.i64_in _ (by omega)]; omega
                have hwk : IntKind.i64.wrap ((k : Int) + 1) = (k : Int) + 1 := IntWalk.i64_in _ (by have := HTL.out; omega)
                have HJK := Aside0.mk hj
                have HKN := Aside0.mk hkn
                rw [← hj] at HSk
                have HJB : Aside0 (j ≤ p.length) := ⟨by have := HTL.out; omega⟩
                clear hj hkn
                gi_wp2_with (refine ⟨trivial, ?_⟩; gi_at_call 23; (with_reducible refine (callsIn_wide.2 (add_calls HSk.out.fi HB.out hp HJB.out HSk.out.size)).mono ?_); rintro e w9 ⟨⟨v9, rfl⟩, ha⟩; have HS9 := Aside0.mk (HSk.out.add hJ ha); clear ha)
                go_roundw
                case rel => exact ⟨k + 1, _, _, by go_num, by have := HKN.out; omega, ⟨by have := HS9.out; rw [HJK.out] at this; exact this⟩⟩
                case measure => have := HKN.out; simp [n5]; omega
              · obtain rfl : k = n' := by omega
                have k1 : decide ((k : Int) < (k : Int)) = false := by simp
                have hwt : IntKind.i64.wrap ((s : Int) + (k : Int)) = ((s + k : Nat) : Int) := by rw [IntWalk.i64_in _ (by have := HTL.out; omega)]; omega
                gi_wp2
                go_roundw
                case rel => exact ⟨s + k, g, _, _, _, _, rfl, HTL.out, HGz, HPCz, HLNz, HQz, by first | exact HEz | exact ⟨fun _ => rfl⟩, HSk⟩
                case measure => have := HDN.out; simp [n5]; omega
          · have b2 : ((s : Int) == (p.length : Int)) = false := by simp; omega
            have hpc1 := HPC0.out
            rw [if_neg (fun h => h.elim h128 hsp)] at hpc1
            have HPC1 := Aside0.mk hpc1
            have H128 := Aside0.mk h128
            have HSP := Aside0.mk hsp
            clear h128 hq2l hpc1 hsp
            gi_wp2_with (first
              | (refine ⟨trivial, ?_⟩; gi_at_call 22; (with_reducible refine (callsIn_wide.2 HMC.out).mono ?_); rintro e w1 ⟨rfl, hg1⟩; have HS1 := Aside0.mk (HS.out.grown hJ hg1); clear hg1)
              | (refine ⟨trivial, ?_⟩; gi_at_call 23; (with_reducible refine (callsIn_wide.2 (add_calls HS1.out.fi HB.out hp hi HS1.out.size)).mono ?_); rintro e w2 ⟨⟨v2, rfl⟩, ha⟩; have HS2 := Aside0.mk (HS1.out.add hJ ha); clear ha; have cr2 := obj_cell (v := .slice (some ad) p.length c) HS2.out.box 0 rfl; have cl2 := HCE.out _ HS2.out.fi.C)
              | (gi_at_builtin; refine listW_plain rfl (by intro c h; cases h) (fun KK hKK => ?_); refine app1 (Kd.int .u8) (flat_int .u8) B0 (w0 := w2) (.tmp 28) (.tmp 33) 22 5 (.int .u8 0) 1 rfl rfl Try.underlying22 infoU8 rfl (by decide) (by decide) _ q ch [.int .u8 ch] rfl rfl rfl HS2.out.row (Below.refl _ _) HS2.out.size (by have := HQ.out; omega) ?_; intro v3 w3 ho3 hb3 hg3 hat3; refine wpList_nil (hKK _ _ ?_); have HS3 := Aside0.mk (HS2.out.app hJ ho3 hg3 hat3); rw [← HQ2.out, ← HSI.out] at HS3; obtain ⟨A5, c5, rfl, hc5, -⟩ := Kd.R_reads HS3.out.row; have cr3 := obj_cell (v := .slice (some ad) p.length c) HS3.out.box 0 rfl; obtain ⟨fn, tmps, assign, body, hy, hR⟩ := HY.out _ pre ⟨⟨q2, 0, 0⟩, A5, c5⟩ w3 HS3.out.j (HS3.out.gv (by have := HL2.out; omega) (by have := HQ.out; have := HL2.out; omega)) (by have := HLN.out; omega); have hy' : (Instr.yield l #[.agg #[.slice A5 q2.length c5, .int .i64 0, .int .i64 0]]).run Try.prog w3 = .ok (.round l fn tmps assign body) w3 := hy; have HR := Aside0.mk hR; clear hR hy ho3 hb3 hg3 hat3 cl2 cr2))
            clear HR hy'
            have HSz := HS3
            have HTL : Aside0 (s + n' ≤ p.length) := ⟨by have := HSI.out; have := HN0.out; omega⟩
            have HDN : Aside0 (i < s + n' ∧ i < p.length) := ⟨by have := HSI.out; omega⟩
            have HGz : Aside0 (p.length - (s + n') ≤ g) := ⟨by have := HSI.out; have := HG.out; omega⟩
            have HPCz : Aside0 (pre.map Pv.pc ++ pcs p g (s + n') q2 = pcs p p.length 0 []) := ⟨by rw [HN0.out]; exact HPC1.out⟩
            have HLNz : Aside0 (pre.length + q2.length ≤ s + n') := ⟨by have := HLN.out; have := HSI.out; have := HL2.out; omega⟩
            have HQz : Aside0 (q2.length < 128) := ⟨by have := HQ.out; have := HL2.out; have := H128.out; omega⟩
            have HEz : Aside0 (s + n' = p.length → q2 = []) := ⟨fun h => absurd h (by have := HSP.out; have := HN0.out; omega)⟩
            gi_wp2
            refine ⟨fun _ _ => trivial, ?_⟩
            rename_i K0 hK0 xr hh hw heq
            refine hK0 _ _ ?_
            clear hK0 heq
            gi_wp2
            gi_loopw [71] (fun v71 wq => ∃ (k : Nat) (T T1 : Nat → Prop), v71 = .int .i64 (k : Int) ∧ k ≤ n' ∧ Aside0 (St J B0 Bp (W.heap.size + 1) W.heap.size (some ad) c p (s + k) q2 (.slice A5 q2.length c5) pre T T1 wq)) (fun v71 wq => n' - n5 v71)
            case atStart => exact ⟨0, _, _, rfl, Nat.zero_le _, HSz⟩
            case round =>
              obtain ⟨k, T, T1, rfl, hk, HSk⟩ := hrel
              by_cases hkn : k < n'
              · have k1 : decide ((k : Int) < (n' : Int)) = true := by simp only [decide_eq_true_eq]; omega
                have k1' : decide (k < n') = true := decide_eq_true hkn
                obtain ⟨j, hj⟩ : ∃ j, j = s + k := ⟨_, rfl⟩
                have hjb : j ≤ p.length := by have := HTL.out; omega
                have hwj : IntKind.i64.wrap ((s : Int) + (k : Int)) = (j : Int) := by rw [IntWalk.i64_in _ (by omega)]; omega
                have hwk : IntKind.i64.wrap ((k : Int) + 1) = (k : Int) + 1 := IntWalk.i64_in _ (by have := HTL.out; omega)
                have HJK := Aside0.mk hj
                have HKN := Aside0.mk hkn
                rw [← hj] at HSk
                have HJB : Aside0 (j ≤ p.length) := ⟨by have := HTL.out; omega⟩
                clear hj hkn
                gi_wp2_with (refine ⟨trivial, ?_⟩; gi_at_call 23; (with_reducible refine (callsIn_wide.2 (add_calls HSk.out.fi HB.out hp HJB.out HSk.out.size)).mono ?_); rintro e w9 ⟨⟨v9, rfl⟩, ha⟩; have HS9 := Aside0.mk (HSk.out.add hJ ha); clear ha)
                go_roundw
                case rel => exact ⟨k + 1, _, _, by go_num, by have := HKN.out; omega, ⟨by have := HS9.out; rw [HJK.out] at this; exact this⟩⟩
                case measure => have := HKN.out; simp [n5]; omega
              · obtain rfl : k = n' := by omega
                have k1 : decide ((k : Int) < (k : Int)) = false := by simp
                have hwt : IntKind.i64.wrap ((s : Int) + (k : Int)) = ((s + k : Nat) : Int) := by rw [IntWalk.i64_in _ (by have := HTL.out; omega)]; omega
                gi_wp2
                go_roundw
                case rel => exact ⟨s + k, g, _, _, _, _, rfl, HTL.out, HGz, HPCz, HLNz, HQz, by first | exact HEz | exact ⟨fun _ => rfl⟩, HSk⟩
                case measure => have := HDN.out; simp [n5]; omega
      · have e0 : ((n' : Int) == 0) = false := by simp [hn0]
        have e1 : decide ((0 : Int) < (n' : Int)) = true := by simp only [decide_eq_true_eq]; omega
        have e1' : decide (0 < n') = true := by simp only [decide_eq_true_eq]; omega
        obtain ⟨s, rfl⟩ : ∃ s, s = i := ⟨i, rfl⟩
        have hmi := HMI.out
        have HMG : Aside0 (4 ≤ n' ∧ n' ≤ 131 ∧ 1 ≤ d ∧ d ≤ 4096) := ⟨by rcases hmi.2.2.1 with h | h <;> omega⟩
        have HTL : Aside0 (s + n' ≤ p.length) := ⟨hmi.1⟩
        have HDN : Aside0 (s < s + n' ∧ s < p.length) := ⟨by omega⟩
        have HGz : Aside0 (p.length - (s + n') ≤ g) := ⟨by have := HG.out; omega⟩
        have hpc := HPC.out
        rw [if_neg hn0] at hpc
        have HQz : Aside0 (([] : List Int).length < 128) := ⟨by simp⟩
        have HEz : Aside0 (s + n' = p.length → ([] : List Int) = []) := ⟨fun _ => rfl⟩
        clear HPC hn0 hlt hmi
        by_cases hq0 : 0 < q.length
        · have f1 : decide ((0 : Int) < (q.length : Int)) = true := by simp only [decide_eq_true_eq]; omega
          have f1' : decide (0 < q.length) = true := by simp only [decide_eq_true_eq]; omega
          rw [if_pos hq0] at hpc
          have HPCz : Aside0 ((pre ++ [(⟨⟨q, 0, 0⟩, A4, c4⟩ : Pv)] ++ [(⟨⟨[], n', d⟩, none, 0⟩ : Pv)]).map Pv.pc ++ pcs p g (s + n') [] = pcs p p.length 0 []) := ⟨by simp only [List.map_append, List.map_cons, List.map_nil, List.append_assoc]; exact hpc⟩
          have HLNz : Aside0 ((pre ++ [(⟨⟨q, 0, 0⟩, A4, c4⟩ : Pv)] ++ [(⟨⟨[], n', d⟩, none, 0⟩ : Pv)]).length + ([] : List Int).length ≤ s + n') := ⟨by have := HLN.out; have := HMG.out; simp; omega⟩
          have HQ0 := Aside0.mk hq0
          clear hpc hq0
          gi_wp2_with (refine ⟨trivial, ?_⟩; gi_at_call 22; (with_reducible refine (callsIn_wide.2 HMC.out).mono ?_); rintro e w1 ⟨rfl, hg1⟩; have HS1 := Aside0.mk (HS.out.grown hJ hg1); clear hg1; obtain ⟨fn, tmps, assign, body, hy, hR⟩ := HY.out _ pre ⟨⟨q, 0, 0⟩, A4, c4⟩ w1 HS1.out.j (HS1.out.gv HQ0.out (by have := HQ.out; omega)) (by have := HLN.out; omega); have hy' : (Instr.yield l #[.agg #[.slice A4 q.length c4, .int .i64 0, .int .i64 0]]).run Try.prog w1 = .ok (.round l fn tmps assign body) w1 := hy; have HR := Aside0.mk hR; clear hR hy)
          refine HR.out.mono ?_
          rintro e w4 ⟨rfl, hJ4, hk4⟩
          have HS4 := Aside0.mk (HS1.out.yield hJ4 hk4).clear
          clear hJ4 hk4 HR hy'
          obtain ⟨fn2, tmps2, assign2, body2, hy2, hR2⟩ := HY.out _ (pre ++ [(⟨⟨q, 0, 0⟩, A4, c4⟩ : Pv)]) ⟨⟨[], n', d⟩, none, 0⟩ w4 HS4.out.j (gv_match HMG.out) (by have := HLN.out; have := HQ0.out; simp; omega)
          have hy2' : (Instr.yield l #[.agg #[.slice none 0 0, .int .i64 (n' : Int), .int .i64 (d : Int)]]).run Try.prog w4 = .ok (.round l fn2 tmps2 assign2 body2) w4 := hy2
          have HR2 := Aside0.mk hR2
          clear hR2 hy2
          gi_wp2
          refine HR2.out.mono ?_
          rintro e w5 ⟨rfl, hJ5, hk5⟩
          have HSz := Aside0.mk (HS4.out.yield hJ5 hk5)
          clear hJ5 hk5 HR2 hy2'
          gi_wp2
          gi_loopw [71] (fun v71 wq => ∃ (k : Nat) (T T1 : Nat → Prop), v71 = .int .i64 (k : Int) ∧ k ≤ n' ∧ Aside0 (St J B0 Bp (W.heap.size + 1) W.heap.size (some ad) c p (s + k) ([] : List Int) (.slice none 0 0) (pre ++ [(⟨⟨q, 0, 0⟩, A4, c4⟩ : Pv)] ++ [(⟨⟨[], n', d⟩, none, 0⟩ : Pv)]) T T1 wq)) (fun v71 wq => n' - n5 v71)
          case atStart => exact ⟨0, _, _, rfl, Nat.zero_le _, HSz⟩
          case round =>
            obtain ⟨k, T, T1, rfl, hk, HSk⟩ := hrel
            by_cases hkn : k < n'
            · have k1 : decide ((k : Int) < (n' : Int)) = true := by simp only [decide_eq_true_eq]; omega
              have k1' : decide (k < n') = true := decide_eq_true hkn
              obtain ⟨j, hj⟩ : ∃ j, j = s + k := ⟨_, rfl⟩
              have hjb : j ≤ p.length := by have := HTL.out; omega
              have hwj : IntKind.i64.wrap ((s : Int) + (k : Int)) = (j : Int) := by rw [IntWalk.i64_in _ (by omega)]; omega
              have hwk : IntKind.i64.wrap ((k : Int) + 1) = (k : Int) + 1 := IntWalk.i64_in _ (by have := HTL.out; omega)
              have HJK := Aside0.mk hj
              have HKN := Aside0.mk hkn
              rw [← hj] at HSk
              have HJB : Aside0 (j ≤ p.length) := ⟨by have := HTL.out; omega⟩
              clear hj hkn
              gi_wp2_with (refine ⟨trivial, ?_⟩; gi_at_call 23; (with_reducible refine (callsIn_wide.2 (add_calls HSk.out.fi HB.out hp HJB.out HSk.out.size)).mono ?_); rintro e w9 ⟨⟨v9, rfl⟩, ha⟩; have HS9 := Aside0.mk (HSk.out.add hJ ha); clear ha)
              go_roundw
              case rel => exact ⟨k + 1, _, _, by go_num, by have := HKN.out; omega, ⟨by have := HS9.out; rw [HJK.out] at this; exact this⟩⟩
              case measure => have := HKN.out; simp [n5]; omega
            · obtain rfl : k = n' := by omega
              have k1 : decide ((k : Int) < (k : Int)) = false := by simp
              have hwt : IntKind.i64.wrap ((s : Int) + (k : Int)) = ((s + k : Nat) : Int) := by rw [IntWalk.i64_in _ (by have := HTL.out; omega)]; omega
              gi_wp2
              go_roundw
              case rel => exact ⟨s + k, g, _, _, _, _, rfl, HTL.out, HGz, HPCz, HLNz, HQz, by first | exact HEz | exact ⟨fun _ => rfl⟩, HSk⟩
              case measure => have := HDN.out; simp [n5]; omega
        · obtain rfl : q = [] := List.length_eq_zero_iff.1 (by omega)
          rw [if_neg hq0] at hpc
          have HPCz : Aside0 ((pre ++ [(⟨⟨[], n', d⟩, none, 0⟩ : Pv)]).map Pv.pc ++ pcs p g (s + n') [] = pcs p p.length 0 []) := ⟨by simp only [List.map_append, List.map_cons, List.map_nil, List.append_assoc]; exact hpc⟩
          have HLNz : Aside0 ((pre ++ [(⟨⟨[], n', d⟩, none, 0⟩ : Pv)]).length + ([] : List Int).length ≤ s + n') := ⟨by have := HLN.out; have := HMG.out; simp at this ⊢; omega⟩
          clear hpc hq0
          gi_wp2_with (refine ⟨trivial, ?_⟩; gi_at_call 22; (with_reducible refine (callsIn_wide.2 HMC.out).mono ?_); rintro e w1 ⟨rfl, hg1⟩; have HS1 := Aside0.mk (HS.out.grown hJ hg1); clear hg1; obtain ⟨fn2, tmps2, assign2, body2, hy2, hR2⟩ := HY.out _ pre ⟨⟨[], n', d⟩, none, 0⟩ w1 HS1.out.j (gv_match HMG.out) (by have := HLN.out; simp at this; omega); have hy2' : (Instr.yield l #[.agg #[.slice none 0 0, .int .i64 (n' : Int), .int .i64 (d : Int)]]).run Try.prog w1 = .ok (.round l fn2 tmps2 assign2 body2) w1 := hy2; have HR2 := Aside0.mk hR2; clear hR2 hy2)
          all_goals (try (rename some undef = some (Value.bool _) => he; exact absurd he (by intro h; injection h with h; cases h)))
          refine HR2.out.mono ?_
          rintro e w5 ⟨rfl, hJ5, hk5⟩
          have HSz := Aside0.mk (HS1.out.yield hJ5 hk5)
          clear hJ5 hk5 HR2 hy2'
          gi_wp2
          gi_loopw [71] (fun v71 wq => ∃ (k : Nat) (T T1 : Nat → Prop), v71 = .int .i64 (k : Int) ∧ k ≤ n' ∧ Aside0 (St J B0 Bp (W.heap.size + 1) W.heap.size (some ad) c p (s + k) ([] : List Int) (.slice A4 0 c4) (pre ++ [(⟨⟨[], n', d⟩, none, 0⟩ : Pv)]) T T1 wq)) (fun v71 wq => n' - n5 v71)
          case atStart => exact ⟨0, _, _, rfl, Nat.zero_le _, HSz⟩
          case round =>
            obtain ⟨k, T, T1, rfl, hk, HSk⟩ := hrel
            by_cases hkn : k < n'
            · have k1 : decide ((k : Int) < (n' : Int)) = true := by simp only [decide_eq_true_eq]; omega
              have k1' : decide (k < n') = true := decide_eq_true hkn
              obtain ⟨j, hj⟩ : ∃ j, j = s + k := ⟨_, rfl⟩
              have hjb : j ≤ p.length := by have := HTL.out; omega
              have hwj : IntKind.i64.wrap ((s : Int) + (k : Int)) = (j : Int) := by rw [IntWalk.i64_in _ (by omega)]; omega
              have hwk : IntKind.i64.wrap ((k : Int) + 1) = (k : Int) + 1 := IntWalk.i64_in _ (by have := HTL.out; omega)
              have HJK := Aside0.mk hj
              have HKN := Aside0.mk hkn
              rw [← hj] at HSk
              have HJB : Aside0 (j ≤ p.length) := ⟨by have := HTL.out; omega⟩
              clear hj hkn
              gi_wp2_with (refine ⟨trivial, ?_⟩; gi_at_call 23; (with_reducible refine (callsIn_wide.2 (add_calls HSk.out.fi HB.out hp HJB.out HSk.out.size)).mono ?_); rintro e w9 ⟨⟨v9, rfl⟩, ha⟩; have HS9 := Aside0.mk (HSk.out.add hJ ha); clear ha)
              go_roundw
              case rel => exact ⟨k + 1, _, _, by go_num, by have := HKN.out; omega, ⟨by have := HS9.out; rw [HJK.out] at this; exact this⟩⟩
              case measure => have := HKN.out; simp [n5]; omega
            · obtain rfl : k = n' := by omega
              have k1 : decide ((k : Int) < (k : Int)) = false := by simp
              have hwt : IntKind.i64.wrap ((s : Int) + (k : Int)) = ((s + k : Nat) : Int) := by rw [IntWalk.i64_in _ (by have := HTL.out; omega)]; omega
              gi_wp2
              go_roundw
              case rel => exact ⟨s + k, g, _, _, _, _, rfl, HTL.out, HGz, HPCz, HLNz, HQz, by first | exact HEz | exact ⟨fun _ => rfl⟩, HSk⟩
              case measure => have := HDN.out; simp [n5]; omega
    · obtain rfl : i = p.length := by omega
      have d1 : decide ((p.length : Int) < (p.length : Int)) = false := by simp
      have HF : Aside0 (pre.map Pv.pc = pcs p p.length 0 []) := ⟨by rw [← HPC.out, pcs_end (by omega), List.append_nil]⟩
      clear hlt
      gi_wp2
      go_end0
      exact ⟨⟨_, rfl⟩, T, pre, HF.out, HS.out.j⟩
end Go.Proofs.Ytlmcompoalhpnaa.SqI
