/- A range over an iterator that writes into blocks of its own, several at a time: the loop's law; condition: the loop never stops ahead of the end, and what the caller holds leans on no block of the iterator's. -/
import Derived.Test.YtlmcompoalhpnaaIt
namespace Go.Proofs.Ytlmcompoalhpnaa.ItC
open Go Go.RowKit Go.Proofs.Ytlmcompoalhpnaa.It
set_option linter.unusedVariables false
variable {F : Fence} {n : Nat} {P : Program}
/-- Only blocks of T changed. -/
structure Chg (T : Nat → Prop) (w w' : World) : Prop where
  os : w'.os = w.os
  tape : w'.tape = w.tape
  output : w'.output = w.output
  size : w.heap.size ≤ w'.heap.size
  block : ∀ k, k < w.heap.size → ¬ T k → w'.heap[k]? = w.heap[k]?
theorem Chg.trans {T : Nat → Prop} {x y z : World} (h : Chg T x y) (k : Chg T y z) : Chg T x z :=
  ⟨k.os.trans h.os, k.tape.trans h.tape, k.output.trans h.output, Nat.le_trans h.size k.size, fun i hi hn => (k.block i (Nat.lt_of_lt_of_le hi h.size) hn).trans (h.block i hi hn)⟩
theorem Chg.of {T : Nat → Prop} {w w' : World} {row : Option Nat} (h : w.grownBy w' row) (hr : ∀ r, row = some r → T r ∨ w.heap.size ≤ r) : Chg T w w' :=
  ⟨h.os, h.tape, h.output, h.size, fun k hk hn => h.block k hk (fun e => by
    rcases hr k e.symm with h | h
    · exact hn h
    · omega)⟩
/-- What the caller holds abides what the iterator does: writes into its own blocks, and new blocks, which may become its own. -/
structure BearsC {β : Type} (J : (Nat → Prop) → β → World → Prop) : Prop where
  chg : ∀ (T T' : Nat → Prop) s W W', J T s W → Chg T W W' → (∀ k, T k → T' k) → (∀ k, T' k → T k ∨ (W.heap.size ≤ k ∧ k < W'.heap.size)) → J T' s W'
theorem BearsC.fresh {β : Type} {J : (Nat → Prop) → β → World → Prop} (h : BearsC J) {T : Nat → Prop} {s : β} {W W' : World} (hj : J T s W) (hg : W.grownBy W' none) : J T s W' :=
  h.chg _ _ _ _ _ hj (Chg.of hg (fun r e => by cases e)) (fun _ h => h) (fun _ h => .inl h)
def SeqC {α : Type} (F : Fence) (n : Nat) (P : Program) (g : Nat) (lb : Array Value) (encs : α → Array Value) (B0 : Nat) (T0 : Nat → Prop) (G : (Nat → Prop) → α → World → Prop) (S : List α → Prop) (N : Nat) (w : World) : Prop :=
  ∀ (l : Nat) (J : (Nat → Prop) → List α → World → Prop) (W : World), Kept B0 T0 w W → BearsC J →
    (∀ T pre x W1, J T pre W1 → G T x W1 → pre.length < N → YieldAt F (n - 1) P l (encs x) W1 fun e W' => e = .returned (.bool true) ∧ J T (pre ++ [x]) W' ∧ Kept B0 T W1 W') →
    J T0 [] W →
    CallsIn F n P g (#[.func (.yield l) #[] #[]] ++ lb) W fun e W' => (∃ v, e = .returned v) ∧ ∃ T xs, S xs ∧ J T xs W'
theorem wpIn_rangeFunc_C {α : Type} {g : Operand} {ps : Array Tmp} {assign body : Code} {Q : Exit → Act → World → Prop} {a : Act} {w : World}
    (hro : F.round = none) (h1 : 1 ≤ n) {gf : Nat} {lb : Array Value} (hg : a.eval g = .func (.func gf) #[] lb) (hFg : F.fn gf) (eg : ∀ args w, (callFunc gf args).run P w = .ok (.enter gf args) w)
    {encs : α → Array Value} {B0 : Nat} {T0 : Nat → Prop} {G : (Nat → Prop) → α → World → Prop} {S : List α → Prop} {N : Nat} {w0 : World} (hseq : SeqC F (n - 1) P gf lb encs B0 T0 G S N w0)
    (hB0 : B0 ≤ w.heap.size) (hT0 : ∀ k, T0 k → k < w.heap.size) (hw0 : Kept B0 T0 w0 w) (hps : ∀ x, (encs x).size = ps.size)
    (hG : ∀ T x W W' r, G T x W → w.heap.size ≤ r → (∃ o : Obj, W.heap[r]? = some o ∧ o.isCells = false) → W.grownBy W' (some r) → G T x W')
    (I : (Nat → Prop) → List α → World → Prop) (hI : BearsC I) (hIt : Turns w.heap.size I) (h0 : I T0 [] w) (Ax : α → Act → World → Prop)
    (hAx : ∀ x a' W W' r, Ax x a' W → w.heap.size ≤ r → (∃ o : Obj, W.heap[r]? = some o ∧ o.isCells = false) → W.grownBy W' (some r) → Ax x a' W')
    (hGn : ∀ T x W W', G T x W → W.grownBy W' none → G T x W')
    (hassign : ∀ (l : Nat) (x : α) (W : World) (K : Act → World → Prop), (∀ a' W', W.grownBy W' none → Ax x a' W' → K a' W') →
      assign.wpIn (F.inRound l) (n - 1 - 1) P (Exit.then K (fun _ _ _ => False)) { tmps := (ps.zip (encs x)).foldl (fun t (p, v) => t.setIfInBounds p v) a.tmps, defers := [] } W)
    (hbody : ∀ (l : Nat) (T : Nat → Prop) (pre : List α) (x : α) (a' : Act) (W : World), I T pre W → G T x W → Ax x a' W → pre.length < N → w.heap.size ≤ W.heap.size → body.wpIn (F.inRound l) (n - 1 - 1) P (roundT w.heap.size B0 I T (pre ++ [x]) W) a' W)
    (hdone : ∀ (D : Nat) (T : Nat → Prop) (xs : List α) (W : World), w.heap.size ≤ D → S xs → I T xs W → ¬ T D → W.heap[D]? = some (.deferred (some [])) → Q .normal { a with defers := { target := .collected D, args := #[] } :: a.defers } W) :
    (Code.rangeFunc g ps assign body).wpIn F n P Q a w := by
  refine wpIn_rangeFunc ?_
  intro fn hfn
  rw [hro]
  obtain ⟨rec, hrec⟩ : ∃ rec : LoopState → Option Code → Loop, rec = fun st pe => { state := st, pending := pe, fn, tmps := a.tmps, params := ps, assign, body, defers := w.heap.size } := ⟨_, rfl⟩
  obtain ⟨W1, hW1⟩ : ∃ W1, (w.alloc (.deferred (some []))).alloc (.loop (rec .ready none)) = W1 := ⟨_, rfl⟩
  have hL1 : W1.heap[w.heap.size + 1]? = some (.loop (rec .ready none)) := by
    rw [← hW1]; have := World.alloc_heap_new (w.alloc (.deferred (some []))) (.loop (rec .ready none)); rwa [World.size_alloc] at this
  have hK1 : W1.heap[w.heap.size]? = some (.deferred (some [])) := by
    rw [← hW1]; exact (Below.heap_alloc _ _ _ (by simp)).trans (World.alloc_heap_new w _)
  have hg1 : w.grownBy W1 none := by rw [← hW1]; exact (World.grownBy_alloc _ _ none).trans (World.grownBy_alloc _ _ none)
  have hI1 : I T0 [] W1 := hI.fresh h0 hg1
  refine ⟨w.heap.size + 1, [{ target := .collected w.heap.size, args := #[] }], W1, { target := .fn (.func gf) lb, args := #[.func (.yield (w.heap.size + 1)) #[] #[]] }, W1, gf,
    #[.func (.yield (w.heap.size + 1)) #[] #[]] ++ lb, W1, ?_, ?_, ?_, ?_, fun _ => h1, ?_⟩
  · rw [← hW1, hrec]; exact run_enterLoop_outer _ _ _ _ _
  · simp only [resolve, hg]
    simp [go_sem]
  · intro f' hf'; simp [Target.leads] at hf'; subst hf'; exact hFg
  · simp [invoke, go_sem, eg]
  · have hkeep : ∀ {A B : World} {k : Nat} {o : Obj} {row : Option Nat}, A.grownBy B row → A.heap[k]? = some o → row ≠ some k → B.heap[k]? = some o := fun hg hk hne => (hg.block _ (Array.getElem?_eq_some_iff.1 hk).1 (fun e => hne e.symm)).trans hk
    refine (hseq (w.heap.size + 1)
      (fun T pre W => I T pre W ∧ W.heap[w.heap.size + 1]? = some (.loop (rec .ready none)) ∧ W.heap[w.heap.size]? = some (.deferred (some [])) ∧ ¬ T w.heap.size ∧ ¬ T (w.heap.size + 1))
      W1 (hw0.trans (Kept.of_none hg1))
      ⟨fun T T' s A B hs hc h1 h2 => by
        have hlt : w.heap.size + 1 < A.heap.size := (Array.getElem?_eq_some_iff.1 hs.2.1).1
        refine ⟨hI.chg _ _ _ _ _ hs.1 hc h1 h2, (hc.block _ hlt hs.2.2.2.2).trans hs.2.1, (hc.block _ (by omega) hs.2.2.2.1).trans hs.2.2.1, fun h => ?_, fun h => ?_⟩
        · rcases h2 _ h with h | h
          · exact hs.2.2.2.1 h
          · omega
        · rcases h2 _ h with h | h
          · exact hs.2.2.2.2 h
          · omega⟩
      ?_ ⟨hI1, hL1, hK1, fun h => by have := hT0 _ h; omega, fun h => by have := hT0 _ h; omega⟩).mono ?_
    · rintro T pre x W0 ⟨hi0, hl0, hk0, hn0, hn1⟩ hgx0 hlen
      have hy := run_yield (P := P) (args := encs x) hl0 (by rw [hrec]; exact hps x)
      rw [hrec] at hy
      refine ⟨fn, _, assign, body, hy, roundIn_of_wpIn hfn (hassign _ x W0 _ (fun a' W hgn hax => ?_))⟩
      have hi := hI.fresh hi0 hgn
      have hgx := hGn _ _ _ _ hgx0 hgn
      have hl := hkeep hgn hl0 (by simp)
      have hk := hkeep hgn hk0 (by simp)
      have hw1 : Kept B0 T W0 W := Kept.of_none hgn
      have hlt : w.heap.size + 1 < W.heap.size := (Array.getElem?_eq_some_iff.1 hl).1
      refine ⟨_, run_beginRound hl (by rw [hrec]), ?_⟩
      have hl2 : (W.putObj (w.heap.size + 1) (.loop { rec .ready none with state := .busy })).heap[w.heap.size + 1]? = some (.loop { rec .ready none with state := .busy }) := World.putObj_heap_same hlt
      have hk2 : (W.putObj (w.heap.size + 1) (.loop { rec .ready none with state := .busy })).heap[w.heap.size]? = some (.deferred (some [])) := (World.putObj_heap_other (by omega)).trans hk
      have hgp := grownBy_putObj' W (w.heap.size + 1) (.loop { rec .ready none with state := .busy })
      have hw2 : Kept B0 T W0 (W.putObj (w.heap.size + 1) (.loop { rec .ready none with state := .busy })) := hw1.trans (Kept.of_grownBy hgp (by omega) hn1)
      refine wpIn_mono (hbody _ T pre x a' _ (hIt _ _ _ _ _ hi (by omega) ⟨_, hl, rfl⟩ hgp) (hG _ _ _ _ _ hgx (by omega) ⟨_, hl, rfl⟩ hgp) (hAx _ _ _ _ _ hax (by omega) ⟨_, hl, rfl⟩ hgp) hlen (Nat.le_trans (by omega) hgp.size)) ?_
      rintro e a3 W3 hp
      cases e with
      | normal =>
        obtain ⟨hk3, hkp3, hi3⟩ := hp
        have hl3 := hk3.same _ _ (by omega) hl2 rfl
        have hd3 := hk3.same _ _ (Nat.le_refl _) hk2 rfl
        have hr := run_endRound (P := P) none hl3
        have hr2 : (Instr.endRound (w.heap.size + 1) none).run P W3 = .ok (.bool true) (W3.putObj (w.heap.size + 1) (.loop (rec .ready none))) := by
          rw [hrec] at hr ⊢; exact hr
        have hg3 := grownBy_putObj' W3 (w.heap.size + 1) (.loop (rec .ready none))
        exact ⟨_, _, hr2, rfl, ⟨hIt _ _ _ _ _ hi3 (by omega) ⟨_, hl3, rfl⟩ hg3, World.putObj_heap_same (Array.getElem?_eq_some_iff.1 hl3).1, (World.putObj_heap_other (by omega)).trans hd3, hn0, hn1⟩, (hw2.trans hkp3).trans (Kept.of_grownBy hg3 (by omega) hn1)⟩
      | ret => exact hp.elim
      | exit id => exact hp.elim
      | goto t => exact hp.elim
      | panic ch => exact hp.elim
      | outgrown => exact hp.elim
    · rintro e W2 ⟨⟨v, rfl⟩, T, xs, hS, hi, hl, hk, hn0, hn1⟩
      have hlt : w.heap.size + 1 < W2.heap.size := (Array.getElem?_eq_some_iff.1 hl).1
      have hr := run_endLoop (P := P) hl (by rw [hrec]; simp)
      rw [hrec] at hr
      exact ⟨none, _, hr, hdone _ T xs _ (Nat.le_refl _) hS (hIt _ _ _ _ _ hi (by omega) ⟨_, hl, rfl⟩ (grownBy_putObj' W2 _ _)) hn0 ((World.putObj_heap_other (by omega)).trans hk)⟩
/-- Within a function that is iterated: an operation by its plain law. -/
theorem opW_plain {m : Nat} {Q : Exit → Act → World → Prop} {o : Oper} {a : Act} {w : World} {K K0 : Act → World → Prop} (hd : ∀ c, o.op ≠ .defer c) (h : o.wp P a w K (Hd.Only K0)) : o.wpIn Fence.wide m P a w K Q := by
  refine ⟨fun _ _ => trivial, ?_⟩
  rw [Oper.semAt_eq _ _ _ hd]
  unfold Oper.wp at h
  generalize (execOp a.eval o).run P w = r at *
  cases r with
  | ok x w' =>
    cases x <;> simp only [Oper.upon, Oper.uponIn] at h ⊢ <;>
      first
        | exact h
        | exact ⟨fun h => (by cases h), (callsIn_wide.2 (Calls.mono h (fun e w'' he => by cases e <;> first | exact he | exact he.elim | exact (by obtain ⟨_, _, he⟩ := he; exact he.elim))))⟩
        | exact ⟨fun h => (by cases h), fun c cs _ => let ⟨v, w1, r, s⟩ := h c cs; ⟨v, w1, r, stepsIn_wide.2 s⟩⟩
  | halt x w' => cases x <;> simp only [Oper.upon, Oper.uponIn] at h ⊢ <;> exact h.elim
theorem listW_plain {m : Nat} {ops : Array Oper} {Q : Exit → Act → World → Prop} {o : Oper} {rest : List Oper} {a : Act} {w : World} (hg : o.guard = none) (hd : ∀ c, o.op ≠ .defer c)
    (h : ∀ K : Act → World → Prop, (∀ a w, wpListIn Fence.wide m P ops Q rest a w → K a w) → wpList P ops (Hd.Only K) [o] a w) : wpListIn Fence.wide m P ops Q (o :: rest) a w := by
  have h1 := h (wpListIn Fence.wide m P ops Q rest) (fun _ _ h => h)
  have hw : Region.wanted o (yielded ops a.tmps) = true := by simp [Region.wanted, hg]
  unfold wpList at h1
  unfold wpListIn
  rw [if_pos hw] at h1 ⊢
  rcases h1 with h1 | ⟨_, _, _, h1⟩
  · exact opW_plain hd h1
  · exact h1.elim
end Go.Proofs.Ytlmcompoalhpnaa.ItC
