/- The finder: where four bytes stood, and its add, walked; condition: the finder stands. -/
import Derived.Test.YtlmcompoalhpnaaSqK
import Derived.Test.YtlmcompoalhpnaaMp
import Derived.Test.YtlmcompoalhpnaaEq
import Derived.WideKeyEntry
namespace Go.Proofs.Ytlmcompoalhpnaa.SqF
open Go Go.RowKit Go.Maps Go.MapKept Go.WideShapes Go.ChangeShapes Go.Proofs.YtlmcompoalhpnaaW.PrintWords Go.Proofs.Ytlmcompoalhpnaa.K Go.Proofs.Ytlmcompoalhpnaa.Mp Go.Proofs.Ytlmcompoalhpnaa.Eq Go.Proofs.Ytlmcompoalhpnaa.OctS Go.Proofs.Ytlmcompoalhpnaa.OctP Go.Proofs.Ytlmcompoalhpnaa.Oct Go.Proofs.Ytlmcompoalhpnaa.Ap Go.Proofs.Ytlmcompoalhpnaa.SqA Go.Proofs.Ytlmcompoalhpnaa.SqC Go.Proofs.Ytlmcompoalhpnaa.SqM Go.Proofs.Ytlmcompoalhpnaa.SqK
open Go.ChangeMaps (setBlock heap_setBlock_same heap_setBlock_other)
set_option linter.unusedVariables false
set_option linter.unusedSimpArgs false
section
variable {P : Program} {k : TypeId}
/-- 'm[k] op= ..': the entry, and the store into it. -/
theorem entry {w : World} {b : Nat} {f : Value → Option Value} {n : Nat} (h : MapF P k w b f n) (K : Keyed P k) {t e : TypeId} (ht : P.underlying t = some (.map k e)) {z : Value} (hz : ∀ u : World, (zeroValue e).run P u = .ok z u) (hroom : n < maxLen) {key : Value} {l : Lit} (hkey : keyOf P k key = some l) :
    ∃ (v0 : Value) (st : Nat) (w1 : World), (Instr.mapEntry t (.map (some b)) key).run P w = .ok (.tuple #[v0, goInt st]) w1 ∧ v0 = (f key).getD z ∧ w.grownBy w1 (some b) ∧ w1.heap.size = w.heap.size ∧
      ∀ (w2 : World) (val : Value) (f' : Value → Option Value), w2.heap[b]? = w1.heap[b]? → Put f key val f' → ∃ w3, (Instr.entryStore t (.map (some b)) (goInt st) val).run P w2 = .ok () w3 ∧ MapF P k w3 b f' (n + 1) ∧ w2.grownBy w3 (some b) ∧ w3.heap.size = w2.heap.size := by
  have h0 := h
  obtain ⟨es, clock, hb, hsz, hst, hk, hf, hn⟩ := h.is
  obtain ⟨s1, s2, _⟩ := hst
  have fin : ∀ (es1 : Array MapEntry) (clock1 : Nat) (w2 : World) (val : Value) (f' : Value → Option Value) (es' : Array MapEntry) (clock' : Nat), w2.heap[b]? = some (.map es1 clock1) → Put f key val f' → (Instr.mapUpdate t (.map (some b)) key val).run P w = .ok () (setBlock w b (.map es' clock')) → MapF P k (setBlock w2 b (.map es' clock')) b f' (n + 1) := by
    intro es1 clock1 w2 val f' es' clock' hw2 hp hu
    obtain ⟨w', hrun, r1, _, _⟩ := h0.store K ht hroom hkey hp
    rw [hu] at hrun
    cases hrun
    have hm : MapF P k (setBlock w b (.map es' clock')) b f' (n + 1) := r1.mono (by split <;> omega)
    exact hm.move (by rw [heap_setBlock_same hw2, heap_setBlock_same hb])
  rcases MapF.find (w := w) (b := b) (n := n) K hk hf hn hkey with ⟨h1, h2, hne⟩ | ⟨j, e0, h1, h2, h3, h4⟩
  · refine ⟨z, clock, setBlock w b (.map (es.push ⟨key, z, clock⟩) (clock + 1)), ?_, by rw [h2]; rfl, setBlock_grown hb _, by simp [setBlock], fun w2 val f' hw2 hp => ?_⟩
    · simp [Instr.mapEntry, run_underlying ht, MapKept.run_getObj_map hb, K.check w false hkey, h1, hz, MapKept.run_setObj_map _ hb, Result.andThen, setBlock]
    · rw [heap_setBlock_same hb] at hw2
      have hidx : (es.push ⟨key, z, clock⟩).findIdx? (fun e => ((e.born : Nat) : Int) == ((clock : Nat) : Int)) = some es.size := by
        rw [WideElems.findIdx_arr]
        exact WideElems.findIdx_born (l := (es.push ⟨key, z, clock⟩).toList) (j := es.size) (e0 := ⟨key, z, clock⟩) (by
          simp only [Array.toList_push, List.map_append, List.map_cons, List.map_nil]
          refine List.nodup_append.2 ⟨s2, by simp, fun a ha c hc e1 => ?_⟩
          simp only [List.mem_singleton] at hc
          obtain ⟨x, hx, rfl⟩ := List.mem_map.1 ha
          have := s1 x hx
          omega) (by simp)
      have hmod : (es.push ⟨key, z, clock⟩).modify es.size (fun e => { e with val := val }) = es.push ⟨key, val, clock⟩ := by
        apply Array.ext'
        rw [Array.toList_modify, Array.toList_push, Array.toList_push, ← Array.length_toList, WideElems.modify_last]
      refine ⟨setBlock w2 b (.map (es.push ⟨key, val, clock⟩) (clock + 1)), ?_, fin _ _ w2 val f' _ _ hw2 hp ?_, setBlock_grown hw2 _, by simp [setBlock]⟩
      · simp [Instr.entryStore, MapKept.run_getObj_map hw2, asInt, asIntOf, goInt, hidx, hmod, MapKept.run_setObj_map _ hw2, Result.andThen, setBlock]
      · simp [Instr.mapUpdate, run_underlying ht, MapKept.run_getObj_map hb, K.check w false hkey, h1, MapKept.run_setObj_map _ hb, Result.andThen, setBlock]
  · have hj : es[j]? = some e0 := by simpa using h2
    have hsame : es.modify j (fun e => { e with key := key }) = es := by
      apply Array.ext'
      rw [Array.toList_modify, ChangeMaps.modify_eq_set _ _ _ _ h2]
      have : ({ e0 with key := key } : MapEntry) = e0 := by rw [← h3]
      rw [this]
      exact WideElems.set_self _ _ _ h2
    refine ⟨e0.val, e0.born, setBlock w b (.map es clock), ?_, by rw [h4]; rfl, setBlock_grown hb _, by simp [setBlock], fun w2 val f' hw2 hp => ?_⟩
    · simp [Instr.mapEntry, run_underlying ht, MapKept.run_getObj_map hb, K.check w false hkey, h1, hj, h3, K.stays w hkey, hsame, MapKept.run_setObj_map _ hb, Result.andThen, setBlock]
    · rw [heap_setBlock_same hb] at hw2
      have hidx : es.findIdx? (fun e => ((e.born : Nat) : Int) == ((e0.born : Nat) : Int)) = some j := by
        rw [WideElems.findIdx_arr]
        exact WideElems.findIdx_born s2 h2
      have hmod : es.modify j (fun e => { e with val := val }) = es.modify j (fun e' => { e' with key := key, val := val }) := by
        apply Array.ext'
        rw [Array.toList_modify, Array.toList_modify, ChangeMaps.modify_eq_set _ _ _ _ h2, ChangeMaps.modify_eq_set _ _ _ _ h2, ← h3]
      refine ⟨setBlock w2 b (.map (es.modify j (fun e' => { e' with key := key, val := val })) clock), ?_, fin _ _ w2 val f' _ _ hw2 hp ?_, setBlock_grown hw2 _, by simp [setBlock]⟩
      · simp [Instr.entryStore, MapKept.run_getObj_map hw2, asInt, asIntOf, goInt, hidx, hmod, MapKept.run_setObj_map _ hw2, Result.andThen, setBlock]
      · simp [Instr.mapUpdate, run_underlying ht, MapKept.run_getObj_map hb, K.check w false hkey, h1, hj, h3, K.stays w hkey, MapKept.run_setObj_map _ hb, Result.andThen, setBlock]
variable {ops : Array Oper} {Q : Exit → Act → World → Prop} {rest : List Oper} {o : Oper} {a : Act} {w : World}
theorem wpList_entry (hgd : o.guard = none) (K : Keyed P k) (t e : TypeId) (ht : P.underlying t = some (.map k e)) {z : Value} (hz : ∀ u : World, (zeroValue e).run P u = .ok z u) (m x : Operand) (b : Nat) {f : Value → Option Value} {n : Nat}
    (ho : o.op = .mapEntry t m x) (hm : a.eval m = .map (some b)) (h : MapF P k w b f n) (hroom : n < maxLen) {key : Value} {l : Lit} (hx : a.eval x = key) (hkey : keyOf P k key = some l)
    (hK : ∀ (st : Nat) (w1 : World), w.grownBy w1 (some b) → w1.heap.size = w.heap.size → (∀ (w2 : World) (val : Value) (f' : Value → Option Value), w2.heap[b]? = w1.heap[b]? → Put f key val f' → ∃ w3, (Instr.entryStore t (.map (some b)) (goInt st) val).run P w2 = .ok () w3 ∧ MapF P k w3 b f' (n + 1) ∧ w2.grownBy w3 (some b) ∧ w3.heap.size = w2.heap.size) →
      wpList P ops Q rest (a.put o.dst (.tuple #[(f key).getD z, goInt st])) w1) : wpList P ops Q (o :: rest) a w := by
  obtain ⟨v0, st, w1, hrun, rfl, h1, h2, h3⟩ := entry h K ht hz hroom hkey
  refine wpList_plain hgd fun K' hK' => ?_
  unfold Oper.wp
  simp [execOp, ho, hm, hx, hrun, Result.andThen]
  exact hK' _ _ (hK st w1 h1 h2 h3)
theorem wpList_entryStore (hgd : o.guard = none) (t : TypeId) (m s x : Operand) {mv sv xv : Value} (ho : o.op = .entryStore t m s x) (hm : a.eval m = mv) (hs : a.eval s = sv) (hx : a.eval x = xv) {w3 : World} (hrun : (Instr.entryStore t mv sv xv).run P w = .ok () w3)
    (hK : wpList P ops Q rest (a.put o.dst undef) w3) : wpList P ops Q (o :: rest) a w := by
  refine wpList_plain hgd fun K' hK' => ?_
  unfold Oper.wp
  simp [execOp, ho, hm, hs, hx, hrun, Result.andThen]
  exact hK' _ _ hK
end
/-- Four bytes. -/
def OkKey (k : List Int) : Prop := k.length = 4 ∧ ∀ x ∈ k, (Lit.int .u8 x).wf = true
abbrev kV (k : List Int) : Value := .agg (nums .u8 k).toArray
theorem key_k (k : List Int) (h : OkKey k) : ∃ l, keyOf Try.prog 59 (kV k) = some l := by
  have w : Wide Try.prog 59 := ⟨⟨2, by omega, by kernel_rfl, by kernel_rfl⟩, by rw [Try.underlying59]⟩
  obtain ⟨m, hm⟩ : ∃ m, Try.prog.types.size = m + 1 := ⟨Try.prog.types.size - 1, by kernel_rfl⟩
  obtain ⟨L, hL⟩ := lits_arr (P := Try.prog) (k := 59) (e := 5) (n := 4) Try.underlying59 Try.underlying5 (by kernel_rfl) (by kernel_rfl) m h.1 h.2
  rw [show m + 2 = Try.prog.types.size + 1 from by omega] at hL
  exact key_of_lits w (by kernel_rfl) (by rw [show (nums .u8 k).length = 4 by simp [nums, h.1]]; kernel_rfl) hL
theorem keyed_k : Maps.Keyed Try.prog 59 := Maps.Keyed.of_law (Wide.law ⟨⟨2, by omega, by kernel_rfl, by kernel_rfl⟩, by rw [Try.underlying59]⟩)
theorem kV_inj {a b : List Int} (h : kV a = kV b) : a = b := by
  unfold kV at h
  injection h with h
  have h2 : (nums .u8 a) = nums .u8 b := by simpa using h
  unfold nums at h2
  exact (List.map_inj_right (fun x y e => by injection e)).1 h2
theorem zeroIs (W : World) : (zeroValue 57).run Try.prog W = .ok (.slice none 0 0) W := by
  obtain ⟨i, h1, h2⟩ := Option.map_eq_some_iff.1 (show (Try.prog.info? 57).map (fun i => i.zero) = some (some (.slice none 0 0)) from by kernel_rfl)
  simp [zeroValue, typeInfo, Sem.run_bind, h1, h2]
theorem zeroKy (W : World) : (zeroValue 59).run Try.prog W = .ok (.agg #[.int .u8 0, .int .u8 0, .int .u8 0, .int .u8 0]) W := by
  obtain ⟨i, h1, h2⟩ := Option.map_eq_some_iff.1 (show (Try.prog.info? 59).map (fun i => i.zero) = some (some (.agg #[.int .u8 0, .int .u8 0, .int .u8 0, .int .u8 0])) from by kernel_rfl)
  simp [zeroValue, typeInfo, Sem.run_bind, h1, h2]
theorem info4 (k : List Int) (h : k.length = 4) : (Try.prog.info? 59).map (·.size) = some (nums .u8 k).length :=
  (show (Try.prog.info? 59).map (·.size) = some 4 by kernel_rfl).trans (by simp [nums, h])
theorem infoInt : (Try.prog.info? 3).map (fun i => (i.zero, i.size, i.bytes)) = some (some (.int .i64 0), 1, 8) := by kernel_rfl
/-- The places as numbers. -/
def pl (l : List Nat) : List Int := l.map (fun (n : Nat) => (n : Int))
theorem C_same {w w1 : World} {q : IntKind} {A : Option Addr} {n : Nat} {xs : List Int} (h : (Kd.int q).C w A n xs) (hs : ∀ a, A = some a → w1.heap[a.block]? = w.heap[a.block]?) : (Kd.int q).C w1 A n xs := by
  refine ⟨h.1, h.2.1, fun h0 => ?_⟩
  obtain ⟨ad, had, hc⟩ := h.2.2 h0
  refine ⟨ad, had, fun j x hj => ?_⟩
  obtain ⟨cs, h1, h2, h3⟩ := hc j x hj
  exact ⟨cs, h1, h2, fun i v hv => (World.cell?_of_block (a := ad.add (j * (Kd.int q).sz + i)) (by
    have hbl : (ad.add (j * (Kd.int q).sz + i)).block = ad.block := by
      unfold Addr.add
      split <;> rfl
    rw [hbl]
    exact hs ad had)).trans (h3 i v hv)⟩
theorem R_same {α : Type} {d : Kd α} (hd : Flat d) {e : Nat} {w w1 : World} {base : Nat} {v : Value} {xs : List α} (h : d.R e w base (fun _ => True) v xs) (hs : ∀ g, v.ownBlock = some g → w1.heap[g]? = w.heap[g]?) : d.R e w1 base (fun _ => True) v xs := by
  obtain ⟨_, inner, ho, hr⟩ := h
  refine ⟨fun _ _ => trivial, inner, ⟨ho.1, ?_⟩, hr.imp_ (fun x cs hm => ?_)⟩
  · rcases ho.2 with hn | ⟨g, cap, cur, rfl, hb, hgg, rest⟩
    · exact .inl hn
    · exact .inr ⟨g, cap, cur, rfl, hb, (hs g rfl).trans hgg, rest⟩
  · have h2 := hd w base x cs (d.K_of_M hm)
    have h3 := d.M_move (w1 := w1) (fun k hk => hk.elim) h2
    exact d.M_mono (fun k hk => hk.elim) h3
/-- The finder's blocks are in T, and it knows the places ahead of i. -/
structure Fi (w : World) (B0 : Nat) (T : Nat → Prop) (f m : Nat) (A : Option Addr) (c : Nat) (p : List Int) (i : Nat) : Prop where
  blk : w.heap[f]? = some (fd A p.length c m)
  tf : T f
  tm : T m
  low : ∀ k, T k → B0 ≤ k
  C : (Kd.int .u8).C w A p.length p
  hc : p.length ≤ c
  al : ∀ a, A = some a → a.block < B0 ∧ a.block < w.heap.size
  map : ∃ (F : Value → Option Value) (n : Nat) (V : List Int → Value), MapF Try.prog 59 w m F n ∧ n ≤ i ∧ ∀ k, OkKey k → F (kV k) = (if SqM.seen p i k = [] then none else some (V k)) ∧ Kd.R (Kd.int .i64) 3 w 0 (fun _ => True) (V k) (pl (SqM.seen p i k)) ∧ (SqM.seen p i k = [] → V k = .slice none 0 0) ∧ (∀ g, (V k).ownBlock = some g → T g ∧ ∀ k', OkKey k' → k' ≠ k → (V k').ownBlock ≠ some g)
/-- Only blocks of T changed. -/
structure Chg (T : Nat → Prop) (w w' : World) : Prop where
  os : w'.os = w.os
  tape : w'.tape = w.tape
  output : w'.output = w.output
  size : w.heap.size ≤ w'.heap.size
  block : ∀ k, k < w.heap.size → ¬ T k → w'.heap[k]? = w.heap[k]?
theorem Chg.trans {T : Nat → Prop} {x y z : World} (h : Chg T x y) (k : Chg T y z) : Chg T x z :=
  ⟨k.os.trans h.os, k.tape.trans h.tape, k.output.trans h.output, Nat.le_trans h.size k.size, fun i hi hn => (k.block i (Nat.lt_of_lt_of_le hi h.size) hn).trans (h.block i hi hn)⟩
theorem Chg.of {T : Nat → Prop} {w w' : World} {row : Option Nat} (h : w.grownBy w' row) (hr : ∀ r, row = some r → T r ∨ w.heap.size ≤ r) : Chg T w w' :=
  ⟨h.os, h.tape, h.output, h.size, fun k hk hn => h.block k hk (fun e => by
    rcases hr k e.symm with h | h
    · exact hn h
    · omega)⟩
theorem Fi.f_lt {w : World} {B0 : Nat} {T : Nat → Prop} {f m : Nat} {A : Option Addr} {c : Nat} {p : List Int} {i : Nat} (h : Fi w B0 T f m A c p i) : f < w.heap.size := (Array.getElem?_eq_some_iff.1 h.blk).1
/-- What a round keeps keeps the finder. -/
theorem Fi.kept {w w' : World} {B0 : Nat} {T T' : Nat → Prop} {f m : Nat} {A : Option Addr} {c : Nat} {p : List Int} {i : Nat} (h : Fi w B0 T f m A c p i) (hT : ∀ k, T k → T' k) (hT2 : ∀ k, T' k → B0 ≤ k) (hs : w.heap.size ≤ w'.heap.size) (hk : ∀ k, (k < B0 ∨ T k) → k < w.heap.size → w'.heap[k]? = w.heap[k]?) : Fi w' B0 T' f m A c p i := by
  obtain ⟨F, n, V, hm, hn, hV⟩ := h.map
  refine ⟨(hk f (.inr h.tf) h.f_lt).trans h.blk, hT _ h.tf, hT _ h.tm, hT2, ?_, h.hc, fun a ha => ⟨(h.al a ha).1, Nat.lt_of_lt_of_le (h.al a ha).2 hs⟩, F, n, V, hm.move (hk m (.inr h.tm) hm.lt), hn, fun k hk4 => ?_⟩
  · exact C_same h.C (fun a ha => hk _ (.inl (h.al a ha).1) (h.al a ha).2)
  · obtain ⟨h1, h2, h3, h4⟩ := hV k hk4
    exact ⟨h1, R_same (flat_int _) h2 (fun g hg => hk g (.inr (h4 g hg).1) (R_lt_size h2 g hg)), h3, fun g hg => ⟨hT _ (h4 g hg).1, (h4 g hg).2⟩⟩
theorem seen_succ (p : List Int) (i : Nat) (k : List Int) : SqM.seen p (i + 1) k = SqM.seen p i k ++ (if i + 4 ≤ p.length ∧ keyAt p i = k then [i] else []) := by
  unfold SqM.seen
  rw [List.range_succ, List.filter_append]
  congr 1
  by_cases h : i + 4 ≤ p.length ∧ keyAt p i = k
  · rw [if_pos h, List.filter_cons, if_pos (by simp [h.1, h.2])]
    rfl
  · rw [if_neg h, List.filter_cons, if_neg (by
      intro hh
      simp at hh
      exact h hh)]
    rfl
theorem seen_len (p : List Int) (i : Nat) (k : List Int) : (SqM.seen p i k).length ≤ i := by
  unfold SqM.seen
  exact Nat.le_trans (List.length_filter_le _ _) (by simp)
theorem key_ok {p : List Int} (hB : Bytes p) {i : Nat} (hi : i + 4 ≤ p.length) : OkKey (keyAt p i) := by
  refine ⟨by unfold keyAt; rw [List.length_take, List.length_drop]; omega, fun x hx => ?_⟩
  have hm : x ∈ p := List.mem_of_mem_drop (List.mem_of_mem_take hx)
  have := hB x hm
  have h1 : IntKind.u8.min = 0 := rfl
  have h2 : IntKind.u8.max = 255 := rfl
  simp [Lit.wf, h1, h2]
  omega
end Go.Proofs.Ytlmcompoalhpnaa.SqF
