/- The two caches' states, and what each operation does to them; condition: the state stands. -/
import Derived.Test.YtocmljijdecilaaCaM
import Derived.Test.YtocmljijdecilaaCaDd
namespace Go.Proofs.Ytocmljijdecilaa.CaN
open Go Go.RowKit Go.Proofs.YtocmljijdecilaaW.PrintWords Go.Proofs.Ytocmljijdecilaa.K Go.Proofs.Ytocmljijdecilaa.CaS Go.Proofs.Ytocmljijdecilaa.CaC Go.Proofs.Ytocmljijdecilaa.CaD Go.Proofs.Ytocmljijdecilaa.CaA Go.Proofs.Ytocmljijdecilaa.CaO Go.Proofs.Ytocmljijdecilaa.CaP Go.Proofs.Ytocmljijdecilaa.CaQ Go.Proofs.Ytocmljijdecilaa.CaR Go.Proofs.Ytocmljijdecilaa.CaT Go.Proofs.Ytocmljijdecilaa.CaU Go.Proofs.Ytocmljijdecilaa.CaF Go.Proofs.Ytocmljijdecilaa.CaG Go.Proofs.Ytocmljijdecilaa.CaX Go.Proofs.Ytocmljijdecilaa.CaY Go.Proofs.Ytocmljijdecilaa.CaZ Go.Proofs.Ytocmljijdecilaa.CaPr Go.Proofs.Ytocmljijdecilaa.CaPf Go.Proofs.Ytocmljijdecilaa.CaM
set_option linter.unusedVariables false
set_option linter.unusedSimpArgs false
theorem sums_C {w : World} {A : Option Addr} {k : Nat} {ls : List (List Int)} (h : SumsC w A k ls) : dSum.C w A k ls := by
  refine ⟨h.len, h.lim, fun h0 => ?_⟩
  obtain ⟨ad, had⟩ := h.is h0
  refine ⟨ad, had, fun j x hj => ?_⟩
  obtain ⟨hjl, rfl⟩ := List.getElem?_eq_some_iff.1 hj
  have hc := h.cells ad had j (by rw [← h.len]; exact hjl)
  have hx := h.each ls[j] (List.getElem_mem hjl)
  have hg : ls.getD j [] = ls[j] := by simp [hjl]
  rw [hg] at hc
  refine ⟨nums .u8 ls[j], by simp [nums, hx.1]; rfl, ⟨hx, rfl⟩, fun i u hu => ?_⟩
  have := hc i u hu
  rw [Addr.add_add] at this
  exact this
structure ToldR (w : World) (T : Nat → Prop) (t : Kr) (b : Int) (ss : List Sm) : Prop where
  bin : t.bin = b
  few : ss.length ≤ 64
  len : t.sn = ss.length
  sums : dSum.C w t.sa ss.length ss
  away : ∀ a, t.sa = some a → a.block < w.heap.size ∧ ¬ T a.block
theorem ToldR.move {w w1 : World} {T : Nat → Prop} {t : Kr} {b : Int} {ss : List Sm} (h : ToldR w T t b ss) (hs : w.heap.size ≤ w1.heap.size) (hk : ∀ k, k < w.heap.size → ¬ T k → w1.heap[k]? = w.heap[k]?) : ToldR w1 T t b ss :=
  ⟨h.bin, h.few, h.len, C_same h.sums (fun a ha => hk _ (h.away a ha).1 (h.away a ha).2), fun a ha => ⟨Nat.lt_of_lt_of_le (h.away a ha).1 hs, (h.away a ha).2⟩⟩
theorem ToldR.wider {w : World} {T T1 : Nat → Prop} {t : Kr} {b : Int} {ss : List Sm} (h : ToldR w T t b ss) (ht : ∀ k, k < w.heap.size → T1 k → T k) : ToldR w T1 t b ss :=
  ⟨h.bin, h.few, h.len, h.sums, fun a ha => ⟨(h.away a ha).1, fun e => (h.away a ha).2 (ht _ (h.away a ha).1 e)⟩⟩
def XS (w : World) (T : Nat → Prop) (g : Nat) (room : Int) (xs : List Bn) : Prop := ∃ ts, Ca w T g room ts ∧ All2 (fun t p => CaS.Told w T t p.1 p.2) ts xs
def YS (w : World) (T : Nat → Prop) (g : Nat) (room : Int) (ys : List Bn) : Prop := ∃ tr, Cr w T g room tr ∧ All2 (fun t p => ToldR w T t p.1 p.2) tr ys
theorem XS.move {w w1 : World} {T : Nat → Prop} {g : Nat} {room : Int} {xs : List Bn} (h : XS w T g room xs) (hs : w.heap.size ≤ w1.heap.size) (hk : ∀ k, k < w.heap.size → ¬ T k → w1.heap[k]? = w.heap[k]?) (hg : w1.heap[g]? = w.heap[g]?) : XS w1 T g room xs := by
  obtain ⟨ts, ⟨A, c, e1, e2, e3, e4⟩, h2⟩ := h
  exact ⟨ts, ⟨A, c, hg.trans e1, C_same e2 (fun a ha => hk _ (e4 a ha).1 (e4 a ha).2), e3, fun a ha => ⟨Nat.lt_of_lt_of_le (e4 a ha).1 hs, (e4 a ha).2⟩⟩, h2.mono (fun t p ht => ht.move hs hk)⟩
theorem YS.move {w w1 : World} {T : Nat → Prop} {g : Nat} {room : Int} {xs : List Bn} (h : YS w T g room xs) (hs : w.heap.size ≤ w1.heap.size) (hk : ∀ k, k < w.heap.size → ¬ T k → w1.heap[k]? = w.heap[k]?) (hg : w1.heap[g]? = w.heap[g]?) : YS w1 T g room xs := by
  obtain ⟨ts, ⟨A, c, e1, e2, e3, e4⟩, h2⟩ := h
  exact ⟨ts, ⟨A, c, hg.trans e1, C_same e2 (fun a ha => hk _ (e4 a ha).1 (e4 a ha).2), e3, fun a ha => ⟨Nat.lt_of_lt_of_le (e4 a ha).1 hs, (e4 a ha).2⟩⟩, h2.mono (fun t p ht => ht.move hs hk)⟩
theorem XS.wider {w : World} {T T1 : Nat → Prop} {g : Nat} {room : Int} {xs : List Bn} (h : XS w T g room xs) (ht : ∀ k, k < w.heap.size → T1 k → T k) : XS w T1 g room xs := by
  obtain ⟨ts, ⟨A, c, e1, e2, e3, e4⟩, h2⟩ := h
  exact ⟨ts, ⟨A, c, e1, e2, e3, fun a ha => ⟨(e4 a ha).1, fun e => (e4 a ha).2 (ht _ (e4 a ha).1 e)⟩⟩, h2.mono (fun t p h1 => h1.wider ht)⟩
theorem YS.wider {w : World} {T T1 : Nat → Prop} {g : Nat} {room : Int} {xs : List Bn} (h : YS w T g room xs) (ht : ∀ k, k < w.heap.size → T1 k → T k) : YS w T1 g room xs := by
  obtain ⟨ts, ⟨A, c, e1, e2, e3, e4⟩, h2⟩ := h
  exact ⟨ts, ⟨A, c, e1, e2, e3, fun a ha => ⟨(e4 a ha).1, fun e => (e4 a ha).2 (ht _ (e4 a ha).1 e)⟩⟩, h2.mono (fun t p h1 => h1.wider ht)⟩
theorem XS.lt {w : World} {T : Nat → Prop} {g : Nat} {room : Int} {xs : List Bn} (h : XS w T g room xs) : g < w.heap.size := by
  obtain ⟨ts, ⟨A, c, e1, _⟩, _⟩ := h
  exact (Array.getElem?_eq_some_iff.1 e1).1
theorem YS.lt {w : World} {T : Nat → Prop} {g : Nat} {room : Int} {xs : List Bn} (h : YS w T g room xs) : g < w.heap.size := by
  obtain ⟨ts, ⟨A, c, e1, _⟩, _⟩ := h
  exact (Array.getElem?_eq_some_iff.1 e1).1
theorem XS.below {w w1 : World} {T : Nat → Prop} {g : Nat} {room : Int} {xs : List Bn} (h : XS w T g room xs) (hb : Below w.heap.size w w1) : XS w1 T g room xs := h.move hb.size (fun k hk _ => hb.block k hk) (hb.block g h.lt)
theorem YS.below {w w1 : World} {T : Nat → Prop} {g : Nat} {room : Int} {xs : List Bn} (h : YS w T g room xs) (hb : Below w.heap.size w w1) : YS w1 T g room xs := h.move hb.size (fun k hk _ => hb.block k hk) (hb.block g h.lt)
theorem XS.other {w w1 : World} {T : Nat → Prop} {g g2 : Nat} {room : Int} {xs : List Bn} (h : XS w T g room xs) (hg : w.grownBy w1 (some g2)) (ht : T g2) (hne : g ≠ g2) : XS w1 T g room xs :=
  h.move hg.size (fun k hk hnt => hg.block k hk (fun e => by injection e with e; subst e; exact hnt ht)) (hg.block g h.lt (fun e => by injection e with e; exact hne e))
theorem YS.other {w w1 : World} {T : Nat → Prop} {g g2 : Nat} {room : Int} {xs : List Bn} (h : YS w T g room xs) (hg : w.grownBy w1 (some g2)) (ht : T g2) (hne : g ≠ g2) : YS w1 T g room xs :=
  h.move hg.size (fun k hk hnt => hg.block k hk (fun e => by injection e with e; subst e; exact hnt ht)) (hg.block g h.lt (fun e => by injection e with e; exact hne e))
theorem told_g {w w1 : World} {T : Nat → Prop} {g : Nat} {ts : List Kn} {xs : List Bn} (h : All2 (fun t p => CaS.Told w T t p.1 p.2) ts xs) (hg : w.grownBy w1 (some g)) (ht : T g) : All2 (fun t p => CaS.Told w1 T t p.1 p.2) ts xs :=
  h.mono (fun t p h1 => h1.move hg.size (fun k hk hnt => hg.block k hk (fun e => by injection e with e; subst e; exact hnt ht)))
theorem toldR_g {w w1 : World} {T : Nat → Prop} {g : Nat} {ts : List Kr} {xs : List Bn} (h : All2 (fun t p => ToldR w T t p.1 p.2) ts xs) (hg : w.grownBy w1 (some g)) (ht : T g) : All2 (fun t p => ToldR w1 T t p.1 p.2) ts xs :=
  h.mono (fun t p h1 => h1.move hg.size (fun k hk hnt => hg.block k hk (fun e => by injection e with e; subst e; exact hnt ht)))
theorem rm_all2 {R : Kn → Bn → Prop} (hR : ∀ t p, R t p → t.bin = p.1) {ts : List Kn} {xs : List Bn} (h : All2 R ts xs) (hnd : (xs.map (·.1)).Nodup) (b : Int) : All2 R (rmB ts b) (rmX xs b) := by
  induction h with
  | nil => exact .nil
  | cons h1 h2 ih =>
    rename_i t p l m
    rw [List.map_cons, List.nodup_cons] at hnd
    unfold rmB
    by_cases e : t.bin = b
    · have hp : p.1 = b := by rw [← hR _ _ h1]; exact e
      rw [if_pos e]
      have : rmX (p :: m) b = m := by
        unfold rmX
        rw [List.filter_cons_of_neg (by simp [hp])]
        exact rm_none m b (fun q hq eq => hnd.1 (List.mem_map.2 ⟨q, hq, by rw [eq, hp]⟩))
      rw [this]
      exact h2
    · have hp : p.1 ≠ b := by rw [← hR _ _ h1]; exact e
      rw [if_neg e]
      have : rmX (p :: m) b = p :: rmX m b := by
        unfold rmX
        rw [List.filter_cons_of_pos (by simpa using hp)]
      rw [this]
      exact .cons h1 (ih hnd.2)
theorem cut_all2 {R : Kn → Bn → Prop} {ts : List Kn} {xs : List Bn} (h : All2 R ts xs) (room : Nat) : All2 R (cut room ts) (cutX room xs) := by
  unfold cut cutX
  rw [h.len]
  split
  · exact h.drop 1
  · exact h
theorem rrm_all2 {R : Kr → Bn → Prop} (hR : ∀ t p, R t p → t.bin = p.1) {ts : List Kr} {xs : List Bn} (h : All2 R ts xs) (b : Int) : All2 R (rrm ts b) (rmX xs b) :=
  h.filter _ _ (fun t p h1 => by rw [hR t p h1])
section
variable {w : World} {T : Nat → Prop} {g : Nat} {room : Nat} {xs : List Bn}
theorem x_put (h : XS w T g room xs) (hG : CaM.Good room xs) (hr : room ≤ 900) (hT : ∀ k, T k → k < w.heap.size) (hTg : T g) (b : Int) (hb0 : 0 ≤ b) (hb1 : b < 4096) (As : Option Addr) (k c2 : Nat) (ss : List Sm) (hs : dSum.C w As k ss) (hk : k ≤ 64) (hsa : 0 < k → ∀ a, As = some a → a.block ≠ g) :
    Calls Try.prog 13 #[.pointer (some ⟨g, 0, none⟩), .int .i64 b, .slice As k c2] w fun e w' => e = .returned (.int .i64 0) ∧ XS w' T g room (putX room xs b ss) ∧ w.grownBy w' (some g) := by
  obtain ⟨ts, h1, h2⟩ := h
  refine (callsIn_wide.1 (put_in h1 b hb0 hb1 As k c2 ss hs hk (by have := h2.len; have := hG.len; omega) hT hTg hsa)).mono ?_
  rintro e w' ⟨rfl, kn, h3, h4, h5⟩
  exact ⟨rfl, ⟨_, h4, cut_all2 ((rm_all2 (fun t p ht => ht.bin) (told_g h2 h5 hTg) hG.nd b).append (.cons h3 .nil)) room⟩, h5⟩
theorem y_put (h : YS w T g room xs) (hn : xs.length ≤ 900) (hT : ∀ k, T k → k < w.heap.size) (hTg : T g) (b : Int) (hb0 : 0 ≤ b) (hb1 : b < 4096) (As : Option Addr) (k c2 : Nat) (ss : List Sm) (hs : dSum.C w As k ss) (hk : k ≤ 64) (hsa : 0 < k → ∀ a, As = some a → a.block ≠ g) :
    Calls Try.prog 31 #[.pointer (some ⟨g, 0, none⟩), .int .i64 b, .slice As k c2] w fun e w' => e = .returned (.int .i64 0) ∧ YS w' T g room (putY room xs b ss) ∧ w.grownBy w' (some g) := by
  obtain ⟨ts, h1, h2⟩ := h
  have hkl : ss.length = k := hs.1
  refine (rput_calls h1 b hb0 hb1 As k c2 ss hs hk (by have := h2.len; omega) hT hTg hsa).mono ?_
  rintro e w' ⟨rfl, kr, h3, h4, h5, h6, h7, h8⟩
  exact ⟨rfl, ⟨_, h7, (All2.cons (R := fun t p => ToldR w' T t p.1 p.2) (b := (b, ss)) ⟨h3, (show ss.length ≤ 64 by omega), h4, h5, fun a ha => ⟨(h6 a ha).1, fun e => by have := hT _ e; have := (h6 a ha).2; omega⟩⟩ (rrm_all2 (fun t p ht => ht.bin) (toldR_g h2 h8 hTg) b)).take room⟩, h8⟩
theorem told_f {ts : List Kn} (h2 : All2 (fun t p => CaS.Told w T t p.1 p.2) ts xs) (i : Nat) (hi : i < ts.length) : CaS.Told w T (ts.getD i default) (ts.getD i default).bin (fX xs i) := by
  have := h2.get i hi
  rw [this.bin]
  exact this
theorem x_find (h : XS w T g room xs) (hn : xs.length ≤ 900) (hT : ∀ k, T k → k < w.heap.size) (hTg : T g) (s : Sm) (hs : OkSum s) :
    Calls Try.prog 12 #[.pointer (some ⟨g, 0, none⟩), .agg (nums .u8 s).toArray] w fun e w' =>
      (findX xs s = none ∧ e = .returned (.tuple #[.int .i64 0, .int .i64 0, .bool false]) ∧ w.grownBy w' none) ∨
      (∃ i j : Nat, findX xs s = some (i, j) ∧ e = .returned (.tuple #[.int .i64 (xs.getD i default).1, .int .i64 (j : Int), .bool true]) ∧ XS w' T g room (moveX xs i) ∧ w.grownBy w' (some g)) := by
  obtain ⟨ts, h1, h2⟩ := h
  have hl := h2.len
  refine (callsIn_wide.1 (find_in h1 (fX xs) (fun i hi => told_f h2 i hi) s hs (by omega) hT hTg)).mono ?_
  rw [hl]
  rintro e w' (⟨h3, h4, h5⟩ | ⟨i, j, h3, h4, h5, h6⟩)
  · exact .inl ⟨h3, h4, h5⟩
  · have hi := (find_lt _ _ _ _ _ h3).1
    have hb : (ts.getD i default).bin = (xs.getD i default).1 := (h2.get i (by omega)).bin
    have h2' := told_g h2 h6 hTg
    exact .inr ⟨i, j, h3, by rw [← hb]; exact h4, ⟨_, h5, ((h2'.take i).append (h2'.drop (i + 1))).append (.cons (h2'.get i (by omega)) .nil)⟩, h6⟩
theorem y_find (h : YS w T g room xs) (hn : xs.length ≤ 900) (hT : ∀ k, T k → k < w.heap.size) (hTg : T g) (s : Sm) (hs : OkSum s) :
    Calls Try.prog 32 #[.pointer (some ⟨g, 0, none⟩), .agg (nums .u8 s).toArray] w fun e w' =>
      (findY xs s = none ∧ e = .returned (.tuple #[.int .i64 0, .int .i64 0, .bool false]) ∧ Below w.heap.size w w') ∨
      (∃ i j : Nat, findY xs s = some (i, j) ∧ i < xs.length ∧ e = .returned (.tuple #[.int .i64 (xs.getD i default).1, .int .i64 (j : Int), .bool true]) ∧ YS w' T g room (moveY xs i) ∧ w.grownBy w' (some g)) := by
  obtain ⟨ts, h1, h2⟩ := h
  have hl := h2.len
  refine (rfind_calls h1 (fX xs) (fun i hi => ⟨(h2.get i hi).len, (h2.get i hi).few, (h2.get i hi).sums⟩) s hs (by omega) hT hTg).mono ?_
  rw [hl]
  rintro e w' (⟨h3, h4, h5⟩ | ⟨i, j, h3, h4, h5, h6⟩)
  · exact .inl ⟨h3, h4, h5⟩
  · have hi : i < xs.length := by
      rcases Nat.lt_or_ge i xs.length with hi | hi
      · exact hi
      · exfalso
        have hlt : ∀ k a, findU (fX xs) s k a = some (i, j) → i < a + k := by
          intro k
          induction k with
          | zero => intro a ha; cases ha
          | succ k ih =>
            intro a ha
            unfold findU at ha
            cases hf : firstAt (fX xs a) s 0 with
            | some q =>
              rw [hf] at ha
              injection ha with ha
              injection ha with h1 h2
              omega
            | none =>
              rw [hf] at ha
              have := ih _ ha
              omega
        have := hlt _ _ h3
        omega
    have hb : (ts.getD i default).bin = (xs.getD i default).1 := (h2.get i (by omega)).bin
    have h2' := toldR_g h2 h6 hTg
    refine .inr ⟨i, j, h3, hi, by rw [← hb]; exact h4, ⟨_, h5, ?_⟩, h6⟩
    unfold moveY
    rw [hb]
    exact .cons (h2'.get i (by omega)) (rrm_all2 (fun t p ht => ht.bin) h2' _)
theorem x_drop (h : XS w T g room xs) (hG : CaM.Good room xs) (hr : room ≤ 900) (hT : ∀ k, T k → k < w.heap.size) (hTg : T g) (b : Int) :
    Calls Try.prog 19 #[.pointer (some ⟨g, 0, none⟩), .int .i64 b] w fun e w' => e = .returned (.int .i64 0) ∧ XS w' T g room (rmX xs b) ∧ w.grownBy w' (some g) := by
  obtain ⟨ts, h1, h2⟩ := h
  refine (drop_calls h1 b (by have := h2.len; have := hG.len; omega) hT).mono ?_
  rintro e w' ⟨rfl, h4, h5⟩
  exact ⟨rfl, ⟨_, h4, rm_all2 (fun t p ht => ht.bin) (told_g h2 h5 hTg) hG.nd b⟩, h5⟩
theorem y_drop (h : YS w T g room xs) (hn : xs.length ≤ 900) (hT : ∀ k, T k → k < w.heap.size) (hTg : T g) (b : Int) :
    Calls Try.prog 33 #[.pointer (some ⟨g, 0, none⟩), .int .i64 b] w fun e w' => e = .returned (.tuple #[]) ∧ YS w' T g room (rmX xs b) ∧ w.grownBy w' (some g) := by
  obtain ⟨ts, h1, h2⟩ := h
  refine (rdrop_calls h1 b (by have := h2.len; omega) hT).mono ?_
  rintro e w' ⟨rfl, h4, h5⟩
  exact ⟨rfl, ⟨_, h4, rrm_all2 (fun t p ht => ht.bin) (toldR_g h2 h5 hTg) b⟩, h5⟩
theorem x_clear (h : XS w T g room xs) : Calls Try.prog 20 #[.pointer (some ⟨g, 0, none⟩)] w fun e w' => e = .returned (.int .i64 0) ∧ XS w' T g room [] ∧ w.grownBy w' (some g) := by
  obtain ⟨ts, h1, h2⟩ := h
  refine (clear_calls h1).mono ?_
  rintro e w' ⟨rfl, h4, h5⟩
  exact ⟨rfl, ⟨_, h4, .nil⟩, h5⟩
theorem at_any {R : Kn → Bn → Prop} (hR : ∀ t p, R t p → t.bin = p.1) {ts : List Kn} {xs : List Bn} (h : All2 R ts xs) (b : Int) : ∀ o : Nat, decide (0 ≤ atB ts b o) = xs.any (fun p => decide (p.1 = b)) := by
  induction h with
  | nil => intro o; rfl
  | cons h1 h2 ih =>
    intro o
    unfold atB
    rw [List.any_cons, ← hR _ _ h1]
    split
    · rename_i e; simp [e]
    · rename_i e; simp [e, ih]
theorem x_has (h : XS w T g room xs) (b : Int) : Calls Try.prog 21 #[.pointer (some ⟨g, 0, none⟩), .int .i64 b] w fun e w' => e = .returned (.bool (xs.any (fun p => decide (p.1 = b)))) ∧ Below w.heap.size w w' := by
  obtain ⟨ts, h1, h2⟩ := h
  have := has_calls h1 b
  rw [at_any (fun t p ht => ht.bin) h2] at this
  exact this
def sumLen (xs : List Bn) : Nat := (xs.map (fun p => p.2.length)).sum
theorem sn_all2 {ts : List Kn} (h : All2 (fun t p => CaS.Told w T t p.1 p.2) ts xs) : sumsN ts = sumLen xs := by
  unfold sumsN sumLen
  induction h with
  | nil => rfl
  | cons h1 _ ih =>
    rw [List.map_cons, List.map_cons, List.sum_cons, List.sum_cons, ih, h1.len]
theorem bin_all2 {ts : List Kn} (h : All2 (fun t p => CaS.Told w T t p.1 p.2) ts xs) : ts.map (·.bin) = xs.map (·.1) := by
  induction h with
  | nil => rfl
  | cons h1 _ ih => rw [List.map_cons, List.map_cons, ih, h1.bin]
theorem few_all2 {ts : List Kn} (h : All2 (fun t p => CaS.Told w T t p.1 p.2) ts xs) : ∀ t, t ∈ ts → t.sn ≤ 64 := by
  induction h with
  | nil => intro t ht; cases ht
  | cons h1 _ ih =>
    intro t ht
    rcases List.mem_cons.1 ht with rfl | ht
    · rw [h1.len]; exact h1.few
    · exact ih t ht
theorem x_sums (h : XS w T g room xs) (hn : xs.length ≤ 900) : Calls Try.prog 22 #[.pointer (some ⟨g, 0, none⟩)] w fun e w' => e = .returned (.int .i64 (sumLen xs : Nat)) ∧ Below w.heap.size w w' := by
  obtain ⟨ts, h1, h2⟩ := h
  have := sums_calls h1 (by have := h2.len; omega) (few_all2 h2)
  rw [sn_all2 h2] at this
  exact this
theorem x_bins (h : XS w T g room xs) (hn : xs.length ≤ 900) : Calls Try.prog 23 #[.pointer (some ⟨g, 0, none⟩)] w fun e w' => ∃ v, e = .returned v ∧ w'.ownsRow w.heap.size 3 1 v xs.length (nums .i64 (xs.map (·.1)).reverse) ∧ Below w.heap.size w w' := by
  obtain ⟨ts, h1, h2⟩ := h
  have := callsIn_wide.1 (bins_in h1 (by have := h2.len; omega))
  rw [bin_all2 h2, h2.len] at this
  exact this
theorem x_fork (h : XS w T g room xs) (hn : xs.length ≤ 900) (T1 : Nat → Prop) (hT1 : ∀ k, T1 k → k ≤ w.heap.size) (hT : ∀ k, k < w.heap.size → T1 k → T k) : Calls Try.prog 14 #[.pointer (some ⟨g, 0, none⟩)] w fun e w' => e = .returned (.pointer (some ⟨w.heap.size, 0, none⟩)) ∧ XS w' T1 w.heap.size room xs ∧ Below w.heap.size w w' := by
  obtain ⟨ts, h1, h2⟩ := h
  refine (fork_calls h1 (by have := h2.len; omega) T1 hT1).mono ?_
  rintro e w' ⟨rfl, h3, h4⟩
  exact ⟨rfl, ⟨_, h3, h2.mono (fun t p ht => (ht.wider hT).move h4.size (fun k hk _ => h4.block k hk))⟩, h4⟩
theorem y_fork (h : YS w T g room xs) (T1 : Nat → Prop) (hT : ∀ k, k < w.heap.size → T1 k → T k) : Calls Try.prog 16 #[.pointer (some ⟨g, 0, none⟩)] w fun e w' => e = .returned (.pointer (some ⟨w.heap.size, 0, none⟩)) ∧ YS w' T1 w.heap.size room xs ∧ Below w.heap.size w w' := by
  obtain ⟨ts, h1, h2⟩ := h
  refine (rfork_calls h1 T1 hT).mono ?_
  rintro e w' ⟨rfl, h3, h4⟩
  exact ⟨rfl, ⟨_, h3, h2.mono (fun t p ht => (ht.wider hT).move h4.size (fun k hk _ => h4.block k hk))⟩, h4⟩
end
end Go.Proofs.Ytocmljijdecilaa.CaN
