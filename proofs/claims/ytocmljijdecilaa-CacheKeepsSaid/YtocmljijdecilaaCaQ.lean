/- What Put computes: the container at the row's end, none of it ahead, the first gone where there is no room; condition: the cache stands, the sums read as a list. -/
import Derived.Test.YtocmljijdecilaaCaP
import Derived.Test.YtocmljijdecilaaLit
import Derived.Test.YtocmljijdecilaaIt
namespace Go.Proofs.Ytocmljijdecilaa.CaQ
open Go Go.RowKit Go.Shelf Go.Proofs.YtocmljijdecilaaW.PrintWords Go.Proofs.Ytocmljijdecilaa.K Go.Proofs.Ytocmljijdecilaa.Mp Go.Proofs.Ytocmljijdecilaa.Eq Go.Proofs.Ytocmljijdecilaa.CaS Go.Proofs.Ytocmljijdecilaa.CaC Go.Proofs.Ytocmljijdecilaa.CaD Go.Proofs.Ytocmljijdecilaa.CaA Go.Proofs.Ytocmljijdecilaa.CaO Go.Proofs.Ytocmljijdecilaa.CaB Go.Proofs.Ytocmljijdecilaa.CaB2 Go.Proofs.Ytocmljijdecilaa.CaP Go.Proofs.Ytocmljijdecilaa.It
set_option linter.unusedVariables false
set_option linter.unusedSimpArgs false
attribute [local go_sem] Oper.semAt_some
/-- The cache with a container taken out. -/
theorem ca_below {w w1 : World} {T : Nat → Prop} {g : Nat} {room : Int} {ts : List Kn} (h : Ca w T g room ts) (hb : Below w.heap.size w w1) : Ca w1 T g room ts := by
  obtain ⟨A, c, hg, hC, hc, hA⟩ := h
  exact ⟨A, c, (hb.block g (Array.getElem?_eq_some_iff.1 hg).1).trans hg, Kd.C_below hC hb, hc, fun a ha => ⟨Nat.lt_of_lt_of_le (hA a ha).1 hb.size, (hA a ha).2⟩⟩
theorem C_kept {w w1 : World} {A : Option Addr} {n : Nat} {xs : List Sm} (h : dSum.C w A n xs) (hb : ∀ a, A = some a → a.block < w.heap.size → w1.heap[a.block]? = w.heap[a.block]?) : dSum.C w1 A n xs := by
  rcases Nat.eq_zero_or_pos n with h0 | h0
  · subst h0
    exact ⟨h.1, h.2.1, fun h0 => absurd h0 (Nat.lt_irrefl 0)⟩
  · refine C_same h (fun a ha => hb a ha ?_)
    obtain ⟨ad, had, hok, hra⟩ := sm_at h 0 (by have := h.1; omega)
    rw [had] at ha
    injection ha with ha
    subst ha
    have hl : 0 < (nums .u8 (xs[0]'(by have := h.1; omega))).length := by simp [nums, hok.1]
    have := World.block_lt_of_cell? _ _ (hra 0 _ (List.getElem?_eq_getElem hl))
    simpa [Addr.add] using this
theorem C_kept' {w w1 : World} {A : Option Addr} {n : Nat} {xs : List Sm} (h : dSum.C w A n xs) (hb : 0 < n → ∀ a, A = some a → a.block < w.heap.size → w1.heap[a.block]? = w.heap[a.block]?) : dSum.C w1 A n xs := by
  rcases Nat.eq_zero_or_pos n with h0 | h0
  · subst h0
    exact ⟨h.1, h.2.1, fun h0 => absurd h0 (Nat.lt_irrefl 0)⟩
  · exact C_kept h (hb h0)
theorem ca_same {w w1 : World} {T : Nat → Prop} {g : Nat} {room : Int} {ts : List Kn} (h : Ca w T g room ts) (hsz : w.heap.size ≤ w1.heap.size) (hk : ∀ k, k < w.heap.size → w1.heap[k]? = w.heap[k]?) : Ca w1 T g room ts := by
  obtain ⟨A, c, hg, hC, hc, hA⟩ := h
  exact ⟨A, c, (hk g (Array.getElem?_eq_some_iff.1 hg).1).trans hg, C_same hC (fun a ha => hk _ (hA a ha).1), hc, fun a ha => ⟨Nat.lt_of_lt_of_le (hA a ha).1 hsz, (hA a ha).2⟩⟩
/-- A reading lies as it lay where what turned is no row of cells. -/
theorem C_row {α : Type} {sz : Nat} {ok : α → Prop} {cells : α → List Value} {hl : ∀ x, ok x → (cells x).length = sz} {h1 : ∀ x, ok x → ∀ u ∈ cells x, u.oneCell' = true} {w w1 : World} {A : Option Addr} {n : Nat} {xs : List α} {row : Option Nat}
    (h : (Kd.flatK sz ok cells hl h1).C w A n xs) (hg : w.grownBy w1 row) (hr : ∀ r, row = some r → ∃ o : Obj, w.heap[r]? = some o ∧ o.isCells = false) : (Kd.flatK sz ok cells hl h1).C w1 A n xs := by
  refine ⟨h.1, h.2.1, fun h0 => ?_⟩
  obtain ⟨ad, had, hc⟩ := h.2.2 h0
  refine ⟨ad, had, fun j x hj => ?_⟩
  obtain ⟨cs, e1, e2, e3⟩ := hc j x hj
  refine ⟨cs, e1, e2, fun i u hu => ?_⟩
  have hcell := e3 i u hu
  have hb := World.block_lt_of_cell? _ _ hcell
  rw [← hcell]
  unfold World.cell?
  rw [hg.block _ hb (fun e => by
    obtain ⟨o, ho, hco⟩ := hr _ e.symm
    unfold World.cell? at hcell
    rw [ho] at hcell
    cases o <;> first | (cases hco; done) | (simp at hcell; done))]
theorem ca_row {w w1 : World} {T : Nat → Prop} {g : Nat} {room : Int} {ts : List Kn} {row : Option Nat} (h : Ca w T g room ts) (hg : w.grownBy w1 row) (hr : ∀ r, row = some r → ∃ o : Obj, w.heap[r]? = some o ∧ o.isCells = false) : Ca w1 T g room ts := by
  obtain ⟨A, c, hb, hC, hc, hA⟩ := h
  refine ⟨A, c, (hg.block g (Array.getElem?_eq_some_iff.1 hb).1 (fun e => ?_)).trans hb, C_row hC hg hr, hc, fun a ha => ⟨Nat.lt_of_lt_of_le (hA a ha).1 hg.size, (hA a ha).2⟩⟩
  obtain ⟨o, ho, hco⟩ := hr g e.symm
  rw [hb] at ho
  cases ho
  cases hco
theorem told_row {w w1 : World} {T : Nat → Prop} {t : Kn} {b : Int} {ss : List Sm} {D : Nat} {x : Option (List Deferred)} (h : CaS.Told w T t b ss) (hg : w.grownBy w1 (some D)) (hD : w.heap[D]? = some (.deferred x)) : CaS.Told w1 T t b ss := by
  obtain ⟨n, hM⟩ := h.map
  refine ⟨h.bin, h.few, h.len, h.cap, C_row h.sums hg (fun r e => by injection e with e; subst e; exact ⟨_, hD, rfl⟩), fun a ha => ⟨Nat.lt_of_lt_of_le (h.away a ha).1 hg.size, (h.away a ha).2⟩, ⟨n, hM.kept hg (fun e => ?_)⟩, h.mway⟩
  injection e with e
  obtain ⟨es, ck, hh, _⟩ := hM.is
  rw [e, hD] at hh
  cases hh
/-- A new row laid into the cache's struct. -/
theorem row_in {W w6 : World} {T : Nat → Prop} {g : Nat} {room : Int} {ts L : List Kn} {v6 : Value} (hca : Ca W T g room ts) (hb6 : Below W.heap.size W w6) (ho6 : Kd.R dKn 68 w6 W.heap.size (fun _ => True) (v6) (L)) (hL : 0 < L.length) (hT : ∀ k, T k → k < W.heap.size) :
    ∃ A6 c6, v6 = .slice A6 L.length c6 ∧ Ca (w6.setCell ⟨g, 1, none⟩ (.slice A6 L.length c6)) T g room L ∧ W.grownBy (w6.setCell ⟨g, 1, none⟩ (.slice A6 L.length c6)) (some g) ∧ (∃ u, w6.cell? ⟨g, 1, none⟩ = some u) ∧ w6.frozen? ⟨g, 1, none⟩ = false := by
  obtain ⟨A, c, hg, hC, hc, hA⟩ := hca
  have hgl := (Array.getElem?_eq_some_iff.1 hg).1
  have hg6 := (hb6.block g hgl).trans hg
  obtain ⟨g2, cap2, rfl, hgb, hgl2, cur, hcur⟩ := Kd.R_form ho6 hL
  have hR := Kd.R_reads' ho6
  refine ⟨some ⟨g2, 0, none⟩, cap2, rfl, ⟨some ⟨g2, 0, none⟩, cap2, (obj_set hg6 1 _).trans rfl, C_same hR.2.2 (fun a ha => ?_), hR.2.1, fun a ha => ?_⟩, World.grownBy.trans (grown_below hb6) (obj_grown w6 g 1 _), ⟨_, obj_cell hg6 1 (v := .slice A ts.length c) rfl⟩, obj_free hg6 1⟩
  · injection ha with ha
    subst ha
    exact Below.heap_setCell _ _ _ _ (by show g2 ≠ g; omega)
  · injection ha with ha
    subst ha
    refine ⟨by simpa [World.setCell] using hgl2, fun e => ?_⟩
    have : g2 < W.heap.size := hT _ e
    omega
theorem box_C {w : World} {q : Nat} {kn : Kn} {e : TypeId} (h : w.heap[q]? = some (.cells kn.cells.toArray e (0, 0))) : dKn.C w (some ⟨q, 0, none⟩) 1 [kn] := by
  refine ⟨rfl, by decide, fun _ => ⟨_, rfl, fun j p hj => ?_⟩⟩
  obtain ⟨hjl, hjp⟩ := List.getElem?_eq_some_iff.1 hj
  obtain rfl : j = 0 := by simpa using hjl
  have hjp : kn = p := hjp
  subst hjp
  refine ⟨kn.cells, rfl, ⟨trivial, rfl⟩, fun i u hu => ?_⟩
  rw [addr0]
  show w.cell? ⟨q, 0 * 3 + i, none⟩ = some u
  rw [Nat.zero_mul, Nat.zero_add]
  exact obj_cell h i (by rw [List.getElem?_toArray]; exact hu)
theorem grown_same {w w1 w2 : World} {r : Option Nat} (h : w.grownBy w1 r) (h2 : w1.grownBy w2 r) : w.grownBy w2 r := World.grownBy.trans h h2
theorem grown_row {w w1 w2 : World} {r0 row : Option Nat} (h : w.grownBy w1 r0) (h2 : w1.grownBy w2 row) (hb : ∀ r, row = some r → w.heap.size ≤ r) : w.grownBy w2 r0 :=
  ⟨h2.os.trans h.os, h2.tape.trans h.tape, h2.output.trans h.output, Nat.le_trans h.size h2.size, fun k hk hne => (h2.block k (Nat.lt_of_lt_of_le hk h.size) (fun e => by have := hb k e.symm; omega)).trans (h.block k hk hne)⟩
/-- What holds between the rounds: the map answers what has been put. -/
def PutI (wr : World) (s : Nat) (ss : List Sm) (pre : List (Fin ss.length)) (W : World) : Prop := wr.grownBy W (some s) ∧ ∃ f, Fold ss pre f ∧ MapF Try.prog 35 W s f pre.length
theorem putI_own (wr : World) (s : Nat) (ss : List Sm) (hs : s < wr.heap.size) : OwnFrom wr.heap.size (PutI wr s ss) := fun pre W W' row h hg hr => by
  obtain ⟨h1, f, hf, hm⟩ := h
  exact ⟨grown_row h1 hg (fun r e => (hr r e).1), f, hf, hm.kept hg (fun e => by have := (hr s e.symm).1; omega)⟩
def sumZ : Array Value := (List.replicate 32 (Value.int .u8 0)).toArray
theorem zeroSm (W : World) : (zeroValue 35).run Try.prog W = .ok (.agg sumZ) W := by
  obtain ⟨i, h1, h2⟩ := Option.map_eq_some_iff.1 infoSm
  simp only [Prod.mk.injEq] at h2
  simp [zeroValue, typeInfo, Sem.run_bind, h1, h2.1, sumZ]
theorem sum_one (s : Sm) : (nums .u8 s).toArray.all (·.oneCell') = true := all_oneCell_toArray (fun v hv => by
  obtain ⟨x, _, rfl⟩ := List.mem_map.1 hv
  rfl)
set_option maxHeartbeats 8000000 in
set_option maxRecDepth 100000 in
theorem put_in {w : World} {T : Nat → Prop} {g : Nat} {room : Nat} {ts : List Kn} (h : Ca w T g room ts) (b : Int) (hb0 : 0 ≤ b) (hb1 : b < 4096) (As : Option Addr) (k c2 : Nat) (ss : List Sm) (hs : dSum.C w As k ss) (hk : k ≤ 64) (hn : ts.length ≤ 900) (hT : ∀ k, T k → k < w.heap.size) (hTg : T g) (hsa : 0 < k → ∀ a, As = some a → a.block ≠ g) :
    CallsIn Fence.wide 3 Try.prog 13 #[.pointer (some ⟨g, 0, none⟩), .int .i64 b, .slice As k c2] w fun e w' => e = .returned (.int .i64 0) ∧ ∃ kn, CaS.Told w' T kn b ss ∧ Ca w' T g room (cut room (rmB ts b ++ [kn])) ∧ w.grownBy w' (some g) := by
  have d1 : decide (b < 0) = false := by simpa using hb0
  have d2 : decide (4096 ≤ b) = false := by simpa using hb1
  have d3 : decide ((64 : Int) < (k : Int)) = false := by simp; omega
  have HB0 := Aside0.mk (Below.refl w.heap.size w)
  have H := Aside0.mk h
  have HS := Aside0.mk hs
  have hlen := hs.1
  have hmm := @run_makeMap Try.prog
  have hat0 := at_calls h b
  have hrl := rm_len ts b
  clear h hs
  refine callsIn_of_wp_marks Try.func13 rfl trivial ?_ rfl
  simp only [Try.ntmps13, List.size_toArray, List.length_cons, List.length_nil, Nat.reduceAdd, Nat.reduceSub, Array.replicate_succ, Array.replicate_zero, List.push_toArray, List.append_toArray, List.nil_append, List.cons_append]
  refine wpIn_wide.2 ?_
  rcases rm_at ts b 0 with ⟨hat, hrm⟩ | ⟨i, hi, hat, hrm⟩
  · rw [hat] at hat0
    have HAT := Aside0.mk hat0
    have HRM := Aside0.mk hrm
    clear hat0 hat hrm
    have dd : decide ((0 : Int) ≤ (-1 : Int)) = false := by decide
    go_wp2_with (go_at_call 27; (with_reducible refine (HAT.out).mono ?_); rintro e w' ⟨rfl, hb4⟩; have HB4 := Aside0.mk hb4; have HC1 : Aside0 (Ca w' T g room (rmB ts b)) := ⟨by rw [HRM.out]; exact ca_below H.out hb4⟩; have HG1 : Aside0 (w.grownBy w' (some g)) := ⟨grown_below hb4⟩; clear hb4)
    --BLK1
    obtain ⟨w1, rfl⟩ : ∃ W : World, W = w' := ⟨_, rfl⟩
    have HCL := Aside0.mk (cloneSm As k c2 ss w1 (C_kept' HS.out (fun h0 a ha hl => HG1.out.block a.block hl (fun e => by injection e with e; exact hsa h0 a ha e))) (by omega))
    refine HCL.out.mono ?_
    rintro e w2 ⟨v1, rfl, ho1, hb2⟩
    obtain ⟨A1, c1, rfl, hlc1, hC1⟩ := Kd.R_reads ho1
    have HB2 := Aside0.mk hb2
    have HC2 := Aside0.mk hC1
    have HA1 : Aside0 (∀ a, A1 = some a → w1.heap.size ≤ a.block ∧ a.block < w2.heap.size) := ⟨fun a ha => ⟨Kd.R_base ho1 _ (by rw [ha]; rfl), Kd.R_lt ho1 _ (by rw [ha]; rfl)⟩⟩
    clear ho1 hb2 hC1 HCL
    go_wp2_with (go_at_call 30; (with_reducible refine (backS_calls _ _ _ _).mono ?_); rintro e w' ⟨rfl, rfl⟩)
    obtain rfl : ss.length = k := hlen
    have HWM := Aside0.mk (show MapF Try.prog 35 (((w2.alloc (.map #[] 0)).alloc (.cells #[.int .i64 b, .slice A1 ss.length c1, .map (some w2.heap.size)] 68)).alloc (.cells #[.slice A1 ss.length c1] 38)) w2.heap.size (fun _ => none) 0 from (MapF.made w2).below (below_alloc (below_alloc (Below.refl _ _) _) _))
    have HKB : Aside0 ((((w2.alloc (.map #[] 0)).alloc (.cells #[.int .i64 b, .slice A1 ss.length c1, .map (some w2.heap.size)] 68)).alloc (.cells #[.slice A1 ss.length c1] 38)).heap[w2.heap.size + 1]? = some (.cells #[.int .i64 b, .slice A1 ss.length c1, .map (some w2.heap.size)] 68 (0, 0))) := ⟨(Below.heap_alloc _ _ _ (by simp)).trans (by have := heap_alloc_new (w2.alloc (.map #[] 0)) (.cells #[.int .i64 b, .slice A1 ss.length c1, .map (some w2.heap.size)] 68); rwa [World.size_alloc] at this)⟩
    have HBX : Aside0 ((((w2.alloc (.map #[] 0)).alloc (.cells #[.int .i64 b, .slice A1 ss.length c1, .map (some w2.heap.size)] 68)).alloc (.cells #[.slice A1 ss.length c1] 38)).heap[w2.heap.size + 1 + 1]? = some (.cells #[.slice A1 ss.length c1] 38 (0, 0))) := ⟨by have := heap_alloc_new ((w2.alloc (.map #[] 0)).alloc (.cells #[.int .i64 b, .slice A1 ss.length c1, .map (some w2.heap.size)] 68)) (.cells #[.slice A1 ss.length c1] 38); rwa [World.size_alloc, World.size_alloc] at this⟩
    have HWB := Aside0.mk (below_alloc (below_alloc (below_alloc (Below.refl w2.heap.size w2) (.map #[] 0)) (.cells #[.int .i64 b, .slice A1 ss.length c1, .map (some w2.heap.size)] 68)) (.cells #[.slice A1 ss.length c1] 38))
    have hws : (((w2.alloc (.map #[] 0)).alloc (.cells #[.int .i64 b, .slice A1 ss.length c1, .map (some w2.heap.size)] 68)).alloc (.cells #[.slice A1 ss.length c1] 38)).heap.size = w2.heap.size + 3 := by simp
    generalize ((w2.alloc (.map #[] 0)).alloc (.cells #[.int .i64 b, .slice A1 ss.length c1, .map (some w2.heap.size)] 68)).alloc (.cells #[.slice A1 ss.length c1] 38) = wr at *
    refine (wpIn_wide (n := 3)).1 ?_
    refine wpIn_rangeFunc_ownH rfl (by decide) (gf := 37) (lb := #[.pointer (some ⟨w2.heap.size + 1 + 1, 0, none⟩)]) rfl trivial (enters_of Try.func37 (by kernel_rfl) rfl)
      (backS_stops (3 - 1) (by decide) (w2.heap.size + 1 + 1) A1 c1 ss (fun k => k = w2.heap.size + 1 + 1 ∨ ∃ a, A1 = some a ∧ k = a.block) wr (.inl rfl) (fun a ha => .inr ⟨a, ha, rfl⟩) (by omega) (fun a ha => by have := (HA1.out a ha).2; omega) (obj_cell HBX.out 0 rfl) (Kd.C_below HC2.out HWB.out))
      keepR_t (keepR_b (fun k hk => by rcases hk with rfl | ⟨a, ha, rfl⟩; (· omega); (· have := (HA1.out a ha).2; omega))) (Below.refl _ _) (fun _ => rfl) (PutI wr w2.heap.size ss) (fun _ _ _ => False) (putI_own _ _ _ (by omega)) (fun _ _ _ _ _ h _ _ => h) ⟨World.grownBy.refl _ _, _, Fold.nil, HWM.out⟩
      (fun x a' W => ∃ (p : Nat) (u7 u27 u28 u29 u30 u31 u32 : Value), W.heap[p]? = some (.cells (nums .u8 ss[x.1]).toArray 35 (0, 0)) ∧ a' = { tmps := #[.pointer (some ⟨g, 0, none⟩), .int .i64 b, .slice As ss.length c2, undef, undef, undef, .int .i64 0, u7, .pointer (some ⟨w2.heap.size + 1, 0, none⟩), .int .i64 (x.1 : Int), .pointer (some ⟨p, 0, none⟩), .bool false, .pointer (some ⟨g, 0, none⟩), .bool false, .bool false, .int .i64 b, .bool false, .bool false, .int .i64 b, .bool false, .bool false, .bool false, .slice As ss.length c2, .int .i64 (ss.length : Int), .bool false, .pointer (some ⟨g, 0, none⟩), .int .i64 b, u27, u28, u29, u30, u31, u32, .int .i64 b, .slice As ss.length c2, .slice A1 ss.length c1, .map (some w2.heap.size), .agg #[.int .i64 b, .slice A1 ss.length c1, .map (some w2.heap.size)], .pointer (some ⟨w2.heap.size + 1, 1, none⟩), .slice A1 ss.length c1, .func (.func 37) #[] #[.pointer (some ⟨w2.heap.size + 1 + 1, 0, none⟩)], .int .i64 (x.1 : Int), .agg (nums .u8 ss[x.1]).toArray, undef, undef, undef, undef, undef, undef, undef, undef, undef, undef, undef, undef, undef, undef, undef, undef, undef, undef, undef, undef, undef, undef, undef, undef, undef, undef, undef], defers := [] }) ?ax ?assign ?body ?done (fun _ _ _ _ _ _ h _ => h.elim)
    case ax =>
      intro x a' _ W W' row hI hg hr
      obtain ⟨p, u7, u27, u28, u29, u30, u31, u32, hp, rfl⟩ := hI
      refine ⟨p, u7, u27, u28, u29, u30, u31, u32, ?_, rfl⟩
      refine (hg.block p (Array.getElem?_eq_some_iff.1 hp).1 (fun e => ?_)).trans hp
      obtain ⟨_, o, ho, hc⟩ := hr p e.symm
      rw [hp] at ho
      cases ho
      cases hc
    case assign =>
      intro l pre x W K hI hK
      have HK := Aside0.mk (fun u7 u27 u28 u29 u30 u31 u32 => hK _ (W.alloc (.cells (nums .u8 ss[x.1]).toArray 35)) (KeepsOthers.from (KeepsOthers.alloc W _) _) (keepR_below (below_alloc (Below.refl _ _) _)) (putI_own wr w2.heap.size ss (by omega) pre W _ none hI (World.grownBy_alloc _ _ none) (fun r e => by cases e)) ⟨W.heap.size, u7, u27, u28, u29, u30, u31, u32, heap_alloc_new _ _, rfl⟩)
      have hlx := (sm_at HC2.out x.1 x.2).choose_spec.2.1.1
      have HI2 : Aside0 ((Try.prog.info? 35).map (·.size) = some (nums .u8 ss[x.1]).toArray.size) := ⟨info32.trans (by simp [nums, hlx])⟩
      have HZC : Aside0 (sumZ.size = (nums .u8 ss[x.1]).toArray.size) := ⟨by simp [sumZ, nums, hlx]⟩
      have HON := Aside0.mk (sum_one ss[x.1])
      clear hI hK hlx
      simp only [encS] at HK ⊢
      generalize (nums .u8 ss[x.1]).toArray = N at *
      gi_wp2_with (first
        | ((with_reducible refine gateIn (.alloc 35) rfl ?_); refine listIn_plain rfl (by intro c h; cases h) (fun KK hKK => ?_); refine Hd.step_run rfl (Hd.exec_alloc _ rfl _ (zeroSm _)) ?_; refine wpList_nil (hKK _ _ ?_))
        | ((with_reducible refine gateIn (.store 35 (.tmp 10) (.tmp 42)) rfl ?_); refine listIn_plain rfl (by intro c h; cases h) (fun KK hKK => ?_); refine Hd.wpList_store_new rfl _ _ _ rfl _ sumZ N rfl rfl HZC.out HI2.out HON.out ?_; refine wpList_nil (hKK _ _ ?_)))
      exact HK.out _ _ _ _ _ _ _
    case body =>
      intro l pre x a' W hlw hlr hI hAx hlt
      obtain ⟨p, u7, u27, u28, u29, u30, u31, u32, hp, rfl⟩ := hAx
      obtain ⟨hg, f, hf, hm⟩ := hI
      obtain ⟨f', hput⟩ := put_ex f (sumV ss[x.1]) (.int .i64 (x.1 : Int))
      have hok := (sm_at HC2.out x.1 x.2).choose_spec.2.1
      obtain ⟨lk, hkey⟩ := key_sm ss[x.1] hok
      have c0 := obj_cell (v := .map (some w2.heap.size)) ((hg.block (w2.heap.size + 1) (by omega) (fun e => by injection e with e; omega)).trans HKB.out) 2 rfl
      have HRA := Aside0.mk (show Hd.RangeA W ⟨p, 0, none⟩ (nums .u8 ss[x.1]) from fun j v hj => by
        rw [addr0]
        exact obj_cell hp j (by rw [List.getElem?_toArray]; exact hj))
      have HIS := Aside0.mk (infoSmS ss[x.1] hok)
      have HUS := Aside0.mk Try.underlying35
      have HG := Aside0.mk hg
      have HF := Aside0.mk (Fold.snoc pre f x f' hf hput)
      have HM := Aside0.mk hm
      have HPUT := Aside0.mk hput
      have HKEY := Aside0.mk hkey
      have HRM2 : Aside0 (pre.length < maxLen) := ⟨by unfold maxLen; omega⟩
      have hsl : w2.heap.size < W.heap.size := hm.lt
      have HWS := Aside0.mk hws
      unfold sumV at HPUT HKEY
      clear hg hf hm hp hput hkey hok hlr hws
      generalize nums .u8 ss[x.1] = N at *
      gi_wp2_with (first
        | ((with_reducible refine gateIn (.load 35 (.tmp 10)) rfl ?_); refine listIn_plain rfl (by intro c h; cases h) (fun KK hKK => ?_); refine Hd.wpList_load_any rfl _ (.tmp 10) rfl _ rfl N _ HRA.out HUS.out rfl HIS.out ?_; refine wpList_nil (hKK _ _ ?_))
        | ((with_reducible refine gateIn (.mapUpdate 66 (.tmp 44) (.tmp 45) (.tmp 46)) rfl ?_); refine listIn_plain rfl (by intro c h; cases h) (fun KK hKK => ?_); refine (Mp.wpList_store (b := w2.heap.size) (f := f) (f' := f') (n := pre.length) (key := .agg N.toArray) (val := .int .i64 (x.1 : Int)) (l := lk) (hgd := rfl) (K := keyed_sm) (ht := Try.underlying66) (ho := rfl) (hm := rfl) (h := HM.out) (hroom := HRM2.out) (hx := rfl) (hv := rfl) (hkey := HKEY.out) (hp := HPUT.out) (hK := ?_)); intro w3 hm3 hg3 hs3; refine wpList_nil (hKK _ _ ?_); have HM3 := Aside0.mk hm3; have HG3 := Aside0.mk hg3; clear hm3 hg3 hs3))
      have hws := HWS.out
      exact ⟨⟨HG3.out.size, fun q o hq ho hc => (HG3.out.block q (Array.getElem?_eq_some_iff.1 ho).1 (fun e => by injection e with e; omega)).trans ho⟩, keepR_grown HG3.out (fun hR => by
        rcases hR with e | ⟨a, ha, e⟩
        · omega
        · have := (HA1.out a ha).2; omega), ⟨grown_same HG.out HG3.out, f', HF.out, by rw [List.length_append]; exact HM3.out.mono (by simp <;> split <;> omega)⟩⟩
    case done =>
      intro D xs W hDl hS hI hD
      obtain ⟨hg, f, hf, hm⟩ := hI
      have hfs := fold_is ss xs f hf 0 (Nat.zero_le _) (by rw [hS, down_all])
      rw [List.drop_zero] at hfs
      subst hfs
      have hw01 := HG1.out.size
      have hw12 := HB2.out.size
      have hwW := hg.size
      have hgw1 := (Array.getElem?_eq_some_iff.1 HC1.out.choose_spec.choose_spec.1).1
      have old : ∀ q, q < w1.heap.size → W.heap[q]? = w1.heap[q]? := fun q hq => (hg.block q (by omega) (fun e => by injection e with e; omega)).trans ((HWB.out.block q (by omega)).trans (HB2.out.block q hq))
      have HTD : Aside0 (CaS.Told W T ⟨b, A1, ss.length, c1, w2.heap.size⟩ b ss) := ⟨⟨rfl, hk, rfl, hlc1, C_same (Kd.C_below HC2.out HWB.out) (fun a ha => hg.block _ (by have := (HA1.out a ha).2; omega) (fun e => by injection e with e; have := (HA1.out a ha).2; omega)), fun a ha => ⟨by have := (HA1.out a ha).2; omega, fun e => by have := hT _ e; have := (HA1.out a ha).1; omega⟩, ⟨_, hm⟩, fun e => by have : w2.heap.size < w.heap.size := hT _ e; omega⟩⟩
      have HCW := Aside0.mk (ca_same HC1.out (by omega) old)
      have HGW : Aside0 (w.grownBy W (some g)) := ⟨⟨hg.os.trans (HWB.out.os.trans (HB2.out.os.trans HG1.out.os)), hg.tape.trans (HWB.out.tape.trans (HB2.out.tape.trans HG1.out.tape)), hg.output.trans (HWB.out.output.trans (HB2.out.output.trans HG1.out.output)), by omega, fun q hq hne => (old q (by omega)).trans (HG1.out.block q hq hne)⟩⟩
      have hkb := (hg.block (w2.heap.size + 1) (by omega) (fun e => by injection e with e; omega)).trans HKB.out
      have HDD := Aside0.mk hD
      have HDL : Aside0 (w2.heap.size + 3 ≤ D) := ⟨by omega⟩
      have HLO : Aside0 (w.heap.size ≤ w2.heap.size ∧ g < w.heap.size) := ⟨⟨by omega, hT g hTg⟩⟩
      have k0 := obj_cell (v := .int .i64 b) hkb 0 rfl
      have k1 := obj_cell (v := .slice A1 ss.length c1) hkb 1 rfl
      have k2 := obj_cell (v := .map (some w2.heap.size)) hkb 2 rfl
      obtain ⟨Ar, cr, hgr, hCr, hcr, hAr⟩ := HCW.out
      have g1 := obj_cell (v := .slice Ar (rmB ts b).length cr) hgr 1 rfl
      have g0 := obj_cell (v := .int .i64 (room : Int)) hgr 0 rfl
      have HCr := Aside0.mk hCr
      have HSZW : Aside0 (w2.heap.size + 3 ≤ W.heap.size) := ⟨by omega⟩
      have hgl : g < W.heap.size := by omega
      clear hg hf hm old hD hkb hCr hgr hS
      have HCLN := Aside0.mk (fun (X : World) (hX : Below W.heap.size W X) => cloneKn Ar (rmB ts b).length cr (rmB ts b) X (Kd.C_below HCr.out hX) (by omega))
      have HSB := Aside0.mk (fun (X : World) (hX : Below W.heap.size W X) => (show X.cell? ⟨g, 1, none⟩ = some (.slice Ar (rmB ts b).length cr) ∧ X.cell? ⟨w2.heap.size + 1, 0, none⟩ = some (.int .i64 b) ∧ X.cell? ⟨w2.heap.size + 1, 1, none⟩ = some (.slice A1 ss.length c1) ∧ X.cell? ⟨w2.heap.size + 1, 2, none⟩ = some (.map (some w2.heap.size)) from ⟨(hX.cell (p := ⟨g, 1, none⟩) hgl).trans g1, (hX.cell (p := ⟨w2.heap.size + 1, 0, none⟩) (by have := HSZW.out; show w2.heap.size + 1 < W.heap.size; omega)).trans k0, (hX.cell (p := ⟨w2.heap.size + 1, 1, none⟩) (by have := HSZW.out; show w2.heap.size + 1 < W.heap.size; omega)).trans k1, (hX.cell (p := ⟨w2.heap.size + 1, 2, none⟩) (by have := HSZW.out; show w2.heap.size + 1 < W.heap.size; omega)).trans k2⟩))
      go_wp2_with fail
      rename_i K1 hK1
      have REST : Aside0 (∀ (u7 u27 u28 u29 u30 u31 u32 x51 x52 x53 x54 x55 : Value) (W7 : World), Ca W7 T g room (rmB ts b ++ [⟨b, A1, ss.length, c1, w2.heap.size⟩]) → CaS.Told W7 T ⟨b, A1, ss.length, c1, w2.heap.size⟩ b ss → w.grownBy W7 (some g) → W7.heap[D]? = some (.deferred (some [])) → K1 { tmps := #[.pointer (some ⟨g, 0, none⟩), .int .i64 b, .slice As ss.length c2, undef, undef, undef, .int .i64 0, u7, .pointer (some ⟨w2.heap.size + 1, 0, none⟩), undef, undef, .bool false, .pointer (some ⟨g, 0, none⟩), .bool false, .bool false, .int .i64 b, .bool false, .bool false, .int .i64 b, .bool false, .bool false, .bool false, .slice As ss.length c2, .int .i64 (ss.length : Int), .bool false, .pointer (some ⟨g, 0, none⟩), .int .i64 b, u27, u28, u29, u30, u31, u32, .int .i64 b, .slice As ss.length c2, .slice A1 ss.length c1, .map (some w2.heap.size), .agg #[.int .i64 b, .slice A1 ss.length c1, .map (some w2.heap.size)], .pointer (some ⟨w2.heap.size + 1, 1, none⟩), .slice A1 ss.length c1, .func (.func 37) #[] #[.pointer (some ⟨w2.heap.size + 1 + 1, 0, none⟩)], undef, undef, undef, undef, undef, undef, .pointer (some ⟨g, 0, none⟩), .pointer (some ⟨g, 0, none⟩), .pointer (some ⟨g, 0, none⟩), .pointer (some ⟨g, 1, none⟩), x51, x52, x53, x54, x55, .pointer (some ⟨g, 0, none⟩), .pointer (some ⟨g, 1, none⟩), undef, undef, undef, undef, undef, undef, undef, undef, undef, undef, undef, undef], defers := [{ target := .collected D, args := #[] }] } W7) := ⟨by
        intro u7 u27 u28 u29 u30 u31 u32 x51 x52 x53 x54 x55 W7 hca htd hgr7 hdd
        refine hK1 _ _ ?_
        clear hK1
        have HCA := Aside0.mk hca
        have HTD7 := Aside0.mk htd
        have HGR7 := Aside0.mk hgr7
        have HDD7 := Aside0.mk hdd
        have hlen7 : (rmB ts b ++ [⟨b, A1, ss.length, c1, w2.heap.size⟩] : List Kn).length = (rmB ts b).length + 1 := by simp
        obtain ⟨A7, c7, hb7, hC7, hc7, hA7⟩ := hca
        rw [hlen7] at hb7
        have j0 := obj_cell (v := .int .i64 (room : Int)) hb7 0 rfl
        have j1 := obj_cell (v := .slice A7 ((rmB ts b).length + 1) c7) hb7 1 rfl
        have hg7 : g < W7.heap.size := (Array.getElem?_eq_some_iff.1 hb7).1
        have HW7 : Aside0 (w.heap.size ≤ W7.heap.size) := ⟨hgr7.size⟩
        clear htd hgr7 hdd hb7 hC7 hc7 hA7
        generalize hL : (rmB ts b ++ [⟨b, A1, ss.length, c1, w2.heap.size⟩] : List Kn) = L at *
        have HL7 := Aside0.mk hlen7
        by_cases hov : room < (rmB ts b).length + 1
        · have hcut : cut room L = L.take 0 ++ L.drop (0 + 1) := by unfold cut; rw [hlen7, if_pos hov]; rfl
          have hdv : decide ((room : Int) < ((rmB ts b).length : Int) + 1) = true := by simp; omega
          have hout := (out_calls (show Ca W7.drew T g room L from ca_same HCA.out (Nat.le_refl _) (fun _ _ => rfl)) 0 (by omega) (by omega) (fun q hq => Nat.lt_of_lt_of_le (hT q hq) HW7.out))
          rw [← hcut, show ((0 : Nat) : Int) = 0 from rfl] at hout
          have HOUT := Aside0.mk hout
          have HLL := Aside0.mk hL
          clear hout hcut
          clear hL hlen7
          go_wp2_with fail
          refine wp_region_noPanic ?_
          (refine Hd.startE (S := (fun X => X.cell? ⟨g, 0, none⟩ = some (.int .i64 (room : Int)) ∧ X.cell? ⟨g, 1, none⟩ = some (.slice A7 ((rmB ts b).length + 1) c7))) 1000 (by kernel_rfl) (⟨j0, j1⟩) (fun hHeld => ?_))
          (refine Hd.takeE (i := 0) (v := ?_) rfl rfl (by kernel_rfl) (by kernel_rfl) (by kernel_rfl) (by kernel_rfl) (fun _ _ _ h => h) (Or.inl ⟨by rfl, ?_⟩) (by assumption) ?_; rotate_left; (focus (intro wS hS; (try go_split_ands); go_simp; all_goals (with_reducible rfl))); simp only [List.set_cons_zero, List.set_cons_succ, List.setIfInBounds_toArray]); (refine Hd.takeE (i := 1) (v := ?_) rfl rfl (by kernel_rfl) (by kernel_rfl) (by kernel_rfl) (by kernel_rfl) (fun _ _ _ h => h) (Or.inl ⟨by rfl, ?_⟩) (by assumption) ?_; rotate_left; (focus (intro wS hS; (try go_split_ands); go_simp; all_goals (with_reducible rfl))); simp only [List.set_cons_zero, List.set_cons_succ, List.setIfInBounds_toArray]); (refine Hd.takeE (i := 2) (v := ?_) rfl rfl (by kernel_rfl) (by kernel_rfl) (by kernel_rfl) (by kernel_rfl) (fun _ _ _ h => h) (Or.inl ⟨by rfl, ?_⟩) (by assumption) ?_; rotate_left; (focus (intro wS hS; (try go_split_ands); go_simp; all_goals (with_reducible rfl))); simp only [List.set_cons_zero, List.set_cons_succ, List.setIfInBounds_toArray]); (refine Hd.takeE (i := 3) (v := ?_) rfl rfl (by kernel_rfl) (by kernel_rfl) (by kernel_rfl) (by kernel_rfl) (fun _ _ _ h => h) (Or.inl ⟨by rfl, ?_⟩) (by assumption) ?_; rotate_left; (focus (intro wS hS; (try go_split_ands); go_simp; all_goals (with_reducible rfl))); simp only [List.set_cons_zero, List.set_cons_succ, List.setIfInBounds_toArray]); (refine Hd.takeE (i := 4) (v := ?_) rfl rfl (by kernel_rfl) (by kernel_rfl) (by kernel_rfl) (by kernel_rfl) (fun _ _ _ h => h) (Or.inl ⟨by rfl, ?_⟩) (by assumption) ?_; rotate_left; (focus (intro wS hS; (try go_split_ands); go_simp; all_goals (with_reducible rfl))); simp only [List.set_cons_zero, List.set_cons_succ, List.setIfInBounds_toArray]); (refine Hd.takeE (i := 5) (v := ?_) rfl rfl (by kernel_rfl) (by kernel_rfl) (by kernel_rfl) (by kernel_rfl) (fun _ _ _ h => h) (Or.inl ⟨by rfl, ?_⟩) (by assumption) ?_; rotate_left; (focus (intro wS hS; (try go_split_ands); go_simp; all_goals (with_reducible rfl))); simp only [List.set_cons_zero, List.set_cons_succ, List.setIfInBounds_toArray]); (refine Hd.takeE (i := 6) (v := ?_) rfl rfl (by kernel_rfl) (by kernel_rfl) (by kernel_rfl) (by kernel_rfl) (fun _ _ _ h => h) (Or.inl ⟨by rfl, ?_⟩) (by assumption) ?_; rotate_left; (focus (intro wS hS; (try go_split_ands); go_simp; all_goals (with_reducible rfl))); simp only [List.set_cons_zero, List.set_cons_succ, List.setIfInBounds_toArray]); (refine Hd.takeE (i := 7) (v := ?_) rfl rfl (by kernel_rfl) (by kernel_rfl) (by kernel_rfl) (by kernel_rfl) (fun _ _ _ h => h) (Or.inl ⟨by rfl, ?_⟩) (by assumption) ?_; rotate_left; (focus (intro wS hS; (try go_split_ands); go_simp; all_goals (with_reducible rfl))); simp only [List.set_cons_zero, List.set_cons_succ, List.setIfInBounds_toArray]); (refine Hd.takeE (i := 8) (v := ?_) rfl rfl (by kernel_rfl) (by kernel_rfl) (by kernel_rfl) (by kernel_rfl) (fun _ _ _ h => h) (Or.inl ⟨by rfl, ?_⟩) (by assumption) ?_; rotate_left; (focus (intro wS hS; (try go_split_ands); go_simp; all_goals (with_reducible rfl))); simp only [List.set_cons_zero, List.set_cons_succ, List.setIfInBounds_toArray]); (refine Hd.takeE (i := 9) (v := ?_) rfl rfl (by kernel_rfl) (by kernel_rfl) (by kernel_rfl) (by kernel_rfl) (fun _ _ _ h => h) (Or.inl ⟨by rfl, ?_⟩) (by assumption) ?_; rotate_left; (focus (intro wS hS; (try go_split_ands); go_simp; all_goals (with_reducible rfl))); simp only [List.set_cons_zero, List.set_cons_succ, List.setIfInBounds_toArray])
          (refine Hd.endE (by kernel_rfl) ?_ _; refine NoPanic.normal ?_)
          go_wp2_with (go_at_call 28; (with_reducible refine (HOUT.out).mono ?_); rintro e w' ⟨⟨vo2, rfl⟩, hc8, hg8⟩; have HC8 := Aside0.mk hc8; have HGX : Aside0 (W7.grownBy w' (some g)) := ⟨World.grownBy.trans (b := W7.drew) ⟨rfl, rfl, rfl, Nat.le_refl _, fun _ _ _ => rfl⟩ hg8⟩; clear hc8 hg8 HOUT)
          obtain ⟨w8, rfl⟩ : ∃ X : World, X = w' := ⟨_, rfl⟩
          have hd8 : w8.heap[D]? = some (.deferred (some [])) := (HGX.out.block D (Array.getElem?_eq_some_iff.1 HDD7.out).1 (fun e => by injection e with e; have := HDL.out; have := HLO.out; omega)).trans HDD7.out
          have HD8 := Aside0.mk hd8
          have ht8 : CaS.Told w8 T ⟨b, A1, ss.length, c1, w2.heap.size⟩ b ss := HTD7.out.move HGX.out.size (fun q hq hnt => HGX.out.block q hq (fun e => by injection e with e; subst e; exact hnt hTg))
          have HT8 := Aside0.mk ht8
          have HG8 : Aside0 (w.grownBy w8 (some g)) := ⟨World.grownBy.trans HGR7.out HGX.out⟩
          clear hd8 ht8
          refine ⟨by simp, .inl ⟨_, _, rfl, run_takeDeferred HD8.out, ?_⟩⟩
          have hgd := grownBy_putObj' w8 D (.deferred none)
          exact ⟨_, results_tmp rfl _ _ _, rfl, ⟨b, A1, ss.length, c1, w2.heap.size⟩, told_row HT8.out hgd HD8.out, by rw [HLL.out]; exact ca_row HC8.out hgd (fun r e => by injection e with e; subst e; exact ⟨_, HD8.out, rfl⟩), grown_new HG8.out hgd (by have := HDL.out; have := HLO.out; omega)⟩
        · have hcut : cut room L = L := by unfold cut; rw [hlen7, if_neg hov]
          have hdv : decide ((room : Int) < ((rmB ts b).length : Int) + 1) = false := by simp; omega
          have HC8 : Aside0 (Ca W7.drew T g room (cut room L)) := ⟨by rw [hcut]; exact ca_same HCA.out (Nat.le_refl _) (fun _ _ => rfl)⟩
          have HLL := Aside0.mk hL
          clear hL hlen7 hcut
          go_wp2_with fail
          refine wp_region_noPanic ?_
          (refine Hd.startE (S := (fun X => X.cell? ⟨g, 0, none⟩ = some (.int .i64 (room : Int)) ∧ X.cell? ⟨g, 1, none⟩ = some (.slice A7 ((rmB ts b).length + 1) c7))) 1000 (by kernel_rfl) (⟨j0, j1⟩) (fun hHeld => ?_))
          (refine Hd.takeE (i := 0) (v := ?_) rfl rfl (by kernel_rfl) (by kernel_rfl) (by kernel_rfl) (by kernel_rfl) (fun _ _ _ h => h) (Or.inl ⟨by rfl, ?_⟩) (by assumption) ?_; rotate_left; (focus (intro wS hS; (try go_split_ands); go_simp; all_goals (with_reducible rfl))); simp only [List.set_cons_zero, List.set_cons_succ, List.setIfInBounds_toArray]); (refine Hd.takeE (i := 1) (v := ?_) rfl rfl (by kernel_rfl) (by kernel_rfl) (by kernel_rfl) (by kernel_rfl) (fun _ _ _ h => h) (Or.inl ⟨by rfl, ?_⟩) (by assumption) ?_; rotate_left; (focus (intro wS hS; (try go_split_ands); go_simp; all_goals (with_reducible rfl))); simp only [List.set_cons_zero, List.set_cons_succ, List.setIfInBounds_toArray]); (refine Hd.takeE (i := 2) (v := ?_) rfl rfl (by kernel_rfl) (by kernel_rfl) (by kernel_rfl) (by kernel_rfl) (fun _ _ _ h => h) (Or.inl ⟨by rfl, ?_⟩) (by assumption) ?_; rotate_left; (focus (intro wS hS; (try go_split_ands); go_simp; all_goals (with_reducible rfl))); simp only [List.set_cons_zero, List.set_cons_succ, List.setIfInBounds_toArray]); (refine Hd.takeE (i := 3) (v := ?_) rfl rfl (by kernel_rfl) (by kernel_rfl) (by kernel_rfl) (by kernel_rfl) (fun _ _ _ h => h) (Or.inl ⟨by rfl, ?_⟩) (by assumption) ?_; rotate_left; (focus (intro wS hS; (try go_split_ands); go_simp; all_goals (with_reducible rfl))); simp only [List.set_cons_zero, List.set_cons_succ, List.setIfInBounds_toArray]); (refine Hd.takeE (i := 4) (v := ?_) rfl rfl (by kernel_rfl) (by kernel_rfl) (by kernel_rfl) (by kernel_rfl) (fun _ _ _ h => h) (Or.inl ⟨by rfl, ?_⟩) (by assumption) ?_; rotate_left; (focus (intro wS hS; (try go_split_ands); go_simp; all_goals (with_reducible rfl))); simp only [List.set_cons_zero, List.set_cons_succ, List.setIfInBounds_toArray]); (refine Hd.takeE (i := 5) (v := ?_) rfl rfl (by kernel_rfl) (by kernel_rfl) (by kernel_rfl) (by kernel_rfl) (fun _ _ _ h => h) (Or.inl ⟨by rfl, ?_⟩) (by assumption) ?_; rotate_left; (focus (intro wS hS; (try go_split_ands); go_simp; all_goals (with_reducible rfl))); simp only [List.set_cons_zero, List.set_cons_succ, List.setIfInBounds_toArray]); (refine Hd.takeE (i := 6) (v := ?_) rfl rfl (by kernel_rfl) (by kernel_rfl) (by kernel_rfl) (by kernel_rfl) (fun _ _ _ h => h) (Or.inl ⟨by rfl, ?_⟩) (by assumption) ?_; rotate_left; (focus (intro wS hS; (try go_split_ands); go_simp; all_goals (with_reducible rfl))); simp only [List.set_cons_zero, List.set_cons_succ, List.setIfInBounds_toArray]); (refine Hd.takeE (i := 7) (v := ?_) rfl rfl (by kernel_rfl) (by kernel_rfl) (by kernel_rfl) (by kernel_rfl) (fun _ _ _ h => h) (Or.inl ⟨by rfl, ?_⟩) (by assumption) ?_; rotate_left; (focus (intro wS hS; (try go_split_ands); go_simp; all_goals (with_reducible rfl))); simp only [List.set_cons_zero, List.set_cons_succ, List.setIfInBounds_toArray]); (refine Hd.takeE (i := 8) (v := ?_) rfl rfl (by kernel_rfl) (by kernel_rfl) (by kernel_rfl) (by kernel_rfl) (fun _ _ _ h => h) (Or.inl ⟨by rfl, ?_⟩) (by assumption) ?_; rotate_left; (focus (intro wS hS; (try go_split_ands); go_simp; all_goals (with_reducible rfl))); simp only [List.set_cons_zero, List.set_cons_succ, List.setIfInBounds_toArray]); (refine Hd.takeE (i := 9) (v := ?_) rfl rfl (by kernel_rfl) (by kernel_rfl) (by kernel_rfl) (by kernel_rfl) (fun _ _ _ h => h) (Or.inl ⟨by rfl, ?_⟩) (by assumption) ?_; rotate_left; (focus (intro wS hS; (try go_split_ands); go_simp; all_goals (with_reducible rfl))); simp only [List.set_cons_zero, List.set_cons_succ, List.setIfInBounds_toArray])
          (refine Hd.endE (by kernel_rfl) ?_ _; refine NoPanic.normal ?_)
          go_wp2
          have HD8 : Aside0 (W7.drew.heap[D]? = some (.deferred (some []))) := ⟨HDD7.out⟩
          have HT8 : Aside0 (CaS.Told W7.drew T ⟨b, A1, ss.length, c1, w2.heap.size⟩ b ss) := ⟨HTD7.out.move (Nat.le_refl _) (fun _ _ _ => rfl)⟩
          have HG8 : Aside0 (w.grownBy W7.drew (some g)) := ⟨World.grownBy.trans HGR7.out ⟨rfl, rfl, rfl, Nat.le_refl _, fun _ _ _ => rfl⟩⟩
          refine ⟨by simp, .inl ⟨_, _, rfl, run_takeDeferred HD8.out, ?_⟩⟩
          have hgd := grownBy_putObj' W7.drew D (.deferred none)
          exact ⟨_, results_tmp rfl _ _ _, rfl, ⟨b, A1, ss.length, c1, w2.heap.size⟩, told_row HT8.out hgd HD8.out, by rw [HLL.out]; exact ca_row HC8.out hgd (fun r e => by injection e with e; subst e; exact ⟨_, HD8.out, rfl⟩), grown_new HG8.out hgd (by have := HDL.out; have := HLO.out; omega)⟩⟩
      have hTW : ∀ q, T q → q < W.heap.size := fun q hq => Nat.lt_of_lt_of_le (hT q hq) HGW.out.size
      have HTW := Aside0.mk hTW
      have hlt9 := (Array.getElem?_eq_some_iff.1 HDD.out).1
      clear hK1 g0 g1 k0 k1 k2 hTW
      refine wp_region_noPanic ?_
      (refine Hd.startE (S := (fun X => X.cell? ⟨g, 1, none⟩ = some (.slice Ar (rmB ts b).length cr) ∧ X.cell? ⟨w2.heap.size + 1, 0, none⟩ = some (.int .i64 b) ∧ X.cell? ⟨w2.heap.size + 1, 1, none⟩ = some (.slice A1 ss.length c1) ∧ X.cell? ⟨w2.heap.size + 1, 2, none⟩ = some (.map (some w2.heap.size)))) 11 (by kernel_rfl) (HSB.out _ (below_drew1 (Below.refl _ _))) (fun hHeld => ?_))
      (refine Hd.takeE (i := 0) (v := ?_) rfl rfl (by kernel_rfl) (by kernel_rfl) (by kernel_rfl) (by kernel_rfl) (fun _ _ _ h => h) (Or.inl ⟨by rfl, ?_⟩) (by assumption) ?_; rotate_left; (focus (intro wS hS; (try go_split_ands); go_simp; all_goals (with_reducible rfl))); simp only [List.set_cons_zero, List.set_cons_succ, List.setIfInBounds_toArray]); (refine Hd.takeE (i := 1) (v := ?_) rfl rfl (by kernel_rfl) (by kernel_rfl) (by kernel_rfl) (by kernel_rfl) (fun _ _ _ h => h) (Or.inl ⟨by rfl, ?_⟩) (by assumption) ?_; rotate_left; (focus (intro wS hS; (try go_split_ands); go_simp; all_goals (with_reducible rfl))); simp only [List.set_cons_zero, List.set_cons_succ, List.setIfInBounds_toArray]); (refine Hd.takeE (i := 2) (v := ?_) rfl rfl (by kernel_rfl) (by kernel_rfl) (by kernel_rfl) (by kernel_rfl) (fun _ _ _ h => h) (Or.inl ⟨by rfl, ?_⟩) (by assumption) ?_; rotate_left; (focus (intro wS hS; (try go_split_ands); go_simp; all_goals (with_reducible rfl))); simp only [List.set_cons_zero, List.set_cons_succ, List.setIfInBounds_toArray]); (refine Hd.takeE (i := 3) (v := ?_) rfl rfl (by kernel_rfl) (by kernel_rfl) (by kernel_rfl) (by kernel_rfl) (fun _ _ _ h => h) (Or.inl ⟨by rfl, ?_⟩) (by assumption) ?_; rotate_left; (focus (intro wS hS; (try go_split_ands); go_simp; all_goals (with_reducible rfl))); simp only [List.set_cons_zero, List.set_cons_succ, List.setIfInBounds_toArray]); (refine Hd.takeE (i := 4) (v := ?_) rfl rfl (by kernel_rfl) (by kernel_rfl) (by kernel_rfl) (by kernel_rfl) (fun _ _ _ h => h) (Or.inl ⟨by rfl, ?_⟩) (by assumption) ?_; rotate_left; (focus (intro wS hS; (try go_split_ands); go_simp; all_goals (with_reducible rfl))); simp only [List.set_cons_zero, List.set_cons_succ, List.setIfInBounds_toArray]); (refine Hd.takeE (i := 6) (v := ?_) rfl rfl (by kernel_rfl) (by kernel_rfl) (by kernel_rfl) (by kernel_rfl) (fun _ _ _ h => h) (Or.inl ⟨by rfl, ?_⟩) (by assumption) ?_; rotate_left; (focus (intro wS hS; (try go_split_ands); go_simp; all_goals (with_reducible rfl))); simp only [List.set_cons_zero, List.set_cons_succ, List.setIfInBounds_toArray])
      (refine Hd.readyE (rs := [5, 7]) (by kernel_rfl) (by simp) ?_; refine Hd.AllE.cons (i := 5) rfl (fun K hK => ?_) (Hd.AllE.cons (i := 7) rfl (fun K hK => ?_) (Hd.AllE.nil)))
      · ((go_simp; refine (HCLN.out _ (below_drew1 (Below.refl _ _))).mono ?_; rintro e w5 ⟨v5, rfl, ho5, hb5⟩); refine hK.out _ _ (HSB.out _ (below_then (below_drew1 (Below.refl _ _)) (Nat.le_refl _) hb5)) (fun hHeld => ?_); clear hK K; (try simp only [Act.put, List.setIfInBounds_toArray, List.set_cons_zero, List.set_cons_succ]))
        have hb5w := below_then (below_drew1 (Below.refl W.heap.size W)) (Nat.le_refl _) hb5
        (refine Hd.readyE (rs := [7]) (by kernel_rfl) (by simp) ?_; refine Hd.AllE.cons (i := 7) rfl (fun K hK => ?_) Hd.AllE.nil; go_simp; refine hK.out _ _ (HSB.out _ (below_alloc hb5w _)) (fun hHeld => ?_); clear hK K; (try simp only [Act.put, List.setIfInBounds_toArray, List.set_cons_zero, List.set_cons_succ]))
        (refine Hd.readyE (rs := [8]) (by kernel_rfl) (by simp) ?_; refine Hd.AllE.cons (i := 8) rfl (fun K hK => ?_) Hd.AllE.nil; (refine Hd.step_of_list rfl ?_; refine app1 dKn flat_kn W.heap.size (w0 := W) (W := w5) (.tmp 52) (.tmp 54) 57 68 (.agg #[.int .i64 0, .slice none 0 0, .map none]) 40 rfl rfl Try.underlying57 infoKn rfl (by decide) (by decide) v5 (rmB ts b) ⟨b, A1, ss.length, c1, w2.heap.size⟩ (Kn.cells ⟨b, A1, ss.length, c1, w2.heap.size⟩) (by rfl) (by rfl) ⟨trivial, rfl⟩ ho5 hb5w hb5.size (by omega) ?_; intro v6 w6 ho6 hb6 hg6 hat6; refine wpList_nil ?_); refine hK.out _ _ (HSB.out _ hb6) (fun hHeld => ?_); clear hK K; (try simp only [Act.put, List.setIfInBounds_toArray, List.set_cons_zero, List.set_cons_succ]))
        obtain ⟨A6, c6, rfl, hca6, hgr6, ⟨u6, hc6⟩, hf6⟩ := row_in HCW.out hb6 ho6 (by simp) HTW.out
        (refine Hd.readyE (rs := [9]) (by kernel_rfl) (by simp) ?_; refine Hd.AllE.cons (i := 9) rfl (fun K hK => ?_) Hd.AllE.nil; go_simp; refine hK.out _ _ (HSB.out _ hb6) (fun hHeld => ?_); clear hK K; (try simp only [Act.put, List.setIfInBounds_toArray, List.set_cons_zero, List.set_cons_succ]))
        (refine Hd.readyE (rs := [10]) (by kernel_rfl) (by simp) ?_; refine Hd.AllE.cons (i := 10) rfl (fun K hK => ?_) Hd.AllE.nil; go_simp; refine hK.out _ _ (HSB.out _ hb6) (fun hHeld => ?_); clear hK K; (try simp only [Act.put, List.setIfInBounds_toArray, List.set_cons_zero, List.set_cons_succ]))
        (refine Hd.readyE (rs := [11]) (by kernel_rfl) (by simp) ?_; refine Hd.AllE.last (i := 11) rfl (fun K hK => ?_); go_simp; refine hK.out _ _ ?_; clear hK K; (try simp only [Act.put, List.setIfInBounds_toArray, List.set_cons_zero, List.set_cons_succ]))
        (refine Hd.endE (by kernel_rfl) ?_ _; refine NoPanic.normal ?_)
        have hdd6 : (w6.setCell ⟨g, 1, none⟩ (.slice A6 ((rmB ts b).length + 1) c6)).heap[D]? = some (.deferred (some [])) := by
          rw [Below.heap_setCell _ _ _ _ (by show D ≠ g; have := HDL.out; have := HLO.out; omega)]
          exact (hb6.block D hlt9).trans HDD.out
        have hlL : (rmB ts b ++ [(⟨b, A1, ss.length, c1, w2.heap.size⟩ : Kn)]).length = (rmB ts b).length + 1 := by simp
        rw [hlL] at hca6 hgr6
        exact REST.out _ _ _ _ _ _ _ _ _ _ _ _ _ hca6 (HTD.out.move hgr6.size (fun q hq hnt => hgr6.block q hq (fun e => by injection e with e; subst e; exact hnt hTg))) (World.grownBy.trans HGW.out hgr6) hdd6
      · (go_simp; refine hK.out _ _ (HSB.out _ (below_alloc (below_drew1 (Below.refl _ _)) _)) (fun hHeld => ?_); clear hK K; (try simp only [Act.put, List.setIfInBounds_toArray, List.set_cons_zero, List.set_cons_succ]))
        have hbx := below_alloc (below_drew1 (Below.refl W.heap.size W)) (.cells #[.int .i64 b, .slice A1 ss.length c1, .map (some w2.heap.size)] 68)
        have hnw : (W.drew.alloc (.cells #[.int .i64 b, .slice A1 ss.length c1, .map (some w2.heap.size)] 68)).heap[W.heap.size]? = some (.cells (Kn.cells ⟨b, A1, ss.length, c1, w2.heap.size⟩).toArray 68 (0, 0)) := heap_alloc_new W.drew _
        (refine Hd.readyE (rs := [5]) (by kernel_rfl) (by simp) ?_; refine Hd.AllE.cons (i := 5) rfl (fun K hK => ?_) Hd.AllE.nil; (go_simp; refine (HCLN.out _ (below_alloc (below_drew1 (Below.refl _ _)) _)).mono ?_; rintro e w5 ⟨v5, rfl, ho5, hb5⟩); refine hK.out _ _ (HSB.out _ (below_then hbx hbx.size hb5)) (fun hHeld => ?_); clear hK K; (try simp only [Act.put, List.setIfInBounds_toArray, List.set_cons_zero, List.set_cons_succ]))
        have hb5w := below_then hbx hbx.size hb5
        have hbox := box_C ((hb5.block W.heap.size (by simp)).trans hnw)
        have ho5l := Kd.R_lower ho5 hbx.size
        (refine Hd.readyE (rs := [8]) (by kernel_rfl) (by simp) ?_; refine Hd.AllE.cons (i := 8) rfl (fun K hK => ?_) Hd.AllE.nil; (refine Hd.step_of_list rfl ?_; refine app dKn flat_kn W.heap.size (w0 := W) (W := w5) (.tmp 52) (.tmp 54) 57 68 (.agg #[.int .i64 0, .slice none 0 0, .map none]) 40 rfl rfl Try.underlying57 infoKn rfl (by decide) (by decide) v5 (rmB ts b) [⟨b, A1, ss.length, c1, w2.heap.size⟩] (some ⟨W.heap.size, 0, none⟩) 1 1 (by rfl) (by rfl) ho5l hbox hb5w hb5w.size (by omega) ?_; intro v6 w6 ho6 hb6 hg6 hat6; refine wpList_nil ?_); refine hK.out _ _ (HSB.out _ hb6) (fun hHeld => ?_); clear hK K; (try simp only [Act.put, List.setIfInBounds_toArray, List.set_cons_zero, List.set_cons_succ]))
        obtain ⟨A6, c6, rfl, hca6, hgr6, ⟨u6, hc6⟩, hf6⟩ := row_in HCW.out hb6 ho6 (by simp) HTW.out
        (refine Hd.readyE (rs := [9]) (by kernel_rfl) (by simp) ?_; refine Hd.AllE.cons (i := 9) rfl (fun K hK => ?_) Hd.AllE.nil; go_simp; refine hK.out _ _ (HSB.out _ hb6) (fun hHeld => ?_); clear hK K; (try simp only [Act.put, List.setIfInBounds_toArray, List.set_cons_zero, List.set_cons_succ]))
        (refine Hd.readyE (rs := [10]) (by kernel_rfl) (by simp) ?_; refine Hd.AllE.cons (i := 10) rfl (fun K hK => ?_) Hd.AllE.nil; go_simp; refine hK.out _ _ (HSB.out _ hb6) (fun hHeld => ?_); clear hK K; (try simp only [Act.put, List.setIfInBounds_toArray, List.set_cons_zero, List.set_cons_succ]))
        (refine Hd.readyE (rs := [11]) (by kernel_rfl) (by simp) ?_; refine Hd.AllE.last (i := 11) rfl (fun K hK => ?_); go_simp; refine hK.out _ _ ?_; clear hK K; (try simp only [Act.put, List.setIfInBounds_toArray, List.set_cons_zero, List.set_cons_succ]))
        (refine Hd.endE (by kernel_rfl) ?_ _; refine NoPanic.normal ?_)
        have hdd6 : (w6.setCell ⟨g, 1, none⟩ (.slice A6 ((rmB ts b).length + 1) c6)).heap[D]? = some (.deferred (some [])) := by
          rw [Below.heap_setCell _ _ _ _ (by show D ≠ g; have := HDL.out; have := HLO.out; omega)]
          exact (hb6.block D hlt9).trans HDD.out
        have hlL : (rmB ts b ++ [(⟨b, A1, ss.length, c1, w2.heap.size⟩ : Kn)]).length = (rmB ts b).length + 1 := by simp
        rw [hlL] at hca6 hgr6
        exact REST.out _ _ _ _ _ _ _ _ _ _ _ _ _ hca6 (HTD.out.move hgr6.size (fun q hq hnt => hgr6.block q hq (fun e => by injection e with e; subst e; exact hnt hTg))) (World.grownBy.trans HGW.out hgr6) hdd6
    --END1
  · rw [hat, Nat.zero_add] at hat0
    have HAT := Aside0.mk hat0
    have HRM := Aside0.mk hrm
    clear hat0 hat hrm
    have dd : decide ((0 : Int) ≤ (i : Int)) = true := by simp
    go_wp2_with (first
      | (go_at_call 27; (with_reducible refine (HAT.out).mono ?_); rintro e w' ⟨rfl, hb4⟩; have HB4 := Aside0.mk hb4; clear hb4)
      | (go_at_call 28; (with_reducible refine (out_calls (ca_below H.out HB4.out) i hi (by omega) (fun k hk => Nat.lt_of_lt_of_le (hT k hk) HB4.out.size)).mono ?_); rintro e w' ⟨⟨vo, rfl⟩, hC1, hG1⟩; have HC1 : Aside0 (Ca w' T g room (rmB ts b)) := ⟨by rw [HRM.out]; exact hC1⟩; have HG1 : Aside0 (w.grownBy w' (some g)) := ⟨World.grownBy.trans (grown_below HB4.out) hG1⟩; clear hC1 hG1))
    --BLK2
    obtain ⟨w1, rfl⟩ : ∃ W : World, W = w' := ⟨_, rfl⟩
    have HCL := Aside0.mk (cloneSm As k c2 ss w1 (C_kept' HS.out (fun h0 a ha hl => HG1.out.block a.block hl (fun e => by injection e with e; exact hsa h0 a ha e))) (by omega))
    refine HCL.out.mono ?_
    rintro e w2 ⟨v1, rfl, ho1, hb2⟩
    obtain ⟨A1, c1, rfl, hlc1, hC1⟩ := Kd.R_reads ho1
    have HB2 := Aside0.mk hb2
    have HC2 := Aside0.mk hC1
    have HA1 : Aside0 (∀ a, A1 = some a → w1.heap.size ≤ a.block ∧ a.block < w2.heap.size) := ⟨fun a ha => ⟨Kd.R_base ho1 _ (by rw [ha]; rfl), Kd.R_lt ho1 _ (by rw [ha]; rfl)⟩⟩
    clear ho1 hb2 hC1 HCL
    go_wp2_with (go_at_call 30; (with_reducible refine (backS_calls _ _ _ _).mono ?_); rintro e w' ⟨rfl, rfl⟩)
    obtain rfl : ss.length = k := hlen
    have HWM := Aside0.mk (show MapF Try.prog 35 (((w2.alloc (.map #[] 0)).alloc (.cells #[.int .i64 b, .slice A1 ss.length c1, .map (some w2.heap.size)] 68)).alloc (.cells #[.slice A1 ss.length c1] 38)) w2.heap.size (fun _ => none) 0 from (MapF.made w2).below (below_alloc (below_alloc (Below.refl _ _) _) _))
    have HKB : Aside0 ((((w2.alloc (.map #[] 0)).alloc (.cells #[.int .i64 b, .slice A1 ss.length c1, .map (some w2.heap.size)] 68)).alloc (.cells #[.slice A1 ss.length c1] 38)).heap[w2.heap.size + 1]? = some (.cells #[.int .i64 b, .slice A1 ss.length c1, .map (some w2.heap.size)] 68 (0, 0))) := ⟨(Below.heap_alloc _ _ _ (by simp)).trans (by have := heap_alloc_new (w2.alloc (.map #[] 0)) (.cells #[.int .i64 b, .slice A1 ss.length c1, .map (some w2.heap.size)] 68); rwa [World.size_alloc] at this)⟩
    have HBX : Aside0 ((((w2.alloc (.map #[] 0)).alloc (.cells #[.int .i64 b, .slice A1 ss.length c1, .map (some w2.heap.size)] 68)).alloc (.cells #[.slice A1 ss.length c1] 38)).heap[w2.heap.size + 1 + 1]? = some (.cells #[.slice A1 ss.length c1] 38 (0, 0))) := ⟨by have := heap_alloc_new ((w2.alloc (.map #[] 0)).alloc (.cells #[.int .i64 b, .slice A1 ss.length c1, .map (some w2.heap.size)] 68)) (.cells #[.slice A1 ss.length c1] 38); rwa [World.size_alloc, World.size_alloc] at this⟩
    have HWB := Aside0.mk (below_alloc (below_alloc (below_alloc (Below.refl w2.heap.size w2) (.map #[] 0)) (.cells #[.int .i64 b, .slice A1 ss.length c1, .map (some w2.heap.size)] 68)) (.cells #[.slice A1 ss.length c1] 38))
    have hws : (((w2.alloc (.map #[] 0)).alloc (.cells #[.int .i64 b, .slice A1 ss.length c1, .map (some w2.heap.size)] 68)).alloc (.cells #[.slice A1 ss.length c1] 38)).heap.size = w2.heap.size + 3 := by simp
    generalize ((w2.alloc (.map #[] 0)).alloc (.cells #[.int .i64 b, .slice A1 ss.length c1, .map (some w2.heap.size)] 68)).alloc (.cells #[.slice A1 ss.length c1] 38) = wr at *
    refine (wpIn_wide (n := 3)).1 ?_
    refine wpIn_rangeFunc_ownH rfl (by decide) (gf := 37) (lb := #[.pointer (some ⟨w2.heap.size + 1 + 1, 0, none⟩)]) rfl trivial (enters_of Try.func37 (by kernel_rfl) rfl)
      (backS_stops (3 - 1) (by decide) (w2.heap.size + 1 + 1) A1 c1 ss (fun k => k = w2.heap.size + 1 + 1 ∨ ∃ a, A1 = some a ∧ k = a.block) wr (.inl rfl) (fun a ha => .inr ⟨a, ha, rfl⟩) (by omega) (fun a ha => by have := (HA1.out a ha).2; omega) (obj_cell HBX.out 0 rfl) (Kd.C_below HC2.out HWB.out))
      keepR_t (keepR_b (fun k hk => by rcases hk with rfl | ⟨a, ha, rfl⟩; (· omega); (· have := (HA1.out a ha).2; omega))) (Below.refl _ _) (fun _ => rfl) (PutI wr w2.heap.size ss) (fun _ _ _ => False) (putI_own _ _ _ (by omega)) (fun _ _ _ _ _ h _ _ => h) ⟨World.grownBy.refl _ _, _, Fold.nil, HWM.out⟩
      (fun x a' W => ∃ (p : Nat) (u7 u27 u28 u29 u30 u31 u32 : Value), W.heap[p]? = some (.cells (nums .u8 ss[x.1]).toArray 35 (0, 0)) ∧ a' = { tmps := #[.pointer (some ⟨g, 0, none⟩), .int .i64 b, .slice As ss.length c2, undef, undef, undef, .int .i64 0, u7, .pointer (some ⟨w2.heap.size + 1, 0, none⟩), .int .i64 (x.1 : Int), .pointer (some ⟨p, 0, none⟩), .bool false, .pointer (some ⟨g, 0, none⟩), .bool false, .bool false, .int .i64 b, .bool false, .bool false, .int .i64 b, .bool false, .bool false, .bool false, .slice As ss.length c2, .int .i64 (ss.length : Int), .bool false, .pointer (some ⟨g, 0, none⟩), .int .i64 b, u27, u28, u29, u30, u31, u32, .int .i64 b, .slice As ss.length c2, .slice A1 ss.length c1, .map (some w2.heap.size), .agg #[.int .i64 b, .slice A1 ss.length c1, .map (some w2.heap.size)], .pointer (some ⟨w2.heap.size + 1, 1, none⟩), .slice A1 ss.length c1, .func (.func 37) #[] #[.pointer (some ⟨w2.heap.size + 1 + 1, 0, none⟩)], .int .i64 (x.1 : Int), .agg (nums .u8 ss[x.1]).toArray, undef, undef, undef, undef, undef, undef, undef, undef, undef, undef, undef, undef, undef, undef, undef, undef, undef, undef, undef, undef, undef, undef, undef, undef, undef, undef, undef], defers := [] }) ?ax ?assign ?body ?done (fun _ _ _ _ _ _ h _ => h.elim)
    case ax =>
      intro x a' _ W W' row hI hg hr
      obtain ⟨p, u7, u27, u28, u29, u30, u31, u32, hp, rfl⟩ := hI
      refine ⟨p, u7, u27, u28, u29, u30, u31, u32, ?_, rfl⟩
      refine (hg.block p (Array.getElem?_eq_some_iff.1 hp).1 (fun e => ?_)).trans hp
      obtain ⟨_, o, ho, hc⟩ := hr p e.symm
      rw [hp] at ho
      cases ho
      cases hc
    case assign =>
      intro l pre x W K hI hK
      have HK := Aside0.mk (fun u7 u27 u28 u29 u30 u31 u32 => hK _ (W.alloc (.cells (nums .u8 ss[x.1]).toArray 35)) (KeepsOthers.from (KeepsOthers.alloc W _) _) (keepR_below (below_alloc (Below.refl _ _) _)) (putI_own wr w2.heap.size ss (by omega) pre W _ none hI (World.grownBy_alloc _ _ none) (fun r e => by cases e)) ⟨W.heap.size, u7, u27, u28, u29, u30, u31, u32, heap_alloc_new _ _, rfl⟩)
      have hlx := (sm_at HC2.out x.1 x.2).choose_spec.2.1.1
      have HI2 : Aside0 ((Try.prog.info? 35).map (·.size) = some (nums .u8 ss[x.1]).toArray.size) := ⟨info32.trans (by simp [nums, hlx])⟩
      have HZC : Aside0 (sumZ.size = (nums .u8 ss[x.1]).toArray.size) := ⟨by simp [sumZ, nums, hlx]⟩
      have HON := Aside0.mk (sum_one ss[x.1])
      clear hI hK hlx
      simp only [encS] at HK ⊢
      generalize (nums .u8 ss[x.1]).toArray = N at *
      gi_wp2_with (first
        | ((with_reducible refine gateIn (.alloc 35) rfl ?_); refine listIn_plain rfl (by intro c h; cases h) (fun KK hKK => ?_); refine Hd.step_run rfl (Hd.exec_alloc _ rfl _ (zeroSm _)) ?_; refine wpList_nil (hKK _ _ ?_))
        | ((with_reducible refine gateIn (.store 35 (.tmp 10) (.tmp 42)) rfl ?_); refine listIn_plain rfl (by intro c h; cases h) (fun KK hKK => ?_); refine Hd.wpList_store_new rfl _ _ _ rfl _ sumZ N rfl rfl HZC.out HI2.out HON.out ?_; refine wpList_nil (hKK _ _ ?_)))
      exact HK.out _ _ _ _ _ _ _
    case body =>
      intro l pre x a' W hlw hlr hI hAx hlt
      obtain ⟨p, u7, u27, u28, u29, u30, u31, u32, hp, rfl⟩ := hAx
      obtain ⟨hg, f, hf, hm⟩ := hI
      obtain ⟨f', hput⟩ := put_ex f (sumV ss[x.1]) (.int .i64 (x.1 : Int))
      have hok := (sm_at HC2.out x.1 x.2).choose_spec.2.1
      obtain ⟨lk, hkey⟩ := key_sm ss[x.1] hok
      have c0 := obj_cell (v := .map (some w2.heap.size)) ((hg.block (w2.heap.size + 1) (by omega) (fun e => by injection e with e; omega)).trans HKB.out) 2 rfl
      have HRA := Aside0.mk (show Hd.RangeA W ⟨p, 0, none⟩ (nums .u8 ss[x.1]) from fun j v hj => by
        rw [addr0]
        exact obj_cell hp j (by rw [List.getElem?_toArray]; exact hj))
      have HIS := Aside0.mk (infoSmS ss[x.1] hok)
      have HUS := Aside0.mk Try.underlying35
      have HG := Aside0.mk hg
      have HF := Aside0.mk (Fold.snoc pre f x f' hf hput)
      have HM := Aside0.mk hm
      have HPUT := Aside0.mk hput
      have HKEY := Aside0.mk hkey
      have HRM2 : Aside0 (pre.length < maxLen) := ⟨by unfold maxLen; omega⟩
      have hsl : w2.heap.size < W.heap.size := hm.lt
      have HWS := Aside0.mk hws
      unfold sumV at HPUT HKEY
      clear hg hf hm hp hput hkey hok hlr hws
      generalize nums .u8 ss[x.1] = N at *
      gi_wp2_with (first
        | ((with_reducible refine gateIn (.load 35 (.tmp 10)) rfl ?_); refine listIn_plain rfl (by intro c h; cases h) (fun KK hKK => ?_); refine Hd.wpList_load_any rfl _ (.tmp 10) rfl _ rfl N _ HRA.out HUS.out rfl HIS.out ?_; refine wpList_nil (hKK _ _ ?_))
        | ((with_reducible refine gateIn (.mapUpdate 66 (.tmp 44) (.tmp 45) (.tmp 46)) rfl ?_); refine listIn_plain rfl (by intro c h; cases h) (fun KK hKK => ?_); refine (Mp.wpList_store (b := w2.heap.size) (f := f) (f' := f') (n := pre.length) (key := .agg N.toArray) (val := .int .i64 (x.1 : Int)) (l := lk) (hgd := rfl) (K := keyed_sm) (ht := Try.underlying66) (ho := rfl) (hm := rfl) (h := HM.out) (hroom := HRM2.out) (hx := rfl) (hv := rfl) (hkey := HKEY.out) (hp := HPUT.out) (hK := ?_)); intro w3 hm3 hg3 hs3; refine wpList_nil (hKK _ _ ?_); have HM3 := Aside0.mk hm3; have HG3 := Aside0.mk hg3; clear hm3 hg3 hs3))
      have hws := HWS.out
      exact ⟨⟨HG3.out.size, fun q o hq ho hc => (HG3.out.block q (Array.getElem?_eq_some_iff.1 ho).1 (fun e => by injection e with e; omega)).trans ho⟩, keepR_grown HG3.out (fun hR => by
        rcases hR with e | ⟨a, ha, e⟩
        · omega
        · have := (HA1.out a ha).2; omega), ⟨grown_same HG.out HG3.out, f', HF.out, by rw [List.length_append]; exact HM3.out.mono (by simp <;> split <;> omega)⟩⟩
    case done =>
      intro D xs W hDl hS hI hD
      obtain ⟨hg, f, hf, hm⟩ := hI
      have hfs := fold_is ss xs f hf 0 (Nat.zero_le _) (by rw [hS, down_all])
      rw [List.drop_zero] at hfs
      subst hfs
      have hw01 := HG1.out.size
      have hw12 := HB2.out.size
      have hwW := hg.size
      have hgw1 := (Array.getElem?_eq_some_iff.1 HC1.out.choose_spec.choose_spec.1).1
      have old : ∀ q, q < w1.heap.size → W.heap[q]? = w1.heap[q]? := fun q hq => (hg.block q (by omega) (fun e => by injection e with e; omega)).trans ((HWB.out.block q (by omega)).trans (HB2.out.block q hq))
      have HTD : Aside0 (CaS.Told W T ⟨b, A1, ss.length, c1, w2.heap.size⟩ b ss) := ⟨⟨rfl, hk, rfl, hlc1, C_same (Kd.C_below HC2.out HWB.out) (fun a ha => hg.block _ (by have := (HA1.out a ha).2; omega) (fun e => by injection e with e; have := (HA1.out a ha).2; omega)), fun a ha => ⟨by have := (HA1.out a ha).2; omega, fun e => by have := hT _ e; have := (HA1.out a ha).1; omega⟩, ⟨_, hm⟩, fun e => by have : w2.heap.size < w.heap.size := hT _ e; omega⟩⟩
      have HCW := Aside0.mk (ca_same HC1.out (by omega) old)
      have HGW : Aside0 (w.grownBy W (some g)) := ⟨⟨hg.os.trans (HWB.out.os.trans (HB2.out.os.trans HG1.out.os)), hg.tape.trans (HWB.out.tape.trans (HB2.out.tape.trans HG1.out.tape)), hg.output.trans (HWB.out.output.trans (HB2.out.output.trans HG1.out.output)), by omega, fun q hq hne => (old q (by omega)).trans (HG1.out.block q hq hne)⟩⟩
      have hkb := (hg.block (w2.heap.size + 1) (by omega) (fun e => by injection e with e; omega)).trans HKB.out
      have HDD := Aside0.mk hD
      have HDL : Aside0 (w2.heap.size + 3 ≤ D) := ⟨by omega⟩
      have HLO : Aside0 (w.heap.size ≤ w2.heap.size ∧ g < w.heap.size) := ⟨⟨by omega, hT g hTg⟩⟩
      have k0 := obj_cell (v := .int .i64 b) hkb 0 rfl
      have k1 := obj_cell (v := .slice A1 ss.length c1) hkb 1 rfl
      have k2 := obj_cell (v := .map (some w2.heap.size)) hkb 2 rfl
      obtain ⟨Ar, cr, hgr, hCr, hcr, hAr⟩ := HCW.out
      have g1 := obj_cell (v := .slice Ar (rmB ts b).length cr) hgr 1 rfl
      have g0 := obj_cell (v := .int .i64 (room : Int)) hgr 0 rfl
      have HCr := Aside0.mk hCr
      have HSZW : Aside0 (w2.heap.size + 3 ≤ W.heap.size) := ⟨by omega⟩
      have hgl : g < W.heap.size := by omega
      clear hg hf hm old hD hkb hCr hgr hS
      have HCLN := Aside0.mk (fun (X : World) (hX : Below W.heap.size W X) => cloneKn Ar (rmB ts b).length cr (rmB ts b) X (Kd.C_below HCr.out hX) (by omega))
      have HSB := Aside0.mk (fun (X : World) (hX : Below W.heap.size W X) => (show X.cell? ⟨g, 1, none⟩ = some (.slice Ar (rmB ts b).length cr) ∧ X.cell? ⟨w2.heap.size + 1, 0, none⟩ = some (.int .i64 b) ∧ X.cell? ⟨w2.heap.size + 1, 1, none⟩ = some (.slice A1 ss.length c1) ∧ X.cell? ⟨w2.heap.size + 1, 2, none⟩ = some (.map (some w2.heap.size)) from ⟨(hX.cell (p := ⟨g, 1, none⟩) hgl).trans g1, (hX.cell (p := ⟨w2.heap.size + 1, 0, none⟩) (by have := HSZW.out; show w2.heap.size + 1 < W.heap.size; omega)).trans k0, (hX.cell (p := ⟨w2.heap.size + 1, 1, none⟩) (by have := HSZW.out; show w2.heap.size + 1 < W.heap.size; omega)).trans k1, (hX.cell (p := ⟨w2.heap.size + 1, 2, none⟩) (by have := HSZW.out; show w2.heap.size + 1 < W.heap.size; omega)).trans k2⟩))
      go_wp2_with fail
      rename_i K1 hK1
      have REST : Aside0 (∀ (u7 u27 u28 u29 u30 u31 u32 x51 x52 x53 x54 x55 : Value) (W7 : World), Ca W7 T g room (rmB ts b ++ [⟨b, A1, ss.length, c1, w2.heap.size⟩]) → CaS.Told W7 T ⟨b, A1, ss.length, c1, w2.heap.size⟩ b ss → w.grownBy W7 (some g) → W7.heap[D]? = some (.deferred (some [])) → K1 { tmps := #[.pointer (some ⟨g, 0, none⟩), .int .i64 b, .slice As ss.length c2, undef, undef, undef, .int .i64 0, u7, .pointer (some ⟨w2.heap.size + 1, 0, none⟩), undef, undef, .bool false, .pointer (some ⟨g, 0, none⟩), .bool false, .bool false, .int .i64 b, .bool false, .bool false, .int .i64 b, .bool false, .bool false, .bool false, .slice As ss.length c2, .int .i64 (ss.length : Int), .bool false, .pointer (some ⟨g, 0, none⟩), .int .i64 b, u27, u28, u29, u30, u31, u32, .int .i64 b, .slice As ss.length c2, .slice A1 ss.length c1, .map (some w2.heap.size), .agg #[.int .i64 b, .slice A1 ss.length c1, .map (some w2.heap.size)], .pointer (some ⟨w2.heap.size + 1, 1, none⟩), .slice A1 ss.length c1, .func (.func 37) #[] #[.pointer (some ⟨w2.heap.size + 1 + 1, 0, none⟩)], undef, undef, undef, undef, undef, undef, .pointer (some ⟨g, 0, none⟩), .pointer (some ⟨g, 0, none⟩), .pointer (some ⟨g, 0, none⟩), .pointer (some ⟨g, 1, none⟩), x51, x52, x53, x54, x55, .pointer (some ⟨g, 0, none⟩), .pointer (some ⟨g, 1, none⟩), undef, undef, undef, undef, undef, undef, undef, undef, undef, undef, undef, undef], defers := [{ target := .collected D, args := #[] }] } W7) := ⟨by
        intro u7 u27 u28 u29 u30 u31 u32 x51 x52 x53 x54 x55 W7 hca htd hgr7 hdd
        refine hK1 _ _ ?_
        clear hK1
        have HCA := Aside0.mk hca
        have HTD7 := Aside0.mk htd
        have HGR7 := Aside0.mk hgr7
        have HDD7 := Aside0.mk hdd
        have hlen7 : (rmB ts b ++ [⟨b, A1, ss.length, c1, w2.heap.size⟩] : List Kn).length = (rmB ts b).length + 1 := by simp
        obtain ⟨A7, c7, hb7, hC7, hc7, hA7⟩ := hca
        rw [hlen7] at hb7
        have j0 := obj_cell (v := .int .i64 (room : Int)) hb7 0 rfl
        have j1 := obj_cell (v := .slice A7 ((rmB ts b).length + 1) c7) hb7 1 rfl
        have hg7 : g < W7.heap.size := (Array.getElem?_eq_some_iff.1 hb7).1
        have HW7 : Aside0 (w.heap.size ≤ W7.heap.size) := ⟨hgr7.size⟩
        clear htd hgr7 hdd hb7 hC7 hc7 hA7
        generalize hL : (rmB ts b ++ [⟨b, A1, ss.length, c1, w2.heap.size⟩] : List Kn) = L at *
        have HL7 := Aside0.mk hlen7
        by_cases hov : room < (rmB ts b).length + 1
        · have hcut : cut room L = L.take 0 ++ L.drop (0 + 1) := by unfold cut; rw [hlen7, if_pos hov]; rfl
          have hdv : decide ((room : Int) < ((rmB ts b).length : Int) + 1) = true := by simp; omega
          have hout := (out_calls (show Ca W7.drew T g room L from ca_same HCA.out (Nat.le_refl _) (fun _ _ => rfl)) 0 (by omega) (by omega) (fun q hq => Nat.lt_of_lt_of_le (hT q hq) HW7.out))
          rw [← hcut, show ((0 : Nat) : Int) = 0 from rfl] at hout
          have HOUT := Aside0.mk hout
          have HLL := Aside0.mk hL
          clear hout hcut
          clear hL hlen7
          go_wp2_with fail
          refine wp_region_noPanic ?_
          (refine Hd.startE (S := (fun X => X.cell? ⟨g, 0, none⟩ = some (.int .i64 (room : Int)) ∧ X.cell? ⟨g, 1, none⟩ = some (.slice A7 ((rmB ts b).length + 1) c7))) 1000 (by kernel_rfl) (⟨j0, j1⟩) (fun hHeld => ?_))
          (refine Hd.takeE (i := 0) (v := ?_) rfl rfl (by kernel_rfl) (by kernel_rfl) (by kernel_rfl) (by kernel_rfl) (fun _ _ _ h => h) (Or.inl ⟨by rfl, ?_⟩) (by assumption) ?_; rotate_left; (focus (intro wS hS; (try go_split_ands); go_simp; all_goals (with_reducible rfl))); simp only [List.set_cons_zero, List.set_cons_succ, List.setIfInBounds_toArray]); (refine Hd.takeE (i := 1) (v := ?_) rfl rfl (by kernel_rfl) (by kernel_rfl) (by kernel_rfl) (by kernel_rfl) (fun _ _ _ h => h) (Or.inl ⟨by rfl, ?_⟩) (by assumption) ?_; rotate_left; (focus (intro wS hS; (try go_split_ands); go_simp; all_goals (with_reducible rfl))); simp only [List.set_cons_zero, List.set_cons_succ, List.setIfInBounds_toArray]); (refine Hd.takeE (i := 2) (v := ?_) rfl rfl (by kernel_rfl) (by kernel_rfl) (by kernel_rfl) (by kernel_rfl) (fun _ _ _ h => h) (Or.inl ⟨by rfl, ?_⟩) (by assumption) ?_; rotate_left; (focus (intro wS hS; (try go_split_ands); go_simp; all_goals (with_reducible rfl))); simp only [List.set_cons_zero, List.set_cons_succ, List.setIfInBounds_toArray]); (refine Hd.takeE (i := 3) (v := ?_) rfl rfl (by kernel_rfl) (by kernel_rfl) (by kernel_rfl) (by kernel_rfl) (fun _ _ _ h => h) (Or.inl ⟨by rfl, ?_⟩) (by assumption) ?_; rotate_left; (focus (intro wS hS; (try go_split_ands); go_simp; all_goals (with_reducible rfl))); simp only [List.set_cons_zero, List.set_cons_succ, List.setIfInBounds_toArray]); (refine Hd.takeE (i := 4) (v := ?_) rfl rfl (by kernel_rfl) (by kernel_rfl) (by kernel_rfl) (by kernel_rfl) (fun _ _ _ h => h) (Or.inl ⟨by rfl, ?_⟩) (by assumption) ?_; rotate_left; (focus (intro wS hS; (try go_split_ands); go_simp; all_goals (with_reducible rfl))); simp only [List.set_cons_zero, List.set_cons_succ, List.setIfInBounds_toArray]); (refine Hd.takeE (i := 5) (v := ?_) rfl rfl (by kernel_rfl) (by kernel_rfl) (by kernel_rfl) (by kernel_rfl) (fun _ _ _ h => h) (Or.inl ⟨by rfl, ?_⟩) (by assumption) ?_; rotate_left; (focus (intro wS hS; (try go_split_ands); go_simp; all_goals (with_reducible rfl))); simp only [List.set_cons_zero, List.set_cons_succ, List.setIfInBounds_toArray]); (refine Hd.takeE (i := 6) (v := ?_) rfl rfl (by kernel_rfl) (by kernel_rfl) (by kernel_rfl) (by kernel_rfl) (fun _ _ _ h => h) (Or.inl ⟨by rfl, ?_⟩) (by assumption) ?_; rotate_left; (focus (intro wS hS; (try go_split_ands); go_simp; all_goals (with_reducible rfl))); simp only [List.set_cons_zero, List.set_cons_succ, List.setIfInBounds_toArray]); (refine Hd.takeE (i := 7) (v := ?_) rfl rfl (by kernel_rfl) (by kernel_rfl) (by kernel_rfl) (by kernel_rfl) (fun _ _ _ h => h) (Or.inl ⟨by rfl, ?_⟩) (by assumption) ?_; rotate_left; (focus (intro wS hS; (try go_split_ands); go_simp; all_goals (with_reducible rfl))); simp only [List.set_cons_zero, List.set_cons_succ, List.setIfInBounds_toArray]); (refine Hd.takeE (i := 8) (v := ?_) rfl rfl (by kernel_rfl) (by kernel_rfl) (by kernel_rfl) (by kernel_rfl) (fun _ _ _ h => h) (Or.inl ⟨by rfl, ?_⟩) (by assumption) ?_; rotate_left; (focus (intro wS hS; (try go_split_ands); go_simp; all_goals (with_reducible rfl))); simp only [List.set_cons_zero, List.set_cons_succ, List.setIfInBounds_toArray]); (refine Hd.takeE (i := 9) (v := ?_) rfl rfl (by kernel_rfl) (by kernel_rfl) (by kernel_rfl) (by kernel_rfl) (fun _ _ _ h => h) (Or.inl ⟨by rfl, ?_⟩) (by assumption) ?_; rotate_left; (focus (intro wS hS; (try go_split_ands); go_simp; all_goals (with_reducible rfl))); simp only [List.set_cons_zero, List.set_cons_succ, List.setIfInBounds_toArray])
          (refine Hd.endE (by kernel_rfl) ?_ _; refine NoPanic.normal ?_)
          go_wp2_with (go_at_call 28; (with_reducible refine (HOUT.out).mono ?_); rintro e w' ⟨⟨vo2, rfl⟩, hc8, hg8⟩; have HC8 := Aside0.mk hc8; have HGX : Aside0 (W7.grownBy w' (some g)) := ⟨World.grownBy.trans (b := W7.drew) ⟨rfl, rfl, rfl, Nat.le_refl _, fun _ _ _ => rfl⟩ hg8⟩; clear hc8 hg8 HOUT)
          obtain ⟨w8, rfl⟩ : ∃ X : World, X = w' := ⟨_, rfl⟩
          have hd8 : w8.heap[D]? = some (.deferred (some [])) := (HGX.out.block D (Array.getElem?_eq_some_iff.1 HDD7.out).1 (fun e => by injection e with e; have := HDL.out; have := HLO.out; omega)).trans HDD7.out
          have HD8 := Aside0.mk hd8
          have ht8 : CaS.Told w8 T ⟨b, A1, ss.length, c1, w2.heap.size⟩ b ss := HTD7.out.move HGX.out.size (fun q hq hnt => HGX.out.block q hq (fun e => by injection e with e; subst e; exact hnt hTg))
          have HT8 := Aside0.mk ht8
          have HG8 : Aside0 (w.grownBy w8 (some g)) := ⟨World.grownBy.trans HGR7.out HGX.out⟩
          clear hd8 ht8
          refine ⟨by simp, .inl ⟨_, _, rfl, run_takeDeferred HD8.out, ?_⟩⟩
          have hgd := grownBy_putObj' w8 D (.deferred none)
          exact ⟨_, results_tmp rfl _ _ _, rfl, ⟨b, A1, ss.length, c1, w2.heap.size⟩, told_row HT8.out hgd HD8.out, by rw [HLL.out]; exact ca_row HC8.out hgd (fun r e => by injection e with e; subst e; exact ⟨_, HD8.out, rfl⟩), grown_new HG8.out hgd (by have := HDL.out; have := HLO.out; omega)⟩
        · have hcut : cut room L = L := by unfold cut; rw [hlen7, if_neg hov]
          have hdv : decide ((room : Int) < ((rmB ts b).length : Int) + 1) = false := by simp; omega
          have HC8 : Aside0 (Ca W7.drew T g room (cut room L)) := ⟨by rw [hcut]; exact ca_same HCA.out (Nat.le_refl _) (fun _ _ => rfl)⟩
          have HLL := Aside0.mk hL
          clear hL hlen7 hcut
          go_wp2_with fail
          refine wp_region_noPanic ?_
          (refine Hd.startE (S := (fun X => X.cell? ⟨g, 0, none⟩ = some (.int .i64 (room : Int)) ∧ X.cell? ⟨g, 1, none⟩ = some (.slice A7 ((rmB ts b).length + 1) c7))) 1000 (by kernel_rfl) (⟨j0, j1⟩) (fun hHeld => ?_))
          (refine Hd.takeE (i := 0) (v := ?_) rfl rfl (by kernel_rfl) (by kernel_rfl) (by kernel_rfl) (by kernel_rfl) (fun _ _ _ h => h) (Or.inl ⟨by rfl, ?_⟩) (by assumption) ?_; rotate_left; (focus (intro wS hS; (try go_split_ands); go_simp; all_goals (with_reducible rfl))); simp only [List.set_cons_zero, List.set_cons_succ, List.setIfInBounds_toArray]); (refine Hd.takeE (i := 1) (v := ?_) rfl rfl (by kernel_rfl) (by kernel_rfl) (by kernel_rfl) (by kernel_rfl) (fun _ _ _ h => h) (Or.inl ⟨by rfl, ?_⟩) (by assumption) ?_; rotate_left; (focus (intro wS hS; (try go_split_ands); go_simp; all_goals (with_reducible rfl))); simp only [List.set_cons_zero, List.set_cons_succ, List.setIfInBounds_toArray]); (refine Hd.takeE (i := 2) (v := ?_) rfl rfl (by kernel_rfl) (by kernel_rfl) (by kernel_rfl) (by kernel_rfl) (fun _ _ _ h => h) (Or.inl ⟨by rfl, ?_⟩) (by assumption) ?_; rotate_left; (focus (intro wS hS; (try go_split_ands); go_simp; all_goals (with_reducible rfl))); simp only [List.set_cons_zero, List.set_cons_succ, List.setIfInBounds_toArray]); (refine Hd.takeE (i := 3) (v := ?_) rfl rfl (by kernel_rfl) (by kernel_rfl) (by kernel_rfl) (by kernel_rfl) (fun _ _ _ h => h) (Or.inl ⟨by rfl, ?_⟩) (by assumption) ?_; rotate_left; (focus (intro wS hS; (try go_split_ands); go_simp; all_goals (with_reducible rfl))); simp only [List.set_cons_zero, List.set_cons_succ, List.setIfInBounds_toArray]); (refine Hd.takeE (i := 4) (v := ?_) rfl rfl (by kernel_rfl) (by kernel_rfl) (by kernel_rfl) (by kernel_rfl) (fun _ _ _ h => h) (Or.inl ⟨by rfl, ?_⟩) (by assumption) ?_; rotate_left; (focus (intro wS hS; (try go_split_ands); go_simp; all_goals (with_reducible rfl))); simp only [List.set_cons_zero, List.set_cons_succ, List.setIfInBounds_toArray]); (refine Hd.takeE (i := 5) (v := ?_) rfl rfl (by kernel_rfl) (by kernel_rfl) (by kernel_rfl) (by kernel_rfl) (fun _ _ _ h => h) (Or.inl ⟨by rfl, ?_⟩) (by assumption) ?_; rotate_left; (focus (intro wS hS; (try go_split_ands); go_simp; all_goals (with_reducible rfl))); simp only [List.set_cons_zero, List.set_cons_succ, List.setIfInBounds_toArray]); (refine Hd.takeE (i := 6) (v := ?_) rfl rfl (by kernel_rfl) (by kernel_rfl) (by kernel_rfl) (by kernel_rfl) (fun _ _ _ h => h) (Or.inl ⟨by rfl, ?_⟩) (by assumption) ?_; rotate_left; (focus (intro wS hS; (try go_split_ands); go_simp; all_goals (with_reducible rfl))); simp only [List.set_cons_zero, List.set_cons_succ, List.setIfInBounds_toArray]); (refine Hd.takeE (i := 7) (v := ?_) rfl rfl (by kernel_rfl) (by kernel_rfl) (by kernel_rfl) (by kernel_rfl) (fun _ _ _ h => h) (Or.inl ⟨by rfl, ?_⟩) (by assumption) ?_; rotate_left; (focus (intro wS hS; (try go_split_ands); go_simp; all_goals (with_reducible rfl))); simp only [List.set_cons_zero, List.set_cons_succ, List.setIfInBounds_toArray]); (refine Hd.takeE (i := 8) (v := ?_) rfl rfl (by kernel_rfl) (by kernel_rfl) (by kernel_rfl) (by kernel_rfl) (fun _ _ _ h => h) (Or.inl ⟨by rfl, ?_⟩) (by assumption) ?_; rotate_left; (focus (intro wS hS; (try go_split_ands); go_simp; all_goals (with_reducible rfl))); simp only [List.set_cons_zero, List.set_cons_succ, List.setIfInBounds_toArray]); (refine Hd.takeE (i := 9) (v := ?_) rfl rfl (by kernel_rfl) (by kernel_rfl) (by kernel_rfl) (by kernel_rfl) (fun _ _ _ h => h) (Or.inl ⟨by rfl, ?_⟩) (by assumption) ?_; rotate_left; (focus (intro wS hS; (try go_split_ands); go_simp; all_goals (with_reducible rfl))); simp only [List.set_cons_zero, List.set_cons_succ, List.setIfInBounds_toArray])
          (refine Hd.endE (by kernel_rfl) ?_ _; refine NoPanic.normal ?_)
          go_wp2
          have HD8 : Aside0 (W7.drew.heap[D]? = some (.deferred (some []))) := ⟨HDD7.out⟩
          have HT8 : Aside0 (CaS.Told W7.drew T ⟨b, A1, ss.length, c1, w2.heap.size⟩ b ss) := ⟨HTD7.out.move (Nat.le_refl _) (fun _ _ _ => rfl)⟩
          have HG8 : Aside0 (w.grownBy W7.drew (some g)) := ⟨World.grownBy.trans HGR7.out ⟨rfl, rfl, rfl, Nat.le_refl _, fun _ _ _ => rfl⟩⟩
          refine ⟨by simp, .inl ⟨_, _, rfl, run_takeDeferred HD8.out, ?_⟩⟩
          have hgd := grownBy_putObj' W7.drew D (.deferred none)
          exact ⟨_, results_tmp rfl _ _ _, rfl, ⟨b, A1, ss.length, c1, w2.heap.size⟩, told_row HT8.out hgd HD8.out, by rw [HLL.out]; exact ca_row HC8.out hgd (fun r e => by injection e with e; subst e; exact ⟨_, HD8.out, rfl⟩), grown_new HG8.out hgd (by have := HDL.out; have := HLO.out; omega)⟩⟩
      have hTW : ∀ q, T q → q < W.heap.size := fun q hq => Nat.lt_of_lt_of_le (hT q hq) HGW.out.size
      have HTW := Aside0.mk hTW
      have hlt9 := (Array.getElem?_eq_some_iff.1 HDD.out).1
      clear hK1 g0 g1 k0 k1 k2 hTW
      refine wp_region_noPanic ?_
      (refine Hd.startE (S := (fun X => X.cell? ⟨g, 1, none⟩ = some (.slice Ar (rmB ts b).length cr) ∧ X.cell? ⟨w2.heap.size + 1, 0, none⟩ = some (.int .i64 b) ∧ X.cell? ⟨w2.heap.size + 1, 1, none⟩ = some (.slice A1 ss.length c1) ∧ X.cell? ⟨w2.heap.size + 1, 2, none⟩ = some (.map (some w2.heap.size)))) 11 (by kernel_rfl) (HSB.out _ (below_drew1 (Below.refl _ _))) (fun hHeld => ?_))
      (refine Hd.takeE (i := 0) (v := ?_) rfl rfl (by kernel_rfl) (by kernel_rfl) (by kernel_rfl) (by kernel_rfl) (fun _ _ _ h => h) (Or.inl ⟨by rfl, ?_⟩) (by assumption) ?_; rotate_left; (focus (intro wS hS; (try go_split_ands); go_simp; all_goals (with_reducible rfl))); simp only [List.set_cons_zero, List.set_cons_succ, List.setIfInBounds_toArray]); (refine Hd.takeE (i := 1) (v := ?_) rfl rfl (by kernel_rfl) (by kernel_rfl) (by kernel_rfl) (by kernel_rfl) (fun _ _ _ h => h) (Or.inl ⟨by rfl, ?_⟩) (by assumption) ?_; rotate_left; (focus (intro wS hS; (try go_split_ands); go_simp; all_goals (with_reducible rfl))); simp only [List.set_cons_zero, List.set_cons_succ, List.setIfInBounds_toArray]); (refine Hd.takeE (i := 2) (v := ?_) rfl rfl (by kernel_rfl) (by kernel_rfl) (by kernel_rfl) (by kernel_rfl) (fun _ _ _ h => h) (Or.inl ⟨by rfl, ?_⟩) (by assumption) ?_; rotate_left; (focus (intro wS hS; (try go_split_ands); go_simp; all_goals (with_reducible rfl))); simp only [List.set_cons_zero, List.set_cons_succ, List.setIfInBounds_toArray]); (refine Hd.takeE (i := 3) (v := ?_) rfl rfl (by kernel_rfl) (by kernel_rfl) (by kernel_rfl) (by kernel_rfl) (fun _ _ _ h => h) (Or.inl ⟨by rfl, ?_⟩) (by assumption) ?_; rotate_left; (focus (intro wS hS; (try go_split_ands); go_simp; all_goals (with_reducible rfl))); simp only [List.set_cons_zero, List.set_cons_succ, List.setIfInBounds_toArray]); (refine Hd.takeE (i := 4) (v := ?_) rfl rfl (by kernel_rfl) (by kernel_rfl) (by kernel_rfl) (by kernel_rfl) (fun _ _ _ h => h) (Or.inl ⟨by rfl, ?_⟩) (by assumption) ?_; rotate_left; (focus (intro wS hS; (try go_split_ands); go_simp; all_goals (with_reducible rfl))); simp only [List.set_cons_zero, List.set_cons_succ, List.setIfInBounds_toArray]); (refine Hd.takeE (i := 6) (v := ?_) rfl rfl (by kernel_rfl) (by kernel_rfl) (by kernel_rfl) (by kernel_rfl) (fun _ _ _ h => h) (Or.inl ⟨by rfl, ?_⟩) (by assumption) ?_; rotate_left; (focus (intro wS hS; (try go_split_ands); go_simp; all_goals (with_reducible rfl))); simp only [List.set_cons_zero, List.set_cons_succ, List.setIfInBounds_toArray])
      (refine Hd.readyE (rs := [5, 7]) (by kernel_rfl) (by simp) ?_; refine Hd.AllE.cons (i := 5) rfl (fun K hK => ?_) (Hd.AllE.cons (i := 7) rfl (fun K hK => ?_) (Hd.AllE.nil)))
      · ((go_simp; refine (HCLN.out _ (below_drew1 (Below.refl _ _))).mono ?_; rintro e w5 ⟨v5, rfl, ho5, hb5⟩); refine hK.out _ _ (HSB.out _ (below_then (below_drew1 (Below.refl _ _)) (Nat.le_refl _) hb5)) (fun hHeld => ?_); clear hK K; (try simp only [Act.put, List.setIfInBounds_toArray, List.set_cons_zero, List.set_cons_succ]))
        have hb5w := below_then (below_drew1 (Below.refl W.heap.size W)) (Nat.le_refl _) hb5
        (refine Hd.readyE (rs := [7]) (by kernel_rfl) (by simp) ?_; refine Hd.AllE.cons (i := 7) rfl (fun K hK => ?_) Hd.AllE.nil; go_simp; refine hK.out _ _ (HSB.out _ (below_alloc hb5w _)) (fun hHeld => ?_); clear hK K; (try simp only [Act.put, List.setIfInBounds_toArray, List.set_cons_zero, List.set_cons_succ]))
        (refine Hd.readyE (rs := [8]) (by kernel_rfl) (by simp) ?_; refine Hd.AllE.cons (i := 8) rfl (fun K hK => ?_) Hd.AllE.nil; (refine Hd.step_of_list rfl ?_; refine app1 dKn flat_kn W.heap.size (w0 := W) (W := w5) (.tmp 52) (.tmp 54) 57 68 (.agg #[.int .i64 0, .slice none 0 0, .map none]) 40 rfl rfl Try.underlying57 infoKn rfl (by decide) (by decide) v5 (rmB ts b) ⟨b, A1, ss.length, c1, w2.heap.size⟩ (Kn.cells ⟨b, A1, ss.length, c1, w2.heap.size⟩) (by rfl) (by rfl) ⟨trivial, rfl⟩ ho5 hb5w hb5.size (by omega) ?_; intro v6 w6 ho6 hb6 hg6 hat6; refine wpList_nil ?_); refine hK.out _ _ (HSB.out _ hb6) (fun hHeld => ?_); clear hK K; (try simp only [Act.put, List.setIfInBounds_toArray, List.set_cons_zero, List.set_cons_succ]))
        obtain ⟨A6, c6, rfl, hca6, hgr6, ⟨u6, hc6⟩, hf6⟩ := row_in HCW.out hb6 ho6 (by simp) HTW.out
        (refine Hd.readyE (rs := [9]) (by kernel_rfl) (by simp) ?_; refine Hd.AllE.cons (i := 9) rfl (fun K hK => ?_) Hd.AllE.nil; go_simp; refine hK.out _ _ (HSB.out _ hb6) (fun hHeld => ?_); clear hK K; (try simp only [Act.put, List.setIfInBounds_toArray, List.set_cons_zero, List.set_cons_succ]))
        (refine Hd.readyE (rs := [10]) (by kernel_rfl) (by simp) ?_; refine Hd.AllE.cons (i := 10) rfl (fun K hK => ?_) Hd.AllE.nil; go_simp; refine hK.out _ _ (HSB.out _ hb6) (fun hHeld => ?_); clear hK K; (try simp only [Act.put, List.setIfInBounds_toArray, List.set_cons_zero, List.set_cons_succ]))
        (refine Hd.readyE (rs := [11]) (by kernel_rfl) (by simp) ?_; refine Hd.AllE.last (i := 11) rfl (fun K hK => ?_); go_simp; refine hK.out _ _ ?_; clear hK K; (try simp only [Act.put, List.setIfInBounds_toArray, List.set_cons_zero, List.set_cons_succ]))
        (refine Hd.endE (by kernel_rfl) ?_ _; refine NoPanic.normal ?_)
        have hdd6 : (w6.setCell ⟨g, 1, none⟩ (.slice A6 ((rmB ts b).length + 1) c6)).heap[D]? = some (.deferred (some [])) := by
          rw [Below.heap_setCell _ _ _ _ (by show D ≠ g; have := HDL.out; have := HLO.out; omega)]
          exact (hb6.block D hlt9).trans HDD.out
        have hlL : (rmB ts b ++ [(⟨b, A1, ss.length, c1, w2.heap.size⟩ : Kn)]).length = (rmB ts b).length + 1 := by simp
        rw [hlL] at hca6 hgr6
        exact REST.out _ _ _ _ _ _ _ _ _ _ _ _ _ hca6 (HTD.out.move hgr6.size (fun q hq hnt => hgr6.block q hq (fun e => by injection e with e; subst e; exact hnt hTg))) (World.grownBy.trans HGW.out hgr6) hdd6
      · (go_simp; refine hK.out _ _ (HSB.out _ (below_alloc (below_drew1 (Below.refl _ _)) _)) (fun hHeld => ?_); clear hK K; (try simp only [Act.put, List.setIfInBounds_toArray, List.set_cons_zero, List.set_cons_succ]))
        have hbx := below_alloc (below_drew1 (Below.refl W.heap.size W)) (.cells #[.int .i64 b, .slice A1 ss.length c1, .map (some w2.heap.size)] 68)
        have hnw : (W.drew.alloc (.cells #[.int .i64 b, .slice A1 ss.length c1, .map (some w2.heap.size)] 68)).heap[W.heap.size]? = some (.cells (Kn.cells ⟨b, A1, ss.length, c1, w2.heap.size⟩).toArray 68 (0, 0)) := heap_alloc_new W.drew _
        (refine Hd.readyE (rs := [5]) (by kernel_rfl) (by simp) ?_; refine Hd.AllE.cons (i := 5) rfl (fun K hK => ?_) Hd.AllE.nil; (go_simp; refine (HCLN.out _ (below_alloc (below_drew1 (Below.refl _ _)) _)).mono ?_; rintro e w5 ⟨v5, rfl, ho5, hb5⟩); refine hK.out _ _ (HSB.out _ (below_then hbx hbx.size hb5)) (fun hHeld => ?_); clear hK K; (try simp only [Act.put, List.setIfInBounds_toArray, List.set_cons_zero, List.set_cons_succ]))
        have hb5w := below_then hbx hbx.size hb5
        have hbox := box_C ((hb5.block W.heap.size (by simp)).trans hnw)
        have ho5l := Kd.R_lower ho5 hbx.size
        (refine Hd.readyE (rs := [8]) (by kernel_rfl) (by simp) ?_; refine Hd.AllE.cons (i := 8) rfl (fun K hK => ?_) Hd.AllE.nil; (refine Hd.step_of_list rfl ?_; refine app dKn flat_kn W.heap.size (w0 := W) (W := w5) (.tmp 52) (.tmp 54) 57 68 (.agg #[.int .i64 0, .slice none 0 0, .map none]) 40 rfl rfl Try.underlying57 infoKn rfl (by decide) (by decide) v5 (rmB ts b) [⟨b, A1, ss.length, c1, w2.heap.size⟩] (some ⟨W.heap.size, 0, none⟩) 1 1 (by rfl) (by rfl) ho5l hbox hb5w hb5w.size (by omega) ?_; intro v6 w6 ho6 hb6 hg6 hat6; refine wpList_nil ?_); refine hK.out _ _ (HSB.out _ hb6) (fun hHeld => ?_); clear hK K; (try simp only [Act.put, List.setIfInBounds_toArray, List.set_cons_zero, List.set_cons_succ]))
        obtain ⟨A6, c6, rfl, hca6, hgr6, ⟨u6, hc6⟩, hf6⟩ := row_in HCW.out hb6 ho6 (by simp) HTW.out
        (refine Hd.readyE (rs := [9]) (by kernel_rfl) (by simp) ?_; refine Hd.AllE.cons (i := 9) rfl (fun K hK => ?_) Hd.AllE.nil; go_simp; refine hK.out _ _ (HSB.out _ hb6) (fun hHeld => ?_); clear hK K; (try simp only [Act.put, List.setIfInBounds_toArray, List.set_cons_zero, List.set_cons_succ]))
        (refine Hd.readyE (rs := [10]) (by kernel_rfl) (by simp) ?_; refine Hd.AllE.cons (i := 10) rfl (fun K hK => ?_) Hd.AllE.nil; go_simp; refine hK.out _ _ (HSB.out _ hb6) (fun hHeld => ?_); clear hK K; (try simp only [Act.put, List.setIfInBounds_toArray, List.set_cons_zero, List.set_cons_succ]))
        (refine Hd.readyE (rs := [11]) (by kernel_rfl) (by simp) ?_; refine Hd.AllE.last (i := 11) rfl (fun K hK => ?_); go_simp; refine hK.out _ _ ?_; clear hK K; (try simp only [Act.put, List.setIfInBounds_toArray, List.set_cons_zero, List.set_cons_succ]))
        (refine Hd.endE (by kernel_rfl) ?_ _; refine NoPanic.normal ?_)
        have hdd6 : (w6.setCell ⟨g, 1, none⟩ (.slice A6 ((rmB ts b).length + 1) c6)).heap[D]? = some (.deferred (some [])) := by
          rw [Below.heap_setCell _ _ _ _ (by show D ≠ g; have := HDL.out; have := HLO.out; omega)]
          exact (hb6.block D hlt9).trans HDD.out
        have hlL : (rmB ts b ++ [(⟨b, A1, ss.length, c1, w2.heap.size⟩ : Kn)]).length = (rmB ts b).length + 1 := by simp
        rw [hlL] at hca6 hgr6
        exact REST.out _ _ _ _ _ _ _ _ _ _ _ _ _ hca6 (HTD.out.move hgr6.size (fun q hq hnt => hgr6.block q hq (fun e => by injection e with e; subst e; exact hnt hTg))) (World.grownBy.trans HGW.out hgr6) hdd6
    --END2
end Go.Proofs.Ytocmljijdecilaa.CaQ
