/- A reading of bytes, its next ref, the closure of Take, and Take; condition: the bytes read as bytes. -/
import Derived.Test.YtkobolgbmfhpgaaSgO
import Derived.Test.YtkobolgbmfhpgaaOTN
import Derived.Defers
import Derived.Recover
import Derived.Laws.Cover3
import Derived.Maps.AppendAt
namespace Go.Proofs.Ytkobolgbmfhpgaa.SgTk
open Go Go.RowKit Go.Proofs.YtkobolgbmfhpgaaW.PrintWords Go.Proofs.Ytkobolgbmfhpgaa.K Go.Proofs.Ytkobolgbmfhpgaa.OctS Go.Proofs.Ytkobolgbmfhpgaa.OctP Go.Proofs.Ytkobolgbmfhpgaa.Oct Go.Proofs.Ytkobolgbmfhpgaa.ReR Go.Proofs.Ytkobolgbmfhpgaa.ReT Go.Proofs.Ytkobolgbmfhpgaa.ReK
set_option linter.unusedVariables false
set_option linter.unusedSimpArgs false
/-- What a fault panics with. -/
def fv (e : Int) : Value := .iface 62 (.agg #[.int .i64 e])
def PE (e : Int) : List PanicEntry := [{ v := fv e, recovered := false }]
theorem must_ok (w : World) : Calls Try.prog 42 #[.int .i64 0] w fun e w' => e = .returned (.tuple #[]) ∧ w = w' := by
  go_enter Try.func42, Try.ntmps42
  go_wp2
  go_end0
  exact ⟨rfl, rfl⟩
theorem must_no (x : Int) (hx : x ≠ 0) (w : World) : Calls Try.prog 42 #[.int .i64 x] w fun e w' => e = .panicked (PE x) ∧ w = w' := by
  have h1 : (x != 0) = true := by simpa using hx
  go_enter Try.func42, Try.ntmps42
  go_wp2
  exact ⟨rfl, rfl, rfl⟩
/-- A reading: its block. -/
structure Rd (w : World) (g : Nat) (A : Option Addr) (n c : Nat) (pl : Int) : Prop where
  blk : w.heap[g]? = some (.cells #[.slice A n c, .int .i64 pl] 66 (0, 0))
theorem Rd.below {w w1 : World} {g n c : Nat} {A : Option Addr} {pl : Int} (h : Rd w g A n c pl) (hb : Below w.heap.size w w1) : Rd w1 g A n c pl := ⟨(hb.block g (Array.getElem?_eq_some_iff.1 h.blk).1).trans h.blk⟩
theorem Rd.set {w : World} {g n c : Nat} {A : Option Addr} {pl : Int} (h : Rd w g A n c pl) (x : Int) : Rd (w.setCell ⟨g, 1, none⟩ (.int .i64 x)) g A n c x := ⟨obj_set h.blk 1 _⟩
theorem Rd.kept {w w1 : World} {g n c : Nat} {A : Option Addr} {pl : Int} {row : Option Nat} (h : Rd w g A n c pl) (hg : w.grownBy w1 row) (hne : some g ≠ row) : Rd w1 g A n c pl := ⟨(hg.block g (Array.getElem?_eq_some_iff.1 h.blk).1 hne).trans h.blk⟩
set_option maxHeartbeats 1000000 in
theorem num_got {w : World} {g c : Nat} {A : Option Addr} {b : List Int} {pl : Int} (h : Rd w g A b.length c pl) (hC : (Kd.int .u8).C w A b.length b) (hc : b.length ≤ c) (hb : Bytes b) (hm : b.length ≤ 140737488355328) (h0 : (takeNum b pl).2.2 = 0) :
    Calls Try.prog 41 #[.pointer (some ⟨g, 0, none⟩)] w fun e w' => e = .returned (.int .i64 (takeNum b pl).1) ∧ Rd w' g A b.length c (takeNum b pl).2.1 ∧ w.grownBy w' (some g) := by
  have HI := Aside0.mk h
  have q0 := obj_cell h.blk 0 rfl
  have q1 := obj_cell h.blk 1 rfl
  have q2 := obj_free h.blk 1
  have hcall := fun (n : Nat) => takeNum_calls A c b pl (w.drewN n) (Kd.C_below hC (pw_below_drewN (Below.refl _ _) n)) hc hb hm
  clear h hC hc hb
  obtain ⟨⟨v, nx, e⟩, ht⟩ : ∃ t, t = takeNum b pl := ⟨_, rfl⟩
  rw [← ht] at hcall h0 ⊢
  clear ht
  dsimp only at hcall h0 ⊢
  subst h0
  have HC := Aside0.mk hcall
  clear hcall
  go_enter Try.func41, Try.ntmps41
  go_wp2
  go_quiet ((go_at_call 50; exact Calls.quiet_of_same ((HC.out _).mono fun _ _ h => ⟨h.1, h.2.symm⟩)))
  go_wp2_with (go_at_call 42; (with_reducible refine (must_ok _).mono ?_); rintro e w' ⟨rfl, rfl⟩)
  go_ret
  exact ⟨rfl, (HI.out.below (pw_below_drewN (Below.refl _ _) _)).set nx, drewN_grown _ _ _ _ _⟩
set_option maxHeartbeats 1000000 in
theorem num_not {w : World} {g c : Nat} {A : Option Addr} {b : List Int} {pl : Int} (h : Rd w g A b.length c pl) (hC : (Kd.int .u8).C w A b.length b) (hc : b.length ≤ c) (hb : Bytes b) (hm : b.length ≤ 140737488355328) (h0 : (takeNum b pl).2.2 ≠ 0) :
    Calls Try.prog 41 #[.pointer (some ⟨g, 0, none⟩)] w fun e w' => e = .panicked (PE (takeNum b pl).2.2) ∧ Below w.heap.size w w' := by
  have q0 := obj_cell h.blk 0 rfl
  have q1 := obj_cell h.blk 1 rfl
  have q2 := obj_free h.blk 1
  have hcall := fun (n : Nat) => takeNum_calls A c b pl (w.drewN n) (Kd.C_below hC (pw_below_drewN (Below.refl _ _) n)) hc hb hm
  clear h hC hc hb
  obtain ⟨⟨v, nx, e⟩, ht⟩ : ∃ t, t = takeNum b pl := ⟨_, rfl⟩
  rw [← ht] at hcall h0 ⊢
  clear ht
  dsimp only at hcall h0 ⊢
  have HC := Aside0.mk hcall
  have H0 := Aside0.mk h0
  clear hcall h0
  go_enter Try.func41, Try.ntmps41
  go_wp2
  go_quiet ((go_at_call 50; exact Calls.quiet_of_same ((HC.out _).mono fun _ _ h => ⟨h.1, h.2.symm⟩)))
  go_wp2_with (go_at_call 42; (with_reducible refine (must_no e H0.out _).mono ?_); rintro e w' ⟨rfl, rfl⟩)
  exact ⟨rfl, rfl, pw_below_drewN (Below.refl _ _) _⟩
theorem Below.grown_none {w w1 : World} (h : Below w.heap.size w w1) (g : Nat) : w.grownBy w1 (some g) := ⟨h.os, h.tape, h.output, h.size, fun k hk _ => h.block k hk⟩
/-- Bytes are read as ever behind a write into a block that holds no bytes. -/
theorem bytes_kept {w w1 : World} {g n : Nat} {A : Option Addr} {xs : List Int} {cs : Array Value} {t : TypeId} {fr : Nat × Nat} (h : (Kd.int .u8).C w A n xs) (hb : w.heap[g]? = some (.cells cs t fr)) (hcs : ∀ v ∈ cs.toList, ∀ x, v ≠ .int .u8 x) (hg : w.grownBy w1 (some g)) : (Kd.int .u8).C w1 A n xs := by
  refine ⟨h.1, h.2.1, fun h0 => ?_⟩
  obtain ⟨ad, had, hc⟩ := h.2.2 h0
  refine ⟨ad, had, fun j x hj => ?_⟩
  obtain ⟨c, e1, e2, e3⟩ := hc j x hj
  obtain rfl : c = [.int .u8 x] := e2
  refine ⟨_, e1, rfl, fun i u hu => ?_⟩
  have h3 := e3 i u hu
  rw [← h3]
  have hl : (ad.add (j * 1 + i)).block < w.heap.size := World.block_lt_of_cell? _ _ h3
  show World.cell? w1 (ad.add (j * 1 + i)) = World.cell? w (ad.add (j * 1 + i))
  have hne : (ad.add (j * 1 + i)).block ≠ g := fun e => by
    have h4 : w.cell? (ad.add (j * 1 + i)) = some u := h3
    unfold World.cell? at h4
    rw [e, hb] at h4
    simp only at h4
    split at h4
    · cases h4
    · have hm := Array.mem_of_getElem? h4
      have hu' : u = .int .u8 x := by
        cases i with
        | zero => simpa using hu.symm
        | succ i => simp at hu
      exact hcs u (by simpa using hm) x hu'
  unfold World.cell?
  rw [hg.block _ hl (fun e => by injection e with e; exact hne e)]
theorem Rd.bytes {w w1 : World} {g n c m : Nat} {A B : Option Addr} {pl : Int} {xs : List Int} (h : Rd w g B n c pl) (hC : (Kd.int .u8).C w A m xs) (hg : w.grownBy w1 (some g)) : (Kd.int .u8).C w1 A m xs :=
  bytes_kept hC h.blk (fun v hv x e => by subst e; simp at hv) hg
theorem num_any {w : World} {g c : Nat} {A : Option Addr} {b : List Int} {pl : Int} (h : Rd w g A b.length c pl) (hC : (Kd.int .u8).C w A b.length b) (hc : b.length ≤ c) (hb : Bytes b) (hm : b.length ≤ 140737488355328) :
    Calls Try.prog 41 #[.pointer (some ⟨g, 0, none⟩)] w fun e w' => w.grownBy w' (some g) ∧
      (((takeNum b pl).2.2 = 0 ∧ e = .returned (.int .i64 (takeNum b pl).1) ∧ Rd w' g A b.length c (takeNum b pl).2.1 ∧ (Kd.int .u8).C w' A b.length b) ∨ ((takeNum b pl).2.2 ≠ 0 ∧ e = .panicked (PE (takeNum b pl).2.2))) := by
  by_cases h0 : (takeNum b pl).2.2 = 0
  · exact (num_got h hC hc hb hm h0).mono fun e w' ⟨h1, h2, h3⟩ => ⟨h3, .inl ⟨h0, h1, h2, h.bytes hC h3⟩⟩
  · exact (num_not h hC hc hb hm h0).mono fun e w' ⟨h1, h2⟩ => ⟨Below.grown_none h2 g, .inr ⟨h0, h1⟩⟩
end Go.Proofs.Ytkobolgbmfhpgaa.SgTk
namespace Go.Proofs.Ytkobolgbmfhpgaa.SgTr
open Go Go.RowKit Go.Proofs.YtkobolgbmfhpgaaW.PrintWords Go.Proofs.Ytkobolgbmfhpgaa.K Go.Proofs.Ytkobolgbmfhpgaa.OctS Go.Proofs.Ytkobolgbmfhpgaa.OctP Go.Proofs.Ytkobolgbmfhpgaa.Oct Go.Proofs.Ytkobolgbmfhpgaa.ReR Go.Proofs.Ytkobolgbmfhpgaa.ReT Go.Proofs.Ytkobolgbmfhpgaa.ReK Go.Proofs.Ytkobolgbmfhpgaa.SgD Go.Proofs.Ytkobolgbmfhpgaa.SgTk Go.Proofs.Ytkobolgbmfhpgaa.SgS
set_option linter.unusedVariables false
set_option linter.unusedSimpArgs false
def t1 (b : List Int) (pl : Int) : Int × Int × Int := takeNum b (pl + 32)
def t2 (b : List Int) (pl : Int) : Int × Int × Int := takeNum b (t1 b pl).2.1
def t3 (b : List Int) (pl : Int) : Int × Int × Int := takeNum b (t2 b pl).2.1
def refAt (b : List Int) (pl : Int) : Ref := ⟨(b.drop pl.toNat).take 32, (t1 b pl).1, (t2 b pl).1, (t3 b pl).1⟩
/-- The error, the ref, the place behind. -/
def takeR (b : List Int) (pl : Int) : Int × Ref × Int :=
  if (b.length : Int) - pl < 32 then (3, default, 0)
  else if (t1 b pl).2.2 ≠ 0 then ((t1 b pl).2.2, default, 0)
  else if (t2 b pl).2.2 ≠ 0 then ((t2 b pl).2.2, default, 0)
  else if (t3 b pl).2.2 ≠ 0 then ((t3 b pl).2.2, default, 0)
  else if okRef (refAt b pl) then (0, refAt b pl, (t3 b pl).2.1) else (2, default, 0)
theorem results_cell1 {P : Program} {fn : Func} {p : Tmp} {t : TypeId} (h : fn.results = #[.cell p t]) (tmps : Array Value) (w : World) (ad : Addr) (v : Value) (e : tmps.getD p undef = .pointer (some ad)) (r : (loadVar t ad).run P w = .ok v w) :
    (results fn tmps).run P w = .ok v w := by
  have e' : tmps[p]?.getD undef = .pointer (some ad) := by simpa using e
  simp [results, h, e', asAddr, r]
theorem row_range {w : World} {ad : Addr} {n : Nat} {l : List Int} (h : (Kd.int .u8).C w (some ad) n l) : Hd.RangeA w ad (nums .u8 l) := fun j v hj => by
  have hl := h.1
  have hjl : j < l.length := by have := (List.getElem?_eq_some_iff.1 hj).1; simpa [nums] using this
  obtain ⟨ad', e, hc⟩ := h.2.2 (by omega)
  injection e with e
  subst e
  obtain ⟨cs, e1, e2, e3⟩ := hc j _ (List.getElem?_eq_getElem hjl)
  obtain rfl : cs = [.int .u8 l[j]] := e2
  have x1 := e3 0 _ rfl
  have hv : v = .int .u8 l[j] := by
    have := (List.getElem?_eq_some_iff.1 hj).2
    simp [nums] at this
    exact this.symm
  rw [hv, ← x1]
  congr 2
  show j = j * 1 + 0
  omega
theorem sum32 {l : List Int} (h : l.length = 32) : ∃ a0 a1 a2 a3 a4 a5 a6 a7 a8 a9 b0 b1 b2 b3 b4 b5 b6 b7 b8 b9 c0 c1 c2 c3 c4 c5 c6 c7 c8 c9 d0 d1, l = [a0, a1, a2, a3, a4, a5, a6, a7, a8, a9, b0, b1, b2, b3, b4, b5, b6, b7, b8, b9, c0, c1, c2, c3, c4, c5, c6, c7, c8, c9, d0, d1] :=
  match l, h with
  | [a0, a1, a2, a3, a4, a5, a6, a7, a8, a9, b0, b1, b2, b3, b4, b5, b6, b7, b8, b9, c0, c1, c2, c3, c4, c5, c6, c7, c8, c9, d0, d1], _ => ⟨a0, a1, a2, a3, a4, a5, a6, a7, a8, a9, b0, b1, b2, b3, b4, b5, b6, b7, b8, b9, c0, c1, c2, c3, c4, c5, c6, c7, c8, c9, d0, d1, rfl⟩
theorem built_ref {s : List Int} (h : s.length = 32) (W : World) : (Instr.build 34 #[(0, .agg (nums .u8 s).toArray)]).run Try.prog W = .ok (.agg (Ref.mk s 0 0 0).cells.toArray) W := by
  obtain ⟨a0, a1, a2, a3, a4, a5, a6, a7, a8, a9, b0, b1, b2, b3, b4, b5, b6, b7, b8, b9, c0, c1, c2, c3, c4, c5, c6, c7, c8, c9, d0, d1, rfl⟩ := sum32 h
  exact run_build W _ _ _ (by kernel_rfl)
theorem takeR_s {b : List Int} {pl : Int} (h : (b.length : Int) - pl < 32) : takeR b pl = (3, default, 0) := by unfold takeR; rw [if_pos h]
theorem takeR_1 {b : List Int} {pl : Int} (h : ¬ (b.length : Int) - pl < 32) (h1 : (t1 b pl).2.2 ≠ 0) : takeR b pl = ((t1 b pl).2.2, default, 0) := by unfold takeR; rw [if_neg h, if_pos h1]
theorem takeR_2 {b : List Int} {pl : Int} (h : ¬ (b.length : Int) - pl < 32) (h1 : (t1 b pl).2.2 = 0) (h2 : (t2 b pl).2.2 ≠ 0) : takeR b pl = ((t2 b pl).2.2, default, 0) := by unfold takeR; rw [if_neg h, if_neg (by simpa using h1), if_pos h2]
theorem takeR_3 {b : List Int} {pl : Int} (h : ¬ (b.length : Int) - pl < 32) (h1 : (t1 b pl).2.2 = 0) (h2 : (t2 b pl).2.2 = 0) (h3 : (t3 b pl).2.2 ≠ 0) : takeR b pl = ((t3 b pl).2.2, default, 0) := by unfold takeR; rw [if_neg h, if_neg (by simpa using h1), if_neg (by simpa using h2), if_pos h3]
theorem takeR_a {b : List Int} {pl : Int} (h : ¬ (b.length : Int) - pl < 32) (h1 : (t1 b pl).2.2 = 0) (h2 : (t2 b pl).2.2 = 0) (h3 : (t3 b pl).2.2 = 0) (ho : ¬ okRef (refAt b pl)) : takeR b pl = (2, default, 0) := by unfold takeR; rw [if_neg h, if_neg (by simpa using h1), if_neg (by simpa using h2), if_neg (by simpa using h3), if_neg ho]
theorem takeR_o {b : List Int} {pl : Int} (h : ¬ (b.length : Int) - pl < 32) (h1 : (t1 b pl).2.2 = 0) (h2 : (t2 b pl).2.2 = 0) (h3 : (t3 b pl).2.2 = 0) (ho : okRef (refAt b pl)) : takeR b pl = (0, refAt b pl, (t3 b pl).2.1) := by unfold takeR; rw [if_neg h, if_neg (by simpa using h1), if_neg (by simpa using h2), if_neg (by simpa using h3), if_pos ho]
theorem grown_set_new {w w1 : World} {row : Option Nat} (h : w.grownBy w1 row) {p : Addr} (hp : w.heap.size ≤ p.block) (u : Value) : w.grownBy (w1.setCell p u) row := ⟨h.os, h.tape, h.output, by simpa [World.setCell] using h.size, fun k hk hne => (Below.heap_setCell w1 p u k (by omega)).trans (h.block k hk hne)⟩
theorem grown_sets_new {w w1 : World} {row : Option Nat} (h : w.grownBy w1 row) {b o : Nat} (hp : w.heap.size ≤ b) (vs : List Value) : w.grownBy (w1.setCells b o vs) row := by
  obtain ⟨q1, q2, q3, q4⟩ := setCells_same b vs o w1
  exact ⟨q1.trans h.os, q2.trans h.tape, q3.trans h.output, by rw [q4]; exact h.size, fun k hk hne => (setCells_far vs o k (by omega)).trans (h.block k hk hne)⟩
theorem Ref.set3 {s : List Int} (h : s.length = 32) (a b c : Int) : (((Ref.mk s 0 0 0).cells.toArray.setIfInBounds 32 (.int .i64 a)).setIfInBounds 33 (.int .i64 b)).setIfInBounds 34 (.int .i64 c) = (Ref.mk s a b c).cells.toArray := by
  obtain ⟨a0, a1, a2, a3, a4, a5, a6, a7, a8, a9, b0, b1, b2, b3, b4, b5, b6, b7, b8, b9, c0, c1, c2, c3, c4, c5, c6, c7, c8, c9, d0, d1, rfl⟩ := sum32 h
  rfl
theorem wf_i64 {n : Int} (h1 : -9223372036854775808 ≤ n) (h2 : n ≤ 9223372036854775807) : (Lit.int .i64 n).wf = true := by
  show (decide (IntKind.i64.min ≤ n) && decide (n ≤ IntKind.i64.max)) = true
  rw [show IntKind.i64.min = -9223372036854775808 by decide, show IntKind.i64.max = 9223372036854775807 by decide]
  simp [h1, h2]
theorem wf_u8 {n : Int} (h : 0 ≤ n ∧ n ≤ 255) : (Lit.int .u8 n).wf = true := by
  show (decide (IntKind.u8.min ≤ n) && decide (n ≤ IntKind.u8.max)) = true
  rw [show IntKind.u8.min = 0 by decide, show IntKind.u8.max = 255 by decide]
  simp [h.1, h.2]
theorem takeNum_wf {l : List Int} {pl : Int} (hb : Bytes l) (h : (takeNum l pl).2.2 = 0) : (Lit.int .i64 (takeNum l pl).1).wf = true := by
  have := takeNum_ok l pl hb h
  exact wf_i64 (by omega) (by omega)
set_option maxHeartbeats 8000000 in
set_option maxRecDepth 100000 in
theorem ref_calls {w : World} {g c : Nat} {A : Option Addr} {b : List Int} {pl : Nat} (h : Rd w g A b.length c pl) (hC : (Kd.int .u8).C w A b.length b) (hc : b.length ≤ c) (hb : Bytes b) (hm : b.length ≤ 140737488355328) (hp : pl ≤ b.length) :
    Calls Try.prog 43 #[.pointer (some ⟨g, 0, none⟩)] w fun e w' => w.grownBy w' (some g) ∧
      (((takeR b pl).1 ≠ 0 ∧ e = .panicked (PE (takeR b pl).1)) ∨ ((takeR b pl).1 = 0 ∧ e = .returned (.agg (takeR b pl).2.1.cells.toArray) ∧ Rd w' g A b.length c (takeR b pl).2.2)) := by
  have HI := Aside0.mk h
  have HC := Aside0.mk hC
  have hgl : g < w.heap.size := (Array.getElem?_eq_some_iff.1 h.blk).1
  have HU := Aside0.mk Try.underlying34
  have HUS := Aside0.mk Try.underlying31
  have HQ := Aside0.mk (fun (W : World) (hW : Below w.heap.size w W) => (⟨obj_cell (h.below hW).blk 0 rfl, obj_cell (h.below hW).blk 1 rfl⟩ : W.cell? ⟨g, 0, none⟩ = some (.slice A b.length c) ∧ W.cell? ⟨g, 1, none⟩ = some (.int .i64 (pl : Int))))
  obtain ⟨Z, hz, hzv⟩ := zeroRef
  have HZ := Aside0.mk hz
  have HZV := Aside0.mk hzv
  have hal : Below w.heap.size w (w.alloc (.cells Z 34)) := below_alloc (Below.refl _ _) _
  have HAL := Aside0.mk hal
  obtain ⟨q0, q1⟩ := HQ.out _ hal
  clear hz hzv h hC hal
  have hw1 : IntKind.i64.wrap ((b.length : Int) - (pl : Int)) = (b.length : Int) - (pl : Int) := IntWalk.i64_in _ (by omega)
  by_cases hs : (b.length : Int) - pl < 32
  · have hT : takeR b pl = (3, default, 0) := by unfold takeR; rw [if_pos hs]
    rw [hT]
    clear hT
    have d1 : decide ((b.length : Int) - pl < 32) = true := decide_eq_true hs
    go_enter Try.func43, Try.ntmps43
    go_wp2_with ((with_reducible refine gate_ (.alloc 34) rfl ?_); refine Hd.step_run rfl (Hd.exec_alloc _ rfl _ (HZV.out _)) ?_)
    go_quiet (fail)
    go_wp2_with (go_at_call 42; (with_reducible refine (must_no 3 (by decide) _).mono ?_); rintro e w' ⟨rfl, rfl⟩)
    exact ⟨rfl, grown_of_below (pw_below_drewN HAL.out _) _, .inl ⟨by decide, rfl⟩⟩
  · have d1 : decide ((b.length : Int) - pl < 32) = false := decide_eq_false hs
    go_enter Try.func43, Try.ntmps43
    go_wp2_with ((with_reducible refine gate_ (.alloc 34) rfl ?_); refine Hd.step_run rfl (Hd.exec_alloc _ rfl _ (HZV.out _)) ?_)
    go_quiet (fail)
    go_wp2_with fail
    obtain ⟨W3, hW3⟩ : ∃ W3, W3 = (w.alloc (.cells Z 34)).drewN nq := ⟨_, rfl⟩
    rw [← hW3]
    have hb3 : Below w.heap.size w W3 := by rw [hW3]; exact pw_below_drewN HAL.out _
    have hz3 : W3.heap.size = w.heap.size + 1 := by rw [hW3]; simp
    have hbx : W3.heap[w.heap.size]? = some (.cells Z 34 (0, 0)) := by rw [hW3]; exact heap_alloc_new w _
    have HB3 := Aside0.mk hb3
    have HBX := Aside0.mk hbx
    clear hb3 hbx hW3 q0 q1
    obtain ⟨hi, hhi⟩ : ∃ hi, hi = pl + 32 := ⟨_, rfl⟩
    have hw2 : IntKind.i64.wrap ((pl : Int) + 32) = (hi : Int) := by rw [IntWalk.i64_in _ (by omega)]; omega
    obtain ⟨A2, hcut, hCC⟩ := cutLH (Kd.int .u8) 42 5 Try.underlying42 infoU8 A b.length c pl hi (by omega) (by omega) hc
    have HCC := Aside0.mk (fun W (hW : Below w.heap.size w W) => hCC W b (Kd.C_below HC.out hW))
    clear hCC
    obtain ⟨sl, hsl⟩ : ∃ sl, sl = (b.take hi).drop pl := ⟨_, rfl⟩
    rw [← hsl] at HCC
    rw [show hi - pl = 32 by omega] at hcut HCC
    have HHI := Aside0.mk hhi
    clear hhi
    have HSL := Aside0.mk hsl
    have hsl32 : sl.length = 32 := (HCC.out w (Below.refl _ _)).1
    obtain ⟨ad2, rfl⟩ : ∃ ad, A2 = some ad := by
      obtain ⟨ad, e, _⟩ := (HCC.out w (Below.refl _ _)).2.2 (by omega)
      exact ⟨ad, e⟩
    have hat : ∀ w, (Instr.arrayAt 31 (.slice (some ad2) 32 (c - pl))).run Try.prog w = .ok (.pointer (some ad2)) w := fun w => run_arrayAt w 31 _ 32 _ 32 _ Try.underlying31 (by omega)
    obtain ⟨C, hC0⟩ : ∃ C, C = (Ref.mk sl 0 0 0).cells := ⟨_, rfl⟩
    have hbu : Aside0 (∀ w, (Instr.build 34 #[(0, .agg (nums .u8 sl).toArray)]).run Try.prog w = .ok (.agg C.toArray) w) := ⟨fun w => by rw [hC0]; exact built_ref hsl32 w⟩
    have HC0 := Aside0.mk hC0
    clear hC0 hsl
    have HIS : Aside0 ((Try.prog.info? 31).map (·.size) = some (nums .u8 sl).length) := ⟨info32.trans (by simp [nums, hsl32])⟩
    (refine Hd.startE (S := (fun X => Below w.heap.size w X ∧ X.cell? ⟨g, 0, none⟩ = some (.slice A b.length c) ∧ X.cell? ⟨g, 1, none⟩ = some (.int .i64 (pl : Int)))) 1000 (by kernel_rfl) (⟨below_drew1 HB3.out, HQ.out _ (below_drew1 HB3.out)⟩) (fun hHeld => ?_))
    (refine Hd.takeE (i := 0) (v := ?_) rfl rfl (by kernel_rfl) (by kernel_rfl) (by kernel_rfl) (by kernel_rfl) (by first | exact fun _ _ _ h => h | exact fun _ _ _ h => HQP.out (by decide) h) (Or.inl ⟨by rfl, ?_⟩) (by assumption) ?_; rotate_left; (focus (intro wS hS; (try go_split_ands); go_simp; all_goals (with_reducible rfl))); simp only [List.set_cons_zero, List.set_cons_succ, List.setIfInBounds_toArray]); (refine Hd.takeE (i := 1) (v := ?_) rfl rfl (by kernel_rfl) (by kernel_rfl) (by kernel_rfl) (by kernel_rfl) (by first | exact fun _ _ _ h => h | exact fun _ _ _ h => HQP.out (by decide) h) (Or.inl ⟨by rfl, ?_⟩) (by assumption) ?_; rotate_left; (focus (intro wS hS; (try go_split_ands); go_simp; all_goals (with_reducible rfl))); simp only [List.set_cons_zero, List.set_cons_succ, List.setIfInBounds_toArray]); (refine Hd.takeE (i := 2) (v := ?_) rfl rfl (by kernel_rfl) (by kernel_rfl) (by kernel_rfl) (by kernel_rfl) (by first | exact fun _ _ _ h => h | exact fun _ _ _ h => HQP.out (by decide) h) (Or.inl ⟨by rfl, ?_⟩) (by assumption) ?_; rotate_left; (focus (intro wS hS; (try go_split_ands); go_simp; all_goals (with_reducible rfl))); simp only [List.set_cons_zero, List.set_cons_succ, List.setIfInBounds_toArray]); (refine Hd.takeE (i := 3) (v := ?_) rfl rfl (by kernel_rfl) (by kernel_rfl) (by kernel_rfl) (by kernel_rfl) (by first | exact fun _ _ _ h => h | exact fun _ _ _ h => HQP.out (by decide) h) (Or.inl ⟨by rfl, ?_⟩) (by assumption) ?_; rotate_left; (focus (intro wS hS; (try go_split_ands); go_simp; all_goals (with_reducible rfl))); simp only [List.set_cons_zero, List.set_cons_succ, List.setIfInBounds_toArray]); (refine Hd.takeE (i := 4) (v := ?_) rfl rfl (by kernel_rfl) (by kernel_rfl) (by kernel_rfl) (by kernel_rfl) (by first | exact fun _ _ _ h => h | exact fun _ _ _ h => HQP.out (by decide) h) (Or.inl ⟨by rfl, ?_⟩) (by assumption) ?_; rotate_left; (focus (intro wS hS; (try go_split_ands); go_simp; all_goals (with_reducible rfl))); simp only [List.set_cons_zero, List.set_cons_succ, List.setIfInBounds_toArray]); (refine Hd.takeE (i := 5) (v := ?_) rfl rfl (by kernel_rfl) (by kernel_rfl) (by kernel_rfl) (by kernel_rfl) (by first | exact fun _ _ _ h => h | exact fun _ _ _ h => HQP.out (by decide) h) (Or.inl ⟨by rfl, ?_⟩) (by assumption) ?_; rotate_left; (focus (intro wS hS; (try go_split_ands); go_simp; all_goals (with_reducible rfl))); simp only [List.set_cons_zero, List.set_cons_succ, List.setIfInBounds_toArray]); (refine Hd.takeE (i := 6) (v := ?_) rfl rfl (by kernel_rfl) (by kernel_rfl) (by kernel_rfl) (by kernel_rfl) (by first | exact fun _ _ _ h => h | exact fun _ _ _ h => HQP.out (by decide) h) (Or.inl ⟨by rfl, ?_⟩) (by assumption) ?_; rotate_left; (focus (intro wS hS; (try go_split_ands); go_simp; all_goals (with_reducible rfl))); simp only [List.set_cons_zero, List.set_cons_succ, List.setIfInBounds_toArray]); (refine Hd.takeE (i := 7) (v := ?_) rfl rfl (by kernel_rfl) (by kernel_rfl) (by kernel_rfl) (by kernel_rfl) (by first | exact fun _ _ _ h => h | exact fun _ _ _ h => HQP.out (by decide) h) (Or.inl ⟨by rfl, ?_⟩) (by assumption) ?_; rotate_left; (focus (intro wS hS; (try go_split_ands); go_simp; all_goals (with_reducible rfl))); simp only [List.set_cons_zero, List.set_cons_succ, List.setIfInBounds_toArray]); (refine Hd.takeE (i := 8) (v := ?_) rfl rfl (by kernel_rfl) (by kernel_rfl) (by kernel_rfl) (by kernel_rfl) (by first | exact fun _ _ _ h => h | exact fun _ _ _ h => HQP.out (by decide) h) (Or.inl ⟨by rfl, ?_⟩) (by assumption) ?_; rotate_left; (focus (intro wS hS; (try go_split_ands); go_simp; all_goals (with_reducible rfl))); simp only [List.set_cons_zero, List.set_cons_succ, List.setIfInBounds_toArray]); (refine Hd.takeE (i := 9) (v := ?_) rfl rfl (by kernel_rfl) (by kernel_rfl) (by kernel_rfl) (by kernel_rfl) (by first | exact fun _ _ _ h => h | exact fun _ _ _ h => HQP.out (by decide) h) (Or.inl ⟨by rfl, ?_⟩) (by assumption) ?_; rotate_left; (focus (intro wS hS; (try go_split_ands); go_simp; all_goals (with_reducible rfl))); simp only [List.set_cons_zero, List.set_cons_succ, List.setIfInBounds_toArray]); (refine Hd.takeE (i := 10) (v := ?_) rfl rfl (by kernel_rfl) (by kernel_rfl) (by kernel_rfl) (by kernel_rfl) (by first | exact fun _ _ _ h => h | exact fun _ _ _ h => HQP.out (by decide) h) (Or.inl ⟨by rfl, ?_⟩) (by assumption) ?_; rotate_left; (focus (intro wS hS; (try go_split_ands); go_simp; all_goals (with_reducible rfl))); simp only [List.set_cons_zero, List.set_cons_succ, List.setIfInBounds_toArray]); (refine Hd.takeE (i := 11) (v := ?_) rfl rfl (by kernel_rfl) (by kernel_rfl) (by kernel_rfl) (by kernel_rfl) (by first | exact fun _ _ _ h => h | exact fun _ _ _ h => HQP.out (by decide) h) (Or.inl ⟨by rfl, ?_⟩) (by assumption) ?_; rotate_left; (focus (intro wS hS; (try go_split_ands); go_simp; all_goals (with_reducible rfl))); simp only [List.set_cons_zero, List.set_cons_succ, List.setIfInBounds_toArray]); (refine Hd.takeE (i := 12) (v := ?_) rfl rfl (by kernel_rfl) (by kernel_rfl) (by kernel_rfl) (by kernel_rfl) (by first | exact fun _ _ _ h => h | exact fun _ _ _ h => HQP.out (by decide) h) (Or.inl ⟨by rfl, ?_⟩) (by assumption) ?_; rotate_left; (focus (intro wS hS; (try go_split_ands); go_simp; all_goals (with_reducible rfl))); simp only [List.set_cons_zero, List.set_cons_succ, List.setIfInBounds_toArray]); (refine Hd.takeE (i := 13) (v := ?_) rfl rfl (by kernel_rfl) (by kernel_rfl) (by kernel_rfl) (by kernel_rfl) (by first | exact fun _ _ _ h => h | exact fun _ _ _ h => HQP.out (by decide) h) (Or.inl ⟨by rfl, ?_⟩) (by assumption) ?_; rotate_left; (focus (intro wS hS; (try go_split_ands); go_simp; all_goals (with_reducible rfl))); simp only [List.set_cons_zero, List.set_cons_succ, List.setIfInBounds_toArray]); (refine Hd.takeE (i := 14) (v := ?_) rfl rfl (by kernel_rfl) (by kernel_rfl) (by kernel_rfl) (by kernel_rfl) (by first | exact fun _ _ _ h => h | exact fun _ _ _ h => HQP.out (by decide) h) (Or.inl ⟨by rfl, ?_⟩) (by assumption) ?_; rotate_left; (focus (intro wS hS; (try go_split_ands); go_simp; all_goals (with_reducible rfl))); simp only [List.set_cons_zero, List.set_cons_succ, List.setIfInBounds_toArray])
    (refine Hd.takeE (i := 15) rfl rfl (by kernel_rfl) (by kernel_rfl) (by kernel_rfl) (by kernel_rfl) (by first | exact fun _ _ _ h => h | exact fun _ _ _ h => HQP.out (by decide) h) (Hd.yieldsIf_load_any (by rfl) 31 _ rfl _ rfl (nums .u8 sl) _ (fun wS hS => row_range (HCC.out _ hS.1)) HUS.out rfl HIS.out) (by assumption) ?_; simp only [List.set_cons_zero, List.set_cons_succ, List.setIfInBounds_toArray])
    (refine Hd.takeE (i := 16) (v := .agg C.toArray) rfl rfl (by kernel_rfl) (by kernel_rfl) (by kernel_rfl) (by kernel_rfl) (by first | exact fun _ _ _ h => h | exact fun _ _ _ h => HQP.out (by decide) h) (Or.inl ⟨by rfl, fun wS hS => Hd.exec_build 34 _ rfl (by simpa [Act.eval] using hbu.out wS)⟩) (by assumption) ?_; simp only [List.set_cons_zero, List.set_cons_succ, List.setIfInBounds_toArray])
    generalize hW4 : W3.drew = W4 at *
    have hz4 : W4.heap.size = w.heap.size + 1 := by rw [← hW4]; exact hz3
    (refine Hd.readyE (rs := [17]) (by kernel_rfl) (by simp) ?_; refine Hd.AllE.cons (i := 17) rfl (fun K hK => ?_) Hd.AllE.nil; (refine Hd.step_of_list rfl ?_; refine Hd.step_run rfl (Hd.exec_alloc _ rfl _ (HZV.out _)) ?_; refine wpList_nil ?_); refine hK.out _ _ (⟨below_alloc hHeld.1 _, HQ.out _ (below_alloc hHeld.1 _)⟩) (fun hHeld => ?_); clear hK K; (try simp only [Act.put, List.setIfInBounds_toArray, List.set_cons_zero, List.set_cons_succ]))
    have hX0 : (Ref.mk sl 0 0 0).cells.length = 35 := by simp [Ref.cells, nums, hsl32]
    have HZC := Aside0.mk (show Z.size = C.toArray.size from HZ.out.trans (by rw [HC0.out, List.size_toArray, hX0]))
    have HIC : Aside0 ((Try.prog.info? 34).map (·.size) = some C.toArray.size) := ⟨by rw [HC0.out, List.size_toArray, hX0]; kernel_rfl⟩
    have HON := Aside0.mk (show C.toArray.all (·.oneCell') = true by rw [HC0.out]; exact Ref.cells_one)
    (refine Hd.readyE (rs := [18]) (by kernel_rfl) (by simp) ?_; refine Hd.AllE.cons (i := 18) rfl (fun K hK => ?_) Hd.AllE.nil; (refine Hd.step_of_list rfl ?_; refine Hd.wpList_store_new (W := W4) rfl _ _ _ rfl _ Z C.toArray (by rfl) rfl HZC.out HIC.out HON.out ?_; refine wpList_nil ?_); refine hK.out _ _ (⟨below_alloc (by rw [← hW4]; exact below_drew1 HB3.out) _, HQ.out _ (below_alloc (by rw [← hW4]; exact below_drew1 HB3.out) _)⟩) (fun hHeld => ?_); clear hK K; (try simp only [Act.put, List.setIfInBounds_toArray, List.set_cons_zero, List.set_cons_succ]))
    (refine Hd.endE (by kernel_rfl) ?_ _)
    obtain ⟨W5, hW5⟩ : ∃ W5, W5 = W4.alloc (.cells C.toArray 34) := ⟨_, rfl⟩
    rw [← hW5]
    have hB5 : Below w.heap.size w W5 := by rw [hW5, ← hW4]; exact below_alloc (below_drew1 HB3.out) _
    have hC5 : W5.heap[w.heap.size + 1]? = some (.cells C.toArray 34 (0, 0)) := by rw [hW5, ← hz4]; exact heap_alloc_new W4 _
    have hT5 : W5.heap[w.heap.size]? = some (.cells Z 34 (0, 0)) := by rw [hW5]; exact (Below.heap_alloc W4 _ _ (by omega)).trans (by rw [← hW4]; exact HBX.out)
    have hz5 : W5.heap.size = w.heap.size + 2 := by rw [hW5]; simp [hz4]
    have HB5 := Aside0.mk hB5
    have HC5 := Aside0.mk hC5
    have HT5 := Aside0.mk hT5
    obtain ⟨q5, q6⟩ := HQ.out _ hB5
    have q7 := obj_free (HI.out.below hB5).blk 1
    clear hHeld hB5 hC5 hT5 hW5 hcut hat hW4 q5
    go_wp2_with fail
    obtain ⟨W6, hW6⟩ : ∃ W6, W6 = W5.setCell ⟨g, 1, none⟩ (.int .i64 (hi : Int)) := ⟨_, rfl⟩
    rw [← hW6]
    have hR6 : Rd W6 g A b.length c hi := by rw [hW6]; exact (HI.out.below HB5.out).set _
    have hg6 : W5.grownBy W6 (some g) := by rw [hW6]; exact obj_grown _ _ _ _
    have hK6 := (HI.out.below HB5.out).bytes (Kd.C_below HC.out HB5.out) hg6
    have HG6 := Aside0.mk (World.grownBy.trans (Below.grown_none HB5.out g) hg6)
    have HC6 := Aside0.mk ((hg6.block (w.heap.size + 1) (by omega) (fun e => by injection e with e; omega)).trans HC5.out)
    have HT6 := Aside0.mk ((hg6.block w.heap.size (by omega) (fun e => by injection e with e; omega)).trans HT5.out)
    have hz6 : w.heap.size + 2 ≤ W6.heap.size := by have := hg6.size; omega
    clear hW6 hg6 q6 q7
    have hs' : ¬ (b.length : Int) - pl < 32 := by omega
    have HS := Aside0.mk hs'
    have hpi : ((pl : Int) + 32) = (hi : Int) := by have := HHI.out; omega
    have HT1 : Aside0 (takeNum b (hi : Int) = t1 b pl) := ⟨by unfold t1; rw [hpi]⟩
    have HT2 : Aside0 (takeNum b (t1 b pl).2.1 = t2 b pl) := ⟨rfl⟩
    have HT3 : Aside0 (takeNum b (t2 b pl).2.1 = t3 b pl) := ⟨rfl⟩
    clear hs' hs hpi d1
    refine (num_any hR6 hK6 hc hb hm).mono ?_
    rw [HT1.out]
    rintro e7 W7 ⟨hg7, ⟨z1, rfl, hR7, hK7⟩ | ⟨z1, rfl⟩⟩
    case inr => exact ⟨rfl, HG6.out.trans hg7, .inl (by rw [takeR_1 (by have := HS.out; omega) z1]; exact ⟨z1, rfl⟩)⟩
    have Z1 := Aside0.mk z1
    have HG7 := Aside0.mk (HG6.out.trans hg7)
    have HC7 := Aside0.mk ((hg7.block (w.heap.size + 1) (by omega) (fun e => by injection e with e; omega)).trans HC6.out)
    have HT7 := Aside0.mk ((hg7.block w.heap.size (by omega) (fun e => by injection e with e; omega)).trans HT6.out)
    have hz7 : w.heap.size + 2 ≤ W7.heap.size := by have := hg7.size; omega
    have HR7 := Aside0.mk hR7
    have HK7 := Aside0.mk hK7
    clear hg7 z1 hR6 hK6 hR7 hK7 hz6
    go_wp2_with fail
    refine (num_any HR7.out HK7.out hc hb hm).mono ?_
    rw [HT2.out]
    rintro e8 W8 ⟨hg8, ⟨z2, rfl, hR8, hK8⟩ | ⟨z2, rfl⟩⟩
    case inr => exact ⟨rfl, HG7.out.trans hg8, .inl (by rw [takeR_2 (by have := HS.out; omega) Z1.out z2]; exact ⟨z2, rfl⟩)⟩
    have Z2 := Aside0.mk z2
    have HG8 := Aside0.mk (HG7.out.trans hg8)
    have HC8 := Aside0.mk ((hg8.block (w.heap.size + 1) (by omega) (fun e => by injection e with e; omega)).trans HC7.out)
    have HT8 := Aside0.mk ((hg8.block w.heap.size (by omega) (fun e => by injection e with e; omega)).trans HT7.out)
    have hz8 : w.heap.size + 2 ≤ W8.heap.size := by have := hg8.size; omega
    have HR8 := Aside0.mk hR8
    have HK8 := Aside0.mk hK8
    clear hg8 z2 hR8 hK8 hz7
    go_wp2_with fail
    refine (num_any HR8.out HK8.out hc hb hm).mono ?_
    rw [HT3.out]
    rintro e9 W9 ⟨hg9, ⟨z3, rfl, hR9, hK9⟩ | ⟨z3, rfl⟩⟩
    case inr => exact ⟨rfl, HG8.out.trans hg9, .inl (by rw [takeR_3 (by have := HS.out; omega) Z1.out Z2.out z3]; exact ⟨z3, rfl⟩)⟩
    have Z3 := Aside0.mk z3
    have HG9 := Aside0.mk (HG8.out.trans hg9)
    have hC9 := (hg9.block (w.heap.size + 1) (by omega) (fun e => by injection e with e; omega)).trans HC8.out
    have HT9 := Aside0.mk ((hg9.block w.heap.size (by omega) (fun e => by injection e with e; omega)).trans HT8.out)
    have hz9 : w.heap.size + 2 ≤ W9.heap.size := by have := hg9.size; omega
    have HR9 := Aside0.mk hR9
    have HK9 := Aside0.mk hK9
    clear hg9 z3 hR9 hK9 hz8
    have hrf : refAt b pl = ⟨sl, (t1 b pl).1, (t2 b pl).1, (t3 b pl).1⟩ := by
      unfold refAt
      rw [HSL.out, HHI.out, Int.toNat_natCast, List.drop_take]
      congr 2
      omega
    have hrok : (Ref.mk sl (t1 b pl).1 (t2 b pl).1 (t3 b pl).1).Ok := ⟨hsl32, fun x hx => wf_u8 (by rw [HSL.out] at hx; exact (hb.take hi).drop pl x hx), by rw [← HT1.out] at Z1 ⊢; exact takeNum_wf hb Z1.out, takeNum_wf hb Z2.out, takeNum_wf hb Z3.out⟩
    have HRF := Aside0.mk hrf
    have HROK := Aside0.mk hrok
    clear hrf
    obtain ⟨n1, hn1⟩ : ∃ n, n = (t1 b pl).1 := ⟨_, rfl⟩
    obtain ⟨n2, hn2⟩ : ∃ n, n = (t2 b pl).1 := ⟨_, rfl⟩
    obtain ⟨n3, hn3⟩ : ∃ n, n = (t3 b pl).1 := ⟨_, rfl⟩
    rw [← hn1, ← hn2, ← hn3] at HRF HROK
    rw [← hn1, ← hn2, ← hn3] at hrok
    rw [← hn1, ← hn2, ← hn3]
    have HN := Aside0.mk (And.intro hn1 (And.intro hn2 hn3))
    clear hn1 hn2 hn3
    have hse := Ref.set3 hsl32 n1 n2 n3
    have hD0 := Ref.cells_len hrok
    have hRG := right_calls _ hrok
    have hON := Ref.cells_one (r := ⟨sl, n1, n2, n3⟩)
    obtain ⟨D, hD⟩ : ∃ D, D = (Ref.mk sl n1 n2 n3).cells := ⟨_, rfl⟩
    rw [← hD] at hse hD0 hRG hON
    rw [← HC0.out] at hse
    obtain ⟨W10, hW10⟩ : ∃ W10, W10 = ((W9.setCell ⟨w.heap.size + 1, 32, none⟩ (.int .i64 n1)).setCell ⟨w.heap.size + 1, 33, none⟩ (.int .i64 n2)).setCell ⟨w.heap.size + 1, 34, none⟩ (.int .i64 n3) := ⟨_, rfl⟩
    have hD10 : W10.heap[w.heap.size + 1]? = some (.cells D.toArray 34 (0, 0)) := by
      rw [hW10, ← hse]
      exact obj_set (obj_set (obj_set hC9 32 _) 33 _) 34 _
    have HG10 : Aside0 (w.grownBy W10 (some g)) := ⟨by rw [hW10]; exact grown_set_new (grown_set_new (grown_set_new HG9.out (Nat.le_succ _) _) (Nat.le_succ _) _) (Nat.le_succ _) _⟩
    have hg910 : W9.grownBy W10 (some (w.heap.size + 1)) := by rw [hW10]; exact World.grownBy.trans (World.grownBy.trans (obj_grown _ _ _ _) (obj_grown _ _ _ _)) (obj_grown _ _ _ _)
    have hg9l := (Array.getElem?_eq_some_iff.1 HR9.out.blk).1
    have HR10 := Aside0.mk (HR9.out.kept hg910 (fun e => by injection e with e; omega))
    have HT10 := Aside0.mk ((hg910.block w.heap.size (by omega) (fun e => by injection e with e; omega)).trans HT9.out)
    have hz10 : w.heap.size + 2 ≤ W10.heap.size := by have := hg910.size; omega
    have HD10 := Aside0.mk hD10
    have HRGD : Aside0 (Hd.RangeA W10 ⟨w.heap.size + 1, 0, none⟩ D) := ⟨fun j v hj => by
      have := obj_cell hD10 j (v := v) (by simpa using hj)
      by_cases hj0 : j = 0
      · subst hj0; simpa [Addr.add] using this
      · simpa [Addr.add, hj0] using this⟩
    have HID : Aside0 ((Try.prog.info? 34).map (·.size) = some D.length) := ⟨by rw [hD0]; kernel_rfl⟩
    have c32 := obj_cell (v := .int .i64 0) hC9 32 (by rw [HC0.out]; simp [Ref.cells, nums, hsl32])
    have c33 := obj_cell (v := .int .i64 0) hC9 33 (by rw [HC0.out]; simp [Ref.cells, nums, hsl32])
    have c34 := obj_cell (v := .int .i64 0) hC9 34 (by rw [HC0.out]; simp [Ref.cells, nums, hsl32])
    have f32 := obj_free hC9 32
    have f33 := obj_free hC9 33
    have f34 := obj_free hC9 34
    have HSE := Aside0.mk hse
    have HRG := Aside0.mk hRG
    have HON2 := Aside0.mk hON
    have HD0 := Aside0.mk hD0
    have HDD := Aside0.mk hD
    have HW10 := Aside0.mk hW10
    clear hse hRG hON hD0 hD hW10 hrok hg910 hg9l hC9 hD10
    go_wp2_with ((with_reducible refine gate_ (.load 34 (.tmp 3)) rfl ?_); rw [← HW10.out]; refine Hd.wpList_load_any rfl _ (.tmp 3) rfl _ rfl D _ HRGD.out HU.out rfl HID.out ?_)
    clear c32 c33 c34 f32 f33 f34
    refine (HRG.out _).mono ?_
    rintro e11 W11 ⟨rfl, hb11⟩
    have hG11 := HG10.out.trans (Below.grown_none hb11 g)
    have hg11l := (Array.getElem?_eq_some_iff.1 HR10.out.blk).1
    by_cases ho : okRef ⟨sl, n1, n2, n3⟩
    · rw [decide_eq_true ho]
      have hR11 := HR10.out.below hb11
      have HD11 : Aside0 (Hd.RangeA W11 ⟨w.heap.size + 1, 0, none⟩ D) := ⟨HRGD.out.below hb11⟩
      have hT11 := (hb11.block w.heap.size (by omega)).trans HT10.out
      have HTH : Aside0 (W11.there w.heap.size 0 D.toArray.size) := ⟨fun j hj => by
        have hj2 : 0 + j < Z.size := by have := HZ.out; have := HD0.out; simp at hj; omega
        refine ⟨?_, frozen_of_row _ _ _ _ _ hT11⟩
        rw [cell_of_row _ _ _ _ _ _ hT11]
        simp; omega⟩
      have HID2 : Aside0 ((Try.prog.info? 34).map (·.size) = some D.toArray.size) := ⟨by rw [List.size_toArray]; exact HID.out⟩
      obtain ⟨W12, hW12⟩ : ∃ W12, W12 = W11.setCells w.heap.size 0 D := ⟨_, rfl⟩
      have HW12 := Aside0.mk hW12
      have hG12 : w.grownBy W12 (some g) := by rw [hW12]; exact grown_sets_new hG11 (Nat.le_refl _) _
      have hR12 : Rd W12 g A b.length c (t3 b pl).2.1 := ⟨by rw [hW12]; exact (setCells_far _ 0 _ (by omega)).trans hR11.blk⟩
      have hL12 : (loadVar 34 ⟨w.heap.size, 0, none⟩).run Try.prog W12 = .ok (.agg D.toArray) W12 := by
        refine Hd.run_load_any W12 ⟨w.heap.size, 0, none⟩ 34 D _ (fun j v hj => ?_) HU.out rfl HID.out
        have h1 := World.rangeAt_setCells_same W11 w.heap.size 0 D (by simpa using HTH.out) j v hj
        rw [Nat.zero_add] at h1
        rw [hW12]
        by_cases hj0 : j = 0
        · subst hj0; simpa [Addr.add] using h1
        · simpa [Addr.add, hj0] using h1
      have hTO := takeR_o (by have := HS.out; omega) Z1.out Z2.out Z3.out (by rw [HRF.out]; exact ho)
      have HX := Aside0.mk (And.intro hG12 (And.intro hR12 (And.intro hL12 hTO)))
      clear hW12 hG12 hR12 hL12 hTO hR11 hT11 hG11 hg11l
      go_wp2_with (first
        | ((with_reducible refine gate_ (.load 34 (.tmp 3)) rfl ?_); refine Hd.wpList_load_any rfl _ (.tmp 3) rfl _ rfl D _ HD11.out HU.out rfl HID.out ?_)
        | ((with_reducible refine gate_ (.store 34 (.tmp 2) (.tmp 53)) rfl ?_); refine wpList_store_mid rfl _ _ _ rfl w.heap.size 0 D.toArray rfl rfl HTH.out HID2.out HON2.out ?_; rw [List.toList_toArray, ← HW12.out]))
      refine bodyPost_ret (results_cell1 rfl _ _ ⟨w.heap.size, 0, none⟩ _ rfl HX.out.2.2.1) rfl ⟨HX.out.1, .inr ⟨?_, ?_, ?_⟩⟩
      · rw [HX.out.2.2.2]
      · rw [HX.out.2.2.2, HRF.out, HDD.out]
      · rw [HX.out.2.2.2]; exact HX.out.2.1
    · rw [decide_eq_false ho]
      have hTA := takeR_a (by have := HS.out; omega) Z1.out Z2.out Z3.out (by rw [HRF.out]; exact ho)
      have HX := Aside0.mk (And.intro hG11 hTA)
      clear hG11 hTA hg11l
      go_wp2_with (go_at_call 42; (with_reducible refine (must_no 2 (by decide) _).mono ?_); rintro e w' ⟨rfl, rfl⟩)
      exact ⟨rfl, HX.out.1, .inl (by rw [HX.out.2]; exact ⟨by decide, rfl⟩)⟩
end Go.Proofs.Ytkobolgbmfhpgaa.SgTr
namespace Go.Proofs.Ytkobolgbmfhpgaa.SgDr
open Go Go.RowKit Go.Proofs.YtkobolgbmfhpgaaW.PrintWords Go.Proofs.Ytkobolgbmfhpgaa.K Go.Proofs.Ytkobolgbmfhpgaa.OctS Go.Proofs.Ytkobolgbmfhpgaa.OctP Go.Proofs.Ytkobolgbmfhpgaa.Oct Go.Proofs.Ytkobolgbmfhpgaa.ReR Go.Proofs.Ytkobolgbmfhpgaa.ReT Go.Proofs.Ytkobolgbmfhpgaa.ReK Go.Proofs.Ytkobolgbmfhpgaa.SgTk
set_option linter.unusedVariables false
set_option linter.unusedSimpArgs false
/-- What the closure leaves behind a fault. -/
structure Door (w w' : World) (L E : Nat) (x : Int) : Prop where
  l : w'.heap[L]? = some (.cells #[.slice none 0 0] 28 (0, 0))
  e : w'.heap[E]? = some (.cells #[.int .i64 x] 37 (0, 0))
  os : w'.os = w.os
  tape : w'.tape = w.tape
  output : w'.output = w.output
  size : w.heap.size ≤ w'.heap.size
  block : ∀ k, k < w.heap.size → k ≠ L → k ≠ E → w'.heap[k]? = w.heap[k]?
theorem as_yes (W : World) (v : Value) : (Instr.typeAssert (.iface 62 v) 20 62 true).run Try.prog W = .ok (.tuple #[v, .bool true]) W := by kernel_rfl
theorem as_no (W : World) : (Instr.typeAssert .nilIface 20 62 true).run Try.prog W = .ok (.tuple #[.agg #[.int .i64 0], .bool false]) W := by kernel_rfl
set_option maxHeartbeats 1000000 in
theorem door_panic (x : Int) (w : World) (L E : Nat) (v0 e0 : Value) (hL : w.heap[L]? = some (.cells #[v0] 28 (0, 0))) (hE : w.heap[E]? = some (.cells #[e0] 37 (0, 0))) (hne : L ≠ E) :
    CallsD Try.prog 40 #[.pointer (some ⟨L, 0, none⟩), .pointer (some ⟨E, 0, none⟩)] (.panicking (PE x)) w fun e u' w' => e = .returned (.tuple #[]) ∧ u' = .panicking [{ v := fv x, recovered := true }] ∧ Door w w' L E x := by
  have lL := (Array.getElem?_eq_some_iff.1 hL).1
  have lE := (Array.getElem?_eq_some_iff.1 hE).1
  have cL := obj_cell (v := v0) hL 0 rfl
  have fL := obj_free hL 0
  have cE := obj_cell (v := e0) hE 0 rfl
  have fE := obj_free hE 0
  have has := as_yes
  refine callsD_of_wpS Try.func40 rfl fun c₀ cs hu => ?_
  apply wpS_seq
  apply wpS_region
  simp [wpOpsS, go_sem, recoverD, hu, PE, fv, Try.ntmps40, Exit.thenS]
  refine wpS_of_wp ?_
  simp only [Array.replicate, List.replicate, List.setIfInBounds_toArray, List.set_cons_zero, List.set_cons_succ, List.append_toArray, List.cons_append, List.nil_append]
  go_wp2
  go_region
  refine ⟨rfl, _, rfl, .tuple #[], results_none rfl _ _ _, rfl, rfl, ?_⟩
  have hs : ∀ k, k < w.heap.size → ((((w.setCell ⟨L, 0, none⟩ (.slice none 0 0)).setCell ⟨E, 0, none⟩ (.int .i64 x)).alloc (.cells #[.int .i64 x] 62)).drew).heap[k]? = ((w.setCell ⟨L, 0, none⟩ (.slice none 0 0)).setCell ⟨E, 0, none⟩ (.int .i64 x)).heap[k]? := fun k hk => Below.heap_alloc _ _ _ (by simpa [World.setCell] using hk)
  refine ⟨?_, ?_, rfl, rfl, rfl, by simp [World.setCell], fun k hk h1 h2 => ?_⟩
  · rw [hs L lL, Below.heap_setCell _ _ _ _ (by exact hne)]
    exact obj_set hL 0 _
  · rw [hs E lE]
    exact obj_set ((Below.heap_setCell _ _ _ _ (by exact Ne.symm hne)).trans hE) 0 _
  · rw [hs k hk, Below.heap_setCell _ _ _ _ (by exact h2), Below.heap_setCell _ _ _ _ (by exact h1)]
set_option maxHeartbeats 1000000 in
theorem door_plain (w : World) (L E : Nat) :
    CallsD Try.prog 40 #[.pointer (some ⟨L, 0, none⟩), .pointer (some ⟨E, 0, none⟩)] .returning w fun e u' w' => e = .returned (.tuple #[]) ∧ u' = .returning ∧ Below w.heap.size w w' := by
  have has := as_no
  refine callsD_of_wpS Try.func40 rfl fun c₀ cs hu => ?_
  apply wpS_seq
  apply wpS_region
  simp [wpOpsS, go_sem, recoverD, hu, PE, fv, Try.ntmps40, Exit.thenS]
  refine wpS_of_wp ?_
  simp only [Array.replicate, List.replicate, List.setIfInBounds_toArray, List.set_cons_zero, List.set_cons_succ, List.append_toArray, List.cons_append, List.nil_append]
  go_wp2
  cases c₀
  simp only at hu
  subst hu
  refine ⟨rfl, _, rfl, .tuple #[], results_none rfl _ _ _, rfl, rfl, ?_⟩
  exact below_alloc (Below.refl _ _) _
theorem leaves_congr {P : Program} {fn : Func} {tmps tmps' : Array Value} {R : Ending → World → Prop} (h : ∀ w, (results fn tmps).run P w = (results fn tmps').run P w) : ∀ (ds : List Deferred) (u : FrameMode) (w : World), Leaves P fn tmps R ds u w → Leaves P fn tmps' R ds u w
  | [], .returning, w, ⟨v, hr, hR⟩ => ⟨v, (h w) ▸ hr, hR⟩
  | [], .panicking _, _, k => k
  | [], .run, _, k => k
  | _ :: ds, _, _, ⟨hu, fv, cap, f, args, ht, hi, hc⟩ => ⟨hu, fv, cap, f, args, ht, hi, hc.mono (fun e u' w' k => by cases e <;> first | exact leaves_congr h ds _ _ k | exact k)⟩
/-- A fault's way does not depend on a slot that holds no result. -/
theorem door_put {P : Program} {fn : Func} {R : Ending → World → Prop} {t1 t2 : TypeId} (hr : fn.results = #[.cell 2 t1, .cell 3 t2]) {d : Nat} {v : Value} {c : List PanicEntry} {a : Act} {w : World} (hd : d ≠ 2 ∧ d ≠ 3) (h : bodyPostD P fn R (.panic c) (a.put (some d) v) w) : bodyPostD P fn R (.panic c) a w := by
  refine leaves_congr (fun w => ?_) a.defers (.panicking c) w h
  have e2 : (a.put (some d) v).tmps[2]?.getD undef = a.tmps[2]?.getD undef := by simp [Act.put, Array.getElem?_setIfInBounds, hd.1]
  have e3 : (a.put (some d) v).tmps[3]?.getD undef = a.tmps[3]?.getD undef := by simp [Act.put, Array.getElem?_setIfInBounds, hd.2]
  simp [results, hr, e2, e3]
end Go.Proofs.Ytkobolgbmfhpgaa.SgDr
namespace Go.Proofs.Ytkobolgbmfhpgaa.SgTa
open Go Go.RowKit Go.Proofs.YtkobolgbmfhpgaaW.PrintWords Go.Proofs.Ytkobolgbmfhpgaa.K Go.Proofs.Ytkobolgbmfhpgaa.OctS Go.Proofs.Ytkobolgbmfhpgaa.OctP Go.Proofs.Ytkobolgbmfhpgaa.Oct Go.Proofs.Ytkobolgbmfhpgaa.ReR Go.Proofs.Ytkobolgbmfhpgaa.ReT Go.Proofs.Ytkobolgbmfhpgaa.ReK Go.Proofs.Ytkobolgbmfhpgaa.SgTk Go.Proofs.Ytkobolgbmfhpgaa.SgTr Go.Proofs.Ytkobolgbmfhpgaa.SgDr
set_option linter.unusedVariables false
set_option linter.unusedSimpArgs false
/-- n refs from a place on: the error, the refs behind acc, the place behind. -/
def takeRs (b : List Int) : Nat → Int → List Ref → Int × List Ref × Int
  | 0, pl, acc => (0, acc, pl)
  | n + 1, pl, acc => if (takeR b pl).1 ≠ 0 then ((takeR b pl).1, [], 0) else takeRs b n (takeR b pl).2.2 (acc ++ [(takeR b pl).2.1])
def takeF (b : List Int) : Int × List Ref :=
  if (takeNum b 0).2.2 ≠ 0 then ((takeNum b 0).2.2, [])
  else if 64 < (takeNum b 0).1 then (6, [])
  else if (takeRs b (takeNum b 0).1.toNat (takeNum b 0).2.1 []).1 ≠ 0 then ((takeRs b (takeNum b 0).1.toNat (takeNum b 0).2.1 []).1, [])
  else if (takeRs b (takeNum b 0).1.toNat (takeNum b 0).2.1 []).2.2 < b.length then (4, [])
  else (0, (takeRs b (takeNum b 0).1.toNat (takeNum b 0).2.1 []).2.1)
theorem results_cells2 {P : Program} {fn : Func} {p q : Tmp} {t1 t2 : TypeId} (h : fn.results = #[.cell p t1, .cell q t2]) (tmps : Array Value) (w : World) (A1 A2 : Addr) (v1 v2 : Value)
    (e1 : tmps.getD p undef = .pointer (some A1)) (e2 : tmps.getD q undef = .pointer (some A2)) (r1 : (loadVar t1 A1).run P w = .ok v1 w) (r2 : (loadVar t2 A2).run P w = .ok v2 w) : (results fn tmps).run P w = .ok (.tuple #[v1, v2]) w := by
  have e1' : tmps[p]?.getD undef = .pointer (some A1) := by simpa using e1
  have e2' : tmps[q]?.getD undef = .pointer (some A2) := by simpa using e2
  simp [results, h, e1', e2', asAddr, r1, r2]
theorem load_refs (w : World) (B : Nat) (v : Value) (h : w.heap[B]? = some (.cells #[v] 28 (0, 0))) : (loadVar 28 ⟨B, 0, none⟩).run Try.prog w = .ok v w := by
  have := obj_cell h 0 (v := v) rfl
  go_simp
theorem load_err (w : World) (B : Nat) (v : Value) (h : w.heap[B]? = some (.cells #[v] 37 (0, 0))) : (loadVar 37 ⟨B, 0, none⟩).run Try.prog w = .ok v w := by
  have := obj_cell h 0 (v := v) rfl
  go_simp
/-- What Take says. -/
def Said (w : World) (x : Int) (rs : List Ref) (e : Ending) (w' : World) : Prop := Below w.heap.size w w' ∧ ∃ v, e = .returned (.tuple #[v, .int .i64 x]) ∧ Kd.R dRef 34 w' w.heap.size (fun _ => True) (v) (rs)
theorem Door.below {w W W' : World} {x : Int} (h : Door W W' w.heap.size (w.heap.size + 1) x) (hb : Below w.heap.size w W) : Below w.heap.size w W' :=
  ⟨h.os.trans hb.os, h.tape.trans hb.tape, h.output.trans hb.output, Nat.le_trans hb.size h.size, fun k hk => (h.block k (Nat.lt_of_lt_of_le hk hb.size) (by omega) (by omega)).trans (hb.block k hk)⟩
set_option maxHeartbeats 1000000 in
theorem fault_end {w W : World} {x : Int} {v0 e0 : Value} {tmps : Array Value} (hb : Below w.heap.size w W) (hL : W.heap[w.heap.size]? = some (.cells #[v0] 28 (0, 0))) (hE : W.heap[w.heap.size + 1]? = some (.cells #[e0] 37 (0, 0)))
    (h2 : tmps.getD 2 undef = .pointer (some ⟨w.heap.size, 0, none⟩)) (h3 : tmps.getD 3 undef = .pointer (some ⟨w.heap.size + 1, 0, none⟩)) :
    Leaves Try.prog Try.f24 tmps (Said w x []) [{ target := .fn (.func 40) #[.pointer (some ⟨w.heap.size, 0, none⟩), .pointer (some ⟨w.heap.size + 1, 0, none⟩)], args := #[] }] (.panicking (PE x)) W := by
  refine leaves_cons (f := 40) (args := #[.pointer (some ⟨w.heap.size, 0, none⟩), .pointer (some ⟨w.heap.size + 1, 0, none⟩)]) (by simp) (by simp [go_sem]) ?_
  refine (door_panic x W _ _ _ _ hL hE (by omega)).mono ?_
  rintro e u' W' ⟨rfl, rfl, hd⟩
  exact ⟨_, results_cells2 rfl _ _ _ _ _ _ h2 h3 (load_refs _ _ _ hd.l) (load_err _ _ _ hd.e), Door.below hd hb, _, rfl, Kd.R_nil _ _ _ _ _⟩
set_option maxHeartbeats 1000000 in
theorem plain_end {w W : World} {x : Int} {v : Value} {rs : List Ref} {tmps : Array Value} (hb : Below w.heap.size w W) (hL : W.heap[w.heap.size]? = some (.cells #[v] 28 (0, 0))) (hE : W.heap[w.heap.size + 1]? = some (.cells #[.int .i64 x] 37 (0, 0))) (hR : Kd.R dRef 34 W w.heap.size (fun _ => True) (v) (rs))
    (h2 : tmps.getD 2 undef = .pointer (some ⟨w.heap.size, 0, none⟩)) (h3 : tmps.getD 3 undef = .pointer (some ⟨w.heap.size + 1, 0, none⟩)) :
    Leaves Try.prog Try.f24 tmps (Said w x rs) [{ target := .fn (.func 40) #[.pointer (some ⟨w.heap.size, 0, none⟩), .pointer (some ⟨w.heap.size + 1, 0, none⟩)], args := #[] }] .returning W := by
  refine leaves_cons (f := 40) (args := #[.pointer (some ⟨w.heap.size, 0, none⟩), .pointer (some ⟨w.heap.size + 1, 0, none⟩)]) (by simp) (by simp [go_sem]) ?_
  refine (door_plain W _ _).mono ?_
  rintro e u' W' ⟨rfl, rfl, hd⟩
  exact ⟨_, results_cells2 rfl _ _ _ _ _ _ h2 h3 (load_refs _ _ _ ((hd.block _ (Array.getElem?_eq_some_iff.1 hL).1).trans hL)) (load_err _ _ _ ((hd.block _ (Array.getElem?_eq_some_iff.1 hE).1).trans hE)), hb.trans (hd.mono hb.size), _, rfl, Kd.R_below hR hd⟩
/-- Take's own blocks, in the midst of the loop. -/
structure St (w W : World) (A : Option Addr) (c : Nat) (b : List Int) (pl : Int) (v : Value) (acc : List Ref) : Prop where
  l : W.heap[w.heap.size]? = some (.cells #[v] 28 (0, 0))
  e : W.heap[w.heap.size + 1]? = some (.cells #[.int .i64 0] 37 (0, 0))
  rd : Rd W (w.heap.size + 1 + 1) A b.length c pl
  bytes : (Kd.int .u8).C W A b.length b
  own : Kd.R dRef 34 W w.heap.size (fun _ => True) (v) (acc)
  b : Below w.heap.size w W
theorem St.kept {w W W' : World} {A : Option Addr} {c : Nat} {b : List Int} {pl q : Int} {v : Value} {acc : List Ref} (h : St w W A c b pl v acc) (hg : W.grownBy W' (some (w.heap.size + 1 + 1))) (hr : Rd W' (w.heap.size + 1 + 1) A b.length c q) : St w W' A c b q v acc :=
  ⟨(hg.block _ (Array.getElem?_eq_some_iff.1 h.l).1 (fun e => by injection e with e; omega)).trans h.l, (hg.block _ (Array.getElem?_eq_some_iff.1 h.e).1 (fun e => by injection e with e; omega)).trans h.e, hr, h.rd.bytes h.bytes hg,
    R_kept_t flat_ref h.own h.rd.blk (by decide) hg, h.b.grown hg h.b.size (fun k e => by injection e with e; omega)⟩
theorem St.drew {w W : World} {A : Option Addr} {c : Nat} {b : List Int} {pl : Int} {v : Value} {acc : List Ref} (h : St w W A c b pl v acc) : St w W.drew A c b pl v acc := ⟨h.l, h.e, ⟨h.rd.blk⟩, Kd.C_drew h.bytes, Kd.R_drew h.own, below_drew1 h.b⟩
theorem takeR_next {b : List Int} {pl : Nat} (hb : Bytes b) (h : (takeR b pl).1 = 0) : ∃ q : Nat, (takeR b pl).2.2 = q ∧ q ≤ b.length ∧ pl < q ∧ (takeR b pl).2.1.Ok ∧ okRef (takeR b pl).2.1 := by
  by_cases h0 : (b.length : Int) - pl < 32
  · rw [takeR_s h0] at h; cases h
  by_cases h1 : (t1 b pl).2.2 = 0
  case neg => rw [takeR_1 h0 h1] at h; exact absurd h h1
  by_cases h2 : (t2 b pl).2.2 = 0
  case neg => rw [takeR_2 h0 h1 h2] at h; exact absurd h h2
  by_cases h3 : (t3 b pl).2.2 = 0
  case neg => rw [takeR_3 h0 h1 h2 h3] at h; exact absurd h h3
  by_cases ho : okRef (refAt b pl)
  case neg => rw [takeR_a h0 h1 h2 h3 ho] at h; cases h
  rw [takeR_o h0 h1 h2 h3 ho]
  have k1 := takeNum_ok b (pl + 32) hb h1
  have k2 := takeNum_ok b (t1 b pl).2.1 hb h2
  have k3 := takeNum_ok b (t2 b pl).2.1 hb h3
  change 0 ≤ (t1 b pl).1 ∧ (t1 b pl).1 ≤ _ ∧ 0 ≤ _ ∧ _ < (t1 b pl).2.1 ∧ (t1 b pl).2.1 ≤ _ at k1
  change 0 ≤ (t2 b pl).1 ∧ (t2 b pl).1 ≤ _ ∧ 0 ≤ _ ∧ _ < (t2 b pl).2.1 ∧ (t2 b pl).2.1 ≤ _ at k2
  change 0 ≤ (t3 b pl).1 ∧ (t3 b pl).1 ≤ _ ∧ 0 ≤ _ ∧ _ < (t3 b pl).2.1 ∧ (t3 b pl).2.1 ≤ _ at k3
  refine ⟨(t3 b pl).2.1.toNat, by simp; omega, by omega, by omega, ⟨?_, fun x hx => ?_, ?_, ?_, ?_⟩, ho⟩
  · show ((b.drop (pl : Int).toNat).take 32).length = 32
    rw [List.length_take, List.length_drop]
    omega
  · exact wf_u8 ((hb.drop _).take _ x hx)
  · exact takeNum_wf hb h1
  · exact takeNum_wf hb h2
  · exact takeNum_wf hb h3
set_option maxHeartbeats 8000000 in
set_option maxRecDepth 100000 in
theorem take_calls (A : Option Addr) (c : Nat) (b : List Int) (w : World) (hC : (Kd.int .u8).C w A b.length b) (hc : b.length ≤ c) (hb : Bytes b) (hm : b.length ≤ 140737488355328) :
    Calls Try.prog 24 #[.slice A b.length c] w (Said w (takeF b).1 (takeF b).2) := by
  have hmf : ∀ (fn : Fn) (first cap : Array Value) (w : World), (Instr.makeFunc fn first cap).run Try.prog w = .ok (.func fn first cap) w := fun _ _ _ _ => rfl
  have HC := Aside0.mk hC
  clear hC
  go_enter_defers Try.func24, Try.ntmps24
  go_wp2_with fail
  obtain ⟨W1, hW1⟩ : ∃ W1, W1 = ((w.alloc (.cells #[.slice none 0 0] 28)).alloc (.cells #[.int .i64 0] 37)).alloc (.cells #[.slice A b.length c, .int .i64 0] 66) := ⟨_, rfl⟩
  rw [← hW1]
  have hs1 : St w W1 A c b 0 (.slice none 0 0) [] := by
    have hb1 := below_alloc (below_alloc (below_alloc (Below.refl w.heap.size w) (.cells #[.slice none 0 0] 28)) (.cells #[.int .i64 0] 37)) (.cells #[.slice A b.length c, .int .i64 0] 66)
    rw [hW1]
    refine ⟨(Below.heap_alloc _ _ _ (by simp; omega)).trans ((Below.heap_alloc _ _ _ (by simp)).trans (heap_alloc_new w _)), (Below.heap_alloc _ _ _ (by simp)).trans ?_, ⟨?_⟩, Kd.C_below HC.out hb1, Kd.R_nil _ _ _ _ _, hb1⟩
    · have := heap_alloc_new (w.alloc (.cells #[.slice none 0 0] 28)) (.cells #[.int .i64 0] 37)
      rwa [World.size_alloc] at this
    · have := heap_alloc_new ((w.alloc (.cells #[.slice none 0 0] 28)).alloc (.cells #[.int .i64 0] 37)) (.cells #[.slice A b.length c, .int .i64 0] 66)
      rwa [World.size_alloc, World.size_alloc] at this
  clear hW1 hmf
  refine (num_any hs1.rd hs1.bytes hc hb hm).mono ?_
  have hnw := @takeNum_wf b 0 hb
  rintro e2 W2 ⟨hg2, hcase⟩
  rcases hcase with ⟨z, rfl, hR2, -⟩ | ⟨z, rfl⟩
  case inr =>
    have e : takeF b = ((takeNum b 0).2.2, []) := by unfold takeF; rw [if_pos z]
    rw [e]
    have h2 := hs1.b.grown hg2 hs1.b.size (fun k e => by injection e with e; omega)
    exact fault_end h2 ((hg2.block _ (Array.getElem?_eq_some_iff.1 hs1.l).1 (fun e => by injection e with e; omega)).trans hs1.l) ((hg2.block _ (Array.getElem?_eq_some_iff.1 hs1.e).1 (fun e => by injection e with e; omega)).trans hs1.e) rfl rfl
  have hs2 := hs1.kept hg2 hR2
  have hk := takeNum_ok b 0 hb z
  have Z := Aside0.mk z
  have HS2 := Aside0.mk hs2
  obtain ⟨N, hN⟩ := Int.eq_ofNat_of_zero_le hk.1
  obtain ⟨p0, hp0⟩ := Int.eq_ofNat_of_zero_le (show 0 ≤ (takeNum b 0).2.1 by omega)
  rw [hN]
  rw [hp0] at HS2 hk
  have hpl : p0 ≤ b.length := by omega
  have HN := Aside0.mk (And.intro hN hp0)
  clear hs1 hg2 hR2 hs2 hk hp0 hN z hnw
  by_cases h64 : 64 < N
  · have d1 : decide ((64 : Int) < (N : Int)) = true := by simp; omega
    have e : takeF b = (6, []) := by unfold takeF; rw [if_neg (by simp [Z.out]), if_pos (by rw [HN.out.1]; omega)]
    have FE := Aside0.mk (fun (tmps : Array Value) h2 h3 => @fault_end w W2 6 _ _ tmps HS2.out.b HS2.out.l HS2.out.e h2 h3)
    rw [show Said w 6 [] = Said w (takeF b).1 (takeF b).2 by rw [e]] at FE
    clear e
    go_wp2_with (go_at_call 42; (with_reducible refine (must_no 6 (by decide) _).mono ?_); rintro e w' ⟨rfl, rfl⟩)
    refine FE.out _ ?_ ?_ <;> rfl
  · have d1 : decide ((64 : Int) < (N : Int)) = false := by simp; omega
    have HE : Aside0 (takeF b = (if (takeRs b N p0 []).1 ≠ 0 then ((takeRs b N p0 []).1, []) else if (takeRs b N p0 []).2.2 < b.length then (4, []) else (0, (takeRs b N p0 []).2.1))) := ⟨by
      unfold takeF; rw [if_neg (by simp [Z.out]), if_neg (by rw [HN.out.1]; omega), HN.out.1, HN.out.2, Int.toNat_natCast]⟩
    have HQP : Aside0 (∀ {d : Nat} {v : Value} {c : List PanicEntry} {a : Act} {W : World}, (d ≠ 2 ∧ d ≠ 3) → bodyPostD Try.prog Try.f24 (Said w (takeF b).1 (takeF b).2) (.panic c) (a.put (some d) v) W → bodyPostD Try.prog Try.f24 (Said w (takeF b).1 (takeF b).2) (.panic c) a W) := ⟨fun hd h => door_put rfl hd h⟩
    go_wp2_with fail
    go_loopg [16] (N + 1) (fun gk v16 wr => ∃ (i pl : Nat) (v : Value) (acc : List Ref), v16 = .int .i64 i ∧ i ≤ N ∧ pl ≤ b.length ∧ acc.length = i ∧ Aside0 (gk = N - i + 1) ∧ Aside0 (takeRs b N p0 [] = takeRs b (N - i) pl acc) ∧ Aside0 (St w wr A c b pl v acc))
    case atStart => exact ⟨0, p0, _, [], rfl, Nat.zero_le _, hpl, rfl, ⟨rfl⟩, ⟨rfl⟩, HS2⟩
    case round =>
      obtain ⟨i, pl, v, acc, rfl, hi, hp, hal, HG, HT, HS⟩ := hrel
      by_cases hlt : i < N
      · have h1 : decide ((i : Int) < (N : Int)) = true := by simp; omega
        have hT : takeRs b (N - i) pl acc = if (takeR b pl).1 ≠ 0 then ((takeR b pl).1, [], 0) else takeRs b (N - (i + 1)) (takeR b pl).2.2 (acc ++ [(takeR b pl).2.1]) := by
          rw [show N - i = (N - (i + 1)) + 1 by omega]; rfl
        have HTT := Aside0.mk hT
        clear hT
        have HAL := Aside0.mk hal
        have hS0 := obj_cell (v := v) HS.out.l 0 rfl
        have FE : Aside0 ((takeR b pl).1 ≠ 0 → ∀ (W : World) (tmps : Array Value), wr.drew.grownBy W (some (w.heap.size + 1 + 1)) → tmps.getD 2 undef = .pointer (some ⟨w.heap.size, 0, none⟩) → tmps.getD 3 undef = .pointer (some ⟨w.heap.size + 1, 0, none⟩) → Leaves Try.prog Try.f24 tmps (Said w (takeF b).1 (takeF b).2) [{ target := .fn (.func 40) #[.pointer (some ⟨w.heap.size, 0, none⟩), .pointer (some ⟨w.heap.size + 1, 0, none⟩)], args := #[] }] (.panicking (PE (takeR b pl).1)) W) := ⟨fun hz W tmps hg h2 h3 => by
          have e : takeF b = ((takeR b pl).1, []) := by rw [HE.out, HT.out, HTT.out, if_pos hz]; simp only; rw [if_pos hz]
          rw [e]
          have HD := HS.out.drew
          exact fault_end (HD.b.grown hg HD.b.size (fun k e => by injection e with e; omega)) ((hg.block _ (Array.getElem?_eq_some_iff.1 HD.l).1 (fun e => by injection e with e; omega)).trans HD.l) ((hg.block _ (Array.getElem?_eq_some_iff.1 HD.e).1 (fun e => by injection e with e; omega)).trans HD.e) h2 h3⟩
        clear hal
        go_wp2_with fail
        (refine Hd.startE (S := (fun X => X.cell? ⟨w.heap.size, 0, none⟩ = some v)) 5 (by kernel_rfl) (hS0) (fun hHeld => ?_))
        (refine Hd.takeE (i := 0) (v := ?_) rfl rfl (by kernel_rfl) (by kernel_rfl) (by kernel_rfl) (by kernel_rfl) (by first | exact fun _ _ _ h => h | exact fun _ _ _ h => HQP.out (by decide) h) (Or.inl ⟨by rfl, ?_⟩) (by assumption) ?_; rotate_left; (focus (intro wS hS; (try go_split_ands); go_simp; all_goals (with_reducible rfl))); simp only [List.set_cons_zero, List.set_cons_succ, List.setIfInBounds_toArray]); (refine Hd.takeE (i := 1) (v := ?_) rfl rfl (by kernel_rfl) (by kernel_rfl) (by kernel_rfl) (by kernel_rfl) (by first | exact fun _ _ _ h => h | exact fun _ _ _ h => HQP.out (by decide) h) (Or.inl ⟨by rfl, ?_⟩) (by assumption) ?_; rotate_left; (focus (intro wS hS; (try go_split_ands); go_simp; all_goals (with_reducible rfl))); simp only [List.set_cons_zero, List.set_cons_succ, List.setIfInBounds_toArray])
        (refine Hd.readyE (rs := [2]) (by kernel_rfl) (by simp) ?_; refine Hd.AllE.cons (i := 2) rfl (fun K hK => ?_) Hd.AllE.nil; (go_simp; refine (ref_calls HS.out.drew.rd HS.out.drew.bytes hc hb hm hp).mono ?_; rintro e2 w2 ⟨hg2, hcase⟩; rcases hcase with ⟨z, rfl⟩ | ⟨z, rfl, hR2⟩; focus exact FE.out z _ _ hg2 rfl rfl); refine hK.out _ _ ((obj_cell (HS.out.drew.kept hg2 hR2).l 0 rfl)) (fun hHeld => ?_); clear hK K; (try simp only [Act.put, List.setIfInBounds_toArray, List.set_cons_zero, List.set_cons_succ]))
        have hs2 := HS.out.drew.kept hg2 hR2
        obtain ⟨q, hq, hql, hpq, hrok, hro⟩ := takeR_next (pl := pl) hb z
        rw [if_neg (by simpa using z), hq] at HTT
        rw [hq] at hs2
        generalize (takeR b pl).2.1 = r at *
        have HS2 := Aside0.mk hs2
        have HOK := Aside0.mk hrok
        have HCL := Aside0.mk (Ref.cells_len hrok)
        clear hs2 hrok hg2 hR2
        have hL3 := (Below.heap_alloc w2 (.cells r.cells.toArray 34) _ (Array.getElem?_eq_some_iff.1 HS2.out.l).1).trans HS2.out.l
        have hE3 := (Below.heap_alloc w2 (.cells r.cells.toArray 34) _ (Array.getElem?_eq_some_iff.1 HS2.out.e).1).trans HS2.out.e
        have hR3 := (Below.heap_alloc w2 (.cells r.cells.toArray 34) _ (Array.getElem?_eq_some_iff.1 HS2.out.rd.blk).1).trans HS2.out.rd.blk
        (refine Hd.readyE (rs := [3]) (by kernel_rfl) (by simp) ?_; refine Hd.AllE.cons (i := 3) rfl (fun K hK => ?_) Hd.AllE.nil; (refine Hd.step_of_list rfl ?_; refine Lit.wpList_lit1 rfl _ 34 (.tmp 20) rfl r.cells rfl Try.underlying28 infoRef3 HCL.out (by decide) (by decide) ?_; refine wpList_nil ?_); refine hK.out _ _ ((obj_cell hL3 0 rfl)) (fun hHeld => ?_); clear hK K; (try simp only [Act.put, List.setIfInBounds_toArray, List.set_cons_zero, List.set_cons_succ]))
        have HB3 := Aside0.mk HS2.out.b
        have HO3 := Aside0.mk HS2.out.own
        have HL2 := Aside0.mk HS2.out.l
        have HE2 := Aside0.mk HS2.out.e
        have HR2 := Aside0.mk HS2.out.rd.blk
        (refine Hd.readyE (rs := [4]) (by kernel_rfl) (by simp) ?_; refine Hd.AllE.cons (i := 4) rfl (fun K hK => ?_) Hd.AllE.nil; (refine Hd.step_of_list rfl ?_; refine app1 dRef flat_ref w.heap.size (w0 := w) (.tmp 18) (.tmp 21) 28 34 _ 56 rfl rfl Try.underlying28 infoRef3 rfl (by decide) (by decide) _ acc r r.cells rfl rfl ⟨HOK.out, rfl⟩ HO3.out HB3.out HB3.out.size (by have := HAL.out; omega) ?_; intro v3 w3 ho3 hb3 hg3 hat3; refine wpList_nil ?_); refine hK.out _ _ ((obj_cell ((hg3.block _ (Array.getElem?_eq_some_iff.1 HL2.out).1 (Kd.R_ne HO3.out HL2.out (by decide))).trans HL2.out) 0 rfl)) (fun hHeld => ?_); clear hK K; (try simp only [Act.put, List.setIfInBounds_toArray, List.set_cons_zero, List.set_cons_succ]))
        obtain ⟨A3, c3, rfl⟩ := Kd.R_slice ho3
        have hL4 := (hg3.block _ (Array.getElem?_eq_some_iff.1 HL2.out).1 (Kd.R_ne HO3.out HL2.out (by decide))).trans HL2.out
        have hE4 := (hg3.block _ (Array.getElem?_eq_some_iff.1 HE2.out).1 (Kd.R_ne HO3.out HE2.out (by decide))).trans HE2.out
        have hR4 := (hg3.block _ (Array.getElem?_eq_some_iff.1 HR2.out).1 (Kd.R_ne HO3.out HR2.out (by decide))).trans HR2.out
        have hc4 := obj_cell (v := v) hL4 0 rfl
        have hf4 := obj_free hL4 0
        have hb4 : Below w.heap.size w (w3.setCell ⟨w.heap.size, 0, none⟩ (.slice A3 (acc ++ [r]).length c3)) := hb3.setCell (Nat.le_refl _) _
        have HS4 : Aside0 (St w (w3.setCell ⟨w.heap.size, 0, none⟩ (.slice A3 (acc ++ [r]).length c3)) A c b q (.slice A3 (acc ++ [r]).length c3) (acc ++ [r])) := ⟨⟨obj_set hL4 0 _, (Below.heap_setCell _ _ _ _ (by simp)).trans hE4, ⟨(Below.heap_setCell _ _ _ _ (by simp; omega)).trans hR4⟩, Kd.C_below HC.out hb4, R_kept_t flat_ref ho3 hL4 (by decide) (obj_grown _ _ _ _), hb4⟩⟩
        have HS5 : Aside0 (St w (w3.setCell ⟨w.heap.size, 0, none⟩ (.slice A3 (acc.length + 1) c3)) A c b q (.slice A3 (acc.length + 1) c3) (acc ++ [r])) := by
          rw [List.length_append] at HS4
          exact HS4
        clear hL3 hE3 hR3 hL4 hE4 hR4 ho3 hb3 hg3 hat3 hb4
        (refine Hd.readyE (rs := [5]) (by kernel_rfl) (by simp) ?_; refine Hd.AllE.last (i := 5) rfl (fun K hK => ?_); go_simp; refine hK.out _ _ ?_; clear hK K; (try simp only [Act.put, List.setIfInBounds_toArray, List.set_cons_zero, List.set_cons_succ]))
        (refine Hd.endE (by kernel_rfl) ?_ _)
        go_wp2
        go_roundg (N - (i + 1) + 1)
        case measure => have := HG.out; omega
        case rel => exact ⟨i + 1, q, .slice A3 (acc.length + 1) c3, acc ++ [r], by go_num, by omega, hql, by rw [List.length_append, HAL.out]; rfl, ⟨rfl⟩, ⟨HT.out.trans HTT.out⟩, HS5⟩
      · obtain rfl : i = N := by omega
        have h1 : decide ((i : Int) < (i : Int)) = false := by simp
        have hT0 : takeRs b i p0 [] = (0, acc, (pl : Int)) := by rw [HT.out, Nat.sub_self]; rfl
        have hrd := HS.out.rd.blk
        obtain ⟨A3, c3, rfl⟩ := Kd.R_slice HS.out.own
        have k1 := obj_cell (v := .int .i64 (pl : Int)) hrd 1 rfl
        by_cases hpl2 : pl < b.length
        · have d2 : decide ((pl : Int) < (b.length : Int)) = true := by simp; omega
          have FE := Aside0.mk (fun (tmps : Array Value) h2 h3 => @fault_end w wr 4 _ _ tmps HS.out.b HS.out.l HS.out.e h2 h3)
          rw [show Said w 4 [] = Said w (takeF b).1 (takeF b).2 by rw [HE.out, hT0]; simp [hpl2]] at FE
          clear hT0 hrd
          go_wp2_with (go_at_call 42; (with_reducible refine (must_no 4 (by decide) _).mono ?_); rintro e w' ⟨rfl, rfl⟩)
          refine FE.out _ ?_ ?_ <;> rfl
        · have d2 : decide ((pl : Int) < (b.length : Int)) = false := by simp; omega
          have k2 := obj_cell (v := .slice A3 acc.length c3) HS.out.l 0 rfl
          have k3 := obj_cell (v := .int .i64 0) HS.out.e 0 rfl
          have f2 := obj_free HS.out.l 0
          have f3 := obj_free HS.out.e 0
          have FE : Aside0 (∀ (tmps : Array Value), tmps.getD 2 undef = .pointer (some ⟨w.heap.size, 0, none⟩) → tmps.getD 3 undef = .pointer (some ⟨w.heap.size + 1, 0, none⟩) → Leaves Try.prog Try.f24 tmps (Said w (takeF b).1 (takeF b).2) [{ target := .fn (.func 40) #[.pointer (some ⟨w.heap.size, 0, none⟩), .pointer (some ⟨w.heap.size + 1, 0, none⟩)], args := #[] }] .returning ((wr.setCell ⟨w.heap.size, 0, none⟩ (.slice A3 acc.length c3)).setCell ⟨w.heap.size + 1, 0, none⟩ (.int .i64 0))) := ⟨fun tmps h2 h3 => by
            rw [show takeF b = (0, acc) by rw [HE.out, hT0]; simp; omega]
            exact plain_end ((HS.out.b.setCell (Nat.le_refl _) _).setCell (Nat.le_succ _) _) ((Below.heap_setCell _ _ _ _ (by simp)).trans (obj_set HS.out.l 0 _)) (obj_set ((Below.heap_setCell _ _ _ _ (by simp)).trans HS.out.e) 0 _) (R_kept_t flat_ref (R_kept_t flat_ref HS.out.own HS.out.l (by decide) (obj_grown _ _ _ _)) ((Below.heap_setCell _ _ _ _ (by simp)).trans HS.out.e) (by decide) (obj_grown _ _ _ _)) h2 h3⟩
          clear hT0 hrd hal
          go_wp2
          refine FE.out _ ?_ ?_ <;> rfl
end Go.Proofs.Ytkobolgbmfhpgaa.SgTa
