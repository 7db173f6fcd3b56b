/- What the program's Add computes: the words of the places that are on then; condition: a sum is 32 bytes, the summary is right. -/
import Derived.Test.YtnpcngnmjbhhaaaBlR
namespace Go.Proofs.Ytnpcngnmjbhhaaa.BlA
open Go Go.RowKit Go.Shelf Go.Proofs.YtnpcngnmjbhhaaaW.PrintWords Go.Proofs.Ytnpcngnmjbhhaaa.K Go.Proofs.Ytnpcngnmjbhhaaa.OctS Go.Proofs.Ytnpcngnmjbhhaaa.OctP Go.Proofs.Ytnpcngnmjbhhaaa.BlS Go.Proofs.Ytnpcngnmjbhhaaa.BlP Go.Proofs.Ytnpcngnmjbhhaaa.BlC Go.Proofs.Ytnpcngnmjbhhaaa.BlD Go.Proofs.Ytnpcngnmjbhhaaa.BlN Go.Proofs.Ytnpcngnmjbhhaaa.BlF Go.Proofs.Ytnpcngnmjbhhaaa.BlW Go.Proofs.Ytnpcngnmjbhhaaa.BlO Go.Proofs.Ytnpcngnmjbhhaaa.BlQ Go.Proofs.Ytnpcngnmjbhhaaa.BlR Go.Proofs.Ytnpcngnmjbhhaaa.Oct
set_option linter.unusedVariables false
set_option linter.unusedSimpArgs false
attribute [local go_sem] Oper.semAt_some
/-- What the iterator's caller keeps of the iterator: its size's cell. -/
def KpZ (Bz : Nat) (W W' : World) : Prop := W.heap.size ≤ W'.heap.size ∧ (Bz < W.heap.size → W'.cell? ⟨Bz, 0, none⟩ = W.cell? ⟨Bz, 0, none⟩)
theorem kpz_t {Bz : Nat} {A B C : World} (h : KpZ Bz A B) (k : KpZ Bz B C) : KpZ Bz A C := ⟨Nat.le_trans h.1 k.1, fun hb => (k.2 (Nat.lt_of_lt_of_le hb h.1)).trans (h.2 hb)⟩
theorem kpz_b {Bz : Nat} {w : World} (hz : Bz < w.heap.size) (W : World) (l : Nat) (o o' : Obj) (hl : w.heap.size ≤ l) (h : W.heap[l]? = some o) (_ : o.isCells = false) (_ : o.isWalk = false) : KpZ Bz W (W.putObj l o') :=
  ⟨(grownBy_putObj' W l o').size, fun hb => World.cell?_of_block (w := W) (a := ⟨Bz, 0, none⟩) ((grownBy_putObj' W l o').block Bz hb (fun e => by injection e with e; omega))⟩
theorem cells_kept {B k : Nat} {W W' : World} {row : Option Nat} {o : Obj} (h : W.heap[k]? = some o) (ho : o.isCells = true) (hg : W.grownBy W' row) (hr : ∀ r, row = some r → B ≤ r ∧ ∃ o : Obj, W.heap[r]? = some o ∧ o.isCells = false) : W'.heap[k]? = some o := by
  refine (hg.block k (Array.getElem?_eq_some_iff.1 h).1 ?_).trans h
  intro e
  obtain ⟨_, o', h1, h2⟩ := hr k e.symm
  rw [h] at h1
  injection h1 with h1
  subst h1
  rw [ho] at h2
  cases h2
theorem row_kept {B e base : Nat} {k : IntKind} {W W' : World} {row : Option Nat} {v : Value} {xs : List Int} (h : Kd.R (Kd.int k) e W base (fun _ => True) (v) (xs)) (hg : W.grownBy W' row) (hr : ∀ r, row = some r → B ≤ r ∧ ∃ o : Obj, W.heap[r]? = some o ∧ o.isCells = false) : Kd.R (Kd.int k) e W' base (fun _ => True) (v) (xs) := by
  cases row with
  | none => exact Kd.R_below h ⟨hg.os, hg.tape, hg.output, hg.size, fun k hk => hg.block k hk (by simp)⟩
  | some r =>
    refine R_kept_ne (flat_int k) h ?_ hg
    intro e1
    obtain ⟨_, o, h1, h2⟩ := hr r rfl
    have ho := (Kd.own_of_R (enc := Value.int k) (h1 := fun _ => rfl) h).2
    rcases ho with ⟨rfl, _⟩ | ⟨b, c, cur, rfl, _, h3, _⟩
    · cases e1
    · injection e1 with e1
      subst e1
      rw [h3] at h1
      injection h1 with h1
      subst h1
      cases h2
/-- What holds between the rounds of Add: the pointer's variable, the summary's words so far, what was written. -/
structure AddI (w : World) (base g : Nat) (size ways : Nat) (v : Value) (on : List Int) (m : Nat) (B : Nat) (pt : Nat) (pre : List (Fin size)) (W : World) : Prop where
  box : W.heap[B]? = some (.cells #[.pointer (some ⟨g, 0, none⟩)] pt (0, 0))
  f : BF W base g size ways v (wordsOf (BlW.lay on (outs pre)) m)
  g : w.grownBy W v.ownBlock
  le : w.heap.size ≤ W.heap.size
theorem addI_own (w : World) (base g size ways : Nat) (v : Value) (on : List Int) (m B pt n₀ : Nat) (hn : w.heap.size ≤ n₀) : OwnFrom n₀ (AddI w base g size ways v on m B pt) := fun pre W W' row h hg hr =>
  ⟨cells_kept h.box rfl hg hr, ⟨h.f.ge, cells_kept h.f.blk rfl hg hr, row_kept h.f.row hg hr⟩,
    ⟨hg.os.trans h.g.os, hg.tape.trans h.g.tape, hg.output.trans h.g.output, Nat.le_trans h.g.size hg.size, fun k hk hne => (hg.block k (Nat.lt_of_lt_of_le hk h.le) (fun e => by have := (hr k e.symm).1; omega)).trans (h.g.block k hk hne)⟩, Nat.le_trans h.le hg.size⟩
set_option maxRecDepth 100000 in
set_option maxHeartbeats 4000000 in
theorem add_in (w : World) (base g size ways : Nat) (v : Value) (on : List Int) (m : Nat) (bs : List Int) (h : BF w base g size ways v (wordsOf on m)) (hk : okF size ways) (hm : m = (size + 63) / 64) (hl : bs.length = 32) (hbs : Bytes bs) (h0 : 0 < size) :
    CallsIn Fence.wide 3 Try.prog 15 #[.pointer (some ⟨g, 0, none⟩), .agg (nums .u8 bs).toArray] w fun e w' => e = .returned (.int .i64 0) ∧ BF w' base g size ways v (wordsOf (BlW.lay on (outs (pfs bs size h0 ways))) m) ∧ w.grownBy w' v.ownBlock := by
  have hund := Try.underlying22
  have hi32 := infoSum bs hl
  have HF := Aside0.mk h
  have HL := Aside0.mk hl
  have HY := Aside0.mk hbs
  have HK := Aside0.mk hk
  have HM := Aside0.mk hm
  have hm1 : 0 < m := by rw [hm]; omega
  obtain ⟨b, c, cur, rfl, hb, hh, r1, r2, r3, r4⟩ := row_form h.row (by rw [wordsOf_len]; exact hm1)
  have hg0 := bf_lt h
  have hb0 : b < w.heap.size := (Array.getElem?_eq_some_iff.1 hh).1
  have HH := Aside0.mk hh
  rw [wordsOf_len] at HF
  clear r1 r2 r3 r4 h hk hm hl hbs hh
  refine callsIn_of_wp_marks Try.func15 rfl trivial ?_ rfl
  simp only [Try.ntmps15, List.size_toArray, List.length_cons, List.length_nil, Nat.reduceAdd, Nat.reduceSub, Array.replicate_succ, Array.replicate_zero, List.push_toArray, List.append_toArray, List.nil_append, List.cons_append]
  gi_wp2
  have HB2 := Aside0.mk (below_alloc (below_alloc (Below.refl w.heap.size w) (.cells #[.pointer (some ⟨g, 0, none⟩)] 23)) (.cells (nums .u8 bs).toArray 22))
  have cbx : ((w.alloc (.cells #[.pointer (some ⟨g, 0, none⟩)] 23)).alloc (.cells (nums .u8 bs).toArray 22)).cell? ⟨w.heap.size, 0, none⟩ = some (.pointer (some ⟨g, 0, none⟩)) := obj_cell (t := 23) (cs := #[.pointer (some ⟨g, 0, none⟩)]) ((Below.heap_alloc _ _ _ (by simp)).trans (heap_alloc_new w _)) 0 rfl
  have crg : ((w.alloc (.cells #[.pointer (some ⟨g, 0, none⟩)] 23)).alloc (.cells (nums .u8 bs).toArray 22)).rangeAt (w.heap.size + 1) 0 (nums .u8 bs) := by have h := range_new (w.alloc (.cells #[.pointer (some ⟨g, 0, none⟩)] 23)) (nums .u8 bs) 22; rwa [World.size_alloc] at h
  have c0 := (HB2.out.cell (p := ⟨g, 0, none⟩) hg0).trans (obj_cell (v := .int .i64 size) HF.out.blk 0 rfl)
  have c1 := (HB2.out.cell (p := ⟨g, 1, none⟩) hg0).trans (obj_cell (v := .int .i64 ways) HF.out.blk 1 rfl)
  (refine wpIn_wide.2 ?_; refine wp_region_noPanic ?_; refine Hd.startE (S := (fun w' => w'.rangeAt (w.heap.size + 1) 0 (nums .u8 bs) ∧ w'.cell? ⟨w.heap.size, 0, none⟩ = some (.pointer (some ⟨g, 0, none⟩)) ∧ w'.cell? ⟨g, 0, none⟩ = some (.int .i64 size) ∧ w'.cell? ⟨g, 1, none⟩ = some (.int .i64 ways))) 1000 (by kernel_rfl) (⟨(World.rangeAt_drew _ _ _ _).2 crg, cbx, c0, c1⟩) (fun hHeld => ?_))
  (refine Hd.takeE (i := 0) rfl rfl (by kernel_rfl) (by kernel_rfl) (by kernel_rfl) (by kernel_rfl) (fun _ _ _ h => h) (yieldsIf_load_mid (by rfl) 22 _ rfl (w.heap.size + 1) 0 rfl (nums .u8 bs) _ (fun wS hS => hS.1) hund rfl hi32) (by assumption) ?_; simp only [List.set_cons_zero, List.set_cons_succ, List.setIfInBounds_toArray])
  (refine Hd.takeE (i := 1) (v := ?_) rfl rfl (by kernel_rfl) (by kernel_rfl) (by kernel_rfl) (by kernel_rfl) (fun _ _ _ h => h) (Or.inl ⟨by rfl, ?_⟩) (by assumption) ?_; rotate_left; (focus (intro wS hS; (try go_split_ands); go_simp; all_goals (with_reducible rfl))); simp only [List.set_cons_zero, List.set_cons_succ, List.setIfInBounds_toArray]); (refine Hd.takeE (i := 2) (v := ?_) rfl rfl (by kernel_rfl) (by kernel_rfl) (by kernel_rfl) (by kernel_rfl) (fun _ _ _ h => h) (Or.inl ⟨by rfl, ?_⟩) (by assumption) ?_; rotate_left; (focus (intro wS hS; (try go_split_ands); go_simp; all_goals (with_reducible rfl))); simp only [List.set_cons_zero, List.set_cons_succ, List.setIfInBounds_toArray]); (refine Hd.takeE (i := 3) (v := ?_) rfl rfl (by kernel_rfl) (by kernel_rfl) (by kernel_rfl) (by kernel_rfl) (fun _ _ _ h => h) (Or.inl ⟨by rfl, ?_⟩) (by assumption) ?_; rotate_left; (focus (intro wS hS; (try go_split_ands); go_simp; all_goals (with_reducible rfl))); simp only [List.set_cons_zero, List.set_cons_succ, List.setIfInBounds_toArray]); (refine Hd.takeE (i := 4) (v := ?_) rfl rfl (by kernel_rfl) (by kernel_rfl) (by kernel_rfl) (by kernel_rfl) (fun _ _ _ h => h) (Or.inl ⟨by rfl, ?_⟩) (by assumption) ?_; rotate_left; (focus (intro wS hS; (try go_split_ands); go_simp; all_goals (with_reducible rfl))); simp only [List.set_cons_zero, List.set_cons_succ, List.setIfInBounds_toArray]); (refine Hd.takeE (i := 5) (v := ?_) rfl rfl (by kernel_rfl) (by kernel_rfl) (by kernel_rfl) (by kernel_rfl) (fun _ _ _ h => h) (Or.inl ⟨by rfl, ?_⟩) (by assumption) ?_; rotate_left; (focus (intro wS hS; (try go_split_ands); go_simp; all_goals (with_reducible rfl))); simp only [List.set_cons_zero, List.set_cons_succ, List.setIfInBounds_toArray]); (refine Hd.takeE (i := 6) (v := ?_) rfl rfl (by kernel_rfl) (by kernel_rfl) (by kernel_rfl) (by kernel_rfl) (fun _ _ _ h => h) (Or.inl ⟨by rfl, ?_⟩) (by assumption) ?_; rotate_left; (focus (intro wS hS; (try go_split_ands); go_simp; all_goals (with_reducible rfl))); simp only [List.set_cons_zero, List.set_cons_succ, List.setIfInBounds_toArray]); (refine Hd.takeE (i := 7) (v := ?_) rfl rfl (by kernel_rfl) (by kernel_rfl) (by kernel_rfl) (by kernel_rfl) (fun _ _ _ h => h) (Or.inl ⟨by rfl, ?_⟩) (by assumption) ?_; rotate_left; (focus (intro wS hS; (try go_split_ands); go_simp; all_goals (with_reducible rfl))); simp only [List.set_cons_zero, List.set_cons_succ, List.setIfInBounds_toArray]); (refine Hd.takeE (i := 8) (v := ?_) rfl rfl (by kernel_rfl) (by kernel_rfl) (by kernel_rfl) (by kernel_rfl) (fun _ _ _ h => h) (Or.inl ⟨by rfl, ?_⟩) (by assumption) ?_; rotate_left; (focus (intro wS hS; (try go_split_ands); go_simp; all_goals (with_reducible rfl))); simp only [List.set_cons_zero, List.set_cons_succ, List.setIfInBounds_toArray])
  clear crg cbx c0 c1
  have hwz : ((w.alloc (.cells #[.pointer (some ⟨g, 0, none⟩)] 23)).alloc (.cells (nums .u8 bs).toArray 22)).drew.heap.size = w.heap.size + 2 := by simp
  have PC : Calls Try.prog 28 #[.agg (nums .u8 bs).toArray, .int .i64 size, .int .i64 ways] ((w.alloc (.cells #[.pointer (some ⟨g, 0, none⟩)] 23)).alloc (.cells (nums .u8 bs).toArray 22)).drew fun e w' =>
      e = .returned (.func (.func 36) #[] #[.pointer (some ⟨w.heap.size + 2, 0, none⟩), .pointer (some ⟨w.heap.size + 3, 0, none⟩), .pointer (some ⟨w.heap.size + 4, 0, none⟩)]) ∧
        Seat w' (w.heap.size + 2) (w.heap.size + 3) (w.heap.size + 4) bs size ways ∧ Below w.heap.size w w' ∧ w'.heap[w.heap.size]? = some (.cells #[.pointer (some ⟨g, 0, none⟩)] 23) ∧ w'.heap.size = w.heap.size + 5 ∧ Below ((w.alloc (.cells #[.pointer (some ⟨g, 0, none⟩)] 23)).alloc (.cells (nums .u8 bs).toArray 22)).drew.heap.size ((w.alloc (.cells #[.pointer (some ⟨g, 0, none⟩)] 23)).alloc (.cells (nums .u8 bs).toArray 22)).drew w' := by
    have hs := seat_new ((w.alloc (.cells #[.pointer (some ⟨g, 0, none⟩)] 23)).alloc (.cells (nums .u8 bs).toArray 22)).drew bs size ways HL.out
    refine (places_calls bs size ways ((w.alloc (.cells #[.pointer (some ⟨g, 0, none⟩)] 23)).alloc (.cells (nums .u8 bs).toArray 22)).drew).mono ?_
    rintro e w' ⟨he, rfl⟩
    rw [hwz] at he hs
    refine ⟨he, hs, below_alloc (below_alloc (below_alloc (below_drew1 HB2.out) _) _) _, ?_, by simp, below_alloc (below_alloc (below_alloc (Below.refl _ ((w.alloc (.cells #[.pointer (some ⟨g, 0, none⟩)] 23)).alloc (.cells (nums .u8 bs).toArray 22)).drew) _) _) _⟩
    rw [Below.heap_alloc _ _ _ (by simp; omega), Below.heap_alloc _ _ _ (by simp; omega), Below.heap_alloc _ _ _ (by simp; omega)]
    exact (Below.heap_alloc _ _ _ (by simp)).trans (heap_alloc_new w _)
  (refine Hd.readyE (rs := [9]) (by kernel_rfl) (by simp) ?_; refine Hd.AllE.cons (i := 9) rfl (fun K hK => ?_) Hd.AllE.nil; (go_simp; (go_at_call 28; (with_reducible refine PC.mono ?_); rintro e w1 ⟨rfl, hs1, hb1, hx1, hz1, hb2⟩)); refine hK.out _ _ (⟨range_below hHeld.1 hb2, (hb2.cell (p := ⟨w.heap.size, 0, none⟩) (by simp; omega)).trans hHeld.2.1, (hb2.cell (p := ⟨g, 0, none⟩) (by simp; omega)).trans hHeld.2.2.1, (hb2.cell (p := ⟨g, 1, none⟩) (by simp; omega)).trans hHeld.2.2.2⟩) (fun hHeld => ?_); clear hK K; (try simp only [Act.put, List.setIfInBounds_toArray, List.set_cons_zero, List.set_cons_succ]))
  (refine Hd.endE (by kernel_rfl) ?_ _; refine NoPanic.normal ?_)
  have HS1 := Aside0.mk hs1
  have HB1 := Aside0.mk hb1
  have HX1 := Aside0.mk hx1
  clear hs1 hb1 hx1 hb2 PC hwz
  have hI0 : AddI w base g size ways (.slice (some ⟨b, 0, none⟩) m c) on m w.heap.size 23 [] w1 :=
    ⟨HX1.out, bf_below HF.out HB1.out, grown_of_below HB1.out _, HB1.out.size⟩
  have HI0 := Aside0.mk hI0
  clear hI0
  gi_wp2
  have hsz : size ≤ 65536 := by have := HK.out; unfold okF at this; omega
  have hwy : ways ≤ 8 := by have := HK.out; unfold okF at this; omega
  refine wpIn_rangeFunc_ownG rfl (by decide) (gf := 36) (lb := #[.pointer (some ⟨w.heap.size + 2, 0, none⟩), .pointer (some ⟨w.heap.size + 3, 0, none⟩), .pointer (some ⟨w.heap.size + 4, 0, none⟩)]) rfl trivial (enters_of Try.func36 (by kernel_rfl) rfl)
    (places_stops (3 - 1) (by decide) (KpZ (w.heap.size + 3)) (w.heap.size + 2) (w.heap.size + 3) (w.heap.size + 4) bs size ways h0 hsz hwy HY.out w1 HS1.out (fun W W' hk hb => hk.2 hb) (fun _ _ hk => hk.1)) kpz_t (kpz_b (by omega)) (Below.refl _ _) (fun _ => rfl)
    (AddI w base g size ways (.slice (some ⟨b, 0, none⟩) m c) on m w.heap.size 23)
    (fun _ _ _ => False)
    (addI_own w base g size ways _ on m _ _ _ (by omega))
    (fun _ _ _ _ _ hs _ _ => hs)
    HI0.out
    (fun x => { tmps := #[.pointer (some ⟨g, 0, none⟩), .agg (nums .u8 bs).toArray, .pointer (some ⟨w.heap.size, 0, none⟩), .pointer (some ⟨w.heap.size + 1, 0, none⟩), .int .i64 0, .int .i64 (x.1 : Int), .pointer (some ⟨g, 0, none⟩), .bool false, .agg (nums .u8 bs).toArray, .pointer (some ⟨g, 0, none⟩), .pointer (some ⟨g, 0, none⟩), .pointer (some ⟨g, 0, none⟩), .int .i64 size, .pointer (some ⟨g, 0, none⟩), .pointer (some ⟨g, 0, none⟩), .pointer (some ⟨g, 1, none⟩), .int .i64 ways, .func (.func 36) #[] #[.pointer (some ⟨w.heap.size + 2, 0, none⟩), .pointer (some ⟨w.heap.size + 3, 0, none⟩), .pointer (some ⟨w.heap.size + 4, 0, none⟩)], .int .i64 (x.1 : Int), undef, undef, undef, undef, undef, undef, undef, undef, undef, undef, undef, undef, undef], defers := [] }) ?assign ?body ?done ?stop
  case assign =>
    intro l x W K hK
    gi_wp2
    exact hK
  case body =>
    rintro l pre ⟨p, hp⟩ W ⟨hbox, hf, hg, hle⟩ hlt
    have hcb := obj_cell (v := .pointer (some ⟨g, 0, none⟩)) hbox 0 rfl
    have hc2 := obj_cell (v := .slice (some ⟨b, 0, none⟩) m c) hf.blk 2 rfl
    obtain ⟨i, hi⟩ : ∃ i, i = p / 64 := ⟨_, rfl⟩
    have him : i < m := by rw [hi, HM.out]; omega
    obtain ⟨hcell, hfz⟩ := Kd.R_cell (enc := Value.int .u64) (h1 := fun _ => rfl) (0 : Int) (g := b) (cap := c) (xs := wordsOf (BlW.lay on (outs pre)) m) (by have h := hf.row; rw [wordsOf_len] at ⊢; exact h) (i : Int) (by omega) (by rw [wordsOf_len]; omega)
    rw [show rdOf (0 : Int) (wordsOf (BlW.lay on (outs pre)) m) (i : Int) = ((wordOf (BlW.lay on (outs pre)) i : Nat) : Int) from wordsOf_get _ m i him] at hcell
    rw [Int.toNat_natCast] at hcell hfz
    have HI := Aside0.mk (show AddI w base g size ways (.slice (some ⟨b, 0, none⟩) m c) on m w.heap.size 23 pre W from ⟨hbox, hf, hg, hle⟩)
    have a1 : (p : Int) / 64 = (i : Int) := by omega
    have HI2 := Aside0.mk hi
    obtain ⟨q, hq⟩ : ∃ q, q = p % 64 := ⟨_, rfl⟩
    have a2 : (p : Int).tmod 64 = (q : Int) := by rw [hq]; rfl
    have hq64 : q < 64 := by omega
    obtain ⟨z, hz⟩ : ∃ z : Nat, z = 2 ^ q := ⟨_, rfl⟩
    have hzl : z < 18446744073709551616 := by
      have : (2 : Nat) ^ q < 2 ^ 64 := Nat.pow_lt_pow_right (by decide) hq64
      omega
    have a3 : IntKind.u64.wrap ((2 : Int) ^ q) = (z : Int) := by
      have e : ((2 : Int) ^ q) = ((2 ^ q : Nat) : Int) := by simp
      rw [e, ← hz]
      exact u64_in z hzl
    obtain ⟨y, hy⟩ : ∃ y : Nat, y = wordOf (BlW.lay on (outs pre)) i ||| z := ⟨_, rfl⟩
    have a4 : bits .or .u64 ((wordOf (BlW.lay on (outs pre)) i : Nat) : Int) (z : Int) = (y : Int) := by rw [hy]; exact bits_or_u64_nat _ _ (wordOf_lt _ _) hzl
    have HYY := Aside0.mk (show y = wordOf (BlW.lay on (outs pre)) (p / 64) ||| 2 ^ (p % 64) from by rw [hy, hz, hq, hi])
    have hP := Kd.R_putg (enc := Value.int .u64) (h1 := fun _ => rfl) (show Kd.R (Kd.int .u64) 68 W.drew base (fun _ => True) (.slice (some ⟨b, 0, none⟩) m c) (wordsOf (BlW.lay on (outs pre)) m) from Kd.R_drew hf.row) (i : Int) (y : Int)
    rw [Int.toNat_natCast] at hP
    have HP := Aside0.mk hP
    clear hP hq hz hy
    clear hbox hf hg hle hi
    gi_wp2
    (refine Hd.startI (S := (fun w' => w'.cell? ⟨w.heap.size, 0, none⟩ = some (.pointer (some ⟨g, 0, none⟩)) ∧ w'.cell? ⟨g, 2, none⟩ = some (.slice (some ⟨b, 0, none⟩) m c) ∧ w'.cell? ⟨b, i, none⟩ = some (.int .u64 ((wordOf (BlW.lay on (outs pre)) i : Nat) : Int)))) 13 (by kernel_rfl) (by kernel_rfl) (⟨hcb, hc2, hcell⟩) (fun hHeld => ?_))
    (refine Hd.takeE (i := 0) (v := ?_) rfl rfl (by kernel_rfl) (by kernel_rfl) (by kernel_rfl) (by kernel_rfl) (fun _ _ _ h => h) (Or.inl ⟨by rfl, ?_⟩) (by assumption) ?_; rotate_left; (focus (intro wS hS; (try go_split_ands); go_simp; all_goals (with_reducible rfl))); simp only [List.set_cons_zero, List.set_cons_succ, List.setIfInBounds_toArray]); (refine Hd.takeE (i := 1) (v := ?_) rfl rfl (by kernel_rfl) (by kernel_rfl) (by kernel_rfl) (by kernel_rfl) (fun _ _ _ h => h) (Or.inl ⟨by rfl, ?_⟩) (by assumption) ?_; rotate_left; (focus (intro wS hS; (try go_split_ands); go_simp; all_goals (with_reducible rfl))); simp only [List.set_cons_zero, List.set_cons_succ, List.setIfInBounds_toArray]); (refine Hd.takeE (i := 2) (v := ?_) rfl rfl (by kernel_rfl) (by kernel_rfl) (by kernel_rfl) (by kernel_rfl) (fun _ _ _ h => h) (Or.inl ⟨by rfl, ?_⟩) (by assumption) ?_; rotate_left; (focus (intro wS hS; (try go_split_ands); go_simp; all_goals (with_reducible rfl))); simp only [List.set_cons_zero, List.set_cons_succ, List.setIfInBounds_toArray]); (refine Hd.takeE (i := 3) (v := ?_) rfl rfl (by kernel_rfl) (by kernel_rfl) (by kernel_rfl) (by kernel_rfl) (fun _ _ _ h => h) (Or.inl ⟨by rfl, ?_⟩) (by assumption) ?_; rotate_left; (focus (intro wS hS; (try go_split_ands); go_simp; all_goals (with_reducible rfl))); simp only [List.set_cons_zero, List.set_cons_succ, List.setIfInBounds_toArray]); (refine Hd.takeE (i := 4) (v := ?_) rfl rfl (by kernel_rfl) (by kernel_rfl) (by kernel_rfl) (by kernel_rfl) (fun _ _ _ h => h) (Or.inl ⟨by rfl, ?_⟩) (by assumption) ?_; rotate_left; (focus (intro wS hS; (try go_split_ands); go_simp; all_goals (with_reducible rfl))); simp only [List.set_cons_zero, List.set_cons_succ, List.setIfInBounds_toArray]); (refine Hd.takeE (i := 5) (v := ?_) rfl rfl (by kernel_rfl) (by kernel_rfl) (by kernel_rfl) (by kernel_rfl) (fun _ _ _ h => h) (Or.inl ⟨by rfl, ?_⟩) (by assumption) ?_; rotate_left; (focus (intro wS hS; (try go_split_ands); go_simp; all_goals (with_reducible rfl))); simp only [List.set_cons_zero, List.set_cons_succ, List.setIfInBounds_toArray]); (refine Hd.takeE (i := 6) (v := ?_) rfl rfl (by kernel_rfl) (by kernel_rfl) (by kernel_rfl) (by kernel_rfl) (fun _ _ _ h => h) (Or.inl ⟨by rfl, ?_⟩) (by assumption) ?_; rotate_left; (focus (intro wS hS; (try go_split_ands); go_simp; all_goals (with_reducible rfl))); simp only [List.set_cons_zero, List.set_cons_succ, List.setIfInBounds_toArray]); (refine Hd.takeE (i := 7) (v := ?_) rfl rfl (by kernel_rfl) (by kernel_rfl) (by kernel_rfl) (by kernel_rfl) (fun _ _ _ h => h) (Or.inl ⟨by rfl, ?_⟩) (by assumption) ?_; rotate_left; (focus (intro wS hS; (try go_split_ands); go_simp; all_goals (with_reducible rfl))); simp only [List.set_cons_zero, List.set_cons_succ, List.setIfInBounds_toArray]); (refine Hd.takeE (i := 8) (v := ?_) rfl rfl (by kernel_rfl) (by kernel_rfl) (by kernel_rfl) (by kernel_rfl) (fun _ _ _ h => h) (Or.inl ⟨by rfl, ?_⟩) (by assumption) ?_; rotate_left; (focus (intro wS hS; (try go_split_ands); go_simp; all_goals (with_reducible rfl))); simp only [List.set_cons_zero, List.set_cons_succ, List.setIfInBounds_toArray]); (refine Hd.takeE (i := 9) (v := ?_) rfl rfl (by kernel_rfl) (by kernel_rfl) (by kernel_rfl) (by kernel_rfl) (fun _ _ _ h => h) (Or.inl ⟨by rfl, ?_⟩) (by assumption) ?_; rotate_left; (focus (intro wS hS; (try go_split_ands); go_simp; all_goals (with_reducible rfl))); simp only [List.set_cons_zero, List.set_cons_succ, List.setIfInBounds_toArray]); (refine Hd.takeE (i := 10) (v := ?_) rfl rfl (by kernel_rfl) (by kernel_rfl) (by kernel_rfl) (by kernel_rfl) (fun _ _ _ h => h) (Or.inl ⟨by rfl, ?_⟩) (by assumption) ?_; rotate_left; (focus (intro wS hS; (try go_split_ands); go_simp; all_goals (with_reducible rfl))); simp only [List.set_cons_zero, List.set_cons_succ, List.setIfInBounds_toArray])
    generalize wordOf (BlW.lay on (outs pre)) i = xx at *
    (refine Hd.takeE (i := 11) (v := ?_) rfl rfl (by kernel_rfl) (by kernel_rfl) (by kernel_rfl) (by kernel_rfl) (fun _ _ _ h => h) (Or.inl ⟨by rfl, ?_⟩) (by assumption) ?_; rotate_left; (focus (intro wS hS; (try go_split_ands); go_simp; all_goals (with_reducible rfl))); simp only [List.set_cons_zero, List.set_cons_succ, List.setIfInBounds_toArray]); (refine Hd.takeE (i := 12) (v := ?_) rfl rfl (by kernel_rfl) (by kernel_rfl) (by kernel_rfl) (by kernel_rfl) (fun _ _ _ h => h) (Or.inl ⟨by rfl, ?_⟩) (by assumption) ?_; rotate_left; (focus (intro wS hS; (try go_split_ands); go_simp; all_goals (with_reducible rfl))); simp only [List.set_cons_zero, List.set_cons_succ, List.setIfInBounds_toArray])
    (refine Hd.readyE (rs := [13]) (by kernel_rfl) (by simp) ?_; refine Hd.AllE.last (i := 13) rfl (fun K hK => ?_); go_simp; refine hK.out _ _ ?_; clear hK K; (try simp only [Act.put, List.setIfInBounds_toArray, List.set_cons_zero, List.set_cons_succ]))
    (refine Hd.endE (by kernel_rfl) ?_ _)
    have hL : BlW.lay on (outs (pre ++ [⟨p, hp⟩])) = put1 (BlW.lay on (outs pre)) (p : Int) := by simp [outs, BlW.lay]
    obtain ⟨hbox, hf, hg, hle⟩ := HI.out
    obtain ⟨b', c', cur', e1, _, hh', _⟩ := row_form hf.row (by rw [wordsOf_len]; exact hm1)
    injection e1 with e1 _ _
    injection e1 with e1
    injection e1 with e1 _ _
    subst e1
    have hset : w.heap.size ≤ W.heap.size := hle
    refine ⟨((KeepsOthers.drew W).trans (KeepsOthers.setCell _ _ _)).from _, ⟨by simp [World.setCell], fun _ => ?_⟩, ⟨?_, ⟨hf.ge, ?_, ?_⟩, ?_, by simp [World.setCell]; exact hle⟩⟩
    · exact World.cell?_setCell_far _ _ _ _ (by show b ≠ w.heap.size + 3; omega)
    · exact (Below.heap_setCell _ _ _ _ (by show w.heap.size ≠ b; omega)).trans hbox
    · have h1 := bf_kept (v' := .slice none 0 0) (ws' := []) hf hh' (by decide) (World.grownBy.trans (b := W.drew) ⟨rfl, rfl, rfl, Nat.le_refl _, fun _ _ _ => rfl⟩ HP.out.2)
      exact h1
    · rw [hL, ← words_put, ← HYY.out, ← HI2.out]
      exact HP.out.1
    · exact hg.trans (World.grownBy.trans (b := W.drew) ⟨rfl, rfl, rfl, Nat.le_refl _, fun _ _ _ => rfl⟩ HP.out.2)
  case done =>
    rintro D ys W hD rfl hI hK
    gi_wp2
    refine ⟨by simp, .inl ⟨_, _, rfl, run_takeDeferred hK, ?_⟩⟩
    have hI2 := (addI_own w base g size ways (.slice (some ⟨b, 0, none⟩) m c) on m w.heap.size 23 w1.heap.size (by omega)).putObj (.deferred none) hI hD hK rfl
    exact ⟨_, results_tmp rfl _ _ _, rfl, by rw [wordsOf_len]; exact hI2.f, by rw [wordsOf_len]; exact hI2.g⟩
  case stop =>
    rintro D c pre W _ _ h _
    exact h.elim
theorem add_calls (w : World) (base g size ways : Nat) (v : Value) (on : List Int) (m : Nat) (bs : List Int) (h : BF w base g size ways v (wordsOf on m)) (hk : okF size ways) (hm : m = (size + 63) / 64) (hl : bs.length = 32) (hbs : Bytes bs) :
    Calls Try.prog 15 #[.pointer (some ⟨g, 0, none⟩), .agg (nums .u8 bs).toArray] w fun e w' => e = .returned (.int .i64 0) ∧ BF w' base g size ways v (wordsOf (BlW.lay on (plL bs size ways)) m) ∧ w.grownBy w' v.ownBlock := by
  have h0 : 0 < size := by unfold okF at hk; omega
  have h := callsIn_wide.1 (add_in w base g size ways v on m bs h hk hm hl hbs h0)
  rw [outs_eq bs size ways h0 hk] at h
  exact h
end Go.Proofs.Ytnpcngnmjbhhaaa.BlA
