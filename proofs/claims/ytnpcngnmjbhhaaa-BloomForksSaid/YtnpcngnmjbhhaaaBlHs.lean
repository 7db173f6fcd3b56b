/- What the program's Has computes: are all the places of a sum on? condition: a sum is 32 bytes, the summary is right. -/
import Derived.Test.YtnpcngnmjbhhaaaBlA
namespace Go.Proofs.Ytnpcngnmjbhhaaa.BlHs
open Go Go.RowKit Go.Shelf Go.Proofs.YtnpcngnmjbhhaaaW.PrintWords Go.Proofs.Ytnpcngnmjbhhaaa.K Go.Proofs.Ytnpcngnmjbhhaaa.OctS Go.Proofs.Ytnpcngnmjbhhaaa.OctP Go.Proofs.Ytnpcngnmjbhhaaa.BlS Go.Proofs.Ytnpcngnmjbhhaaa.BlP Go.Proofs.Ytnpcngnmjbhhaaa.BlC Go.Proofs.Ytnpcngnmjbhhaaa.BlD Go.Proofs.Ytnpcngnmjbhhaaa.BlN Go.Proofs.Ytnpcngnmjbhhaaa.BlF Go.Proofs.Ytnpcngnmjbhhaaa.BlW Go.Proofs.Ytnpcngnmjbhhaaa.BlO Go.Proofs.Ytnpcngnmjbhhaaa.BlQ Go.Proofs.Ytnpcngnmjbhhaaa.BlR Go.Proofs.Ytnpcngnmjbhhaaa.BlA Go.Proofs.Ytnpcngnmjbhhaaa.Oct
set_option linter.unusedVariables false
set_option linter.unusedSimpArgs false
attribute [local go_sem] Oper.semAt_some
/-- What holds between the rounds of Has. -/
structure HasI (w : World) (base g : Nat) (size ways : Nat) (v : Value) (on : List Int) (m : Nat) (pt bt : Nat) (pre : List (Fin size)) (W : World) : Prop where
  box : W.heap[w.heap.size]? = some (.cells #[.pointer (some ⟨g, 0, none⟩)] pt (0, 0))
  res : W.heap[w.heap.size + 2]? = some (.cells #[.bool false] bt (0, 0))
  f : BF W base g size ways v (wordsOf on m)
  b : Below w.heap.size w W
  yes : (outs pre).all (fun p => on.contains p) = true
theorem hasI_own (w : World) (base g size ways : Nat) (v : Value) (on : List Int) (m pt bt n₀ : Nat) (hn : w.heap.size ≤ n₀) : OwnFrom n₀ (HasI w base g size ways v on m pt bt) := fun pre W W' row h hg hr =>
  ⟨cells_kept h.box rfl hg hr, cells_kept h.res rfl hg hr, ⟨h.f.ge, cells_kept h.f.blk rfl hg hr, row_kept h.f.row hg hr⟩, h.b.grown hg h.b.size (fun k e => by have := (hr k e).1; omega), h.yes⟩
/-- What holds where Has leaves a round. -/
structure HasX (w : World) (size : Nat) (on : List Int) (bt : Nat) (pre : List (Fin size)) (W : World) : Prop where
  res : W.heap[w.heap.size + 2]? = some (.cells #[.bool false] bt (0, 0))
  b : Below w.heap.size w W
  no : (outs pre).all (fun p => on.contains p) = false
theorem hasX_own (w : World) (size : Nat) (on : List Int) (bt n₀ : Nat) (hn : w.heap.size ≤ n₀) : OwnFrom n₀ (HasX w size on bt) := fun pre W W' row h hg hr =>
  ⟨cells_kept h.res rfl hg hr, h.b.grown hg h.b.size (fun k e => by have := (hr k e).1; omega), h.no⟩
theorem all_prefix {size : Nat} {pre ys : List (Fin size)} (h : pre <+: ys) (f : Int → Bool) (hn : (outs pre).all f = false) : (outs ys).all f = false := by
  obtain ⟨t, rfl⟩ := h
  have e : outs (pre ++ t) = outs pre ++ outs t := by simp [outs]
  rw [e, List.all_append, hn]
  rfl
theorem res_cell {P : Program} {fn : Func} {t ty k : Nat} {v : Value} {W : World} {tmps : Array Value} (hr : fn.results = #[.cell t ty]) (ht : tmps.getD t undef = .pointer (some ⟨k, 0, none⟩)) (hu : (isAgg ty).run P W = .ok false W) (hc : W.cell? ⟨k, 0, none⟩ = some v) : (results fn tmps).run P W = .ok v W := by
  have hl : (loadVar ty ⟨k, 0, none⟩).run P W = .ok v W := by
    simp only [loadVar, Sem.run_bind, hu, Result.andThen_ok]
    simp [go_sem, hc]
  have ht' : tmps[t]?.getD undef = .pointer (some ⟨k, 0, none⟩) := by simpa using ht
  simp [results, hr, Sem.run_bind, ht', asAddr, hl]
set_option maxRecDepth 100000 in
set_option maxHeartbeats 4000000 in
theorem has_in (w : World) (base g size ways : Nat) (v : Value) (on : List Int) (m : Nat) (bs : List Int) (h : BF w base g size ways v (wordsOf on m)) (hk : okF size ways) (hm : m = (size + 63) / 64) (hl : bs.length = 32) (hbs : Bytes bs) (h0 : 0 < size) :
    CallsIn Fence.wide 3 Try.prog 16 #[.pointer (some ⟨g, 0, none⟩), .agg (nums .u8 bs).toArray] w fun e w' => e = .returned (.bool ((outs (pfs bs size h0 ways)).all (fun p => on.contains p))) ∧ Below w.heap.size w w' := by
  have hund := Try.underlying22
  have hi32 := infoSum bs hl
  have HF := Aside0.mk h
  have HL := Aside0.mk hl
  have HY := Aside0.mk hbs
  have HK := Aside0.mk hk
  have HM := Aside0.mk hm
  have hm1 : 0 < m := by rw [hm]; omega
  obtain ⟨b, c, cur, rfl, hb, hh, r1, r2, r3, r4⟩ := row_form h.row (by rw [wordsOf_len]; exact hm1)
  have hg0 := bf_lt h
  have hb0 : b < w.heap.size := (Array.getElem?_eq_some_iff.1 hh).1
  have HH := Aside0.mk hh
  rw [wordsOf_len] at HF
  clear r1 r2 r3 r4 h hk hm hl hbs hh
  refine callsIn_of_wp_marks Try.func16 rfl trivial ?_ rfl
  simp only [Try.ntmps16, List.size_toArray, List.length_cons, List.length_nil, Nat.reduceAdd, Nat.reduceSub, Array.replicate_succ, Array.replicate_zero, List.push_toArray, List.append_toArray, List.nil_append, List.cons_append]
  gi_wp2
  have HB2 := Aside0.mk (below_alloc (below_alloc (below_alloc (Below.refl w.heap.size w) (.cells #[.pointer (some ⟨g, 0, none⟩)] 23)) (.cells (nums .u8 bs).toArray 22)) (.cells #[.bool false] 4))
  have hbx : (((w.alloc (.cells #[.pointer (some ⟨g, 0, none⟩)] 23)).alloc (.cells (nums .u8 bs).toArray 22)).alloc (.cells #[.bool false] 4)).heap[w.heap.size]? = some (.cells #[.pointer (some ⟨g, 0, none⟩)] 23) := (Below.heap_alloc _ _ _ (by simp; omega)).trans ((Below.heap_alloc _ _ _ (by simp)).trans (heap_alloc_new w _))
  have hrs : (((w.alloc (.cells #[.pointer (some ⟨g, 0, none⟩)] 23)).alloc (.cells (nums .u8 bs).toArray 22)).alloc (.cells #[.bool false] 4)).heap[w.heap.size + 2]? = some (.cells #[.bool false] 4) := by have h := heap_alloc_new ((w.alloc (.cells #[.pointer (some ⟨g, 0, none⟩)] 23)).alloc (.cells (nums .u8 bs).toArray 22)) (.cells #[.bool false] 4); simpa using h
  have cbx : (((w.alloc (.cells #[.pointer (some ⟨g, 0, none⟩)] 23)).alloc (.cells (nums .u8 bs).toArray 22)).alloc (.cells #[.bool false] 4)).cell? ⟨w.heap.size, 0, none⟩ = some (.pointer (some ⟨g, 0, none⟩)) := obj_cell (t := 23) (cs := #[.pointer (some ⟨g, 0, none⟩)]) hbx 0 rfl
  have crg : (((w.alloc (.cells #[.pointer (some ⟨g, 0, none⟩)] 23)).alloc (.cells (nums .u8 bs).toArray 22)).alloc (.cells #[.bool false] 4)).rangeAt (w.heap.size + 1) 0 (nums .u8 bs) := by have h := range_new (w.alloc (.cells #[.pointer (some ⟨g, 0, none⟩)] 23)) (nums .u8 bs) 22; rw [World.size_alloc] at h; exact World.rangeAt_alloc h _
  have HBX := Aside0.mk hbx
  have HRS := Aside0.mk hrs
  clear hbx hrs
  have c0 := (HB2.out.cell (p := ⟨g, 0, none⟩) hg0).trans (obj_cell (v := .int .i64 size) HF.out.blk 0 rfl)
  have c1 := (HB2.out.cell (p := ⟨g, 1, none⟩) hg0).trans (obj_cell (v := .int .i64 ways) HF.out.blk 1 rfl)
  (refine wpIn_wide.2 ?_; refine wp_region_noPanic ?_; refine Hd.startE (S := (fun w' => w'.rangeAt (w.heap.size + 1) 0 (nums .u8 bs) ∧ w'.cell? ⟨w.heap.size, 0, none⟩ = some (.pointer (some ⟨g, 0, none⟩)) ∧ w'.cell? ⟨g, 0, none⟩ = some (.int .i64 size) ∧ w'.cell? ⟨g, 1, none⟩ = some (.int .i64 ways))) 1000 (by kernel_rfl) (⟨(World.rangeAt_drew _ _ _ _).2 crg, cbx, c0, c1⟩) (fun hHeld => ?_))
  (refine Hd.takeE (i := 0) rfl rfl (by kernel_rfl) (by kernel_rfl) (by kernel_rfl) (by kernel_rfl) (fun _ _ _ h => h) (yieldsIf_load_mid (by rfl) 22 _ rfl (w.heap.size + 1) 0 rfl (nums .u8 bs) _ (fun wS hS => hS.1) hund rfl hi32) (by assumption) ?_; simp only [List.set_cons_zero, List.set_cons_succ, List.setIfInBounds_toArray])
  (refine Hd.takeE (i := 1) (v := ?_) rfl rfl (by kernel_rfl) (by kernel_rfl) (by kernel_rfl) (by kernel_rfl) (fun _ _ _ h => h) (Or.inl ⟨by rfl, ?_⟩) (by assumption) ?_; rotate_left; (focus (intro wS hS; (try go_split_ands); go_simp; all_goals (with_reducible rfl))); simp only [List.set_cons_zero, List.set_cons_succ, List.setIfInBounds_toArray]); (refine Hd.takeE (i := 2) (v := ?_) rfl rfl (by kernel_rfl) (by kernel_rfl) (by kernel_rfl) (by kernel_rfl) (fun _ _ _ h => h) (Or.inl ⟨by rfl, ?_⟩) (by assumption) ?_; rotate_left; (focus (intro wS hS; (try go_split_ands); go_simp; all_goals (with_reducible rfl))); simp only [List.set_cons_zero, List.set_cons_succ, List.setIfInBounds_toArray]); (refine Hd.takeE (i := 3) (v := ?_) rfl rfl (by kernel_rfl) (by kernel_rfl) (by kernel_rfl) (by kernel_rfl) (fun _ _ _ h => h) (Or.inl ⟨by rfl, ?_⟩) (by assumption) ?_; rotate_left; (focus (intro wS hS; (try go_split_ands); go_simp; all_goals (with_reducible rfl))); simp only [List.set_cons_zero, List.set_cons_succ, List.setIfInBounds_toArray]); (refine Hd.takeE (i := 4) (v := ?_) rfl rfl (by kernel_rfl) (by kernel_rfl) (by kernel_rfl) (by kernel_rfl) (fun _ _ _ h => h) (Or.inl ⟨by rfl, ?_⟩) (by assumption) ?_; rotate_left; (focus (intro wS hS; (try go_split_ands); go_simp; all_goals (with_reducible rfl))); simp only [List.set_cons_zero, List.set_cons_succ, List.setIfInBounds_toArray]); (refine Hd.takeE (i := 5) (v := ?_) rfl rfl (by kernel_rfl) (by kernel_rfl) (by kernel_rfl) (by kernel_rfl) (fun _ _ _ h => h) (Or.inl ⟨by rfl, ?_⟩) (by assumption) ?_; rotate_left; (focus (intro wS hS; (try go_split_ands); go_simp; all_goals (with_reducible rfl))); simp only [List.set_cons_zero, List.set_cons_succ, List.setIfInBounds_toArray]); (refine Hd.takeE (i := 6) (v := ?_) rfl rfl (by kernel_rfl) (by kernel_rfl) (by kernel_rfl) (by kernel_rfl) (fun _ _ _ h => h) (Or.inl ⟨by rfl, ?_⟩) (by assumption) ?_; rotate_left; (focus (intro wS hS; (try go_split_ands); go_simp; all_goals (with_reducible rfl))); simp only [List.set_cons_zero, List.set_cons_succ, List.setIfInBounds_toArray]); (refine Hd.takeE (i := 7) (v := ?_) rfl rfl (by kernel_rfl) (by kernel_rfl) (by kernel_rfl) (by kernel_rfl) (fun _ _ _ h => h) (Or.inl ⟨by rfl, ?_⟩) (by assumption) ?_; rotate_left; (focus (intro wS hS; (try go_split_ands); go_simp; all_goals (with_reducible rfl))); simp only [List.set_cons_zero, List.set_cons_succ, List.setIfInBounds_toArray]); (refine Hd.takeE (i := 8) (v := ?_) rfl rfl (by kernel_rfl) (by kernel_rfl) (by kernel_rfl) (by kernel_rfl) (fun _ _ _ h => h) (Or.inl ⟨by rfl, ?_⟩) (by assumption) ?_; rotate_left; (focus (intro wS hS; (try go_split_ands); go_simp; all_goals (with_reducible rfl))); simp only [List.set_cons_zero, List.set_cons_succ, List.setIfInBounds_toArray])
  clear crg cbx c0 c1
  have hwz : (((w.alloc (.cells #[.pointer (some ⟨g, 0, none⟩)] 23)).alloc (.cells (nums .u8 bs).toArray 22)).alloc (.cells #[.bool false] 4)).drew.heap.size = w.heap.size + 3 := by simp
  have PC : Calls Try.prog 28 #[.agg (nums .u8 bs).toArray, .int .i64 size, .int .i64 ways] (((w.alloc (.cells #[.pointer (some ⟨g, 0, none⟩)] 23)).alloc (.cells (nums .u8 bs).toArray 22)).alloc (.cells #[.bool false] 4)).drew fun e w' =>
      e = .returned (.func (.func 36) #[] #[.pointer (some ⟨w.heap.size + 3, 0, none⟩), .pointer (some ⟨w.heap.size + 4, 0, none⟩), .pointer (some ⟨w.heap.size + 5, 0, none⟩)]) ∧
        Seat w' (w.heap.size + 3) (w.heap.size + 4) (w.heap.size + 5) bs size ways ∧ Below w.heap.size w w' ∧ w'.heap[w.heap.size]? = some (.cells #[.pointer (some ⟨g, 0, none⟩)] 23) ∧ w'.heap[w.heap.size + 2]? = some (.cells #[.bool false] 4) ∧ w'.heap.size = w.heap.size + 6 ∧ Below (((w.alloc (.cells #[.pointer (some ⟨g, 0, none⟩)] 23)).alloc (.cells (nums .u8 bs).toArray 22)).alloc (.cells #[.bool false] 4)).drew.heap.size (((w.alloc (.cells #[.pointer (some ⟨g, 0, none⟩)] 23)).alloc (.cells (nums .u8 bs).toArray 22)).alloc (.cells #[.bool false] 4)).drew w' := by
    have hs := seat_new (((w.alloc (.cells #[.pointer (some ⟨g, 0, none⟩)] 23)).alloc (.cells (nums .u8 bs).toArray 22)).alloc (.cells #[.bool false] 4)).drew bs size ways HL.out
    refine (places_calls bs size ways (((w.alloc (.cells #[.pointer (some ⟨g, 0, none⟩)] 23)).alloc (.cells (nums .u8 bs).toArray 22)).alloc (.cells #[.bool false] 4)).drew).mono ?_
    rintro e w' ⟨he, rfl⟩
    rw [hwz] at he hs
    refine ⟨he, hs, below_alloc (below_alloc (below_alloc (below_drew1 HB2.out) _) _) _, ?_, ?_, by simp, below_alloc (below_alloc (below_alloc (Below.refl _ (((w.alloc (.cells #[.pointer (some ⟨g, 0, none⟩)] 23)).alloc (.cells (nums .u8 bs).toArray 22)).alloc (.cells #[.bool false] 4)).drew) _) _) _⟩
    · rw [Below.heap_alloc _ _ _ (by simp; omega), Below.heap_alloc _ _ _ (by simp; omega), Below.heap_alloc _ _ _ (by simp; omega)]
      exact HBX.out
    · rw [Below.heap_alloc _ _ _ (by simp; try omega), Below.heap_alloc _ _ _ (by simp; try omega), Below.heap_alloc _ _ _ (by simp; try omega)]
      exact HRS.out
  (refine Hd.readyE (rs := [9]) (by kernel_rfl) (by simp) ?_; refine Hd.AllE.cons (i := 9) rfl (fun K hK => ?_) Hd.AllE.nil; (go_simp; (go_at_call 28; (with_reducible refine PC.mono ?_); rintro e w1 ⟨rfl, hs1, hb1, hx1, hy1, hz1, hb2⟩)); refine hK.out _ _ (⟨range_below hHeld.1 hb2, (hb2.cell (p := ⟨w.heap.size, 0, none⟩) (by simp; omega)).trans hHeld.2.1, (hb2.cell (p := ⟨g, 0, none⟩) (by simp; omega)).trans hHeld.2.2.1, (hb2.cell (p := ⟨g, 1, none⟩) (by simp; omega)).trans hHeld.2.2.2⟩) (fun hHeld => ?_); clear hK K; (try simp only [Act.put, List.setIfInBounds_toArray, List.set_cons_zero, List.set_cons_succ]))
  (refine Hd.endE (by kernel_rfl) ?_ _; refine NoPanic.normal ?_)
  have HS1 := Aside0.mk hs1
  have HB1 := Aside0.mk hb1
  have HX1 := Aside0.mk hx1
  have HI0 := Aside0.mk (show HasI w base g size ways (.slice (some ⟨b, 0, none⟩) m c) on m 23 4 [] w1 from ⟨hx1, hy1, bf_below HF.out hb1, hb1, by simp [outs]⟩)
  clear hs1 hb1 hx1 hy1 hb2 PC hwz
  gi_wp2
  have hsz : size ≤ 65536 := by have := HK.out; unfold okF at this; omega
  have hwy : ways ≤ 8 := by have := HK.out; unfold okF at this; omega
  refine wpIn_rangeFunc_ownG rfl (by decide) (gf := 36) (lb := #[.pointer (some ⟨w.heap.size + 3, 0, none⟩), .pointer (some ⟨w.heap.size + 4, 0, none⟩), .pointer (some ⟨w.heap.size + 5, 0, none⟩)]) rfl trivial (enters_of Try.func36 (by kernel_rfl) rfl)
    (places_stops (3 - 1) (by decide) (KpZ (w.heap.size + 4)) (w.heap.size + 3) (w.heap.size + 4) (w.heap.size + 5) bs size ways h0 hsz hwy HY.out w1 HS1.out (fun W W' hk hb => hk.2 hb) (fun _ _ hk => hk.1)) kpz_t (kpz_b (by omega)) (Below.refl _ _) (fun _ => rfl)
    (HasI w base g size ways (.slice (some ⟨b, 0, none⟩) m c) on m 23 4)
    (fun cd pre W => cd = Code.ret ∧ HasX w size on 4 pre W)
    (hasI_own w base g size ways _ on m _ _ _ (by omega))
    (fun cd pre W W' row h hg hr => ⟨h.1, hasX_own w size on _ _ (by omega) pre W W' row h.2 hg hr⟩)
    HI0.out
    (fun x => { tmps := #[.pointer (some ⟨g, 0, none⟩), .agg (nums .u8 bs).toArray, .pointer (some ⟨w.heap.size, 0, none⟩), .pointer (some ⟨w.heap.size + 1, 0, none⟩), .pointer (some ⟨w.heap.size + 2, 0, none⟩), .int .i64 (x.1 : Int), .pointer (some ⟨g, 0, none⟩), .bool false, .agg (nums .u8 bs).toArray, .pointer (some ⟨g, 0, none⟩), .pointer (some ⟨g, 0, none⟩), .pointer (some ⟨g, 0, none⟩), .int .i64 size, .pointer (some ⟨g, 0, none⟩), .pointer (some ⟨g, 0, none⟩), .pointer (some ⟨g, 1, none⟩), .int .i64 ways, .func (.func 36) #[] #[.pointer (some ⟨w.heap.size + 3, 0, none⟩), .pointer (some ⟨w.heap.size + 4, 0, none⟩), .pointer (some ⟨w.heap.size + 5, 0, none⟩)], .int .i64 (x.1 : Int), undef, undef, undef, undef, undef, undef, undef, undef, undef, undef, undef, undef, undef], defers := [] }) ?assign ?body ?done ?stop
  case assign =>
    intro l x W K hK
    gi_wp2
    exact hK
  case body =>
    rintro l pre ⟨p, hp⟩ W ⟨hbox, hres, hf, hg, hyes⟩ hlt
    have hcb := obj_cell (v := .pointer (some ⟨g, 0, none⟩)) hbox 0 rfl
    have hc2 := obj_cell (v := .slice (some ⟨b, 0, none⟩) m c) hf.blk 2 rfl
    have hcr := obj_cell (v := .bool false) hres 0 rfl
    have hfr := obj_free hres 0
    obtain ⟨i, hi⟩ : ∃ i, i = p / 64 := ⟨_, rfl⟩
    have him : i < m := by rw [hi, HM.out]; omega
    obtain ⟨hcell, hfz⟩ := Kd.R_cell (enc := Value.int .u64) (h1 := fun _ => rfl) (0 : Int) (g := b) (cap := c) (xs := wordsOf on m) (by have h := hf.row; rw [wordsOf_len] at ⊢; exact h) (i : Int) (by omega) (by rw [wordsOf_len]; omega)
    rw [show rdOf (0 : Int) (wordsOf on m) (i : Int) = ((wordOf on i : Nat) : Int) from wordsOf_get _ m i him] at hcell
    rw [Int.toNat_natCast] at hcell hfz
    have HI := Aside0.mk (show HasI w base g size ways (.slice (some ⟨b, 0, none⟩) m c) on m 23 4 pre W from ⟨hbox, hres, hf, hg, hyes⟩)
    have a1 : (p : Int) / 64 = (i : Int) := by omega
    obtain ⟨q, hq⟩ : ∃ q, q = p % 64 := ⟨_, rfl⟩
    have a2 : (p : Int).tmod 64 = (q : Int) := by rw [hq]; rfl
    have hq64 : q < 64 := by omega
    have hask := word_ask on p
    rw [← hi, ← hq] at hask
    have hwl := wordOf_lt on i
    clear hbox hf hg hyes hi hq hres
    generalize wordOf on i = xx at *
    obtain ⟨y, hy⟩ : ∃ y : Nat, y = xx / 2 ^ q := ⟨_, rfl⟩
    have hyl : y < 18446744073709551616 := by rw [hy]; exact Nat.lt_of_le_of_lt (Nat.div_le_self _ _) hwl
    have a3 : (xx : Int) / 2 ^ q = (y : Int) := by rw [hy]; simp
    rw [← hy] at hask
    have a4 : bits .and .u64 (y : Int) 1 = ((y &&& 1 : Nat) : Int) := bits_and_u64_nat y 1 hyl (by decide)
    rw [hask] at a4
    clear hy hask
    by_cases hc : on.contains (p : Int) = true
    · rw [if_pos hc] at a4
      have HC := Aside0.mk hc
      clear hc
      gi_wp2
      exact ⟨KeepsFrom.refl _ _, ⟨Nat.le_refl _, fun _ => rfl⟩, HI.out.box, HI.out.res, HI.out.f, HI.out.b, by
        have e : outs (pre ++ [⟨p, hp⟩]) = outs pre ++ [(p : Int)] := by simp [outs]
        rw [e, List.all_append, HI.out.yes, List.all_cons, HC.out]; rfl⟩
    · rw [if_neg hc] at a4
      have HC := Aside0.mk (Bool.eq_false_iff.2 hc)
      clear hc
      gi_wp2
      refine ⟨(KeepsOthers.setCell _ _ _).from _, rfl, ?_, HI.out.b.setCell (by show w.heap.size ≤ w.heap.size + 1 + 1; omega) _, ?_⟩
      · exact obj_set HI.out.res 0 _
      · have e : outs (pre ++ [⟨p, hp⟩]) = outs pre ++ [(p : Int)] := by simp [outs]
        rw [e, List.all_append, HI.out.yes, List.all_cons, HC.out]; rfl
  case done =>
    rintro D ys W hD rfl hI hK
    have hcr := obj_cell (v := .bool false) hI.res 0 rfl
    have hfr := obj_free hI.res 0
    have HI := Aside0.mk hI
    clear hI
    gi_wp2
    have hD2 : D ≠ w.heap.size + 2 := by omega
    have hK2 : (W.setCell ⟨w.heap.size + 2, 0, none⟩ (.bool true)).heap[D]? = some (.deferred (some [])) := (Below.heap_setCell _ _ _ _ hD2).trans hK
    refine ⟨by simp, .inl ⟨_, _, rfl, run_takeDeferred hK2, ?_⟩⟩
    have hg := grownBy_putObj' (W.setCell ⟨w.heap.size + 2, 0, none⟩ (.bool true)) D (.deferred none)
    have hr : ((W.setCell ⟨w.heap.size + 2, 0, none⟩ (.bool true)).putObj D (.deferred none)).heap[w.heap.size + 2]? = some (.cells #[.bool true] 4 (0, 0)) :=
      (hg.block _ (by have := (Array.getElem?_eq_some_iff.1 HI.out.res).1; simp [World.setCell]; exact this) (fun e => by injection e with e; exact hD2 e.symm)).trans (obj_set HI.out.res 0 _)
    refine ⟨_, res_cell (k := w.heap.size + 2) rfl rfl (by go_simp) (obj_cell hr 0 rfl), ?_, ?_⟩
    · rw [HI.out.yes]; rfl
    · exact ((HI.out.b.setCell (by show w.heap.size ≤ w.heap.size + 2; omega) _)).grown hg (by have := HI.out.b.size; simp [World.setCell]; exact this) (fun k e => by injection e with e; omega)
  case stop =>
    rintro D cd pre W hD hpre ⟨rfl, hX⟩ hK
    have HX := Aside0.mk hX
    refine wpIn_ret ?_
    show LeavesInM _ _ _ _ _ _ _ _ _
    refine ⟨by simp, .inl ⟨_, _, rfl, run_takeDeferred hK, ?_⟩⟩
    have hX2 := (hasX_own w size on 4 w1.heap.size (by omega)).putObj (.deferred none) HX.out hD hK rfl
    refine ⟨_, res_cell (k := w.heap.size + 2) rfl rfl (by go_simp) (obj_cell hX2.res 0 rfl), ?_, hX2.b⟩
    rw [all_prefix hpre _ hX2.no]; rfl
theorem has_calls (w : World) (base g size ways : Nat) (v : Value) (on : List Int) (m : Nat) (bs : List Int) (h : BF w base g size ways v (wordsOf on m)) (hk : okF size ways) (hm : m = (size + 63) / 64) (hl : bs.length = 32) (hbs : Bytes bs) :
    Calls Try.prog 16 #[.pointer (some ⟨g, 0, none⟩), .agg (nums .u8 bs).toArray] w fun e w' => e = .returned (.bool ((plL bs size ways).all (fun p => on.contains p))) ∧ Below w.heap.size w w' := by
  have h0 : 0 < size := by unfold okF at hk; omega
  have h := callsIn_wide.1 (has_in w base g size ways v on m bs h hk hm hl hbs h0)
  rw [outs_eq bs size ways h0 hk] at h
  exact h
theorem has_nil (w : World) (bs : List Int) : Calls Try.prog 16 #[.pointer none, .agg (nums .u8 bs).toArray] w fun e w' => e = .returned (.bool false) ∧ Below w.heap.size w w' := by
  go_enter Try.func16, Try.ntmps16
  go_wp2
  refine bodyPost_ret (res_cell (v := .bool false) (k := w.heap.size + 2) rfl rfl (by go_simp) ?_) rfl ⟨rfl, below_alloc (below_alloc (below_alloc (Below.refl _ _) _) _) _⟩
  exact obj_cell (t := 4) (cs := #[.bool false]) (by have h := heap_alloc_new ((w.alloc (.cells #[.pointer none] 23)).alloc (.cells (nums .u8 bs).toArray 22)) (.cells #[.bool false] 4); simpa using h) 0 rfl
end Go.Proofs.Ytnpcngnmjbhhaaa.BlHs
