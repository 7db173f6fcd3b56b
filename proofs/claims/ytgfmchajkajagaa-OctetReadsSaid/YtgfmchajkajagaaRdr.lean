/- What the methods of a reader compute, and that the fixed cases of live answer true; conditions: the reader stands in a block of its own. -/
import Derived.Test.YtgfmchajkajagaaOct
namespace Go.Proofs.Ytgfmchajkajagaa.Rdr
open Go.RowKit Go.Proofs.YtgfmchajkajagaaW.PrintWords Go.Proofs.YtgfmchajkajagaaW.PrintLast Go.Proofs.YtgfmchajkajagaaW.PrintMore Go.Proofs.Ytgfmchajkajagaa.K Go.Proofs.Ytgfmchajkajagaa.OctS Go.Proofs.Ytgfmchajkajagaa.Oct
set_option linter.unusedVariables false

/-- A reader of the program's: its block, its bytes. -/
structure Rdr (w : World) (base g : Nat) (v : Value) (b : List Int) (pl f : Int) : Prop where
  ge : base ≤ g
  blk : w.heap[g]? = some (.cells #[.int .i64 pl, .int .i64 f, v] 60 (0, 0))
  row : Kd.R (Kd.int .u8) 5 w base (fun _ => True) (v) (b)

theorem off_no (g : Nat) (v : Value) (pl : Int) (w : World) (h : w.heap[g]? = some (.cells #[.int .i64 pl, .int .i64 0, v] 60 (0, 0))) :
    Calls Try.prog 35 #[.pointer (some ⟨g, 0, none⟩)] w fun e w' => e = .returned (.bool false) ∧ w = w' := by
  have h1 := obj_cell h 1 rfl
  go_enter Try.func35, Try.ntmps35
  go_wp2
  go_ret
  exact ⟨rfl, rfl⟩
theorem off_yes (g : Nat) (v : Value) (pl f : Int) (hf : f ≠ 0) (w : World) (h : w.heap[g]? = some (.cells #[.int .i64 pl, .int .i64 f, v] 60 (0, 0))) :
    Calls Try.prog 35 #[.pointer (some ⟨g, 0, none⟩)] w fun e w' => e = .returned (.bool true) ∧ w = w' := by
  have h1 := obj_cell h 1 rfl
  have h2 : (f != 0) = true := by simpa using hf
  go_enter Try.func35, Try.ntmps35
  go_wp2
  go_ret
  exact ⟨rfl, rfl⟩
theorem off_nil (w : World) :
    Calls Try.prog 35 #[.pointer none] w fun e w' => e = .returned (.bool true) ∧ w = w' := by
  go_enter Try.func35, Try.ntmps35
  go_wp2
  go_ret
  exact ⟨rfl, rfl⟩

theorem R_setU8 {k : IntKind} {e : Nat} {w : World} {base : Nat} {v : Value} {xs : List Int} (h : Kd.R (Kd.int k) e w base (fun _ => True) v xs) {g t : Nat} {cells : Array Value} (hb : w.heap[g]? = some (.cells cells t (0, 0))) (ht : e ≠ t) (j : Nat) (u : Value) : Kd.R (Kd.int k) e (w.setCell ⟨g, j, none⟩ u) base (fun _ => True) v xs :=
  Kd.R_mono (Kd.R_set h hb (by intro q hq; simp [Kd.int, Kd.scalar] at hq; subst hq; exact ht) j u) (fun _ _ => trivial)
theorem Rdr.setAt {w : World} {base g : Nat} {v : Value} {b : List Int} {pl f : Int} (h : Rdr w base g v b pl f) (x : Int) : Rdr (w.setCell ⟨g, 0, none⟩ (.int .i64 x)) base g v b x f :=
  ⟨h.ge, obj_set h.blk 0 _, Kd.R_mono (Kd.R_set h.row h.blk (by intro q hq; simp [Kd.int, Kd.scalar] at hq; subst hq; decide) 0 _) (fun _ _ => trivial)⟩
theorem Rdr.setF {w : World} {base g : Nat} {v : Value} {b : List Int} {pl f : Int} (h : Rdr w base g v b pl f) (x : Int) : Rdr (w.setCell ⟨g, 1, none⟩ (.int .i64 x)) base g v b pl x :=
  ⟨h.ge, obj_set h.blk 1 _, Kd.R_mono (Kd.R_set h.row h.blk (by intro q hq; simp [Kd.int, Kd.scalar] at hq; subst hq; decide) 1 _) (fun _ _ => trivial)⟩
theorem Rdr.below {w w1 : World} {base g : Nat} {v : Value} {b : List Int} {pl f : Int} (h : Rdr w base g v b pl f) (hb : Below w.heap.size w w1) : Rdr w1 base g v b pl f :=
  ⟨h.ge, (hb.block g (Array.getElem?_eq_some_iff.1 h.blk).1).trans h.blk, Kd.R_below h.row hb⟩

theorem goes_ok (g : Nat) (v : Value) (pl f x : Int) (w : World) (h : w.heap[g]? = some (.cells #[.int .i64 pl, .int .i64 f, v] 60 (0, 0))) :
    Calls Try.prog 36 #[.pointer (some ⟨g, 0, none⟩), .int .i64 x, .int .i64 0] w fun e w' => e = .returned (.bool true) ∧ w.setCell ⟨g, 0, none⟩ (.int .i64 x) = w' := by
  have h0 := obj_cell h 0 rfl
  have h1 := obj_free h 0
  go_enter Try.func36, Try.ntmps36
  go_wp2
  go_ret
  exact ⟨rfl, rfl⟩
theorem goes_no (g : Nat) (v : Value) (pl f x y : Int) (hy : y ≠ 0) (w : World) (h : w.heap[g]? = some (.cells #[.int .i64 pl, .int .i64 f, v] 60 (0, 0))) :
    Calls Try.prog 36 #[.pointer (some ⟨g, 0, none⟩), .int .i64 x, .int .i64 y] w fun e w' => e = .returned (.bool false) ∧ w.setCell ⟨g, 1, none⟩ (.int .i64 y) = w' := by
  have h0 := obj_cell h 1 rfl
  have h1 := obj_free h 1
  have h2 : (y != 0) = true := by simpa using hy
  go_enter Try.func36, Try.ntmps36
  go_wp2
  go_ret
  exact ⟨rfl, rfl⟩

set_option maxHeartbeats 1000000 in
theorem num_calls (base g : Nat) (v : Value) (b : List Int) (pl f : Int) (w : World) (h : Rdr w base g v b pl f) (hb : Bytes b) (hm : b.length ≤ 140737488351232) :
    Calls Try.prog 24 #[.pointer (some ⟨g, 0, none⟩)] w fun e w' => e = .returned (.int .i64 (rNum b pl f).1) ∧ Rdr w' base g v b (rNum b pl f).2.1 (rNum b pl f).2.2 ∧ w.grownBy w' (some g) := by
  by_cases hf : f = 0
  · subst hf
    rw [rNum_0]
    have HI := Aside0.mk h
    have h0 := obj_cell h.blk 0 rfl
    have h1 := obj_cell h.blk 1 rfl
    have h2 := obj_cell h.blk 2 rfl
    obtain ⟨A, c, rfl, hlc, hC⟩ := Kd.R_reads h.row
    have hcall := fun (n : Nat) => takeNum_calls A c b pl (w.drewN n) (Kd.C_below hC (pw_below_drewN (Below.refl _ _) n)) hlc hb (by omega)
    clear h hlc hC hb
    obtain ⟨⟨n, nx, e⟩, ht⟩ : ∃ t, t = takeNum b pl := ⟨_, rfl⟩
    rw [← ht] at hcall ⊢
    clear ht
    dsimp only at hcall ⊢
    have HC := Aside0.mk hcall
    clear hcall
    by_cases he : e = 0
    · subst he
      go_enter Try.func24, Try.ntmps24
      go_wp2_with (go_at_call 35; (with_reducible refine (off_no g _ pl _ HI.out.blk).mono ?_); rintro e w' ⟨rfl, rfl⟩)
      go_quiet ((go_at_call 11; exact Calls.quiet_of_same ((HC.out _).mono fun _ _ h => ⟨h.1, h.2.symm⟩)))
      go_wp2_with (go_at_call 36; (with_reducible refine (goes_ok g _ pl 0 nx _ (HI.out.below (pw_below_drewN (Below.refl _ _) _)).blk).mono ?_); rintro e w' ⟨rfl, rfl⟩)
      go_ret
      exact ⟨rfl, (HI.out.below (pw_below_drewN (Below.refl _ _) _)).setAt nx, drewN_grown _ _ _ _ _⟩
    · rw [if_neg he]
      go_enter Try.func24, Try.ntmps24
      go_wp2_with (go_at_call 35; (with_reducible refine (off_no g _ pl _ HI.out.blk).mono ?_); rintro e w' ⟨rfl, rfl⟩)
      go_quiet ((go_at_call 11; exact Calls.quiet_of_same ((HC.out _).mono fun _ _ h => ⟨h.1, h.2.symm⟩)))
      go_wp2_with (go_at_call 36; (with_reducible refine (goes_no g _ pl 0 nx e he _ (HI.out.below (pw_below_drewN (Below.refl _ _) _)).blk).mono ?_); rintro e w' ⟨rfl, rfl⟩)
      go_ret
      exact ⟨rfl, (HI.out.below (pw_below_drewN (Below.refl _ _) _)).setF e, drewN_grown _ _ _ _ _⟩
  · rw [rNum_f _ _ _ hf]
    have HI := Aside0.mk h
    clear h
    go_enter Try.func24, Try.ntmps24
    go_wp2_with (go_at_call 35; (with_reducible refine (off_yes g v pl f hf _ HI.out.blk).mono ?_); rintro e w' ⟨rfl, rfl⟩)
    go_ret
    exact ⟨rfl, HI.out, World.grownBy.refl _ _⟩
set_option maxHeartbeats 1000000 in
theorem fixed_calls' (base g : Nat) (v : Value) (b : List Int) (pl f wd : Int) (w : World) (h : Rdr w base g v b pl f) (hb : Bytes b) (hm : b.length ≤ 140737488351232) :
    Calls Try.prog 26 #[.pointer (some ⟨g, 0, none⟩), .int .i64 wd] w fun e w' => e = .returned (.int .i64 (rFix b pl f wd).1) ∧ Rdr w' base g v b (rFix b pl f wd).2.1 (rFix b pl f wd).2.2 ∧ w.grownBy w' (some g) := by
  by_cases hf : f = 0
  · subst hf
    rw [rFix_0]
    have HI := Aside0.mk h
    have h0 := obj_cell h.blk 0 rfl
    have h1 := obj_cell h.blk 1 rfl
    have h2 := obj_cell h.blk 2 rfl
    obtain ⟨A, c, rfl, hlc, hC⟩ := Kd.R_reads h.row
    have hcall := fun (n : Nat) => Oct.takeFixed_calls A b.length c b pl wd (w.drewN n) (Kd.C_below hC (pw_below_drewN (Below.refl _ _) n)) hlc hb (by omega)
    clear h hlc hC hb
    obtain ⟨⟨n, nx, e⟩, ht⟩ : ∃ t, t = takeFixed b pl wd := ⟨_, rfl⟩
    rw [← ht] at hcall ⊢
    clear ht
    dsimp only at hcall ⊢
    have HC := Aside0.mk hcall
    clear hcall
    by_cases he : e = 0
    · subst he
      go_enter Try.func26, Try.ntmps26
      go_wp2_with (go_at_call 35; (with_reducible refine (off_no g _ pl _ HI.out.blk).mono ?_); rintro e w' ⟨rfl, rfl⟩)
      go_quiet ((go_at_call 20; exact Calls.quiet_of_same ((HC.out _).mono fun _ _ h => ⟨h.1, h.2.symm⟩)))
      go_wp2_with (go_at_call 36; (with_reducible refine (goes_ok g _ pl 0 nx _ (HI.out.below (pw_below_drewN (Below.refl _ _) _)).blk).mono ?_); rintro e w' ⟨rfl, rfl⟩)
      go_ret
      exact ⟨rfl, (HI.out.below (pw_below_drewN (Below.refl _ _) _)).setAt nx, drewN_grown _ _ _ _ _⟩
    · rw [if_neg he]
      go_enter Try.func26, Try.ntmps26
      go_wp2_with (go_at_call 35; (with_reducible refine (off_no g _ pl _ HI.out.blk).mono ?_); rintro e w' ⟨rfl, rfl⟩)
      go_quiet ((go_at_call 20; exact Calls.quiet_of_same ((HC.out _).mono fun _ _ h => ⟨h.1, h.2.symm⟩)))
      go_wp2_with (go_at_call 36; (with_reducible refine (goes_no g _ pl 0 nx e he _ (HI.out.below (pw_below_drewN (Below.refl _ _) _)).blk).mono ?_); rintro e w' ⟨rfl, rfl⟩)
      go_ret
      exact ⟨rfl, (HI.out.below (pw_below_drewN (Below.refl _ _) _)).setF e, drewN_grown _ _ _ _ _⟩
  · rw [rFix_f _ _ _ _ hf]
    have HI := Aside0.mk h
    clear h
    go_enter Try.func26, Try.ntmps26
    go_wp2_with (go_at_call 35; (with_reducible refine (off_yes g v pl f hf _ HI.out.blk).mono ?_); rintro e w' ⟨rfl, rfl⟩)
    go_ret
    exact ⟨rfl, HI.out, World.grownBy.refl _ _⟩

set_option maxHeartbeats 2000000 in
theorem text_calls' (base g : Nat) (v : Value) (b : List Int) (pl f most : Int) (w : World) (h : Rdr w base g v b pl f) (hb : Bytes b) (hm : b.length ≤ 140737488351232) :
    Calls Try.prog 28 #[.pointer (some ⟨g, 0, none⟩), .int .i64 most] w fun e w' => ∃ v1, e = .returned v1 ∧ Kd.R (Kd.int .u8) 5 w' w.heap.size (fun _ => True) (v1) ((rTxt b pl f most).1) ∧ Rdr w' base g v b (rTxt b pl f most).2.1 (rTxt b pl f most).2.2 ∧ w.grownBy w' (some g) := by
  by_cases hf : f = 0
  · subst hf
    rw [rTxt_0]
    have HI := Aside0.mk h
    have h0 := obj_cell h.blk 0 rfl
    have h1 := obj_cell h.blk 1 rfl
    have h2 := obj_cell h.blk 2 rfl
    obtain ⟨A, c, rfl, hlc, hC⟩ := Kd.R_reads h.row
    have hcall := takeText_calls A c b pl most w.drew (Kd.C_below hC (below_drew (Below.refl _ _))) hlc hb hm
    clear h hlc hC hb
    obtain ⟨⟨n, nx, e⟩, ht⟩ : ∃ t, t = takeText b pl most := ⟨_, rfl⟩
    rw [← ht] at hcall ⊢
    clear ht
    dsimp only at hcall ⊢
    have HC := Aside0.mk hcall
    clear hcall
    by_cases he : e = 0
    · subst he
      go_enter Try.func28, Try.ntmps28
      go_wp2_with (go_at_call 35; (with_reducible refine (off_no g _ pl _ HI.out.blk).mono ?_); rintro e w' ⟨rfl, rfl⟩)
      go_region_held3 (fun w' => w'.cell? ⟨g, 2, none⟩ = some (.slice A b.length c) ∧ w'.cell? ⟨g, 0, none⟩ = some (.int .i64 pl)) (first | exact ⟨h2, h0⟩ | exact ⟨obj_cell HI1.out.blk 2 rfl, obj_cell HI1.out.blk 0 rfl⟩)
        (first | (go_at_call 16; refine HC.out.mono ?_; rintro e w' ⟨v1, rfl, ho, hb1⟩; have HB := Aside0.mk (below_step (below_drew (Below.refl _ w)) hb1); have HI1 := Aside0.mk (HI.out.below HB.out); have HO := Aside0.mk ho; clear ho hb1))
      go_wp2_with (go_at_call 36; (with_reducible refine (goes_ok g _ pl 0 nx _ HI1.out.blk).mono ?_); rintro e w' ⟨rfl, rfl⟩)
      go_ret
      exact ⟨_, rfl, R_setU8 HO.out HI1.out.blk (by decide) 0 _, HI1.out.setAt nx, World.grownBy.trans (grown_of_below HB.out _) (obj_grown _ _ _ _)⟩
    · rw [if_neg he]
      go_enter Try.func28, Try.ntmps28
      go_wp2_with (go_at_call 35; (with_reducible refine (off_no g _ pl _ HI.out.blk).mono ?_); rintro e w' ⟨rfl, rfl⟩)
      go_region_held3 (fun w' => w'.cell? ⟨g, 2, none⟩ = some (.slice A b.length c) ∧ w'.cell? ⟨g, 0, none⟩ = some (.int .i64 pl)) (first | exact ⟨h2, h0⟩ | exact ⟨obj_cell HI1.out.blk 2 rfl, obj_cell HI1.out.blk 0 rfl⟩)
        (first | (go_at_call 16; refine HC.out.mono ?_; rintro e w' ⟨v1, rfl, ho, hb1⟩; have HB := Aside0.mk (below_step (below_drew (Below.refl _ w)) hb1); have HI1 := Aside0.mk (HI.out.below HB.out); have HO := Aside0.mk ho; clear ho hb1))
      go_wp2_with (go_at_call 36; (with_reducible refine (goes_no g _ pl 0 nx e he _ HI1.out.blk).mono ?_); rintro e w' ⟨rfl, rfl⟩)
      go_ret
      exact ⟨_, rfl, R_setU8 HO.out HI1.out.blk (by decide) 1 _, HI1.out.setF e, World.grownBy.trans (grown_of_below HB.out _) (obj_grown _ _ _ _)⟩
  · rw [rTxt_f _ _ _ _ hf]
    have HI := Aside0.mk h
    clear h
    go_enter Try.func28, Try.ntmps28
    go_wp2_with (go_at_call 35; (with_reducible refine (off_yes g v pl f hf _ HI.out.blk).mono ?_); rintro e w' ⟨rfl, rfl⟩)
    go_ret
    exact ⟨_, rfl, Kd.R_nil _ _ _ _ _, HI.out, World.grownBy.refl _ _⟩

set_option maxHeartbeats 1000000 in
theorem end_calls (base g : Nat) (v : Value) (b : List Int) (pl f : Int) (w : World) (h : Rdr w base g v b pl f) (hm : b.length ≤ 140737488351232) :
    Calls Try.prog 30 #[.pointer (some ⟨g, 0, none⟩)] w fun e w' => e = .returned (.int .i64 (rEnd b pl f)) ∧ ∃ n, w' = w.drewN n := by
  have h0 := obj_cell h.blk 0 rfl
  have h1 := obj_cell h.blk 1 rfl
  have h2 := obj_cell h.blk 2 rfl
  obtain ⟨A, c, rfl, hlc, hC⟩ := Kd.R_reads h.row
  clear h hlc hC
  by_cases hf : f = 0
  · have h3 : (f == 0) = true := by simpa using hf
    by_cases hp : pl < b.length
    · have h4 : decide (pl < (b.length : Int)) = true := by simpa using hp
      have e : rEnd b pl f = 4 := if_pos ⟨hf, hp⟩
      rw [e]; clear e hf
      go_enter Try.func30, Try.ntmps30
      go_wp2
      go_quiet (fail)
      go_wp2
      go_ret
      exact ⟨rfl, _, rfl⟩
    · have h4 : decide (pl < (b.length : Int)) = false := by simpa using hp
      have e : rEnd b pl f = f := if_neg (fun h => hp h.2)
      rw [e]; clear e hf
      go_enter Try.func30, Try.ntmps30
      go_wp2
      go_quiet (fail)
      go_wp2
      go_ret
      exact ⟨rfl, _, rfl⟩
  · have h3 : (f == 0) = false := by simpa using hf
    have e : rEnd b pl f = f := if_neg (fun h => hf h.1)
    rw [e]; clear e hf
    go_enter Try.func30, Try.ntmps30
    go_wp2
    go_quiet (fail)
    go_wp2
    go_ret
    exact ⟨rfl, _, rfl⟩
theorem end_nil (w : World) : Calls Try.prog 30 #[.pointer none] w fun e w' => e = .returned (.int .i64 1) ∧ w = w' := by
  go_enter Try.func30, Try.ntmps30
  go_wp2
  go_ret
  exact ⟨rfl, rfl⟩
theorem at_calls (base g : Nat) (v : Value) (b : List Int) (pl f : Int) (w : World) (h : Rdr w base g v b pl f) :
    Calls Try.prog 32 #[.pointer (some ⟨g, 0, none⟩)] w fun e w' => e = .returned (.int .i64 pl) ∧ w = w' := by
  have h0 := obj_cell h.blk 0 rfl
  clear h
  go_enter Try.func32, Try.ntmps32
  go_wp2
  go_ret
  exact ⟨rfl, rfl⟩
theorem at_nil (w : World) : Calls Try.prog 32 #[.pointer none] w fun e w' => e = .returned (.int .i64 0) ∧ w = w' := by
  go_enter Try.func32, Try.ntmps32
  go_wp2
  go_ret
  exact ⟨rfl, rfl⟩
theorem num_nil (w : World) : Calls Try.prog 24 #[.pointer none] w fun e w' => e = .returned (.int .i64 0) ∧ w = w' := by
  go_enter Try.func24, Try.ntmps24
  go_wp2_with (go_at_call 35; (with_reducible refine (off_nil _).mono ?_); rintro e w' ⟨rfl, rfl⟩)
  go_ret
  exact ⟨rfl, rfl⟩
theorem fixed_nil (x : Int) (w : World) : Calls Try.prog 26 #[.pointer none, .int .i64 x] w fun e w' => e = .returned (.int .i64 0) ∧ w = w' := by
  go_enter Try.func26, Try.ntmps26
  go_wp2_with (go_at_call 35; (with_reducible refine (off_nil _).mono ?_); rintro e w' ⟨rfl, rfl⟩)
  go_ret
  exact ⟨rfl, rfl⟩
theorem text_nil (x : Int) (w : World) : Calls Try.prog 28 #[.pointer none, .int .i64 x] w fun e w' => e = .returned (.slice none 0 0) ∧ w = w' := by
  go_enter Try.func28, Try.ntmps28
  go_wp2_with (go_at_call 35; (with_reducible refine (off_nil _).mono ?_); rintro e w' ⟨rfl, rfl⟩)
  go_ret
  exact ⟨rfl, rfl⟩
set_option maxHeartbeats 1000000 in
theorem read_calls (A : Option Addr) (n c : Nat) (b : List Int) (w : World) (hr : Kd.C (Kd.int .u8) w A n b) (hb : n ≤ 140737488355328) :
    Calls Try.prog 22 #[.slice A n c] w fun e w' => ∃ g v, e = .returned (.pointer (some ⟨g, 0, none⟩)) ∧ Rdr w' w.heap.size g v b 0 0 ∧ Below w.heap.size w w' := by
  have HR := Aside0.mk hr
  clear hr
  go_enter Try.func22, Try.ntmps22
  go_wp2_with (go_at_call 34; (with_reducible refine (clone_calls A n c b _ HR.out hb).mono ?_); rintro e w' ⟨v1, rfl, ho, hb1⟩; obtain ⟨A1, c1, rfl⟩ := Kd.R_slice ho; have HO := Aside0.mk ho; have HB := Aside0.mk hb1; clear ho hb1)
  go_ret
  exact ⟨_, _, rfl, ⟨HB.out.size, heap_alloc_new _ _, Kd.R_alloc HO.out _⟩, below_alloc HB.out _⟩

theorem num_all (a : Int) (w : World) :
    Calls Try.prog 9 #[.int .i64 a] w fun e w' => ∃ v, e = .returned (.tuple #[v, .int .i64 (numE a)]) ∧ Kd.R (Kd.int .u8) 5 w' w.heap.size (fun _ => True) (v) (numL a) ∧ Below w.heap.size w w' := by
  unfold numE numL
  by_cases h : okNum a
  · rw [if_pos h, if_pos h]
    obtain ⟨n, rfl⟩ := Int.eq_ofNat_of_zero_le h.1
    exact num_ok n (by have := h.2; omega) w
  · rw [if_neg h, if_neg h]; exact num_no a h w
theorem rnum_all (a : Int) (w : World) :
    Calls Try.prog 10 #[.int .i64 a] w fun e w' => ∃ v, e = .returned (.tuple #[v, .int .i64 (numE a)]) ∧ Kd.R (Kd.int .u8) 5 w' w.heap.size (fun _ => True) (v) (numL a) ∧ Below w.heap.size w w' := by
  unfold numE numL
  by_cases h : okNum a
  · rw [if_pos h, if_pos h]
    obtain ⟨n, rfl⟩ := Int.eq_ofNat_of_zero_le h.1
    exact rnum_ok n (by have := h.2; omega) w
  · rw [if_neg h, if_neg h]; exact rnum_no a h w

theorem live1 : numE 300 = 0 ∧ numL 300 = [172, 2] := by
  refine ⟨by decide, ?_⟩
  unfold numL
  rw [if_pos (by decide), show (300 : Int).toNat = 300 from rfl, numB_ge 300 (by omega), numB_lt _ (by omega)]
  rfl
theorem live2 : takeNum [172, 2] 0 = (300, 2, 0) := by decide
theorem live3 : fixE 258 3 = 0 ∧ fixL 258 3 = [0, 1, 2] := by decide
theorem live4 : rTxt [2, 7, 8] 0 0 9 = ([7, 8], 3, 0) := by decide
theorem live5 : rEnd [2, 7, 8] 3 0 = 0 := by decide

set_option maxHeartbeats 2000000 in
theorem live_calls (w : World) : Calls Try.prog 13 #[] w fun e w' => e = .returned (.bool true) ∧ Below w.heap.size w w' := by
  go_enter Try.func13, Try.ntmps13
  go_wp2_with fail
  refine (num_all 300 _).mono ?_
  rw [live1.1, live1.2]
  rintro e w1 ⟨v1, rfl, ho1, hb1⟩
  obtain ⟨A1, c1, rfl, hl1, hC1⟩ := Kd.R_reads ho1
  have HO1 := Aside0.mk ho1
  have HC1 := Aside0.mk hC1
  have HL1 := Aside0.mk hl1
  have HB := Aside0.mk hb1
  clear ho1 hC1 hl1 hb1
  go_wp2_with fail
  refine (takeNum_calls A1 c1 [172, 2] 0 _ HC1.out HL1.out (by decide) (by decide)).mono ?_
  rw [live2]
  rintro e w' ⟨rfl, rfl⟩
  go_wp2_with fail
  refine (fixed_calls 258 3 _).mono ?_
  rw [live3.1, live3.2]
  rintro e w2 ⟨v2, rfl, ho2, hb2⟩
  obtain ⟨A2, c2, rfl⟩ := Kd.R_slice ho2
  have HO1 := Aside0.mk (Kd.R_below HO1.out hb2)
  have HO2 := Aside0.mk ho2
  have HB := Aside0.mk (below_step HB.out hb2)
  have HB2 := HB
  clear ho2 hb2
  have HO3 := Aside0.mk (own_lit w2 w2.heap.size 5 .u8 [2, 7, 8] (Nat.le_refl _) (by decide))
  go_wp2_with fail
  refine (read_calls _ 3 3 [2, 7, 8] _ (Kd.R_reads' (Kd.R_of_own (enc := Value.int .u8) (h1 := fun _ => rfl) (ok := fun _ => True) HO3.out (fun _ _ => trivial))).2.2 (by decide)).mono ?_
  rintro e w3 ⟨g, v3, rfl, hr3, hb3⟩
  have HB3 := Aside0.mk (below_step (below_alloc (Below.refl _ w2) (.cells (nums .u8 [2, 7, 8]).toArray 5)) hb3)
  have HO1 := Aside0.mk (Kd.R_below HO1.out HB3.out)
  have HO2 := Aside0.mk (Kd.R_below HO2.out HB3.out)
  have HB := Aside0.mk (below_step HB.out HB3.out)
  have HR3 := Aside0.mk hr3
  clear hb3 hr3
  go_wp2_with fail
  refine (text_calls' _ g v3 [2, 7, 8] 0 0 9 _ HR3.out (by decide) (by decide)).mono ?_
  rw [live4]
  rintro e w4 ⟨v4, rfl, ho4, hr4, hg4⟩
  obtain ⟨A4, c4, rfl⟩ := Kd.R_slice ho4
  have HO1 := Aside0.mk (R_kept_t (flat_int _) HO1.out HR3.out.blk (by decide) hg4)
  have HO2 := Aside0.mk (R_kept_t (flat_int _) HO2.out HR3.out.blk (by decide) hg4)
  have HO4 := Aside0.mk ho4
  have HR4 := Aside0.mk hr4
  have HB := Aside0.mk (HB.out.grown hg4 HB.out.size (fun k e => by cases e; have h1 := HB2.out.size; have h2 := HR3.out.ge; simp at h2; omega))
  clear ho4 hr4 hg4
  have e1 := conv_own (P := Try.prog) 22 9 5 Try.underlying22 Try.underlying5 Try.underlying9 (n := 2) (b := ⟨#[172, 2]⟩) HO1.out rfl rfl
  have e2 := conv_own (P := Try.prog) 22 9 5 Try.underlying22 Try.underlying5 Try.underlying9 (n := 3) (b := ⟨#[0, 1, 2]⟩) HO2.out rfl rfl
  have e4 := conv_own (P := Try.prog) 22 9 5 Try.underlying22 Try.underlying5 Try.underlying9 (n := 2) (b := ⟨#[7, 8]⟩) HO4.out rfl rfl
  go_wp2_with (first | (go_at_call 30; refine (end_calls _ g v3 [2, 7, 8] 3 0 _ HR4.out (by decide)).mono ?_; rw [live5]; rintro e w' ⟨rfl, nq, rfl⟩) | (go_at_call 32; refine (at_calls _ g v3 [2, 7, 8] 3 0 _ (HR4.out.below (pw_below_drewN (Below.refl _ _) _))).mono ?_; rintro e w' ⟨rfl, rfl⟩))
  go_ret
  exact ⟨rfl, pw_below_drewN HB.out _⟩
end Go.Proofs.Ytgfmchajkajagaa.Rdr
