/- What the methods of the reference's reader compute; condition: the reader stands in a block of its own. -/
import Derived.Test.YtgfmchajkajagaaRdr
namespace Go.Proofs.Ytgfmchajkajagaa.RRdr
open Go.RowKit Go.Proofs.YtgfmchajkajagaaW.PrintWords Go.Proofs.YtgfmchajkajagaaW.PrintLast Go.Proofs.YtgfmchajkajagaaW.PrintMore Go.Proofs.Ytgfmchajkajagaa.K Go.Proofs.Ytgfmchajkajagaa.OctS Go.Proofs.Ytgfmchajkajagaa.Oct Go.Proofs.Ytgfmchajkajagaa.Rdr
set_option linter.unusedVariables false

/-- A reader of the reference's: its block, its bytes. -/
structure RR (w : World) (base g : Nat) (v : Value) (b : List Int) (pl f : Int) : Prop where
  ge : base ≤ g
  blk : w.heap[g]? = some (.cells #[v, .int .i64 pl, .int .i64 f] 51 (0, 0))
  row : Kd.R (Kd.int .u8) 5 w base (fun _ => True) (v) (b)
theorem RR.setAt {w : World} {base g : Nat} {v : Value} {b : List Int} {pl f : Int} (h : RR w base g v b pl f) (x : Int) : RR (w.setCell ⟨g, 1, none⟩ (.int .i64 x)) base g v b x f :=
  ⟨h.ge, obj_set h.blk 1 _, Kd.R_mono (Kd.R_set h.row h.blk (by intro q hq; simp [Kd.int, Kd.scalar] at hq; subst hq; decide) 1 _) (fun _ _ => trivial)⟩
theorem RR.setF {w : World} {base g : Nat} {v : Value} {b : List Int} {pl f : Int} (h : RR w base g v b pl f) (x : Int) : RR (w.setCell ⟨g, 2, none⟩ (.int .i64 x)) base g v b pl x :=
  ⟨h.ge, obj_set h.blk 2 _, Kd.R_mono (Kd.R_set h.row h.blk (by intro q hq; simp [Kd.int, Kd.scalar] at hq; subst hq; decide) 2 _) (fun _ _ => trivial)⟩
theorem RR.below {w w1 : World} {base g : Nat} {v : Value} {b : List Int} {pl f : Int} (h : RR w base g v b pl f) (hb : Below w.heap.size w w1) : RR w1 base g v b pl f :=
  ⟨h.ge, (hb.block g (Array.getElem?_eq_some_iff.1 h.blk).1).trans h.blk, Kd.R_below h.row hb⟩

set_option maxHeartbeats 1000000 in
theorem rnum_calls (base g : Nat) (v : Value) (b : List Int) (pl f : Int) (w : World) (h : RR w base g v b pl f) (hb : Bytes b) (hm : b.length ≤ 140737488351232) :
    Calls Try.prog 25 #[.pointer (some ⟨g, 0, none⟩)] w fun e w' => e = .returned (.int .i64 (rNum b pl f).1) ∧ RR w' base g v b (rNum b pl f).2.1 (rNum b pl f).2.2 ∧ w.grownBy w' (some g) := by
  by_cases hf : f = 0
  · subst hf
    rw [rNum_0]
    have HI := Aside0.mk h
    have h0 := obj_cell h.blk 0 rfl
    have h1 := obj_cell h.blk 1 rfl
    have h2 := obj_cell h.blk 2 rfl
    obtain ⟨A, c, rfl, hlc, hC⟩ := Kd.R_reads h.row
    have hcall := fun (n : Nat) => rtakeNum_calls A c b pl (w.drewN n) (Kd.C_below hC (pw_below_drewN (Below.refl _ _) n)) hlc hb (by omega)
    clear h hlc hC hb
    obtain ⟨⟨n, nx, e⟩, ht⟩ : ∃ t, t = takeNum b pl := ⟨_, rfl⟩
    rw [← ht] at hcall ⊢
    clear ht
    dsimp only at hcall ⊢
    have HC := Aside0.mk hcall
    clear hcall
    by_cases he : e = 0
    · subst he
      go_enter Try.func25, Try.ntmps25
      go_wp2_with fail
      go_quiet ((go_at_call 12; exact Calls.quiet_of_same ((HC.out _).mono fun _ _ h => ⟨h.1, h.2.symm⟩)))
      have HI1 := Aside0.mk (HI.out.below (pw_below_drewN (Below.refl _ _) nq))
      have k2 := obj_free HI1.out.blk 2
      have HI2 := Aside0.mk (HI1.out.setF 0)
      have k3 := obj_free HI2.out.blk 1
      go_wp2
      go_ret
      exact ⟨rfl, HI2.out.setAt nx, World.grownBy.trans (drewN_grown _ _ _ _ _) (obj_grown _ _ _ _)⟩
    · rw [if_neg he]
      have he2 : (e == 0) = false := by simpa using he
      clear he
      go_enter Try.func25, Try.ntmps25
      go_wp2_with fail
      go_quiet ((go_at_call 12; exact Calls.quiet_of_same ((HC.out _).mono fun _ _ h => ⟨h.1, h.2.symm⟩)))
      have HI1 := Aside0.mk (HI.out.below (pw_below_drewN (Below.refl _ _) nq))
      have k2 := obj_free HI1.out.blk 2
      go_wp2
      go_ret
      exact ⟨rfl, HI1.out.setF e, drewN_grown _ _ _ _ _⟩
  · rw [rNum_f _ _ _ hf]
    have HI := Aside0.mk h
    have h2 := obj_cell h.blk 2 rfl
    have hf2 : (f != 0) = true := by simpa using hf
    clear h hf
    go_enter Try.func25, Try.ntmps25
    go_wp2
    go_ret
    exact ⟨rfl, HI.out, World.grownBy.refl _ _⟩

set_option maxHeartbeats 1000000 in
theorem rfixed_calls (base g : Nat) (v : Value) (b : List Int) (pl f wd : Int) (w : World) (h : RR w base g v b pl f) (hb : Bytes b) (hm : b.length ≤ 140737488351232) :
    Calls Try.prog 27 #[.pointer (some ⟨g, 0, none⟩), .int .i64 wd] w fun e w' => e = .returned (.int .i64 (rFix b pl f wd).1) ∧ RR w' base g v b (rFix b pl f wd).2.1 (rFix b pl f wd).2.2 ∧ w.grownBy w' (some g) := by
  by_cases hf : f = 0
  · subst hf
    rw [rFix_0]
    have HI := Aside0.mk h
    have h0 := obj_cell h.blk 0 rfl
    have h1 := obj_cell h.blk 1 rfl
    have h2 := obj_cell h.blk 2 rfl
    obtain ⟨A, c, rfl, hlc, hC⟩ := Kd.R_reads h.row
    have hcall := fun (n : Nat) => Oct.rtakeFixed_calls A b.length c b pl wd (w.drewN n) (Kd.C_below hC (pw_below_drewN (Below.refl _ _) n)) hlc hb (by omega)
    clear h hlc hC hb
    obtain ⟨⟨n, nx, e⟩, ht⟩ : ∃ t, t = takeFixed b pl wd := ⟨_, rfl⟩
    rw [← ht] at hcall ⊢
    clear ht
    dsimp only at hcall ⊢
    have HC := Aside0.mk hcall
    clear hcall
    by_cases he : e = 0
    · subst he
      go_enter Try.func27, Try.ntmps27
      go_wp2_with fail
      go_quiet ((go_at_call 21; exact Calls.quiet_of_same ((HC.out _).mono fun _ _ h => ⟨h.1, h.2.symm⟩)))
      have HI1 := Aside0.mk (HI.out.below (pw_below_drewN (Below.refl _ _) nq))
      have k2 := obj_free HI1.out.blk 2
      have HI2 := Aside0.mk (HI1.out.setF 0)
      have k3 := obj_free HI2.out.blk 1
      go_wp2
      go_ret
      exact ⟨rfl, HI2.out.setAt nx, World.grownBy.trans (drewN_grown _ _ _ _ _) (obj_grown _ _ _ _)⟩
    · rw [if_neg he]
      have he2 : (e == 0) = false := by simpa using he
      clear he
      go_enter Try.func27, Try.ntmps27
      go_wp2_with fail
      go_quiet ((go_at_call 21; exact Calls.quiet_of_same ((HC.out _).mono fun _ _ h => ⟨h.1, h.2.symm⟩)))
      have HI1 := Aside0.mk (HI.out.below (pw_below_drewN (Below.refl _ _) nq))
      have k2 := obj_free HI1.out.blk 2
      go_wp2
      go_ret
      exact ⟨rfl, HI1.out.setF e, drewN_grown _ _ _ _ _⟩
  · rw [rFix_f _ _ _ _ hf]
    have HI := Aside0.mk h
    have h2 := obj_cell h.blk 2 rfl
    have hf2 : (f != 0) = true := by simpa using hf
    clear h hf
    go_enter Try.func27, Try.ntmps27
    go_wp2
    go_ret
    exact ⟨rfl, HI.out, World.grownBy.refl _ _⟩

set_option maxHeartbeats 2000000 in
theorem rtext_calls' (base g : Nat) (v : Value) (b : List Int) (pl f most : Int) (w : World) (h : RR w base g v b pl f) (hb : Bytes b) (hm : b.length ≤ 140737488351232) :
    Calls Try.prog 29 #[.pointer (some ⟨g, 0, none⟩), .int .i64 most] w fun e w' => ∃ v1, e = .returned v1 ∧ Kd.R (Kd.int .u8) 5 w' w.heap.size (fun _ => True) (v1) ((rTxt b pl f most).1) ∧ RR w' base g v b (rTxt b pl f most).2.1 (rTxt b pl f most).2.2 ∧ w.grownBy w' (some g) := by
  by_cases hf : f = 0
  · subst hf
    rw [rTxt_0]
    have HI := Aside0.mk h
    have h0 := obj_cell h.blk 0 rfl
    have h1 := obj_cell h.blk 1 rfl
    have h2 := obj_cell h.blk 2 rfl
    obtain ⟨A, c, rfl, hlc, hC⟩ := Kd.R_reads h.row
    have hcall := rtakeText_calls A c b pl most w.drew (Kd.C_below hC (below_drew (Below.refl _ _))) hlc hb hm
    clear h hlc hC hb
    obtain ⟨⟨n, nx, e⟩, ht⟩ : ∃ t, t = takeText b pl most := ⟨_, rfl⟩
    rw [← ht] at hcall ⊢
    clear ht
    dsimp only at hcall ⊢
    have HC := Aside0.mk hcall
    clear hcall
    by_cases he : e = 0
    · subst he
      rw [if_pos rfl]
      go_enter Try.func29, Try.ntmps29
      go_wp2_with fail
      go_region_held3 (fun w' => w'.cell? ⟨g, 0, none⟩ = some (.slice A b.length c) ∧ w'.cell? ⟨g, 1, none⟩ = some (.int .i64 pl)) (first | exact ⟨h0, h1⟩ | exact ⟨obj_cell HI1.out.blk 0 rfl, obj_cell HI1.out.blk 1 rfl⟩)
        (first | (go_at_call 17; refine HC.out.mono ?_; rintro e' w' ⟨v1, rfl, ho, hb1⟩; have HB := Aside0.mk (below_step (below_drew (Below.refl _ w)) hb1); have HI1 := Aside0.mk (HI.out.below HB.out); have HO := Aside0.mk ho; clear ho hb1))
      have k2 := obj_free HI1.out.blk 2
      have c2 := obj_cell HI1.out.blk 2 rfl
      have HO2 := Aside0.mk (R_setU8 HO.out HI1.out.blk (by decide) 2 (.int .i64 0))
      have HI2 := Aside0.mk (HI1.out.setF 0)
      have k3 := obj_free HI2.out.blk 1
      have c3 := obj_cell HI2.out.blk 1 rfl
      go_wp2
      go_ret
      exact ⟨_, rfl, R_setU8 HO2.out HI2.out.blk (by decide) 1 _, HI2.out.setAt nx, World.grownBy.trans (grown_of_below HB.out _) (World.grownBy.trans (obj_grown _ _ _ _) (obj_grown _ _ _ _))⟩
    · rw [if_neg he]
      have he2 : (e == 0) = false := by simpa using he
      clear he
      go_enter Try.func29, Try.ntmps29
      go_wp2_with fail
      go_region_held3 (fun w' => w'.cell? ⟨g, 0, none⟩ = some (.slice A b.length c) ∧ w'.cell? ⟨g, 1, none⟩ = some (.int .i64 pl)) (first | exact ⟨h0, h1⟩ | exact ⟨obj_cell HI1.out.blk 0 rfl, obj_cell HI1.out.blk 1 rfl⟩)
        (first | (go_at_call 17; refine HC.out.mono ?_; rintro e' w' ⟨v1, rfl, ho, hb1⟩; have HB := Aside0.mk (below_step (below_drew (Below.refl _ w)) hb1); have HI1 := Aside0.mk (HI.out.below HB.out); have HO := Aside0.mk ho; clear ho hb1))
      have k2 := obj_free HI1.out.blk 2
      have c2 := obj_cell HI1.out.blk 2 rfl
      have HO2 := Aside0.mk (R_setU8 HO.out HI1.out.blk (by decide) 2 (.int .i64 e))
      have HI2 := Aside0.mk (HI1.out.setF e)
      have k3 := obj_free HI2.out.blk 1
      have c3 := obj_cell HI2.out.blk 1 rfl
      go_wp2
      go_ret
      exact ⟨_, rfl, HO2.out, HI2.out, World.grownBy.trans (grown_of_below HB.out _) (obj_grown _ _ _ _)⟩
  · rw [rTxt_f _ _ _ _ hf]
    have HI := Aside0.mk h
    have h2 := obj_cell h.blk 2 rfl
    have hf2 : (f != 0) = true := by simpa using hf
    clear h hf
    go_enter Try.func29, Try.ntmps29
    go_wp2
    go_ret
    exact ⟨_, rfl, Kd.R_nil _ _ _ _ _, HI.out, World.grownBy.refl _ _⟩

theorem rend_calls (base g : Nat) (v : Value) (b : List Int) (pl f : Int) (w : World) (h : RR w base g v b pl f) (hm : b.length ≤ 140737488351232) :
    Calls Try.prog 31 #[.pointer (some ⟨g, 0, none⟩)] w fun e w' => e = .returned (.int .i64 (rEnd b pl f)) ∧ ∃ n, w' = w.drewN n := by
  have h0 := obj_cell h.blk 0 rfl
  have h1 := obj_cell h.blk 1 rfl
  have h2 := obj_cell h.blk 2 rfl
  obtain ⟨A, c, rfl, hlc, hC⟩ := Kd.R_reads h.row
  clear h hlc hC
  by_cases hf : f = 0
  · have h3 : (f == 0) = true := by simpa using hf
    by_cases hp : pl < b.length
    · have h4 : decide (pl < (b.length : Int)) = true := by simpa using hp
      have e : rEnd b pl f = 4 := if_pos ⟨hf, hp⟩
      rw [e]; clear e hf
      go_enter Try.func31, Try.ntmps31
      go_wp2
      go_quiet (fail)
      go_wp2
      go_ret
      exact ⟨rfl, _, rfl⟩
    · have h4 : decide (pl < (b.length : Int)) = false := by simpa using hp
      have e : rEnd b pl f = f := if_neg (fun h => hp h.2)
      rw [e]; clear e hf
      go_enter Try.func31, Try.ntmps31
      go_wp2
      go_quiet (fail)
      go_wp2
      go_ret
      exact ⟨rfl, _, rfl⟩
  · have h3 : (f == 0) = false := by simpa using hf
    have e : rEnd b pl f = f := if_neg (fun h => hf h.1)
    rw [e]; clear e hf
    go_enter Try.func31, Try.ntmps31
    go_wp2
    go_quiet (fail)
    go_wp2
    go_ret
    exact ⟨rfl, _, rfl⟩
set_option maxHeartbeats 1000000 in
theorem rread_calls (A : Option Addr) (n c : Nat) (b : List Int) (w : World) (hr : Kd.C (Kd.int .u8) w A n b) (hb : n ≤ 140737488355328) :
    Calls Try.prog 23 #[.slice A n c] w fun e w' => ∃ g v, e = .returned (.pointer (some ⟨g, 0, none⟩)) ∧ RR w' w.heap.size g v b 0 0 ∧ Below w.heap.size w w' := by
  have HR := Aside0.mk hr
  have HN := Aside0.mk (Kd.R_made_nil (Kd.int .u8) w 5)
  have HB := Aside0.mk (Below.refl w.heap.size w)
  clear hr
  go_enter Try.func23, Try.ntmps23
  go_wp2_with ((with_reducible refine gate_builtin (b := .append) (xs := #[.tmp 3, .tmp 4]) rfl ?_); at_builtin; refine app (Kd.int .u8) (flat_int _) w.heap.size (w0 := w) (.tmp 3) (.tmp 4) 22 5 (.int .u8 0) 1 rfl rfl Try.underlying22 infoU8 rfl (by decide) (by decide) _ ([] : List Int) b A n c rfl rfl ?aO ?aR ?aB ?aS ?aL ?_; (case aO => exact HN.out); (case aR => exact (Kd.C_below HR.out (by repeat (first | (with_reducible first | exact HB.out | apply below_alloc | apply pw_below_drewN | apply below_drew1) | exact HB.out)))); (case aB => exact (by repeat (first | (with_reducible first | exact HB.out | apply below_alloc | apply pw_below_drewN | apply below_drew1) | exact HB.out))); (case aS => exact (below_size (by repeat (first | (with_reducible first | exact HB.out | apply below_alloc | apply pw_below_drewN | apply below_drew1) | exact HB.out)))); (case aL => exact (by simp; omega)); intro v1 w1 ho hb1 hg hat; obtain ⟨A1, c1, rfl⟩ := Kd.R_slice ho; have HO := Aside0.mk ho; have HB := Aside0.mk hb1; clear ho hb1 hg hat)
  go_ret
  exact ⟨_, _, rfl, ⟨HB.out.size, heap_alloc_new _ _, Kd.R_alloc (by simpa using HO.out) _⟩, below_alloc HB.out _⟩
end Go.Proofs.Ytgfmchajkajagaa.RRdr
