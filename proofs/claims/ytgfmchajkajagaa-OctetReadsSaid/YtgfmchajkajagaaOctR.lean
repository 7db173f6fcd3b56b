/- The law OctetReads answers true, walked over its loops; condition: the arguments are well formed. -/
import Derived.Test.YtgfmchajkajagaaRRdr
import Derived.Test.YtgfmchajkajagaaOctL
import Derived.Deep.RegionHeld3
import Derived.BigRegion
namespace Go.Proofs.Ytgfmchajkajagaa.OctR
open Go Go.RowKit Go.Proofs.YtgfmchajkajagaaW.PrintWords Go.Proofs.YtgfmchajkajagaaW.PrintLast Go.Proofs.YtgfmchajkajagaaW.PrintMore Go.Proofs.Ytgfmchajkajagaa.K Go.Proofs.Ytgfmchajkajagaa.OctS Go.Proofs.Ytgfmchajkajagaa.Oct Go.Proofs.Ytgfmchajkajagaa.Rdr Go.Proofs.Ytgfmchajkajagaa.RRdr Go.Proofs.Ytgfmchajkajagaa.OctL
set_option linter.unusedVariables false

/-- A row that the call owns stays, where another block alone is written. -/
theorem R_kept_ne {α : Type} {d : Kd α} (hd : Flat d) {e : Nat} {w w1 : World} {base : Nat} {v : Value} {xs : List α} (h : d.R e w base (fun _ => True) v xs) {g : Nat} (hne : some g ≠ v.ownBlock) (hg : w.grownBy w1 (some g)) : d.R e w1 base (fun _ => True) v xs := by
  obtain ⟨_, inner, ho, hr⟩ := h
  refine ⟨fun _ _ => trivial, inner, ho.kept hg (.inr (fun e => hne e.symm)), hr.imp_ (fun x cs hm => ?_)⟩
  have h1 := d.M_mono (ok' := fun k => True ∧ some k ≠ v.ownBlock) (fun k hk => hk.elim) (hd w base x cs (d.K_of_M hm))
  have h2 := hd w base x cs (d.K_of_M hm)
  have h3 := d.M_move (w1 := w1) (fun k hk => hk.elim) h2
  exact d.M_mono (fun k hk => hk.elim) h3
theorem R_lt {α : Type} {d : Kd α} {e : Nat} {w : World} {base : Nat} {v : Value} {xs : List α} (h : d.R e w base (fun _ => True) v xs) (k : Nat) (hk : v.ownBlock = some k) : base ≤ k ∧ k < w.heap.size := by
  have := (Kd.R_bound h).1 k hk
  exact ⟨this.2.1, this.2.2.1⟩
theorem grown_blk {w w1 : World} {g k : Nat} (hg : w.grownBy w1 (some g)) (hk : k < w.heap.size) (hne : k ≠ g) : w1.heap[k]? = w.heap[k]? := by
  obtain ⟨_, _, _, _, h⟩ := hg
  exact h k hk (fun e => by injection e with e; exact hne e)
theorem Rdr.kept {w w1 : World} {base g : Nat} {v : Value} {b : List Int} {pl f : Int} (h : Rdr w base g v b pl f) {j : Nat} (h1 : g ≠ j) (h2 : some j ≠ v.ownBlock) (hg : w.grownBy w1 (some j)) : Rdr w1 base g v b pl f :=
  ⟨h.ge, (grown_blk hg (Array.getElem?_eq_some_iff.1 h.blk).1 h1).trans h.blk, R_kept_ne (flat_int _) h.row h2 hg⟩
theorem RR.kept {w w1 : World} {base g : Nat} {v : Value} {b : List Int} {pl f : Int} (h : RR w base g v b pl f) {j : Nat} (h1 : g ≠ j) (h2 : some j ≠ v.ownBlock) (hg : w.grownBy w1 (some j)) : RR w1 base g v b pl f :=
  ⟨h.ge, (grown_blk hg (Array.getElem?_eq_some_iff.1 h.blk).1 h1).trans h.blk, R_kept_ne (flat_int _) h.row h2 hg⟩
theorem two_ne {w : World} {base base' g g' : Nat} {v v' : Value} {b b' : List Int} {pl f pl' f' : Int} (h : Rdr w base g v b pl f) (h' : RR w base' g' v' b' pl' f') : g ≠ g' := fun e => by
  subst e
  have h1 := h.blk
  rw [h'.blk] at h1
  simp at h1
theorem add_field (ad : Addr) (m j : Nat) (hj : 0 < j) : ad.add (m + j) = ⟨(ad.add m).block, (ad.add m).off + j, none⟩ := by
  unfold Addr.add
  by_cases h : m = 0
  · subst h
    simp [Nat.ne_of_gt hj]
  · rw [if_neg (by omega), if_neg h, Nat.add_assoc]
theorem takeText_len (l : List Int) (pl m : Int) : (takeText l pl m).1.length ≤ l.length := by
  unfold takeText
  simp only
  split
  · exact Nat.zero_le _
  · split
    · exact Nat.zero_le _
    · split
      · exact Nat.zero_le _
      · rw [List.length_drop, List.length_take]
        omega
theorem rTxt_len (l : List Int) (pl f m : Int) : (rTxt l pl f m).1.length ≤ l.length := by
  unfold rTxt
  split
  · exact Nat.zero_le _
  · exact takeText_len l pl m
/-- What a step reads. -/
theorem step_at {w : World} {A : Option Addr} {n : Nat} {l : List (Int × Int)} (h : Kd.C (Kd.pair (Kd.int .i64) (Kd.int .i64)) w A n l) (i : Nat) (hi : i < n) :
    ∃ ad, A = some ad ∧ w.cell? (ad.add (i * 2)) = some (.int .i64 (l.getD i (0, 0)).1) ∧ w.cell? (ad.add (i * 2 + 1)) = some (.int .i64 (l.getD i (0, 0)).2) := by
  obtain ⟨ad, c, hA, hl, hK, hc⟩ := Kd.C_get h (0, 0) (i : Int) (by omega) (by omega)
  obtain ⟨c0, c1, rfl, h0, h1⟩ := hK
  refine ⟨ad, hA, ?_, ?_⟩
  · have := hc 0 (.int .i64 (l.getD i (0, 0)).1) (by
      have e : c0 = [.int .i64 (l.getD i (0, 0)).1] := by simpa [Kd.int, Kd.scalar] using h0
      rw [e]; rfl)
    simpa [Kd.pair, Kd.int, Kd.scalar] using this
  · have := hc 1 (.int .i64 (l.getD i (0, 0)).2) (by
      have e : c0 = [.int .i64 (l.getD i (0, 0)).1] := by simpa [Kd.int, Kd.scalar] using h0
      have e1 : c1 = [.int .i64 (l.getD i (0, 0)).2] := by simpa [Kd.int, Kd.scalar] using h1
      rw [e, e1]; rfl)
    simpa [Kd.pair, Kd.int, Kd.scalar] using this

/-- Behind a step of the program's reader. -/
theorem stepX {w0 wr wx : World} {base base' g g' : Nat} {v v' : Value} {b : List Int} {pl f pl' f' pl2 f2 : Int} (HB : Below w0.heap.size w0 wr) (hle : w0.heap.size ≤ base) (HX : Rdr wr base g v b pl f) (HY : RR wr base' g' v' b pl' f') (hx : Rdr wx base g v b pl2 f2) (hg : wr.grownBy wx (some g)) :
    Below w0.heap.size w0 wx ∧ RR wx base' g' v' b pl' f' :=
  ⟨HB.grown hg HB.size (fun m e => by cases e; exact Nat.le_trans hle HX.ge), RR.kept HY (fun e => two_ne HX HY e.symm) (Kd.R_ne HY.row HX.blk (by decide)) hg⟩
/-- Behind a step of the reference's reader. -/
theorem stepY {w0 wr wx : World} {base base' g g' : Nat} {v v' : Value} {b : List Int} {pl f pl' f' pl2 f2 : Int} (HB : Below w0.heap.size w0 wr) (hle : w0.heap.size ≤ base') (HX : Rdr wr base g v b pl f) (HY : RR wr base' g' v' b pl' f') (hx : RR wx base' g' v' b pl2 f2) (hg : wr.grownBy wx (some g')) :
    Below w0.heap.size w0 wx ∧ Rdr wx base g v b pl f :=
  ⟨HB.grown hg HB.size (fun m e => by cases e; exact Nat.le_trans hle HY.ge), Rdr.kept HX (fun e => two_ne HX HY e) (Kd.R_ne HX.row HY.blk (by decide)) hg⟩

set_option maxRecDepth 20000 in
set_option maxHeartbeats 4000000 in
theorem reads_calls (A : Option Addr) (k c : Nat) (b : List Int) (A2 : Option Addr) (k2 c2 : Nat) (l : List (Int × Int)) (w : World) (hr : Kd.C (Kd.int .u8) w A k b) (hc : k ≤ c) (hb : ∀ x ∈ b, (Lit.int .u8 x).wf = true) (hm : k * 1 ≤ 140737488351232)
    (hr2 : Kd.C (Kd.pair (Kd.int .i64) (Kd.int .i64)) w A2 k2 l) (hc2 : k2 ≤ c2) (hm2' : k2 * 16 ≤ 140737488351232) :
    Calls Try.prog 8 #[.slice A k c, .slice A2 k2 c2] w fun e w' => e = .returned (.bool true) ∧ Below w.heap.size w w' := by
  obtain rfl : b.length = k := hr.1
  have hm2 : k2 ≤ 140737488351232 := by omega
  clear hm2'
  have HW := Aside0.mk (bytes_wf hb)
  have HR := Aside0.mk hr
  have HL := Aside0.mk hr2
  have HB := Aside0.mk (Below.refl w.heap.size w)
  have HN := Aside0.mk (Kd.R_made_nil (Kd.int .u8) w 5)
  clear hr hr2 hb
  go_enter Try.func8, Try.ntmps8
  go_wp2_with ((with_reducible refine gate_builtin (b := .append) (xs := #[.tmp 14, .tmp 15]) rfl ?_); at_builtin; refine app (Kd.int .u8) (flat_int _) w.heap.size (w0 := w) (.tmp 14) (.tmp 15) 22 5 (.int .u8 0) 1 rfl rfl Try.underlying22 infoU8 rfl (by decide) (by decide) _ ([] : List Int) b A b.length c rfl rfl ?aO ?aR ?aB ?aS ?aL ?_; (case aO => exact HN.out); (case aR => exact (Kd.C_below HR.out (by repeat (first | (with_reducible first | exact HB.out | apply below_alloc | apply pw_below_drewN | apply below_drew1) | exact HB.out)))); (case aB => exact (by repeat (first | (with_reducible first | exact HB.out | apply below_alloc | apply pw_below_drewN | apply below_drew1) | exact HB.out))); (case aS => exact (below_size (by repeat (first | (with_reducible first | exact HB.out | apply below_alloc | apply pw_below_drewN | apply below_drew1) | exact HB.out)))); (case aL => exact (by simp; omega)); intro v1 w1 ho1 hb1 _ _; rw [List.nil_append] at ho1; obtain ⟨A1, c1, rfl, hl1, hC1⟩ := Kd.R_reads ho1; have HO1 := Aside0.mk ho1; have HC1 := Aside0.mk hC1; have HB1 := Aside0.mk hb1; clear ho1 hb1 hC1)
  have HJ0 := Aside0.mk (fun (j : Nat) (e : A1 = some ⟨j, 0, none⟩) => (R_lt HO1.out j (by rw [e]; rfl)).2)
  refine (read_calls A1 _ c1 b _ HC1.out (by omega)).mono ?_
  rintro e w2 ⟨g, v2, rfl, hx2, hb2⟩
  have HB2 := Aside0.mk (below_step HB1.out hb2)
  have HO1 := Aside0.mk (Kd.R_below HO1.out hb2)
  have HR2 := Aside0.mk (Kd.C_below HR.out HB2.out)
  have HX2 := Aside0.mk hx2
  have HG := Aside0.mk HB1.out.size
  have HG2 := Aside0.mk hb2.size
  clear hx2 hb2
  go_wp2_with fail
  refine (rread_calls A _ c b _ HR2.out (by omega)).mono ?_
  rintro e w3 ⟨g', v3, rfl, hy3, hb3⟩
  have HB3 := Aside0.mk (below_step HB2.out hb3)
  have HO1 := Aside0.mk (Kd.R_below HO1.out hb3)
  have HX3 := Aside0.mk (HX2.out.below hb3)
  have HY3 := Aside0.mk hy3
  have HS3 := Aside0.mk hb3.size
  clear hy3 hb3
  have HE : Aside0 (A1 = none → b.length = 0) := ⟨fun e => by subst e; rw [C_none HC1.out]; rfl⟩
  have HJ := Aside0.mk (show ∀ j, A1 = some ⟨j, 0, none⟩ → g ≠ j ∧ g' ≠ j ∧ some j ≠ v2.ownBlock ∧ some j ≠ v3.ownBlock from by
    rintro j rfl
    have h1 := HJ0.out j rfl
    have h2 := HX3.out.ge
    have h3 := HY3.out.ge
    have h4 := HG2.out
    refine ⟨by omega, by omega, fun e => ?_, fun e => ?_⟩
    · have := (R_lt HX3.out.row j e.symm).1
      omega
    · have := (R_lt HY3.out.row j e.symm).1
      omega)
  go_wp2_with fail
  go_loopg [8] (b.length + 1) (fun gk v8 wr => ∃ (k : Nat) (xs : List Int), v8 = .int .i64 k ∧ k ≤ b.length ∧ Aside0 (gk = b.length - k + 1) ∧ Aside0 (xs.length = b.length) ∧ Aside0 (Kd.R (Kd.int .u8) 5 wr w.heap.size (fun _ => True) (.slice A1 b.length c1) (xs)) ∧ Aside0 (Below w.heap.size w wr) ∧ Aside0 (Rdr wr w1.heap.size g v2 b 0 0) ∧ Aside0 (RR wr w2.heap.size g' v3 b 0 0))
  case atStart => exact ⟨0, b, rfl, Nat.zero_le _, ⟨by simp⟩, ⟨rfl⟩, HO1, HB3, HX3, HY3⟩
  case round =>
    obtain ⟨k, xs, rfl, hk, HGK, HXS, HO, HB, HX, HY⟩ := hrel
    by_cases hlt : k < b.length
    · have h1 : decide ((k : Int) < (b.length : Int)) = true := by simp; omega
      cases A1 with
      | none => exact absurd (HE.out rfl) (by omega)
      | some ad =>
        obtain ⟨j, rfl⟩ := Kd.R_head HO.out
        have hown : wr.ownsRow w.heap.size 5 1 (.slice (some ⟨j, 0, none⟩) b.length c1) b.length (nums .u8 xs) := by
          have := Kd.own_of_R HO.out
          rw [HXS.out] at this
          exact this
        have hc := own_at hown (k : Int) (by omega) (by omega)
        rw [Int.toNat_natCast] at hc
        obtain ⟨hc1, hc2⟩ := hc
        have HOW := Aside0.mk hown
        clear hown
        have hst := own_store HOW.out (k : Int) (bits .xor .u8 (rd xs k) 1)
        rw [Int.toNat_natCast] at hst
        have HST := Aside0.mk hst
        have HJJ := Aside0.mk (HJ.out j rfl)
        clear hst
        go_wp2
        go_roundg (b.length - (k + 1) + 1)
        case measure => have := HGK.out; omega
        case rel => exact ⟨k + 1, xs.set k (bits .xor .u8 (rd xs k) 1), by go_num, by omega, ⟨rfl⟩, ⟨by rw [List.length_set]; exact HXS.out⟩, ⟨Kd.R_of_own (enc := Value.int .u8) (h1 := fun _ => rfl) (by rw [List.length_set, HXS.out]; exact HST.out.1) (fun _ _ => trivial)⟩, ⟨HB.out.grown HST.out.2 HB.out.size (fun m e => by cases e; exact (R_lt HO.out j rfl).1)⟩, ⟨Rdr.kept HX.out HJJ.out.1 HJJ.out.2.2.1 HST.out.2⟩, ⟨RR.kept HY.out HJJ.out.2.1 HJJ.out.2.2.2 HST.out.2⟩⟩
    · obtain rfl : k = b.length := by omega
      have h1 : decide ((b.length : Int) < (b.length : Int)) = false := by simp
      clear hlt
      go_wp2_with fail
      clear HO1 HC1 HE HJ HGK HO HXS
      have HSZ := Aside0.mk HB1.out.size
      go_loopg [9] (k2 + 1) (fun gk v9 wr => ∃ (k : Nat) (pl f : Int), v9 = .int .i64 k ∧ k ≤ k2 ∧ Aside0 (gk = k2 - k + 1) ∧ Aside0 (Below w.heap.size w wr) ∧ Aside0 (Rdr wr w1.heap.size g v2 b pl f) ∧ Aside0 (RR wr w2.heap.size g' v3 b pl f))
      case atStart => exact ⟨0, 0, 0, rfl, Nat.zero_le _, ⟨by simp⟩, HB, HX, HY⟩
      case round =>
        clear HB HX HY
        obtain ⟨k, pl, f, rfl, hk, HGK, HB, HX, HY⟩ := hrel
        by_cases hlt : k < k2 ∧ k < 60
        · obtain ⟨hlt, hlt2⟩ := hlt
          obtain ⟨ad, rfl, hs0, hs1⟩ := step_at (Kd.C_below HL.out HB.out) k hlt
          obtain ⟨⟨dd, nn⟩, hstep⟩ : ∃ q, q = l.getD k (0, 0) := ⟨_, rfl⟩
          rw [add_field ad (k * 2) 1 (by omega)] at hs1
          have HT := Aside0.mk (show ∀ W, Below w.heap.size w W → W.cell? ⟨(ad.add (k * 2)).block, (ad.add (k * 2)).off + 1, none⟩ = some (.int .i64 (l.getD k (0, 0)).2) from fun W hW => by
            obtain ⟨ad', h0, _, h2⟩ := step_at (Kd.C_below HL.out hW) k hlt
            cases h0
            rw [← add_field ad (k * 2) 1 (by omega)]
            exact h2)
          rw [← hstep] at hs0 hs1 HT
          dsimp only at hs0 hs1 HT
          clear hstep
          have h1 : decide ((k : Int) < (k2 : Int)) = true := by simp; omega
          have h2 : decide ((k : Int) < (60 : Int)) = true := by simp; omega
          by_cases hd0 : dd = 0
          · subst hd0
            go_wp2_with fail
            refine (num_calls _ g v2 b pl f _ HX.out HW.out (by omega)).mono ?_
            rintro e wx ⟨rfl, hx, hg⟩
            obtain ⟨hbx, hyx⟩ := stepX HB.out HSZ.out HX.out HY.out hx hg
            have HX := Aside0.mk hx
            have HY := Aside0.mk hyx
            have HB := Aside0.mk hbx
            clear hx hg hyx hbx
            go_wp2_with fail
            refine (rnum_calls _ g' v3 b pl f _ HY.out HW.out (by omega)).mono ?_
            rintro e wy ⟨rfl, hy, hg⟩
            obtain ⟨hby, hxy⟩ := stepY HB.out (Nat.le_trans HSZ.out HG2.out) HX.out HY.out hy hg
            have HX := Aside0.mk hxy
            have HY := Aside0.mk hy
            have HB := Aside0.mk hby
            clear hy hg hxy hby
            generalize (rNum b pl f).1 = x1 at *
            generalize (rNum b pl f).2.1 = x2 at *
            generalize (rNum b pl f).2.2 = x3 at *
            have c0 := obj_cell HY.out.blk 1 rfl
            have e1 := fun (n : Nat) => end_calls _ g v2 b x2 x3 (wy.drewN n) (HX.out.below (pw_below_drewN (Below.refl _ _) n)) (by omega)
            have e2 := fun (n : Nat) => rend_calls _ g' v3 b x2 x3 (wy.drewN n) (HY.out.below (pw_below_drewN (Below.refl _ _) n)) (by omega)
            have e3 := fun (n : Nat) => at_calls _ g v2 b x2 x3 (wy.drewN n) (HX.out.below (pw_below_drewN (Below.refl _ _) n))
            have E1 := Aside0.mk e1
            have E2 := Aside0.mk e2
            have E3 := Aside0.mk e3
            clear e1 e2 e3
            go_wp2_with fail
            go_quiet (first | (go_at_call 30; exact Calls.quiet_of (E1.out _)) | (go_at_call 31; exact Calls.quiet_of (E2.out _)) | (go_at_call 32; exact Calls.quiet_of_same ((E3.out _).mono fun _ _ h => ⟨h.1, h.2.symm⟩)))
            go_wp2
            go_roundg (k2 - (k + 1) + 1)
            case measure => have := HGK.out; omega
            case rel => exact ⟨k + 1, x2, x3, by go_num, by omega, ⟨rfl⟩, ⟨pw_below_drewN HB.out _⟩, ⟨HX.out.below (pw_below_drewN (Below.refl _ _) _)⟩, ⟨HY.out.below (pw_below_drewN (Below.refl _ _) _)⟩⟩
          · have h3 : (dd == 0) = false := by simpa using hd0
            by_cases hd1 : dd = 1
            · subst hd1
              clear hd0 h3
              go_wp2_with fail
              go_region_held3 (fun w' => w'.cell? ⟨(ad.add (k * 2)).block, (ad.add (k * 2)).off + 1, none⟩ = some (.int .i64 nn)) (first | exact hs1 | exact hs2 | exact hs3)
                (first | (go_at_call 26; refine (fixed_calls' _ g v2 b pl f nn _ (HX.out.below (below_drew (Below.refl _ _))) HW.out (by omega)).mono ?_; rintro e wx ⟨rfl, hx, hg⟩; obtain ⟨hbx, hyx⟩ := stepX (below_drew HB.out) HSZ.out (HX.out.below (below_drew (Below.refl _ _))) (HY.out.below (below_drew (Below.refl _ _))) hx hg; have HX := Aside0.mk hx; have HY := Aside0.mk hyx; have HB := Aside0.mk hbx; have hs2 := HT.out wx hbx; clear hx hg hyx hbx) | (go_at_call 27; refine (rfixed_calls _ g' v3 b pl f nn _ HY.out HW.out (by omega)).mono ?_; rintro e wy ⟨rfl, hy, hg⟩; obtain ⟨hby, hxy⟩ := stepY HB.out (Nat.le_trans HSZ.out HG2.out) HX.out HY.out hy hg; have HX := Aside0.mk hxy; have HY := Aside0.mk hy; have HB := Aside0.mk hby; have hs3 := HT.out wy hby; clear hy hg hxy hby))
              generalize (rFix b pl f nn).1 = x1 at *
              generalize (rFix b pl f nn).2.1 = x2 at *
              generalize (rFix b pl f nn).2.2 = x3 at *
              have c0 := obj_cell HY.out.blk 1 rfl
              have e1 := fun (n : Nat) => end_calls _ g v2 b x2 x3 (wy.drewN n) (HX.out.below (pw_below_drewN (Below.refl _ _) n)) (by omega)
              have e2 := fun (n : Nat) => rend_calls _ g' v3 b x2 x3 (wy.drewN n) (HY.out.below (pw_below_drewN (Below.refl _ _) n)) (by omega)
              have e3 := fun (n : Nat) => at_calls _ g v2 b x2 x3 (wy.drewN n) (HX.out.below (pw_below_drewN (Below.refl _ _) n))
              have E1 := Aside0.mk e1
              have E2 := Aside0.mk e2
              have E3 := Aside0.mk e3
              clear e1 e2 e3
              go_wp2_with fail
              go_quiet (first | (go_at_call 30; exact Calls.quiet_of (E1.out _)) | (go_at_call 31; exact Calls.quiet_of (E2.out _)) | (go_at_call 32; exact Calls.quiet_of_same ((E3.out _).mono fun _ _ h => ⟨h.1, h.2.symm⟩)))
              go_wp2
              go_roundg (k2 - (k + 1) + 1)
              case measure => have := HGK.out; omega
              case rel => exact ⟨k + 1, x2, x3, by go_num, by omega, ⟨rfl⟩, ⟨pw_below_drewN HB.out _⟩, ⟨HX.out.below (pw_below_drewN (Below.refl _ _) _)⟩, ⟨HY.out.below (pw_below_drewN (Below.refl _ _) _)⟩⟩
            · have h4 : (dd == 1) = false := by simpa using hd1
              go_wp2_with fail
              refine (text_calls' _ g v2 b pl f nn _ HX.out HW.out (by omega)).mono ?_
              rintro e wx ⟨v4, rfl, ho, hx, hg⟩
              obtain ⟨A4, c4, rfl⟩ := Kd.R_slice ho
              obtain ⟨hbx, hyx⟩ := stepX HB.out HSZ.out HX.out HY.out hx hg
              have HO4 := Aside0.mk ho
              have HX0 := HX
              have HY0 := HY
              have HX := Aside0.mk hx
              have HY := Aside0.mk hyx
              have HB := Aside0.mk hbx
              have hs2 := HT.out wx hbx
              clear hx hg hyx hbx ho
              have hcv := conv_own (P := Try.prog) 22 9 5 Try.underlying22 Try.underlying5 Try.underlying9 (Kd.R_below HO4.out (below_drew (Below.refl _ _))) rfl rfl
              go_wp2_with fail
              go_region_with (first | (go_at_call 29; refine (rtext_calls' _ g' v3 b pl f nn _ (HY.out.below (below_drew (Below.refl _ _))) HW.out (by omega)).mono ?_; rintro e wy ⟨v5, rfl, ho5, hy, hg⟩; obtain ⟨A5, c5, rfl⟩ := Kd.R_slice ho5; obtain ⟨hby, hxy⟩ := stepY (below_drew HB.out) (Nat.le_trans HSZ.out HG2.out) (HX.out.below (below_drew (Below.refl _ _))) (HY.out.below (below_drew (Below.refl _ _))) hy hg; have HO4 := Aside0.mk (R_kept_t (flat_int _) (Kd.R_below HO4.out (below_drew (Below.refl _ _))) (HY.out.below (below_drew (Below.refl _ _))).blk (by decide) hg); have hcv3 := conv_own (P := Try.prog) 22 9 5 Try.underlying22 Try.underlying5 Try.underlying9 HO4.out rfl rfl; have hcv5 := conv_own (P := Try.prog) 22 9 5 Try.underlying22 Try.underlying5 Try.underlying9 ho5 rfl rfl; have HX := Aside0.mk hxy; have HY := Aside0.mk hy; have HB := Aside0.mk hby; clear hy hg hxy hby ho5))
              all_goals
                have hx0 := rTxt_len b pl f nn
                generalize (rTxt b pl f nn).1 = x0 at *
                generalize (rTxt b pl f nn).2.1 = x2 at *
                generalize (rTxt b pl f nn).2.2 = x3 at *
                clear hcv hs2 hcv3
                have HJ4 := Aside0.mk (show ∀ j, A4 = some ⟨j, 0, none⟩ → g ≠ j ∧ g' ≠ j ∧ some j ≠ v2.ownBlock ∧ some j ≠ v3.ownBlock from by
                  rintro j rfl
                  have h1 := (R_lt HO4.out j rfl).1
                  have h2 := (Array.getElem?_eq_some_iff.1 HX0.out.blk).1
                  have h3 := (Array.getElem?_eq_some_iff.1 HY0.out.blk).1
                  refine ⟨by omega, by omega, fun e => ?_, fun e => ?_⟩
                  · have := (R_lt HX0.out.row j e.symm).2
                    omega
                  · have := (R_lt HY0.out.row j e.symm).2
                    omega)
                have HE4 : Aside0 (A4 = none → x0.length = 0) := ⟨fun e => by subst e; rw [C_none (Kd.R_reads' HO4.out).2.2]; rfl⟩
                have HSW := Aside0.mk (Nat.le_trans HSZ.out (Nat.le_trans HX0.out.ge (Nat.le_of_lt (Array.getElem?_eq_some_iff.1 HX0.out.blk).1)))
                clear HX0 HY0
                obtain ⟨B4, hB4⟩ : ∃ B, B = wr.heap.size := ⟨_, rfl⟩
                rw [← hB4] at HO4 HSW
                clear hB4
                go_wp2_with fail
                clear hcv5
                go_loopg [12] (x0.length + 1) (fun gk v12 wr => ∃ (q : Nat) (xs : List Int), v12 = .int .i64 q ∧ q ≤ x0.length ∧ Aside0 (gk = x0.length - q + 1) ∧ Aside0 (xs.length = x0.length) ∧ Aside0 (Kd.R (Kd.int .u8) 5 wr B4 (fun _ => True) (.slice A4 x0.length c4) (xs)) ∧ Aside0 (Below w.heap.size w wr) ∧ Aside0 (Rdr wr w1.heap.size g v2 b x2 x3) ∧ Aside0 (RR wr w2.heap.size g' v3 b x2 x3))
                case atStart => exact ⟨0, x0, rfl, Nat.zero_le _, ⟨by simp⟩, ⟨rfl⟩, HO4, HB, HX, HY⟩
                case round =>
                  clear HB HX HY HO4
                  obtain ⟨q, xs, rfl, hq, HGQ, HXS, HO, HB, HX, HY⟩ := hrel
                  by_cases hqt : q < x0.length
                  · have h1 : decide ((q : Int) < (x0.length : Int)) = true := by simp; omega
                    cases A4 with
                    | none => exact absurd (HE4.out rfl) (by omega)
                    | some ad4 =>
                      obtain ⟨j, rfl⟩ := Kd.R_head HO.out
                      have hown : wr.ownsRow B4 5 1 (.slice (some ⟨j, 0, none⟩) x0.length c4) x0.length (nums .u8 xs) := by
                        have := Kd.own_of_R HO.out
                        rw [HXS.out] at this
                        exact this
                      have hc := own_at hown (q : Int) (by omega) (by omega)
                      rw [Int.toNat_natCast] at hc
                      obtain ⟨hc1, hc2⟩ := hc
                      have hst := own_store hown (q : Int) (bits .xor .u8 (rd xs q) 1)
                      rw [Int.toNat_natCast] at hst
                      have HST := Aside0.mk hst
                      have HJJ := Aside0.mk (HJ4.out j rfl)
                      clear hst hown
                      go_wp2
                      go_roundg (x0.length - (q + 1) + 1)
                      case measure => have := HGQ.out; omega
                      case rel => exact ⟨q + 1, xs.set q (bits .xor .u8 (rd xs q) 1), by go_num, by omega, ⟨rfl⟩, ⟨by rw [List.length_set]; exact HXS.out⟩, ⟨Kd.R_of_own (enc := Value.int .u8) (h1 := fun _ => rfl) (by rw [List.length_set, HXS.out]; exact HST.out.1) (fun _ _ => trivial)⟩, ⟨HB.out.grown HST.out.2 HB.out.size (fun m e => by cases e; exact Nat.le_trans HSW.out (R_lt HO.out j rfl).1)⟩, ⟨Rdr.kept HX.out HJJ.out.1 HJJ.out.2.2.1 HST.out.2⟩, ⟨RR.kept HY.out HJJ.out.2.1 HJJ.out.2.2.2 HST.out.2⟩⟩
                  · obtain rfl : q = x0.length := by omega
                    have h1 : decide ((x0.length : Int) < (x0.length : Int)) = false := by simp
                    clear hqt
                    go_wp2_with fail
                    have c0 := obj_cell HY.out.blk 1 rfl
                    have e1 := fun (n : Nat) => end_calls _ g v2 b x2 x3 (wr.drewN n) (HX.out.below (pw_below_drewN (Below.refl _ _) n)) (by omega)
                    have e2 := fun (n : Nat) => rend_calls _ g' v3 b x2 x3 (wr.drewN n) (HY.out.below (pw_below_drewN (Below.refl _ _) n)) (by omega)
                    have e3 := fun (n : Nat) => at_calls _ g v2 b x2 x3 (wr.drewN n) (HX.out.below (pw_below_drewN (Below.refl _ _) n))
                    have E1 := Aside0.mk e1
                    have E2 := Aside0.mk e2
                    have E3 := Aside0.mk e3
                    clear e1 e2 e3
                    go_wp2_with fail
                    go_quiet (first | (go_at_call 30; exact Calls.quiet_of (E1.out _)) | (go_at_call 31; exact Calls.quiet_of (E2.out _)) | (go_at_call 32; exact Calls.quiet_of_same ((E3.out _).mono fun _ _ h => ⟨h.1, h.2.symm⟩)))
                    go_wp2
                    go_roundg (k2 - (k + 1) + 1)
                    case measure => have := HGK.out; omega
                    case rel => exact ⟨k + 1, x2, x3, by go_num, by omega, ⟨rfl⟩, ⟨pw_below_drewN HB.out _⟩, ⟨HX.out.below (pw_below_drewN (Below.refl _ _) _)⟩, ⟨HY.out.below (pw_below_drewN (Below.refl _ _) _)⟩⟩
        · by_cases hlt1 : k < k2
          · have h1 : decide ((k : Int) < (k2 : Int)) = true := by simp; omega
            have h2 : decide ((k : Int) < (60 : Int)) = false := by simp; omega
            clear hlt
            go_wp2_with fail
            refine (live_calls _).mono ?_
            rintro e wv ⟨rfl, hv⟩
            have HV := Aside0.mk (below_step HB.out hv)
            clear hv
            go_wp2_with (first | (go_at_call 30; (with_reducible refine (end_nil _).mono ?_); rintro e w' ⟨rfl, rfl⟩) | (go_at_call 24; (with_reducible refine (num_nil _).mono ?_); rintro e w' ⟨rfl, rfl⟩) | (go_at_call 26; (with_reducible refine (fixed_nil 1 _).mono ?_); rintro e w' ⟨rfl, rfl⟩) | (go_at_call 32; (with_reducible refine (at_nil _).mono ?_); rintro e w' ⟨rfl, rfl⟩) | (go_at_call 28; (with_reducible refine (text_nil 3 _).mono ?_); rintro e w' ⟨rfl, rfl⟩))
            go_ret
            exact ⟨rfl, HV.out⟩
          · have h1 : decide ((k : Int) < (k2 : Int)) = false := by simp; omega
            clear hlt
            go_wp2_with fail
            refine (live_calls _).mono ?_
            rintro e wv ⟨rfl, hv⟩
            have HV := Aside0.mk (below_step HB.out hv)
            clear hv
            go_wp2_with (first | (go_at_call 30; (with_reducible refine (end_nil _).mono ?_); rintro e w' ⟨rfl, rfl⟩) | (go_at_call 24; (with_reducible refine (num_nil _).mono ?_); rintro e w' ⟨rfl, rfl⟩) | (go_at_call 26; (with_reducible refine (fixed_nil 1 _).mono ?_); rintro e w' ⟨rfl, rfl⟩) | (go_at_call 32; (with_reducible refine (at_nil _).mono ?_); rintro e w' ⟨rfl, rfl⟩) | (go_at_call 28; (with_reducible refine (text_nil 3 _).mono ?_); rintro e w' ⟨rfl, rfl⟩))
            go_ret
            exact ⟨rfl, HV.out⟩
end Go.Proofs.Ytgfmchajkajagaa.OctR
