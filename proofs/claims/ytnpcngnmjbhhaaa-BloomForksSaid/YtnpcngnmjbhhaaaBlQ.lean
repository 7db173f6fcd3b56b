/- What the program's summary computes: Ones, Size, Clear, Merge, Fork; condition: its words are those of the places that are on. -/
import Derived.Test.YtnpcngnmjbhhaaaBlO
import Derived.Test.YtnpcngnmjbhhaaaBlI
namespace Go.Proofs.Ytnpcngnmjbhhaaa.BlQ
open Go Go.RowKit Go.Proofs.YtnpcngnmjbhhaaaW.PrintWords Go.Proofs.Ytnpcngnmjbhhaaa.K Go.Proofs.Ytnpcngnmjbhhaaa.OctS Go.Proofs.Ytnpcngnmjbhhaaa.OctP Go.Proofs.Ytnpcngnmjbhhaaa.BlS Go.Proofs.Ytnpcngnmjbhhaaa.BlP Go.Proofs.Ytnpcngnmjbhhaaa.BlC Go.Proofs.Ytnpcngnmjbhhaaa.BlD Go.Proofs.Ytnpcngnmjbhhaaa.BlN Go.Proofs.Ytnpcngnmjbhhaaa.BlW Go.Proofs.Ytnpcngnmjbhhaaa.BlO Go.Proofs.Ytnpcngnmjbhhaaa.Oct
set_option linter.unusedVariables false
set_option linter.unusedSimpArgs false
def sm (on : List Int) (i : Nat) : Nat := ((List.range i).map (fun i => bc (wordOf on i) 64)).sum
theorem sm_succ (on : List Int) (i : Nat) : sm on (i + 1) = sm on i + bc (wordOf on i) 64 := by simp [sm, List.range_succ]
theorem sm_le (on : List Int) : ∀ i, sm on i ≤ 64 * i
  | 0 => by simp [sm]
  | i + 1 => by
    have := sm_le on i
    have := bc_le (wordOf on i) 64
    rw [sm_succ]; omega
theorem bf_lt {w : World} {base g : Nat} {size ways : Int} {v : Value} {ws : List Int} (h : BF w base g size ways v ws) : g < w.heap.size := by
  have := h.blk
  rcases Nat.lt_or_ge g w.heap.size with h1 | h1
  · exact h1
  · rw [Array.getElem?_eq_none h1] at this; cases this
theorem bf_below {w w1 : World} {base g : Nat} {size ways : Int} {v : Value} {ws : List Int} (h : BF w base g size ways v ws) (hb : Below w.heap.size w w1) : BF w1 base g size ways v ws :=
  ⟨h.ge, (hb.block g (bf_lt h)).trans h.blk, Kd.R_below h.row hb⟩
theorem size_calls (w : World) (base g : Nat) (size ways : Int) (v : Value) (ws : List Int) (h : BF w base g size ways v ws) :
    Calls Try.prog 19 #[.pointer (some ⟨g, 0, none⟩)] w fun e w' => e = .returned (.int .i64 size) ∧ w = w' := by
  have c0 := obj_cell (v := .int .i64 size) h.blk 0 rfl
  clear h
  go_enter Try.func19, Try.ntmps19
  go_wp2
  go_ret
  exact ⟨rfl, rfl⟩
theorem ones_f (w : World) (base g : Nat) (size ways : Int) (v : Value) (on : List Int) (m : Nat) (h : BF w base g size ways v (wordsOf on m)) (hm : m ≤ 100000) :
    Calls Try.prog 14 #[.pointer (some ⟨g, 0, none⟩)] w fun e w' => e = .returned (.int .i64 (sm on m)) ∧ w = w' := by
  obtain ⟨A, c, rfl, hl, hr⟩ := Kd.R_reads h.row
  rw [wordsOf_len] at hl hr
  have hc2 := obj_cell (v := .slice A m c) (by have hb := h.blk; rw [wordsOf_len] at hb; exact hb) 2 rfl
  have HR := Aside0.mk hr
  clear hr h hl
  go_enter Try.func14, Try.ntmps14
  go_wp2
  go_loopg [3, 13] (m + 1) (fun gk v3 v13 wr => ∃ (i acc : Nat), v3 = .int .i64 acc ∧ v13 = .int .i64 i ∧ i ≤ m ∧ acc ≤ 64 * i ∧ Aside0 (gk = m - i + 1) ∧ Aside0 (acc = sm on i) ∧ w = wr)
  case atStart => exact ⟨0, 0, rfl, rfl, Nat.zero_le _, by omega, ⟨rfl⟩, ⟨rfl⟩, rfl⟩
  case round =>
    obtain ⟨i, acc, rfl, rfl, hi, hacc, HG, HT, rfl⟩ := hrel
    by_cases hlt : i < m
    · have h1 : decide ((i : Int) < (m : Int)) = true := by simp; omega
      obtain ⟨ad, rfl, hcell⟩ := Kd.at_int HR.out (i : Int) (by omega) (by omega)
      have hrd : rd (wordsOf on m) (i : Int) = ((wordOf on i : Nat) : Int) := wordsOf_get on m i hlt
      rw [hrd] at hcell
      clear hrd
      have HS := Aside0.mk (sm_succ on i)
      have HC := Aside0.mk (ones_calls (wordOf on i) (wordOf_lt on i) w)
      have hbc := bc_le (wordOf on i) 64
      generalize bc (wordOf on i) 64 = r at HS HC hbc
      generalize wordOf on i = x at hcell HC
      rw [Int.toNat_natCast] at hcell
      go_wp2_with (go_at_call 30; (with_reducible refine HC.out.mono ?_); rintro e w' ⟨rfl, rfl⟩)
      go_roundg (m - (i + 1) + 1)
      case measure => have := HG.out; omega
      case rel => exact ⟨i + 1, acc + r, by go_num, by go_num, by omega, by omega, ⟨rfl⟩, ⟨by rw [HS.out, HT.out]⟩, rfl⟩
    · obtain rfl : i = m := by omega
      have h1 : decide ((i : Int) < (i : Int)) = false := by simp
      go_wp2
      go_ret
      have hh := HT.out
      exact ⟨by rw [← hh]; rfl, rfl⟩
theorem row_form {e : Nat} {w : World} {base : Nat} {k : IntKind} {v : Value} {xs : List Int} (h : Kd.R (Kd.int k) e w base (fun _ => True) (v) (xs)) (hn : 0 < xs.length) :
    ∃ b c cur, v = .slice (some ⟨b, 0, none⟩) xs.length c ∧ base ≤ b ∧ w.heap[b]? = some (.cells cur e (0, 0)) ∧ xs.length ≤ c ∧ c ≤ maxLen ∧ cur.size = c ∧ cur.toList.take xs.length = nums k xs := by
  have ho := Kd.own_of_R (enc := Value.int k) (h1 := fun _ => rfl) h
  rcases ho.2 with ⟨_, h0⟩ | ⟨b, c, cur, hv, hb, hh, h1, h2, h3, h4⟩
  · omega
  · exact ⟨b, c, cur, hv, hb, hh, h1, h2, by simpa using h3, by have h5 := h4; rw [Nat.mul_one] at h5; exact h5⟩
theorem row_clear {e : Nat} {w : World} {base : Nat} {k : IntKind} {b c : Nat} {cur : Array Value} (n : Nat) (hb : base ≤ b) (hh : w.heap[b]? = some (.cells cur e (0, 0))) (h1 : n ≤ c) (h2 : c ≤ maxLen) (h3 : cur.size = c) :
    Kd.R (Kd.int k) e (w.setCells b 0 (List.replicate n (.int k 0))) base (fun _ => True) (.slice (some ⟨b, 0, none⟩) n c) (List.replicate n 0) ∧ w.grownBy (w.setCells b 0 (List.replicate n (.int k 0))) (some b) := by
  obtain ⟨cur', e1, e2, e3⟩ := setCells_row (List.replicate n (.int k 0)) 0 w cur hh (by simp; omega)
  refine ⟨Kd.R_of_own (enc := Value.int k) (h1 := fun _ => rfl) ⟨by simp [encs], .inr ⟨b, c, cur', by simp, hb, e1, by simpa using h1, h2, by omega, ?_⟩⟩ (fun _ _ => trivial), ?_⟩
  · rw [e3]; simp [encs]
  · obtain ⟨s1, s2, s3, s4⟩ := setCells_same b (List.replicate n (.int k 0)) 0 w
    exact ⟨s1, s2, s3, by rw [s4]; exact Nat.le_refl _, fun j hj hne => setCells_far _ 0 j (fun h => hne (by rw [h]))⟩
theorem zeroU64 : ∀ w, (zeroValue 68).run Try.prog w = .ok (.int .u64 0) w := by
  intro w
  obtain ⟨i0, hi, hz0, hz1, hz2⟩ := info_parts infoU64
  simp [zeroValue, typeInfo, Sem.run_bind, hi, hz0]
theorem bf_kept {w w1 : World} {base g : Nat} {size ways : Int} {v v' : Value} {ws ws' : List Int} (h : BF w base g size ways v ws) {b : Nat} {cur : Array Value} {t : Nat} (hj : w.heap[b]? = some (.cells cur t (0, 0))) (ht : 62 ≠ t) (hg : w.grownBy w1 (some b)) :
    w1.heap[g]? = some (.cells #[.int .i64 size, .int .i64 ways, v] 62 (0, 0)) := by
  refine (hg.block g (bf_lt h) ?_).trans h.blk
  intro e
  injection e with e
  subst e
  have := h.blk
  rw [hj] at this
  injection this with this
  injection this with _ h2
  exact ht h2.symm
theorem clear_calls (w : World) (base g : Nat) (size ways : Int) (v : Value) (on : List Int) (m : Nat) (h : BF w base g size ways v (wordsOf on m)) (hm : m ≤ 100000) (hm1 : 0 < m) :
    Calls Try.prog 25 #[.pointer (some ⟨g, 0, none⟩)] w fun e w' => e = .returned (.int .i64 0) ∧ BF w' base g size ways v (wordsOf [] m) ∧ w.grownBy w' v.ownBlock := by
  obtain ⟨b, c, cur, rfl, hb, hh, h1, h2, h3, h4⟩ := row_form h.row (by rw [wordsOf_len]; exact hm1)
  rw [wordsOf_len] at h1
  have hc2 := obj_cell (v := .slice (some ⟨b, 0, none⟩) m c) (by have hb := h.blk; rw [wordsOf_len] at hb; exact hb) 2 rfl
  have hR := row_clear (k := .u64) m hb hh h1 h2 h3
  have HE := Aside0.mk (show BF (w.setCells b 0 (List.replicate m (.int .u64 0))) base g size ways (.slice (some ⟨b, 0, none⟩) (wordsOf on m).length c) (wordsOf [] m) from
    ⟨h.ge, bf_kept (v' := .slice none 0 0) (ws' := []) h hh (by decide) hR.2, by rw [wordsOf_nil, wordsOf_len]; exact hR.1⟩)
  have HG := Aside0.mk hR.2
  have hcl : ∀ ty, (Builtin.clear_ #[59] ty #[.slice (some ⟨b, 0, none⟩) m c]).run Try.prog w = .ok (.tuple #[]) (w.setCells b 0 (List.replicate m (.int .u64 0))) :=
    fun ty => Lib.run_clear_slice w _ _ ty _ Try.underlying59 zeroU64 rfl rfl b 0 m c hm1 (fun j hj => by rw [cell_of_row w b (0 + j) cur _ _ hh]; simp; omega) (fun j hj => obj_free hh _)
  clear h hR h4
  go_enter Try.func25, Try.ntmps25
  go_wp2
  go_ret
  exact ⟨rfl, HE.out, HG.out⟩
theorem R_kept_ne {α : Type} {d : Kd α} (hd : Flat d) {e : Nat} {w w1 : World} {base : Nat} {v : Value} {xs : List α} (h : d.R e w base (fun _ => True) v xs) {g : Nat} (hne : some g ≠ v.ownBlock) (hg : w.grownBy w1 (some g)) : d.R e w1 base (fun _ => True) v xs := by
  obtain ⟨_, inner, ho, hr⟩ := h
  refine ⟨fun _ _ => trivial, inner, ho.kept hg (.inr (fun e => hne e.symm)), hr.imp_ (fun x cs hm => ?_)⟩
  have h1 := d.M_mono (ok' := fun k => True ∧ some k ≠ v.ownBlock) (fun k hk => hk.elim) (hd w base x cs (d.K_of_M hm))
  have h2 := hd w base x cs (d.K_of_M hm)
  have h3 := d.M_move (w1 := w1) (fun k hk => hk.elim) h2
  exact d.M_mono (fun k hk => hk.elim) h3
theorem R_lt {α : Type} {d : Kd α} {e : Nat} {w : World} {base : Nat} {v : Value} {xs : List α} (h : d.R e w base (fun _ => True) v xs) (k : Nat) (hk : v.ownBlock = some k) : base ≤ k ∧ k < w.heap.size := by
  have := (Kd.R_bound h).1 k hk
  exact ⟨this.2.1, this.2.2.1⟩
/-- The words when i of them have been merged. -/
def mw (on on2 : List Int) (m i : Nat) : List Int := (List.range m).map (fun j => if j < i then ((wordOf (lay on on2) j : Nat) : Int) else ((wordOf on j : Nat) : Int))
theorem mw_zero (on on2 : List Int) (m : Nat) : mw on on2 m 0 = wordsOf on m := by simp [mw, wordsOf]
theorem mw_len (on on2 : List Int) (m i : Nat) : (mw on on2 m i).length = m := by simp [mw]
theorem mw_all (on on2 : List Int) (m : Nat) : mw on on2 m m = wordsOf (lay on on2) m := by
  refine List.map_congr_left fun j hj => ?_
  rw [if_pos (List.mem_range.1 hj)]
theorem mw_get (on on2 : List Int) (m i : Nat) (h : i < m) : (mw on on2 m i).getD i 0 = ((wordOf on i : Nat) : Int) := by simp [mw, h]
theorem mw_set (on on2 : List Int) (m i : Nat) : (mw on on2 m i).set i ((wordOf on i ||| wordOf on2 i : Nat) : Int) = mw on on2 m (i + 1) := by
  refine List.ext_getElem (by simp [mw]) fun j h1 h2 => ?_
  rw [List.getElem_set]
  simp only [mw, List.getElem_map, List.getElem_range]
  by_cases e : i = j
  · subst e; rw [if_pos rfl, if_pos (Nat.lt_succ_self i), word_merge]
  · rw [if_neg e]
    by_cases h : j < i
    · rw [if_pos h, if_pos (by omega)]
    · rw [if_neg h, if_neg (by omega)]
set_option maxHeartbeats 2000000 in
theorem merge_calls (w : World) (base g : Nat) (size ways : Int) (v : Value) (on : List Int) (m : Nat) (base2 g2 : Nat) (v2 : Value) (on2 : List Int) (h : BF w base g size ways v (wordsOf on m)) (h2 : BF w base2 g2 size ways v2 (wordsOf on2 m)) (hne : v.ownBlock ≠ v2.ownBlock) (hm : m ≤ 100000) (hm1 : 0 < m) :
    Calls Try.prog 24 #[.pointer (some ⟨g, 0, none⟩), .pointer (some ⟨g2, 0, none⟩)] w fun e w' => e = .returned (.int .i64 0) ∧ BF w' base g size ways v (wordsOf (lay on on2) m) ∧ w.grownBy w' v.ownBlock := by
  obtain ⟨b, c, cur, rfl, hb, hh, r1, r2, r3, r4⟩ := row_form h.row (by rw [wordsOf_len]; exact hm1)
  obtain ⟨b2, c2, cur2, rfl, hb2, hh2, s1, s2, s3, s4⟩ := row_form h2.row (by rw [wordsOf_len]; exact hm1)
  clear r1 r2 r3 r4 s1 s2 s3 s4 hb hb2
  have hbb : b ≠ b2 := fun e => hne (by rw [e]; rfl)
  have a0 := obj_cell (v := .int .i64 size) h.blk 0 rfl
  have a1 := obj_cell (v := .int .i64 ways) h.blk 1 rfl
  have d0 := obj_cell (v := .int .i64 size) h2.blk 0 rfl
  have d1 := obj_cell (v := .int .i64 ways) h2.blk 1 rfl
  have d2 := obj_cell (v := .slice (some ⟨b2, 0, none⟩) m c2) (by have hb := h2.blk; rw [wordsOf_len] at hb; exact hb) 2 rfl
  have HF := Aside0.mk h
  have HF2 := Aside0.mk h2
  have HH := Aside0.mk hh
  clear h h2 hh hh2 hne
  have HX : ∀ W, w.grownBy W (some b) → Aside0 (W.heap[g]? = some (.cells #[.int .i64 size, .int .i64 ways, .slice (some ⟨b, 0, none⟩) m c] 62 (0, 0))) ∧ Aside0 (Kd.C (Kd.int .u64) W (some ⟨b2, 0, none⟩) m (wordsOf on2 m)) := fun W hW => by
    have e1 := bf_kept (v' := .slice none 0 0) (ws' := []) HF.out HH.out (by decide) hW
    have e2 := (Kd.R_reads' (R_kept_ne (flat_int .u64) HF2.out.row (by intro e; injection e with e; exact hbb e) hW)).2.2
    rw [wordsOf_len] at e1 e2
    exact ⟨⟨e1⟩, ⟨e2⟩⟩
  have HXX := Aside0.mk HX
  clear HX
  have HR0 := Aside0.mk (show Kd.R (Kd.int .u64) 68 w base (fun _ => True) (.slice (some ⟨b, 0, none⟩) m c) (mw on on2 m 0) from by rw [mw_zero]; have h := HF.out.row; rw [wordsOf_len] at h; exact h)
  go_enter Try.func24, Try.ntmps24
  go_wp2_with fail
  go_quiet (fail)
  go_wp2_with fail
  clear a0 a1 d0 d1 d2
  go_loopg [40] (m + 1) (fun gk v40 wr => ∃ i : Nat, v40 = .int .i64 i ∧ i ≤ m ∧ Aside0 (gk = m - i + 1) ∧ Aside0 (Kd.R (Kd.int .u64) 68 wr base (fun _ => True) (.slice (some ⟨b, 0, none⟩) m c) (mw on on2 m i)) ∧ Aside0 (w.grownBy wr (some b)))
  case atStart => exact ⟨0, rfl, Nat.zero_le _, ⟨rfl⟩, ⟨Kd.R_drewN HR0.out _⟩, ⟨grown_of_below (pw_below_drewN (Below.refl _ _) _) _⟩⟩
  case round =>
    obtain ⟨i, rfl, hi, HG, HR, HW⟩ := hrel
    by_cases hlt : i < m
    · have h1 : decide ((i : Int) < (m : Int)) = true := by simp; omega
      obtain ⟨K1, K2⟩ := HXX.out wr HW.out
      have hc2 := obj_cell (v := .slice (some ⟨b, 0, none⟩) m c) K1.out 2 rfl
      obtain ⟨ad, had, hcell2⟩ := Kd.at_int K2.out (i : Int) (by omega) (by omega)
      injection had with had
      subst had
      have hrd2 : rd (wordsOf on2 m) (i : Int) = ((wordOf on2 i : Nat) : Int) := wordsOf_get on2 m i hlt
      have hC := Kd.R_cell (enc := Value.int .u64) (h1 := fun _ => rfl) (0 : Int) (g := b) (cap := c) (xs := mw on on2 m i) (by have h := HR.out; rw [← mw_len on on2 m i] at h; rw [mw_len] at h ⊢; exact h) (i : Int) (by omega) (by rw [mw_len]; omega)
      obtain ⟨hcell, hfz⟩ := hC
      have hrd : rdOf (0 : Int) (mw on on2 m i) (i : Int) = ((wordOf on i : Nat) : Int) := mw_get on on2 m i hlt
      rw [hrd2] at hcell2
      rw [hrd] at hcell
      have HP := Aside0.mk (Kd.R_putg (enc := Value.int .u64) (h1 := fun _ => rfl) HR.out (i : Int) ((wordOf on i ||| wordOf on2 i : Nat) : Int))
      rw [Int.toNat_natCast, mw_set] at HP
      have hor := bits_or_u64_nat (wordOf on i) (wordOf on2 i) (wordOf_lt _ _) (wordOf_lt _ _)
      clear hrd hrd2
      generalize wordOf on i ||| wordOf on2 i = z at *
      generalize wordOf on i = x at *
      generalize wordOf on2 i = y at *
      rw [Int.toNat_natCast] at hcell hcell2 hfz
      rw [Addr.add_mid, Nat.zero_add] at hcell2
      go_wp2
      go_roundg (m - (i + 1) + 1)
      case measure => have := HG.out; omega
      case rel => exact ⟨i + 1, by go_num, by omega, ⟨rfl⟩, ⟨HP.out.1⟩, ⟨HW.out.trans HP.out.2⟩⟩
    · obtain rfl : i = m := by omega
      have h1 : decide ((i : Int) < (i : Int)) = false := by simp
      obtain ⟨K1, K2⟩ := HXX.out wr HW.out
      go_wp2
      go_ret
      have e := wordsOf_len on i
      rw [mw_all] at HR
      exact ⟨rfl, ⟨HF.out.ge, by rw [e]; exact K1.out, by rw [e]; exact HR.out⟩, HW.out⟩
end Go.Proofs.Ytnpcngnmjbhhaaa.BlQ
