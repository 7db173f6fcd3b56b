/- The law CacheKeeps: a sum that was put last is found, and it is still, once fewer than room others were put; condition: each deed reads as it should. -/
import Derived.Test.YtocmljijdecilaaCaLv
namespace Go.Proofs.Ytocmljijdecilaa.CaL4
open Go Go.RowKit Go.Proofs.YtocmljijdecilaaW.PrintWords Go.Proofs.Ytocmljijdecilaa.K Go.Proofs.Ytocmljijdecilaa.Eq Go.Proofs.Ytocmljijdecilaa.CaS Go.Proofs.Ytocmljijdecilaa.CaC Go.Proofs.Ytocmljijdecilaa.CaD Go.Proofs.Ytocmljijdecilaa.CaB2 Go.Proofs.Ytocmljijdecilaa.CaO Go.Proofs.Ytocmljijdecilaa.CaP Go.Proofs.Ytocmljijdecilaa.CaQ Go.Proofs.Ytocmljijdecilaa.CaR Go.Proofs.Ytocmljijdecilaa.CaF Go.Proofs.Ytocmljijdecilaa.CaX Go.Proofs.Ytocmljijdecilaa.CaM Go.Proofs.Ytocmljijdecilaa.CaN Go.Proofs.Ytocmljijdecilaa.CaDo Go.Proofs.Ytocmljijdecilaa.CaDp Go.Proofs.Ytocmljijdecilaa.CaPf Go.Proofs.Ytocmljijdecilaa.CaAl Go.Proofs.Ytocmljijdecilaa.CaPy Go.Proofs.Ytocmljijdecilaa.CaLv
set_option linter.unusedVariables false
set_option linter.unusedSimpArgs false
theorem wf_u8 {x : Int} (h : (Lit.int .u8 x).wf = true) : ∃ p : Nat, x = p ∧ p ≤ 255 := by
  simp [Lit.wf, IntKind.min, IntKind.max, IntKind.signed, IntKind.bits] at h
  exact ⟨x.toNat, by omega, by omega⟩
theorem wf_u16 {x : Int} (h : (Lit.int .u16 x).wf = true) : ∃ p : Nat, x = p ∧ p ≤ 65535 := by
  simp [Lit.wf, IntKind.min, IntKind.max, IntKind.signed, IntKind.bits] at h
  exact ⟨x.toNat, by omega, by omega⟩
theorem first_ex : ∀ (ss : List Sm) (s : Sm) (o k : Nat), ss[k]? = some s → ∃ j, firstAt ss s o = some j ∧ o ≤ j ∧ j ≤ o + k ∧ ss[j - o]? = some s
  | [], s, o, k, h => by simp at h
  | x :: l, s, o, k, h => by
    unfold firstAt
    by_cases e : x = s
    · rw [if_pos e]
      exact ⟨o, rfl, Nat.le_refl _, by omega, by simp [e]⟩
    · rw [if_neg e]
      cases k with
      | zero => simp at h; exact absurd h e
      | succ k =>
        obtain ⟨j, h1, h2, h3, h4⟩ := first_ex l s (o + 1) k (by simpa using h)
        refine ⟨j, h1, by omega, by omega, ?_⟩
        rw [show j - o = (j - (o + 1)) + 1 by omega, List.getElem?_cons_succ]
        exact h4
/-- The container b is there with its sums; those behind it have none. -/
def Kept (xs : List Bn) (b : Int) (ss : List Sm) (i : Nat) : Prop := ∃ pre post, xs = pre ++ (b, ss) :: post ∧ (∀ p, p ∈ post → p.2 = []) ∧ post.length ≤ i
theorem kept_put {room : Nat} (hr : 0 < room) (xs : List Bn) (b : Int) (ss : List Sm) : Kept (putX room xs b ss) b ss 0 := by
  unfold putX cutX
  split
  · rename_i h
    rw [List.length_append, List.length_singleton] at h
    rw [List.drop_append_of_le_length (by omega)]
    exact ⟨_, [], rfl, fun p hp => (by cases hp), Nat.le_refl _⟩
  · exact ⟨_, [], rfl, fun p hp => (by cases hp), Nat.le_refl _⟩
theorem kept_more {room i : Nat} {xs : List Bn} {b m : Int} {ss : List Sm} (h : Kept xs b ss i) (hi : i + 2 ≤ room) (hm : m ≠ b) : Kept (putX room xs m []) b ss (i + 1) := by
  obtain ⟨pre, post, rfl, hp, hl⟩ := h
  have e : rmX (pre ++ (b, ss) :: post) m = rmX pre m ++ (b, ss) :: rmX post m := by
    unfold rmX
    rw [List.filter_append, List.filter_cons_of_pos (by simpa using hm.symm)]
  have hl2 : (rmX post m).length ≤ i := Nat.le_trans (List.length_filter_le _ _) hl
  have hq : ∀ p, p ∈ rmX post m ++ [(m, [])] → p.2 = [] := fun p hpp => by
    rcases List.mem_append.1 hpp with h1 | h1
    · exact hp p (mem_rm.1 h1).1
    · rw [List.mem_singleton.1 h1]
  unfold putX cutX
  rw [e, List.append_assoc, List.cons_append]
  split
  · rename_i h
    generalize rmX pre m = q at *
    cases q with
    | nil =>
      simp only [List.nil_append, List.length_cons, List.length_append, List.length_nil] at h
      omega
    | cons a q => exact ⟨q, _, rfl, hq, by simp; omega⟩
  · exact ⟨_, _, rfl, hq, by simp; omega⟩
theorem kept_find {xs : List Bn} {b : Int} {ss : List Sm} {i j : Nat} {s : Sm} (h : Kept xs b ss i) (hf : firstAt ss s 0 = some j) : ∃ x, findX xs s = some (x, j) ∧ (xs.getD x default).1 = b := by
  obtain ⟨pre, post, rfl, hp, hl⟩ := h
  refine ⟨pre.length, ?_, by simp⟩
  unfold findX
  rw [findD_skip (fX (pre ++ (b, ss) :: post)) s _ (pre.length + 1) (by simp) (fun k h1 h2 => ?_)]
  · unfold findD
    have e : fX (pre ++ (b, ss) :: post) pre.length = ss := by unfold fX; simp
    rw [e, hf]
  · have e : fX (pre ++ (b, ss) :: post) k = [] := by
      unfold fX
      simp only [List.length_append, List.length_cons] at h2
      obtain ⟨q, rfl⟩ : ∃ q, k = pre.length + 1 + q := ⟨k - (pre.length + 1), by omega⟩
      have hk : q < post.length := by omega
      have : (pre ++ (b, ss) :: post).getD (pre.length + 1 + q) default = post[q] := by
        rw [List.getD_eq_getElem?_getD, List.getElem?_append_right (by omega), show pre.length + 1 + q - pre.length = q + 1 by omega, List.getElem?_cons_succ]
        simp [hk]
      rw [this]
      exact hp _ (List.getElem_mem hk)
    rw [e]; rfl
theorem sums_away {w : World} {A : Option Addr} {k : Nat} {ss : List Sm} (h : SumsC w A k ss) (hk : 0 < k) (a : Addr) (ha : A = some a) : a.block < w.heap.size := by
  have hc := h.cells a ha 0 hk
  have hx := h.each (ss.getD 0 []) (by
    have : 0 < ss.length := by rw [h.len]; exact hk
    simp [this])
  have h0 : 0 < (nums .u8 (ss.getD 0 [])).length := by rw [show (nums .u8 (ss.getD 0 [])).length = 32 by simp only [nums, List.length_map]; exact hx.1]; decide
  have := World.block_lt_of_cell? _ _ (hc 0 _ (List.getElem?_eq_getElem h0))
  simpa [Addr.add] using this
theorem sm_nq (s : Sm) (h : OkSum s) (w : World) : (binOp .neq 35 (.agg (nums .u8 s).toArray) (.agg (nums .u8 s).toArray)).run Try.prog w = .ok (.bool false) w := by
  obtain ⟨l, hl⟩ := key_sm s h
  exact neq_same ⟨⟨2, by omega, by kernel_rfl, by kernel_rfl⟩, by rw [Try.underlying35]⟩ hl w
theorem sums_take {w : World} {A : Option Addr} {k : Nat} {ls : List (List Int)} (h : SumsC w A k ls) (n : Nat) (hn : n ≤ k) : SumsC w A n (ls.take n) := by
  refine ⟨by rw [List.length_take, h.len]; omega, by have := h.lim; omega, fun s hs => h.each s (List.mem_of_mem_take hs), fun h0 => h.is (by omega), fun ad ha i hi => ?_⟩
  have := h.cells ad ha i (by omega)
  have e : (ls.take n).getD i [] = ls.getD i [] := by
    rw [List.getD_eq_getElem?_getD, List.getD_eq_getElem?_getD, List.getElem?_take, if_pos hi]
  rw [e]
  exact this
theorem find_kept {w : World} {T : Nat → Prop} {g : Nat} {room : Nat} {xs : List Bn} {b : Int} {ss : List Sm} {i j : Nat} (h : XS w T g room xs) (hn : xs.length ≤ 900) (hT : ∀ k, T k → k < w.heap.size) (hTg : T g) (s : Sm) (hs : OkSum s) (hk : Kept xs b ss i) (hf : firstAt ss s 0 = some j) :
    Calls Try.prog 12 #[.pointer (some ⟨g, 0, none⟩), .agg (nums .u8 s).toArray] w fun e w' => e = .returned (.tuple #[.int .i64 b, .int .i64 (j : Int), .bool true]) ∧ w.grownBy w' (some g) := by
  obtain ⟨x, h1, h2⟩ := kept_find hk hf
  refine (x_find h hn hT hTg s hs).mono ?_
  rintro e w' (⟨h3, _⟩ | ⟨i2, j2, h3, rfl, _, h5⟩)
  · rw [h1] at h3; cases h3
  · rw [h1] at h3
    injection h3 with h3
    injection h3 with e1 e2
    subst e1; subst e2
    exact ⟨by rw [h2], h5⟩
theorem Kept.mono {xs : List Bn} {b : Int} {ss : List Sm} {i i2 : Nat} (h : Kept xs b ss i) (hi : i ≤ i2) : Kept xs b ss i2 := by
  obtain ⟨pre, post, e, hp, hl⟩ := h
  exact ⟨pre, post, e, hp, Nat.le_trans hl hi⟩
set_option maxHeartbeats 8000000 in
set_option maxRecDepth 100000 in
theorem keeps_row (x0 : Int) (A : Option Addr) (k c : Nat) (ds : List Deed) (b0 : Int) (A2 : Option Addr) (k2 c2 : Nat) (ss : List (List Int)) (a0 : Int) (A3 : Option Addr) (k3 c3 : Nat) (ms : List Int) (w : World) (hx : (Lit.int .u8 x0).wf = true) (hs : DeedsC w A k ds) (hc : k ≤ c) (hb0 : (Lit.int .u16 b0).wf = true) (hs2 : SumsC w A2 k2 ss) (hc2 : k2 ≤ c2) (ha0 : (Lit.int .u8 a0).wf = true) (hs3 : (Kd.int .u16).C w A3 k3 ms) (hc3 : k3 ≤ c3) (hm3 : ∀ x ∈ ms, (Lit.int .u16 x).wf = true) (hy3 : k3 * 2 ≤ 140737488351232) :
    Calls Try.prog 6 #[.int .u8 x0, .slice A k c, .int .u16 b0, .slice A2 k2 c2, .int .u8 a0, .slice A3 k3 c3] w fun e w' => e = .returned (.bool true) ∧ Below w.heap.size w w' := by
  obtain ⟨p, rfl, hp⟩ := wf_u8 hx
  obtain ⟨p2, rfl, hp2⟩ := wf_u16 hb0
  obtain ⟨p4, rfl, hp4⟩ := wf_u8 ha0
  have hroom : 0 < 1 + p % 12 ∧ 1 + p % 12 ≤ 12 := by omega
  have HPL := Aside0.mk (play_calls p hp _ rfl A k c ds w hs)
  have HSZ := Aside0.mk (fun W => size_calls p hp W)
  have HS2 := Aside0.mk hs2
  have HS3 := Aside0.mk hs3
  have HM3 := Aside0.mk hm3
  have HU := Aside0.mk Try.underlying35
  have n1 : IntKind.i64.wrap (p2 : Int) = (p2 : Int) := IntWalk.i64_in _ (by omega)
  have n2 : (p2 : Int).tmod 4096 = ((p2 % 4096 : Nat) : Int) := rfl
  have hnb : p2 % 4096 < 4096 := Nat.mod_lt _ (by decide)
  have n4 : IntKind.i64.wrap (p4 : Int) = (p4 : Int) := IntWalk.i64_in _ (by omega)
  generalize p2 % 4096 = b at *
  generalize 1 + p % 12 = room at *
  clear hx hs hb0 hs2 ha0 hs3 hm3 hp hp2
  go_enter Try.func6, Try.ntmps6
  go_wp2_with fail
  refine HPL.out.mono ?_
  rintro e W1 ⟨rfl, hT, hB⟩
  generalize hxs : CaPy.runN room ds 120 = xs at *
  have HX1 := Aside0.mk hT.x
  have HGD := Aside0.mk hT.good
  have HLM := Aside0.mk hT.lim
  have HB := Aside0.mk hB
  have hn9 : xs.length ≤ 900 := by have := hT.good.len; omega
  have hgx : w.heap.size < W1.heap.size := hT.lim _ hT.tx
  clear hT hB HPL hxs
  by_cases h64 : 64 < k2
  · have d64 : decide ((64 : Int) < (k2 : Int)) = true := by simp; omega
    have q1 : (64 : Int) ≤ (c2 : Int) := by omega
    have q2 : (64 : Int) ≤ (k2 : Int) := by omega
    --BLK1
    have HSS : Aside0 (SumsC w A2 64 (ss.take 64)) := ⟨sums_take HS2.out 64 (by omega)⟩
    have hkk : 64 ≤ 64 := by omega
    go_wp2_with fail
    refine (x_put HX1.out HGD.out (by omega) HLM.out (.inl rfl) b (by omega) (by omega) A2 64 c2 (ss.take 64) (Kd.C_below (sums_C HSS.out) HB.out) hkk (fun h0 a ha => by have := sums_away HSS.out h0 a ha; omega)).mono ?_
    rintro e W2 ⟨rfl, hx2, hg2⟩
    have HX2 := Aside0.mk hx2
    have HK2 := Aside0.mk (kept_put (room := room) (by omega) xs b (ss.take 64))
    have HG2 := Aside0.mk (good_put HGD.out b (ss.take 64) (by rw [HSS.out.len]; exact hkk))
    have HB2 : Aside0 (Below w.heap.size w W2) := ⟨⟨hg2.os.trans HB.out.os, hg2.tape.trans HB.out.tape, hg2.output.trans HB.out.output, Nat.le_trans HB.out.size hg2.size, fun q hq => (hg2.block q (Nat.lt_of_lt_of_le hq HB.out.size) (fun e => by injection e with e; omega)).trans (HB.out.block q hq)⟩⟩
    have hl2 : ∀ q, (q = w.heap.size ∨ q = w.heap.size + 1) → q < W2.heap.size := fun q hq => Nat.lt_of_lt_of_le (HLM.out q hq) hg2.size
    have HL2 := Aside0.mk hl2
    clear hx2 hg2 hl2
    generalize putX room xs b (ss.take 64) = xs1 at *
    have hn1 : xs1.length ≤ 900 := by have := HG2.out.len; omega
    have hzz := HB2.out.size
    rcases Nat.eq_zero_or_pos 64 with h0 | h0
    · exact absurd h0 (by decide)
    have e0 : ((64 : Int) == 0) = false := by first | decide | (simp; omega)
    have e0' : (64 : Int) ≠ 0 := by omega
    have n5 : (p4 : Int).tmod (64 : Int) = ((p4 % 64 : Nat) : Int) := rfl
    have hkk2 : p4 % 64 < 64 := Nat.mod_lt _ h0
    generalize p4 % 64 = kk at *
    obtain ⟨ad, rfl⟩ := HSS.out.is h0
    have hmem : (ss.take 64)[kk]? = some ((ss.take 64).getD kk []) := by
      have : kk < (ss.take 64).length := by rw [HSS.out.len]; exact hkk2
      rw [List.getD_eq_getElem?_getD, List.getElem?_eq_getElem this]; rfl
    obtain ⟨j, hf, _, hj1, hj2⟩ := first_ex (ss.take 64) _ 0 kk hmem
    rw [Nat.sub_zero] at hj2
    have hjk : j ≤ kk := by omega
    have hok : OkSum ((ss.take 64).getD kk []) := HSS.out.each _ (List.mem_of_getElem? hmem)
    have hsj : (ss.take 64).getD j [] = (ss.take 64).getD kk [] := by rw [List.getD_eq_getElem?_getD, hj2]; rfl
    have HRA : Aside0 (Hd.RangeA w (ad.add (kk * 32)) (nums .u8 ((ss.take 64).getD kk []))) := ⟨HSS.out.cells ad rfl kk hkk2⟩
    have HRJ : Aside0 (Hd.RangeA w (ad.add (j * 32)) (nums .u8 ((ss.take 64).getD kk []))) := ⟨by rw [← hsj]; exact HSS.out.cells ad rfl j (by omega)⟩
    generalize (ss.take 64).getD kk [] = s at *
    have HFK : Aside0 (∀ (W : World) (T : Nat → Prop) (g : Nat) (ys : List Bn) (i : Nat), XS W T g room ys → ys.length ≤ 900 → (∀ k, T k → k < W.heap.size) → T g → Kept ys b (ss.take 64) i → Calls Try.prog 12 #[.pointer (some ⟨g, 0, none⟩), .agg (nums .u8 s).toArray] W fun e w' => e = .returned (.tuple #[.int .i64 b, .int .i64 (j : Int), .bool true]) ∧ W.grownBy w' (some g)) := ⟨fun W T g ys i h1 h2 h3 h4 h5 => find_kept h1 h2 h3 h4 s hok h5 hf⟩
    have HIS := Aside0.mk (infoSmS s hok)
    have hnq := sm_nq s hok
    clear hmem hf hj2 hok hsj hj1
    generalize nums .u8 s = N at *
    have e5 : ((b : Int) != (b : Int)) = false := by simp
    have e6 : ((b : Int) == (b : Int)) = true := by simp
    have d6 : decide ((kk : Int) < (j : Int)) = false := by simp; omega
    have d6n : ¬ (kk < j) := by omega
    have d6m : decide (kk < j) = false := by simp; omega
    have d7 : decide ((j : Int) < 0) = false := by simp
    have k1 : (0 : Int) ≤ (kk : Int) := by omega
    have k2' : (kk : Int) < (64 : Int) := by omega
    have j1 : (0 : Int) ≤ (j : Int) := by omega
    have j2 : (j : Int) < (64 : Int) := by omega
    go_wp2_with fail
    (refine Hd.startE (S := (fun X => Below W2.heap.size W2 X)) 1000 (by kernel_rfl) (below_drew1 (Below.refl _ _)) (fun hHeld => ?_))
    (refine Hd.takeE (i := 0) (v := ?_) rfl rfl (by kernel_rfl) (by kernel_rfl) (by kernel_rfl) (by kernel_rfl) (fun _ _ _ h => h) (Or.inl ⟨by rfl, ?_⟩) (by assumption) ?_; rotate_left; (focus (intro wS hS; (try go_split_ands); go_simp; all_goals (with_reducible rfl))); simp only [List.set_cons_zero, List.set_cons_succ, List.setIfInBounds_toArray]); (refine Hd.takeE (i := 2) (v := ?_) rfl rfl (by kernel_rfl) (by kernel_rfl) (by kernel_rfl) (by kernel_rfl) (fun _ _ _ h => h) (Or.inl ⟨by rfl, ?_⟩) (by assumption) ?_; rotate_left; (focus (intro wS hS; (try go_split_ands); go_simp; all_goals (with_reducible rfl))); simp only [List.set_cons_zero, List.set_cons_succ, List.setIfInBounds_toArray]); (refine Hd.takeE (i := 3) (v := ?_) rfl rfl (by kernel_rfl) (by kernel_rfl) (by kernel_rfl) (by kernel_rfl) (fun _ _ _ h => h) (Or.inl ⟨by rfl, ?_⟩) (by assumption) ?_; rotate_left; (focus (intro wS hS; (try go_split_ands); go_simp; all_goals (with_reducible rfl))); simp only [List.set_cons_zero, List.set_cons_succ, List.setIfInBounds_toArray]); (refine Hd.takeE (i := 4) (v := ?_) rfl rfl (by kernel_rfl) (by kernel_rfl) (by kernel_rfl) (by kernel_rfl) (fun _ _ _ h => h) (Or.inl ⟨by rfl, ?_⟩) (by assumption) ?_; rotate_left; (focus (intro wS hS; (try go_split_ands); go_simp; all_goals (with_reducible rfl))); simp only [List.set_cons_zero, List.set_cons_succ, List.setIfInBounds_toArray])
    (refine Hd.takeE (i := 5) rfl rfl (by kernel_rfl) (by kernel_rfl) (by kernel_rfl) (by kernel_rfl) (fun _ _ _ h => h) (Hd.yieldsIf_load_any (by rfl) 35 _ rfl _ rfl N _ (fun wS hS => ((HRA.out.below HB2.out).below hS)) HU.out rfl HIS.out) (by assumption) ?_; simp only [List.set_cons_zero, List.set_cons_succ, List.setIfInBounds_toArray])
    (refine Hd.readyE (rs := [1]) (by kernel_rfl) (by simp) ?_; refine Hd.AllE.cons (i := 1) rfl (fun K hK => ?_) Hd.AllE.nil; (go_simp; refine (x_fork (HX2.out.below (below_drew1 (Below.refl _ _))) hn1 (fun q => q = W2.heap.size) (fun q hq => Nat.le_of_eq hq) (fun q hq hq2 => absurd hq (by rw [hq2]; exact Nat.lt_irrefl _))).mono ?_; rintro e W3 ⟨rfl, hx3, hb3⟩); refine hK.out _ _ (below_then (below_drew1 (Below.refl _ _)) (Nat.le_refl _) hb3) (fun hHeld => ?_); clear hK K; (try simp only [Act.put, List.setIfInBounds_toArray, List.set_cons_zero, List.set_cons_succ]))
    (refine Hd.readyE (rs := [6]) (by kernel_rfl) (by simp) ?_; refine Hd.AllE.cons (i := 6) rfl (fun K hK => ?_) Hd.AllE.nil; (go_simp; refine (HFK.out W3 _ _ _ 0 hx3 hn1 (fun q hq => by rw [hq]; exact hx3.lt) rfl HK2.out).mono ?_; rintro e W4 ⟨rfl, hg4⟩); refine hK.out _ _ (⟨hg4.os.trans hHeld.os, hg4.tape.trans hHeld.tape, hg4.output.trans hHeld.output, Nat.le_trans hHeld.size hg4.size, fun q hq => (hg4.block q (Nat.lt_of_lt_of_le hq hHeld.size) (fun e => by injection e with e; exact absurd e (Nat.ne_of_lt hq))).trans (hHeld.block q hq)⟩) (fun hHeld => ?_); clear hK K; (try simp only [Act.put, List.setIfInBounds_toArray, List.set_cons_zero, List.set_cons_succ]))
    (refine Hd.takeE (i := 7) (v := ?_) rfl rfl (by kernel_rfl) (by kernel_rfl) (by kernel_rfl) (by kernel_rfl) (fun _ _ _ h => h) (Or.inl ⟨by rfl, ?_⟩) (by assumption) ?_; rotate_left; (focus (intro wS hS; (try go_split_ands); go_simp; all_goals (with_reducible rfl))); simp only [List.set_cons_zero, List.set_cons_succ, List.setIfInBounds_toArray]); (refine Hd.takeE (i := 8) (v := ?_) rfl rfl (by kernel_rfl) (by kernel_rfl) (by kernel_rfl) (by kernel_rfl) (fun _ _ _ h => h) (Or.inl ⟨by rfl, ?_⟩) (by assumption) ?_; rotate_left; (focus (intro wS hS; (try go_split_ands); go_simp; all_goals (with_reducible rfl))); simp only [List.set_cons_zero, List.set_cons_succ, List.setIfInBounds_toArray]); (refine Hd.takeE (i := 9) (v := ?_) rfl rfl (by kernel_rfl) (by kernel_rfl) (by kernel_rfl) (by kernel_rfl) (fun _ _ _ h => h) (Or.inl ⟨by rfl, ?_⟩) (by assumption) ?_; rotate_left; (focus (intro wS hS; (try go_split_ands); go_simp; all_goals (with_reducible rfl))); simp only [List.set_cons_zero, List.set_cons_succ, List.setIfInBounds_toArray]); (refine Hd.takeE (i := 10) (v := ?_) rfl rfl (by kernel_rfl) (by kernel_rfl) (by kernel_rfl) (by kernel_rfl) (fun _ _ _ h => h) (Or.inl ⟨by rfl, ?_⟩) (by assumption) ?_; rotate_left; (focus (intro wS hS; (try go_split_ands); go_simp; all_goals (with_reducible rfl))); simp only [List.set_cons_zero, List.set_cons_succ, List.setIfInBounds_toArray]); (refine Hd.takeE (i := 11) (v := ?_) rfl rfl (by kernel_rfl) (by kernel_rfl) (by kernel_rfl) (by kernel_rfl) (fun _ _ _ h => h) (Or.inl ⟨by rfl, ?_⟩) (by assumption) ?_; rotate_left; (focus (intro wS hS; (try go_split_ands); go_simp; all_goals (with_reducible rfl))); simp only [List.set_cons_zero, List.set_cons_succ, List.setIfInBounds_toArray]); (refine Hd.takeE (i := 12) (v := ?_) rfl rfl (by kernel_rfl) (by kernel_rfl) (by kernel_rfl) (by kernel_rfl) (fun _ _ _ h => h) (Or.inl ⟨by rfl, ?_⟩) (by assumption) ?_; rotate_left; (focus (intro wS hS; (try go_split_ands); go_simp; all_goals (with_reducible rfl))); simp only [List.set_cons_zero, List.set_cons_succ, List.setIfInBounds_toArray]); (refine Hd.takeE (i := 13) (v := ?_) rfl rfl (by kernel_rfl) (by kernel_rfl) (by kernel_rfl) (by kernel_rfl) (fun _ _ _ h => h) (Or.inl ⟨by rfl, ?_⟩) (by assumption) ?_; rotate_left; (focus (intro wS hS; (try go_split_ands); go_simp; all_goals (with_reducible rfl))); simp only [List.set_cons_zero, List.set_cons_succ, List.setIfInBounds_toArray])
    (refine Hd.endE (by kernel_rfl) ?_ _)
    have HB4 := Aside0.mk hHeld
    clear hHeld hx3 hb3 hg4
    go_wp2_with fail
    (refine Hd.startE (S := (fun X => Below W2.heap.size W2 X)) 1000 (by kernel_rfl) (below_drew1 HB4.out) (fun hHeld => ?_))
    (refine Hd.takeE (i := 0) (v := ?_) rfl rfl (by kernel_rfl) (by kernel_rfl) (by kernel_rfl) (by kernel_rfl) (fun _ _ _ h => h) (Or.inl ⟨by rfl, ?_⟩) (by assumption) ?_; rotate_left; (focus (intro wS hS; (try go_split_ands); go_simp; all_goals (with_reducible rfl))); simp only [List.set_cons_zero, List.set_cons_succ, List.setIfInBounds_toArray]); (refine Hd.takeE (i := 1) (v := ?_) rfl rfl (by kernel_rfl) (by kernel_rfl) (by kernel_rfl) (by kernel_rfl) (fun _ _ _ h => h) (Or.inl ⟨by rfl, ?_⟩) (by assumption) ?_; rotate_left; (focus (intro wS hS; (try go_split_ands); go_simp; all_goals (with_reducible rfl))); simp only [List.set_cons_zero, List.set_cons_succ, List.setIfInBounds_toArray]); (refine Hd.takeE (i := 2) (v := ?_) rfl rfl (by kernel_rfl) (by kernel_rfl) (by kernel_rfl) (by kernel_rfl) (fun _ _ _ h => h) (Or.inl ⟨by rfl, ?_⟩) (by assumption) ?_; rotate_left; (focus (intro wS hS; (try go_split_ands); go_simp; all_goals (with_reducible rfl))); simp only [List.set_cons_zero, List.set_cons_succ, List.setIfInBounds_toArray]); (refine Hd.takeE (i := 3) (v := ?_) rfl rfl (by kernel_rfl) (by kernel_rfl) (by kernel_rfl) (by kernel_rfl) (fun _ _ _ h => h) (Or.inl ⟨by rfl, ?_⟩) (by assumption) ?_; rotate_left; (focus (intro wS hS; (try go_split_ands); go_simp; all_goals (with_reducible rfl))); simp only [List.set_cons_zero, List.set_cons_succ, List.setIfInBounds_toArray]); (refine Hd.takeE (i := 4) (v := ?_) rfl rfl (by kernel_rfl) (by kernel_rfl) (by kernel_rfl) (by kernel_rfl) (fun _ _ _ h => h) (Or.inl ⟨by rfl, ?_⟩) (by assumption) ?_; rotate_left; (focus (intro wS hS; (try go_split_ands); go_simp; all_goals (with_reducible rfl))); simp only [List.set_cons_zero, List.set_cons_succ, List.setIfInBounds_toArray]); (refine Hd.takeE (i := 5) (v := ?_) rfl rfl (by kernel_rfl) (by kernel_rfl) (by kernel_rfl) (by kernel_rfl) (fun _ _ _ h => h) (Or.inl ⟨by rfl, ?_⟩) (by assumption) ?_; rotate_left; (focus (intro wS hS; (try go_split_ands); go_simp; all_goals (with_reducible rfl))); simp only [List.set_cons_zero, List.set_cons_succ, List.setIfInBounds_toArray]); (refine Hd.takeE (i := 6) (v := ?_) rfl rfl (by kernel_rfl) (by kernel_rfl) (by kernel_rfl) (by kernel_rfl) (fun _ _ _ h => h) (Or.inl ⟨by rfl, ?_⟩) (by assumption) ?_; rotate_left; (focus (intro wS hS; (try go_split_ands); go_simp; all_goals (with_reducible rfl))); simp only [List.set_cons_zero, List.set_cons_succ, List.setIfInBounds_toArray]); (refine Hd.takeE (i := 7) (v := ?_) rfl rfl (by kernel_rfl) (by kernel_rfl) (by kernel_rfl) (by kernel_rfl) (fun _ _ _ h => h) (Or.inl ⟨by rfl, ?_⟩) (by assumption) ?_; rotate_left; (focus (intro wS hS; (try go_split_ands); go_simp; all_goals (with_reducible rfl))); simp only [List.set_cons_zero, List.set_cons_succ, List.setIfInBounds_toArray]); (refine Hd.takeE (i := 8) (v := ?_) rfl rfl (by kernel_rfl) (by kernel_rfl) (by kernel_rfl) (by kernel_rfl) (fun _ _ _ h => h) (Or.inl ⟨by rfl, ?_⟩) (by assumption) ?_; rotate_left; (focus (intro wS hS; (try go_split_ands); go_simp; all_goals (with_reducible rfl))); simp only [List.set_cons_zero, List.set_cons_succ, List.setIfInBounds_toArray]); (refine Hd.takeE (i := 9) (v := ?_) rfl rfl (by kernel_rfl) (by kernel_rfl) (by kernel_rfl) (by kernel_rfl) (fun _ _ _ h => h) (Or.inl ⟨by rfl, ?_⟩) (by assumption) ?_; rotate_left; (focus (intro wS hS; (try go_split_ands); go_simp; all_goals (with_reducible rfl))); simp only [List.set_cons_zero, List.set_cons_succ, List.setIfInBounds_toArray]); (refine Hd.takeE (i := 10) (v := ?_) rfl rfl (by kernel_rfl) (by kernel_rfl) (by kernel_rfl) (by kernel_rfl) (fun _ _ _ h => h) (Or.inl ⟨by rfl, ?_⟩) (by assumption) ?_; rotate_left; (focus (intro wS hS; (try go_split_ands); go_simp; all_goals (with_reducible rfl))); simp only [List.set_cons_zero, List.set_cons_succ, List.setIfInBounds_toArray]); (refine Hd.takeE (i := 11) (v := ?_) rfl rfl (by kernel_rfl) (by kernel_rfl) (by kernel_rfl) (by kernel_rfl) (fun _ _ _ h => h) (Or.inl ⟨by rfl, ?_⟩) (by assumption) ?_; rotate_left; (focus (intro wS hS; (try go_split_ands); go_simp; all_goals (with_reducible rfl))); simp only [List.set_cons_zero, List.set_cons_succ, List.setIfInBounds_toArray]); (refine Hd.takeE (i := 12) (v := ?_) rfl rfl (by kernel_rfl) (by kernel_rfl) (by kernel_rfl) (by kernel_rfl) (fun _ _ _ h => h) (Or.inl ⟨by rfl, ?_⟩) (by assumption) ?_; rotate_left; (focus (intro wS hS; (try go_split_ands); go_simp; all_goals (with_reducible rfl))); simp only [List.set_cons_zero, List.set_cons_succ, List.setIfInBounds_toArray]); (refine Hd.takeE (i := 13) (v := ?_) rfl rfl (by kernel_rfl) (by kernel_rfl) (by kernel_rfl) (by kernel_rfl) (fun _ _ _ h => h) (Or.inl ⟨by rfl, ?_⟩) (by assumption) ?_; rotate_left; (focus (intro wS hS; (try go_split_ands); go_simp; all_goals (with_reducible rfl))); simp only [List.set_cons_zero, List.set_cons_succ, List.setIfInBounds_toArray]); (refine Hd.takeE (i := 14) (v := ?_) rfl rfl (by kernel_rfl) (by kernel_rfl) (by kernel_rfl) (by kernel_rfl) (fun _ _ _ h => h) (Or.inl ⟨by rfl, ?_⟩) (by assumption) ?_; rotate_left; (focus (intro wS hS; (try go_split_ands); go_simp; all_goals (with_reducible rfl))); simp only [List.set_cons_zero, List.set_cons_succ, List.setIfInBounds_toArray]); (refine Hd.takeE (i := 15) (v := ?_) rfl rfl (by kernel_rfl) (by kernel_rfl) (by kernel_rfl) (by kernel_rfl) (fun _ _ _ h => h) (Or.inl ⟨by rfl, ?_⟩) (by assumption) ?_; rotate_left; (focus (intro wS hS; (try go_split_ands); go_simp; all_goals (with_reducible rfl))); simp only [List.set_cons_zero, List.set_cons_succ, List.setIfInBounds_toArray]); (refine Hd.takeE (i := 16) (v := ?_) rfl rfl (by kernel_rfl) (by kernel_rfl) (by kernel_rfl) (by kernel_rfl) (fun _ _ _ h => h) (Or.inl ⟨by rfl, ?_⟩) (by assumption) ?_; rotate_left; (focus (intro wS hS; (try go_split_ands); go_simp; all_goals (with_reducible rfl))); simp only [List.set_cons_zero, List.set_cons_succ, List.setIfInBounds_toArray]); (refine Hd.takeE (i := 17) (v := ?_) rfl rfl (by kernel_rfl) (by kernel_rfl) (by kernel_rfl) (by kernel_rfl) (fun _ _ _ h => h) (Or.inl ⟨by rfl, ?_⟩) (by assumption) ?_; rotate_left; (focus (intro wS hS; (try go_split_ands); go_simp; all_goals (with_reducible rfl))); simp only [List.set_cons_zero, List.set_cons_succ, List.setIfInBounds_toArray]); (refine Hd.takeE (i := 18) (v := ?_) rfl rfl (by kernel_rfl) (by kernel_rfl) (by kernel_rfl) (by kernel_rfl) (fun _ _ _ h => h) (Or.inl ⟨by rfl, ?_⟩) (by assumption) ?_; rotate_left; (focus (intro wS hS; (try go_split_ands); go_simp; all_goals (with_reducible rfl))); simp only [List.set_cons_zero, List.set_cons_succ, List.setIfInBounds_toArray]); (refine Hd.takeE (i := 19) (v := ?_) rfl rfl (by kernel_rfl) (by kernel_rfl) (by kernel_rfl) (by kernel_rfl) (fun _ _ _ h => h) (Or.inl ⟨by rfl, ?_⟩) (by assumption) ?_; rotate_left; (focus (intro wS hS; (try go_split_ands); go_simp; all_goals (with_reducible rfl))); simp only [List.set_cons_zero, List.set_cons_succ, List.setIfInBounds_toArray])
    (refine Hd.takeE (i := 20) rfl rfl (by kernel_rfl) (by kernel_rfl) (by kernel_rfl) (by kernel_rfl) (fun _ _ _ h => h) (Hd.yieldsIf_load_any (by rfl) 35 _ rfl _ rfl N _ (fun wS hS => ((HRJ.out.below HB2.out).below hS)) HU.out rfl HIS.out) (by assumption) ?_; simp only [List.set_cons_zero, List.set_cons_succ, List.setIfInBounds_toArray])
    (refine Hd.takeE (i := 21) (v := ?_) rfl rfl (by kernel_rfl) (by kernel_rfl) (by kernel_rfl) (by kernel_rfl) (fun _ _ _ h => h) (Or.inl ⟨by rfl, ?_⟩) (by assumption) ?_; rotate_left; (focus (intro wS hS; (try go_split_ands); go_simp; all_goals (with_reducible rfl))); simp only [List.set_cons_zero, List.set_cons_succ, List.setIfInBounds_toArray]); (refine Hd.takeE (i := 22) (v := ?_) rfl rfl (by kernel_rfl) (by kernel_rfl) (by kernel_rfl) (by kernel_rfl) (fun _ _ _ h => h) (Or.inl ⟨by rfl, ?_⟩) (by assumption) ?_; rotate_left; (focus (intro wS hS; (try go_split_ands); go_simp; all_goals (with_reducible rfl))); simp only [List.set_cons_zero, List.set_cons_succ, List.setIfInBounds_toArray]); (refine Hd.takeE (i := 23) (v := ?_) rfl rfl (by kernel_rfl) (by kernel_rfl) (by kernel_rfl) (by kernel_rfl) (fun _ _ _ h => h) (Or.inl ⟨by rfl, ?_⟩) (by assumption) ?_; rotate_left; (focus (intro wS hS; (try go_split_ands); go_simp; all_goals (with_reducible rfl))); simp only [List.set_cons_zero, List.set_cons_succ, List.setIfInBounds_toArray])
    (refine Hd.takeE (i := 24) rfl rfl (by kernel_rfl) (by kernel_rfl) (by kernel_rfl) (by kernel_rfl) (fun _ _ _ h => h) (Hd.yieldsIf_load_any (by rfl) 35 _ rfl _ rfl N _ (fun wS hS => ((HRA.out.below HB2.out).below hS)) HU.out rfl HIS.out) (by assumption) ?_; simp only [List.set_cons_zero, List.set_cons_succ, List.setIfInBounds_toArray])
    (refine Hd.takeE (i := 25) (v := ?_) rfl rfl (by kernel_rfl) (by kernel_rfl) (by kernel_rfl) (by kernel_rfl) (fun _ _ _ h => h) (Or.inl ⟨by rfl, ?_⟩) (by assumption) ?_; rotate_left; (focus (intro wS hS; (try go_split_ands); go_simp; all_goals (with_reducible rfl))); simp only [List.set_cons_zero, List.set_cons_succ, List.setIfInBounds_toArray]); (refine Hd.takeE (i := 26) (v := ?_) rfl rfl (by kernel_rfl) (by kernel_rfl) (by kernel_rfl) (by kernel_rfl) (fun _ _ _ h => h) (Or.inl ⟨by rfl, ?_⟩) (by assumption) ?_; rotate_left; (focus (intro wS hS; (try go_split_ands); go_simp; all_goals (with_reducible rfl))); simp only [List.set_cons_zero, List.set_cons_succ, List.setIfInBounds_toArray])
    (refine Hd.endE (by kernel_rfl) ?_ _)
    have HB5 := Aside0.mk hHeld
    have HX5 := Aside0.mk (HX2.out.below HB5.out)
    clear hHeld
    have hwr : IntKind.i64.wrap ((room : Int) - 1) = (room : Int) - 1 := by rw [IntKind.wrap_i64]; omega
    go_wp2_with fail
    go_loopg [21] (room + 1) (fun gk v21 wr => ∃ (i : Nat) (xs2 : List Bn), v21 = .int .i64 i ∧ i ≤ k3 ∧ i + 1 ≤ room ∧ Aside0 (gk = room - i + 1) ∧ Aside0 (XS wr (fun q => q = w.heap.size ∨ q = w.heap.size + 1) w.heap.size room xs2) ∧ Aside0 (CaM.Good room xs2) ∧ Aside0 (Kept xs2 b (ss.take 64) i) ∧ Aside0 (Below w.heap.size w wr) ∧ W2.heap.size ≤ wr.heap.size)
    case atStart => exact ⟨0, xs1, rfl, Nat.zero_le _, by omega, ⟨rfl⟩, HX5, HG2, HK2, ⟨below_then HB2.out HB2.out.size HB5.out⟩, HB5.out.size⟩
    case round =>
      obtain ⟨i, xs2, rfl, hi, hir, HGK, HX, HGO, HKE, HBW, hzw⟩ := hrel
      obtain ⟨wo, rfl⟩ : ∃ X : World, X = wr := ⟨_, rfl⟩
      have hn2 : xs2.length ≤ 900 := by have := HGO.out.len; omega
      by_cases hlt : i < k3
      · have h1 : decide ((i : Int) < (k3 : Int)) = true := by simp; omega
        by_cases hlt2 : i + 1 < room
        · have h2 : decide ((i : Int) < (room : Int) - 1) = true := by simp; omega
          have hq1 : (0 : Int) ≤ (i : Int) := by omega
          have hq2 : (i : Int) < (k3 : Int) := by omega
          obtain ⟨ad3, rfl, hc3'⟩ := Kd.at_int (Kd.C_below HS3.out HBW.out) (i : Int) hq1 hq2
          rw [Int.toNat_natCast] at hc3'
          obtain ⟨q, hq, hq3⟩ : ∃ q : Nat, rd ms (i : Int) = (q : Int) ∧ q ≤ 65535 := wf_u16 (HM3.out _ (by
            have : i < ms.length := by have := HS3.out.1; omega
            show ms.getD i 0 ∈ ms
            simp [this]))
          rw [hq] at hc3'
          have m1 : IntKind.i64.wrap (q : Int) = (q : Int) := IntWalk.i64_in _ (by omega)
          have m2 : (q : Int).tmod 4096 = ((q % 4096 : Nat) : Int) := rfl
          have hm4 : q % 4096 < 4096 := Nat.mod_lt _ (by decide)
          generalize q % 4096 = m at *
          clear hq
          by_cases hmb : m = b
          · have e7 : ((m : Int) != (b : Int)) = false := by simp; omega
            go_wp2_with fail
            refine (HSZ.out _).mono ?_
            rintro e Wz ⟨rfl, rfl⟩
            go_wp2
            go_roundg (room - (i + 1) + 1)
            case measure => have := HGK.out; omega
            case rel => exact ⟨i + 1, xs2, by go_num, by omega, by omega, ⟨rfl⟩, HX, HGO, ⟨HKE.out.mono (by omega)⟩, HBW, hzw⟩
          · have e7 : ((m : Int) != (b : Int)) = true := by simp; omega
            go_wp2_with fail
            refine (HSZ.out _).mono ?_
            rintro e Wz ⟨rfl, rfl⟩
            go_wp2_with fail
            refine (x_put HX.out HGO.out (by omega) (fun q hq => Nat.lt_of_lt_of_le (HL2.out q hq) hzw) (.inl rfl) m (by omega) (by omega) none 0 0 [] ⟨rfl, by decide, fun h => absurd h (Nat.lt_irrefl 0)⟩ (by omega) (fun h0 => absurd h0 (Nat.lt_irrefl 0))).mono ?_
            rintro e W7 ⟨rfl, hx7, hg7⟩
            have HX7 := Aside0.mk hx7
            have HG7 := Aside0.mk (good_put HGO.out m [] (by decide))
            have HK7 := Aside0.mk (kept_more (room := room) (m := m) HKE.out (by omega) (by omega))
            have HB7 : Aside0 (Below w.heap.size w W7) := ⟨⟨hg7.os.trans HBW.out.os, hg7.tape.trans HBW.out.tape, hg7.output.trans HBW.out.output, Nat.le_trans HBW.out.size hg7.size, fun q hq => (hg7.block q (Nat.lt_of_lt_of_le hq HBW.out.size) (fun e => by injection e with e; omega)).trans (HBW.out.block q hq)⟩⟩
            have hz7 := Nat.le_trans hzw hg7.size
            clear hx7 hg7
            generalize putX room xs2 m [] = xs3 at *
            go_wp2
            go_roundg (room - (i + 1) + 1)
            case measure => have := HGK.out; omega
            case rel => exact ⟨i + 1, xs3, by go_num, by omega, by omega, ⟨rfl⟩, HX7, HG7, HK7, HB7, hz7⟩
        · have h2 : decide ((i : Int) < (room : Int) - 1) = false := by simp; omega
          go_wp2_with fail
          refine (HSZ.out _).mono ?_
          rintro e Wz ⟨rfl, rfl⟩
          have HRW := Aside0.mk (HRA.out.below HBW.out)
          go_wp2_with ((with_reducible refine gate_ (.load 35 (.tmp 131)) rfl ?_); refine Hd.wpList_load_any rfl _ (.tmp 131) rfl _ rfl N _ HRW.out HU.out rfl HIS.out ?_)
          refine (HFK.out wo _ _ _ i HX.out hn2 (fun q hq => Nat.lt_of_lt_of_le (HL2.out q hq) hzw) (.inl rfl) HKE.out).mono ?_
          rintro e W8 ⟨rfl, hg8⟩
          have HB8 : Aside0 (Below w.heap.size w W8) := ⟨⟨hg8.os.trans HBW.out.os, hg8.tape.trans HBW.out.tape, hg8.output.trans HBW.out.output, Nat.le_trans HBW.out.size hg8.size, fun q hq => (hg8.block q (Nat.lt_of_lt_of_le hq HBW.out.size) (fun e => by injection e with e; omega)).trans (HBW.out.block q hq)⟩⟩
          clear hg8
          go_wp2_with fail
          refine (live_calls _).mono ?_
          rintro e W9 ⟨rfl, hb9⟩
          have HB9 := Aside0.mk hb9
          clear hb9
          go_wp2
          go_ret
          exact ⟨rfl, below_then HB8.out HB8.out.size HB9.out⟩
      · have h1 : decide ((i : Int) < (k3 : Int)) = false := by simp; omega
        have HRW := Aside0.mk (HRA.out.below HBW.out)
        go_wp2_with ((with_reducible refine gate_ (.load 35 (.tmp 131)) rfl ?_); refine Hd.wpList_load_any rfl _ (.tmp 131) rfl _ rfl N _ HRW.out HU.out rfl HIS.out ?_)
        refine (HFK.out wo _ _ _ i HX.out hn2 (fun q hq => Nat.lt_of_lt_of_le (HL2.out q hq) hzw) (.inl rfl) HKE.out).mono ?_
        rintro e W8 ⟨rfl, hg8⟩
        have HB8 : Aside0 (Below w.heap.size w W8) := ⟨⟨hg8.os.trans HBW.out.os, hg8.tape.trans HBW.out.tape, hg8.output.trans HBW.out.output, Nat.le_trans HBW.out.size hg8.size, fun q hq => (hg8.block q (Nat.lt_of_lt_of_le hq HBW.out.size) (fun e => by injection e with e; omega)).trans (HBW.out.block q hq)⟩⟩
        clear hg8
        go_wp2_with fail
        refine (live_calls _).mono ?_
        rintro e W9 ⟨rfl, hb9⟩
        have HB9 := Aside0.mk hb9
        clear hb9
        go_wp2
        go_ret
        exact ⟨rfl, below_then HB8.out HB8.out.size HB9.out⟩
    --END1
  · have d64 : decide ((64 : Int) < (k2 : Int)) = false := by simp; omega
    --BLK2
    have HSS : Aside0 (SumsC w A2 k2 (ss)) := ⟨HS2.out⟩
    have hkk : k2 ≤ 64 := by omega
    go_wp2_with fail
    refine (x_put HX1.out HGD.out (by omega) HLM.out (.inl rfl) b (by omega) (by omega) A2 k2 c2 (ss) (Kd.C_below (sums_C HSS.out) HB.out) hkk (fun h0 a ha => by have := sums_away HSS.out h0 a ha; omega)).mono ?_
    rintro e W2 ⟨rfl, hx2, hg2⟩
    have HX2 := Aside0.mk hx2
    have HK2 := Aside0.mk (kept_put (room := room) (by omega) xs b (ss))
    have HG2 := Aside0.mk (good_put HGD.out b (ss) (by rw [HSS.out.len]; exact hkk))
    have HB2 : Aside0 (Below w.heap.size w W2) := ⟨⟨hg2.os.trans HB.out.os, hg2.tape.trans HB.out.tape, hg2.output.trans HB.out.output, Nat.le_trans HB.out.size hg2.size, fun q hq => (hg2.block q (Nat.lt_of_lt_of_le hq HB.out.size) (fun e => by injection e with e; omega)).trans (HB.out.block q hq)⟩⟩
    have hl2 : ∀ q, (q = w.heap.size ∨ q = w.heap.size + 1) → q < W2.heap.size := fun q hq => Nat.lt_of_lt_of_le (HLM.out q hq) hg2.size
    have HL2 := Aside0.mk hl2
    clear hx2 hg2 hl2
    generalize putX room xs b (ss) = xs1 at *
    have hn1 : xs1.length ≤ 900 := by have := HG2.out.len; omega
    have hzz := HB2.out.size
    rcases Nat.eq_zero_or_pos k2 with h0 | h0
    · have e0 : ((k2 : Int) == 0) = true := by simp; omega
      go_wp2_with fail
      refine (live_calls _).mono ?_
      rintro e W9 ⟨rfl, hb9⟩
      have HB9 := Aside0.mk hb9
      clear hb9
      go_wp2
      go_ret
      exact ⟨rfl, below_then HB2.out HB2.out.size HB9.out⟩
    have e0 : ((k2 : Int) == 0) = false := by first | decide | (simp; omega)
    have e0' : (k2 : Int) ≠ 0 := by omega
    have n5 : (p4 : Int).tmod (k2 : Int) = ((p4 % k2 : Nat) : Int) := rfl
    have hkk2 : p4 % k2 < k2 := Nat.mod_lt _ h0
    generalize p4 % k2 = kk at *
    obtain ⟨ad, rfl⟩ := HSS.out.is h0
    have hmem : (ss)[kk]? = some ((ss).getD kk []) := by
      have : kk < (ss).length := by rw [HSS.out.len]; exact hkk2
      rw [List.getD_eq_getElem?_getD, List.getElem?_eq_getElem this]; rfl
    obtain ⟨j, hf, _, hj1, hj2⟩ := first_ex (ss) _ 0 kk hmem
    rw [Nat.sub_zero] at hj2
    have hjk : j ≤ kk := by omega
    have hok : OkSum ((ss).getD kk []) := HSS.out.each _ (List.mem_of_getElem? hmem)
    have hsj : (ss).getD j [] = (ss).getD kk [] := by rw [List.getD_eq_getElem?_getD, hj2]; rfl
    have HRA : Aside0 (Hd.RangeA w (ad.add (kk * 32)) (nums .u8 ((ss).getD kk []))) := ⟨HSS.out.cells ad rfl kk hkk2⟩
    have HRJ : Aside0 (Hd.RangeA w (ad.add (j * 32)) (nums .u8 ((ss).getD kk []))) := ⟨by rw [← hsj]; exact HSS.out.cells ad rfl j (by omega)⟩
    generalize (ss).getD kk [] = s at *
    have HFK : Aside0 (∀ (W : World) (T : Nat → Prop) (g : Nat) (ys : List Bn) (i : Nat), XS W T g room ys → ys.length ≤ 900 → (∀ k, T k → k < W.heap.size) → T g → Kept ys b (ss) i → Calls Try.prog 12 #[.pointer (some ⟨g, 0, none⟩), .agg (nums .u8 s).toArray] W fun e w' => e = .returned (.tuple #[.int .i64 b, .int .i64 (j : Int), .bool true]) ∧ W.grownBy w' (some g)) := ⟨fun W T g ys i h1 h2 h3 h4 h5 => find_kept h1 h2 h3 h4 s hok h5 hf⟩
    have HIS := Aside0.mk (infoSmS s hok)
    have hnq := sm_nq s hok
    clear hmem hf hj2 hok hsj hj1
    generalize nums .u8 s = N at *
    have e5 : ((b : Int) != (b : Int)) = false := by simp
    have e6 : ((b : Int) == (b : Int)) = true := by simp
    have d6 : decide ((kk : Int) < (j : Int)) = false := by simp; omega
    have d6n : ¬ (kk < j) := by omega
    have d6m : decide (kk < j) = false := by simp; omega
    have d7 : decide ((j : Int) < 0) = false := by simp
    have k1 : (0 : Int) ≤ (kk : Int) := by omega
    have k2' : (kk : Int) < (k2 : Int) := by omega
    have j1 : (0 : Int) ≤ (j : Int) := by omega
    have j2 : (j : Int) < (k2 : Int) := by omega
    go_wp2_with fail
    (refine Hd.startE (S := (fun X => Below W2.heap.size W2 X)) 1000 (by kernel_rfl) (below_drew1 (Below.refl _ _)) (fun hHeld => ?_))
    (refine Hd.takeE (i := 0) (v := ?_) rfl rfl (by kernel_rfl) (by kernel_rfl) (by kernel_rfl) (by kernel_rfl) (fun _ _ _ h => h) (Or.inl ⟨by rfl, ?_⟩) (by assumption) ?_; rotate_left; (focus (intro wS hS; (try go_split_ands); go_simp; all_goals (with_reducible rfl))); simp only [List.set_cons_zero, List.set_cons_succ, List.setIfInBounds_toArray]); (refine Hd.takeE (i := 2) (v := ?_) rfl rfl (by kernel_rfl) (by kernel_rfl) (by kernel_rfl) (by kernel_rfl) (fun _ _ _ h => h) (Or.inl ⟨by rfl, ?_⟩) (by assumption) ?_; rotate_left; (focus (intro wS hS; (try go_split_ands); go_simp; all_goals (with_reducible rfl))); simp only [List.set_cons_zero, List.set_cons_succ, List.setIfInBounds_toArray]); (refine Hd.takeE (i := 3) (v := ?_) rfl rfl (by kernel_rfl) (by kernel_rfl) (by kernel_rfl) (by kernel_rfl) (fun _ _ _ h => h) (Or.inl ⟨by rfl, ?_⟩) (by assumption) ?_; rotate_left; (focus (intro wS hS; (try go_split_ands); go_simp; all_goals (with_reducible rfl))); simp only [List.set_cons_zero, List.set_cons_succ, List.setIfInBounds_toArray]); (refine Hd.takeE (i := 4) (v := ?_) rfl rfl (by kernel_rfl) (by kernel_rfl) (by kernel_rfl) (by kernel_rfl) (fun _ _ _ h => h) (Or.inl ⟨by rfl, ?_⟩) (by assumption) ?_; rotate_left; (focus (intro wS hS; (try go_split_ands); go_simp; all_goals (with_reducible rfl))); simp only [List.set_cons_zero, List.set_cons_succ, List.setIfInBounds_toArray])
    (refine Hd.takeE (i := 5) rfl rfl (by kernel_rfl) (by kernel_rfl) (by kernel_rfl) (by kernel_rfl) (fun _ _ _ h => h) (Hd.yieldsIf_load_any (by rfl) 35 _ rfl _ rfl N _ (fun wS hS => ((HRA.out.below HB2.out).below hS)) HU.out rfl HIS.out) (by assumption) ?_; simp only [List.set_cons_zero, List.set_cons_succ, List.setIfInBounds_toArray])
    (refine Hd.readyE (rs := [1]) (by kernel_rfl) (by simp) ?_; refine Hd.AllE.cons (i := 1) rfl (fun K hK => ?_) Hd.AllE.nil; (go_simp; refine (x_fork (HX2.out.below (below_drew1 (Below.refl _ _))) hn1 (fun q => q = W2.heap.size) (fun q hq => Nat.le_of_eq hq) (fun q hq hq2 => absurd hq (by rw [hq2]; exact Nat.lt_irrefl _))).mono ?_; rintro e W3 ⟨rfl, hx3, hb3⟩); refine hK.out _ _ (below_then (below_drew1 (Below.refl _ _)) (Nat.le_refl _) hb3) (fun hHeld => ?_); clear hK K; (try simp only [Act.put, List.setIfInBounds_toArray, List.set_cons_zero, List.set_cons_succ]))
    (refine Hd.readyE (rs := [6]) (by kernel_rfl) (by simp) ?_; refine Hd.AllE.cons (i := 6) rfl (fun K hK => ?_) Hd.AllE.nil; (go_simp; refine (HFK.out W3 _ _ _ 0 hx3 hn1 (fun q hq => by rw [hq]; exact hx3.lt) rfl HK2.out).mono ?_; rintro e W4 ⟨rfl, hg4⟩); refine hK.out _ _ (⟨hg4.os.trans hHeld.os, hg4.tape.trans hHeld.tape, hg4.output.trans hHeld.output, Nat.le_trans hHeld.size hg4.size, fun q hq => (hg4.block q (Nat.lt_of_lt_of_le hq hHeld.size) (fun e => by injection e with e; exact absurd e (Nat.ne_of_lt hq))).trans (hHeld.block q hq)⟩) (fun hHeld => ?_); clear hK K; (try simp only [Act.put, List.setIfInBounds_toArray, List.set_cons_zero, List.set_cons_succ]))
    (refine Hd.takeE (i := 7) (v := ?_) rfl rfl (by kernel_rfl) (by kernel_rfl) (by kernel_rfl) (by kernel_rfl) (fun _ _ _ h => h) (Or.inl ⟨by rfl, ?_⟩) (by assumption) ?_; rotate_left; (focus (intro wS hS; (try go_split_ands); go_simp; all_goals (with_reducible rfl))); simp only [List.set_cons_zero, List.set_cons_succ, List.setIfInBounds_toArray]); (refine Hd.takeE (i := 8) (v := ?_) rfl rfl (by kernel_rfl) (by kernel_rfl) (by kernel_rfl) (by kernel_rfl) (fun _ _ _ h => h) (Or.inl ⟨by rfl, ?_⟩) (by assumption) ?_; rotate_left; (focus (intro wS hS; (try go_split_ands); go_simp; all_goals (with_reducible rfl))); simp only [List.set_cons_zero, List.set_cons_succ, List.setIfInBounds_toArray]); (refine Hd.takeE (i := 9) (v := ?_) rfl rfl (by kernel_rfl) (by kernel_rfl) (by kernel_rfl) (by kernel_rfl) (fun _ _ _ h => h) (Or.inl ⟨by rfl, ?_⟩) (by assumption) ?_; rotate_left; (focus (intro wS hS; (try go_split_ands); go_simp; all_goals (with_reducible rfl))); simp only [List.set_cons_zero, List.set_cons_succ, List.setIfInBounds_toArray]); (refine Hd.takeE (i := 10) (v := ?_) rfl rfl (by kernel_rfl) (by kernel_rfl) (by kernel_rfl) (by kernel_rfl) (fun _ _ _ h => h) (Or.inl ⟨by rfl, ?_⟩) (by assumption) ?_; rotate_left; (focus (intro wS hS; (try go_split_ands); go_simp; all_goals (with_reducible rfl))); simp only [List.set_cons_zero, List.set_cons_succ, List.setIfInBounds_toArray]); (refine Hd.takeE (i := 11) (v := ?_) rfl rfl (by kernel_rfl) (by kernel_rfl) (by kernel_rfl) (by kernel_rfl) (fun _ _ _ h => h) (Or.inl ⟨by rfl, ?_⟩) (by assumption) ?_; rotate_left; (focus (intro wS hS; (try go_split_ands); go_simp; all_goals (with_reducible rfl))); simp only [List.set_cons_zero, List.set_cons_succ, List.setIfInBounds_toArray]); (refine Hd.takeE (i := 12) (v := ?_) rfl rfl (by kernel_rfl) (by kernel_rfl) (by kernel_rfl) (by kernel_rfl) (fun _ _ _ h => h) (Or.inl ⟨by rfl, ?_⟩) (by assumption) ?_; rotate_left; (focus (intro wS hS; (try go_split_ands); go_simp; all_goals (with_reducible rfl))); simp only [List.set_cons_zero, List.set_cons_succ, List.setIfInBounds_toArray]); (refine Hd.takeE (i := 13) (v := ?_) rfl rfl (by kernel_rfl) (by kernel_rfl) (by kernel_rfl) (by kernel_rfl) (fun _ _ _ h => h) (Or.inl ⟨by rfl, ?_⟩) (by assumption) ?_; rotate_left; (focus (intro wS hS; (try go_split_ands); go_simp; all_goals (with_reducible rfl))); simp only [List.set_cons_zero, List.set_cons_succ, List.setIfInBounds_toArray])
    (refine Hd.endE (by kernel_rfl) ?_ _)
    have HB4 := Aside0.mk hHeld
    clear hHeld hx3 hb3 hg4
    go_wp2_with fail
    (refine Hd.startE (S := (fun X => Below W2.heap.size W2 X)) 1000 (by kernel_rfl) (below_drew1 HB4.out) (fun hHeld => ?_))
    (refine Hd.takeE (i := 0) (v := ?_) rfl rfl (by kernel_rfl) (by kernel_rfl) (by kernel_rfl) (by kernel_rfl) (fun _ _ _ h => h) (Or.inl ⟨by rfl, ?_⟩) (by assumption) ?_; rotate_left; (focus (intro wS hS; (try go_split_ands); go_simp; all_goals (with_reducible rfl))); simp only [List.set_cons_zero, List.set_cons_succ, List.setIfInBounds_toArray]); (refine Hd.takeE (i := 1) (v := ?_) rfl rfl (by kernel_rfl) (by kernel_rfl) (by kernel_rfl) (by kernel_rfl) (fun _ _ _ h => h) (Or.inl ⟨by rfl, ?_⟩) (by assumption) ?_; rotate_left; (focus (intro wS hS; (try go_split_ands); go_simp; all_goals (with_reducible rfl))); simp only [List.set_cons_zero, List.set_cons_succ, List.setIfInBounds_toArray]); (refine Hd.takeE (i := 2) (v := ?_) rfl rfl (by kernel_rfl) (by kernel_rfl) (by kernel_rfl) (by kernel_rfl) (fun _ _ _ h => h) (Or.inl ⟨by rfl, ?_⟩) (by assumption) ?_; rotate_left; (focus (intro wS hS; (try go_split_ands); go_simp; all_goals (with_reducible rfl))); simp only [List.set_cons_zero, List.set_cons_succ, List.setIfInBounds_toArray]); (refine Hd.takeE (i := 3) (v := ?_) rfl rfl (by kernel_rfl) (by kernel_rfl) (by kernel_rfl) (by kernel_rfl) (fun _ _ _ h => h) (Or.inl ⟨by rfl, ?_⟩) (by assumption) ?_; rotate_left; (focus (intro wS hS; (try go_split_ands); go_simp; all_goals (with_reducible rfl))); simp only [List.set_cons_zero, List.set_cons_succ, List.setIfInBounds_toArray]); (refine Hd.takeE (i := 4) (v := ?_) rfl rfl (by kernel_rfl) (by kernel_rfl) (by kernel_rfl) (by kernel_rfl) (fun _ _ _ h => h) (Or.inl ⟨by rfl, ?_⟩) (by assumption) ?_; rotate_left; (focus (intro wS hS; (try go_split_ands); go_simp; all_goals (with_reducible rfl))); simp only [List.set_cons_zero, List.set_cons_succ, List.setIfInBounds_toArray]); (refine Hd.takeE (i := 5) (v := ?_) rfl rfl (by kernel_rfl) (by kernel_rfl) (by kernel_rfl) (by kernel_rfl) (fun _ _ _ h => h) (Or.inl ⟨by rfl, ?_⟩) (by assumption) ?_; rotate_left; (focus (intro wS hS; (try go_split_ands); go_simp; all_goals (with_reducible rfl))); simp only [List.set_cons_zero, List.set_cons_succ, List.setIfInBounds_toArray]); (refine Hd.takeE (i := 6) (v := ?_) rfl rfl (by kernel_rfl) (by kernel_rfl) (by kernel_rfl) (by kernel_rfl) (fun _ _ _ h => h) (Or.inl ⟨by rfl, ?_⟩) (by assumption) ?_; rotate_left; (focus (intro wS hS; (try go_split_ands); go_simp; all_goals (with_reducible rfl))); simp only [List.set_cons_zero, List.set_cons_succ, List.setIfInBounds_toArray]); (refine Hd.takeE (i := 7) (v := ?_) rfl rfl (by kernel_rfl) (by kernel_rfl) (by kernel_rfl) (by kernel_rfl) (fun _ _ _ h => h) (Or.inl ⟨by rfl, ?_⟩) (by assumption) ?_; rotate_left; (focus (intro wS hS; (try go_split_ands); go_simp; all_goals (with_reducible rfl))); simp only [List.set_cons_zero, List.set_cons_succ, List.setIfInBounds_toArray]); (refine Hd.takeE (i := 8) (v := ?_) rfl rfl (by kernel_rfl) (by kernel_rfl) (by kernel_rfl) (by kernel_rfl) (fun _ _ _ h => h) (Or.inl ⟨by rfl, ?_⟩) (by assumption) ?_; rotate_left; (focus (intro wS hS; (try go_split_ands); go_simp; all_goals (with_reducible rfl))); simp only [List.set_cons_zero, List.set_cons_succ, List.setIfInBounds_toArray]); (refine Hd.takeE (i := 9) (v := ?_) rfl rfl (by kernel_rfl) (by kernel_rfl) (by kernel_rfl) (by kernel_rfl) (fun _ _ _ h => h) (Or.inl ⟨by rfl, ?_⟩) (by assumption) ?_; rotate_left; (focus (intro wS hS; (try go_split_ands); go_simp; all_goals (with_reducible rfl))); simp only [List.set_cons_zero, List.set_cons_succ, List.setIfInBounds_toArray]); (refine Hd.takeE (i := 10) (v := ?_) rfl rfl (by kernel_rfl) (by kernel_rfl) (by kernel_rfl) (by kernel_rfl) (fun _ _ _ h => h) (Or.inl ⟨by rfl, ?_⟩) (by assumption) ?_; rotate_left; (focus (intro wS hS; (try go_split_ands); go_simp; all_goals (with_reducible rfl))); simp only [List.set_cons_zero, List.set_cons_succ, List.setIfInBounds_toArray]); (refine Hd.takeE (i := 11) (v := ?_) rfl rfl (by kernel_rfl) (by kernel_rfl) (by kernel_rfl) (by kernel_rfl) (fun _ _ _ h => h) (Or.inl ⟨by rfl, ?_⟩) (by assumption) ?_; rotate_left; (focus (intro wS hS; (try go_split_ands); go_simp; all_goals (with_reducible rfl))); simp only [List.set_cons_zero, List.set_cons_succ, List.setIfInBounds_toArray]); (refine Hd.takeE (i := 12) (v := ?_) rfl rfl (by kernel_rfl) (by kernel_rfl) (by kernel_rfl) (by kernel_rfl) (fun _ _ _ h => h) (Or.inl ⟨by rfl, ?_⟩) (by assumption) ?_; rotate_left; (focus (intro wS hS; (try go_split_ands); go_simp; all_goals (with_reducible rfl))); simp only [List.set_cons_zero, List.set_cons_succ, List.setIfInBounds_toArray]); (refine Hd.takeE (i := 13) (v := ?_) rfl rfl (by kernel_rfl) (by kernel_rfl) (by kernel_rfl) (by kernel_rfl) (fun _ _ _ h => h) (Or.inl ⟨by rfl, ?_⟩) (by assumption) ?_; rotate_left; (focus (intro wS hS; (try go_split_ands); go_simp; all_goals (with_reducible rfl))); simp only [List.set_cons_zero, List.set_cons_succ, List.setIfInBounds_toArray]); (refine Hd.takeE (i := 14) (v := ?_) rfl rfl (by kernel_rfl) (by kernel_rfl) (by kernel_rfl) (by kernel_rfl) (fun _ _ _ h => h) (Or.inl ⟨by rfl, ?_⟩) (by assumption) ?_; rotate_left; (focus (intro wS hS; (try go_split_ands); go_simp; all_goals (with_reducible rfl))); simp only [List.set_cons_zero, List.set_cons_succ, List.setIfInBounds_toArray]); (refine Hd.takeE (i := 15) (v := ?_) rfl rfl (by kernel_rfl) (by kernel_rfl) (by kernel_rfl) (by kernel_rfl) (fun _ _ _ h => h) (Or.inl ⟨by rfl, ?_⟩) (by assumption) ?_; rotate_left; (focus (intro wS hS; (try go_split_ands); go_simp; all_goals (with_reducible rfl))); simp only [List.set_cons_zero, List.set_cons_succ, List.setIfInBounds_toArray]); (refine Hd.takeE (i := 16) (v := ?_) rfl rfl (by kernel_rfl) (by kernel_rfl) (by kernel_rfl) (by kernel_rfl) (fun _ _ _ h => h) (Or.inl ⟨by rfl, ?_⟩) (by assumption) ?_; rotate_left; (focus (intro wS hS; (try go_split_ands); go_simp; all_goals (with_reducible rfl))); simp only [List.set_cons_zero, List.set_cons_succ, List.setIfInBounds_toArray]); (refine Hd.takeE (i := 17) (v := ?_) rfl rfl (by kernel_rfl) (by kernel_rfl) (by kernel_rfl) (by kernel_rfl) (fun _ _ _ h => h) (Or.inl ⟨by rfl, ?_⟩) (by assumption) ?_; rotate_left; (focus (intro wS hS; (try go_split_ands); go_simp; all_goals (with_reducible rfl))); simp only [List.set_cons_zero, List.set_cons_succ, List.setIfInBounds_toArray]); (refine Hd.takeE (i := 18) (v := ?_) rfl rfl (by kernel_rfl) (by kernel_rfl) (by kernel_rfl) (by kernel_rfl) (fun _ _ _ h => h) (Or.inl ⟨by rfl, ?_⟩) (by assumption) ?_; rotate_left; (focus (intro wS hS; (try go_split_ands); go_simp; all_goals (with_reducible rfl))); simp only [List.set_cons_zero, List.set_cons_succ, List.setIfInBounds_toArray]); (refine Hd.takeE (i := 19) (v := ?_) rfl rfl (by kernel_rfl) (by kernel_rfl) (by kernel_rfl) (by kernel_rfl) (fun _ _ _ h => h) (Or.inl ⟨by rfl, ?_⟩) (by assumption) ?_; rotate_left; (focus (intro wS hS; (try go_split_ands); go_simp; all_goals (with_reducible rfl))); simp only [List.set_cons_zero, List.set_cons_succ, List.setIfInBounds_toArray])
    (refine Hd.takeE (i := 20) rfl rfl (by kernel_rfl) (by kernel_rfl) (by kernel_rfl) (by kernel_rfl) (fun _ _ _ h => h) (Hd.yieldsIf_load_any (by rfl) 35 _ rfl _ rfl N _ (fun wS hS => ((HRJ.out.below HB2.out).below hS)) HU.out rfl HIS.out) (by assumption) ?_; simp only [List.set_cons_zero, List.set_cons_succ, List.setIfInBounds_toArray])
    (refine Hd.takeE (i := 21) (v := ?_) rfl rfl (by kernel_rfl) (by kernel_rfl) (by kernel_rfl) (by kernel_rfl) (fun _ _ _ h => h) (Or.inl ⟨by rfl, ?_⟩) (by assumption) ?_; rotate_left; (focus (intro wS hS; (try go_split_ands); go_simp; all_goals (with_reducible rfl))); simp only [List.set_cons_zero, List.set_cons_succ, List.setIfInBounds_toArray]); (refine Hd.takeE (i := 22) (v := ?_) rfl rfl (by kernel_rfl) (by kernel_rfl) (by kernel_rfl) (by kernel_rfl) (fun _ _ _ h => h) (Or.inl ⟨by rfl, ?_⟩) (by assumption) ?_; rotate_left; (focus (intro wS hS; (try go_split_ands); go_simp; all_goals (with_reducible rfl))); simp only [List.set_cons_zero, List.set_cons_succ, List.setIfInBounds_toArray]); (refine Hd.takeE (i := 23) (v := ?_) rfl rfl (by kernel_rfl) (by kernel_rfl) (by kernel_rfl) (by kernel_rfl) (fun _ _ _ h => h) (Or.inl ⟨by rfl, ?_⟩) (by assumption) ?_; rotate_left; (focus (intro wS hS; (try go_split_ands); go_simp; all_goals (with_reducible rfl))); simp only [List.set_cons_zero, List.set_cons_succ, List.setIfInBounds_toArray])
    (refine Hd.takeE (i := 24) rfl rfl (by kernel_rfl) (by kernel_rfl) (by kernel_rfl) (by kernel_rfl) (fun _ _ _ h => h) (Hd.yieldsIf_load_any (by rfl) 35 _ rfl _ rfl N _ (fun wS hS => ((HRA.out.below HB2.out).below hS)) HU.out rfl HIS.out) (by assumption) ?_; simp only [List.set_cons_zero, List.set_cons_succ, List.setIfInBounds_toArray])
    (refine Hd.takeE (i := 25) (v := ?_) rfl rfl (by kernel_rfl) (by kernel_rfl) (by kernel_rfl) (by kernel_rfl) (fun _ _ _ h => h) (Or.inl ⟨by rfl, ?_⟩) (by assumption) ?_; rotate_left; (focus (intro wS hS; (try go_split_ands); go_simp; all_goals (with_reducible rfl))); simp only [List.set_cons_zero, List.set_cons_succ, List.setIfInBounds_toArray]); (refine Hd.takeE (i := 26) (v := ?_) rfl rfl (by kernel_rfl) (by kernel_rfl) (by kernel_rfl) (by kernel_rfl) (fun _ _ _ h => h) (Or.inl ⟨by rfl, ?_⟩) (by assumption) ?_; rotate_left; (focus (intro wS hS; (try go_split_ands); go_simp; all_goals (with_reducible rfl))); simp only [List.set_cons_zero, List.set_cons_succ, List.setIfInBounds_toArray])
    (refine Hd.endE (by kernel_rfl) ?_ _)
    have HB5 := Aside0.mk hHeld
    have HX5 := Aside0.mk (HX2.out.below HB5.out)
    clear hHeld
    have hwr : IntKind.i64.wrap ((room : Int) - 1) = (room : Int) - 1 := by rw [IntKind.wrap_i64]; omega
    go_wp2_with fail
    go_loopg [21] (room + 1) (fun gk v21 wr => ∃ (i : Nat) (xs2 : List Bn), v21 = .int .i64 i ∧ i ≤ k3 ∧ i + 1 ≤ room ∧ Aside0 (gk = room - i + 1) ∧ Aside0 (XS wr (fun q => q = w.heap.size ∨ q = w.heap.size + 1) w.heap.size room xs2) ∧ Aside0 (CaM.Good room xs2) ∧ Aside0 (Kept xs2 b (ss) i) ∧ Aside0 (Below w.heap.size w wr) ∧ W2.heap.size ≤ wr.heap.size)
    case atStart => exact ⟨0, xs1, rfl, Nat.zero_le _, by omega, ⟨rfl⟩, HX5, HG2, HK2, ⟨below_then HB2.out HB2.out.size HB5.out⟩, HB5.out.size⟩
    case round =>
      obtain ⟨i, xs2, rfl, hi, hir, HGK, HX, HGO, HKE, HBW, hzw⟩ := hrel
      obtain ⟨wo, rfl⟩ : ∃ X : World, X = wr := ⟨_, rfl⟩
      have hn2 : xs2.length ≤ 900 := by have := HGO.out.len; omega
      by_cases hlt : i < k3
      · have h1 : decide ((i : Int) < (k3 : Int)) = true := by simp; omega
        by_cases hlt2 : i + 1 < room
        · have h2 : decide ((i : Int) < (room : Int) - 1) = true := by simp; omega
          have hq1 : (0 : Int) ≤ (i : Int) := by omega
          have hq2 : (i : Int) < (k3 : Int) := by omega
          obtain ⟨ad3, rfl, hc3'⟩ := Kd.at_int (Kd.C_below HS3.out HBW.out) (i : Int) hq1 hq2
          rw [Int.toNat_natCast] at hc3'
          obtain ⟨q, hq, hq3⟩ : ∃ q : Nat, rd ms (i : Int) = (q : Int) ∧ q ≤ 65535 := wf_u16 (HM3.out _ (by
            have : i < ms.length := by have := HS3.out.1; omega
            show ms.getD i 0 ∈ ms
            simp [this]))
          rw [hq] at hc3'
          have m1 : IntKind.i64.wrap (q : Int) = (q : Int) := IntWalk.i64_in _ (by omega)
          have m2 : (q : Int).tmod 4096 = ((q % 4096 : Nat) : Int) := rfl
          have hm4 : q % 4096 < 4096 := Nat.mod_lt _ (by decide)
          generalize q % 4096 = m at *
          clear hq
          by_cases hmb : m = b
          · have e7 : ((m : Int) != (b : Int)) = false := by simp; omega
            go_wp2_with fail
            refine (HSZ.out _).mono ?_
            rintro e Wz ⟨rfl, rfl⟩
            go_wp2
            go_roundg (room - (i + 1) + 1)
            case measure => have := HGK.out; omega
            case rel => exact ⟨i + 1, xs2, by go_num, by omega, by omega, ⟨rfl⟩, HX, HGO, ⟨HKE.out.mono (by omega)⟩, HBW, hzw⟩
          · have e7 : ((m : Int) != (b : Int)) = true := by simp; omega
            go_wp2_with fail
            refine (HSZ.out _).mono ?_
            rintro e Wz ⟨rfl, rfl⟩
            go_wp2_with fail
            refine (x_put HX.out HGO.out (by omega) (fun q hq => Nat.lt_of_lt_of_le (HL2.out q hq) hzw) (.inl rfl) m (by omega) (by omega) none 0 0 [] ⟨rfl, by decide, fun h => absurd h (Nat.lt_irrefl 0)⟩ (by omega) (fun h0 => absurd h0 (Nat.lt_irrefl 0))).mono ?_
            rintro e W7 ⟨rfl, hx7, hg7⟩
            have HX7 := Aside0.mk hx7
            have HG7 := Aside0.mk (good_put HGO.out m [] (by decide))
            have HK7 := Aside0.mk (kept_more (room := room) (m := m) HKE.out (by omega) (by omega))
            have HB7 : Aside0 (Below w.heap.size w W7) := ⟨⟨hg7.os.trans HBW.out.os, hg7.tape.trans HBW.out.tape, hg7.output.trans HBW.out.output, Nat.le_trans HBW.out.size hg7.size, fun q hq => (hg7.block q (Nat.lt_of_lt_of_le hq HBW.out.size) (fun e => by injection e with e; omega)).trans (HBW.out.block q hq)⟩⟩
            have hz7 := Nat.le_trans hzw hg7.size
            clear hx7 hg7
            generalize putX room xs2 m [] = xs3 at *
            go_wp2
            go_roundg (room - (i + 1) + 1)
            case measure => have := HGK.out; omega
            case rel => exact ⟨i + 1, xs3, by go_num, by omega, by omega, ⟨rfl⟩, HX7, HG7, HK7, HB7, hz7⟩
        · have h2 : decide ((i : Int) < (room : Int) - 1) = false := by simp; omega
          go_wp2_with fail
          refine (HSZ.out _).mono ?_
          rintro e Wz ⟨rfl, rfl⟩
          have HRW := Aside0.mk (HRA.out.below HBW.out)
          go_wp2_with ((with_reducible refine gate_ (.load 35 (.tmp 131)) rfl ?_); refine Hd.wpList_load_any rfl _ (.tmp 131) rfl _ rfl N _ HRW.out HU.out rfl HIS.out ?_)
          refine (HFK.out wo _ _ _ i HX.out hn2 (fun q hq => Nat.lt_of_lt_of_le (HL2.out q hq) hzw) (.inl rfl) HKE.out).mono ?_
          rintro e W8 ⟨rfl, hg8⟩
          have HB8 : Aside0 (Below w.heap.size w W8) := ⟨⟨hg8.os.trans HBW.out.os, hg8.tape.trans HBW.out.tape, hg8.output.trans HBW.out.output, Nat.le_trans HBW.out.size hg8.size, fun q hq => (hg8.block q (Nat.lt_of_lt_of_le hq HBW.out.size) (fun e => by injection e with e; omega)).trans (HBW.out.block q hq)⟩⟩
          clear hg8
          go_wp2_with fail
          refine (live_calls _).mono ?_
          rintro e W9 ⟨rfl, hb9⟩
          have HB9 := Aside0.mk hb9
          clear hb9
          go_wp2
          go_ret
          exact ⟨rfl, below_then HB8.out HB8.out.size HB9.out⟩
      · have h1 : decide ((i : Int) < (k3 : Int)) = false := by simp; omega
        have HRW := Aside0.mk (HRA.out.below HBW.out)
        go_wp2_with ((with_reducible refine gate_ (.load 35 (.tmp 131)) rfl ?_); refine Hd.wpList_load_any rfl _ (.tmp 131) rfl _ rfl N _ HRW.out HU.out rfl HIS.out ?_)
        refine (HFK.out wo _ _ _ i HX.out hn2 (fun q hq => Nat.lt_of_lt_of_le (HL2.out q hq) hzw) (.inl rfl) HKE.out).mono ?_
        rintro e W8 ⟨rfl, hg8⟩
        have HB8 : Aside0 (Below w.heap.size w W8) := ⟨⟨hg8.os.trans HBW.out.os, hg8.tape.trans HBW.out.tape, hg8.output.trans HBW.out.output, Nat.le_trans HBW.out.size hg8.size, fun q hq => (hg8.block q (Nat.lt_of_lt_of_le hq HBW.out.size) (fun e => by injection e with e; omega)).trans (HBW.out.block q hq)⟩⟩
        clear hg8
        go_wp2_with fail
        refine (live_calls _).mono ?_
        rintro e W9 ⟨rfl, hb9⟩
        have HB9 := Aside0.mk hb9
        clear hb9
        go_wp2
        go_ret
        exact ⟨rfl, below_then HB8.out HB8.out.size HB9.out⟩
    --END2
end Go.Proofs.Ytocmljijdecilaa.CaL4
