/- The law CacheTrue: what is found is there; condition: each deed reads as it should. -/
import Derived.Test.YtocmljijdecilaaCaLv
namespace Go.Proofs.Ytocmljijdecilaa.CaL2
open Go Go.RowKit Go.Proofs.YtocmljijdecilaaW.PrintWords Go.Proofs.Ytocmljijdecilaa.K Go.Proofs.Ytocmljijdecilaa.CaS Go.Proofs.Ytocmljijdecilaa.CaC Go.Proofs.Ytocmljijdecilaa.CaD Go.Proofs.Ytocmljijdecilaa.CaB2 Go.Proofs.Ytocmljijdecilaa.CaO Go.Proofs.Ytocmljijdecilaa.CaP Go.Proofs.Ytocmljijdecilaa.CaQ Go.Proofs.Ytocmljijdecilaa.CaR Go.Proofs.Ytocmljijdecilaa.CaX Go.Proofs.Ytocmljijdecilaa.CaM Go.Proofs.Ytocmljijdecilaa.CaN Go.Proofs.Ytocmljijdecilaa.CaDo Go.Proofs.Ytocmljijdecilaa.CaDp Go.Proofs.Ytocmljijdecilaa.CaPf Go.Proofs.Ytocmljijdecilaa.CaPy Go.Proofs.Ytocmljijdecilaa.CaLv
set_option linter.unusedVariables false
set_option linter.unusedSimpArgs false
theorem wf_u8 {x : Int} (h : (Lit.int .u8 x).wf = true) : ∃ p : Nat, x = p ∧ p ≤ 255 := by
  simp [Lit.wf, IntKind.min, IntKind.max, IntKind.signed, IntKind.bits] at h
  exact ⟨x.toNat, by omega, by omega⟩
/-- A deed that puts the container b. -/
def Mat (d : Deed) (b : Int) : Prop := d.op = 0 ∧ d.n = b ∧ d.ls.length ≤ 64
theorem first_is : ∀ (ss : List Sm) (s : Sm) (o j : Nat), firstAt ss s o = some j → o ≤ j ∧ j - o < ss.length ∧ ss.getD (j - o) [] = s
  | [], s, o, j, h => by cases h
  | x :: l, s, o, j, h => by
    unfold firstAt at h
    split at h
    · rename_i e
      injection h with h
      subst h
      simp [e]
    · obtain ⟨h1, h2, h3⟩ := first_is l s (o + 1) j h
      have e : j - o = (j - (o + 1)) + 1 := by omega
      refine ⟨by omega, by simp; omega, ?_⟩
      rw [e, List.getD_cons_succ]
      exact h3
theorem put_last (room : Nat) (ds : List Deed) : ∀ t, ∀ p ∈ CaPy.runN room ds t, (0 ≤ p.1 ∧ p.1 < 4096) ∧ ∃ q, q < t ∧ q < ds.length ∧ Mat (ds.getD q default) p.1 ∧ (ds.getD q default).ls = p.2 ∧ ∀ r, q < r → r < t → r < ds.length → ¬ Mat (ds.getD r default) p.1
  | 0, p, hp => by unfold CaPy.runN at hp; simp at hp
  | t + 1, p, hp => by
    by_cases ht : t < ds.length
    · rw [runN_step room ds t ht] at hp
      generalize hd : ds.getD t default = d at *
      have lift : p ∈ CaPy.runN room ds t → ¬ Mat d p.1 → (0 ≤ p.1 ∧ p.1 < 4096) ∧ ∃ q, q < t + 1 ∧ q < ds.length ∧ Mat (ds.getD q default) p.1 ∧ (ds.getD q default).ls = p.2 ∧ ∀ r, q < r → r < t + 1 → r < ds.length → ¬ Mat (ds.getD r default) p.1 := fun h1 h2 => by
        obtain ⟨h3, q, h4, h5, h6, h7, h8⟩ := put_last room ds t p h1
        refine ⟨h3, q, by omega, h5, h6, h7, fun r hr1 hr2 hr3 => ?_⟩
        by_cases e : r = t
        · subst e; rw [hd]; exact h2
        · exact h8 r hr1 (by omega) hr3
      unfold stepX at hp
      by_cases e0 : d.op = 0
      · rw [if_pos e0] at hp
        unfold putS at hp
        split at hp
        · rename_i hv
          rcases List.mem_append.1 ((cut_sub room _).subset hp) with h1 | h1
          · obtain ⟨h2, h3⟩ := mem_rm.1 h1
            exact lift h2 (fun hm => h3 hm.2.1.symm)
          · rw [List.mem_singleton.1 h1]
            exact ⟨⟨hv.1, hv.2.1⟩, t, by omega, ht, by rw [hd]; exact ⟨e0, rfl, hv.2.2⟩, by rw [hd], fun r h1 h2 => by omega⟩
        · rename_i hv
          refine lift hp (fun hm => hv ?_)
          have := (put_last room ds t p hp).1
          rw [hm.2.1]
          exact ⟨this.1, this.2, hm.2.2⟩
      · rw [if_neg e0] at hp
        have hno : ¬ Mat d p.1 := fun hm => e0 hm.1
        refine lift ?_ hno
        split at hp
        · cases hf : findX (CaPy.runN room ds t) d.s with
          | none => rw [found_none hf] at hp; exact hp
          | some ij =>
            obtain ⟨i, j⟩ := ij
            rw [found_some hf] at hp
            have hi := find_in_lt hf
            unfold moveX at hp
            rw [split_at (CaPy.runN room ds t) i hi]
            simp only [List.mem_append, List.mem_cons, List.mem_singleton] at hp ⊢
            rcases hp with (hp | hp) | hp
            · exact .inl hp
            · exact .inr (.inr hp)
            · rcases hp with hp | hp
              · exact .inr (.inl hp)
              · cases hp
        · split at hp
          · exact (mem_rm.1 hp).1
          · split at hp
            · exact hp
            · cases hp
    · have e : CaPy.runN room ds (t + 1) = CaPy.runN room ds t := by unfold CaPy.runN; rw [List.take_of_length_le (by omega), List.take_of_length_le (by omega)]
      rw [e] at hp
      obtain ⟨h3, q, h4, h5, h6, h7, h8⟩ := put_last room ds t p hp
      exact ⟨h3, q, by omega, h5, h6, h7, fun r hr1 hr2 hr3 => h8 r hr1 (by omega) hr3⟩
theorem deed_cells34 (d : Deed) (h : d.s.length = 32) : d.cells[34]? = some (.slice d.A d.k d.c) := by
  have := deed34 d h
  rwa [List.getElem?_toArray] at this
set_option maxHeartbeats 8000000 in
set_option maxRecDepth 100000 in
theorem true_row (x0 : Int) (A : Option Addr) (k c : Nat) (ds : List Deed) (s : List Int) (w : World) (hx : (Lit.int .u8 x0).wf = true) (hs : DeedsC w A k ds) (hc : k ≤ c) (hl : s.length = 32) (hb : ∀ x ∈ s, (Lit.int .u8 x).wf = true) :
    Calls Try.prog 5 #[.int .u8 x0, .slice A k c, .agg (nums .u8 s).toArray] w fun e w' => e = .returned (.bool true) ∧ Below w.heap.size w w' := by
  obtain ⟨p, rfl, hp⟩ := wf_u8 hx
  have hok : OkSum s := ⟨hl, hb⟩
  have hal := below_alloc (Below.refl w.heap.size w) (.cells (nums .u8 s).toArray 35)
  have hbox := heap_alloc_new w (.cells (nums .u8 s).toArray 35)
  have hroom : 0 < 1 + p % 12 ∧ 1 + p % 12 ≤ 12 := by omega
  have HS := Aside0.mk hs
  have hpl := play_calls p hp _ rfl A k c ds _ (hs.below hal)
  rw [World.size_alloc] at hpl
  have HPL := Aside0.mk hpl
  have HAL := Aside0.mk hal
  have HBX := Aside0.mk hbox
  have HU := Aside0.mk Try.underlying35
  have HIS := Aside0.mk (infoSmS s hok)
  have hkl := hs.len
  have hkm := hs.lim
  generalize 1 + p % 12 = room at *
  clear hpl hal hbox hx hs hp hl hb
  go_enter Try.func5, Try.ntmps5
  go_wp2_with fail
  refine HPL.out.mono ?_
  rintro e W1 ⟨rfl, hT, hB⟩
  have HT := Aside0.mk hT
  have HB := Aside0.mk hB
  have HBS : Aside0 (∀ W, Below W1.heap.size W1 W → Hd.RangeA W ⟨w.heap.size, 0, none⟩ (nums .u8 s)) := ⟨fun W hW j v hj => by
    rw [addr0]
    exact obj_cell ((hW.block w.heap.size (Nat.lt_of_lt_of_le (by simp) hB.size)).trans ((hB.block w.heap.size (by omega)).trans HBX.out)) j (by rw [List.getElem?_toArray]; exact hj)⟩
  have HB0 := Aside0.mk (below_then HAL.out HAL.out.size (by rw [World.size_alloc]; exact hB))
  have hn : (CaPy.runN room ds 120).length ≤ 900 := by have := hT.good.len; omega
  have HPUT := Aside0.mk (put_last room ds 120)
  have HRB := Aside0.mk (HBS.out W1 (Below.refl _ _))
  have HXF := Aside0.mk (x_find hT.x hn hT.lim hT.tx s hok)
  have hszz := hB.size
  clear hT hB HPL
  generalize hxs : CaPy.runN room ds 120 = xs at *
  generalize hN : nums .u8 s = N at *
  go_wp2_with ((with_reducible refine gate_ (.load 35 (.tmp 5)) rfl ?_); refine Hd.wpList_load_any rfl _ (.tmp 5) rfl _ rfl N _ HRB.out HU.out rfl HIS.out ?_)
  refine HXF.out.mono ?_
  rintro e W2 (⟨h2, rfl, hg2⟩ | ⟨i, j, h2, rfl, hx2, hg2⟩)
  · have hb2 : Below W1.heap.size W1 W2 := ⟨hg2.os, hg2.tape, hg2.output, hg2.size, fun k hk => hg2.block k hk (fun e => by cases e)⟩
    have HB2 := Aside0.mk hb2
    clear hb2 hg2 h2
    go_wp2_with fail
    refine (live_calls _).mono ?_
    rintro e W3 ⟨rfl, hb3⟩
    have HB3 := Aside0.mk hb3
    clear hb3
    go_wp2
    go_ret
    exact ⟨rfl, below_then (below_then HB0.out HB0.out.size HB2.out) (Nat.le_trans HB0.out.size HB2.out.size) HB3.out⟩
  · have hi := find_in_lt h2
    obtain ⟨_, hfa, _⟩ := find_lt _ _ _ _ _ h2
    unfold fX at hfa
    obtain ⟨_, hj1, hj2⟩ := first_is _ _ _ _ hfa
    rw [Nat.sub_zero] at hj1 hj2
    have hmem : xs.getD i default ∈ xs := by simp [hi]
    obtain ⟨_, q, hq1, hq2, hq3, hq4, hq5⟩ := HPUT.out _ hmem
    rw [← hq4] at hj1 hj2
    generalize (xs.getD i default).1 = b at *
    have HG2 : Aside0 (W1.grownBy W2 (some (w.heap.size + 1))) := ⟨hg2⟩
    have HB2 : Aside0 (Below w.heap.size w W2) := ⟨⟨hg2.os.trans HB0.out.os, hg2.tape.trans HB0.out.tape, hg2.output.trans HB0.out.output, Nat.le_trans HB0.out.size hg2.size, fun k hk => (hg2.block k (Nat.lt_of_lt_of_le hk HB0.out.size) (fun e => by injection e with e; omega)).trans (HB0.out.block k hk)⟩⟩
    have HRB2 : Aside0 (Hd.RangeA W2 ⟨w.heap.size, 0, none⟩ N) := ⟨fun j v hj => by
      have h1 := HRB.out j v hj
      have hlt := World.block_lt_of_cell? _ _ h1
      rw [← h1]
      unfold World.cell?
      rw [addr0]
      rw [hg2.block w.heap.size (by simpa [addr0] using hlt) (fun e => by injection e with e; omega)]⟩
    have HQ3 := Aside0.mk hq3
    have HQ5 := Aside0.mk hq5
    have HJ1 := Aside0.mk hj1
    have HJ2 := Aside0.mk hj2
    clear hx2 hg2 h2 hfa hmem hq3 hq5 hq4 HXF hj1 hj2 HPUT HT
    by_cases hk120 : k ≤ 120
    · have hkd : decide ((120 : Int) < (k : Int)) = false := by simp; omega
      have hki : ¬ ((120 : Int) < (k : Int)) := by omega
      go_wp2_with fail
      --BLK1
      go_loopg [13] (k + 1) (fun gk v13 wr => ∃ t : Nat, v13 = .int .i64 ((t : Int) - 1) ∧ t ≤ 120 ∧ t ≤ k ∧ q < t ∧ wr = W2 ∧ Aside0 (gk = t + 1))
      case atStart => exact ⟨k, rfl, by omega, by omega, by omega, rfl, ⟨rfl⟩⟩
      case round =>
        obtain ⟨t, rfl, ht1, ht2, htq, hww, HGK⟩ := hrel
        obtain rfl := hww
        cases t with
        | zero => omega
        | succ t =>
          have hz : (((t + 1 : Nat) : Int) - 1) = (t : Int) := by omega
          rw [hz]
          have hd0 : decide ((0 : Int) ≤ (t : Int)) = true := by simp
          have hp1 : (0 : Int) ≤ (t : Int) := by omega
          have hp2 : (t : Int) < (k : Int) := by omega
          have hwt : IntKind.i64.wrap ((t : Int) - 1) = (t : Int) - 1 := by rw [IntKind.wrap_i64]; omega
          obtain ⟨ad, rfl⟩ := HS.out.is (by omega)
          have hok0 : (ds.getD t default).Ok w := HS.out.each _ (by
            have : t < ds.length := by omega
            simp [this])
          have hra := (HS.out.cells ad rfl t (by omega)).below HB2.out
          have hqt : Mat (ds.getD t default) b → t = q := fun hm => by
            rcases Nat.lt_or_ge q t with h1 | h1
            · exact absurd hm (HQ5.out t h1 (by omega) (by omega))
            · omega
          have hqn : ¬ Mat (ds.getD t default) b → q < t := fun hm => by
            rcases Nat.lt_or_ge q t with h1 | h1
            · exact h1
            · exact absurd (show Mat (ds.getD t default) b by rw [show t = q by omega]; exact HQ3.out) hm
          have hfin : t = q → (ds.getD t default).ls.getD j [] = s ∧ j < (ds.getD t default).ls.length := fun e => by subst e; exact ⟨HJ2.out, HJ1.out⟩
          generalize ds.getD t default = d at *
          have c0 := hra 0 (.int .i64 d.op) rfl
          have c1 := hra 1 (.int .i64 d.n) rfl
          have c34 := hra 34 _ (deed_cells34 d hok0.len)
          rw [show (ad.add (t * 35)).add 0 = ad.add (t * 35) from by simp [Addr.add]] at c0
          have c1 : wr.cell? ⟨(ad.add (t * 35)).block, (ad.add (t * 35)).off + 1, none⟩ = some (.int .i64 d.n) := by rw [← c1]; rfl
          have c34 : wr.cell? ⟨(ad.add (t * 35)).block, (ad.add (t * 35)).off + 34, none⟩ = some (.slice d.A d.k d.c) := by rw [← c34]; rfl
          have hlk : d.ls.length = d.k := hok0.l.len
          by_cases hm : Mat d b
          · obtain ⟨m1, m2, m3⟩ := hm
            obtain ⟨f1, f2⟩ := hfin (hqt ⟨m1, m2, m3⟩)
            rw [hlk] at f2 m3
            rw [m1] at c0
            rw [m2] at c1
            have e1 : (b == b) = true := by simp
            have e2 : decide ((d.k : Int) ≤ 64) = true := by simp; omega
            have HRA := Aside0.mk hra
            have HOK := Aside0.mk (hok0.below HB2.out)
            clear hra hqt hqn hfin hok0
            have hj0 : decide ((0 : Int) ≤ (j : Int)) = true := by simp
            have hjk : decide ((j : Int) < (d.k : Int)) = true := by simp; omega
            have hj1 : (0 : Int) ≤ (j : Int) := by omega
            have hj2 : (j : Int) < (d.k : Int) := by omega
            obtain ⟨ad2, hA2⟩ := HOK.out.l.is (by omega)
            have hsm := HOK.out.l.cells ad2 hA2 j f2
            rw [f1, hN] at hsm
            rw [hA2] at c34
            have HSM := Aside0.mk hsm
            have heq := sm_eq s hok
            rw [hN] at heq
            have hcl := World.block_lt_of_cell? _ _ c34
            have HSB := Aside0.mk (fun (X : World) (hX : Below wr.heap.size wr X) => (show Below wr.heap.size wr X ∧ X.cell? ⟨(ad.add (t * 35)).block, (ad.add (t * 35)).off + 34, none⟩ = some (.slice (some ad2) d.k d.c) from ⟨hX, (hX.cell (p := ⟨(ad.add (t * 35)).block, (ad.add (t * 35)).off + 34, none⟩) hcl).trans c34⟩))
            clear hsm HOK f1
            go_wp2_with fail
            (refine Hd.startE (S := (fun X => Below wr.heap.size wr X ∧ X.cell? ⟨(ad.add (t * 35)).block, (ad.add (t * 35)).off + 34, none⟩ = some (.slice (some ad2) d.k d.c))) 1000 (by kernel_rfl) (HSB.out _ (below_drew1 (Below.refl _ _))) (fun hHeld => ?_))
            (refine Hd.readyE (rs := [0]) (by kernel_rfl) (by simp) ?_; refine Hd.AllE.cons (i := 0) rfl (fun K hK => ?_) Hd.AllE.nil; (go_simp; refine (live_calls _).mono ?_; rintro e W5 ⟨rfl, hb5⟩); refine hK.out _ _ (HSB.out _ (below_then (below_drew1 (Below.refl _ _)) (Nat.le_refl _) hb5)) (fun hHeld => ?_); clear hK K; (try simp only [Act.put, List.setIfInBounds_toArray, List.set_cons_zero, List.set_cons_succ]))
            (refine Hd.takeE (i := 1) (v := ?_) rfl rfl (by kernel_rfl) (by kernel_rfl) (by kernel_rfl) (by kernel_rfl) (fun _ _ _ h => h) (Or.inl ⟨by rfl, ?_⟩) (by assumption) ?_; rotate_left; (focus (intro wS hS; (try go_split_ands); go_simp; all_goals (with_reducible rfl))); simp only [List.set_cons_zero, List.set_cons_succ, List.setIfInBounds_toArray]); (refine Hd.takeE (i := 2) (v := ?_) rfl rfl (by kernel_rfl) (by kernel_rfl) (by kernel_rfl) (by kernel_rfl) (fun _ _ _ h => h) (Or.inl ⟨by rfl, ?_⟩) (by assumption) ?_; rotate_left; (focus (intro wS hS; (try go_split_ands); go_simp; all_goals (with_reducible rfl))); simp only [List.set_cons_zero, List.set_cons_succ, List.setIfInBounds_toArray]); (refine Hd.takeE (i := 3) (v := ?_) rfl rfl (by kernel_rfl) (by kernel_rfl) (by kernel_rfl) (by kernel_rfl) (fun _ _ _ h => h) (Or.inl ⟨by rfl, ?_⟩) (by assumption) ?_; rotate_left; (focus (intro wS hS; (try go_split_ands); go_simp; all_goals (with_reducible rfl))); simp only [List.set_cons_zero, List.set_cons_succ, List.setIfInBounds_toArray]); (refine Hd.takeE (i := 4) (v := ?_) rfl rfl (by kernel_rfl) (by kernel_rfl) (by kernel_rfl) (by kernel_rfl) (fun _ _ _ h => h) (Or.inl ⟨by rfl, ?_⟩) (by assumption) ?_; rotate_left; (focus (intro wS hS; (try go_split_ands); go_simp; all_goals (with_reducible rfl))); simp only [List.set_cons_zero, List.set_cons_succ, List.setIfInBounds_toArray]); (refine Hd.takeE (i := 5) (v := ?_) rfl rfl (by kernel_rfl) (by kernel_rfl) (by kernel_rfl) (by kernel_rfl) (fun _ _ _ h => h) (Or.inl ⟨by rfl, ?_⟩) (by assumption) ?_; rotate_left; (focus (intro wS hS; (try go_split_ands); go_simp; all_goals (with_reducible rfl))); simp only [List.set_cons_zero, List.set_cons_succ, List.setIfInBounds_toArray]); (refine Hd.takeE (i := 6) (v := ?_) rfl rfl (by kernel_rfl) (by kernel_rfl) (by kernel_rfl) (by kernel_rfl) (fun _ _ _ h => h) (Or.inl ⟨by rfl, ?_⟩) (by assumption) ?_; rotate_left; (focus (intro wS hS; (try go_split_ands); go_simp; all_goals (with_reducible rfl))); simp only [List.set_cons_zero, List.set_cons_succ, List.setIfInBounds_toArray]); (refine Hd.takeE (i := 7) (v := ?_) rfl rfl (by kernel_rfl) (by kernel_rfl) (by kernel_rfl) (by kernel_rfl) (fun _ _ _ h => h) (Or.inl ⟨by rfl, ?_⟩) (by assumption) ?_; rotate_left; (focus (intro wS hS; (try go_split_ands); go_simp; all_goals (with_reducible rfl))); simp only [List.set_cons_zero, List.set_cons_succ, List.setIfInBounds_toArray]); (refine Hd.takeE (i := 8) (v := ?_) rfl rfl (by kernel_rfl) (by kernel_rfl) (by kernel_rfl) (by kernel_rfl) (fun _ _ _ h => h) (Or.inl ⟨by rfl, ?_⟩) (by assumption) ?_; rotate_left; (focus (intro wS hS; (try go_split_ands); go_simp; all_goals (with_reducible rfl))); simp only [List.set_cons_zero, List.set_cons_succ, List.setIfInBounds_toArray]); (refine Hd.takeE (i := 9) (v := ?_) rfl rfl (by kernel_rfl) (by kernel_rfl) (by kernel_rfl) (by kernel_rfl) (fun _ _ _ h => h) (Or.inl ⟨by rfl, ?_⟩) (by assumption) ?_; rotate_left; (focus (intro wS hS; (try go_split_ands); go_simp; all_goals (with_reducible rfl))); simp only [List.set_cons_zero, List.set_cons_succ, List.setIfInBounds_toArray]); (refine Hd.takeE (i := 10) (v := ?_) rfl rfl (by kernel_rfl) (by kernel_rfl) (by kernel_rfl) (by kernel_rfl) (fun _ _ _ h => h) (Or.inl ⟨by rfl, ?_⟩) (by assumption) ?_; rotate_left; (focus (intro wS hS; (try go_split_ands); go_simp; all_goals (with_reducible rfl))); simp only [List.set_cons_zero, List.set_cons_succ, List.setIfInBounds_toArray]); (refine Hd.takeE (i := 11) (v := ?_) rfl rfl (by kernel_rfl) (by kernel_rfl) (by kernel_rfl) (by kernel_rfl) (fun _ _ _ h => h) (Or.inl ⟨by rfl, ?_⟩) (by assumption) ?_; rotate_left; (focus (intro wS hS; (try go_split_ands); go_simp; all_goals (with_reducible rfl))); simp only [List.set_cons_zero, List.set_cons_succ, List.setIfInBounds_toArray]); (refine Hd.takeE (i := 12) (v := ?_) rfl rfl (by kernel_rfl) (by kernel_rfl) (by kernel_rfl) (by kernel_rfl) (fun _ _ _ h => h) (Or.inl ⟨by rfl, ?_⟩) (by assumption) ?_; rotate_left; (focus (intro wS hS; (try go_split_ands); go_simp; all_goals (with_reducible rfl))); simp only [List.set_cons_zero, List.set_cons_succ, List.setIfInBounds_toArray]); (refine Hd.takeE (i := 13) (v := ?_) rfl rfl (by kernel_rfl) (by kernel_rfl) (by kernel_rfl) (by kernel_rfl) (fun _ _ _ h => h) (Or.inl ⟨by rfl, ?_⟩) (by assumption) ?_; rotate_left; (focus (intro wS hS; (try go_split_ands); go_simp; all_goals (with_reducible rfl))); simp only [List.set_cons_zero, List.set_cons_succ, List.setIfInBounds_toArray]); (refine Hd.takeE (i := 14) (v := ?_) rfl rfl (by kernel_rfl) (by kernel_rfl) (by kernel_rfl) (by kernel_rfl) (fun _ _ _ h => h) (Or.inl ⟨by rfl, ?_⟩) (by assumption) ?_; rotate_left; (focus (intro wS hS; (try go_split_ands); go_simp; all_goals (with_reducible rfl))); simp only [List.set_cons_zero, List.set_cons_succ, List.setIfInBounds_toArray]); (refine Hd.takeE (i := 15) (v := ?_) rfl rfl (by kernel_rfl) (by kernel_rfl) (by kernel_rfl) (by kernel_rfl) (fun _ _ _ h => h) (Or.inl ⟨by rfl, ?_⟩) (by assumption) ?_; rotate_left; (focus (intro wS hS; (try go_split_ands); go_simp; all_goals (with_reducible rfl))); simp only [List.set_cons_zero, List.set_cons_succ, List.setIfInBounds_toArray]); (refine Hd.takeE (i := 16) (v := ?_) rfl rfl (by kernel_rfl) (by kernel_rfl) (by kernel_rfl) (by kernel_rfl) (fun _ _ _ h => h) (Or.inl ⟨by rfl, ?_⟩) (by assumption) ?_; rotate_left; (focus (intro wS hS; (try go_split_ands); go_simp; all_goals (with_reducible rfl))); simp only [List.set_cons_zero, List.set_cons_succ, List.setIfInBounds_toArray]); (refine Hd.takeE (i := 17) (v := ?_) rfl rfl (by kernel_rfl) (by kernel_rfl) (by kernel_rfl) (by kernel_rfl) (fun _ _ _ h => h) (Or.inl ⟨by rfl, ?_⟩) (by assumption) ?_; rotate_left; (focus (intro wS hS; (try go_split_ands); go_simp; all_goals (with_reducible rfl))); simp only [List.set_cons_zero, List.set_cons_succ, List.setIfInBounds_toArray]); (refine Hd.takeE (i := 18) (v := ?_) rfl rfl (by kernel_rfl) (by kernel_rfl) (by kernel_rfl) (by kernel_rfl) (fun _ _ _ h => h) (Or.inl ⟨by rfl, ?_⟩) (by assumption) ?_; rotate_left; (focus (intro wS hS; (try go_split_ands); go_simp; all_goals (with_reducible rfl))); simp only [List.set_cons_zero, List.set_cons_succ, List.setIfInBounds_toArray]); (refine Hd.takeE (i := 19) (v := ?_) rfl rfl (by kernel_rfl) (by kernel_rfl) (by kernel_rfl) (by kernel_rfl) (fun _ _ _ h => h) (Or.inl ⟨by rfl, ?_⟩) (by assumption) ?_; rotate_left; (focus (intro wS hS; (try go_split_ands); go_simp; all_goals (with_reducible rfl))); simp only [List.set_cons_zero, List.set_cons_succ, List.setIfInBounds_toArray]); (refine Hd.takeE (i := 20) (v := ?_) rfl rfl (by kernel_rfl) (by kernel_rfl) (by kernel_rfl) (by kernel_rfl) (fun _ _ _ h => h) (Or.inl ⟨by rfl, ?_⟩) (by assumption) ?_; rotate_left; (focus (intro wS hS; (try go_split_ands); go_simp; all_goals (with_reducible rfl))); simp only [List.set_cons_zero, List.set_cons_succ, List.setIfInBounds_toArray]); (refine Hd.takeE (i := 21) (v := ?_) rfl rfl (by kernel_rfl) (by kernel_rfl) (by kernel_rfl) (by kernel_rfl) (fun _ _ _ h => h) (Or.inl ⟨by rfl, ?_⟩) (by assumption) ?_; rotate_left; (focus (intro wS hS; (try go_split_ands); go_simp; all_goals (with_reducible rfl))); simp only [List.set_cons_zero, List.set_cons_succ, List.setIfInBounds_toArray]); (refine Hd.takeE (i := 22) (v := ?_) rfl rfl (by kernel_rfl) (by kernel_rfl) (by kernel_rfl) (by kernel_rfl) (fun _ _ _ h => h) (Or.inl ⟨by rfl, ?_⟩) (by assumption) ?_; rotate_left; (focus (intro wS hS; (try go_split_ands); go_simp; all_goals (with_reducible rfl))); simp only [List.set_cons_zero, List.set_cons_succ, List.setIfInBounds_toArray])
            (refine Hd.takeE (i := 23) rfl rfl (by kernel_rfl) (by kernel_rfl) (by kernel_rfl) (by kernel_rfl) (fun _ _ _ h => h) (Hd.yieldsIf_load_any (by rfl) 35 _ rfl _ rfl N _ (fun wS hS => (HSM.out.below hS.1)) HU.out rfl HIS.out) (by assumption) ?_; simp only [List.set_cons_zero, List.set_cons_succ, List.setIfInBounds_toArray])
            (refine Hd.takeE (i := 24) rfl rfl (by kernel_rfl) (by kernel_rfl) (by kernel_rfl) (by kernel_rfl) (fun _ _ _ h => h) (Hd.yieldsIf_load_any (by rfl) 35 _ rfl _ rfl N _ (fun wS hS => (HRB2.out.below hS.1)) HU.out rfl HIS.out) (by assumption) ?_; simp only [List.set_cons_zero, List.set_cons_succ, List.setIfInBounds_toArray])
            (refine Hd.takeE (i := 25) (v := ?_) rfl rfl (by kernel_rfl) (by kernel_rfl) (by kernel_rfl) (by kernel_rfl) (fun _ _ _ h => h) (Or.inl ⟨by rfl, ?_⟩) (by assumption) ?_; rotate_left; (focus (intro wS hS; (try go_split_ands); go_simp; all_goals (with_reducible rfl))); simp only [List.set_cons_zero, List.set_cons_succ, List.setIfInBounds_toArray]); (refine Hd.takeE (i := 26) (v := ?_) rfl rfl (by kernel_rfl) (by kernel_rfl) (by kernel_rfl) (by kernel_rfl) (fun _ _ _ h => h) (Or.inl ⟨by rfl, ?_⟩) (by assumption) ?_; rotate_left; (focus (intro wS hS; (try go_split_ands); go_simp; all_goals (with_reducible rfl))); simp only [List.set_cons_zero, List.set_cons_succ, List.setIfInBounds_toArray]); (refine Hd.takeE (i := 27) (v := ?_) rfl rfl (by kernel_rfl) (by kernel_rfl) (by kernel_rfl) (by kernel_rfl) (fun _ _ _ h => h) (Or.inl ⟨by rfl, ?_⟩) (by assumption) ?_; rotate_left; (focus (intro wS hS; (try go_split_ands); go_simp; all_goals (with_reducible rfl))); simp only [List.set_cons_zero, List.set_cons_succ, List.setIfInBounds_toArray])
            (refine Hd.endE (by kernel_rfl) ?_ _)
            have HB9 := Aside0.mk hHeld.1
            clear hHeld
            go_wp2
            go_ret
            exact ⟨rfl, below_then HB2.out HB2.out.size HB9.out⟩
          · have hqq := hqn hm
            by_cases m1 : d.op = 0
            · by_cases m2 : d.n = b
              · have e2 : decide ((d.k : Int) ≤ 64) = false := by
                  have : ¬ d.ls.length ≤ 64 := fun h => hm ⟨m1, m2, h⟩
                  simp; omega
                rw [m1] at c0
                rw [m2] at c1
                have e1 : (b == b) = true := by simp
                clear hra hqt hqn hfin hok0 hm
                go_wp2
                go_roundg (t + 1)
                case measure => have := HGK.out; omega
                case rel => exact ⟨t, rfl, by omega, by omega, hqq, rfl, ⟨rfl⟩⟩
              · have e1 : (d.n == b) = false := by simpa using m2
                rw [m1] at c0
                clear hra hqt hqn hfin hok0 hm
                go_wp2
                go_roundg (t + 1)
                case measure => have := HGK.out; omega
                case rel => exact ⟨t, rfl, by omega, by omega, hqq, rfl, ⟨rfl⟩⟩
            · have e0 : (d.op == 0) = false := by simpa using m1
              clear hra hqt hqn hfin hok0 hm
              go_wp2
              go_roundg (t + 1)
              case measure => have := HGK.out; omega
              case rel => exact ⟨t, rfl, by omega, by omega, hqq, rfl, ⟨rfl⟩⟩
      --END1
    · have hkd : decide ((120 : Int) < (k : Int)) = true := by simp; omega
      have hki : (120 : Int) < (k : Int) := by omega
      go_wp2_with fail
      --BLK2
      go_loopg [13] (120 + 1) (fun gk v13 wr => ∃ t : Nat, v13 = .int .i64 ((t : Int) - 1) ∧ t ≤ 120 ∧ t ≤ k ∧ q < t ∧ wr = W2 ∧ Aside0 (gk = t + 1))
      case atStart => exact ⟨120, rfl, by omega, by omega, by omega, rfl, ⟨rfl⟩⟩
      case round =>
        obtain ⟨t, rfl, ht1, ht2, htq, hww, HGK⟩ := hrel
        obtain rfl := hww
        cases t with
        | zero => omega
        | succ t =>
          have hz : (((t + 1 : Nat) : Int) - 1) = (t : Int) := by omega
          rw [hz]
          have hd0 : decide ((0 : Int) ≤ (t : Int)) = true := by simp
          have hp1 : (0 : Int) ≤ (t : Int) := by omega
          have hp2 : (t : Int) < (k : Int) := by omega
          have hwt : IntKind.i64.wrap ((t : Int) - 1) = (t : Int) - 1 := by rw [IntKind.wrap_i64]; omega
          obtain ⟨ad, rfl⟩ := HS.out.is (by omega)
          have hok0 : (ds.getD t default).Ok w := HS.out.each _ (by
            have : t < ds.length := by omega
            simp [this])
          have hra := (HS.out.cells ad rfl t (by omega)).below HB2.out
          have hqt : Mat (ds.getD t default) b → t = q := fun hm => by
            rcases Nat.lt_or_ge q t with h1 | h1
            · exact absurd hm (HQ5.out t h1 (by omega) (by omega))
            · omega
          have hqn : ¬ Mat (ds.getD t default) b → q < t := fun hm => by
            rcases Nat.lt_or_ge q t with h1 | h1
            · exact h1
            · exact absurd (show Mat (ds.getD t default) b by rw [show t = q by omega]; exact HQ3.out) hm
          have hfin : t = q → (ds.getD t default).ls.getD j [] = s ∧ j < (ds.getD t default).ls.length := fun e => by subst e; exact ⟨HJ2.out, HJ1.out⟩
          generalize ds.getD t default = d at *
          have c0 := hra 0 (.int .i64 d.op) rfl
          have c1 := hra 1 (.int .i64 d.n) rfl
          have c34 := hra 34 _ (deed_cells34 d hok0.len)
          rw [show (ad.add (t * 35)).add 0 = ad.add (t * 35) from by simp [Addr.add]] at c0
          have c1 : wr.cell? ⟨(ad.add (t * 35)).block, (ad.add (t * 35)).off + 1, none⟩ = some (.int .i64 d.n) := by rw [← c1]; rfl
          have c34 : wr.cell? ⟨(ad.add (t * 35)).block, (ad.add (t * 35)).off + 34, none⟩ = some (.slice d.A d.k d.c) := by rw [← c34]; rfl
          have hlk : d.ls.length = d.k := hok0.l.len
          by_cases hm : Mat d b
          · obtain ⟨m1, m2, m3⟩ := hm
            obtain ⟨f1, f2⟩ := hfin (hqt ⟨m1, m2, m3⟩)
            rw [hlk] at f2 m3
            rw [m1] at c0
            rw [m2] at c1
            have e1 : (b == b) = true := by simp
            have e2 : decide ((d.k : Int) ≤ 64) = true := by simp; omega
            have HRA := Aside0.mk hra
            have HOK := Aside0.mk (hok0.below HB2.out)
            clear hra hqt hqn hfin hok0
            have hj0 : decide ((0 : Int) ≤ (j : Int)) = true := by simp
            have hjk : decide ((j : Int) < (d.k : Int)) = true := by simp; omega
            have hj1 : (0 : Int) ≤ (j : Int) := by omega
            have hj2 : (j : Int) < (d.k : Int) := by omega
            obtain ⟨ad2, hA2⟩ := HOK.out.l.is (by omega)
            have hsm := HOK.out.l.cells ad2 hA2 j f2
            rw [f1, hN] at hsm
            rw [hA2] at c34
            have HSM := Aside0.mk hsm
            have heq := sm_eq s hok
            rw [hN] at heq
            have hcl := World.block_lt_of_cell? _ _ c34
            have HSB := Aside0.mk (fun (X : World) (hX : Below wr.heap.size wr X) => (show Below wr.heap.size wr X ∧ X.cell? ⟨(ad.add (t * 35)).block, (ad.add (t * 35)).off + 34, none⟩ = some (.slice (some ad2) d.k d.c) from ⟨hX, (hX.cell (p := ⟨(ad.add (t * 35)).block, (ad.add (t * 35)).off + 34, none⟩) hcl).trans c34⟩))
            clear hsm HOK f1
            go_wp2_with fail
            (refine Hd.startE (S := (fun X => Below wr.heap.size wr X ∧ X.cell? ⟨(ad.add (t * 35)).block, (ad.add (t * 35)).off + 34, none⟩ = some (.slice (some ad2) d.k d.c))) 1000 (by kernel_rfl) (HSB.out _ (below_drew1 (Below.refl _ _))) (fun hHeld => ?_))
            (refine Hd.readyE (rs := [0]) (by kernel_rfl) (by simp) ?_; refine Hd.AllE.cons (i := 0) rfl (fun K hK => ?_) Hd.AllE.nil; (go_simp; refine (live_calls _).mono ?_; rintro e W5 ⟨rfl, hb5⟩); refine hK.out _ _ (HSB.out _ (below_then (below_drew1 (Below.refl _ _)) (Nat.le_refl _) hb5)) (fun hHeld => ?_); clear hK K; (try simp only [Act.put, List.setIfInBounds_toArray, List.set_cons_zero, List.set_cons_succ]))
            (refine Hd.takeE (i := 1) (v := ?_) rfl rfl (by kernel_rfl) (by kernel_rfl) (by kernel_rfl) (by kernel_rfl) (fun _ _ _ h => h) (Or.inl ⟨by rfl, ?_⟩) (by assumption) ?_; rotate_left; (focus (intro wS hS; (try go_split_ands); go_simp; all_goals (with_reducible rfl))); simp only [List.set_cons_zero, List.set_cons_succ, List.setIfInBounds_toArray]); (refine Hd.takeE (i := 2) (v := ?_) rfl rfl (by kernel_rfl) (by kernel_rfl) (by kernel_rfl) (by kernel_rfl) (fun _ _ _ h => h) (Or.inl ⟨by rfl, ?_⟩) (by assumption) ?_; rotate_left; (focus (intro wS hS; (try go_split_ands); go_simp; all_goals (with_reducible rfl))); simp only [List.set_cons_zero, List.set_cons_succ, List.setIfInBounds_toArray]); (refine Hd.takeE (i := 3) (v := ?_) rfl rfl (by kernel_rfl) (by kernel_rfl) (by kernel_rfl) (by kernel_rfl) (fun _ _ _ h => h) (Or.inl ⟨by rfl, ?_⟩) (by assumption) ?_; rotate_left; (focus (intro wS hS; (try go_split_ands); go_simp; all_goals (with_reducible rfl))); simp only [List.set_cons_zero, List.set_cons_succ, List.setIfInBounds_toArray]); (refine Hd.takeE (i := 4) (v := ?_) rfl rfl (by kernel_rfl) (by kernel_rfl) (by kernel_rfl) (by kernel_rfl) (fun _ _ _ h => h) (Or.inl ⟨by rfl, ?_⟩) (by assumption) ?_; rotate_left; (focus (intro wS hS; (try go_split_ands); go_simp; all_goals (with_reducible rfl))); simp only [List.set_cons_zero, List.set_cons_succ, List.setIfInBounds_toArray]); (refine Hd.takeE (i := 5) (v := ?_) rfl rfl (by kernel_rfl) (by kernel_rfl) (by kernel_rfl) (by kernel_rfl) (fun _ _ _ h => h) (Or.inl ⟨by rfl, ?_⟩) (by assumption) ?_; rotate_left; (focus (intro wS hS; (try go_split_ands); go_simp; all_goals (with_reducible rfl))); simp only [List.set_cons_zero, List.set_cons_succ, List.setIfInBounds_toArray]); (refine Hd.takeE (i := 6) (v := ?_) rfl rfl (by kernel_rfl) (by kernel_rfl) (by kernel_rfl) (by kernel_rfl) (fun _ _ _ h => h) (Or.inl ⟨by rfl, ?_⟩) (by assumption) ?_; rotate_left; (focus (intro wS hS; (try go_split_ands); go_simp; all_goals (with_reducible rfl))); simp only [List.set_cons_zero, List.set_cons_succ, List.setIfInBounds_toArray]); (refine Hd.takeE (i := 7) (v := ?_) rfl rfl (by kernel_rfl) (by kernel_rfl) (by kernel_rfl) (by kernel_rfl) (fun _ _ _ h => h) (Or.inl ⟨by rfl, ?_⟩) (by assumption) ?_; rotate_left; (focus (intro wS hS; (try go_split_ands); go_simp; all_goals (with_reducible rfl))); simp only [List.set_cons_zero, List.set_cons_succ, List.setIfInBounds_toArray]); (refine Hd.takeE (i := 8) (v := ?_) rfl rfl (by kernel_rfl) (by kernel_rfl) (by kernel_rfl) (by kernel_rfl) (fun _ _ _ h => h) (Or.inl ⟨by rfl, ?_⟩) (by assumption) ?_; rotate_left; (focus (intro wS hS; (try go_split_ands); go_simp; all_goals (with_reducible rfl))); simp only [List.set_cons_zero, List.set_cons_succ, List.setIfInBounds_toArray]); (refine Hd.takeE (i := 9) (v := ?_) rfl rfl (by kernel_rfl) (by kernel_rfl) (by kernel_rfl) (by kernel_rfl) (fun _ _ _ h => h) (Or.inl ⟨by rfl, ?_⟩) (by assumption) ?_; rotate_left; (focus (intro wS hS; (try go_split_ands); go_simp; all_goals (with_reducible rfl))); simp only [List.set_cons_zero, List.set_cons_succ, List.setIfInBounds_toArray]); (refine Hd.takeE (i := 10) (v := ?_) rfl rfl (by kernel_rfl) (by kernel_rfl) (by kernel_rfl) (by kernel_rfl) (fun _ _ _ h => h) (Or.inl ⟨by rfl, ?_⟩) (by assumption) ?_; rotate_left; (focus (intro wS hS; (try go_split_ands); go_simp; all_goals (with_reducible rfl))); simp only [List.set_cons_zero, List.set_cons_succ, List.setIfInBounds_toArray]); (refine Hd.takeE (i := 11) (v := ?_) rfl rfl (by kernel_rfl) (by kernel_rfl) (by kernel_rfl) (by kernel_rfl) (fun _ _ _ h => h) (Or.inl ⟨by rfl, ?_⟩) (by assumption) ?_; rotate_left; (focus (intro wS hS; (try go_split_ands); go_simp; all_goals (with_reducible rfl))); simp only [List.set_cons_zero, List.set_cons_succ, List.setIfInBounds_toArray]); (refine Hd.takeE (i := 12) (v := ?_) rfl rfl (by kernel_rfl) (by kernel_rfl) (by kernel_rfl) (by kernel_rfl) (fun _ _ _ h => h) (Or.inl ⟨by rfl, ?_⟩) (by assumption) ?_; rotate_left; (focus (intro wS hS; (try go_split_ands); go_simp; all_goals (with_reducible rfl))); simp only [List.set_cons_zero, List.set_cons_succ, List.setIfInBounds_toArray]); (refine Hd.takeE (i := 13) (v := ?_) rfl rfl (by kernel_rfl) (by kernel_rfl) (by kernel_rfl) (by kernel_rfl) (fun _ _ _ h => h) (Or.inl ⟨by rfl, ?_⟩) (by assumption) ?_; rotate_left; (focus (intro wS hS; (try go_split_ands); go_simp; all_goals (with_reducible rfl))); simp only [List.set_cons_zero, List.set_cons_succ, List.setIfInBounds_toArray]); (refine Hd.takeE (i := 14) (v := ?_) rfl rfl (by kernel_rfl) (by kernel_rfl) (by kernel_rfl) (by kernel_rfl) (fun _ _ _ h => h) (Or.inl ⟨by rfl, ?_⟩) (by assumption) ?_; rotate_left; (focus (intro wS hS; (try go_split_ands); go_simp; all_goals (with_reducible rfl))); simp only [List.set_cons_zero, List.set_cons_succ, List.setIfInBounds_toArray]); (refine Hd.takeE (i := 15) (v := ?_) rfl rfl (by kernel_rfl) (by kernel_rfl) (by kernel_rfl) (by kernel_rfl) (fun _ _ _ h => h) (Or.inl ⟨by rfl, ?_⟩) (by assumption) ?_; rotate_left; (focus (intro wS hS; (try go_split_ands); go_simp; all_goals (with_reducible rfl))); simp only [List.set_cons_zero, List.set_cons_succ, List.setIfInBounds_toArray]); (refine Hd.takeE (i := 16) (v := ?_) rfl rfl (by kernel_rfl) (by kernel_rfl) (by kernel_rfl) (by kernel_rfl) (fun _ _ _ h => h) (Or.inl ⟨by rfl, ?_⟩) (by assumption) ?_; rotate_left; (focus (intro wS hS; (try go_split_ands); go_simp; all_goals (with_reducible rfl))); simp only [List.set_cons_zero, List.set_cons_succ, List.setIfInBounds_toArray]); (refine Hd.takeE (i := 17) (v := ?_) rfl rfl (by kernel_rfl) (by kernel_rfl) (by kernel_rfl) (by kernel_rfl) (fun _ _ _ h => h) (Or.inl ⟨by rfl, ?_⟩) (by assumption) ?_; rotate_left; (focus (intro wS hS; (try go_split_ands); go_simp; all_goals (with_reducible rfl))); simp only [List.set_cons_zero, List.set_cons_succ, List.setIfInBounds_toArray]); (refine Hd.takeE (i := 18) (v := ?_) rfl rfl (by kernel_rfl) (by kernel_rfl) (by kernel_rfl) (by kernel_rfl) (fun _ _ _ h => h) (Or.inl ⟨by rfl, ?_⟩) (by assumption) ?_; rotate_left; (focus (intro wS hS; (try go_split_ands); go_simp; all_goals (with_reducible rfl))); simp only [List.set_cons_zero, List.set_cons_succ, List.setIfInBounds_toArray]); (refine Hd.takeE (i := 19) (v := ?_) rfl rfl (by kernel_rfl) (by kernel_rfl) (by kernel_rfl) (by kernel_rfl) (fun _ _ _ h => h) (Or.inl ⟨by rfl, ?_⟩) (by assumption) ?_; rotate_left; (focus (intro wS hS; (try go_split_ands); go_simp; all_goals (with_reducible rfl))); simp only [List.set_cons_zero, List.set_cons_succ, List.setIfInBounds_toArray]); (refine Hd.takeE (i := 20) (v := ?_) rfl rfl (by kernel_rfl) (by kernel_rfl) (by kernel_rfl) (by kernel_rfl) (fun _ _ _ h => h) (Or.inl ⟨by rfl, ?_⟩) (by assumption) ?_; rotate_left; (focus (intro wS hS; (try go_split_ands); go_simp; all_goals (with_reducible rfl))); simp only [List.set_cons_zero, List.set_cons_succ, List.setIfInBounds_toArray]); (refine Hd.takeE (i := 21) (v := ?_) rfl rfl (by kernel_rfl) (by kernel_rfl) (by kernel_rfl) (by kernel_rfl) (fun _ _ _ h => h) (Or.inl ⟨by rfl, ?_⟩) (by assumption) ?_; rotate_left; (focus (intro wS hS; (try go_split_ands); go_simp; all_goals (with_reducible rfl))); simp only [List.set_cons_zero, List.set_cons_succ, List.setIfInBounds_toArray]); (refine Hd.takeE (i := 22) (v := ?_) rfl rfl (by kernel_rfl) (by kernel_rfl) (by kernel_rfl) (by kernel_rfl) (fun _ _ _ h => h) (Or.inl ⟨by rfl, ?_⟩) (by assumption) ?_; rotate_left; (focus (intro wS hS; (try go_split_ands); go_simp; all_goals (with_reducible rfl))); simp only [List.set_cons_zero, List.set_cons_succ, List.setIfInBounds_toArray])
            (refine Hd.takeE (i := 23) rfl rfl (by kernel_rfl) (by kernel_rfl) (by kernel_rfl) (by kernel_rfl) (fun _ _ _ h => h) (Hd.yieldsIf_load_any (by rfl) 35 _ rfl _ rfl N _ (fun wS hS => (HSM.out.below hS.1)) HU.out rfl HIS.out) (by assumption) ?_; simp only [List.set_cons_zero, List.set_cons_succ, List.setIfInBounds_toArray])
            (refine Hd.takeE (i := 24) rfl rfl (by kernel_rfl) (by kernel_rfl) (by kernel_rfl) (by kernel_rfl) (fun _ _ _ h => h) (Hd.yieldsIf_load_any (by rfl) 35 _ rfl _ rfl N _ (fun wS hS => (HRB2.out.below hS.1)) HU.out rfl HIS.out) (by assumption) ?_; simp only [List.set_cons_zero, List.set_cons_succ, List.setIfInBounds_toArray])
            (refine Hd.takeE (i := 25) (v := ?_) rfl rfl (by kernel_rfl) (by kernel_rfl) (by kernel_rfl) (by kernel_rfl) (fun _ _ _ h => h) (Or.inl ⟨by rfl, ?_⟩) (by assumption) ?_; rotate_left; (focus (intro wS hS; (try go_split_ands); go_simp; all_goals (with_reducible rfl))); simp only [List.set_cons_zero, List.set_cons_succ, List.setIfInBounds_toArray]); (refine Hd.takeE (i := 26) (v := ?_) rfl rfl (by kernel_rfl) (by kernel_rfl) (by kernel_rfl) (by kernel_rfl) (fun _ _ _ h => h) (Or.inl ⟨by rfl, ?_⟩) (by assumption) ?_; rotate_left; (focus (intro wS hS; (try go_split_ands); go_simp; all_goals (with_reducible rfl))); simp only [List.set_cons_zero, List.set_cons_succ, List.setIfInBounds_toArray]); (refine Hd.takeE (i := 27) (v := ?_) rfl rfl (by kernel_rfl) (by kernel_rfl) (by kernel_rfl) (by kernel_rfl) (fun _ _ _ h => h) (Or.inl ⟨by rfl, ?_⟩) (by assumption) ?_; rotate_left; (focus (intro wS hS; (try go_split_ands); go_simp; all_goals (with_reducible rfl))); simp only [List.set_cons_zero, List.set_cons_succ, List.setIfInBounds_toArray])
            (refine Hd.endE (by kernel_rfl) ?_ _)
            have HB9 := Aside0.mk hHeld.1
            clear hHeld
            go_wp2
            go_ret
            exact ⟨rfl, below_then HB2.out HB2.out.size HB9.out⟩
          · have hqq := hqn hm
            by_cases m1 : d.op = 0
            · by_cases m2 : d.n = b
              · have e2 : decide ((d.k : Int) ≤ 64) = false := by
                  have : ¬ d.ls.length ≤ 64 := fun h => hm ⟨m1, m2, h⟩
                  simp; omega
                rw [m1] at c0
                rw [m2] at c1
                have e1 : (b == b) = true := by simp
                clear hra hqt hqn hfin hok0 hm
                go_wp2
                go_roundg (t + 1)
                case measure => have := HGK.out; omega
                case rel => exact ⟨t, rfl, by omega, by omega, hqq, rfl, ⟨rfl⟩⟩
              · have e1 : (d.n == b) = false := by simpa using m2
                rw [m1] at c0
                clear hra hqt hqn hfin hok0 hm
                go_wp2
                go_roundg (t + 1)
                case measure => have := HGK.out; omega
                case rel => exact ⟨t, rfl, by omega, by omega, hqq, rfl, ⟨rfl⟩⟩
            · have e0 : (d.op == 0) = false := by simpa using m1
              clear hra hqt hqn hfin hok0 hm
              go_wp2
              go_roundg (t + 1)
              case measure => have := HGK.out; omega
              case rel => exact ⟨t, rfl, by omega, by omega, hqq, rfl, ⟨rfl⟩⟩
      --END2
end Go.Proofs.Ytocmljijdecilaa.CaL2
