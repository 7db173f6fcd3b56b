/- The finder's add, walked; condition: the finder stands. -/
import Derived.Test.YtlmcompoalhpnaaSqF
import Derived.Test.YtlmcompoalhpnaaWGuard
namespace Go.Proofs.Ytlmcompoalhpnaa.SqJ
open Go Go.RowKit Go.Maps Go.MapKept Go.WideShapes Go.ChangeShapes Go.Proofs.YtlmcompoalhpnaaW.PrintWords Go.Proofs.Ytlmcompoalhpnaa.K Go.Proofs.Ytlmcompoalhpnaa.Mp Go.Proofs.Ytlmcompoalhpnaa.Eq Go.Proofs.Ytlmcompoalhpnaa.OctS Go.Proofs.Ytlmcompoalhpnaa.OctP Go.Proofs.Ytlmcompoalhpnaa.Oct Go.Proofs.Ytlmcompoalhpnaa.Ap Go.Proofs.Ytlmcompoalhpnaa.SqA Go.Proofs.Ytlmcompoalhpnaa.SqC Go.Proofs.Ytlmcompoalhpnaa.SqM Go.Proofs.Ytlmcompoalhpnaa.SqK Go.Proofs.Ytlmcompoalhpnaa.SqF
set_option linter.unusedVariables false
set_option linter.unusedSimpArgs false
theorem C_range {w : World} {ad : Addr} {k : List Int} (h : (Kd.int .u8).C w (some ad) k.length k) : Hd.RangeA w ad (nums .u8 k) := by
  intro j v hj
  have hjl : j < k.length := by
    have := (List.getElem?_eq_some_iff.1 hj).1
    simpa [nums] using this
  obtain ⟨ad', had, hc⟩ := h.2.2 (by omega)
  injection had with had
  subst had
  obtain ⟨cs, h1, h2, h3⟩ := hc j (k[j]) (List.getElem?_eq_getElem hjl)
  obtain rfl : cs = [.int .u8 k[j]] := h2
  have x1 := h3 0 _ rfl
  have hv : v = .int .u8 k[j] := by
    have := (List.getElem?_eq_some_iff.1 hj).2
    simp [nums] at this
    exact this.symm
  rw [hv, ← x1]
  congr 2
  show j = j * 1 + 0
  omega
theorem addr0 (b j : Nat) : (⟨b, 0, none⟩ : Addr).add j = ⟨b, j, none⟩ := by
  unfold Addr.add
  split
  · rename_i h; subst h; rfl
  · simp
theorem one_C {w : World} {g : Nat} {x : Int} {t : TypeId} {fr : Nat × Nat} (h : w.heap[g]? = some (.cells #[.int .i64 x] t fr)) : (Kd.int .i64).C w (some ⟨g, 0, none⟩) 1 [x] := by
  refine Kd.C_of_reads (d := 0) ⟨rfl, by simp [maxLen], fun _ => ⟨⟨g, 0, none⟩, rfl, fun j hj => ?_⟩⟩
  obtain rfl : j = 0 := by simpa using hj
  have : w.cell? ⟨g, 0, none⟩ = some (.int .i64 x) := by
    unfold World.cell?
    simp only [h]
    simp
  simpa [Addr.add] using this
theorem put_ex (f : Value → Option Value) (key val : Value) : ∃ f', Mp.Put f key val f' := by
  classical
  exact ⟨fun v => if v = key then some val else f v, by simp, fun v h => by simp [h]⟩
theorem seen_nil_k {p : List Int} {i : Nat} {k : List Int} (h4 : i + 4 ≤ p.length) (hk : keyAt p i = k) : SqM.seen p (i + 1) k = SqM.seen p i k ++ [i] := by rw [seen_succ, if_pos ⟨h4, hk⟩]
theorem seen_other {p : List Int} {i : Nat} {k k' : List Int} (hk : keyAt p i = k) (hne : k' ≠ k) : SqM.seen p (i + 1) k' = SqM.seen p i k' := by rw [seen_succ, if_neg (fun h => hne (h.2.symm.trans hk)), List.append_nil]
theorem cells_ne_map {w : World} {b m : Nat} {cs : Array Value} {t : TypeId} {fr : Nat × Nat} {F : Value → Option Value} {n : Nat} (h : w.heap[b]? = some (.cells cs t fr)) (hm : MapF Try.prog 59 w m F n) : b ≠ m := by
  rintro rfl
  obtain ⟨es, clock, hb, _⟩ := hm.is
  rw [h] at hb
  cases hb
/-- What add leaves. -/
def AddP (w : World) (B0 : Nat) (T : Nat → Prop) (f m : Nat) (A : Option Addr) (c : Nat) (p : List Int) (i : Nat) (w' : World) : Prop :=
  Chg T w w' ∧ Fi w' B0 (fun k => T k ∨ (w.heap.size ≤ k ∧ k < w'.heap.size)) f m A c p (i + 1)
set_option maxHeartbeats 4000000 in
set_option maxRecDepth 20000 in
theorem add_calls {w : World} {B0 : Nat} {T : Nat → Prop} {f m : Nat} {A : Option Addr} {c : Nat} {p : List Int} {i : Nat} (h : Fi w B0 T f m A c p i) (hB : Bytes p) (hp : p.length ≤ 8192) (hi : i ≤ p.length) (hB0 : B0 ≤ w.heap.size) :
    Calls Try.prog 23 #[.pointer (some ⟨f, 0, none⟩), .int .i64 (i : Int)] w fun e w' => (∃ v, e = .returned v) ∧ AddP w B0 T f m A c p i w' := by
  have H := Aside0.mk h
  have hp0 := fd_cell h.blk
  have hwi : IntKind.i64.wrap ((i : Int) + 4) = (i : Int) + 4 := IntWalk.i64_in _ (by omega)
  by_cases h4 : i + 4 ≤ p.length
  · have d1 : decide ((i : Int) + 4 ≤ (p.length : Int)) = true := by simp only [decide_eq_true_eq]; omega
    have d1' : decide (i + 4 ≤ p.length) = true := decide_eq_true h4
    have hc := h.hc
    obtain ⟨A2, hcut, hCC⟩ := cutLH (Kd.int .u8) 22 5 Try.underlying22 infoU8 A p.length c i (i + 4) (by omega) (by omega) hc
    have HKK := Aside0.mk (key_ok hB h4)
    have hCK := hCC w p h.C
    rw [show i + 4 - i = 4 by omega] at hcut hCK
    rw [show ((i + 4 : Nat) : Int) = (i : Int) + 4 by omega] at hcut
    have hkk : (p.take (i + 4)).drop i = keyAt p i := by unfold keyAt; rw [List.drop_take]; congr 1; omega
    rw [hkk] at hCK
    obtain ⟨ad2, rfl⟩ : ∃ ad, A2 = some ad := by
      obtain ⟨ad, e, _⟩ := hCK.2.2 (by omega)
      exact ⟨ad, e⟩
    have hat : ∀ w, (Instr.arrayAt 59 (.slice (some ad2) 4 (c - i))).run Try.prog w = .ok (.pointer (some ad2)) w := fun w => run_arrayAt w 59 _ 4 _ 4 _ Try.underlying59 (by omega)
    generalize hk : keyAt p i = k at *
    have HK4 := Aside0.mk HKK.out.1
    have HCK := Aside0.mk hCK
    have HRA := Aside0.mk (show Hd.RangeA w ad2 (nums .u8 k) from C_range (by rw [HK4.out]; exact hCK))
    have HUK := Aside0.mk Try.underlying59
    have HIK := Aside0.mk (info4 k HKK.out.1)
    have HIK2 : Aside0 ((Try.prog.info? 59).map (·.size) = some (nums .u8 k).toArray.size) := ⟨by rw [List.size_toArray]; exact HIK.out⟩
    have HON := Aside0.mk (show (nums .u8 k).toArray.all (·.oneCell') = true from all_oneCell_toArray (fun v hv => by obtain ⟨x, _, rfl⟩ := List.mem_map.1 hv; rfl))
    have HKE := Aside0.mk hk
    have HI4 := Aside0.mk h4
    clear hk hCK hCC hkk h4 h
    go_enter Try.func23, Try.ntmps23
    go_wp2_with (first
      | ((with_reducible refine gate_ (.load 59 (.tmp 21)) rfl ?_); refine Hd.wpList_load_any rfl _ (.tmp 21) rfl _ rfl (nums .u8 k) _ HRA.out HUK.out rfl HIK.out ?_)
      | ((with_reducible refine gate_ (.alloc 59) rfl ?_); refine Hd.step_run rfl (Hd.exec_alloc _ rfl _ (zeroKy _)) ?_)
      | ((with_reducible refine gate_ (.store 59 (.tmp 4) (.tmp 22)) rfl ?_); refine Hd.wpList_store_new rfl _ _ _ rfl _ #[.int .u8 0, .int .u8 0, .int .u8 0, .int .u8 0] (nums .u8 k).toArray rfl rfl (by simp [nums, HK4.out]) HIK2.out HON.out ?_))
    (try simp only [Act.put, List.setIfInBounds_toArray, List.set_cons_zero, List.set_cons_succ])
    obtain ⟨W0, hW0⟩ : ∃ X, X = w.alloc (.cells (nums .u8 k).toArray 59) := ⟨_, rfl⟩
    rw [← hW0]
    have hB0' : Below w.heap.size w W0 := by rw [hW0]; exact below_alloc (Below.refl _ _) _
    have hz0 : W0.heap.size = w.heap.size + 1 := by rw [hW0]; simp
    have hT4 : W0.heap[w.heap.size]? = some (.cells (nums .u8 k).toArray 59 (0, 0)) := by rw [hW0]; exact heap_alloc_new w _
    clear hW0 hcut hat hp0 HRA HCK HIK2 HON
    have HB1 := Aside0.mk hB0'
    have HT4 := Aside0.mk hT4
    obtain ⟨F, n, V, hMF, hn, hV⟩ := H.out.map
    obtain ⟨hF, hR, hV0, hVT⟩ := hV k HKK.out
    obtain ⟨lk, hlk⟩ := key_k k HKK.out
    have hFV : (F (kV k)).getD (.slice none 0 0) = V k := by
      rw [hF]
      by_cases e : SqM.seen p i k = []
      · rw [if_pos e, hV0 e]; rfl
      · rw [if_neg e]; rfl
    have HML := Aside0.mk hMF.lt
    have hfl := H.out.f_lt
    have hmf : f ≠ m := cells_ne_map H.out.blk hMF
    have hm1 : W0.drew.cell? ⟨f, 1, none⟩ = some (.map (some m)) := ((below_drew1 hB0').cell (p := ⟨f, 1, none⟩) hfl).trans (fd_map H.out.blk)
    have HMF := Aside0.mk hMF
    have HV := Aside0.mk hV
    have HRk := Aside0.mk hR
    have HVT := Aside0.mk hVT
    have hsl := seen_len p i k
    have HFV := Aside0.mk hFV
    clear hV hMF hR hVT hF hV0 hFV
    (refine Hd.startE (S := (fun X => X.cell? ⟨f, 1, none⟩ = some (.map (some m)) ∧ X.heap[w.heap.size]? = some (.cells (nums .u8 k).toArray 59 (0, 0)))) 11 (by kernel_rfl) (⟨hm1, hT4⟩) (fun hHeld => ?_))
    (refine Hd.takeE (i := 0) (v := ?_) rfl rfl (by kernel_rfl) (by kernel_rfl) (by kernel_rfl) (by kernel_rfl) (by first | exact fun _ _ _ h => h | exact fun _ _ _ h => HQP.out (by decide) h) (Or.inl ⟨by rfl, ?_⟩) (by assumption) ?_; rotate_left; (focus (intro wS hS; (try go_split_ands); go_simp; all_goals (with_reducible rfl))); simp only [List.set_cons_zero, List.set_cons_succ, List.setIfInBounds_toArray]); (refine Hd.takeE (i := 1) (v := ?_) rfl rfl (by kernel_rfl) (by kernel_rfl) (by kernel_rfl) (by kernel_rfl) (by first | exact fun _ _ _ h => h | exact fun _ _ _ h => HQP.out (by decide) h) (Or.inl ⟨by rfl, ?_⟩) (by assumption) ?_; rotate_left; (focus (intro wS hS; (try go_split_ands); go_simp; all_goals (with_reducible rfl))); simp only [List.set_cons_zero, List.set_cons_succ, List.setIfInBounds_toArray]); (refine Hd.takeE (i := 2) (v := ?_) rfl rfl (by kernel_rfl) (by kernel_rfl) (by kernel_rfl) (by kernel_rfl) (by first | exact fun _ _ _ h => h | exact fun _ _ _ h => HQP.out (by decide) h) (Or.inl ⟨by rfl, ?_⟩) (by assumption) ?_; rotate_left; (focus (intro wS hS; (try go_split_ands); go_simp; all_goals (with_reducible rfl))); simp only [List.set_cons_zero, List.set_cons_succ, List.setIfInBounds_toArray]); (refine Hd.takeE (i := 3) (v := ?_) rfl rfl (by kernel_rfl) (by kernel_rfl) (by kernel_rfl) (by kernel_rfl) (by first | exact fun _ _ _ h => h | exact fun _ _ _ h => HQP.out (by decide) h) (Or.inl ⟨by rfl, ?_⟩) (by assumption) ?_; rotate_left; (focus (intro wS hS; (try go_split_ands); go_simp; all_goals (with_reducible rfl))); simp only [List.set_cons_zero, List.set_cons_succ, List.setIfInBounds_toArray])
    (refine Hd.takeE (i := 4) rfl rfl (by kernel_rfl) (by kernel_rfl) (by kernel_rfl) (by kernel_rfl) (by first | exact fun _ _ _ h => h | exact fun _ _ _ h => HQP.out (by decide) h) (Hd.yieldsIf_load_any (by rfl) 59 _ rfl _ rfl (nums .u8 k) _ (fun wS hS => (fun j v hj => by rw [addr0]; exact obj_cell hS.2 j (by rw [List.getElem?_toArray]; exact hj))) HUK.out rfl HIK.out) (by assumption) ?_; simp only [List.set_cons_zero, List.set_cons_succ, List.setIfInBounds_toArray])
    (refine Hd.takeE (i := 5) (v := ?_) rfl rfl (by kernel_rfl) (by kernel_rfl) (by kernel_rfl) (by kernel_rfl) (by first | exact fun _ _ _ h => h | exact fun _ _ _ h => HQP.out (by decide) h) (Or.inl ⟨by rfl, ?_⟩) (by assumption) ?_; rotate_left; (focus (intro wS hS; (try go_split_ands); go_simp; all_goals (with_reducible rfl))); simp only [List.set_cons_zero, List.set_cons_succ, List.setIfInBounds_toArray])
    (refine Hd.readyE (rs := [6]) (by kernel_rfl) (by simp) ?_; refine Hd.AllE.cons (i := 6) rfl (fun K hK => ?_) Hd.AllE.nil; go_simp; refine hK.out _ _ (⟨((below_alloc (below_drew1 hB0') _).cell (p := ⟨f, 1, none⟩) hfl).trans (fd_map H.out.blk), (Below.heap_alloc _ _ _ (by show w.heap.size < W0.heap.size; omega)).trans hT4⟩) (fun hHeld => ?_); clear hK K; (try simp only [Act.put, List.setIfInBounds_toArray, List.set_cons_zero, List.set_cons_succ]))
    obtain ⟨W1, hW1⟩ : ∃ X, X = (W0.alloc (.cells #[.int .i64 (i : Int)] 3)).drew := ⟨_, rfl⟩
    rw [← hW1]
    have HB2 : Aside0 (Below w.heap.size w W1) := ⟨by rw [hW1]; exact below_drew1 (below_alloc HB1.out _)⟩
    have hz1 : W1.heap.size = w.heap.size + 2 := by rw [hW1]; simp [hz0]
    have HL1 : Aside0 (W1.heap[W0.heap.size]? = some (.cells #[.int .i64 (i : Int)] 3 (0, 0))) := ⟨by rw [hW1]; exact heap_alloc_new W0 _⟩
    have HM1 := Aside0.mk (HMF.out.below HB2.out)
    have hS1 : W1.cell? ⟨f, 1, none⟩ = some (.map (some m)) ∧ W1.heap[w.heap.size]? = some (.cells (nums .u8 k).toArray 59 (0, 0)) := by
      refine ⟨(HB2.out.cell (p := ⟨f, 1, none⟩) hfl).trans (fd_map H.out.blk), ?_⟩
      rw [hW1]
      exact (Below.heap_alloc _ _ _ (by show w.heap.size < W0.heap.size; omega)).trans hT4
    clear hW1 hT4 hm1 hB0' hHeld
    (refine Hd.readyE (rs := [7]) (by kernel_rfl) (by simp) ?_; refine Hd.AllE.cons (i := 7) rfl (fun K hK => ?_) Hd.AllE.nil; (refine Hd.step_of_list rfl ?_; refine wpList_entry rfl keyed_k 47 57 Try.underlying47 zeroIs (.tmp 26) (.tmp 27) m rfl (by rfl) HM1.out (by unfold maxLen; omega) (by rfl) hlk ?_; intro st w1 hg1 hs1 hent; refine wpList_nil ?_); refine hK.out _ _ (⟨hg1.cell hS1.1 (fun e => by injection e with e; exact hmf e), (hg1.block _ (by omega) (fun e => by injection e with e; have := HML.out; omega)).trans hS1.2⟩) (fun hHeld => ?_); clear hK K; (try simp only [Act.put, List.setIfInBounds_toArray, List.set_cons_zero, List.set_cons_succ]))
    rw [HFV.out]
    have HG1 := Aside0.mk hg1
    have HENT := Aside0.mk hent
    have hS2 : w1.cell? ⟨f, 1, none⟩ = some (.map (some m)) ∧ w1.heap[w.heap.size]? = some (.cells (nums .u8 k).toArray 59 (0, 0)) := ⟨hg1.cell hS1.1 (fun e => by injection e with e; exact hmf e), (hg1.block _ (by omega) (fun e => by injection e with e; have := HML.out; omega)).trans hS1.2⟩
    have HR1 := Aside0.mk (R_same (w1 := w1) (flat_int _) HRk.out (fun g hg => (hg1.block g (by have := R_lt_size HRk.out g hg; omega) (fun e => by
      injection e with e
      obtain ⟨cells, hcs⟩ := Kd.R_typed HRk.out _ hg
      exact cells_ne_map hcs HMF.out e)).trans (HB2.out.block g (R_lt_size HRk.out g hg))))
    have HO1 : Aside0 ((Kd.int .i64).C w1 (some ⟨w.heap.size + 1, 0, none⟩) 1 [(i : Int)]) := ⟨by rw [← hz0]; exact one_C ((hg1.block W0.heap.size (by omega) (fun e => by injection e with e; have := HML.out; omega)).trans HL1.out)⟩
    clear hent hHeld hg1
    (refine Hd.takeE (i := 8) (v := ?_) rfl rfl (by kernel_rfl) (by kernel_rfl) (by kernel_rfl) (by kernel_rfl) (by first | exact fun _ _ _ h => h | exact fun _ _ _ h => HQP.out (by decide) h) (Or.inl ⟨by rfl, ?_⟩) (by assumption) ?_; rotate_left; (focus (intro wS hS; (try go_split_ands); go_simp; all_goals (with_reducible rfl))); simp only [List.set_cons_zero, List.set_cons_succ, List.setIfInBounds_toArray]); (refine Hd.takeE (i := 10) (v := ?_) rfl rfl (by kernel_rfl) (by kernel_rfl) (by kernel_rfl) (by kernel_rfl) (by first | exact fun _ _ _ h => h | exact fun _ _ _ h => HQP.out (by decide) h) (Or.inl ⟨by rfl, ?_⟩) (by assumption) ?_; rotate_left; (focus (intro wS hS; (try go_split_ands); go_simp; all_goals (with_reducible rfl))); simp only [List.set_cons_zero, List.set_cons_succ, List.setIfInBounds_toArray])
    have hfV : (V k).ownBlock ≠ some f := fun e => by
      obtain ⟨cells, hcs⟩ := Kd.R_typed HRk.out _ e
      rw [H.out.blk] at hcs
      unfold fd at hcs
      injection hcs with hcs
      injection hcs with _ e2 _
      exact absurd e2 (by decide)
    (refine Hd.readyE (rs := [9]) (by kernel_rfl) (by simp) ?_; refine Hd.AllE.cons (i := 9) rfl (fun K hK => ?_) Hd.AllE.nil; (refine Hd.step_of_list rfl ?_; refine app (Kd.int .i64) (flat_int _) 0 (w0 := w1) (W := w1) (.tmp 28) (.tmp 30) 57 3 (.int .i64 0) 8 rfl rfl Try.underlying57 infoInt rfl (by decide) (by decide) (V k) (pl (SqM.seen p i k)) [(i : Int)] (some ⟨w.heap.size + 1, 0, none⟩) 1 1 (by rfl) (by rfl) HR1.out HO1.out (Below.refl 0 w1) (Nat.zero_le _) (by simp [pl]; omega) ?_; intro v9 w9 ho9 hb9 hg9 hat9; refine wpList_nil ?_); refine hK.out _ _ (⟨hg9.cell hS2.1 (fun e => hfV e.symm), (hg9.block _ (by omega) (fun e => by have := R_lt_size HRk.out _ e.symm; omega)).trans hS2.2⟩) (fun hHeld => ?_); clear hK K; (try simp only [Act.put, List.setIfInBounds_toArray, List.set_cons_zero, List.set_cons_succ]))
    obtain ⟨F', hput⟩ := put_ex F (kV k) v9
    have hmV : (V k).ownBlock ≠ some m := fun e => by
      obtain ⟨cells, hcs⟩ := Kd.R_typed HRk.out _ e
      exact cells_ne_map hcs HMF.out rfl
    obtain ⟨w3, hrun3, hm3, hg3, hs3⟩ := HENT.out w9 v9 F' (hg9.block m (by have := HML.out; omega) (fun e => hmV e.symm)) hput
    (refine Hd.readyE (rs := [11]) (by kernel_rfl) (by simp) ?_; refine Hd.AllE.last (i := 11) rfl (fun K hK => ?_); (refine Hd.step_of_list rfl ?_; refine wpList_entryStore rfl 47 (.tmp 26) (.tmp 33) (.tmp 32) (by rfl) (by rfl) (by rfl) (by rfl) hrun3 ?_; refine wpList_nil ?_); refine hK.out _ _ ?_; clear hK K; (try simp only [Act.put, List.setIfInBounds_toArray, List.set_cons_zero, List.set_cons_succ]))
    (refine Hd.endE (by kernel_rfl) ?_ _)
    go_end0
    refine ⟨⟨_, rfl⟩, ?_⟩
    have hz9 := hg9.size
    have hrl : ∀ g, (V k).ownBlock = some g → g < w.heap.size := fun g hg => R_lt_size HRk.out g hg
    have hch : Chg T w w3 := by
      have c1 : Chg T w W1 := Chg.of (row := none) ⟨HB2.out.os, HB2.out.tape, HB2.out.output, HB2.out.size, fun k hk _ => HB2.out.block k hk⟩ (fun r e => by cases e)
      have c2 : Chg T W1 w1 := Chg.of HG1.out (fun r e => by injection e with e; subst e; exact .inl H.out.tm)
      have c3 : Chg T w1 w9 := Chg.of hg9 (fun r e => .inl (HVT.out r e).1)
      have c4 : Chg T w9 w3 := Chg.of hg3 (fun r e => by injection e with e; subst e; exact .inl H.out.tm)
      exact ((c1.trans c2).trans c3).trans c4
    have hT' : ∀ g, v9.ownBlock = some g → (T g ∨ (w.heap.size ≤ g ∧ g < w3.heap.size)) ∧ ((V k).ownBlock = some g ∨ w.heap.size ≤ g) := fun g hg => by
      have hl := R_lt_size ho9 g hg
      rcases hat9 with e | ⟨b, e, hb⟩
      · rw [e] at hg
        exact ⟨.inl (HVT.out g hg).1, .inl hg⟩
      · rw [e] at hg
        injection hg with hg
        subst hg
        exact ⟨.inr ⟨by omega, by omega⟩, .inr (by omega)⟩
    have hsame : ∀ g, g < w.heap.size → g ≠ m → (V k).ownBlock ≠ some g → w3.heap[g]? = w.heap[g]? := fun g hl h1 h2 =>
      (hg3.block g (by omega) (fun e => by injection e with e; exact h1 e)).trans ((hg9.block g (by omega) (fun e => h2 e.symm)).trans ((HG1.out.block g (by omega) (fun e => by injection e with e; exact h1 e)).trans (HB2.out.block g hl)))
    refine ⟨hch, (hsame f hfl hmf hfV).trans H.out.blk, .inl H.out.tf, .inl H.out.tm, fun g hg => ?_, C_same H.out.C (fun a ha => hch.block _ (H.out.al a ha).2 (fun ht => by have := H.out.low _ ht; have := (H.out.al a ha).1; omega)), H.out.hc, fun a ha => ⟨(H.out.al a ha).1, Nat.lt_of_lt_of_le (H.out.al a ha).2 hch.size⟩, F', n + 1, fun q => if q = k then v9 else V q, hm3, by omega, fun q hq => ?_⟩
    · rcases hg with h | h
      · exact H.out.low _ h
      · omega
    · by_cases e : q = k
      · subst e
        have hs := seen_nil_k HI4.out HKE.out
        dsimp only
        rw [if_pos rfl, hs]
        refine ⟨by rw [hput.1, if_neg (by simp)], ?_, fun h => absurd h (by simp), fun g hg => ⟨(hT' g hg).1, fun k' hk' hne => ?_⟩⟩
        · have hpl : pl (SqM.seen p i q ++ [i]) = pl (SqM.seen p i q) ++ [(i : Int)] := by simp [pl]
          rw [hpl]
          refine R_same (flat_int _) ho9 (fun g hg => hg3.block g (R_lt_size ho9 g hg) (fun e => ?_))
          injection e with e
          subst e
          rcases (hT' _ hg).2 with h | h
          · exact hmV h
          · have := HML.out; omega
        · rw [if_neg hne]
          rcases (hT' g hg).2 with h | h
          · exact (HVT.out g h).2 k' hk' hne
          · exact fun h2 => by have := R_lt_size (HV.out k' hk').2.1 g h2; omega
      · obtain ⟨h1, h2, h3, h4⟩ := HV.out q hq
        dsimp only
        rw [if_neg e, seen_other HKE.out e]
        refine ⟨(hput.2 _ (fun hh => e (kV_inj hh))).trans h1, R_same (flat_int _) h2 (fun g hg => hsame g (R_lt_size h2 g hg) (fun hh => ?_) (fun hh => (HVT.out g hh).2 q hq e hg)), h3, fun g hg => ⟨.inl (h4 g hg).1, fun k' hk' hne => ?_⟩⟩
        · subst hh
          obtain ⟨cells, hcs⟩ := Kd.R_typed h2 _ hg
          exact cells_ne_map hcs HMF.out rfl
        · by_cases e2 : k' = k
          · rw [if_pos e2]
            intro hv
            rcases (hT' g hv).2 with h | h
            · exact (HVT.out g h).2 q hq e hg
            · have := R_lt_size h2 g hg; omega
          · rw [if_neg e2]
            exact (h4 g hg).2 k' hk' hne
  · have d1 : decide ((i : Int) + 4 ≤ (p.length : Int)) = false := by simp only [decide_eq_false_iff_not]; omega
    have d1' : decide (i + 4 ≤ p.length) = false := decide_eq_false h4
    have HI4 := Aside0.mk h4
    clear h h4
    go_enter Try.func23, Try.ntmps23
    go_wp2
    go_end0
    refine ⟨⟨_, rfl⟩, Chg.of (World.grownBy.refl _ none) (fun r e => by cases e), H.out.blk, .inl H.out.tf, .inl H.out.tm, fun g hg => ?_, H.out.C, H.out.hc, H.out.al, ?_⟩
    · rcases hg with h | h
      · exact H.out.low _ h
      · omega
    · obtain ⟨F, n, V, hm, hn, hV⟩ := H.out.map
      refine ⟨F, n, V, hm, by omega, fun q hq => ?_⟩
      have e : SqM.seen p (i + 1) q = SqM.seen p i q := by rw [seen_succ, if_neg (fun h => HI4.out h.1), List.append_nil]
      rw [e]
      obtain ⟨h1, h2, h3, h4⟩ := hV q hq
      exact ⟨h1, h2, h3, fun g hg => ⟨.inl (h4 g hg).1, (h4 g hg).2⟩⟩
end Go.Proofs.Ytlmcompoalhpnaa.SqJ
