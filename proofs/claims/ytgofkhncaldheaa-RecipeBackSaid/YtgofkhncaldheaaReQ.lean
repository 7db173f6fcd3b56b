/- What the reference's Find and Cut compute, and whether pieces are the same; condition: the refs are right. -/
import Derived.Test.YtgofkhncaldheaaReA
namespace Go.Proofs.Ytgofkhncaldheaa.ReQ
open Go Go.RowKit Go.Proofs.YtgofkhncaldheaaW.PrintWords Go.Proofs.Ytgofkhncaldheaa.K Go.Proofs.Ytgofkhncaldheaa.OctS Go.Proofs.Ytgofkhncaldheaa.OctP Go.Proofs.Ytgofkhncaldheaa.Oct Go.Proofs.Ytgofkhncaldheaa.ReS Go.Proofs.Ytgofkhncaldheaa.ReR Go.Proofs.Ytgofkhncaldheaa.ReT Go.Proofs.Ytgofkhncaldheaa.ReN Go.Proofs.Ytgofkhncaldheaa.ReP Go.Proofs.Ytgofkhncaldheaa.ReC Go.Proofs.Ytgofkhncaldheaa.ReK Go.Proofs.Ytgofkhncaldheaa.ReW Go.Proofs.Ytgofkhncaldheaa.ReF Go.Proofs.Ytgofkhncaldheaa.RePi Go.Proofs.Ytgofkhncaldheaa.ReA
set_option linter.unusedVariables false
set_option linter.unusedSimpArgs false
theorem rfind_neg (A : Option Addr) (k c : Nat) (w : World) (o : Int) (ho : o < 0) : Calls Try.prog 13 #[.slice A k c, .int .i64 o] w fun e w' => e = .returned (.tuple #[.int .i64 0, .int .i64 0, .bool false]) ∧ w = w' := by
  have h1 : decide (o < 0) = true := by simpa using ho
  go_enter Try.func13, Try.ntmps13
  go_wp2
  go_ret3
  exact ⟨rfl, rfl⟩
def FindR (rs : List Ref) (o : Nat) (w : World) (e : Ending) (w' : World) : Prop :=
  ((∃ i : Nat, i < rs.length ∧ ((lens rs).take i).sum ≤ o ∧ o < ((lens rs).take (i + 1)).sum ∧ e = .returned (.tuple #[.int .i64 i, .int .i64 (o - ((lens rs).take i).sum : Nat), .bool true])) ∨
    ((lens rs).sum ≤ o ∧ e = .returned (.tuple #[.int .i64 0, .int .i64 0, .bool false]))) ∧ w = w'
set_option maxHeartbeats 2000000 in
theorem rfind_calls (A : Option Addr) (k c : Nat) (rs : List Ref) (w : World) (h : RefsC w A k rs) (hk : k ≤ 256) (ho : AllOk rs) (o : Nat) (hob : o ≤ 9223372036854775807) : Calls Try.prog 13 #[.slice A k c, .int .i64 (o : Int)] w (FindR rs o w) := by
  have h0 : decide ((o : Int) < 0) = false := by simp
  have H := Aside0.mk h
  have HO := Aside0.mk ho
  have HL := Aside0.mk h.len
  clear h ho
  go_enter Try.func13, Try.ntmps13
  go_wp2
  go_loopg [1, 7] (k + 1) (fun gk v1 v7 wr => ∃ i r : Nat, v1 = .int .i64 r ∧ v7 = .int .i64 i ∧ i ≤ k ∧ r ≤ o ∧ Aside0 (gk = k - i + 1) ∧ Aside0 (((lens rs).take i).sum + r = o) ∧ w = wr)
  case atStart => exact ⟨0, o, rfl, rfl, Nat.zero_le _, Nat.le_refl _, ⟨rfl⟩, ⟨by simp⟩, rfl⟩
  case round =>
    obtain ⟨i, r, rfl, rfl, hi, hr, HG, HT, rfl⟩ := hrel
    by_cases hlt : i < k
    · have h1 : decide ((i : Int) < (k : Int)) = true := by simp; omega
      obtain ⟨ad, hA⟩ := H.out.is (by omega)
      subst hA
      have hp1 : (0 : Int) ≤ (i : Int) := by omega
      have hp2 : (i : Int) < (k : Int) := by omega
      have hk1 := getD_ok rs HO.out i (by rw [HL.out]; exact hlt)
      have HS := Aside0.mk (lens_take rs i (by rw [HL.out]; exact hlt))
      have hc := H.out.cells ad rfl i hlt 32 (.int .i64 (rs.getD i default).len) (by have := Ref.cell_len (H.out.ok i hlt); rwa [List.getElem?_toArray] at this)
      have hc : w.cell? ⟨(ad.add (i * 35)).block, (ad.add (i * 35)).off + 32, none⟩ = some (.int .i64 (rs.getD i default).len) := hc
      have hl : (rs.getD i default).len = ((rs.getD i default).len.toNat : Int) := by unfold okRef at hk1; omega
      rw [hl] at hc
      have hl2 : (rs.getD i default).len.toNat ≤ 512 := by unfold okRef at hk1; omega
      generalize (rs.getD i default).len.toNat = x at *
      clear hl hk1
      by_cases hq : r < x
      · have h2 : decide (r < x) = true := by simpa using hq
        go_wp2
        go_ret3
        exact ⟨.inl ⟨i, by rw [HL.out]; exact hlt, by have := HT.out; omega, by rw [HS.out]; have := HT.out; omega, by have := HT.out; rw [show o - ((lens rs).take i).sum = r from by omega]; rfl⟩, rfl⟩
      · have h2 : decide (r < x) = false := by simpa using hq
        go_wp2
        go_roundg (k - (i + 1) + 1)
        case measure => have := HG.out; omega
        case rel => exact ⟨i + 1, r - x, by go_num, by go_num, by omega, by omega, ⟨rfl⟩, ⟨by rw [HS.out]; have := HT.out; omega⟩, rfl⟩
    · obtain rfl : i = k := by omega
      have h1 : decide ((i : Int) < (i : Int)) = false := by simp
      go_wp2
      go_ret3
      have hh : (lens rs).sum ≤ o := by
        have h := HT.out
        rw [List.take_of_length_le (by simp [lens, HL.out])] at h
        omega
      exact ⟨.inr ⟨hh, rfl⟩, rfl⟩
/-- The pieces from the i-th chunk on, by the bytes ahead of it. -/
theorem cut_step (ls : List Nat) (l i f m S : Nat) : ReS.cutL (l :: ls) i (f - S) (m - (S - f)) = (if min (m - (S - f)) (l - (f - S)) = 0 then [] else [(i, f - S, min (m - (S - f)) (l - (f - S)))]) ++ ReS.cutL ls (i + 1) (f - (S + l)) (m - (S + l - f)) := by
  show (if m - (S - f) = 0 then [] else if l ≤ f - S then ReS.cutL ls (i + 1) (f - S - l) (m - (S - f)) else (i, f - S, min (m - (S - f)) (l - (f - S))) :: ReS.cutL ls (i + 1) 0 (m - (S - f) - min (m - (S - f)) (l - (f - S)))) = _
  by_cases h1 : m - (S - f) = 0
  · rw [if_pos h1, if_pos (by omega), show m - (S + l - f) = 0 from by omega, ReS.cutL_none]; rfl
  · rw [if_neg h1]
    by_cases h2 : l ≤ f - S
    · rw [if_pos h2, if_pos (by omega), List.nil_append, show f - S - l = f - (S + l) from by omega]
      by_cases h3 : S ≤ f
      · rw [show m - (S - f) = m - (S + l - f) from by omega]
      · rw [show m - (S - f) = m - (S + l - f) from by omega]
    · rw [if_neg h2, if_neg (by omega), show f - (S + l) = 0 from by omega, show m - (S - f) - min (m - (S - f)) (l - (f - S)) = m - (S + l - f) from by omega]; rfl
theorem rcut_bad1 (A : Option Addr) (k c : Nat) (w : World) (f m : Int) (hf : f < 0) : Calls Try.prog 15 #[.slice A k c, .int .i64 f, .int .i64 m] w fun e w' => e = .returned (.tuple #[.slice none 0 0, .int .i64 2]) ∧ w = w' := by
  have h1 : decide (f < 0) = true := by simpa using hf
  go_enter Try.func15, Try.ntmps15
  go_wp2
  go_ret2
  exact ⟨rfl, rfl⟩
theorem rcut_bad2 (A : Option Addr) (k c : Nat) (w : World) (f m : Int) (hf : ¬ f < 0) (hm : m < 0) : Calls Try.prog 15 #[.slice A k c, .int .i64 f, .int .i64 m] w fun e w' => e = .returned (.tuple #[.slice none 0 0, .int .i64 2]) ∧ w = w' := by
  have h1 : decide (f < 0) = false := by simpa using hf
  have h2 : decide (m < 0) = true := by simpa using hm
  go_enter Try.func15, Try.ntmps15
  go_wp2
  go_ret2
  exact ⟨rfl, rfl⟩
theorem rcut_bad3 (A : Option Addr) (k c : Nat) (rs : List Ref) (w : World) (h : RefsC w A k rs) (hk : k ≤ 256) (ho : AllOk rs) (f m : Nat) (hf : (lens rs).sum < f) : Calls Try.prog 15 #[.slice A k c, .int .i64 (f : Int), .int .i64 (m : Int)] w fun e w' => e = .returned (.tuple #[.slice none 0 0, .int .i64 2]) ∧ w = w' := by
  have h1 : decide ((f : Int) < 0) = false := by simp
  have h2 : decide ((m : Int) < 0) = false := by simp
  have h3 : decide ((lens rs).sum < f) = true := by simpa using hf
  have HS := Aside0.mk (rsize_calls A k c rs w h hk ho)
  clear h ho hf
  generalize (lens rs).sum = s at *
  go_enter Try.func15, Try.ntmps15
  go_wp2_with (go_at_call 21; (with_reducible refine (HS.out).mono ?_); rintro e w' ⟨rfl, rfl⟩)
  go_ret2
  exact ⟨rfl, rfl⟩
/-- The piece of a chunk, as far as its first k bytes are gone through. -/
def pN (n o k : Nat) : Nat := min n (k - o)
def pF (n o k : Nat) : Nat := if pN n o k = 0 then 0 else o
set_option maxRecDepth 100000 in
set_option maxHeartbeats 8000000 in
theorem rcut_calls (A : Option Addr) (k c : Nat) (rs : List Ref) (w : World) (h : RefsC w A k rs) (hk : k ≤ 256) (ho : AllOk rs) (f m : Nat) (hf : f ≤ (lens rs).sum) (hm : m ≤ 9223372036854775807) : Calls Try.prog 15 #[.slice A k c, .int .i64 (f : Int), .int .i64 (m : Int)] w fun e w' =>
    ∃ v, e = .returned (.tuple #[v, .int .i64 0]) ∧ Kd.R dPc 45 w' w.heap.size (fun _ => True) (v) (ReS.cutL (lens rs) 0 f m) ∧ Below w.heap.size w w' := by
  have h1 : decide ((f : Int) < 0) = false := by simp
  have h2 : decide ((m : Int) < 0) = false := by simp
  have h3 : decide ((lens rs).sum < f) = false := by simp; omega
  have HS := Aside0.mk (rsize_calls A k c rs w h hk ho)
  have H := Aside0.mk h
  have HO := Aside0.mk ho
  have HL := Aside0.mk h.len
  have HLE := Aside0.mk (lens_le rs ho)
  have hfb : f ≤ 131072 := by
    have := lens_le rs ho k
    rw [List.take_of_length_le (by simp [lens, h.len])] at this
    omega
  clear h ho hf
  generalize hsl : (lens rs).sum = s at *
  clear hsl
  go_enter Try.func15, Try.ntmps15
  go_wp2_with (go_at_call 21; (with_reducible refine (HS.out).mono ?_); rintro e w' ⟨rfl, rfl⟩)
  go_loopg [8, 9, 10] (k + 1) (fun gk v8 v9 v10 wr => ∃ i S : Nat, ∃ acc : List Pc, v9 = .int .i64 S ∧ v10 = .int .i64 i ∧ i ≤ k ∧ S ≤ 512 * i ∧ acc.length ≤ i ∧ Aside0 (gk = k - i + 1) ∧ Aside0 (S = ((lens rs).take i).sum) ∧ Aside0 (acc ++ ReS.cutL ((lens rs).drop i) i (f - S) (m - (S - f)) = ReS.cutL (lens rs) 0 f m) ∧ Aside0 (Kd.R dPc 45 wr w.heap.size (fun _ => True) (v8) (acc)) ∧ Aside0 (Below w.heap.size w wr))
  case atStart => exact ⟨0, 0, [], rfl, rfl, Nat.zero_le _, by omega, Nat.zero_le _, ⟨rfl⟩, ⟨by simp⟩, ⟨by simp⟩, ⟨Kd.R_made_nil dPc w 45⟩, ⟨below_alloc (Below.refl _ _) _⟩⟩
  case round =>
    obtain ⟨i, S, acc, rfl, rfl, hi, hSb, hal, HG, HT, HP, HOr, HBr⟩ := hrel
    obtain ⟨wo, rfl⟩ : ∃ wo : World, wo = wr := ⟨_, rfl⟩
    by_cases hlt : i < k
    · have h1 : decide ((i : Int) < (k : Int)) = true := by simp; omega
      obtain ⟨ad, hA⟩ := H.out.is (by omega)
      subst hA
      have hp1 : (0 : Int) ≤ (i : Int) := by omega
      have hp2 : (i : Int) < (k : Int) := by omega
      have hlr : i < rs.length := by rw [HL.out]; exact hlt
      have hok := H.out.ok i hlt
      have hk1 := getD_ok rs HO.out i hlr
      have HST := Aside0.mk (lens_take rs i hlr)
      have HDR : Aside0 ((lens rs).drop i = (rs.getD i default).len.toNat :: (lens rs).drop (i + 1)) := ⟨by
        have hl : i < (lens rs).length := by simpa [lens] using hlr
        rw [List.drop_eq_getElem_cons hl]
        simp [lens, hlr]⟩
      have hcl : ∀ W : World, Below w.heap.size w W → W.cell? ⟨(ad.add (i * 35)).block, (ad.add (i * 35)).off + 32, none⟩ = some (.int .i64 ((rs.getD i default).len.toNat : Int)) := fun W hW => by
        have h1 := (H.out.below hW).cells ad rfl i hlt 32 (.int .i64 (rs.getD i default).len) (by have := Ref.cell_len hok; rwa [List.getElem?_toArray] at this)
        have h2 : (rs.getD i default).len = ((rs.getD i default).len.toNat : Int) := by unfold okRef at hk1; omega
        rw [h2] at h1
        simpa [Addr.add] using h1
      have HCL := Aside0.mk hcl
      have hl2 : (rs.getD i default).len.toNat ≤ 512 := by unfold okRef at hk1; omega
      clear hcl hok hk1
      generalize (rs.getD i default).len.toNat = x at *
      have HCS := Aside0.mk (cut_step ((lens rs).drop (i + 1)) x i f m S)
      generalize ho' : f - S = o at *
      generalize hn' : m - (S - f) = n at *
      have hnm : n ≤ m := by omega
      have HO' := Aside0.mk ho'
      have HN' := Aside0.mk hn'
      clear ho' hn'
      have HNB := Aside0.mk (Kd.R_ne_new HOr.out 0)
      have HB0 := Aside0.mk (heap_alloc_new wo (.cells #[.int .i64 (i : Int), .int .i64 0, .int .i64 0] 45))
      have HO0 := Aside0.mk (Kd.R_alloc HOr.out (.cells #[.int .i64 (i : Int), .int .i64 0, .int .i64 0] 45))
      have HBB0 := Aside0.mk (below_alloc HBr.out (.cells #[.int .i64 (i : Int), .int .i64 0, .int .i64 0] 45))
      have HSB := Aside0.mk HBr.out.size
      have hSb2 : S ≤ 131072 := by omega
      go_wp2
      go_loopg [9, 12] (x + 1) (fun gk2 v9 v12 wq => ∃ j a N F : Nat, v9 = .int .i64 a ∧ v12 = .int .i64 j ∧ j ≤ x ∧ a ≤ S + j ∧ N ≤ 512 ∧ Aside0 (gk2 = x - j + 1) ∧ Aside0 (a = S + j) ∧ Aside0 (N = pN n o j) ∧ Aside0 (F = pF n o j) ∧ Aside0 (wq.heap[wo.heap.size]? = some (.cells #[.int .i64 (i : Int), .int .i64 (F : Int), .int .i64 (N : Int)] 45 (0, 0))) ∧ Aside0 (Kd.R dPc 45 wq w.heap.size (fun _ => True) (u8) (acc)) ∧ Aside0 (Below w.heap.size w wq))
      case atStart => exact ⟨0, S, 0, 0, rfl, rfl, Nat.zero_le _, Nat.le_refl _, by omega, ⟨rfl⟩, ⟨rfl⟩, ⟨by simp [pN]⟩, ⟨by simp [pF, pN]⟩, HB0, HO0, HBB0⟩
      case round =>
        obtain ⟨j, a, N, F, rfl, rfl, hj, ha, hN5, HG2, HA, HN, HF, HBq, HOq, HBBq⟩ := hrel
        have hcl := HCL.out _ HBBq.out
        have hb1 := obj_cell (v := .int .i64 (F : Int)) HBq.out 1 rfl
        have hb2 := obj_cell (v := .int .i64 (N : Int)) HBq.out 2 rfl
        have hf1 := obj_free HBq.out 1
        have hf2 := obj_free HBq.out 2
        by_cases hjx : j < x
        · have h4 : decide (j < x) = true := by simpa using hjx
          have HSTAY : Aside0 (¬ (o ≤ j ∧ j - o < n) → N = pN n o (j + 1) ∧ F = pF n o (j + 1)) := ⟨fun h => by
            have e : pN n o (j + 1) = pN n o j := by unfold pN; omega
            exact ⟨HN.out.trans e.symm, HF.out.trans (by unfold pF; rw [e])⟩⟩
          by_cases hq1 : f ≤ a
          · have h5 : decide (f ≤ a) = true := by simpa using hq1
            by_cases hq2 : a - f < m
            · have h6 : decide ((a : Int) - (f : Int) < (m : Int)) = true := by simp; omega
              have HIN : Aside0 (o ≤ j ∧ j - o < n) := ⟨by have := HA.out; have := HO'.out; have := HN'.out; omega⟩
              have HNN : Aside0 (N + 1 = pN n o (j + 1)) := ⟨by have := HIN.out; have := HN.out; unfold pN at *; omega⟩
              have HN5 : Aside0 (N + 1 ≤ 512) := ⟨by have := HNN.out; unfold pN at this; omega⟩
              by_cases hN0 : N = 0
              · subst hN0
                have h7 : (((0 : Nat) : Int) == 0) = true := rfl
                have hg3 := obj_grown wr wo.heap.size 1 (.int .i64 (j : Int))
                have hb3 := obj_set HBq.out 1 (.int .i64 (j : Int))
                have hg4 := obj_grown (wr.setCell ⟨wo.heap.size, 1, none⟩ (.int .i64 (j : Int))) wo.heap.size 2 (.int .i64 1)
                have HB4 := Aside0.mk (obj_set hb3 2 (.int .i64 1))
                have hne : ∀ k', some wo.heap.size = some k' → some k' ≠ u8.ownBlock := fun k' e => by rw [← e]; exact HNB.out
                have HO4 := Aside0.mk (Kd.R_grown2 (Kd.R_grown2 HOq.out rfl hg3 hne) rfl hg4 hne)
                have HBB4 := Aside0.mk (Below.setCell (Below.setCell HBBq.out (p := ⟨wo.heap.size, 1, none⟩) HSB.out (.int .i64 (j : Int))) (p := ⟨wo.heap.size, 2, none⟩) HSB.out (.int .i64 1))
                have HEQ : Aside0 (j = o) := ⟨by have := HIN.out; have := HN.out; unfold pN at this; omega⟩
                clear hg3 hb3 hg4 hne
                go_wp2
                go_roundg (x - (j + 1) + 1)
                case measure => have := HG2.out; omega
                case rel => exact ⟨j + 1, a + 1, 1, j, by go_num, by go_num, by omega, by omega, by omega, ⟨rfl⟩, ⟨by have := HA.out; omega⟩, HNN, ⟨by have h1 := HNN.out; unfold pF; rw [← h1, if_neg (by omega)]; exact HEQ.out⟩, HB4, HO4, HBB4⟩
              · have h7 : ((N : Int) == 0) = false := by simp; omega
                have hg4 := obj_grown wr wo.heap.size 2 (.int .i64 ((N : Int) + 1))
                have HB4 := Aside0.mk (obj_set HBq.out 2 (.int .i64 ((N : Int) + 1)))
                have hne : ∀ k', some wo.heap.size = some k' → some k' ≠ u8.ownBlock := fun k' e => by rw [← e]; exact HNB.out
                have HO4 := Aside0.mk (Kd.R_grown2 HOq.out rfl hg4 hne)
                have HBB4 := Aside0.mk (Below.setCell HBBq.out (p := ⟨wo.heap.size, 2, none⟩) HSB.out (.int .i64 ((N : Int) + 1)))
                have HFF : Aside0 (F = pF n o (j + 1)) := ⟨by have h1 := HNN.out; rw [HF.out]; unfold pF; rw [← h1, ← HN.out, if_neg (by omega), if_neg (by omega)]⟩
                clear hg4 hne
                go_wp2
                go_roundg (x - (j + 1) + 1)
                case measure => have := HG2.out; omega
                case rel => exact ⟨j + 1, a + 1, N + 1, F, by go_num, by go_num, by omega, by omega, HN5.out, ⟨rfl⟩, ⟨by have := HA.out; omega⟩, HNN, HFF, HB4, HO4, HBB4⟩
            · have h6 : decide ((a : Int) - (f : Int) < (m : Int)) = false := by simp; omega
              have HST2 := Aside0.mk (HSTAY.out (by have := HA.out; have := HO'.out; have := HN'.out; omega))
              go_wp2
              go_roundg (x - (j + 1) + 1)
              case measure => have := HG2.out; omega
              case rel => exact ⟨j + 1, a + 1, N, F, by go_num, by go_num, by omega, by omega, hN5, ⟨rfl⟩, ⟨by have := HA.out; omega⟩, ⟨HST2.out.1⟩, ⟨HST2.out.2⟩, HBq, HOq, HBBq⟩
          · have h5 : decide (f ≤ a) = false := by simpa using hq1
            have HST2 := Aside0.mk (HSTAY.out (by have := HA.out; have := HO'.out; omega))
            go_wp2
            go_roundg (x - (j + 1) + 1)
            case measure => have := HG2.out; omega
            case rel => exact ⟨j + 1, a + 1, N, F, by go_num, by go_num, by omega, by omega, hN5, ⟨rfl⟩, ⟨by have := HA.out; omega⟩, ⟨HST2.out.1⟩, ⟨HST2.out.2⟩, HBq, HOq, HBBq⟩
        · obtain rfl : j = x := by omega
          have h4 : decide (j < j) = false := by simp
          have hb0 := obj_cell (v := .int .i64 (i : Int)) HBq.out 0 rfl
          by_cases hN0 : N = 0
          · subst hN0
            have h7 : decide ((0 : Int) < ((0 : Nat) : Int)) = false := by simp
            go_wp2
            go_roundg (k - (i + 1) + 1)
            case measure => have := HG.out; omega
            case rel => exact ⟨i + 1, a, acc, by rfl, by go_num, by omega, by omega, by omega, ⟨rfl⟩, ⟨by rw [HST.out]; have := HA.out; have := HT.out; omega⟩, ⟨by
              have h1 := HCS.out
              have h2 := HP.out
              have h3 : min n (j - o) = 0 := HN.out.symm
              rw [HDR.out, h1, if_pos h3, List.nil_append] at h2
              rw [HA.out]
              exact h2⟩, HOq, HBBq⟩
          · have h7 : decide ((0 : Int) < (N : Int)) = true := by simp; omega
            have hFo : F = o := by have h1 := HF.out; have h2 := HN.out; unfold pF at h1; rw [← h2, if_neg hN0] at h1; exact h1
            subst hFo
            have hbl : w.heap.size ≤ wr.heap.size := HBBq.out.size
            go_wp2_with ((with_reducible refine gate_builtin (b := .append) (xs := #[.tmp 67, .tmp 69]) rfl ?_); at_builtin; refine app1 dPc flat_pc w.heap.size (w0 := w) (.tmp 67) (.tmp 69) 32 45 (.agg #[.int .i64 0, .int .i64 0, .int .i64 0]) 24 rfl rfl Try.underlying32 infoPc rfl (by decide) (by decide) _ acc (i, F, N) (Pc.cells (i, F, N)) rfl rfl ?aP ?aO ?aB ?aS ?aL ?_; (case aP => first | exact rfl | exact ⟨trivial, rfl⟩); (case aO => exact HOq.out); (case aB => exact (by repeat (first | (with_reducible first | exact HBBq.out | apply below_alloc | apply pw_below_drewN | apply below_drew1) | exact HBBq.out))); (case aS => exact (below_size (by repeat (first | (with_reducible first | exact HBBq.out | apply below_alloc | apply pw_below_drewN | apply below_drew1) | exact HBBq.out)))); (case aL => exact (by omega)); intro v1 w1 ho1 hb1 hg1 hat1; have HO1 := Aside0.mk ho1; have HB1 := Aside0.mk hb1; clear ho1 hb1 hg1 hat1)
            go_roundg (k - (i + 1) + 1)
            case measure => have := HG.out; omega
            case rel => exact ⟨i + 1, a, acc ++ [(i, F, N)], by rfl, by go_num, by omega, by omega, by simp; omega, ⟨rfl⟩, ⟨by rw [HST.out]; have := HA.out; have := HT.out; omega⟩, ⟨by
              have h1 := HCS.out
              have h2 := HP.out
              have h3 : min n (j - F) = N := HN.out.symm
              rw [HDR.out, h1, if_neg (by omega), h3, ← List.append_assoc] at h2
              rw [HA.out]
              exact h2⟩, HO1, HB1⟩
    · obtain rfl : i = k := by omega
      have h1 : decide ((i : Int) < (i : Int)) = false := by simp
      go_wp2
      go_ret2
      exact ⟨_, rfl, by rw [← HP.out, List.drop_of_length_le (by simp [lens, HL.out])]; simpa [ReS.cutL] using HOr.out, HBr.out⟩
end Go.Proofs.Ytgofkhncaldheaa.ReQ
