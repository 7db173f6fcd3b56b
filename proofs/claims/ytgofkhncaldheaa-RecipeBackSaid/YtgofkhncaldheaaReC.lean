/- What both packages' Check computes: which refs make a recipe. -/
import Derived.Test.YtgofkhncaldheaaReP
namespace Go.Proofs.Ytgofkhncaldheaa.ReC
open Go Go.RowKit Go.Proofs.YtgofkhncaldheaaW.PrintWords Go.Proofs.Ytgofkhncaldheaa.K Go.Proofs.Ytgofkhncaldheaa.OctS Go.Proofs.Ytgofkhncaldheaa.OctP Go.Proofs.Ytgofkhncaldheaa.Oct Go.Proofs.Ytgofkhncaldheaa.ReS Go.Proofs.Ytgofkhncaldheaa.ReR Go.Proofs.Ytgofkhncaldheaa.ReT Go.Proofs.Ytgofkhncaldheaa.ReN Go.Proofs.Ytgofkhncaldheaa.ReP
set_option linter.unusedVariables false
set_option linter.unusedSimpArgs false
instance (rs : List Ref) : Decidable (AllOk rs) := by unfold AllOk; infer_instance
def checkE (rs : List Ref) : Int := if 256 < rs.length then 6 else if AllOk rs then 0 else 2
theorem allOk_take (rs : List Ref) (i : Nat) (h : i < rs.length) (h1 : AllOk (rs.take i)) (h2 : okRef (rs.getD i default)) : AllOk (rs.take (i + 1)) := by
  intro r hr
  rw [List.take_add_one, List.mem_append] at hr
  rcases hr with hr | hr
  · exact h1 r hr
  · simp [h] at hr
    rw [show rs.getD i default = rs[i] from by simp [h]] at h2
    rw [hr]; exact h2
theorem refs_cut (A : Option Addr) (n c lo hi : Nat) (h1 : lo ≤ hi) (h4 : hi ≤ n) (hnc : n ≤ c) :
    ∃ A' : Option Addr, (∀ W : World, (Instr.slice 22 (.slice A n c) (some (.int .i64 (lo : Int))) (some (.int .i64 (hi : Int))) none).run Try.prog W = .ok (.slice A' (hi - lo) (c - lo)) W) ∧
      ∀ (w : World) (rs : List Ref), RefsC w A n rs → RefsC w A' (hi - lo) ((rs.take hi).drop lo) := by
  obtain ⟨i0, hi0, hsz⟩ := Option.map_eq_some_iff.1 infoRef0
  have ht := Try.underlying22
  refine ⟨if c = lo then A else A.map (·.add (lo * 35)), fun W => ?_, fun w rs h => ?_⟩
  · have hel : Try.prog.elem 22 = 56 := by simp [Program.elem, ht]
    have hu : Try.prog.underlying 22 = some (.slice (Try.prog.elem 22)) := by rw [hel]; exact ht
    rw [run_slice_lh W 22 A n c hu .i64 .i64 lo hi (by omega) (by omega) (by omega), hel]
    simp [sizeOf, typeInfo, hi0, hsz, sliced, Result.andThen]
  · have hl := h.len
    refine ⟨by rw [List.length_drop, List.length_take]; omega, by have := h.lim; omega, fun r hr => h.each r (List.mem_of_mem_take (List.mem_of_mem_drop hr)), fun h0 => ?_, fun ad ha i hi' => ?_⟩
    · obtain ⟨ad, had⟩ := h.is (by omega)
      rw [if_neg (by omega), had]
      exact ⟨_, rfl⟩
    · rw [if_neg (by omega)] at ha
      obtain ⟨ad0, had, rfl⟩ := Option.map_eq_some_iff.1 ha
      have := h.cells ad0 had (lo + i) (by omega)
      rw [Addr.add_add, ← Nat.add_mul]
      have e : ((rs.take hi).drop lo).getD i default = rs.getD (lo + i) default := by
        rw [List.getD_eq_getElem?_getD, List.getElem?_drop, List.getElem?_take, if_pos (by omega), ← List.getD_eq_getElem?_getD]
      rw [e]
      exact this
set_option maxHeartbeats 1000000 in
theorem check_calls (A : Option Addr) (k c : Nat) (rs : List Ref) (w : World) (h : RefsC w A k rs) (hc : k ≤ c) : Calls Try.prog 19 #[.slice A k c] w fun e w' => e = .returned (.int .i64 (checkE rs)) ∧ Below w.heap.size w w' := by
  have hkm := h.lim
  have HL := Aside0.mk h.len
  by_cases h256 : 256 < k
  · have h1 : decide (256 < (k : Int)) = true := by simp; omega
    have HE : Aside0 (checkE rs = 6) := ⟨by unfold checkE; rw [if_pos (by rw [HL.out]; exact h256)]⟩
    clear h hkm
    go_enter Try.func19, Try.ntmps19
    go_wp2
    go_ret
    exact ⟨by rw [HE.out]; rfl, Below.refl _ _⟩
  · have h1 : decide (256 < (k : Int)) = false := by simp; omega
    have H := Aside0.mk h
    have hk2 : k ≤ 256 := by omega
    have HCC := Aside0.mk hc
    clear h hkm hc h256
    go_enter Try.func19, Try.ntmps19
    go_wp2
    go_loopg [11] (k + 1) (fun gk v11 wr => ∃ i : Nat, v11 = .int .i64 i ∧ i ≤ k ∧ Aside0 (gk = k - i + 1) ∧ Aside0 (AllOk (rs.take i)) ∧ Aside0 (Below w.heap.size w wr))
    case atStart => exact ⟨0, rfl, Nat.zero_le _, ⟨rfl⟩, ⟨fun r hr => by simp at hr⟩, ⟨Below.refl _ _⟩⟩
    case round =>
      obtain ⟨i, rfl, hi, HK, HA, HB⟩ := hrel
      by_cases hlt : i < k
      · have h2 : decide ((i : Int) < (k : Int)) = true := by simp; omega
        obtain ⟨A1, hcut, hcr⟩ := refs_cut A k c i (i + 1) (by omega) (by omega) HCC.out
        have hcut : ∀ W : World, (Instr.slice 22 (.slice A k c) (some (.int .i64 (i : Int))) (some (.int .i64 ((i : Int) + 1))) none).run Try.prog W = .ok (.slice A1 1 (c - i)) W := fun W => by
          have := hcut W
          rwa [show i + 1 - i = 1 from by omega] at this
        have HX : Aside0 ((rs.take (i + 1)).drop i = [rs.getD i default]) := ⟨by
          have : i < rs.length := by rw [HL.out]; exact hlt
          rw [List.take_add_one, List.getElem?_eq_getElem this, List.drop_append, List.drop_of_length_le (by rw [List.length_take]; omega), List.length_take, Nat.min_eq_left (by omega), Nat.sub_self]
          simp [this]⟩
        have HR1 : Aside0 (RefsC wr A1 1 [rs.getD i default]) := ⟨by
          have := hcr wr rs (H.out.below HB.out)
          rwa [HX.out, show i + 1 - i = 1 from by omega] at this⟩
        have HM : Aside0 (rs.getD i default ∈ rs) := by
          have : i < rs.length := by rw [HL.out]; exact hlt
          exact ⟨by simp [this]⟩
        have HTK := Aside0.mk (allOk_take rs i (by rw [HL.out]; exact hlt) HA.out)
        clear hcr HX
        generalize rs.getD i default = r at *
        have HP := Aside0.mk (put_calls A1 1 (c - i) [r] wr HR1.out (by omega))
        by_cases ho : okRef r
        · have HO := Aside0.mk ho
          clear ho
          have HP1 : Aside0 (Calls Try.prog 35 #[.slice A1 1 (c - i)] wr fun e w' => Below wr.heap.size wr w' ∧ ∃ v, e = .returned (.tuple #[v, .int .i64 0])) := ⟨HP.out.mono (fun e w' h => ⟨h.1, h.2.elim (fun h => let ⟨v, hv, _⟩ := h.2; ⟨v, hv⟩) (fun h => absurd (fun x hx => by simp at hx; rw [hx]; exact HO.out) h.1)⟩)⟩
          clear HP
          go_wp2_with (go_at_call 35; (with_reducible refine (HP1.out).mono ?_); rintro e w' ⟨hb1, v1, rfl⟩; have HB1 := Aside0.mk (below_then HB.out HB.out.size hb1); clear hb1)
          go_roundg (k - (i + 1) + 1)
          case measure => have := HK.out; omega
          case rel => exact ⟨i + 1, by go_num, by omega, ⟨rfl⟩, ⟨HTK.out HO.out⟩, HB1⟩
        · have HO := Aside0.mk ho
          clear ho
          have HP1 : Aside0 (Calls Try.prog 35 #[.slice A1 1 (c - i)] wr fun e w' => Below wr.heap.size wr w' ∧ e = .returned (.tuple #[.slice none 0 0, .int .i64 2])) := ⟨HP.out.mono (fun e w' h => ⟨h.1, h.2.elim (fun h => absurd (h.1 r (by simp)) HO.out) (fun h => h.2)⟩)⟩
          clear HP
          go_wp2_with (go_at_call 35; (with_reducible refine (HP1.out).mono ?_); rintro e w' ⟨hb1, rfl⟩; have HB1 := Aside0.mk (below_then HB.out HB.out.size hb1); clear hb1)
          go_ret
          refine ⟨?_, HB1.out⟩
          unfold checkE
          rw [if_neg (by rw [HL.out]; omega), if_neg (fun h => HO.out (h r HM.out))]
          rfl
      · obtain rfl : i = k := by omega
        have h2 : decide ((i : Int) < (i : Int)) = false := by simp
        go_wp2
        go_ret
        rw [List.take_of_length_le (by rw [HL.out]; exact Nat.le_refl _)] at HA
        refine ⟨?_, HB.out⟩
        unfold checkE
        rw [if_neg (by rw [HL.out]; omega), if_pos HA.out]
        rfl
set_option maxHeartbeats 1000000 in
theorem rcheck_calls (A : Option Addr) (k c : Nat) (rs : List Ref) (w : World) (h : RefsC w A k rs) : Calls Try.prog 11 #[.slice A k c] w fun e w' => e = .returned (.int .i64 (checkE rs)) ∧ Below w.heap.size w w' := by
  have hkm := h.lim
  have HL := Aside0.mk h.len
  by_cases h256 : 256 < k
  · have h1 : decide (256 < (k : Int)) = true := by simp; omega
    have HE : Aside0 (checkE rs = 6) := ⟨by unfold checkE; rw [if_pos (by rw [HL.out]; exact h256)]⟩
    clear h hkm
    go_enter Try.func11, Try.ntmps11
    go_wp2
    go_ret
    exact ⟨by rw [HE.out]; rfl, Below.refl _ _⟩
  · have h1 : decide (256 < (k : Int)) = false := by simp; omega
    have H := Aside0.mk h
    have hk2 : k ≤ 256 := by omega
    have HU := Aside0.mk Try.underlying56
    clear h hkm h256
    go_enter Try.func11, Try.ntmps11
    go_wp2
    go_loopg [3] (k + 1) (fun gk v3 wr => ∃ i : Nat, v3 = .int .i64 i ∧ i ≤ k ∧ Aside0 (gk = k - i + 1) ∧ Aside0 (AllOk (rs.take i)) ∧ Aside0 (Below w.heap.size w wr))
    case atStart => exact ⟨0, rfl, Nat.zero_le _, ⟨rfl⟩, ⟨fun r hr => by simp at hr⟩, ⟨Below.refl _ _⟩⟩
    case round =>
      obtain ⟨i, rfl, hi, HK, HA, HB⟩ := hrel
      by_cases hlt : i < k
      · have h2 : decide ((i : Int) < (k : Int)) = true := by simp; omega
        obtain ⟨ad, hA⟩ := H.out.is (by omega)
        subst hA
        have hp1 : (0 : Int) ≤ (i : Int) := by omega
        have hp2 : (i : Int) < (k : Int) := by omega
        have hok := H.out.ok i hlt
        have HRA := Aside0.mk ((H.out.below HB.out).cells ad rfl i hlt)
        have HM : Aside0 (rs.getD i default ∈ rs) := by
          have : i < rs.length := by rw [HL.out]; exact hlt
          exact ⟨by simp [this]⟩
        have HTK := Aside0.mk (allOk_take rs i (by rw [HL.out]; exact hlt) HA.out)
        generalize rs.getD i default = r at *
        have HI := Aside0.mk (infoRef _ hok)
        have HRG := Aside0.mk (rright_calls r hok)
        clear hok
        generalize r.cells = C at *
        by_cases ho : okRef r
        · have HO := Aside0.mk ho
          rw [decide_eq_true ho] at HRG
          clear ho
          go_wp2_with (first
            | ((with_reducible refine gate_ (.load 56 (.tmp 15)) rfl ?_); refine Hd.wpList_load_any rfl _ (.tmp 15) rfl _ rfl C _ HRA.out HU.out rfl HI.out ?_)
            | (go_at_call 32; (with_reducible refine (HRG.out _).mono ?_); rintro e w' ⟨rfl, hb1⟩; have HB1 := Aside0.mk (below_then HB.out HB.out.size hb1); clear hb1))
          go_roundg (k - (i + 1) + 1)
          case measure => have := HK.out; omega
          case rel => exact ⟨i + 1, by go_num, by omega, ⟨rfl⟩, ⟨HTK.out HO.out⟩, HB1⟩
        · have HO := Aside0.mk ho
          rw [decide_eq_false ho] at HRG
          clear ho
          go_wp2_with (first
            | ((with_reducible refine gate_ (.load 56 (.tmp 15)) rfl ?_); refine Hd.wpList_load_any rfl _ (.tmp 15) rfl _ rfl C _ HRA.out HU.out rfl HI.out ?_)
            | (go_at_call 32; (with_reducible refine (HRG.out _).mono ?_); rintro e w' ⟨rfl, hb1⟩; have HB1 := Aside0.mk (below_then HB.out HB.out.size hb1); clear hb1))
          go_ret
          refine ⟨?_, HB1.out⟩
          unfold checkE
          rw [if_neg (by rw [HL.out]; omega), if_neg (fun h => HO.out (h r HM.out))]
          rfl
      · obtain rfl : i = k := by omega
        have h2 : decide ((i : Int) < (i : Int)) = false := by simp
        go_wp2
        go_ret
        rw [List.take_of_length_le (by rw [HL.out]; exact Nat.le_refl _)] at HA
        refine ⟨?_, HB.out⟩
        unfold checkE
        rw [if_neg (by rw [HL.out]; omega), if_pos HA.out]
        rfl
end Go.Proofs.Ytgofkhncaldheaa.ReC
