/- The law BloomNew: which summaries there are, and a sum's places; condition: a sum is 32 bytes. -/
import Derived.Test.YtnpcngnmjbhhaaaBlL
import Derived.Test.YtnpcngnmjbhhaaaBlH
namespace Go.Proofs.Ytnpcngnmjbhhaaa.BlX
open Go Go.RowKit Go.Proofs.YtnpcngnmjbhhaaaW.PrintWords Go.Proofs.Ytnpcngnmjbhhaaa.K Go.Proofs.Ytnpcngnmjbhhaaa.OctS Go.Proofs.Ytnpcngnmjbhhaaa.OctP Go.Proofs.Ytnpcngnmjbhhaaa.BlS Go.Proofs.Ytnpcngnmjbhhaaa.BlP Go.Proofs.Ytnpcngnmjbhhaaa.BlC Go.Proofs.Ytnpcngnmjbhhaaa.BlD Go.Proofs.Ytnpcngnmjbhhaaa.BlN Go.Proofs.Ytnpcngnmjbhhaaa.BlF Go.Proofs.Ytnpcngnmjbhhaaa.BlH Go.Proofs.Ytnpcngnmjbhhaaa.BlL Go.Proofs.Ytnpcngnmjbhhaaa.Oct
set_option linter.unusedVariables false
set_option linter.unusedSimpArgs false
theorem bytes_wf {l : List Int} (h : ∀ x ∈ l, (Lit.int .u8 x).wf = true) : Bytes l := fun c hc => by
  have := h c hc
  simp [Lit.wf, IntKind.min, IntKind.max, IntKind.signed, IntKind.bits] at this
  omega
set_option maxHeartbeats 4000000 in
theorem new_law (bs : List Int) (bits ways : Int) (w : World) (hl : bs.length = 32) (hx : ∀ x ∈ bs, (Lit.int .u8 x).wf = true) (w1 : (Lit.int .i64 bits).wf = true) (w2 : (Lit.int .i64 ways).wf = true) :
    Calls Try.prog 3 #[.agg (nums .u8 bs).toArray, .int .i64 bits, .int .i64 ways] w fun e w' => e = .returned (.bool true) ∧ Below w.heap.size w w' := by
  have HL := Aside0.mk hl
  have HY := Aside0.mk (bytes_wf hx)
  have HU := Aside0.mk Try.underlying22
  have HI := Aside0.mk (infoSum bs hl)
  have HR := Aside0.mk (range_new w (nums .u8 bs) 22)
  clear hl hx w1 w2
  by_cases h : okF bits ways
  · obtain ⟨m, rfl⟩ := Int.eq_ofNat_of_zero_le (show 0 ≤ bits by unfold okF at h; omega)
    obtain ⟨n, rfl⟩ := Int.eq_ofNat_of_zero_le (show 0 ≤ ways by unfold okF at h; omega)
    have HK := Aside0.mk h
    clear h
    have HP := Aside0.mk (fun W => places_all bs (m : Int) (n : Int) W HL.out HY.out)
    have HQ := Aside0.mk (fun W => rplaces_all bs (m : Int) (n : Int) W HL.out HY.out)
    have HPL := Aside0.mk (plL_len bs (m : Int) (n : Int))
    go_enter Try.func3, Try.ntmps3
    go_wp2_with fail
    refine (new_yes m n HK.out _).mono ?_
    rintro e W1 ⟨g1, v1, rfl, hf1, hb1⟩
    have HB1 := Aside0.mk (below_then (below_alloc (Below.refl _ w) (.cells (nums .u8 bs).toArray 22)) (by simp) hb1)
    have HR1 := Aside0.mk (range_below HR.out hb1)
    clear hf1 hb1
    go_wp2_with fail
    refine (rnew_yes m n HK.out _).mono ?_
    rintro e W2 ⟨g2, rfl, hf2, hb2⟩
    have HB2 := Aside0.mk (below_then HB1.out HB1.out.size hb2)
    have HR2 := Aside0.mk (range_below HR1.out hb2)
    clear hf2 hb2
    go_wp2_with ((with_reducible refine gate_ (.load 22 (.tmp 3)) rfl ?_); refine wpList_load_mid rfl _ (.tmp 3) rfl w.heap.size 0 rfl (nums .u8 bs) _ HR2.out HU.out rfl HI.out ?_)
    refine (HP.out W2).mono ?_
    rintro e W3 ⟨v3, rfl, ho3, hb3⟩
    have HO3 := Aside0.mk ho3
    have HB3 := Aside0.mk (below_then HB2.out HB2.out.size hb3)
    have HR3 := Aside0.mk (range_below HR2.out hb3)
    clear ho3 hb3
    go_wp2_with ((with_reducible refine gate_ (.load 22 (.tmp 3)) rfl ?_); refine wpList_load_mid rfl _ (.tmp 3) rfl w.heap.size 0 rfl (nums .u8 bs) _ HR3.out HU.out rfl HI.out ?_)
    refine (HQ.out W3).mono ?_
    rintro e W4 ⟨v4, rfl, ho4, hb4⟩
    obtain ⟨A3, c3, rfl, hl3, hr3⟩ := Kd.R_reads (Kd.R_below HO3.out hb4)
    obtain ⟨A4, c4, rfl, hl4, hr4⟩ := Kd.R_reads ho4
    have HB4 := Aside0.mk (below_then HB3.out HB3.out.size hb4)
    generalize plL bs (m : Int) (n : Int) = l at *
    have HC3 := Aside0.mk hr3
    have HC4 := Aside0.mk hr4
    have hlb := HPL.out
    clear ho4 hb4 hr3 hr4 HO3 HP HQ
    go_wp2
    go_loopg [13] (l.length + 1) (fun gk v13 wr => ∃ (i : Nat), v13 = .int .i64 i ∧ i ≤ l.length ∧ Aside0 (gk = l.length - i + 1) ∧ Aside0 (∃ n, wr = W4.drewN n))
    case atStart => exact ⟨0, rfl, Nat.zero_le _, ⟨rfl⟩, ⟨0, rfl⟩⟩
    case round =>
      obtain ⟨i, rfl, hi, HG, HW⟩ := hrel
      obtain ⟨nn, rfl⟩ := HW.out
      by_cases hlt : i < l.length
      · have h1 : decide ((i : Int) < (l.length : Int)) = true := by simp; omega
        obtain ⟨ad3, rfl, hcell3⟩ := Kd.at_int (Kd.C_drewN HC3.out nn) (i : Int) (by omega) (by omega)
        obtain ⟨ad4, rfl, hcell4⟩ := Kd.at_int (Kd.C_drewN HC4.out nn) (i : Int) (by omega) (by omega)
        generalize rd l (i : Int) = x at hcell3 hcell4
        rw [Int.toNat_natCast] at hcell3 hcell4
        generalize hwq : W4.drewN nn = wq at *
        have HWQ := Aside0.mk hwq
        clear hwq HW
        go_wp2_with fail
        go_quiet (fail)
        go_wp2
        go_roundg (l.length - (i + 1) + 1)
        case measure => have := HG.out; omega
        case rel => exact ⟨i + 1, by go_num, by omega, ⟨rfl⟩, ⟨_, by rw [← HWQ.out, World.drewN_drewN]⟩⟩
      · obtain rfl : i = l.length := by omega
        have h1 : decide ((l.length : Int) < (l.length : Int)) = false := by simp
        go_wp2_with fail
        refine (live_calls _).mono ?_
        rintro e W5 ⟨rfl, hb5⟩
        have HB5 := Aside0.mk (below_then (pw_below_drewN HB4.out nn) (pw_below_drewN HB4.out nn).size hb5)
        clear hb5
        go_wp2
        go_ret
        exact ⟨rfl, HB5.out⟩
  · have HK := Aside0.mk h
    clear h
    have HP := Aside0.mk (fun W => places_all bs bits ways W HL.out HY.out)
    have HQ := Aside0.mk (fun W => rplaces_all bs bits ways W HL.out HY.out)
    have HPL := Aside0.mk (plL_len bs bits ways)
    go_enter Try.func3, Try.ntmps3
    go_wp2_with fail
    refine (new_no bits ways HK.out _).mono ?_
    rintro e W1 ⟨rfl, hb1⟩
    have HB1 := Aside0.mk (below_then (below_alloc (Below.refl _ w) (.cells (nums .u8 bs).toArray 22)) (by simp) (show Below (w.alloc (.cells (nums .u8 bs).toArray 22)).heap.size (w.alloc (.cells (nums .u8 bs).toArray 22)) W1 from hb1 ▸ Below.refl _ _))
    have HR1 := Aside0.mk (range_below HR.out (show Below (w.alloc (.cells (nums .u8 bs).toArray 22)).heap.size (w.alloc (.cells (nums .u8 bs).toArray 22)) W1 from hb1 ▸ Below.refl _ _))
    clear hb1
    go_wp2_with fail
    refine (rnew_no bits ways HK.out _).mono ?_
    rintro e W2 ⟨rfl, hb2⟩
    have HB2 := Aside0.mk (below_then HB1.out HB1.out.size (show Below W1.heap.size W1 W2 from hb2 ▸ Below.refl _ _))
    have HR2 := Aside0.mk (range_below HR1.out (show Below W1.heap.size W1 W2 from hb2 ▸ Below.refl _ _))
    clear hb2
    go_wp2_with ((with_reducible refine gate_ (.load 22 (.tmp 3)) rfl ?_); refine wpList_load_mid rfl _ (.tmp 3) rfl w.heap.size 0 rfl (nums .u8 bs) _ HR2.out HU.out rfl HI.out ?_)
    refine (HP.out W2).mono ?_
    rintro e W3 ⟨v3, rfl, ho3, hb3⟩
    have HO3 := Aside0.mk ho3
    have HB3 := Aside0.mk (below_then HB2.out HB2.out.size hb3)
    have HR3 := Aside0.mk (range_below HR2.out hb3)
    clear ho3 hb3
    go_wp2_with ((with_reducible refine gate_ (.load 22 (.tmp 3)) rfl ?_); refine wpList_load_mid rfl _ (.tmp 3) rfl w.heap.size 0 rfl (nums .u8 bs) _ HR3.out HU.out rfl HI.out ?_)
    refine (HQ.out W3).mono ?_
    rintro e W4 ⟨v4, rfl, ho4, hb4⟩
    obtain ⟨A3, c3, rfl, hl3, hr3⟩ := Kd.R_reads (Kd.R_below HO3.out hb4)
    obtain ⟨A4, c4, rfl, hl4, hr4⟩ := Kd.R_reads ho4
    have HB4 := Aside0.mk (below_then HB3.out HB3.out.size hb4)
    generalize plL bs bits ways = l at *
    have HC3 := Aside0.mk hr3
    have HC4 := Aside0.mk hr4
    have hlb := HPL.out
    clear ho4 hb4 hr3 hr4 HO3 HP HQ
    go_wp2
    go_loopg [13] (l.length + 1) (fun gk v13 wr => ∃ (i : Nat), v13 = .int .i64 i ∧ i ≤ l.length ∧ Aside0 (gk = l.length - i + 1) ∧ Aside0 (∃ n, wr = W4.drewN n))
    case atStart => exact ⟨0, rfl, Nat.zero_le _, ⟨rfl⟩, ⟨0, rfl⟩⟩
    case round =>
      obtain ⟨i, rfl, hi, HG, HW⟩ := hrel
      obtain ⟨nn, rfl⟩ := HW.out
      by_cases hlt : i < l.length
      · have h1 : decide ((i : Int) < (l.length : Int)) = true := by simp; omega
        obtain ⟨ad3, rfl, hcell3⟩ := Kd.at_int (Kd.C_drewN HC3.out nn) (i : Int) (by omega) (by omega)
        obtain ⟨ad4, rfl, hcell4⟩ := Kd.at_int (Kd.C_drewN HC4.out nn) (i : Int) (by omega) (by omega)
        generalize rd l (i : Int) = x at hcell3 hcell4
        rw [Int.toNat_natCast] at hcell3 hcell4
        generalize hwq : W4.drewN nn = wq at *
        have HWQ := Aside0.mk hwq
        clear hwq HW
        go_wp2_with fail
        go_quiet (fail)
        go_wp2
        go_roundg (l.length - (i + 1) + 1)
        case measure => have := HG.out; omega
        case rel => exact ⟨i + 1, by go_num, by omega, ⟨rfl⟩, ⟨_, by rw [← HWQ.out, World.drewN_drewN]⟩⟩
      · obtain rfl : i = l.length := by omega
        have h1 : decide ((l.length : Int) < (l.length : Int)) = false := by simp
        go_wp2_with fail
        refine (live_calls _).mono ?_
        rintro e W5 ⟨rfl, hb5⟩
        have HB5 := Aside0.mk (below_then (pw_below_drewN HB4.out nn) (pw_below_drewN HB4.out nn).size hb5)
        clear hb5
        go_wp2
        go_ret
        exact ⟨rfl, HB5.out⟩
end Go.Proofs.Ytnpcngnmjbhhaaa.BlX
