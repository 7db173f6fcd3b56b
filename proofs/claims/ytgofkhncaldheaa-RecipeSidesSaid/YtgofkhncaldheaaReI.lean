/- The law RecipeSides, walked; condition: the refs read as a list. -/
import Derived.Test.YtgofkhncaldheaaReE
namespace Go.Proofs.Ytgofkhncaldheaa.ReI
open Go Go.RowKit Go.Proofs.YtgofkhncaldheaaW.PrintWords Go.Proofs.Ytgofkhncaldheaa.K Go.Proofs.Ytgofkhncaldheaa.OctS Go.Proofs.Ytgofkhncaldheaa.OctP Go.Proofs.Ytgofkhncaldheaa.Oct Go.Proofs.Ytgofkhncaldheaa.ReS Go.Proofs.Ytgofkhncaldheaa.ReR Go.Proofs.Ytgofkhncaldheaa.ReT Go.Proofs.Ytgofkhncaldheaa.ReN Go.Proofs.Ytgofkhncaldheaa.ReP Go.Proofs.Ytgofkhncaldheaa.ReC Go.Proofs.Ytgofkhncaldheaa.ReK Go.Proofs.Ytgofkhncaldheaa.ReW Go.Proofs.Ytgofkhncaldheaa.ReF Go.Proofs.Ytgofkhncaldheaa.RePi Go.Proofs.Ytgofkhncaldheaa.ReA Go.Proofs.Ytgofkhncaldheaa.ReQ Go.Proofs.Ytgofkhncaldheaa.ReL Go.Proofs.Ytgofkhncaldheaa.ReG Go.Proofs.Ytgofkhncaldheaa.ReH Go.Proofs.Ytgofkhncaldheaa.ReE
set_option linter.unusedVariables false
set_option linter.unusedSimpArgs false
set_option maxRecDepth 100000 in
theorem sides_no (A : Option Addr) (k c : Nat) (rs : List Ref) (w : World) (h : RefsC w A k rs) (hc : k ≤ c) (f m n : Int) (he : checkE rs ≠ 0) : Calls Try.prog 4 #[.slice A k c, .int .u16 f, .int .u16 m, .int .u16 n] w fun e w' => e = .returned (.bool true) ∧ Below w.heap.size w w' := by
  have HN := Aside0.mk (new_no A k c rs w h hc he)
  have h1 : (checkE rs != 0) = true := by simpa using he
  clear h hc he
  generalize checkE rs = x at *
  go_enter Try.func4, Try.ntmps4
  go_wp2_with (first
    | (go_at_call 9; (with_reducible refine (HN.out).mono ?_); rintro e w' ⟨rfl, hb1⟩; have HB1 := Aside0.mk hb1; clear hb1)
    | (go_at_call 10; (with_reducible refine (live_calls _).mono ?_); rintro e w' ⟨rfl, hb2⟩; have HB2 := Aside0.mk (below_then HB1.out HB1.out.size hb2); clear hb2))
  go_ret
  exact ⟨rfl, HB2.out⟩
theorem told_in (rs : List Ref) (a n : Nat) : ∀ x, x ∈ ReS.cutL (lens rs) 0 a n → In rs x := fun x hx => by
  obtain ⟨j, l, h1, h2, h3, h4⟩ := cut_in (lens rs) 0 a n x hx
  rw [Nat.zero_add] at h1
  obtain ⟨hj, hl⟩ := List.getElem?_eq_some_iff.1 h2
  have hj2 : j < rs.length := by simpa [lens] using hj
  refine ⟨by omega, h3, ?_⟩
  rw [h1]
  have : (rs.getD j default).len.toNat = l := by
    rw [← hl]
    simp [lens, hj2]
  rw [this]
  exact h4
theorem rise_at (rs : List Ref) (a n i : Nat) (h : i + 1 < (ReS.cutL (lens rs) 0 a n).length) : ((ReS.cutL (lens rs) 0 a n).getD i (0, 0, 0)).1 < ((ReS.cutL (lens rs) 0 a n).getD (i + 1) (0, 0, 0)).1 := by
  have hp := List.pairwise_iff_getElem.1 (cut_rise (lens rs) 0 a n).2 i (i + 1) (by omega) h (by omega)
  have h0 : i < (ReS.cutL (lens rs) 0 a n).length := by omega
  simpa [h, h0] using hp
set_option maxRecDepth 100000 in
set_option maxHeartbeats 16000000 in
theorem sides_yes (A : Option Addr) (k c : Nat) (rs : List Ref) (w : World) (h : RefsC w A k rs) (hc : k ≤ c) (f m n : Nat) (hf : f ≤ 65535) (hm : m ≤ 65535) (hn : n ≤ 65535) (he : checkE rs = 0) : Calls Try.prog 4 #[.slice A k c, .int .u16 (f : Int), .int .u16 (m : Int), .int .u16 (n : Int)] w fun e w' => e = .returned (.bool true) ∧ Below w.heap.size w w' := by
  have HN := Aside0.mk (new_yes A k c rs w h hc he)
  have hx : k ≤ 256 ∧ AllOk rs := by
    unfold checkE at he
    rw [h.len] at he
    by_cases h1 : 256 < k
    · rw [if_pos h1] at he; cases he
    · rw [if_neg h1] at he
      by_cases h2 : AllOk rs
      · exact ⟨by omega, h2⟩
      · rw [if_neg h2] at he; cases he
  have HX := Aside0.mk hx
  have H := Aside0.mk h
  have hsm : (lens rs).sum ≤ 131072 := by
    have := lens_le rs hx.2 k
    rw [List.take_of_length_le (by simp [lens, h.len])] at this
    omega
  have HKL := Aside0.mk h.len
  clear h hc he hx
  obtain ⟨a, ha⟩ : ∃ a, a = f % ((lens rs).sum + 1) := ⟨_, rfl⟩
  obtain ⟨b, hb⟩ : ∃ b, b = m % ((lens rs).sum - a + 1) := ⟨_, rfl⟩
  have ha2 : a ≤ (lens rs).sum := by have := Nat.mod_lt f (show 0 < (lens rs).sum + 1 by omega); omega
  have hb2 : b ≤ (lens rs).sum - a := by have := Nat.mod_lt m (show 0 < (lens rs).sum - a + 1 by omega); omega
  have HCX := Aside0.mk (fun W g A1 c1 Ab cb (hr : Rec W g rs A1 c1 Ab cb) => cut_is hr a b ha2 (by omega))
  have HCY := Aside0.mk (fun W g A1 c1 Ab cb (hr : Rec W g rs A1 c1 Ab cb) => cut_is hr (a + b) n (by omega) (by omega))
  have HCZ := Aside0.mk (fun W g A1 c1 Ab cb (hr : Rec W g rs A1 c1 Ab cb) => cut_is hr a (b + n) ha2 (by omega))
  have HTL := Aside0.mk (told_sides (lens rs) a b n)
  have HLX : Aside0 ((ReS.told (ReS.cutL (lens rs) 0 a b)).length = b) := ⟨by rw [told_len]; omega⟩
  have HLZ : Aside0 ((ReS.told (ReS.cutL (lens rs) 0 a (b + n))).length = min (b + n) ((lens rs).sum - a)) := ⟨told_len _ _ _⟩
  have HLY : Aside0 ((ReS.told (ReS.cutL (lens rs) 0 (a + b) n)).length ≤ 65535) := ⟨by rw [told_len]; omega⟩
  have HTX := Aside0.mk (fun W B m2 c2 (hW : Below w.heap.size w W) (hB : dPc.C W B m2 (ReS.cutL (lens rs) 0 a b)) => told_calls A k c rs B m2 c2 _ W (H.out.below hW) HX.out.1 HX.out.2 hB (by have := cut_len rs a b; have := hB.1; have := HX.out.1; have := HKL.out; omega) (told_in rs a b) (by rw [HLX.out]; omega))
  have HTY := Aside0.mk (fun W B m2 c2 (hW : Below w.heap.size w W) (hB : dPc.C W B m2 (ReS.cutL (lens rs) 0 (a + b) n)) => told_calls A k c rs B m2 c2 _ W (H.out.below hW) HX.out.1 HX.out.2 hB (by have := cut_len rs (a + b) n; have := hB.1; have := HX.out.1; have := HKL.out; omega) (told_in rs (a + b) n) (by have := HLY.out; omega))
  have HTZ := Aside0.mk (fun W B m2 c2 (hW : Below w.heap.size w W) (hB : dPc.C W B m2 (ReS.cutL (lens rs) 0 a (b + n))) => told_calls A k c rs B m2 c2 _ W (H.out.below hW) HX.out.1 HX.out.2 hB (by have := cut_len rs a (b + n); have := hB.1; have := HX.out.1; have := HKL.out; omega) (told_in rs a (b + n)) (by rw [HLZ.out]; omega))
  have HRI := Aside0.mk (rise_at rs a (b + n))
  have HZL : Aside0 ((ReS.cutL (lens rs) 0 a (b + n)).length ≤ 256) := ⟨by have := cut_len rs a (b + n); have := HX.out.1; have := HKL.out; omega⟩
  have HSX : Aside0 (∀ i, i < (ReS.told (ReS.cutL (lens rs) 0 a b)).length → ((ReS.told (ReS.cutL (lens rs) 0 a b)).getD i (0, 0)).1 ≤ 1000 ∧ ((ReS.told (ReS.cutL (lens rs) 0 a b)).getD i (0, 0)).2 ≤ 1000) := ⟨fun i hi => by
    have h1 := told_small rs HX.out.2 a b ((ReS.told (ReS.cutL (lens rs) 0 a b)).getD i (0, 0)) (by simp [hi])
    have := HX.out.1; have := HKL.out; omega⟩
  have HSY : Aside0 (∀ i, i < (ReS.told (ReS.cutL (lens rs) 0 (a + b) n)).length → ((ReS.told (ReS.cutL (lens rs) 0 (a + b) n)).getD i (0, 0)).1 ≤ 1000 ∧ ((ReS.told (ReS.cutL (lens rs) 0 (a + b) n)).getD i (0, 0)).2 ≤ 1000) := ⟨fun i hi => by
    have h1 := told_small rs HX.out.2 (a + b) n ((ReS.told (ReS.cutL (lens rs) 0 (a + b) n)).getD i (0, 0)) (by simp [hi])
    have := HX.out.1; have := HKL.out; omega⟩
  have HSZ := Aside0.mk (fun W g A1 c1 Ab cb (hr : Rec W g rs A1 c1 Ab cb) => sz_calls hr)
  generalize ReS.cutL (lens rs) 0 a b = X at *
  generalize ReS.cutL (lens rs) 0 (a + b) n = Y at *
  generalize ReS.cutL (lens rs) 0 a (b + n) = Z at *
  generalize ReS.told X = tx at *
  generalize ReS.told Y = ty at *
  generalize htz : ReS.told Z = tz at *
  generalize hs : (lens rs).sum = s at *
  clear hs htz
  have hm1 : (f : Int) % ((s : Int) + 1) = (a : Int) := by rw [ha]; simp
  have hm2 : (m : Int) % ((s : Int) - (a : Int) + 1) = (b : Int) := by rw [show (s : Int) - (a : Int) + 1 = ((s - a + 1 : Nat) : Int) by omega, hb]; simp
  clear ha hb
  go_enter Try.func4, Try.ntmps4
  go_wp2_with fail
  refine HN.out.mono ?_
  rintro e w1 ⟨g, A1, c1, Ab, cb, rfl, hr, hg, hb1⟩
  have HR := Aside0.mk hr
  have HW1 := Aside0.mk hb1
  clear hr hg hb1 HN
  go_wp2_with fail
  refine (HSZ.out _ _ _ _ _ _ HR.out).mono ?_
  rintro e w2 ⟨rfl, hb2⟩
  have HR2 := Aside0.mk (HR.out.below hb2)
  have HW2 := Aside0.mk (below_then HW1.out HW1.out.size hb2)
  clear hb2 HR HW1
  go_wp2_with fail
  rw [hm1]
  refine (HSZ.out _ _ _ _ _ _ HR2.out).mono ?_
  rintro e w3 ⟨rfl, hb3⟩
  have HR3 := Aside0.mk (HR2.out.below hb3)
  have HW3 := Aside0.mk (below_then HW2.out HW2.out.size hb3)
  clear hb3 HR2 HW2 hm1
  go_wp2_with fail
  rw [hm2]
  refine (HCX.out _ _ _ _ _ _ HR3.out).mono ?_
  rintro e w4 ⟨vx, rfl, hox, hb4⟩
  obtain ⟨AX, cX, rfl, _, hCX⟩ := Kd.R_reads hox
  have HCXw := Aside0.mk hCX
  have HR4 := Aside0.mk (HR3.out.below hb4)
  have HW4 := Aside0.mk (below_then HW3.out HW3.out.size hb4)
  clear hb4 HR3 HW3 hm2 hox hCX
  go_wp2_with fail
  refine (HCY.out _ _ _ _ _ _ HR4.out).mono ?_
  rintro e w5 ⟨vy, rfl, hoy, hb5⟩
  obtain ⟨AY, cY, rfl, _, hCY⟩ := Kd.R_reads hoy
  have HCYw := Aside0.mk hCY
  replace HCXw := Aside0.mk (Kd.C_below HCXw.out hb5)
  have HR5 := Aside0.mk (HR4.out.below hb5)
  have HW5 := Aside0.mk (below_then HW4.out HW4.out.size hb5)
  clear hb5 HR4 HW4 hoy hCY
  go_wp2_with fail
  refine (HCZ.out _ _ _ _ _ _ HR5.out).mono ?_
  rintro e w6 ⟨vz, rfl, hoz, hb6⟩
  obtain ⟨AZ, cZ, rfl, _, hCZ⟩ := Kd.R_reads hoz
  have HCZw := Aside0.mk hCZ
  replace HCXw := Aside0.mk (Kd.C_below HCXw.out hb6)
  replace HCYw := Aside0.mk (Kd.C_below HCYw.out hb6)
  have HR6 := Aside0.mk (HR5.out.below hb6)
  have HW6 := Aside0.mk (below_then HW5.out HW5.out.size hb6)
  clear hb6 HR5 HW5 hoz hCZ
  go_wp2_with fail
  refine (HTX.out _ _ _ _ HW6.out HCXw.out).mono ?_
  rintro e w7 ⟨vp, rfl, hop, hb7⟩
  obtain ⟨AP, cP, rfl, _, hCP⟩ := Kd.R_reads hop
  have HCPw := Aside0.mk hCP
  replace HCYw := Aside0.mk (Kd.C_below HCYw.out hb7)
  replace HCZw := Aside0.mk (Kd.C_below HCZw.out hb7)
  have HR7 := Aside0.mk (HR6.out.below hb7)
  have HW7 := Aside0.mk (below_then HW6.out HW6.out.size hb7)
  clear hb7 HR6 HW6 hop hCP HCXw
  go_wp2_with fail
  refine (HTY.out _ _ _ _ HW7.out HCYw.out).mono ?_
  rintro e w8 ⟨vq, rfl, hoq, hb8⟩
  obtain ⟨AQ, cQ, rfl, _, hCQ⟩ := Kd.R_reads hoq
  have HCQw := Aside0.mk hCQ
  replace HCPw := Aside0.mk (Kd.C_below HCPw.out hb8)
  replace HCZw := Aside0.mk (Kd.C_below HCZw.out hb8)
  have HR8 := Aside0.mk (HR7.out.below hb8)
  have HW8 := Aside0.mk (below_then HW7.out HW7.out.size hb8)
  clear hb8 HR7 HW7 hoq hCQ HCYw
  go_wp2_with fail
  refine (HTZ.out _ _ _ _ HW8.out HCZw.out).mono ?_
  rintro e w9 ⟨vt, rfl, hot, hb9⟩
  obtain ⟨AT, cT, rfl, _, hCT⟩ := Kd.R_reads hot
  have HCTw := Aside0.mk hCT
  replace HCPw := Aside0.mk (Kd.C_below HCPw.out hb9)
  replace HCQw := Aside0.mk (Kd.C_below HCQw.out hb9)
  replace HCZw := Aside0.mk (Kd.C_below HCZw.out hb9)
  have HR9 := Aside0.mk (HR8.out.below hb9)
  have HW9 := Aside0.mk (below_then HW8.out HW8.out.size hb9)
  clear hb9 HR8 HW8 hot hCT
  have hlz : tz.length = b + ty.length := by rw [HTL.out, List.length_append, HLX.out]
  have hly := HLY.out
  have hbb : b ≤ 131072 := by omega
  rw [HLX.out, hlz]
  rw [hlz] at HCTw HLZ
  rw [HLX.out] at HCPw
  clear hlz HTX HTY HTZ HCX HCY HCZ HLY
  have HLYE : Aside0 (ty.length = ty.length) := ⟨rfl⟩
  generalize hny : ty.length = ny at HCTw HLZ HCQw hly HLYE ⊢
  have HNY := Aside0.mk hny
  clear hny
  generalize hnz : Z.length = nz at *
  have HNZ := Aside0.mk hnz
  clear hnz
  have hnz2 := HZL.out
  go_wp2_with fail
  go_loopg [25] (b + ny + 1) (fun gk v25 wr => ∃ i : Nat, v25 = .int .i64 i ∧ i ≤ b + ny ∧ Aside0 (gk = b + ny - i + 1) ∧ Aside0 (Below w9.heap.size w9 wr))
  case atStart => exact ⟨0, rfl, Nat.zero_le _, ⟨rfl⟩, ⟨Below.refl _ _⟩⟩
  case round =>
    obtain ⟨i, rfl, hi, HG, HBr⟩ := hrel
    obtain ⟨wo, rfl⟩ : ∃ wo : World, wo = wr := ⟨_, rfl⟩
    by_cases hlt : i < b + ny
    · have h1 : decide ((i : Int) < ((b : Int) + (ny : Int))) = true := by simp; omega
      have h1' : decide ((i : Int) < ((b + ny : Nat) : Int)) = true := by simp; omega
      obtain ⟨ad, rfl, a0, a1⟩ := tw_cells (Kd.C_below HCTw.out HBr.out) i hlt
      have hp1 : (0 : Int) ≤ (i : Int) := by omega
      have hp2 : (i : Int) < (b : Int) + (ny : Int) := by omega
      have hp3 : (i : Int) < ((b + ny : Nat) : Int) := by omega
      by_cases hib : i < b
      · have h2 : decide (i < b) = true := by simpa using hib
        have h3 : decide (b ≤ i) = false := by simp; omega
        obtain ⟨bd, rfl, b0, b1⟩ := tw_cells (Kd.C_below HCPw.out HBr.out) i hib
        have he : tz.getD i (0, 0) = tx.getD i (0, 0) := by
          rw [HTL.out]
          simp only [List.getD_eq_getElem?_getD]
          rw [List.getElem?_append_left (by rw [HLX.out]; exact hib)]
        rw [he] at a0 a1
        have hp4 : (i : Int) < (b : Int) := by omega
        have hsx := HSX.out i (by rw [HLX.out]; exact hib)
        generalize (tx.getD i (0, 0)).1 = x0 at *
        generalize (tx.getD i (0, 0)).2 = x1 at *
        have hne := fun W => tw_neq x0 x1 (by omega) (by omega) W
        clear he hsx
        go_wp2
        go_quiet (fail)
        go_wp2
        go_roundg (b + ny - (i + 1) + 1)
        case measure => have := HG.out; omega
        case rel => exact ⟨i + 1, by go_num, by omega, ⟨rfl⟩, ⟨below_then HBr.out HBr.out.size (pw_below_drewN (Below.refl _ _) _)⟩⟩
      · have h2 : decide (i < b) = false := by simpa using hib
        have h3 : decide (b ≤ i) = true := by simp; omega
        obtain ⟨bd, rfl, b0, b1⟩ := tw_cells (Kd.C_below HCQw.out HBr.out) (i - b) (by omega)
        have he : tz.getD i (0, 0) = ty.getD (i - b) (0, 0) := by
          rw [HTL.out]
          simp only [List.getD_eq_getElem?_getD]
          rw [List.getElem?_append_right (by rw [HLX.out]; omega), HLX.out]
        rw [he] at a0 a1
        have hsx := HSY.out (i - b) (by rw [HNY.out]; omega)
        generalize (ty.getD (i - b) (0, 0)).1 = x0 at *
        generalize (ty.getD (i - b) (0, 0)).2 = x1 at *
        have hq1 : (0 : Int) ≤ (i : Int) - (b : Int) := by omega
        have hq2 : (i : Int) - (b : Int) < (ny : Int) := by omega
        have hq3 : ((i : Int) - (b : Int)).toNat = i - b := by omega
        have hq4 : IntKind.i64.wrap ((i : Int) - (b : Int)) = (i : Int) - (b : Int) := by rw [IntKind.wrap_i64]; omega
        have hne := fun W => tw_neq x0 x1 (by omega) (by omega) W
        clear he hsx
        go_wp2
        go_quiet (fail)
        clear hq3 hq4
        go_wp2
        go_roundg (b + ny - (i + 1) + 1)
        case measure => have := HG.out; omega
        case rel => exact ⟨i + 1, by go_num, by omega, ⟨rfl⟩, ⟨below_then HBr.out HBr.out.size (pw_below_drewN (Below.refl _ _) _)⟩⟩
    · obtain rfl : i = b + ny := by omega
      have h1 : decide (((b + ny : Nat) : Int) < ((b : Int) + (ny : Int))) = false := by simp
      have h1' : decide ((b + ny) < (b + ny)) = false := by simp
      have HLV : Aside0 (∀ W, Below w9.heap.size w9 W → Rec W g rs A1 c1 Ab cb) := ⟨fun W hW => HR9.out.below hW⟩
      have HBa := Aside0.mk HBr.out
      go_wp2
      go_loopg [26] (nz + 1) (fun gk v26 wr => ∃ i : Nat, v26 = .int .i64 i ∧ 1 ≤ i ∧ i ≤ nz + 1 ∧ Aside0 (gk = nz + 1 - i + 1) ∧ Aside0 (Below w9.heap.size w9 wr))
      case atStart => exact ⟨1, rfl, Nat.le_refl _, by omega, ⟨by omega⟩, HBa⟩
      case round =>
        obtain ⟨i, rfl, hi1, hi, HG, HBr⟩ := hrel
        by_cases hlt : i < nz
        · have h4 : decide ((i : Int) < (nz : Int)) = true := by simp; omega
          obtain ⟨zd, rfl, a0, _, _⟩ := pc_cells (Kd.C_below HCZw.out HBr.out) i hlt
          obtain ⟨zd', e', b0, _, _⟩ := pc_cells (Kd.C_below HCZw.out HBr.out) (i - 1) (by omega)
          injection e' with e'
          subst e'
          have hri := HRI.out (i - 1) (by omega)
          rw [show i - 1 + 1 = i from by omega] at hri
          generalize (Z.getD i (0, 0, 0)).1 = x0 at *
          generalize (Z.getD (i - 1) (0, 0, 0)).1 = x1 at *
          have h5 : decide (x0 ≤ x1) = false := by simp; omega
          have hp1 : (0 : Int) ≤ (i : Int) := by omega
          have hp2 : (i : Int) < (nz : Int) := by omega
          have hq1 : (0 : Int) ≤ (i : Int) - 1 := by omega
          have hq2 : (i : Int) - 1 < (nz : Int) := by omega
          have hq5 : 1 ≤ (i : Int) := by omega
          have hq3 : ((i : Int) - 1).toNat = i - 1 := by omega
          have hq4 : IntKind.i64.wrap ((i : Int) - 1) = (i : Int) - 1 := by rw [IntKind.wrap_i64]; omega
          clear hri
          go_wp2
          go_quiet (fail)
          clear hq3 hq4
          go_wp2
          go_roundg (nz + 1 - (i + 1) + 1)
          case measure => have := HG.out; omega
          case rel => exact ⟨i + 1, by go_num, by omega, by omega, ⟨rfl⟩, ⟨below_then HBr.out HBr.out.size (pw_below_drewN (Below.refl _ _) _)⟩⟩
        · have h4 : decide ((i : Int) < (nz : Int)) = false := by simp; omega
          have hmin : min ((b : Int) + (n : Int)) ((s : Int) - (a : Int)) = (b : Int) + (ny : Int) := by have := HLZ.out; omega
          have hsb : s - a ≤ 131072 := by omega
          go_wp2_with fail
          refine (live_calls _).mono ?_
          rintro e wl ⟨rfl, hbl⟩
          have HBl := Aside0.mk (below_then HBr.out HBr.out.size hbl)
          clear hbl
          go_wp2_with fail
          refine (HSZ.out _ _ _ _ _ _ (HLV.out _ HBl.out)).mono ?_
          rintro e wm ⟨rfl, hbm⟩
          have HBm := Aside0.mk (below_then HBl.out HBl.out.size hbm)
          clear hbm
          go_wp2
          go_ret
          exact ⟨rfl, below_then HW9.out HW9.out.size HBm.out⟩
theorem sides_calls (A : Option Addr) (k c : Nat) (rs : List Ref) (w : World) (h : RefsC w A k rs) (hc : k ≤ c) (f m n : Nat) (hf : f ≤ 65535) (hm : m ≤ 65535) (hn : n ≤ 65535) : Calls Try.prog 4 #[.slice A k c, .int .u16 (f : Int), .int .u16 (m : Int), .int .u16 (n : Int)] w fun e w' => e = .returned (.bool true) ∧ Below w.heap.size w w' := by
  by_cases he : checkE rs = 0
  · exact sides_yes A k c rs w h hc f m n hf hm hn he
  · exact sides_no A k c rs w h hc f m n he
theorem wf16 {x : Int} (h : (Lit.int .u16 x).wf = true) : ∃ n : Nat, x = n ∧ n ≤ 65535 := by
  have h1 : (decide (IntKind.u16.min ≤ x) && decide (x ≤ IntKind.u16.max)) = true := h
  rw [Bool.and_eq_true, decide_eq_true_eq, decide_eq_true_eq] at h1
  have a : IntKind.u16.min = 0 := rfl
  have b : IntKind.u16.max = 65535 := rfl
  rw [a, b] at h1
  exact ⟨x.toNat, by omega, by omega⟩
theorem sides_row (A : Option Addr) (k c : Nat) (rs : List Ref) (f m n : Int) (w : World) (h : RefsC w A k rs) (hc : k ≤ c) (hf : (Lit.int .u16 f).wf = true) (hm : (Lit.int .u16 m).wf = true) (hn : (Lit.int .u16 n).wf = true) : Calls Try.prog 4 #[.slice A k c, .int .u16 f, .int .u16 m, .int .u16 n] w fun e w' => e = .returned (.bool true) ∧ Below w.heap.size w w' := by
  obtain ⟨f1, e1, g1⟩ := wf16 hf
  obtain ⟨m1, e2, g2⟩ := wf16 hm
  obtain ⟨n1, e3, g3⟩ := wf16 hn
  rw [e1, e2, e3]
  exact sides_calls A k c rs w h hc f1 m1 n1 g1 g2 g3
end Go.Proofs.Ytgofkhncaldheaa.ReI
