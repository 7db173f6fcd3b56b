/- The laws SegmentPuts and SegmentBack; condition: the refs read as refs, the bytes as bytes. -/
import Derived.Test.YtkobolgbmfhpgaaSgMr
import Derived.Test.YtkobolgbmfhpgaaSgO
import Derived.Test.YtkobolgbmfhpgaaSgLv
import Derived.Test.YtkobolgbmfhpgaaSgHk
namespace Go.Proofs.Ytkobolgbmfhpgaa.SgL5
open Go Go.RowKit Go.Proofs.YtkobolgbmfhpgaaW.PrintWords Go.Proofs.Ytkobolgbmfhpgaa.K Go.Proofs.Ytkobolgbmfhpgaa.OctS Go.Proofs.Ytkobolgbmfhpgaa.OctP Go.Proofs.Ytkobolgbmfhpgaa.Oct Go.Proofs.Ytkobolgbmfhpgaa.ReR Go.Proofs.Ytkobolgbmfhpgaa.ReT Go.Proofs.Ytkobolgbmfhpgaa.ReP Go.Proofs.Ytkobolgbmfhpgaa.ReK Go.Proofs.Ytkobolgbmfhpgaa.Ap Go.Proofs.Ytkobolgbmfhpgaa.SgLv Go.Proofs.Ytkobolgbmfhpgaa.ReO Go.Proofs.Ytkobolgbmfhpgaa.SgTr Go.Proofs.Ytkobolgbmfhpgaa.SgTa Go.Proofs.Ytkobolgbmfhpgaa.SgRp Go.Proofs.Ytkobolgbmfhpgaa.SgRk Go.Proofs.Ytkobolgbmfhpgaa.SgTp Go.Proofs.Ytkobolgbmfhpgaa.SgHk
set_option linter.unusedVariables false
set_option linter.unusedSimpArgs false
instance (rs : List Ref) : Decidable (AllOk rs) := by unfold AllOk; infer_instance
def putF (rs : List Ref) : Int × List Int := if 64 < rs.length then (6, []) else if AllOk rs then (0, refsB rs) else (2, [])
theorem put_all (A : Option Addr) (k c : Nat) (rs : List Ref) (w : World) (h : RefsC w A k rs) : Calls Try.prog 22 #[.slice A k c] w fun e w' => Below w.heap.size w w' ∧ ∃ v, e = .returned (.tuple #[v, .int .i64 (putF rs).1]) ∧ Kd.R (Kd.int .u8) 5 w' w.heap.size (fun _ => True) (v) ((putF rs).2) := by
  by_cases hk : 64 < k
  · have e : putF rs = (6, []) := by unfold putF; rw [if_pos (by rw [h.len]; exact hk)]
    rw [e]
    exact (put_long A k c w hk h.lim).mono fun e w' ⟨h1, h2⟩ => ⟨by rw [← h2]; exact Below.refl _ _, _, h1, Kd.R_nil _ _ _ _ _⟩
  · refine (put_calls A k c rs w h (by omega)).mono fun e w' ⟨hb, hc⟩ => ⟨hb, ?_⟩
    have hn : ¬ 64 < rs.length := by rw [h.len]; exact hk
    rcases hc with ⟨ho, v, h1, h2⟩ | ⟨ho, h1⟩
    · have e : putF rs = (0, refsB rs) := by unfold putF; rw [if_neg hn, if_pos ho]
      rw [e]
      exact ⟨v, h1, h2⟩
    · have e : putF rs = (2, []) := by unfold putF; rw [if_neg hn, if_neg ho]
      rw [e]
      exact ⟨_, h1, Kd.R_nil _ _ _ _ _⟩
theorem rput_all (A : Option Addr) (k c : Nat) (rs : List Ref) (w : World) (h : RefsC w A k rs) : Calls Try.prog 23 #[.slice A k c] w fun e w' => Below w.heap.size w w' ∧ ∃ v, e = .returned (.tuple #[v, .int .i64 (putF rs).1]) ∧ Kd.R (Kd.int .u8) 5 w' w.heap.size (fun _ => True) (v) ((putF rs).2) := by
  by_cases hk : 64 < k
  · have e : putF rs = (6, []) := by unfold putF; rw [if_pos (by rw [h.len]; exact hk)]
    rw [e]
    exact (rput_long A k c w hk h.lim).mono fun e w' ⟨h1, h2⟩ => ⟨by rw [← h2]; exact Below.refl _ _, _, h1, Kd.R_nil _ _ _ _ _⟩
  · refine (rput_calls A k c rs w h (by omega)).mono fun e w' ⟨hb, hc⟩ => ⟨hb, ?_⟩
    have hn : ¬ 64 < rs.length := by rw [h.len]; exact hk
    rcases hc with ⟨ho, v, h1, h2⟩ | ⟨ho, h1⟩
    · have e : putF rs = (0, refsB rs) := by unfold putF; rw [if_neg hn, if_pos ho]
      rw [e]
      exact ⟨v, h1, h2⟩
    · have e : putF rs = (2, []) := by unfold putF; rw [if_neg hn, if_neg ho]
      rw [e]
      exact ⟨_, h1, Kd.R_nil _ _ _ _ _⟩
theorem refsC_of_R {w : World} {base n c : Nat} {A : Option Addr} {rs : List Ref} (h : Kd.R dRef 34 w base (fun _ => True) (.slice A n c) (rs)) (hl : rs.length ≤ 64) : RefsC w A n rs := by
  obtain ⟨h1, h2, h3⟩ := Kd.R_reads' h
  subst h1
  exact refs_of_C h3 (by simp only [maxLen]; omega)
theorem takeF_len (b : List Int) (hb : Bytes b) : (takeF b).2.length ≤ 64 := by
  by_cases h : (takeF b).1 = 0
  · exact (takeF_back hb h).2.1
  · have : (takeF b).2 = [] := by
      unfold takeF at h ⊢
      by_cases z0 : (takeNum b 0).2.2 ≠ 0
      · rw [if_pos z0]
      rw [if_neg z0] at h ⊢
      by_cases z1 : 64 < (takeNum b 0).1
      · rw [if_pos z1]
      rw [if_neg z1] at h ⊢
      by_cases z2 : (takeRs b (takeNum b 0).1.toNat (takeNum b 0).2.1 []).1 ≠ 0
      · rw [if_pos z2]
      rw [if_neg z2] at h ⊢
      by_cases z3 : (takeRs b (takeNum b 0).1.toNat (takeNum b 0).2.1 []).2.2 < b.length
      · rw [if_pos z3]
      rw [if_neg z3] at h
      exact absurd rfl h
    rw [this]
    simp
theorem refB_bytes {r : Ref} (h : r.Ok) : Bytes (refB r) := by
  unfold refB
  refine bytes_app (fun c hc => bytes_wf h.wf c hc) (fun c hc => ?_)
  simp only [List.flatMap_cons, List.flatMap_nil, List.append_nil, List.mem_append] at hc
  rcases hc with hc | hc | hc <;> exact numB_bytes _ c hc
theorem refsB_bytes {rs : List Ref} (h : ∀ r ∈ rs, r.Ok) : Bytes (refsB rs) := by
  unfold refsB
  refine bytes_app (by simpa using numB_bytes _) (fun c hc => ?_)
  obtain ⟨r, hr, hc⟩ := List.mem_flatMap.1 hc
  exact refB_bytes (h r hr) c hc
theorem putF_bytes {rs : List Ref} (h : ∀ r ∈ rs, r.Ok) : Bytes (putF rs).2 ∧ (putF rs).2.length ≤ 4096 := by
  unfold putF
  split
  · exact ⟨fun c hc => by simp at hc, by simp⟩
  · split
    · rename_i hn ho
      refine ⟨refsB_bytes h, ?_⟩
      show (refsB rs).length ≤ 4096
      unfold refsB
      have h1 := refsB_le rs h ho
      have h2 := numB_len8 rs.length (by omega)
      simp only [List.flatMap_cons, List.flatMap_nil, List.append_nil, List.length_append]
      omega
    · exact ⟨fun c hc => by simp at hc, by simp⟩
set_option maxHeartbeats 8000000 in
set_option maxRecDepth 100000 in
theorem puts_row (A : Option Addr) (k c : Nat) (rs : List Ref) (B : Option Addr) (kb cb : Nat) (b : List Int) (w : World) (hA : RefsC w A k rs) (_ : k ≤ c) (hr : Kd.C (Kd.int .u8) w B kb b) (hc : kb ≤ cb) (hb : ∀ x ∈ b, (Lit.int .u8 x).wf = true) (hm : kb * 1 ≤ 140737488351232) :
    Calls Try.prog 7 #[.slice A k c, .slice B kb cb] w fun e w' => e = .returned (.bool true) ∧ Below w.heap.size w w' := by
  obtain rfl : b.length = kb := hr.1
  have hm2 : b.length ≤ 140737488351232 := by omega
  clear hm
  have H := Aside0.mk hA
  have HY := Aside0.mk (bytes_wf hb)
  have HRb := Aside0.mk hr
  have HLV := Aside0.mk (fun W => live_calls W)
  have HTL := Aside0.mk (takeF_len b (bytes_wf hb))
  clear hA hr hb
  go_enter Try.func7, Try.ntmps7
  go_wp2_with fail
  refine (put_all A k c rs w H.out).mono ?_
  rintro e w1 ⟨hb1, v1, rfl, ho1⟩
  obtain ⟨A1, c1, rfl⟩ := Kd.R_slice ho1
  have HB1 := Aside0.mk hb1
  have HO1 := Aside0.mk ho1
  clear hb1 ho1
  go_wp2_with fail
  refine (rput_all A k c rs w1 (H.out.below HB1.out)).mono ?_
  rintro e w2 ⟨hb2, v2, rfl, ho2⟩
  obtain ⟨A2, c2, rfl⟩ := Kd.R_slice ho2
  have HB2 := Aside0.mk (below_then HB1.out HB1.out.size hb2)
  have HO12 := Aside0.mk (Kd.R_below HO1.out hb2)
  have HO2 := Aside0.mk ho2
  have HB22 := Aside0.mk (Below.refl w2.heap.size w2)
  have HS1 := Aside0.mk hb2.size
  clear hb2 ho2
  have HN := Aside0.mk (Kd.R_made_nil (Kd.int .u8) w2 5)
  have HM := Aside0.mk (below_alloc HB22.out (.cells #[] 5))
  go_wp2_with ((with_reducible refine gate_builtin (b := .append) (xs := #[.tmp 25, .tmp 26]) rfl ?_); at_builtin; refine app (Kd.int .u8) (flat_int _) w2.heap.size (w0 := w2) (.tmp 25) (.tmp 26) 42 5 (.int .u8 0) 1 rfl rfl Try.underlying42 infoU8 rfl (by decide) (by decide) _ ([] : List Int) b B b.length cb rfl rfl ?aO ?aR ?aB ?aS ?aL ?_; (case aO => exact HN.out); (case aR => exact (Kd.C_below HRb.out (below_then HB2.out HB2.out.size HM.out))); (case aB => exact (by repeat (first | (with_reducible first | exact HM.out | apply below_alloc | apply pw_below_drewN | apply below_drew1) | exact HM.out))); (case aS => exact (below_size (by repeat (first | (with_reducible first | exact HM.out | apply below_alloc | apply pw_below_drewN | apply below_drew1) | exact HM.out)))); (case aL => exact (by simp; omega)); intro v3 w3 ho3 hb3 hg3 hat3; rw [List.nil_append] at ho3; have HO3 := Aside0.mk ho3; have HB3 := Aside0.mk hb3; clear ho3 hb3 hg3 hat3)
  obtain ⟨A3, c3, rfl, hc3, hr3⟩ := Kd.R_reads HO3.out
  have HR3 := Aside0.mk hr3
  clear hr3
  refine (take_calls A3 c3 b w3 HR3.out hc3 HY.out (by omega)).mono ?_
  rintro e w4 ⟨hb4, v4, rfl, ho4⟩
  obtain ⟨A4, c4, rfl⟩ := Kd.R_slice ho4
  have HB4 := Aside0.mk (below_then HB2.out HB2.out.size (HB3.out.trans (hb4.mono HB3.out.size)))
  have HB24 := Aside0.mk (HB3.out.trans (hb4.mono HB3.out.size))
  have HO34 := Aside0.mk (Kd.R_below HO3.out hb4)
  have HO4 := Aside0.mk ho4
  have HO14 := Aside0.mk (Kd.R_below HO12.out HB24.out)
  have HO24 := Aside0.mk (Kd.R_below HO2.out HB24.out)
  have HL1 := Aside0.mk (R_lt_size HO12.out)
  have HL2 := Aside0.mk (R_lt_size HO2.out)
  clear hb4 ho4 HO1 HO12 HO2 HB22 HN HM HO3 HR3 HB3
  go_wp2_with fail
  go_loopg [12] (b.length + 1) (fun gk v12 wr => ∃ (i : Nat) (ys : List Int), v12 = .int .i64 i ∧ i ≤ b.length ∧ Aside0 (gk = b.length - i + 1) ∧ Aside0 (ys.length = b.length) ∧ Aside0 (Kd.R (Kd.int .u8) 5 wr w2.heap.size (fun _ => True) (.slice A3 b.length c3) (ys)) ∧ Aside0 (w4.grownBy wr ((Value.slice A3 b.length c3).ownBlock)) ∧ Aside0 (Below w2.heap.size w2 wr))
  case atStart => exact ⟨0, b, rfl, Nat.zero_le _, ⟨rfl⟩, ⟨rfl⟩, HO34, ⟨⟨rfl, rfl, rfl, Nat.le_refl _, fun _ _ _ => rfl⟩⟩, HB24⟩
  case round =>
    obtain ⟨i, ys, rfl, hi, HG, HYL, HO, HGR, HBR⟩ := hrel
    by_cases hlt : i < b.length
    · have h1 : decide ((i : Int) < (b.length : Int)) = true := by simp; omega
      obtain ⟨j, rfl, hjb, hcell, hfz, hst⟩ := own_byte HO.out i hlt
      have hi1 : (0 : Int) ≤ (i : Int) := by omega
      have hi2 : (i : Int) < (b.length : Int) := by omega
      have HST := Aside0.mk (hst (bits .xor .u8 (rd ys i) 1))
      have HJ := Aside0.mk hjb
      clear hst hjb
      go_wp2
      go_roundg (b.length - (i + 1) + 1)
      case measure => have := HG.out; omega
      case rel => exact ⟨i + 1, ys.set i (bits .xor .u8 (rd ys i) 1), by go_num, by omega, ⟨rfl⟩, ⟨by rw [List.length_set]; exact HYL.out⟩, ⟨HST.out.1⟩, ⟨HGR.out.trans HST.out.2⟩, ⟨HBR.out.grown HST.out.2 HBR.out.size (fun m e => by injection e with e; rw [← e]; exact HJ.out)⟩⟩
    · obtain rfl : i = b.length := by omega
      have h1 : decide ((b.length : Int) < (b.length : Int)) = false := by simp
      have HBw := Aside0.mk (below_then HB2.out HB2.out.size HBR.out)
      have HP := Aside0.mk (R_kept_row flat_ref HO4.out (fun g hg => let ⟨cells, hc⟩ := Kd.R_typed HO34.out g hg; fun e => Kd.R_ne HO4.out hc (by decide) e.symm) HGR.out)
      have HX1 := Aside0.mk (R_kept_row (flat_int .u8) HO14.out (fun g hg e => by have := HL1.out g e; have := ((Kd.R_bound HO34.out).1 g hg).2.1; omega) HGR.out)
      have HX2 := Aside0.mk (R_kept_row (flat_int .u8) HO24.out (fun g hg e => by have := HL2.out g e; have := ((Kd.R_bound HO34.out).1 g hg).2.1; omega) HGR.out)
      clear HO HGR HBR HO14 HO24 HO34 HO4
      go_wp2_with fail
      refine (rtake_calls B cb b wr (Kd.C_below HRb.out HBw.out) hc HY.out (by omega)).mono ?_
      rintro e w5 ⟨hb5, v5, rfl, ho5⟩
      obtain ⟨A5, c5, rfl⟩ := Kd.R_slice ho5
      have HB5 := Aside0.mk (below_then HBw.out HBw.out.size hb5)
      have HO5 := Aside0.mk ho5
      have HP5 := Aside0.mk (Kd.R_below HP.out hb5)
      have HX15 := Aside0.mk (Kd.R_below HX1.out hb5)
      have HX25 := Aside0.mk (Kd.R_below HX2.out hb5)
      clear hb5 ho5 HBw HP HX1 HX2
      go_wp2_with fail
      refine (HLV.out w5).mono ?_
      rintro e w6 ⟨rfl, hb6⟩
      have HB6 := Aside0.mk (below_then HB5.out HB5.out.size hb6)
      have e1 := conv_own (P := Try.prog) 42 9 5 Try.underlying42 Try.underlying5 Try.underlying9 (Kd.R_below HX15.out hb6) rfl rfl
      have e2 := conv_own (P := Try.prog) 42 9 5 Try.underlying42 Try.underlying5 Try.underlying9 (Kd.R_below HX25.out hb6) rfl rfl
      have HSM := Aside0.mk (sameR_calls A4 A5 (takeF b).2.length c4 c5 (takeF b).2 w6 (refsC_of_R (Kd.R_below HP5.out hb6) HTL.out) (refsC_of_R (Kd.R_below HO5.out hb6) HTL.out))
      clear hb6 HP5 HX15 HX25 HO5
      generalize strOfNums (putF rs).2 = q at e1 e2
      go_wp2_with (go_at_call 21; (with_reducible refine (HSM.out).mono ?_); rintro e w' ⟨rfl, hb7⟩; have HB7 := Aside0.mk (below_then HB6.out HB6.out.size hb7); clear hb7)
      go_ret
      exact ⟨rfl, HB7.out⟩
set_option maxHeartbeats 8000000 in
set_option maxRecDepth 100000 in
theorem back_row (A : Option Addr) (k c : Nat) (rs : List Ref) (B : Option Addr) (kb cb : Nat) (b : List Int) (w : World) (hA : RefsC w A k rs) (_ : k ≤ c) (hr : Kd.C (Kd.int .u8) w B kb b) (hc : kb ≤ cb) (hb : ∀ x ∈ b, (Lit.int .u8 x).wf = true) (hm : kb * 1 ≤ 140737488351232) :
    Calls Try.prog 8 #[.slice A k c, .slice B kb cb] w fun e w' => e = .returned (.bool true) ∧ Below w.heap.size w w' := by
  obtain rfl : b.length = kb := hr.1
  have hm2 : b.length ≤ 140737488351232 := by omega
  clear hm
  have H := Aside0.mk hA
  have HY := Aside0.mk (bytes_wf hb)
  have HRb := Aside0.mk hr
  have HLV := Aside0.mk (fun W => live_calls W)
  have HTL := Aside0.mk (takeF_len b (bytes_wf hb))
  have HPB := Aside0.mk (putF_bytes hA.each)
  have HF1 : Aside0 ((putF rs).1 = 0 → takeF (putF rs).2 = (0, rs)) := ⟨fun h => by
    unfold putF at h ⊢
    split at h
    · cases h
    · rename_i hn
      split at h
      · rename_i ho
        rw [if_neg hn, if_pos ho]
        exact takeF_put rs hA.each ho (by omega)
      · cases h⟩
  have HF2 : Aside0 ((takeF b).1 = 0 → putF (takeF b).2 = (0, b)) := ⟨fun h => by
    obtain ⟨h1, h2, h3, h4⟩ := takeF_back (bytes_wf hb) h
    unfold putF
    rw [if_neg (by omega), if_pos h1, h4]⟩
  have HKL := Aside0.mk hA.len
  clear hA hr hb
  go_enter Try.func8, Try.ntmps8
  go_wp2_with fail
  refine (put_all A k c rs w H.out).mono ?_
  rintro e w1 ⟨hb1, v1, rfl, ho1⟩
  obtain ⟨A1, c1, rfl, hc1, hr1⟩ := Kd.R_reads ho1
  have HB1 := Aside0.mk hb1
  have HR1 := Aside0.mk hr1
  clear hb1 ho1 hr1
  go_wp2_with fail
  refine (take_calls A1 c1 (putF rs).2 w1 HR1.out hc1 HPB.out.1 (by have := HPB.out.2; omega)).mono ?_
  rintro e w2 ⟨hb2, v2, rfl, ho2⟩
  obtain ⟨A2, c2, rfl⟩ := Kd.R_slice ho2
  have HB2 := Aside0.mk (below_then HB1.out HB1.out.size hb2)
  have HO2 := Aside0.mk ho2
  clear hb2 ho2
  go_wp2_with fail
  refine (take_calls B cb b w2 (Kd.C_below HRb.out HB2.out) hc HY.out (by omega)).mono ?_
  rintro e w3 ⟨hb3, v3, rfl, ho3⟩
  obtain ⟨A3, c3, rfl⟩ := Kd.R_slice ho3
  have HB3 := Aside0.mk (below_then HB2.out HB2.out.size hb3)
  have HO23 := Aside0.mk (Kd.R_below HO2.out hb3)
  have HO3 := Aside0.mk ho3
  clear hb3 ho3
  go_wp2_with fail
  refine (put_all A3 _ c3 (takeF b).2 w3 (refsC_of_R HO3.out HTL.out)).mono ?_
  rintro e w4 ⟨hb4, v4, rfl, ho4⟩
  obtain ⟨A4, c4, rfl⟩ := Kd.R_slice ho4
  have HB4 := Aside0.mk (below_then HB3.out HB3.out.size hb4)
  have HO24 := Aside0.mk (Kd.R_below HO23.out hb4)
  have HO4 := Aside0.mk ho4
  clear hb4 ho4
  go_wp2_with fail
  refine (HLV.out w4).mono ?_
  rintro e w5 ⟨rfl, hb5⟩
  have HB5 := Aside0.mk (below_then HB4.out HB4.out.size hb5)
  have HO25 := Aside0.mk (Kd.R_below HO24.out hb5)
  have HO45 := Aside0.mk (Kd.R_below HO4.out hb5)
  clear hb5 HO2 HO23 HO24 HO4 HO3
  by_cases z1 : (putF rs).1 = 0
  · have g1 : ((putF rs).1 != 0) = false := by simp [z1]
    have hF := HF1.out z1
    have g2 : (((takeF (putF rs).2).1) == 0) = true := by rw [hF]; rfl
    have hrl : (takeF (putF rs).2).2.length = k := by rw [hF]; exact HKL.out
    have hlen : rs.length ≤ 64 := by
      unfold putF at z1
      split at z1
      · cases z1
      · omega
    have hRS : RefsC w5 A2 k rs := by
      have h0 := refsC_of_R HO25.out (by rw [hF]; exact hlen)
      rw [hF] at h0
      have h1 : RefsC w5 A2 rs.length rs := h0
      rwa [HKL.out] at h1
    have HSM := Aside0.mk (sameR_calls A2 A k c2 c rs w5 hRS (H.out.below HB5.out))
    clear z1 hF hlen hRS
    go_wp2_with fail
    refine HSM.out.mono ?_
    rintro e w6 ⟨rfl, hb6⟩
    have HB6 := Aside0.mk (below_then HB5.out HB5.out.size hb6)
    by_cases z2 : (takeF b).1 = 0
    · have g3 : ((takeF b).1 != 0) = false := by simp [z2]
      have hP := HF2.out z2
      have g4 : (((putF (takeF b).2).1) == 0) = true := by rw [hP]; rfl
      have e1 := conv_own (P := Try.prog) 42 9 5 Try.underlying42 Try.underlying5 Try.underlying9 (b := strOfNums b) (Kd.R_below HO45.out hb6) rfl (by rw [hP])
      have e2 := conv_read (P := Try.prog) 42 9 5 Try.underlying42 Try.underlying5 Try.underlying9 (c := cb) (b := strOfNums b) (Kd.C_below HRb.out HB6.out) rfl
      generalize strOfNums b = q at e1 e2
      clear z2 hP hb6
      go_wp2
      go_ret
      exact ⟨rfl, HB6.out⟩
    · have g3 : ((takeF b).1 != 0) = true := by simpa using z2
      clear z2 hb6
      go_wp2
      go_ret
      exact ⟨rfl, HB6.out⟩
  · have g1 : ((putF rs).1 != 0) = true := by simpa using z1
    clear z1
    by_cases z2 : (takeF b).1 = 0
    · have g3 : ((takeF b).1 != 0) = false := by simp [z2]
      have hP := HF2.out z2
      have g4 : (((putF (takeF b).2).1) == 0) = true := by rw [hP]; rfl
      have e1 := conv_own (P := Try.prog) 42 9 5 Try.underlying42 Try.underlying5 Try.underlying9 (b := strOfNums b) HO45.out rfl (by rw [hP])
      have e2 := conv_read (P := Try.prog) 42 9 5 Try.underlying42 Try.underlying5 Try.underlying9 (c := cb) (b := strOfNums b) (Kd.C_below HRb.out HB5.out) rfl
      generalize strOfNums b = q at e1 e2
      clear z2 hP
      go_wp2
      go_ret
      exact ⟨rfl, HB5.out⟩
    · have g3 : ((takeF b).1 != 0) = true := by simpa using z2
      clear z2
      go_wp2
      go_ret
      exact ⟨rfl, HB5.out⟩
end Go.Proofs.Ytkobolgbmfhpgaa.SgL5
