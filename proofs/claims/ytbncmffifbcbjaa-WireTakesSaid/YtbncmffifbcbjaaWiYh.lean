/- What the reference's Take of wire does at a list, for every frame; condition: the note so far is right. -/
import Derived.Test.YtbncmffifbcbjaaWiYd
namespace Go.Proofs.Ytbncmffifbcbjaa.WiYh
open Go Go.RowKit Go.Proofs.YtbncmffifbcbjaaW.PrintWords Go.Proofs.Ytbncmffifbcbjaa.K Go.Proofs.Ytbncmffifbcbjaa.OctS Go.Proofs.Ytbncmffifbcbjaa.OctP Go.Proofs.Ytbncmffifbcbjaa.Oct Go.Proofs.Ytbncmffifbcbjaa.Ap Go.Proofs.Ytbncmffifbcbjaa.Nm Go.Proofs.Ytbncmffifbcbjaa.Hl Go.Proofs.Ytbncmffifbcbjaa.WiA Go.Proofs.Ytbncmffifbcbjaa.WiB Go.Proofs.Ytbncmffifbcbjaa.WiD Go.Proofs.Ytbncmffifbcbjaa.WiE Go.Proofs.Ytbncmffifbcbjaa.WiF Go.Proofs.Ytbncmffifbcbjaa.WiG Go.Proofs.Ytbncmffifbcbjaa.WiT Go.Proofs.Ytbncmffifbcbjaa.WiR Go.Proofs.Ytbncmffifbcbjaa.WiU Go.Proofs.Ytbncmffifbcbjaa.WiV Go.Proofs.Ytbncmffifbcbjaa.WiM Go.Proofs.Ytbncmffifbcbjaa.WiW Go.Proofs.Ytbncmffifbcbjaa.WiTm Go.Proofs.Ytbncmffifbcbjaa.WiMf Go.Proofs.Ytbncmffifbcbjaa.WiYd
set_option linter.unusedVariables false
set_option linter.unusedSimpArgs false
set_option maxHeartbeats 16000000 in
set_option maxRecDepth 100000 in
theorem tailH : ∃ C, restB 7 Try.f13 = some C ∧ ∀ (A : Option Addr) (c : Nat) (b : List Int) (w W : World) (an : Nat) (say p0 : Int) (a0 : Ads) (k1 k3 k6 k8 k9 k10 k11 k12 k13 k14 k15 k16 k17 k18 k19 k20 k21 k22 k23 k24 k25 k26 k27 k28 k29 k30 k31 k32 k33 k34 k35 k36 k37 k38 k39 k40 k41 k42 k43 k44 k45 k46 k47 k48 k49 k50 k51 k52 k53 k54 k55 k56 k57 k58 k59 k60 k61 k62 k63 k64 k65 k66 k67 k68 k69 k70 k71 k72 k73 k74 k75 k76 k77 k78 k79 k80 k81 k82 k83 k84 k85 k86 k87 k88 k89 k90 k91 k92 k93 k94 k95 k96 k97 k98 k99 k100 k101 k102 k103 k104 k105 k106 k107 k108 k109 k110 k111 k112 k113 k114 k115 k116 k117 k118 k119 k120 k121 k122 k123 k124 k125 k126 k127 k128 k129 k130 k131 k132 k133 k134 k135 k136 k137 k138 k139 k140 k141 k142 k143 k144 k145 k146 k147 k148 k149 k150 k151 k152 k153 k154 k155 k156 k157 k158 k159 k160 k161 k162 k163 k164 k165 k166 k167 k168 k169 k170 k171 k172 k173 k174 k175 k176 k177 k178 k179 k180 k181 k182 k183 k184 k185 k186 k187 k188 k189 k190 k191 k192 k193 k194 k195 k196 k197 k198 k199 k200 k201 k202 k203 k204 k205 k206 k207 k208 k209 k210 k211 k212 k213 k214 k215 k216 k217 k218 k219 k220 k221 k222 k223 k224 k225 k226 k227 k228 k229 k230 k231 k232 k233 k234 k235 k236 k237 k238 : Value) (h2 : say = 2), Given w A c b → sayOf b = say → (s2 b).2 = ⟨p0, 0⟩ → (0 ≤ p0 ∧ p0 ≤ b.length) → Tm w W an (Lz w.heap.size) (s2 b).1 a0 → Code.wp Try.prog C (bodyPost Try.prog Try.f13 (fun e w' => ∃ a, e = .returned (.tuple #[.agg (noteV (takeF b).1 a), .int .i64 (takeF b).2]) ∧ NtR w' w.heap.size (takeF b).1 a ∧ Below w.heap.size w w')) ⟨#[.slice A b.length c, k1, .pointer (some ⟨w.heap.size, 0, none⟩), k3, .int .i64 say, .int .i64 p0, k6, .pointer (some ⟨an, 0, none⟩), k8, k9, k10, k11, k12, k13, k14, k15, k16, k17, k18, k19, k20, k21, k22, k23, k24, k25, k26, k27, k28, k29, k30, k31, k32, k33, k34, k35, k36, k37, k38, k39, k40, k41, k42, k43, k44, k45, k46, k47, k48, k49, k50, k51, k52, k53, k54, k55, k56, k57, k58, k59, k60, k61, k62, k63, k64, k65, k66, k67, k68, k69, k70, k71, k72, k73, k74, k75, k76, k77, k78, k79, k80, k81, k82, k83, k84, k85, k86, k87, k88, k89, k90, k91, k92, k93, k94, k95, k96, k97, k98, k99, k100, k101, k102, k103, k104, k105, k106, k107, k108, k109, k110, k111, k112, k113, k114, k115, k116, k117, k118, k119, k120, k121, k122, k123, k124, k125, k126, k127, k128, k129, k130, k131, k132, k133, k134, k135, k136, k137, k138, k139, k140, k141, k142, k143, k144, k145, k146, k147, k148, k149, k150, k151, k152, k153, k154, k155, k156, k157, k158, k159, k160, k161, k162, k163, k164, k165, k166, k167, k168, k169, k170, k171, k172, k173, k174, k175, k176, k177, k178, k179, k180, k181, k182, k183, k184, k185, k186, k187, k188, k189, k190, k191, k192, k193, k194, k195, k196, k197, k198, k199, k200, k201, k202, k203, k204, k205, k206, k207, k208, k209, k210, k211, k212, k213, k214, k215, k216, k217, k218, k219, k220, k221, k222, k223, k224, k225, k226, k227, k228, k229, k230, k231, k232, k233, k234, k235, k236, k237, k238], []⟩ W := by
  refine ⟨_, rfl, ?_⟩
  intro A c b w W an say p0 a0 k1 k3 k6 k8 k9 k10 k11 k12 k13 k14 k15 k16 k17 k18 k19 k20 k21 k22 k23 k24 k25 k26 k27 k28 k29 k30 k31 k32 k33 k34 k35 k36 k37 k38 k39 k40 k41 k42 k43 k44 k45 k46 k47 k48 k49 k50 k51 k52 k53 k54 k55 k56 k57 k58 k59 k60 k61 k62 k63 k64 k65 k66 k67 k68 k69 k70 k71 k72 k73 k74 k75 k76 k77 k78 k79 k80 k81 k82 k83 k84 k85 k86 k87 k88 k89 k90 k91 k92 k93 k94 k95 k96 k97 k98 k99 k100 k101 k102 k103 k104 k105 k106 k107 k108 k109 k110 k111 k112 k113 k114 k115 k116 k117 k118 k119 k120 k121 k122 k123 k124 k125 k126 k127 k128 k129 k130 k131 k132 k133 k134 k135 k136 k137 k138 k139 k140 k141 k142 k143 k144 k145 k146 k147 k148 k149 k150 k151 k152 k153 k154 k155 k156 k157 k158 k159 k160 k161 k162 k163 k164 k165 k166 k167 k168 k169 k170 k171 k172 k173 k174 k175 k176 k177 k178 k179 k180 k181 k182 k183 k184 k185 k186 k187 k188 k189 k190 k191 k192 k193 k194 k195 k196 k197 k198 k199 k200 k201 k202 k203 k204 k205 k206 k207 k208 k209 k210 k211 k212 k213 k214 k215 k216 k217 k218 k219 k220 k221 k222 k223 k224 k225 k226 k227 k228 k229 k230 k231 k232 k233 k234 k235 k236 k237 k238 h2 hG hso hs hi hT
  have HG := Aside0.mk hG
  have HTN := Aside0.mk (fun (pl : Int) (W : World) (hW : Below w.heap.size w W) => rtakeNum_calls A c b pl W (Kd.C_below hG.C hW) hG.hc hG.hb (Nat.le_trans hG.hm (by decide)))
  have HTT := Aside0.mk (fun (pl m : Int) (W : World) (hW : Below w.heap.size w W) => rtakeText_calls A c b pl m W (Kd.C_below hG.C hW) hG.hc hG.hb hG.hm)
  have hlen : b.length ≤ 140737488351232 := hG.hm
  have HSO := Aside0.mk hso
  have HSX := Aside0.mk hs
  have HIX := Aside0.mk hi
  have TX := Aside0.mk hT
  clear hG hso hs hi hT
  have c0 : W.cell? ⟨an, 0, none⟩ = some (.int .i64 say) := obj_cell TX.out.note 0 (by rw [← HSO.out, ← say_s2 b]; rfl)
  have g2 : (say == 2) = true := by simp [h2]
  have H2 := Aside0.mk h2
  clear h2
  go_upto_if 103 with fail
  go_cut [5] (fun s5 wx => ∃ (p : Int) (a : Ads), s5 = .int .i64 p ∧ Aside0 ((s4 b).2 = ⟨p, 0⟩) ∧ Aside0 (0 ≤ p ∧ p ≤ b.length) ∧ Aside0 (Tm w wx an (Lz w.heap.size) (s4 b).1 a))
  case first =>
    have HS4 : Aside0 (s4 b = listS (heldS b) b 64 (s2 b)) := ⟨by unfold s4 s3; rw [HSO.out, H2.out]; rfl⟩
    go_wp2_with fail
    refine (HTN.out p0 _ TX.out.b).mono ?_
    rintro e w4 ⟨rfl, rfl⟩
    by_cases he : (takeNum b p0).2.2 = 0
    case neg =>
      have h1 : ((takeNum b p0).2.2 != 0) = true := by simpa using he
      have hsy : (s4 b).2 = ⟨p0, (takeNum b p0).2.2⟩ := by
        rw [HS4.out]
        unfold listS
        rw [HSX.out, many_bad he]
        rfl
      clear c0
      have HTF := Aside0.mk (bad4 hsy he)
      go_upto_region 24 with fail
      refine WiEx.exit4 (x := 113) (y := 114) (z := 16) (g0 := w.heap.size) rfl rfl rfl rfl rfl rfl rfl rfl rfl rfl rfl rfl (by kernel_rfl) rfl rfl TX.out.ret (by assumption) (fun T' p2 p3 => ?_)
      exact ret_none HTF.out TX.out.ret TX.out.b p2 p3
    by_cases hk : (takeNum b p0).1 ≤ 64
    case neg =>
      have h1 : ((takeNum b p0).2.2 != 0) = false := by simpa using he
      have d1 : decide (64 < (takeNum b p0).1) = true := by simp only [decide_eq_true_eq]; omega
      have hsy : (s4 b).2 = ⟨(takeNum b p0).2.1, 6⟩ := by
        rw [HS4.out]
        unfold listS
        rw [HSX.out, many_much he hk]
        rfl
      have HTF := Aside0.mk (bad4 hsy (by decide))
      go_upto_region 26 with fail
      refine WiEx.exit3 (x := 126) (g0 := w.heap.size) rfl rfl rfl rfl rfl rfl rfl rfl rfl (by kernel_rfl) rfl TX.out.ret (by assumption) (fun T' p2 p3 => ?_)
      exact ret_none HTF.out TX.out.ret TX.out.b p2 p3
    have HS7 : Aside0 (s4 b = loopS (heldS b) (takeNum b p0).1.toNat ((s2 b).1, ⟨(takeNum b p0).2.1, 0⟩)) := ⟨by
      rw [HS4.out]
      unfold listS
      rw [HSX.out, many_ok he hk]⟩
    have HI7 := Aside0.mk (take_in HG.out.hb he)
    have HK0 := Aside0.mk (takeNum_ok b p0 HG.out.hb he).1
    obtain ⟨⟨k, at7, e7⟩, htt⟩ : ∃ t, t = takeNum b p0 := ⟨_, rfl⟩
    rw [← htt] at HS7 he HI7 HK0 hk ⊢
    clear htt HS4 HSX
    dsimp only at *
    subst he
    obtain ⟨K, rfl⟩ := Int.eq_ofNat_of_zero_le HK0.out
    have d1 : decide (64 < (K : Int)) = false := by simp only [decide_eq_false_iff_not]; omega
    have d2 : decide (256 < (K : Int)) = false := by simp only [decide_eq_false_iff_not]; omega
    rw [Int.toNat_natCast] at HS7
    go_wp2_with fail
    clear c0 d1 d2
    go_loopg [5, 17] (K + 1) (fun gk v5 v17 wr => ∃ (i : Nat) (t : Nt × Rs) (a : Ads) (p : Int), v5 = .int .i64 p ∧ v17 = .int .i64 i ∧ i ≤ K ∧ Aside0 (gk = K - i + 1) ∧ Aside0 (t.2 = ⟨p, 0⟩) ∧ Aside0 (0 ≤ p ∧ p ≤ b.length) ∧ Aside0 (loopS (heldS b) (K - i) t = s4 b) ∧ Aside0 (Tm w wr an (Lz w.heap.size) t.1 a) ∧ Aside0 (t.1.held.length + (K - i) ≤ 64) ∧ Aside0 (t.1.say = say))
    case atStart => exact ⟨0, ((s2 b).1, ⟨at7, 0⟩), _, at7, rfl, rfl, Nat.zero_le _, ⟨rfl⟩, ⟨rfl⟩, HI7, ⟨by rw [HS7.out, Nat.sub_zero]⟩, TX, ⟨by rw [(s2_held b).1]; simp only [List.length_nil]; omega⟩, ⟨by rw [← HSO.out, ← say_s2 b]⟩⟩
    case round =>
      obtain ⟨i, t, a, p, rfl, rfl, hi, HGK, HST, HIP, HLP, T, HLE, HSA⟩ := hrel
      by_cases hlt : i < K
      · have d1 : decide ((i : Int) < (K : Int)) = true := by simp only [decide_eq_true_eq]; omega
        obtain ⟨m, hm⟩ : ∃ m, K - i = m + 1 := ⟨K - i - 1, by omega⟩
        rw [hm] at HLP HLE
        have HM := Aside0.mk hm
        have HE0 : Aside0 (t.2.e = 0) := ⟨by rw [HST.out]⟩
        clear hm
        have c0 : wr.cell? ⟨an, 0, none⟩ = some (.int .i64 say) := obj_cell T.out.note 0 (by rw [← HSA.out]; rfl)
        have hal : (Below.heap_alloc wr (.cells #[.string ⟨#[]⟩, .int .i64 0] 46) an (Array.getElem?_eq_some_iff.1 T.out.note).1) = (Below.heap_alloc wr (.cells #[.string ⟨#[]⟩, .int .i64 0] 46) an (Array.getElem?_eq_some_iff.1 T.out.note).1) := rfl
        clear hal
        go_wp2_with fail
        obtain ⟨W7, hW7⟩ : ∃ X, X = wr.alloc (.cells #[.string ⟨#[]⟩, .int .i64 0] 46) := ⟨_, rfl⟩
        rw [← hW7]
        have T7 : Aside0 (Tm w W7 an (Lz w.heap.size) t.1 a) := ⟨by rw [hW7]; exact T.out.alloc _⟩
        have HH7 : Aside0 (W7.heap[wr.heap.size]? = some (.cells #[.string ⟨#[]⟩, .int .i64 0] 46 (0, 0))) := ⟨by rw [hW7]; exact heap_alloc_new wr _⟩
        have HZ7 : Aside0 (wr.heap.size < W7.heap.size) := ⟨by rw [hW7]; simp⟩
        have HGB : Aside0 (wr.heap.size ≤ wr.heap.size) := ⟨Nat.le_refl _⟩
        clear hW7 c0
        generalize hg : wr.heap.size = gh at *
        have HGH := Aside0.mk hg
        clear hg
        refine (HTT.out p 32 W7 T7.out.b).mono ?_
        rintro e w8 ⟨v8, rfl, hr8, hb8⟩
        have T8 := Aside0.mk (T7.out.below hb8)
        have HH8 := Aside0.mk ((hb8.block gh HZ7.out).trans HH7.out)
        by_cases he : (takeText b p 32).2.2 = 0
        case neg =>
          have h1 : ((takeText b p 32).2.2 != 0) = true := by simpa using he
          have hsy : (s4 b).2 = ⟨p, (takeText b p 32).2.2⟩ := by rw [← HLP.out]; exact loop_bad HE0.out (held_bad1 HST.out he) he
          clear hr8 hb8
          have HTF := Aside0.mk (bad4 hsy he)
          go_upto_region 35 with fail
          refine WiEx.exit4 (x := 146) (y := 147) (z := 21) (g0 := w.heap.size) rfl rfl rfl rfl rfl rfl rfl rfl rfl rfl rfl rfl (by kernel_rfl) rfl rfl T8.out.ret (by assumption) (fun T' p2 p3 => ?_)
          exact ret_none HTF.out T8.out.ret T8.out.b p2 p3
        have HIT := Aside0.mk (takeText_in HG.out.hb p 32 he)
        have HB2 := Aside0.mk (fun h2 => held_bad2 HST.out he h2)
        have HOK2 := Aside0.mk (fun h2 => held_ok HST.out he h2)
        obtain ⟨⟨l, at2, e2⟩, htt⟩ : ∃ t, t = takeText b p 32 := ⟨_, rfl⟩
        rw [← htt] at HB2 HOK2 he hr8 HIT ⊢
        clear htt
        dsimp only at *
        subst he
        obtain ⟨A2, c2, rfl⟩ := Kd.R_slice hr8
        have hcv := conv_own (P := Try.prog) (c := c2) 25 9 5 Try.underlying25 Try.underlying5 Try.underlying9 hr8 rfl rfl
        have c1 := obj_cell (v := .string ⟨#[]⟩) HH8.out 0 rfl
        have f1 := obj_free HH8.out 0
        have HH9 := Aside0.mk (obj_set HH8.out 0 (.string (strOfNums l)))
        have T9 := Aside0.mk (T8.out.fresh T.out (g := gh) (by rw [HGH.out]; exact Nat.le_refl _) (grown_set w8 gh 0 (.string (strOfNums l))))
        clear hr8 hb8
        go_wp2_with fail
        refine (HTN.out at2 _ T9.out.b).mono ?_
        rintro e w10 ⟨rfl, rfl⟩
        clear c1 f1 hcv
        have c1 := obj_cell (v := .int .i64 0) HH9.out 1 rfl
        have f1 := obj_free HH9.out 1
        have HH10 := Aside0.mk (obj_set HH9.out 1 (.int .i64 (takeNum b at2).1))
        have T10 := Aside0.mk (T9.out.fresh T.out (g := gh) (by rw [HGH.out]; exact Nat.le_refl _) (grown_set _ gh 1 (.int .i64 (takeNum b at2).1)))
        by_cases he : (takeNum b at2).2.2 = 0
        case neg =>
          have h1 : ((takeNum b at2).2.2 != 0) = true := by simpa using he
          have hsy : (s4 b).2 = ⟨at2, (takeNum b at2).2.2⟩ := by rw [← HLP.out]; exact loop_bad HE0.out (HB2.out he) he
          have HTF := Aside0.mk (bad4 hsy he)
          go_upto_region 39 with fail
          refine WiEx.exit4 (x := 161) (y := 162) (z := 21) (g0 := w.heap.size) rfl rfl rfl rfl rfl rfl rfl rfl rfl rfl rfl rfl (by kernel_rfl) rfl rfl T10.out.ret (by assumption) (fun T' p2 p3 => ?_)
          exact ret_none HTF.out T10.out.ret T10.out.b p2 p3
        have HOK3 := Aside0.mk (HOK2.out he)
        have HI4 := Aside0.mk (take_in HG.out.hb he)
        have HWF : Aside0 (Hl.Ok ⟨strOfNums l, (takeNum b at2).1⟩) := ⟨⟨by simp only; rw [strOf_size]; have := HIT.out.2.2; omega, by have := takeNum_in HG.out.hb at2; exact wf_i64 (by simp only; omega) (by simp only; omega)⟩⟩
        obtain ⟨⟨gen, at4, e4⟩, htt⟩ : ∃ t, t = takeNum b at2 := ⟨_, rfl⟩
        rw [← htt] at HOK3 he HI4 HH10 T10 HWF ⊢
        clear htt HB2 HOK2
        dsimp only at *
        subst he
        have x0 := obj_cell (v := .string (strOfNums l)) HH10.out 0 rfl
        have x1 := obj_cell (v := .int .i64 gen) HH10.out 1 rfl
        have c4 := obj_cell (v := .slice a.ah t.1.held.length a.ch) T10.out.note 4 rfl
        have HLP2 : Aside0 (loopS (heldS b) m (heldS b t) = s4 b) := ⟨by rw [← HLP.out, loop_step HE0.out]⟩
        rw [HOK3.out] at HLP2
        go_wp2_with (first
          | ((with_reducible refine gate_ (.buildSlice 23 1 #[(0, .tmp 165)]) rfl ?_); refine Lit.wpList_lit1 rfl _ 46 (.tmp 165) rfl [.string (strOfNums l), .int .i64 gen] rfl Try.underlying23 infoHl rfl (by decide) (by decide) ?_)
          | ((with_reducible refine gate_builtin (b := .append) (xs := #[.tmp 164, .tmp 166]) rfl ?_); at_builtin; refine app1 dHl flat_hl w.heap.size (w0 := w) (.tmp 164) (.tmp 166) 23 46 _ 24 rfl rfl Try.underlying23 infoHl rfl (by decide) (by decide) _ t.1.held ⟨strOfNums l, gen⟩ [.string (strOfNums l), .int .i64 gen] rfl rfl ⟨HWF.out, rfl⟩ T10.out.r.h T10.out.b T10.out.b.size (by have := HLE.out; omega) ?_; intro v9 w9 ho9 hb9 hg9 hat9; obtain ⟨A9, c9, rfl⟩ := Kd.R_slice ho9; have t11 := T10.out.pushH ho9 hg9; rw [List.length_append] at t11; have T11 := Aside0.mk t11; clear c1 f1; have c1 := obj_cell (v := .slice a.ah t.1.held.length a.ch) (T10.out.noteH hg9) 4 rfl; have f1 := obj_free (T10.out.noteH hg9) 4; clear t11 ho9 hb9 hg9 hat9))
        go_roundg (K - (i + 1) + 1)
        case measure => have := HGK.out; omega
        case rel => exact ⟨i + 1, ({ t.1 with held := t.1.held ++ [⟨strOfNums l, gen⟩] }, ⟨at4, 0⟩), _, at4, rfl, by go_num, by omega, ⟨rfl⟩, ⟨rfl⟩, HI4, ⟨by rw [← HLP2.out]; congr 1; have := HM.out; omega⟩, T11, ⟨by have := HLE.out; have := HM.out; simp only [List.length_append, List.length_cons, List.length_nil]; omega⟩, ⟨HSA.out⟩⟩
      · obtain rfl : i = K := by omega
        have d1 : decide ((i : Int) < (i : Int)) = false := by simp
        have HF : Aside0 (s4 b = t) := ⟨by rw [← HLP.out, Nat.sub_self]; rfl⟩
        clear hlt
        go_wp2_with fail
        go_meet
        exact ⟨p, _, rfl, ⟨by rw [HF.out]; exact HST.out⟩, HIP, ⟨by rw [HF.out]; exact T.out⟩⟩
  case rest =>
  obtain ⟨p1, a1, rfl, HS9, HI9, T9⟩ := hcut
  refine step_k (by assumption) ?_
  exact useC tailC rfl _ _ _ _ _ _ _ _ _ _ _ _ _ _ _ _ _ _ _ _ _ _ _ _ _ _ _ _ _ _ _ _ _ _ _ _ _ _ _ _ _ _ _ _ _ _ _ _ _ _ _ _ _ _ _ _ _ _ _ _ _ _ _ _ _ _ _ _ _ _ _ _ _ _ _ _ _ _ _ _ _ _ _ _ _ _ _ _ _ _ _ _ _ _ _ _ _ _ _ _ _ _ _ _ _ _ _ _ _ _ _ _ _ _ _ _ _ _ _ _ _ _ _ _ _ _ _ _ _ _ _ _ _ _ _ _ _ _ _ _ _ _ _ _ _ _ _ _ _ _ _ _ _ _ _ _ _ _ _ _ _ _ _ _ _ _ _ _ _ _ _ _ _ _ _ _ _ _ _ _ _ _ _ _ _ _ _ _ _ _ _ _ _ _ _ _ _ _ _ _ _ _ _ _ _ _ _ _ _ _ _ _ _ _ _ _ _ _ _ _ _ _ _ _ _ _ _ _ _ _ _ _ _ _ _ _ _ _ _ _ _ _ _ HG.out HSO.out HS9.out HI9.out T9.out
set_option maxHeartbeats 16000000 in
set_option maxRecDepth 100000 in
theorem tailZ : ∃ C, restB 7 Try.f13 = some C ∧ ∀ (A : Option Addr) (c : Nat) (b : List Int) (w W : World) (an : Nat) (say p0 : Int) (a0 : Ads) (k1 k3 k6 k8 k9 k10 k11 k12 k13 k14 k15 k16 k17 k18 k19 k20 k21 k22 k23 k24 k25 k26 k27 k28 k29 k30 k31 k32 k33 k34 k35 k36 k37 k38 k39 k40 k41 k42 k43 k44 k45 k46 k47 k48 k49 k50 k51 k52 k53 k54 k55 k56 k57 k58 k59 k60 k61 k62 k63 k64 k65 k66 k67 k68 k69 k70 k71 k72 k73 k74 k75 k76 k77 k78 k79 k80 k81 k82 k83 k84 k85 k86 k87 k88 k89 k90 k91 k92 k93 k94 k95 k96 k97 k98 k99 k100 k101 k102 k103 k104 k105 k106 k107 k108 k109 k110 k111 k112 k113 k114 k115 k116 k117 k118 k119 k120 k121 k122 k123 k124 k125 k126 k127 k128 k129 k130 k131 k132 k133 k134 k135 k136 k137 k138 k139 k140 k141 k142 k143 k144 k145 k146 k147 k148 k149 k150 k151 k152 k153 k154 k155 k156 k157 k158 k159 k160 k161 k162 k163 k164 k165 k166 k167 k168 k169 k170 k171 k172 k173 k174 k175 k176 k177 k178 k179 k180 k181 k182 k183 k184 k185 k186 k187 k188 k189 k190 k191 k192 k193 k194 k195 k196 k197 k198 k199 k200 k201 k202 k203 k204 k205 k206 k207 k208 k209 k210 k211 k212 k213 k214 k215 k216 k217 k218 k219 k220 k221 k222 k223 k224 k225 k226 k227 k228 k229 k230 k231 k232 k233 k234 k235 k236 k237 k238 : Value) (h2 : say ≠ 2) (h4 : say ≠ 4), Given w A c b → sayOf b = say → (s2 b).2 = ⟨p0, 0⟩ → (0 ≤ p0 ∧ p0 ≤ b.length) → Tm w W an (Lz w.heap.size) (s2 b).1 a0 → Code.wp Try.prog C (bodyPost Try.prog Try.f13 (fun e w' => ∃ a, e = .returned (.tuple #[.agg (noteV (takeF b).1 a), .int .i64 (takeF b).2]) ∧ NtR w' w.heap.size (takeF b).1 a ∧ Below w.heap.size w w')) ⟨#[.slice A b.length c, k1, .pointer (some ⟨w.heap.size, 0, none⟩), k3, .int .i64 say, .int .i64 p0, k6, .pointer (some ⟨an, 0, none⟩), k8, k9, k10, k11, k12, k13, k14, k15, k16, k17, k18, k19, k20, k21, k22, k23, k24, k25, k26, k27, k28, k29, k30, k31, k32, k33, k34, k35, k36, k37, k38, k39, k40, k41, k42, k43, k44, k45, k46, k47, k48, k49, k50, k51, k52, k53, k54, k55, k56, k57, k58, k59, k60, k61, k62, k63, k64, k65, k66, k67, k68, k69, k70, k71, k72, k73, k74, k75, k76, k77, k78, k79, k80, k81, k82, k83, k84, k85, k86, k87, k88, k89, k90, k91, k92, k93, k94, k95, k96, k97, k98, k99, k100, k101, k102, k103, k104, k105, k106, k107, k108, k109, k110, k111, k112, k113, k114, k115, k116, k117, k118, k119, k120, k121, k122, k123, k124, k125, k126, k127, k128, k129, k130, k131, k132, k133, k134, k135, k136, k137, k138, k139, k140, k141, k142, k143, k144, k145, k146, k147, k148, k149, k150, k151, k152, k153, k154, k155, k156, k157, k158, k159, k160, k161, k162, k163, k164, k165, k166, k167, k168, k169, k170, k171, k172, k173, k174, k175, k176, k177, k178, k179, k180, k181, k182, k183, k184, k185, k186, k187, k188, k189, k190, k191, k192, k193, k194, k195, k196, k197, k198, k199, k200, k201, k202, k203, k204, k205, k206, k207, k208, k209, k210, k211, k212, k213, k214, k215, k216, k217, k218, k219, k220, k221, k222, k223, k224, k225, k226, k227, k228, k229, k230, k231, k232, k233, k234, k235, k236, k237, k238], []⟩ W := by
  refine ⟨_, rfl, ?_⟩
  intro A c b w W an say p0 a0 k1 k3 k6 k8 k9 k10 k11 k12 k13 k14 k15 k16 k17 k18 k19 k20 k21 k22 k23 k24 k25 k26 k27 k28 k29 k30 k31 k32 k33 k34 k35 k36 k37 k38 k39 k40 k41 k42 k43 k44 k45 k46 k47 k48 k49 k50 k51 k52 k53 k54 k55 k56 k57 k58 k59 k60 k61 k62 k63 k64 k65 k66 k67 k68 k69 k70 k71 k72 k73 k74 k75 k76 k77 k78 k79 k80 k81 k82 k83 k84 k85 k86 k87 k88 k89 k90 k91 k92 k93 k94 k95 k96 k97 k98 k99 k100 k101 k102 k103 k104 k105 k106 k107 k108 k109 k110 k111 k112 k113 k114 k115 k116 k117 k118 k119 k120 k121 k122 k123 k124 k125 k126 k127 k128 k129 k130 k131 k132 k133 k134 k135 k136 k137 k138 k139 k140 k141 k142 k143 k144 k145 k146 k147 k148 k149 k150 k151 k152 k153 k154 k155 k156 k157 k158 k159 k160 k161 k162 k163 k164 k165 k166 k167 k168 k169 k170 k171 k172 k173 k174 k175 k176 k177 k178 k179 k180 k181 k182 k183 k184 k185 k186 k187 k188 k189 k190 k191 k192 k193 k194 k195 k196 k197 k198 k199 k200 k201 k202 k203 k204 k205 k206 k207 k208 k209 k210 k211 k212 k213 k214 k215 k216 k217 k218 k219 k220 k221 k222 k223 k224 k225 k226 k227 k228 k229 k230 k231 k232 k233 k234 k235 k236 k237 k238 h2 h4 hG hso hs hi hT
  have HG := Aside0.mk hG
  have HTN := Aside0.mk (fun (pl : Int) (W : World) (hW : Below w.heap.size w W) => rtakeNum_calls A c b pl W (Kd.C_below hG.C hW) hG.hc hG.hb (Nat.le_trans hG.hm (by decide)))
  have HTT := Aside0.mk (fun (pl m : Int) (W : World) (hW : Below w.heap.size w W) => rtakeText_calls A c b pl m W (Kd.C_below hG.C hW) hG.hc hG.hb hG.hm)
  have hlen : b.length ≤ 140737488351232 := hG.hm
  have HSO := Aside0.mk hso
  have HSX := Aside0.mk hs
  have HIX := Aside0.mk hi
  have TX := Aside0.mk hT
  clear hG hso hs hi hT
  have c0 : W.cell? ⟨an, 0, none⟩ = some (.int .i64 say) := obj_cell TX.out.note 0 (by rw [← HSO.out, ← say_s2 b]; rfl)
  have g2 : (say == 2) = false := by simp [h2]
  have g4 : (say == 4) = false := by simp [h4]
  have HS4 : Aside0 (s4 b = s2 b) := ⟨by unfold s4 s3; rw [HSO.out, show hasP say = false by simp [hasP, h4], show hasH say = false by simp [hasH, h2]]; rfl⟩
  clear h2 h4
  go_upto_if 103 with fail
  go_cut [5] (fun s5 wx => ∃ (p : Int) (a : Ads), s5 = .int .i64 p ∧ Aside0 ((s4 b).2 = ⟨p, 0⟩) ∧ Aside0 (0 ≤ p ∧ p ≤ b.length) ∧ Aside0 (Tm w wx an (Lz w.heap.size) (s4 b).1 a))
  case first =>
    go_wp2_with fail
    go_meet
    exact ⟨p0, _, rfl, ⟨by rw [HS4.out]; exact HSX.out⟩, HIX, ⟨by rw [HS4.out]; exact TX.out⟩⟩
  case rest =>
  obtain ⟨p1, a1, rfl, HS9, HI9, T9⟩ := hcut
  refine step_k (by assumption) ?_
  exact useC tailC rfl _ _ _ _ _ _ _ _ _ _ _ _ _ _ _ _ _ _ _ _ _ _ _ _ _ _ _ _ _ _ _ _ _ _ _ _ _ _ _ _ _ _ _ _ _ _ _ _ _ _ _ _ _ _ _ _ _ _ _ _ _ _ _ _ _ _ _ _ _ _ _ _ _ _ _ _ _ _ _ _ _ _ _ _ _ _ _ _ _ _ _ _ _ _ _ _ _ _ _ _ _ _ _ _ _ _ _ _ _ _ _ _ _ _ _ _ _ _ _ _ _ _ _ _ _ _ _ _ _ _ _ _ _ _ _ _ _ _ _ _ _ _ _ _ _ _ _ _ _ _ _ _ _ _ _ _ _ _ _ _ _ _ _ _ _ _ _ _ _ _ _ _ _ _ _ _ _ _ _ _ _ _ _ _ _ _ _ _ _ _ _ _ _ _ _ _ _ _ _ _ _ _ _ _ _ _ _ _ _ _ _ _ _ _ _ _ _ _ _ _ _ _ _ _ _ _ _ _ _ _ _ _ _ _ _ _ _ _ _ _ _ _ _ HG.out HSO.out HS9.out HI9.out T9.out
set_option maxHeartbeats 16000000 in
set_option maxRecDepth 100000 in
theorem tailG : ∃ C, restB 7 Try.f13 = some C ∧ ∀ (A : Option Addr) (c : Nat) (b : List Int) (w W : World) (an : Nat) (say p0 : Int) (a0 : Ads) (k1 k3 k6 k8 k9 k10 k11 k12 k13 k14 k15 k16 k17 k18 k19 k20 k21 k22 k23 k24 k25 k26 k27 k28 k29 k30 k31 k32 k33 k34 k35 k36 k37 k38 k39 k40 k41 k42 k43 k44 k45 k46 k47 k48 k49 k50 k51 k52 k53 k54 k55 k56 k57 k58 k59 k60 k61 k62 k63 k64 k65 k66 k67 k68 k69 k70 k71 k72 k73 k74 k75 k76 k77 k78 k79 k80 k81 k82 k83 k84 k85 k86 k87 k88 k89 k90 k91 k92 k93 k94 k95 k96 k97 k98 k99 k100 k101 k102 k103 k104 k105 k106 k107 k108 k109 k110 k111 k112 k113 k114 k115 k116 k117 k118 k119 k120 k121 k122 k123 k124 k125 k126 k127 k128 k129 k130 k131 k132 k133 k134 k135 k136 k137 k138 k139 k140 k141 k142 k143 k144 k145 k146 k147 k148 k149 k150 k151 k152 k153 k154 k155 k156 k157 k158 k159 k160 k161 k162 k163 k164 k165 k166 k167 k168 k169 k170 k171 k172 k173 k174 k175 k176 k177 k178 k179 k180 k181 k182 k183 k184 k185 k186 k187 k188 k189 k190 k191 k192 k193 k194 k195 k196 k197 k198 k199 k200 k201 k202 k203 k204 k205 k206 k207 k208 k209 k210 k211 k212 k213 k214 k215 k216 k217 k218 k219 k220 k221 k222 k223 k224 k225 k226 k227 k228 k229 k230 k231 k232 k233 k234 k235 k236 k237 k238 : Value) (h4 : say = 4), Given w A c b → sayOf b = say → (s2 b).2 = ⟨p0, 0⟩ → (0 ≤ p0 ∧ p0 ≤ b.length) → Tm w W an (Lz w.heap.size) (s2 b).1 a0 → Code.wp Try.prog C (bodyPost Try.prog Try.f13 (fun e w' => ∃ a, e = .returned (.tuple #[.agg (noteV (takeF b).1 a), .int .i64 (takeF b).2]) ∧ NtR w' w.heap.size (takeF b).1 a ∧ Below w.heap.size w w')) ⟨#[.slice A b.length c, k1, .pointer (some ⟨w.heap.size, 0, none⟩), k3, .int .i64 say, .int .i64 p0, k6, .pointer (some ⟨an, 0, none⟩), k8, k9, k10, k11, k12, k13, k14, k15, k16, k17, k18, k19, k20, k21, k22, k23, k24, k25, k26, k27, k28, k29, k30, k31, k32, k33, k34, k35, k36, k37, k38, k39, k40, k41, k42, k43, k44, k45, k46, k47, k48, k49, k50, k51, k52, k53, k54, k55, k56, k57, k58, k59, k60, k61, k62, k63, k64, k65, k66, k67, k68, k69, k70, k71, k72, k73, k74, k75, k76, k77, k78, k79, k80, k81, k82, k83, k84, k85, k86, k87, k88, k89, k90, k91, k92, k93, k94, k95, k96, k97, k98, k99, k100, k101, k102, k103, k104, k105, k106, k107, k108, k109, k110, k111, k112, k113, k114, k115, k116, k117, k118, k119, k120, k121, k122, k123, k124, k125, k126, k127, k128, k129, k130, k131, k132, k133, k134, k135, k136, k137, k138, k139, k140, k141, k142, k143, k144, k145, k146, k147, k148, k149, k150, k151, k152, k153, k154, k155, k156, k157, k158, k159, k160, k161, k162, k163, k164, k165, k166, k167, k168, k169, k170, k171, k172, k173, k174, k175, k176, k177, k178, k179, k180, k181, k182, k183, k184, k185, k186, k187, k188, k189, k190, k191, k192, k193, k194, k195, k196, k197, k198, k199, k200, k201, k202, k203, k204, k205, k206, k207, k208, k209, k210, k211, k212, k213, k214, k215, k216, k217, k218, k219, k220, k221, k222, k223, k224, k225, k226, k227, k228, k229, k230, k231, k232, k233, k234, k235, k236, k237, k238], []⟩ W := by
  refine ⟨_, rfl, ?_⟩
  intro A c b w W an say p0 a0 k1 k3 k6 k8 k9 k10 k11 k12 k13 k14 k15 k16 k17 k18 k19 k20 k21 k22 k23 k24 k25 k26 k27 k28 k29 k30 k31 k32 k33 k34 k35 k36 k37 k38 k39 k40 k41 k42 k43 k44 k45 k46 k47 k48 k49 k50 k51 k52 k53 k54 k55 k56 k57 k58 k59 k60 k61 k62 k63 k64 k65 k66 k67 k68 k69 k70 k71 k72 k73 k74 k75 k76 k77 k78 k79 k80 k81 k82 k83 k84 k85 k86 k87 k88 k89 k90 k91 k92 k93 k94 k95 k96 k97 k98 k99 k100 k101 k102 k103 k104 k105 k106 k107 k108 k109 k110 k111 k112 k113 k114 k115 k116 k117 k118 k119 k120 k121 k122 k123 k124 k125 k126 k127 k128 k129 k130 k131 k132 k133 k134 k135 k136 k137 k138 k139 k140 k141 k142 k143 k144 k145 k146 k147 k148 k149 k150 k151 k152 k153 k154 k155 k156 k157 k158 k159 k160 k161 k162 k163 k164 k165 k166 k167 k168 k169 k170 k171 k172 k173 k174 k175 k176 k177 k178 k179 k180 k181 k182 k183 k184 k185 k186 k187 k188 k189 k190 k191 k192 k193 k194 k195 k196 k197 k198 k199 k200 k201 k202 k203 k204 k205 k206 k207 k208 k209 k210 k211 k212 k213 k214 k215 k216 k217 k218 k219 k220 k221 k222 k223 k224 k225 k226 k227 k228 k229 k230 k231 k232 k233 k234 k235 k236 k237 k238 h4 hG hso hs hi hT
  have HG := Aside0.mk hG
  have HTN := Aside0.mk (fun (pl : Int) (W : World) (hW : Below w.heap.size w W) => rtakeNum_calls A c b pl W (Kd.C_below hG.C hW) hG.hc hG.hb (Nat.le_trans hG.hm (by decide)))
  have HTT := Aside0.mk (fun (pl m : Int) (W : World) (hW : Below w.heap.size w W) => rtakeText_calls A c b pl m W (Kd.C_below hG.C hW) hG.hc hG.hb hG.hm)
  have hlen : b.length ≤ 140737488351232 := hG.hm
  have HSO := Aside0.mk hso
  have HSX := Aside0.mk hs
  have HIX := Aside0.mk hi
  have TX := Aside0.mk hT
  clear hG hso hs hi hT
  have c0 : W.cell? ⟨an, 0, none⟩ = some (.int .i64 say) := obj_cell TX.out.note 0 (by rw [← HSO.out, ← say_s2 b]; rfl)
  have g2 : (say == 2) = false := by simp [h4]
  have g4 : (say == 4) = true := by simp [h4]
  have H4 := Aside0.mk h4
  clear h4
  go_upto_if 103 with fail
  go_cut [5] (fun s5 wx => ∃ (p : Int) (a : Ads), s5 = .int .i64 p ∧ Aside0 ((s4 b).2 = ⟨p, 0⟩) ∧ Aside0 (0 ≤ p ∧ p ≤ b.length) ∧ Aside0 (Tm w wx an (Lz w.heap.size) (s4 b).1 a))
  case first =>
    have HS4 : Aside0 (s4 b = listS (partS b) b 256 (s2 b)) := ⟨by unfold s4 s3; rw [HSO.out, H4.out]; rfl⟩
    go_wp2_with fail
    refine (HTN.out p0 _ TX.out.b).mono ?_
    rintro e w4 ⟨rfl, rfl⟩
    by_cases he : (takeNum b p0).2.2 = 0
    case neg =>
      have h1 : ((takeNum b p0).2.2 != 0) = true := by simpa using he
      have hsy : (s4 b).2 = ⟨p0, (takeNum b p0).2.2⟩ := by
        rw [HS4.out]
        unfold listS
        rw [HSX.out, many_bad he]
        rfl
      clear c0
      have HTF := Aside0.mk (bad4 hsy he)
      go_upto_region 24 with fail
      refine WiEx.exit4 (x := 113) (y := 114) (z := 16) (g0 := w.heap.size) rfl rfl rfl rfl rfl rfl rfl rfl rfl rfl rfl rfl (by kernel_rfl) rfl rfl TX.out.ret (by assumption) (fun T' p2 p3 => ?_)
      exact ret_none HTF.out TX.out.ret TX.out.b p2 p3
    by_cases hk : (takeNum b p0).1 ≤ 256
    case neg =>
      have h1 : ((takeNum b p0).2.2 != 0) = false := by simpa using he
      have d1 : decide (256 < (takeNum b p0).1) = true := by simp only [decide_eq_true_eq]; omega
      have hsy : (s4 b).2 = ⟨(takeNum b p0).2.1, 6⟩ := by
        rw [HS4.out]
        unfold listS
        rw [HSX.out, many_much he hk]
        rfl
      have HTF := Aside0.mk (bad4 hsy (by decide))
      go_upto_region 26 with fail
      refine WiEx.exit3 (x := 126) (g0 := w.heap.size) rfl rfl rfl rfl rfl rfl rfl rfl rfl (by kernel_rfl) rfl TX.out.ret (by assumption) (fun T' p2 p3 => ?_)
      exact ret_none HTF.out TX.out.ret TX.out.b p2 p3
    have HS7 : Aside0 (s4 b = loopS (partS b) (takeNum b p0).1.toNat ((s2 b).1, ⟨(takeNum b p0).2.1, 0⟩)) := ⟨by
      rw [HS4.out]
      unfold listS
      rw [HSX.out, many_ok he hk]⟩
    have HI7 := Aside0.mk (take_in HG.out.hb he)
    have HK0 := Aside0.mk (takeNum_ok b p0 HG.out.hb he).1
    obtain ⟨⟨k, at7, e7⟩, htt⟩ : ∃ t, t = takeNum b p0 := ⟨_, rfl⟩
    rw [← htt] at HS7 he HI7 HK0 hk ⊢
    clear htt HS4 HSX
    dsimp only at *
    subst he
    obtain ⟨K, rfl⟩ := Int.eq_ofNat_of_zero_le HK0.out
    have d2 : decide (256 < (K : Int)) = false := by simp only [decide_eq_false_iff_not]; omega
    rw [Int.toNat_natCast] at HS7
    go_wp2_with fail
    clear c0 d2
    have HZV := Aside0.mk zeroPt2
    have HBU := Aside0.mk built0
    have HUP := Aside0.mk Try.underlying51
    go_loopg [5, 17] (K + 1) (fun gk v5 v17 wr => ∃ (i : Nat) (t : Nt × Rs) (a : Ads) (p : Nat), v5 = .int .i64 (p : Int) ∧ v17 = .int .i64 i ∧ i ≤ K ∧ Aside0 (gk = K - i + 1) ∧ Aside0 (t.2 = ⟨(p : Int), 0⟩) ∧ Aside0 (p ≤ b.length) ∧ Aside0 (loopS (partS b) (K - i) t = s4 b) ∧ Aside0 (Tm w wr an (Lz w.heap.size) t.1 a) ∧ Aside0 (t.1.parts.length + (K - i) ≤ 256) ∧ Aside0 (t.1.say = say))
    case atStart =>
      obtain ⟨p7, hp7⟩ := Int.eq_ofNat_of_zero_le HI7.out.1
      subst hp7
      exact ⟨0, ((s2 b).1, ⟨(p7 : Int), 0⟩), _, p7, rfl, rfl, Nat.zero_le _, ⟨rfl⟩, ⟨rfl⟩, ⟨by have := HI7.out.2; omega⟩, ⟨by rw [HS7.out, Nat.sub_zero]⟩, TX, ⟨by rw [(s2_held b).2]; simp only [List.length_nil]; omega⟩, ⟨by rw [← HSO.out, ← say_s2 b]⟩⟩
    case round =>
      obtain ⟨i, t, a, p, rfl, rfl, hi, HGK, HST, HIP, HLP, T, HLE, HSA⟩ := hrel
      by_cases hlt : i < K
      · have d1 : decide ((i : Int) < (K : Int)) = true := by simp only [decide_eq_true_eq]; omega
        obtain ⟨m, hm⟩ : ∃ m, K - i = m + 1 := ⟨K - i - 1, by omega⟩
        rw [hm] at HLP HLE
        have HM := Aside0.mk hm
        have HE0 : Aside0 (t.2.e = 0) := ⟨by rw [HST.out]⟩
        clear hm
        have hpl := HIP.out
        have c0 : wr.cell? ⟨an, 0, none⟩ = some (.int .i64 say) := obj_cell T.out.note 0 (by rw [← HSA.out]; rfl)
        have hw1 : IntKind.i64.wrap ((b.length : Int) - (p : Int)) = (b.length : Int) - (p : Int) := IntWalk.i64_in _ (by omega)
        by_cases hs : 32 ≤ (b.length : Int) - (p : Int)
        case neg =>
          have d2 : decide ((b.length : Int) - (p : Int) < 32) = true := by simp only [decide_eq_true_eq]; omega
          have hsy : (s4 b).2 = ⟨(p : Int), 3⟩ := by rw [← HLP.out]; exact loop_bad HE0.out (part_bad1 HST.out hs) (by decide)
          clear hs
          have HTF := Aside0.mk (bad4 hsy (by decide))
          go_upto_region 42 with fail
          refine WiEx.exit3 (x := 174) (g0 := w.heap.size) rfl rfl rfl rfl rfl rfl rfl rfl rfl (by kernel_rfl) rfl T.out.ret (by assumption) (fun T' p2 p3 => ?_)
          exact ret_none HTF.out T.out.ret T.out.b p2 p3
        have d2 : decide ((b.length : Int) - (p : Int) < 32) = false := by simp only [decide_eq_false_iff_not]; omega
        have hp32 : p + 32 ≤ b.length := by omega
        have HS := Aside0.mk hs
        clear hs
        obtain ⟨W7, hW7⟩ : ∃ X, X = wr.alloc (.cells (Pt.mk (List.replicate 32 0) 0).cells.toArray 51) := ⟨_, rfl⟩
        have HW7 := Aside0.mk hW7.symm
        have T7 : Aside0 (Tm w W7 an (Lz w.heap.size) t.1 a) := ⟨by rw [hW7]; exact T.out.alloc _⟩
        have HH7 : Aside0 (W7.heap[wr.heap.size]? = some (.cells (pj b p 0).cells.toArray 51 (0, 0))) := ⟨by rw [hW7, pj_zero]; exact heap_alloc_new wr _⟩
        have HIDZ : Aside0 ((Try.prog.info? 51).map (·.size) = some (Pt.mk (List.replicate 32 0) 0).cells.toArray.size) := ⟨by rw [List.size_toArray, ptz_len]; kernel_rfl⟩
        have HONZ := Aside0.mk (Pt.one ⟨List.replicate 32 0, 0⟩)
        have HZN : Aside0 (∀ W, (zeroValue 51).run Try.prog W = .ok (.agg (Pt.mk (List.replicate 32 0) 0).cells.toArray) W) := ⟨zeroPt2⟩
        clear hW7
        go_wp2_with (first
          | ((with_reducible refine gate_ (.build 51 #[]) rfl ?_); refine Hd.step_run rfl (Hd.exec_build _ _ rfl (by simpa using HBU.out _)) ?_)
          | ((with_reducible refine gate_ (.alloc 51) rfl ?_); refine Hd.step_run rfl (Hd.exec_alloc _ rfl _ (HZN.out _)) ?_; refine Hd.wpList_store_new rfl _ _ _ rfl _ (Pt.mk (List.replicate 32 0) 0).cells.toArray (Pt.mk (List.replicate 32 0) 0).cells.toArray rfl rfl rfl HIDZ.out (all_oneCell_toArray HONZ.out) ?_; rw [HW7.out]))
        clear c0
        generalize hg : wr.heap.size = gh at *
        have HGH := Aside0.mk hg
        clear hg
        have hgo : (0 : Nat) ≤ gh := Nat.zero_le _
        go_loopg [23] 33 (fun gk v23 wq => ∃ j : Nat, v23 = .int .i64 j ∧ j ≤ 32 ∧ Aside0 (gk = 32 - j + 1) ∧ Aside0 (wq.heap[gh]? = some (.cells (pj b p j).cells.toArray 51 (0, 0))) ∧ Aside0 (Tm w wq an (Lz w.heap.size) t.1 a))
        case atStart => exact ⟨0, rfl, by omega, ⟨rfl⟩, HH7, T7⟩
        case round =>
          obtain ⟨j, rfl, hj, HGJ, HX, TJ⟩ := hrel
          by_cases hlj : j < 32
          · have e1 : decide ((j : Int) < 32) = true := by simp only [decide_eq_true_eq]; omega
            obtain ⟨mm, hm1⟩ : ∃ m, m = p + j := ⟨_, rfl⟩
            have hwm : IntKind.i64.wrap ((p : Int) + (j : Int)) = (mm : Int) := by rw [IntWalk.i64_in _ (by omega)]; omega
            have hbig : mm < b.length := by omega
            obtain ⟨ad, rfl, hcell⟩ := Kd.at_int (Kd.C_below HG.out.C TJ.out.b) (mm : Int) (by omega) (by omega)
            have hi1 : (0 : Int) ≤ (mm : Int) := by omega
            have hi2 : (mm : Int) < (b.length : Int) := by omega
            have hi3 : (0 : Int) ≤ (j : Int) := by omega
            have hi4 : (j : Int) < 32 := by omega
            have hf := obj_free HX.out j
            have hcc := obj_cell (v := .int .u8 0) HX.out j (pj_cell hp32 hlj)
            rw [Int.toNat_natCast] at hcell
            have HM1 := Aside0.mk hm1
            clear hbig hm1
            have HST2 := Aside0.mk (obj_set HX.out j (.int .u8 (rd b (mm : Int))))
            rw [HM1.out, pj_succ hp32 hlj, ← HM1.out] at HST2
            have TJ2 := Aside0.mk (TJ.out.fresh T.out (g := gh) (by rw [HGH.out]; exact Nat.le_refl _) (grown_set _ gh j (.int .u8 (rd b (mm : Int)))))
            clear hlj
            go_wp2
            go_roundg (32 - (j + 1) + 1)
            case measure => have := HGJ.out; omega
            case rel => exact ⟨j + 1, by go_num, by omega, ⟨rfl⟩, HST2, TJ2⟩
          · obtain rfl : j = 32 := by omega
            have e1 : decide ((((32 : Nat) : Int)) < 32) = false := by decide
            rw [pj_full] at HX
            have hw2 : IntKind.i64.wrap ((p : Int) + 32) = (p : Int) + 32 := IntWalk.i64_in _ (by omega)
            clear hlj
            go_wp2_with fail
            refine (HTN.out ((p : Int) + 32) _ TJ.out.b).mono ?_
            rintro e w10 ⟨rfl, rfl⟩
            by_cases he : (takeNum b ((p : Int) + 32)).2.2 = 0
            case neg =>
              have h1 : ((takeNum b ((p : Int) + 32)).2.2 != 0) = true := by simpa using he
              have hsy : (s4 b).2 = ⟨(p : Int) + 32, (takeNum b ((p : Int) + 32)).2.2⟩ := by rw [← HLP.out]; exact loop_bad HE0.out (part_bad2 HST.out HS.out he) he
              have HTF := Aside0.mk (bad4 hsy he)
              go_upto_region 50 with fail
              refine WiEx.exit4 (x := 199) (y := 200) (z := 26) (g0 := w.heap.size) rfl rfl rfl rfl rfl rfl rfl rfl rfl rfl rfl rfl (by kernel_rfl) rfl rfl TJ.out.ret (by assumption) (fun T' p2 p3 => ?_)
              exact ret_none HTF.out TJ.out.ret TJ.out.b p2 p3
            have HOK3 := Aside0.mk (part_ok HST.out HS.out he)
            rw [Int.toNat_natCast] at HOK3
            have HI4 := Aside0.mk (take_in HG.out.hb he)
            have HSL : Aside0 (((b.drop p).take 32).length = 32) := ⟨by rw [List.length_take, List.length_drop]; omega⟩
            have HWF : Aside0 (Pt.Ok ⟨(b.drop p).take 32, (takeNum b ((p : Int) + 32)).1⟩) := ⟨⟨HSL.out, fun x hx => wf_u8 ((HG.out.hb.drop p).take 32 x hx), by have := takeNum_in HG.out.hb ((p : Int) + 32); exact wf_i64 (by simp only; omega) (by simp only; omega)⟩⟩
            obtain ⟨⟨z, at4, e4⟩, htt⟩ : ∃ t, t = takeNum b ((p : Int) + 32) := ⟨_, rfl⟩
            rw [← htt] at HOK3 he HI4 HWF ⊢
            clear htt
            dsimp only at *
            subst he
            generalize (b.drop p).take 32 = sl at *
            have c32 := obj_cell (v := .int .i64 0) HX.out 32 (by simp [Pt.cells, nums, HSL.out])
            have f32 := obj_free HX.out 32
            have HX2 := Aside0.mk (obj_set HX.out 32 (.int .i64 z))
            rw [Pt.set_len HSL.out] at HX2
            have T10 := Aside0.mk (TJ.out.fresh T.out (g := gh) (by rw [HGH.out]; exact Nat.le_refl _) (grown_set _ gh 32 (.int .i64 z)))
            have HRGD := Aside0.mk (range_of HX2.out)
            have HCL := Aside0.mk (Pt.cells_len HWF.out)
            have HIS := Aside0.mk (infoPtS HCL.out)
            have HMP : Aside0 (dPt.K (w.alloc (.cells #[] 51)) ⟨sl, z⟩ (Pt.mk sl z).cells) := ⟨⟨HWF.out, rfl⟩⟩
            have HLP2 : Aside0 (loopS (partS b) m (partS b t) = s4 b) := ⟨by rw [← HLP.out, loop_step HE0.out]⟩
            rw [HOK3.out] at HLP2
            obtain ⟨D, hD⟩ : ∃ D, D = (Pt.mk sl z).cells := ⟨_, rfl⟩
            rw [← hD] at HRGD HCL HIS
            have HDD := Aside0.mk hD
            clear hD HMP
            have c5 := obj_cell (v := .slice a.ap t.1.parts.length a.cp) T10.out.note 5 rfl
            go_wp2_with (first
              | ((with_reducible refine gate_ (.load 51 (.tmp 22)) rfl ?_); refine Hd.wpList_load_any rfl _ (.tmp 22) rfl _ rfl D _ HRGD.out HUP.out rfl HIS.out ?_)
              | ((with_reducible refine gate_ (.buildSlice 24 1 #[(0, .tmp 206)]) rfl ?_); refine Lit.wpList_lit1 rfl _ 51 (.tmp 206) rfl D rfl Try.underlying24 infoPt HCL.out (by decide) (by decide) ?_)
              | ((with_reducible refine gate_builtin (b := .append) (xs := #[.tmp 205, .tmp 207]) rfl ?_); at_builtin; refine app1 dPt flat_pt w.heap.size (w0 := w) (.tmp 205) (.tmp 207) 24 51 _ 40 rfl rfl Try.underlying24 infoPt rfl (by decide) (by decide) _ t.1.parts ⟨sl, z⟩ D rfl rfl ⟨HWF.out, HDD.out⟩ T10.out.r.p T10.out.b T10.out.b.size (by have := HLE.out; omega) ?_; intro v9 w9 ho9 hb9 hg9 hat9; obtain ⟨A9, c9, rfl⟩ := Kd.R_slice ho9; have t11 := T10.out.pushP ho9 hg9; rw [List.length_append] at t11; have T11 := Aside0.mk t11; clear c32 f32; have c1 := obj_cell (v := .slice a.ap t.1.parts.length a.cp) (T10.out.noteP hg9) 5 rfl; have f1 := obj_free (T10.out.noteP hg9) 5; clear t11 ho9 hb9 hg9 hat9))
            obtain ⟨p4, hp4⟩ := Int.eq_ofNat_of_zero_le HI4.out.1
            subst hp4
            go_roundg (K - (i + 1) + 1)
            case measure => have := HGK.out; omega
            case rel => exact ⟨i + 1, ({ t.1 with parts := t.1.parts ++ [⟨sl, z⟩] }, ⟨(p4 : Int), 0⟩), _, p4, rfl, by go_num, by omega, ⟨rfl⟩, ⟨rfl⟩, ⟨by have := HI4.out.2; omega⟩, ⟨by rw [← HLP2.out]; congr 1; have := HM.out; omega⟩, T11, ⟨by have := HLE.out; have := HM.out; simp only [List.length_append, List.length_cons, List.length_nil]; omega⟩, ⟨HSA.out⟩⟩
      · obtain rfl : i = K := by omega
        have d1 : decide ((i : Int) < (i : Int)) = false := by simp
        have HF : Aside0 (s4 b = t) := ⟨by rw [← HLP.out, Nat.sub_self]; rfl⟩
        clear hlt
        go_wp2_with fail
        go_meet
        exact ⟨(p : Int), _, rfl, ⟨by rw [HF.out]; exact HST.out⟩, ⟨by have := HIP.out; omega⟩, ⟨by rw [HF.out]; exact T.out⟩⟩
  case rest =>
  obtain ⟨p1, a1, rfl, HS9, HI9, T9⟩ := hcut
  refine step_k (by assumption) ?_
  exact useC tailC rfl _ _ _ _ _ _ _ _ _ _ _ _ _ _ _ _ _ _ _ _ _ _ _ _ _ _ _ _ _ _ _ _ _ _ _ _ _ _ _ _ _ _ _ _ _ _ _ _ _ _ _ _ _ _ _ _ _ _ _ _ _ _ _ _ _ _ _ _ _ _ _ _ _ _ _ _ _ _ _ _ _ _ _ _ _ _ _ _ _ _ _ _ _ _ _ _ _ _ _ _ _ _ _ _ _ _ _ _ _ _ _ _ _ _ _ _ _ _ _ _ _ _ _ _ _ _ _ _ _ _ _ _ _ _ _ _ _ _ _ _ _ _ _ _ _ _ _ _ _ _ _ _ _ _ _ _ _ _ _ _ _ _ _ _ _ _ _ _ _ _ _ _ _ _ _ _ _ _ _ _ _ _ _ _ _ _ _ _ _ _ _ _ _ _ _ _ _ _ _ _ _ _ _ _ _ _ _ _ _ _ _ _ _ _ _ _ _ _ _ _ _ _ _ _ _ _ _ _ _ _ _ _ _ _ _ _ _ _ _ _ _ _ _ HG.out HSO.out HS9.out HI9.out T9.out
end Go.Proofs.Ytbncmffifbcbjaa.WiYh
