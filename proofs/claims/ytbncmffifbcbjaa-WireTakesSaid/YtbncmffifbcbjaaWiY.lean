/- What the reference's Take of wire computes: the note of bytes, or why there is none; condition: the bytes read as bytes. -/
import Derived.Test.YtbncmffifbcbjaaWiYh
namespace Go.Proofs.Ytbncmffifbcbjaa.WiY
open Go Go.RowKit Go.Proofs.YtbncmffifbcbjaaW.PrintWords Go.Proofs.Ytbncmffifbcbjaa.K Go.Proofs.Ytbncmffifbcbjaa.OctS Go.Proofs.Ytbncmffifbcbjaa.OctP Go.Proofs.Ytbncmffifbcbjaa.Oct Go.Proofs.Ytbncmffifbcbjaa.Ap Go.Proofs.Ytbncmffifbcbjaa.Nm Go.Proofs.Ytbncmffifbcbjaa.Hl Go.Proofs.Ytbncmffifbcbjaa.WiA Go.Proofs.Ytbncmffifbcbjaa.WiB Go.Proofs.Ytbncmffifbcbjaa.WiD Go.Proofs.Ytbncmffifbcbjaa.WiE Go.Proofs.Ytbncmffifbcbjaa.WiF Go.Proofs.Ytbncmffifbcbjaa.WiG Go.Proofs.Ytbncmffifbcbjaa.WiT Go.Proofs.Ytbncmffifbcbjaa.WiR Go.Proofs.Ytbncmffifbcbjaa.WiU Go.Proofs.Ytbncmffifbcbjaa.WiV Go.Proofs.Ytbncmffifbcbjaa.WiM Go.Proofs.Ytbncmffifbcbjaa.WiW Go.Proofs.Ytbncmffifbcbjaa.WiTm Go.Proofs.Ytbncmffifbcbjaa.WiMf Go.Proofs.Ytbncmffifbcbjaa.WiYd Go.Proofs.Ytbncmffifbcbjaa.WiYh
set_option linter.unusedVariables false
set_option linter.unusedSimpArgs false
set_option maxHeartbeats 16000000 in
set_option maxRecDepth 100000 in
theorem tailA : ∃ C, restB 6 Try.f13 = some C ∧ ∀ (A : Option Addr) (c : Nat) (b : List Int) (w W : World) (an : Nat) (say p0 : Int) (a0 : Ads) (k1 k3 k6 k8 k9 k10 k11 k12 k13 k14 k15 k16 k17 k18 k19 k20 k21 k22 k23 k24 k25 k26 k27 k28 k29 k30 k31 k32 k33 k34 k35 k36 k37 k38 k39 k40 k41 k42 k43 k44 k45 k46 k47 k48 k49 k50 k51 k52 k53 k54 k55 k56 k57 k58 k59 k60 k61 k62 k63 k64 k65 k66 k67 k68 k69 k70 k71 k72 k73 k74 k75 k76 k77 k78 k79 k80 k81 k82 k83 k84 k85 k86 k87 k88 k89 k90 k91 k92 k93 k94 k95 k96 k97 k98 k99 k100 k101 k102 k103 k104 k105 k106 k107 k108 k109 k110 k111 k112 k113 k114 k115 k116 k117 k118 k119 k120 k121 k122 k123 k124 k125 k126 k127 k128 k129 k130 k131 k132 k133 k134 k135 k136 k137 k138 k139 k140 k141 k142 k143 k144 k145 k146 k147 k148 k149 k150 k151 k152 k153 k154 k155 k156 k157 k158 k159 k160 k161 k162 k163 k164 k165 k166 k167 k168 k169 k170 k171 k172 k173 k174 k175 k176 k177 k178 k179 k180 k181 k182 k183 k184 k185 k186 k187 k188 k189 k190 k191 k192 k193 k194 k195 k196 k197 k198 k199 k200 k201 k202 k203 k204 k205 k206 k207 k208 k209 k210 k211 k212 k213 k214 k215 k216 k217 k218 k219 k220 k221 k222 k223 k224 k225 k226 k227 k228 k229 k230 k231 k232 k233 k234 k235 k236 k237 k238 : Value), Given w A c b → sayOf b = say → (s1 b).2 = ⟨p0, 0⟩ → (0 ≤ p0 ∧ p0 ≤ b.length) → Tm w W an (Lz w.heap.size) (s1 b).1 a0 → Code.wp Try.prog C (bodyPost Try.prog Try.f13 (fun e w' => ∃ a, e = .returned (.tuple #[.agg (noteV (takeF b).1 a), .int .i64 (takeF b).2]) ∧ NtR w' w.heap.size (takeF b).1 a ∧ Below w.heap.size w w')) ⟨#[.slice A b.length c, k1, .pointer (some ⟨w.heap.size, 0, none⟩), k3, .int .i64 say, .int .i64 p0, k6, .pointer (some ⟨an, 0, none⟩), k8, k9, k10, k11, k12, k13, k14, k15, k16, k17, k18, k19, k20, k21, k22, k23, k24, k25, k26, k27, k28, k29, k30, k31, k32, k33, k34, k35, k36, k37, k38, k39, k40, k41, k42, k43, k44, k45, k46, k47, k48, k49, k50, k51, k52, k53, k54, k55, k56, k57, k58, k59, k60, k61, k62, k63, k64, k65, k66, k67, k68, k69, k70, k71, k72, k73, k74, k75, k76, k77, k78, k79, k80, k81, k82, k83, k84, k85, k86, k87, k88, k89, k90, k91, k92, k93, k94, k95, k96, k97, k98, k99, k100, k101, k102, k103, k104, k105, k106, k107, k108, k109, k110, k111, k112, k113, k114, k115, k116, k117, k118, k119, k120, k121, k122, k123, k124, k125, k126, k127, k128, k129, k130, k131, k132, k133, k134, k135, k136, k137, k138, k139, k140, k141, k142, k143, k144, k145, k146, k147, k148, k149, k150, k151, k152, k153, k154, k155, k156, k157, k158, k159, k160, k161, k162, k163, k164, k165, k166, k167, k168, k169, k170, k171, k172, k173, k174, k175, k176, k177, k178, k179, k180, k181, k182, k183, k184, k185, k186, k187, k188, k189, k190, k191, k192, k193, k194, k195, k196, k197, k198, k199, k200, k201, k202, k203, k204, k205, k206, k207, k208, k209, k210, k211, k212, k213, k214, k215, k216, k217, k218, k219, k220, k221, k222, k223, k224, k225, k226, k227, k228, k229, k230, k231, k232, k233, k234, k235, k236, k237, k238], []⟩ W := by
  refine ⟨_, rfl, ?_⟩
  intro A c b w W an say p0 a0 k1 k3 k6 k8 k9 k10 k11 k12 k13 k14 k15 k16 k17 k18 k19 k20 k21 k22 k23 k24 k25 k26 k27 k28 k29 k30 k31 k32 k33 k34 k35 k36 k37 k38 k39 k40 k41 k42 k43 k44 k45 k46 k47 k48 k49 k50 k51 k52 k53 k54 k55 k56 k57 k58 k59 k60 k61 k62 k63 k64 k65 k66 k67 k68 k69 k70 k71 k72 k73 k74 k75 k76 k77 k78 k79 k80 k81 k82 k83 k84 k85 k86 k87 k88 k89 k90 k91 k92 k93 k94 k95 k96 k97 k98 k99 k100 k101 k102 k103 k104 k105 k106 k107 k108 k109 k110 k111 k112 k113 k114 k115 k116 k117 k118 k119 k120 k121 k122 k123 k124 k125 k126 k127 k128 k129 k130 k131 k132 k133 k134 k135 k136 k137 k138 k139 k140 k141 k142 k143 k144 k145 k146 k147 k148 k149 k150 k151 k152 k153 k154 k155 k156 k157 k158 k159 k160 k161 k162 k163 k164 k165 k166 k167 k168 k169 k170 k171 k172 k173 k174 k175 k176 k177 k178 k179 k180 k181 k182 k183 k184 k185 k186 k187 k188 k189 k190 k191 k192 k193 k194 k195 k196 k197 k198 k199 k200 k201 k202 k203 k204 k205 k206 k207 k208 k209 k210 k211 k212 k213 k214 k215 k216 k217 k218 k219 k220 k221 k222 k223 k224 k225 k226 k227 k228 k229 k230 k231 k232 k233 k234 k235 k236 k237 k238 hG hso hs hi hT
  have HG := Aside0.mk hG
  have HTN := Aside0.mk (fun (pl : Int) (W : World) (hW : Below w.heap.size w W) => rtakeNum_calls A c b pl W (Kd.C_below hG.C hW) hG.hc hG.hb (Nat.le_trans hG.hm (by decide)))
  have HTT := Aside0.mk (fun (pl m : Int) (W : World) (hW : Below w.heap.size w W) => rtakeText_calls A c b pl m W (Kd.C_below hG.C hW) hG.hc hG.hb hG.hm)
  have hlen : b.length ≤ 140737488351232 := hG.hm
  have HSO := Aside0.mk hso
  have HSX := Aside0.mk hs
  have HIX := Aside0.mk hi
  have TX := Aside0.mk hT
  clear hG hso hs hi hT
  have c0 : W.cell? ⟨an, 0, none⟩ = some (.int .i64 say) := obj_cell TX.out.note 0 (by rw [← HSO.out, ← say_s1 b]; rfl)
  go_upto_if 81 with (go_at_call 23; (with_reducible refine (hasI_calls _ _).mono ?_); rintro e w' ⟨rfl, rfl⟩)
  clear c0
  go_cut [5] (fun s5 wx => ∃ (p : Int) (a : Ads), s5 = .int .i64 p ∧ Aside0 ((s2 b).2 = ⟨p, 0⟩) ∧ Aside0 (0 ≤ p ∧ p ≤ b.length) ∧ Aside0 (Tm w wx an (Lz w.heap.size) (s2 b).1 a))
  case first =>
    by_cases hf : hasI say = true
    · have HS1 : Aside0 (s2 b = ({ (s1 b).1 with i := (numR b ⟨p0, 0⟩).1 }, (numR b ⟨p0, 0⟩).2)) := ⟨by unfold s2; rw [HSO.out, if_pos hf]; unfold iS; rw [HSX.out]⟩
      rw [hf]
      go_wp2_with fail
      refine (HTN.out p0 W TX.out.b).mono ?_
      rintro e w4 ⟨rfl, rfl⟩
      clear hf
      by_cases he : (takeNum b p0).2.2 = 0
      case neg =>
        have h1 : ((takeNum b p0).2.2 != 0) = true := by simpa using he
        have hsy : (s2 b).2 = ⟨p0, (takeNum b p0).2.2⟩ := by
          rw [HS1.out]
          exact num_bad he
        have HTF := Aside0.mk (bad2 hsy he)
        go_upto_region 18 with fail
        refine WiEx.exit4 (x := 91) (y := 92) (z := 13) (g0 := w.heap.size) rfl rfl rfl rfl rfl rfl rfl rfl rfl rfl rfl rfl (by kernel_rfl) rfl rfl TX.out.ret (by assumption) (fun T' p2 p3 => ?_)
        exact ret_none HTF.out TX.out.ret TX.out.b p2 p3
      rw [num_ok he] at HS1
      have HI4 := Aside0.mk (take_in HG.out.hb he)
      obtain ⟨⟨iv, at4, e4⟩, htt⟩ : ∃ t, t = takeNum b p0 := ⟨_, rfl⟩
      rw [← htt] at HS1 he HI4 ⊢
      clear htt
      dsimp only at *
      subst he
      have c1 := obj_cell (v := .int .i64 (s1 b).1.i) TX.out.note 3 rfl
      have f1 := obj_free TX.out.note 3
      have T6 := Aside0.mk (TX.out.setI iv)
      go_wp2_with fail
      go_meet
      exact ⟨at4, _, rfl, ⟨by rw [HS1.out]⟩, HI4, ⟨by rw [HS1.out]; exact T6.out⟩⟩
    · have HS1 : Aside0 (s2 b = s1 b) := ⟨by unfold s2; rw [HSO.out, if_neg hf]⟩
      rw [show hasI say = false by simpa using hf]
      go_wp2_with fail
      go_meet
      exact ⟨p0, _, rfl, ⟨by rw [HS1.out]; exact HSX.out⟩, HIX, ⟨by rw [HS1.out]; exact TX.out⟩⟩
  case rest =>
  obtain ⟨p1, a1, rfl, HS9, HI9, T9⟩ := hcut
  refine step_k (by assumption) ?_
  by_cases h2 : say = 2
  · exact useC tailH rfl _ _ _ _ _ _ _ _ _ _ _ _ _ _ _ _ _ _ _ _ _ _ _ _ _ _ _ _ _ _ _ _ _ _ _ _ _ _ _ _ _ _ _ _ _ _ _ _ _ _ _ _ _ _ _ _ _ _ _ _ _ _ _ _ _ _ _ _ _ _ _ _ _ _ _ _ _ _ _ _ _ _ _ _ _ _ _ _ _ _ _ _ _ _ _ _ _ _ _ _ _ _ _ _ _ _ _ _ _ _ _ _ _ _ _ _ _ _ _ _ _ _ _ _ _ _ _ _ _ _ _ _ _ _ _ _ _ _ _ _ _ _ _ _ _ _ _ _ _ _ _ _ _ _ _ _ _ _ _ _ _ _ _ _ _ _ _ _ _ _ _ _ _ _ _ _ _ _ _ _ _ _ _ _ _ _ _ _ _ _ _ _ _ _ _ _ _ _ _ _ _ _ _ _ _ _ _ _ _ _ _ _ _ _ _ _ _ _ _ _ _ _ _ _ _ _ _ _ _ _ _ _ _ _ _ _ _ _ _ _ _ _ _ h2 HG.out HSO.out HS9.out HI9.out T9.out
  by_cases h4 : say = 4
  · exact useC tailG rfl _ _ _ _ _ _ _ _ _ _ _ _ _ _ _ _ _ _ _ _ _ _ _ _ _ _ _ _ _ _ _ _ _ _ _ _ _ _ _ _ _ _ _ _ _ _ _ _ _ _ _ _ _ _ _ _ _ _ _ _ _ _ _ _ _ _ _ _ _ _ _ _ _ _ _ _ _ _ _ _ _ _ _ _ _ _ _ _ _ _ _ _ _ _ _ _ _ _ _ _ _ _ _ _ _ _ _ _ _ _ _ _ _ _ _ _ _ _ _ _ _ _ _ _ _ _ _ _ _ _ _ _ _ _ _ _ _ _ _ _ _ _ _ _ _ _ _ _ _ _ _ _ _ _ _ _ _ _ _ _ _ _ _ _ _ _ _ _ _ _ _ _ _ _ _ _ _ _ _ _ _ _ _ _ _ _ _ _ _ _ _ _ _ _ _ _ _ _ _ _ _ _ _ _ _ _ _ _ _ _ _ _ _ _ _ _ _ _ _ _ _ _ _ _ _ _ _ _ _ _ _ _ _ _ _ _ _ _ _ _ _ _ _ h4 HG.out HSO.out HS9.out HI9.out T9.out
  exact useC tailZ rfl _ _ _ _ _ _ _ _ _ _ _ _ _ _ _ _ _ _ _ _ _ _ _ _ _ _ _ _ _ _ _ _ _ _ _ _ _ _ _ _ _ _ _ _ _ _ _ _ _ _ _ _ _ _ _ _ _ _ _ _ _ _ _ _ _ _ _ _ _ _ _ _ _ _ _ _ _ _ _ _ _ _ _ _ _ _ _ _ _ _ _ _ _ _ _ _ _ _ _ _ _ _ _ _ _ _ _ _ _ _ _ _ _ _ _ _ _ _ _ _ _ _ _ _ _ _ _ _ _ _ _ _ _ _ _ _ _ _ _ _ _ _ _ _ _ _ _ _ _ _ _ _ _ _ _ _ _ _ _ _ _ _ _ _ _ _ _ _ _ _ _ _ _ _ _ _ _ _ _ _ _ _ _ _ _ _ _ _ _ _ _ _ _ _ _ _ _ _ _ _ _ _ _ _ _ _ _ _ _ _ _ _ _ _ _ _ _ _ _ _ _ _ _ _ _ _ _ _ _ _ _ _ _ _ _ _ _ _ _ _ _ _ _ h2 h4 HG.out HSO.out HS9.out HI9.out T9.out
set_option maxHeartbeats 16000000 in
set_option maxRecDepth 100000 in
theorem rtake_calls (A : Option Addr) (c : Nat) (b : List Int) (w : World) (hG : Given w A c b) : Calls Try.prog 13 #[.slice A b.length c] w fun e w' => ∃ a, e = .returned (.tuple #[.agg (noteV (takeF b).1 a), .int .i64 (takeF b).2]) ∧ NtR w' w.heap.size (takeF b).1 a ∧ Below w.heap.size w w' := by
  have HG := Aside0.mk hG
  have HTN := Aside0.mk (fun (pl : Int) (W : World) (hW : Below w.heap.size w W) => rtakeNum_calls A c b pl W (Kd.C_below hG.C hW) hG.hc hG.hb (Nat.le_trans hG.hm (by decide)))
  have HTT := Aside0.mk (fun (pl m : Int) (W : World) (hW : Below w.heap.size w W) => rtakeText_calls A c b pl m W (Kd.C_below hG.C hW) hG.hc hG.hb hG.hm)
  have hlen : b.length ≤ 140737488351232 := hG.hm
  clear hG
  go_enter Try.func13, Try.ntmps13
  go_wp2_with fail
  obtain ⟨W0, hW0⟩ : ∃ X, X = w.alloc (.cells zN 27) := ⟨_, rfl⟩
  have HR0 : Aside0 (W0.heap[w.heap.size]? = some (.cells zN 27 (0, 0))) := ⟨by rw [hW0]; exact heap_alloc_new w _⟩
  have HB0 : Aside0 (Below w.heap.size w W0) := ⟨by rw [hW0]; exact below_alloc (Below.refl _ _) _⟩
  have HZ0 : Aside0 (W0.heap.size = w.heap.size + 1) := ⟨by rw [hW0]; simp⟩
  rw [← hW0]
  clear hW0
  refine (HTN.out 0 W0 HB0.out).mono ?_
  rintro e w1 ⟨rfl, rfl⟩
  have HSO : Aside0 (sayOf b = (takeNum b 0).1) := ⟨rfl⟩
  by_cases he : (takeNum b 0).2.2 = 0
  case neg =>
    have h1 : ((takeNum b 0).2.2 != 0) = true := by simpa using he
    have hsy : (sayS b).2 = ⟨0, (takeNum b 0).2.2⟩ := by
      show mustR (numR b ⟨0, 0⟩).2 _ 4 = _
      rw [num_bad he]
      exact must_no (by simpa using he) _ _
    have HTF := Aside0.mk (bad0 hsy he)
    go_upto_region 3 with fail
    refine WiEx.exit4 (x := 39) (y := 40) (z := 6) (g0 := w.heap.size) rfl rfl rfl rfl rfl rfl rfl rfl rfl rfl rfl rfl (by kernel_rfl) rfl rfl HR0.out (by assumption) (fun T' p2 p3 => ?_)
    exact ret_none HTF.out HR0.out HB0.out p2 p3
  have HS0 : Aside0 (sayS b = (⟨(takeNum b 0).1, ⟨#[]⟩, 0, 0, [], [], []⟩, mustR ⟨(takeNum b 0).2.1, 0⟩ (decide (1 ≤ (takeNum b 0).1 ∧ (takeNum b 0).1 ≤ 7)) 4)) := ⟨by unfold sayS; rw [num_ok he]⟩
  have HI0 := Aside0.mk (take_in HG.out.hb he)
  obtain ⟨⟨say, at0, e0⟩, htn⟩ : ∃ t, t = takeNum b 0 := ⟨_, rfl⟩
  rw [← htn] at HS0 HSO HI0 he ⊢
  clear htn
  dsimp only at *
  subst he
  go_upto_region 5 with fail
  obtain ⟨W1, hW1⟩ : ∃ X, X = W0.alloc (.cells #[.int .i64 say, .string ⟨#[]⟩, .int .i64 0, .int .i64 0, .slice none 0 0, .slice none 0 0, .slice none 0 0] 27) := ⟨_, rfl⟩
  have T1 : Aside0 (Tm w W1 W0.heap.size (Lz w.heap.size) ⟨say, ⟨#[]⟩, 0, 0, [], [], []⟩ ⟨none, 0, none, 0, none, 0⟩) := ⟨by
    rw [hW1]
    have hs := slice_nil (W0.alloc (.cells #[.int .i64 say, .string ⟨#[]⟩, .int .i64 0, .int .i64 0, .slice none 0 0, .slice none 0 0, .slice none 0 0] 27)) w.heap.size
    refine ⟨⟨below_alloc HB0.out _, fun x hx => ?_⟩, ⟨hs.h, hs.p, hs.bb, hs.nm, hs.by_⟩, fun x hx => ?_, fun x hx => ?_⟩
    · rcases List.mem_cons.1 hx with rfl | hx
      · exact ⟨HB0.out.size, heap_alloc_new W0 _⟩
      · obtain rfl := List.mem_singleton.1 hx
        exact ⟨Nat.le_refl _, (Below.heap_alloc _ _ _ (Array.getElem?_eq_some_iff.1 HR0.out).1).trans HR0.out⟩
    · obtain rfl := List.mem_singleton.1 hx
      have := HZ0.out
      simp only; omega
    · obtain rfl := List.mem_singleton.1 hx
      exact ⟨by simp only; decide, by simp only; decide, by simp only; decide⟩⟩
  rw [← hW1]
  clear hW1 HR0
  generalize hn : W0.heap.size = an at *
  clear hn
  by_cases hr1 : 1 ≤ say
  case neg =>
    have d1 : decide (say < 1) = true := by simp only [decide_eq_true_eq]; omega
    have hsy : (sayS b).2 = ⟨at0, 4⟩ := by rw [HS0.out, decide_eq_false (fun h : 1 ≤ say ∧ say ≤ 7 => hr1 h.1)]; rfl
    have HTF := Aside0.mk (bad0 hsy (by decide))
    go_upto_region 6 with fail
    refine WiEx.exit3 (x := 49) (g0 := w.heap.size) rfl rfl rfl rfl rfl rfl rfl rfl rfl (by kernel_rfl) rfl T1.out.ret (by assumption) (fun T' p2 p3 => ?_)
    exact ret_none HTF.out T1.out.ret T1.out.b p2 p3
  have d1 : decide (say < 1) = false := by simp only [decide_eq_false_iff_not]; omega
  by_cases hr2 : say ≤ 7
  case neg =>
    have d2 : decide (7 < say) = true := by simp only [decide_eq_true_eq]; omega
    have hsy : (sayS b).2 = ⟨at0, 4⟩ := by rw [HS0.out, decide_eq_false (fun h : 1 ≤ say ∧ say ≤ 7 => hr2 h.2)]; rfl
    have HTF := Aside0.mk (bad0 hsy (by decide))
    go_upto_region 6 with fail
    refine WiEx.exit3 (x := 49) (g0 := w.heap.size) rfl rfl rfl rfl rfl rfl rfl rfl rfl (by kernel_rfl) rfl T1.out.ret (by assumption) (fun T' p2 p3 => ?_)
    exact ret_none HTF.out T1.out.ret T1.out.b p2 p3
  have d2 : decide (7 < say) = false := by simp only [decide_eq_false_iff_not]; omega
  have HSY : Aside0 (sayS b = (⟨say, ⟨#[]⟩, 0, 0, [], [], []⟩, ⟨at0, 0⟩)) := ⟨by rw [HS0.out, decide_eq_true (⟨hr1, hr2⟩ : 1 ≤ say ∧ say ≤ 7)]; rfl⟩
  clear hr1 hr2 HS0
  have c0 := obj_cell (v := .int .i64 say) T1.out.note 0 rfl
  go_upto_if 52 with (go_at_call 22; (with_reducible refine (hasFile_calls _ _).mono ?_); rintro e w' ⟨rfl, rfl⟩)
  clear d1 d2 c0
  go_cut [5] (fun s5 wx => ∃ (p : Int) (a : Ads), s5 = .int .i64 p ∧ Aside0 ((s1 b).2 = ⟨p, 0⟩) ∧ Aside0 (0 ≤ p ∧ p ≤ b.length) ∧ Aside0 (Tm w wx an (Lz w.heap.size) (s1 b).1 a))
  case first =>
    by_cases hf : hasF say = true
    · have HS1 : Aside0 (s1 b = ({ (Nt.mk say ⟨#[]⟩ 0 0 [] [] []) with name := strOfNums (textR b ⟨at0, 0⟩ 32).1, gen := (numR b (textR b ⟨at0, 0⟩ 32).2).1 }, (numR b (textR b ⟨at0, 0⟩ 32).2).2)) := ⟨by unfold s1; rw [HSO.out, if_pos hf]; unfold fileS; rw [HSY.out]⟩
      rw [hf]
      go_wp2_with fail
      refine (HTT.out at0 32 W1 T1.out.b).mono ?_
      rintro e w2 ⟨v2, rfl, hr2, hb2⟩
      have T2 := Aside0.mk (T1.out.below hb2)
      by_cases he : (takeText b at0 32).2.2 = 0
      case neg =>
        have h1 : ((takeText b at0 32).2.2 != 0) = true := by simpa using he
        have hsy : (s1 b).2 = ⟨at0, (takeText b at0 32).2.2⟩ := by
          rw [HS1.out]
          simp only
          rw [text_bad he, WiMf.num_no (by simpa using he)]
        clear hf hr2 hb2
        have HTF := Aside0.mk (bad1 hsy he)
        go_upto_region 10 with fail
        refine WiEx.exit4 (x := 62) (y := 63) (z := 10) (g0 := w.heap.size) rfl rfl rfl rfl rfl rfl rfl rfl rfl rfl rfl rfl (by kernel_rfl) rfl rfl T2.out.ret (by assumption) (fun T' p2 p3 => ?_)
        exact ret_none HTF.out T2.out.ret T2.out.b p2 p3
      rw [text_ok he] at HS1
      dsimp only at HS1
      have HIT := Aside0.mk (takeText_in HG.out.hb at0 32 he)
      obtain ⟨⟨l, at2, e2⟩, htt⟩ : ∃ t, t = takeText b at0 32 := ⟨_, rfl⟩
      rw [← htt] at HS1 he hr2 HIT ⊢
      clear htt
      dsimp only at *
      subst he
      obtain ⟨A2, c2, rfl⟩ := Kd.R_slice hr2
      have hcv := conv_own (P := Try.prog) (c := c2) 25 9 5 Try.underlying25 Try.underlying5 Try.underlying9 hr2 rfl rfl
      have c1 := obj_cell (v := .string ⟨#[]⟩) T2.out.note 1 rfl
      have f1 := obj_free T2.out.note 1
      have T3 := Aside0.mk (T2.out.setName (strOfNums l) (by rw [strOf_size]; have := HIT.out.2.2; omega))
      clear hr2 hb2
      go_wp2_with fail
      refine (HTN.out at2 _ T3.out.b).mono ?_
      rintro e w4 ⟨rfl, rfl⟩
      clear c1 f1 hcv
      have c1 := obj_cell (v := .int .i64 0) T3.out.note 2 rfl
      have f1 := obj_free T3.out.note 2
      have T4 := Aside0.mk (T3.out.setGen (takeNum b at2).1)
      by_cases he : (takeNum b at2).2.2 = 0
      case neg =>
        have h1 : ((takeNum b at2).2.2 != 0) = true := by simpa using he
        have hsy : (s1 b).2 = ⟨at2, (takeNum b at2).2.2⟩ := by
          rw [HS1.out]
          exact num_bad he
        clear hf
        have HTF := Aside0.mk (bad1 hsy he)
        go_upto_region 14 with fail
        refine WiEx.exit4 (x := 77) (y := 78) (z := 10) (g0 := w.heap.size) rfl rfl rfl rfl rfl rfl rfl rfl rfl rfl rfl rfl (by kernel_rfl) rfl rfl T4.out.ret (by assumption) (fun T' p2 p3 => ?_)
        exact ret_none HTF.out T4.out.ret T4.out.b p2 p3
      rw [num_ok he] at HS1
      have HI4 := Aside0.mk (take_in HG.out.hb he)
      obtain ⟨⟨gen, at4, e4⟩, htt⟩ : ∃ t, t = takeNum b at2 := ⟨_, rfl⟩
      rw [← htt] at HS1 he HI4 T4 ⊢
      clear htt
      dsimp only at *
      subst he
      clear hf
      go_wp2_with fail
      go_meet
      exact ⟨at4, _, rfl, ⟨by rw [HS1.out]⟩, HI4, ⟨by rw [HS1.out]; exact T4.out⟩⟩
    · have HS1 : Aside0 (s1 b = (⟨say, ⟨#[]⟩, 0, 0, [], [], []⟩, ⟨at0, 0⟩)) := ⟨by unfold s1; rw [HSO.out, if_neg hf]; exact HSY.out⟩
      rw [show hasF say = false by simpa using hf]
      go_wp2_with fail
      go_meet
      exact ⟨at0, _, rfl, ⟨by rw [HS1.out]⟩, HI0, ⟨by rw [HS1.out]; exact T1.out⟩⟩
  case rest =>
  obtain ⟨at5, a5, rfl, HS5, HI5, T5⟩ := hcut
  refine step_k (by assumption) ?_
  exact useC tailA rfl _ _ _ _ _ _ _ _ _ _ _ _ _ _ _ _ _ _ _ _ _ _ _ _ _ _ _ _ _ _ _ _ _ _ _ _ _ _ _ _ _ _ _ _ _ _ _ _ _ _ _ _ _ _ _ _ _ _ _ _ _ _ _ _ _ _ _ _ _ _ _ _ _ _ _ _ _ _ _ _ _ _ _ _ _ _ _ _ _ _ _ _ _ _ _ _ _ _ _ _ _ _ _ _ _ _ _ _ _ _ _ _ _ _ _ _ _ _ _ _ _ _ _ _ _ _ _ _ _ _ _ _ _ _ _ _ _ _ _ _ _ _ _ _ _ _ _ _ _ _ _ _ _ _ _ _ _ _ _ _ _ _ _ _ _ _ _ _ _ _ _ _ _ _ _ _ _ _ _ _ _ _ _ _ _ _ _ _ _ _ _ _ _ _ _ _ _ _ _ _ _ _ _ _ _ _ _ _ _ _ _ _ _ _ _ _ _ _ _ _ _ _ _ _ _ _ _ _ _ _ _ _ _ _ _ _ _ _ _ _ _ _ _ HG.out HSO.out HS5.out HI5.out T5.out
end Go.Proofs.Ytbncmffifbcbjaa.WiY
