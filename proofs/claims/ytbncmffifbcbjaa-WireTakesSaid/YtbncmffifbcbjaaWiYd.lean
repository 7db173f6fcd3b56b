/- What the reference's Take of wire does behind its lists, for every frame; condition: the note so far is right. -/
import Derived.Test.YtbncmffifbcbjaaWiTm
import Derived.Test.YtbncmffifbcbjaaWiEx
import Derived.Test.YtbncmffifbcbjaaWiMf
import Derived.Test.YtbncmffifbcbjaaWiG
import Derived.Test.YtbncmffifbcbjaaOTT
import Derived.Test.YtbncmffifbcbjaaLit
import Derived.Deep.DeepCutAuto
namespace Go.Proofs.Ytbncmffifbcbjaa.WiYd
open Go Go.RowKit Go.Proofs.YtbncmffifbcbjaaW.PrintWords Go.Proofs.Ytbncmffifbcbjaa.K Go.Proofs.Ytbncmffifbcbjaa.OctS Go.Proofs.Ytbncmffifbcbjaa.OctP Go.Proofs.Ytbncmffifbcbjaa.Oct Go.Proofs.Ytbncmffifbcbjaa.Ap Go.Proofs.Ytbncmffifbcbjaa.Nm Go.Proofs.Ytbncmffifbcbjaa.Hl Go.Proofs.Ytbncmffifbcbjaa.WiA Go.Proofs.Ytbncmffifbcbjaa.WiB Go.Proofs.Ytbncmffifbcbjaa.WiD Go.Proofs.Ytbncmffifbcbjaa.WiE Go.Proofs.Ytbncmffifbcbjaa.WiF Go.Proofs.Ytbncmffifbcbjaa.WiG Go.Proofs.Ytbncmffifbcbjaa.WiT Go.Proofs.Ytbncmffifbcbjaa.WiR Go.Proofs.Ytbncmffifbcbjaa.WiU Go.Proofs.Ytbncmffifbcbjaa.WiV Go.Proofs.Ytbncmffifbcbjaa.WiM Go.Proofs.Ytbncmffifbcbjaa.WiW Go.Proofs.Ytbncmffifbcbjaa.WiTm Go.Proofs.Ytbncmffifbcbjaa.WiMf
set_option linter.unusedVariables false
set_option linter.unusedSimpArgs false
/-- A part when j bytes of the sum have been laid. -/
def pj (b : List Int) (pl j : Nat) : Pt := ⟨(b.drop pl).take j ++ List.replicate (32 - j) 0, 0⟩
theorem pj_zero (b : List Int) (pl : Nat) : pj b pl 0 = ⟨List.replicate 32 0, 0⟩ := by simp [pj]
theorem pj_full {b : List Int} {pl : Nat} : pj b pl 32 = ⟨(b.drop pl).take 32, 0⟩ := by simp [pj]
theorem pj_succ {b : List Int} {pl j : Nat} (h : pl + 32 ≤ b.length) (hj : j < 32) : (pj b pl j).cells.toArray.setIfInBounds j (.int .u8 (rd b ((pl + j : Nat) : Int))) = (pj b pl (j + 1)).cells.toArray := by
  have h1 : ((b.drop pl).take j).length = j := by rw [List.length_take, List.length_drop]; omega
  have h2 : j < (b.drop pl).length := by rw [List.length_drop]; omega
  have h3 : rd b ((pl + j : Nat) : Int) = (b.drop pl)[j] := by
    show b.getD ((pl + j : Nat) : Int).toNat 0 = _
    rw [Int.toNat_natCast, List.getElem_drop, List.getD_eq_getElem?_getD, List.getElem?_eq_getElem (by omega)]
    rfl
  have h4 : ((b.drop pl).take j ++ List.replicate (32 - j) 0).set j (rd b ((pl + j : Nat) : Int)) = (b.drop pl).take (j + 1) ++ List.replicate (32 - (j + 1)) 0 := by
    rw [List.set_append_right _ _ (by omega), h1, Nat.sub_self, show 32 - j = (32 - (j + 1)) + 1 by omega, List.replicate_succ, List.set_cons_zero, h3, List.take_succ_eq_append_getElem h2, List.append_assoc]
    rfl
  rw [List.setIfInBounds_toArray]
  congr 1
  show (nums .u8 ((b.drop pl).take j ++ List.replicate (32 - j) 0) ++ _).set j _ = _
  rw [List.set_append_left _ _ (by simp [nums, h1]; omega)]
  show _ = nums .u8 ((b.drop pl).take (j + 1) ++ List.replicate (32 - (j + 1)) 0) ++ _
  rw [← h4]
  congr 1
  simp [nums, List.map_set]
theorem pj_cell {b : List Int} {pl j : Nat} (h : pl + 32 ≤ b.length) (hj : j < 32) : (pj b pl j).cells.toArray[j]? = some (.int .u8 0) := by
  have h1 : ((b.drop pl).take j).length = j := by rw [List.length_take, List.length_drop]; omega
  rw [List.getElem?_toArray]
  show (nums .u8 ((b.drop pl).take j ++ List.replicate (32 - j) 0) ++ _)[j]? = _
  rw [List.getElem?_append_left (by simp [nums, h1]; omega)]
  simp only [nums, List.getElem?_map]
  rw [List.getElem?_append_right (by omega), h1, Nat.sub_self, List.getElem?_replicate]
  simp; omega
theorem built0 (W : World) : (Instr.build 51 #[]).run Try.prog W = .ok (.agg (Pt.mk (List.replicate 32 0) 0).cells.toArray) W := run_build W _ _ _ (by kernel_rfl)
theorem range_of {W : World} {g : Nat} {D : List Value} {t : TypeId} (h : W.heap[g]? = some (.cells D.toArray t (0, 0))) : Hd.RangeA W ⟨g, 0, none⟩ D := fun j v hj => by
  have := obj_cell h j (v := v) (by simpa using hj)
  by_cases hj0 : j = 0
  · subst hj0; simpa [Addr.add] using this
  · simpa [Addr.add, hj0] using this
theorem held_bad1 {b : List Int} {t : Nt × Rs} {p : Int} (h : t.2 = ⟨p, 0⟩) (he : (takeText b p 32).2.2 ≠ 0) : (heldS b t).2 = ⟨p, (takeText b p 32).2.2⟩ := by
  unfold heldS
  rw [h]
  have := text_bad he
  rw [this, WiMf.num_no (by simpa using he)]
theorem held_bad2 {b : List Int} {t : Nt × Rs} {p : Int} (h : t.2 = ⟨p, 0⟩) (he : (takeText b p 32).2.2 = 0) (h2 : (takeNum b (takeText b p 32).2.1).2.2 ≠ 0) : (heldS b t).2 = ⟨(takeText b p 32).2.1, (takeNum b (takeText b p 32).2.1).2.2⟩ := by
  unfold heldS
  rw [h, text_ok he]
  exact num_bad h2
theorem held_ok {b : List Int} {t : Nt × Rs} {p : Int} (h : t.2 = ⟨p, 0⟩) (he : (takeText b p 32).2.2 = 0) (h2 : (takeNum b (takeText b p 32).2.1).2.2 = 0) : heldS b t = ({ t.1 with held := t.1.held ++ [⟨strOfNums (takeText b p 32).1, (takeNum b (takeText b p 32).2.1).1⟩] }, ⟨(takeNum b (takeText b p 32).2.1).2.1, 0⟩) := by
  unfold heldS
  rw [h, text_ok he]
  simp only
  rw [num_ok h2]
theorem part_bad1 {b : List Int} {t : Nt × Rs} {p : Int} (h : t.2 = ⟨p, 0⟩) (he : ¬ 32 ≤ (b.length : Int) - p) : (partS b t).2 = ⟨p, 3⟩ := by
  unfold partS partR sumR
  rw [h]
  simp only [if_neg he]
  rw [WiMf.num_no (by simp)]
theorem part_bad2 {b : List Int} {t : Nt × Rs} {p : Int} (h : t.2 = ⟨p, 0⟩) (he : 32 ≤ (b.length : Int) - p) (h2 : (takeNum b (p + 32)).2.2 ≠ 0) : (partS b t).2 = ⟨p + 32, (takeNum b (p + 32)).2.2⟩ := by
  unfold partS partR sumR
  rw [h]
  simp only [if_pos he]
  exact num_bad h2
theorem part_ok {b : List Int} {t : Nt × Rs} {p : Int} (h : t.2 = ⟨p, 0⟩) (he : 32 ≤ (b.length : Int) - p) (h2 : (takeNum b (p + 32)).2.2 = 0) : partS b t = ({ t.1 with parts := t.1.parts ++ [⟨(b.drop p.toNat).take 32, (takeNum b (p + 32)).1⟩] }, ⟨(takeNum b (p + 32)).2.1, 0⟩) := by
  unfold partS partR sumR
  rw [h]
  simp only [if_pos he]
  rw [num_ok h2]
theorem loop_bad {f : Nt × Rs → Nt × Rs} {t : Nt × Rs} {p e : Int} {m : Nat} (h0 : t.2.e = 0) (h : (f t).2 = ⟨p, e⟩) (he : e ≠ 0) : (loopS f (m + 1) t).2 = ⟨p, e⟩ := by
  have h1 : loopS f (m + 1) t = f t := by
    show (if t.2.e = 0 then loopS f m (f t) else t) = f t
    rw [if_pos h0]
    exact loop_no (by rw [h]; exact he) m
  rw [h1, h]
theorem loop_step {f : Nt × Rs → Nt × Rs} {t : Nt × Rs} {m : Nat} (h0 : t.2.e = 0) : loopS f (m + 1) t = loopS f m (f t) := if_pos h0
theorem take_in {b : List Int} (hb : Bytes b) {p : Int} (h : (takeNum b p).2.2 = 0) : 0 ≤ (takeNum b p).2.1 ∧ (takeNum b p).2.1 ≤ b.length := by
  have := takeNum_ok b p hb h
  omega
theorem ret_none {w W : World} {b : List Int} {E : Int} {T' : Array Value} (hT : takeF b = (nZ, E)) (hb : W.heap[w.heap.size]? = some (.cells zN 27 (0, 0))) (hB : Below w.heap.size w W) (p2 : T'.getD 2 undef = .pointer (some ⟨w.heap.size, 0, none⟩)) (p3 : T'.getD 3 undef = .int .i64 E) :
    bodyPost Try.prog Try.f13 (fun e w' => ∃ a, e = .returned (.tuple #[.agg (noteV (takeF b).1 a), .int .i64 (takeF b).2]) ∧ NtR w' w.heap.size (takeF b).1 a ∧ Below w.heap.size w w') .ret ⟨T', []⟩ (W.setCells w.heap.size 0 WiEx.zE) :=
  bodyPost_ret (results_ct rfl _ _ ⟨w.heap.size, 0, none⟩ _ p2 (load_sets hb rfl rfl)) rfl ⟨⟨none, 0, none, 0, none, 0⟩, by rw [p3, hT]; rfl, by rw [hT]; exact slice_nil _ _, below_sets hB (Nat.le_refl _) _⟩
/-- What follows a function's first k statements. -/
def restO : Nat → Code → Option Code
  | 0, c => some c
  | k + 1, .seq _ y => restO k y
  | _, _ => none
def restB (k : Nat) (f : Func) : Option Code := match f.body with
  | some c => restO k c
  | none => none
theorem useC {o : Option Code} {Pr : Code → Prop} (h : ∃ c, o = some c ∧ Pr c) {c' : Code} (e : o = some c') : Pr c' := by
  obtain ⟨c, h1, h2⟩ := h
  rw [h1] at e
  injection e with e
  exact e ▸ h2
theorem step_k {P : Program} {c : Code} {Q : Exit → Act → World → Prop} {K : Act → World → Prop} {a : Act} {w : World} (h : ∀ a w, Code.wp P c Q a w → K a w) (h2 : Code.wp P c Q a w) : K a w := h a w h2
set_option maxHeartbeats 16000000 in
set_option maxRecDepth 100000 in
theorem tailD : ∃ C, restB 9 Try.f13 = some C ∧ ∀ (A : Option Addr) (c : Nat) (b : List Int) (w W : World) (an : Nat) (say p0 : Int) (a0 : Ads) (k1 k3 k6 k8 k9 k10 k11 k12 k13 k14 k15 k16 k17 k18 k19 k20 k21 k22 k23 k24 k25 k26 k27 k28 k29 k30 k31 k32 k33 k34 k35 k36 k37 k38 k39 k40 k41 k42 k43 k44 k45 k46 k47 k48 k49 k50 k51 k52 k53 k54 k55 k56 k57 k58 k59 k60 k61 k62 k63 k64 k65 k66 k67 k68 k69 k70 k71 k72 k73 k74 k75 k76 k77 k78 k79 k80 k81 k82 k83 k84 k85 k86 k87 k88 k89 k90 k91 k92 k93 k94 k95 k96 k97 k98 k99 k100 k101 k102 k103 k104 k105 k106 k107 k108 k109 k110 k111 k112 k113 k114 k115 k116 k117 k118 k119 k120 k121 k122 k123 k124 k125 k126 k127 k128 k129 k130 k131 k132 k133 k134 k135 k136 k137 k138 k139 k140 k141 k142 k143 k144 k145 k146 k147 k148 k149 k150 k151 k152 k153 k154 k155 k156 k157 k158 k159 k160 k161 k162 k163 k164 k165 k166 k167 k168 k169 k170 k171 k172 k173 k174 k175 k176 k177 k178 k179 k180 k181 k182 k183 k184 k185 k186 k187 k188 k189 k190 k191 k192 k193 k194 k195 k196 k197 k198 k199 k200 k201 k202 k203 k204 k205 k206 k207 k208 k209 k210 k211 k212 k213 k214 k215 k216 k217 k218 k219 k220 k221 k222 k223 k224 k225 k226 k227 k228 k229 k230 k231 k232 k233 k234 k235 k236 k237 k238 : Value), Given w A c b → sayOf b = say → (s5 b).2 = ⟨p0, 0⟩ → (0 ≤ p0 ∧ p0 ≤ b.length) → Tm w W an (Lz w.heap.size) (s5 b).1 a0 → Code.wp Try.prog C (bodyPost Try.prog Try.f13 (fun e w' => ∃ a, e = .returned (.tuple #[.agg (noteV (takeF b).1 a), .int .i64 (takeF b).2]) ∧ NtR w' w.heap.size (takeF b).1 a ∧ Below w.heap.size w w')) ⟨#[.slice A b.length c, k1, .pointer (some ⟨w.heap.size, 0, none⟩), k3, .int .i64 say, .int .i64 p0, k6, .pointer (some ⟨an, 0, none⟩), k8, k9, k10, k11, k12, k13, k14, k15, k16, k17, k18, k19, k20, k21, k22, k23, k24, k25, k26, k27, k28, k29, k30, k31, k32, k33, k34, k35, k36, k37, k38, k39, k40, k41, k42, k43, k44, k45, k46, k47, k48, k49, k50, k51, k52, k53, k54, k55, k56, k57, k58, k59, k60, k61, k62, k63, k64, k65, k66, k67, k68, k69, k70, k71, k72, k73, k74, k75, k76, k77, k78, k79, k80, k81, k82, k83, k84, k85, k86, k87, k88, k89, k90, k91, k92, k93, k94, k95, k96, k97, k98, k99, k100, k101, k102, k103, k104, k105, k106, k107, k108, k109, k110, k111, k112, k113, k114, k115, k116, k117, k118, k119, k120, k121, k122, k123, k124, k125, k126, k127, k128, k129, k130, k131, k132, k133, k134, k135, k136, k137, k138, k139, k140, k141, k142, k143, k144, k145, k146, k147, k148, k149, k150, k151, k152, k153, k154, k155, k156, k157, k158, k159, k160, k161, k162, k163, k164, k165, k166, k167, k168, k169, k170, k171, k172, k173, k174, k175, k176, k177, k178, k179, k180, k181, k182, k183, k184, k185, k186, k187, k188, k189, k190, k191, k192, k193, k194, k195, k196, k197, k198, k199, k200, k201, k202, k203, k204, k205, k206, k207, k208, k209, k210, k211, k212, k213, k214, k215, k216, k217, k218, k219, k220, k221, k222, k223, k224, k225, k226, k227, k228, k229, k230, k231, k232, k233, k234, k235, k236, k237, k238], []⟩ W := by
  refine ⟨_, rfl, ?_⟩
  intro A c b w W an say p0 a0 k1 k3 k6 k8 k9 k10 k11 k12 k13 k14 k15 k16 k17 k18 k19 k20 k21 k22 k23 k24 k25 k26 k27 k28 k29 k30 k31 k32 k33 k34 k35 k36 k37 k38 k39 k40 k41 k42 k43 k44 k45 k46 k47 k48 k49 k50 k51 k52 k53 k54 k55 k56 k57 k58 k59 k60 k61 k62 k63 k64 k65 k66 k67 k68 k69 k70 k71 k72 k73 k74 k75 k76 k77 k78 k79 k80 k81 k82 k83 k84 k85 k86 k87 k88 k89 k90 k91 k92 k93 k94 k95 k96 k97 k98 k99 k100 k101 k102 k103 k104 k105 k106 k107 k108 k109 k110 k111 k112 k113 k114 k115 k116 k117 k118 k119 k120 k121 k122 k123 k124 k125 k126 k127 k128 k129 k130 k131 k132 k133 k134 k135 k136 k137 k138 k139 k140 k141 k142 k143 k144 k145 k146 k147 k148 k149 k150 k151 k152 k153 k154 k155 k156 k157 k158 k159 k160 k161 k162 k163 k164 k165 k166 k167 k168 k169 k170 k171 k172 k173 k174 k175 k176 k177 k178 k179 k180 k181 k182 k183 k184 k185 k186 k187 k188 k189 k190 k191 k192 k193 k194 k195 k196 k197 k198 k199 k200 k201 k202 k203 k204 k205 k206 k207 k208 k209 k210 k211 k212 k213 k214 k215 k216 k217 k218 k219 k220 k221 k222 k223 k224 k225 k226 k227 k228 k229 k230 k231 k232 k233 k234 k235 k236 k237 k238 hG hso hs hi hT
  have HG := Aside0.mk hG
  have HTN := Aside0.mk (fun (pl : Int) (W : World) (hW : Below w.heap.size w W) => rtakeNum_calls A c b pl W (Kd.C_below hG.C hW) hG.hc hG.hb (Nat.le_trans hG.hm (by decide)))
  have HTT := Aside0.mk (fun (pl m : Int) (W : World) (hW : Below w.heap.size w W) => rtakeText_calls A c b pl m W (Kd.C_below hG.C hW) hG.hc hG.hb hG.hm)
  have hlen : b.length ≤ 140737488351232 := hG.hm
  have HSO := Aside0.mk hso
  have HSX := Aside0.mk hs
  have HIX := Aside0.mk hi
  have TX := Aside0.mk hT
  clear hG hso hs hi hT
  have HCH := Aside0.mk (fun (h : checkF (s5 b).1 ≠ 0) => last_chk HSX.out h)
  have HMO := Aside0.mk (fun (h : checkF (s5 b).1 = 0) (hp : p0 ≠ b.length) => last_more HSX.out h hp)
  have HOK := Aside0.mk (fun (h : checkF (s5 b).1 = 0) (hp : p0 = b.length) => last_ok HSX.out h hp)
  generalize (s5 b).1 = n at *
  have HCK := Aside0.mk (rcheck_calls n a0 W TX.out.r.C TX.out.r.C.h.2.1 TX.out.r.C.p.2.1)
  simp only [noteV] at HCK
  obtain ⟨c0, c1, c2, c3, c4, c5, c6⟩ := note_cells TX.out.note
  go_wp2_with fail
  refine HCK.out.mono ?_
  rintro e w10 ⟨rfl, hb10⟩
  have T10 := Aside0.mk (TX.out.below hb10)
  clear hb10 c0 c1 c2 c3 c4 c5 c6
  by_cases hck : checkF n = 0
  case neg =>
    have h1 : (checkF n != 0) = true := by simpa using hck
    have HTF := Aside0.mk (HCH.out hck)
    go_upto_region 62 with fail
    refine WiEx.exit4 (x := 231) (y := 232) (z := 30) (g0 := w.heap.size) rfl rfl rfl rfl rfl rfl rfl rfl rfl rfl rfl rfl (by kernel_rfl) rfl rfl T10.out.ret (by assumption) (fun T' p2 p3 => ?_)
    exact ret_none HTF.out T10.out.ret T10.out.b p2 p3
  have h1 : (checkF n != 0) = false := by simpa using hck
  by_cases hlt : p0 < b.length
  case pos =>
    have d1 : decide (p0 < (b.length : Int)) = true := decide_eq_true hlt
    have hne : p0 ≠ b.length := by omega
    have HTF := Aside0.mk (HMO.out hck hne)
    go_upto_region 64 with fail
    refine WiEx.exit3 (x := 237) (g0 := w.heap.size) rfl rfl rfl rfl rfl rfl rfl rfl rfl (by kernel_rfl) rfl T10.out.ret (by assumption) (fun T' p2 p3 => ?_)
    exact ret_none HTF.out T10.out.ret T10.out.b p2 p3
  have d1 : decide (p0 < (b.length : Int)) = false := decide_eq_false hlt
  have HTF := Aside0.mk (HOK.out hck (by have := HIX.out.2; omega))
  clear hck hlt
  obtain ⟨c0, c1, c2, c3, c4, c5, c6⟩ := note_cells T10.out.note
  obtain ⟨⟨z0, z1, z2, z3, z4, z5, z6⟩, y0, y1, y2, y3, y4, y5, y6⟩ := zs T10.out.ret
  obtain ⟨WZ, hwe, hld, hbz, hnr⟩ := zend T10.out.ret T10.out.b (Nat.le_refl _) n a0 T10.out.r
  have HWE := Aside0.mk hwe
  have HLD := Aside0.mk hld
  have HBZ := Aside0.mk hbz
  have HNR := Aside0.mk hnr
  clear hwe hld hbz hnr
  go_wp2_with fail
  rw [HWE.out]
  rw [HTF.out]
  exact bodyPost_ret (results_ct rfl _ _ ⟨w.heap.size, 0, none⟩ _ rfl HLD.out) rfl ⟨a0, rfl, HNR.out, HBZ.out⟩
set_option maxHeartbeats 16000000 in
set_option maxRecDepth 100000 in
theorem tailC : ∃ C, restB 8 Try.f13 = some C ∧ ∀ (A : Option Addr) (c : Nat) (b : List Int) (w W : World) (an : Nat) (say p0 : Int) (a0 : Ads) (k1 k3 k6 k8 k9 k10 k11 k12 k13 k14 k15 k16 k17 k18 k19 k20 k21 k22 k23 k24 k25 k26 k27 k28 k29 k30 k31 k32 k33 k34 k35 k36 k37 k38 k39 k40 k41 k42 k43 k44 k45 k46 k47 k48 k49 k50 k51 k52 k53 k54 k55 k56 k57 k58 k59 k60 k61 k62 k63 k64 k65 k66 k67 k68 k69 k70 k71 k72 k73 k74 k75 k76 k77 k78 k79 k80 k81 k82 k83 k84 k85 k86 k87 k88 k89 k90 k91 k92 k93 k94 k95 k96 k97 k98 k99 k100 k101 k102 k103 k104 k105 k106 k107 k108 k109 k110 k111 k112 k113 k114 k115 k116 k117 k118 k119 k120 k121 k122 k123 k124 k125 k126 k127 k128 k129 k130 k131 k132 k133 k134 k135 k136 k137 k138 k139 k140 k141 k142 k143 k144 k145 k146 k147 k148 k149 k150 k151 k152 k153 k154 k155 k156 k157 k158 k159 k160 k161 k162 k163 k164 k165 k166 k167 k168 k169 k170 k171 k172 k173 k174 k175 k176 k177 k178 k179 k180 k181 k182 k183 k184 k185 k186 k187 k188 k189 k190 k191 k192 k193 k194 k195 k196 k197 k198 k199 k200 k201 k202 k203 k204 k205 k206 k207 k208 k209 k210 k211 k212 k213 k214 k215 k216 k217 k218 k219 k220 k221 k222 k223 k224 k225 k226 k227 k228 k229 k230 k231 k232 k233 k234 k235 k236 k237 k238 : Value), Given w A c b → sayOf b = say → (s4 b).2 = ⟨p0, 0⟩ → (0 ≤ p0 ∧ p0 ≤ b.length) → Tm w W an (Lz w.heap.size) (s4 b).1 a0 → Code.wp Try.prog C (bodyPost Try.prog Try.f13 (fun e w' => ∃ a, e = .returned (.tuple #[.agg (noteV (takeF b).1 a), .int .i64 (takeF b).2]) ∧ NtR w' w.heap.size (takeF b).1 a ∧ Below w.heap.size w w')) ⟨#[.slice A b.length c, k1, .pointer (some ⟨w.heap.size, 0, none⟩), k3, .int .i64 say, .int .i64 p0, k6, .pointer (some ⟨an, 0, none⟩), k8, k9, k10, k11, k12, k13, k14, k15, k16, k17, k18, k19, k20, k21, k22, k23, k24, k25, k26, k27, k28, k29, k30, k31, k32, k33, k34, k35, k36, k37, k38, k39, k40, k41, k42, k43, k44, k45, k46, k47, k48, k49, k50, k51, k52, k53, k54, k55, k56, k57, k58, k59, k60, k61, k62, k63, k64, k65, k66, k67, k68, k69, k70, k71, k72, k73, k74, k75, k76, k77, k78, k79, k80, k81, k82, k83, k84, k85, k86, k87, k88, k89, k90, k91, k92, k93, k94, k95, k96, k97, k98, k99, k100, k101, k102, k103, k104, k105, k106, k107, k108, k109, k110, k111, k112, k113, k114, k115, k116, k117, k118, k119, k120, k121, k122, k123, k124, k125, k126, k127, k128, k129, k130, k131, k132, k133, k134, k135, k136, k137, k138, k139, k140, k141, k142, k143, k144, k145, k146, k147, k148, k149, k150, k151, k152, k153, k154, k155, k156, k157, k158, k159, k160, k161, k162, k163, k164, k165, k166, k167, k168, k169, k170, k171, k172, k173, k174, k175, k176, k177, k178, k179, k180, k181, k182, k183, k184, k185, k186, k187, k188, k189, k190, k191, k192, k193, k194, k195, k196, k197, k198, k199, k200, k201, k202, k203, k204, k205, k206, k207, k208, k209, k210, k211, k212, k213, k214, k215, k216, k217, k218, k219, k220, k221, k222, k223, k224, k225, k226, k227, k228, k229, k230, k231, k232, k233, k234, k235, k236, k237, k238], []⟩ W := by
  refine ⟨_, rfl, ?_⟩
  intro A c b w W an say p0 a0 k1 k3 k6 k8 k9 k10 k11 k12 k13 k14 k15 k16 k17 k18 k19 k20 k21 k22 k23 k24 k25 k26 k27 k28 k29 k30 k31 k32 k33 k34 k35 k36 k37 k38 k39 k40 k41 k42 k43 k44 k45 k46 k47 k48 k49 k50 k51 k52 k53 k54 k55 k56 k57 k58 k59 k60 k61 k62 k63 k64 k65 k66 k67 k68 k69 k70 k71 k72 k73 k74 k75 k76 k77 k78 k79 k80 k81 k82 k83 k84 k85 k86 k87 k88 k89 k90 k91 k92 k93 k94 k95 k96 k97 k98 k99 k100 k101 k102 k103 k104 k105 k106 k107 k108 k109 k110 k111 k112 k113 k114 k115 k116 k117 k118 k119 k120 k121 k122 k123 k124 k125 k126 k127 k128 k129 k130 k131 k132 k133 k134 k135 k136 k137 k138 k139 k140 k141 k142 k143 k144 k145 k146 k147 k148 k149 k150 k151 k152 k153 k154 k155 k156 k157 k158 k159 k160 k161 k162 k163 k164 k165 k166 k167 k168 k169 k170 k171 k172 k173 k174 k175 k176 k177 k178 k179 k180 k181 k182 k183 k184 k185 k186 k187 k188 k189 k190 k191 k192 k193 k194 k195 k196 k197 k198 k199 k200 k201 k202 k203 k204 k205 k206 k207 k208 k209 k210 k211 k212 k213 k214 k215 k216 k217 k218 k219 k220 k221 k222 k223 k224 k225 k226 k227 k228 k229 k230 k231 k232 k233 k234 k235 k236 k237 k238 hG hso hs hi hT
  have HG := Aside0.mk hG
  have HTN := Aside0.mk (fun (pl : Int) (W : World) (hW : Below w.heap.size w W) => rtakeNum_calls A c b pl W (Kd.C_below hG.C hW) hG.hc hG.hb (Nat.le_trans hG.hm (by decide)))
  have HTT := Aside0.mk (fun (pl m : Int) (W : World) (hW : Below w.heap.size w W) => rtakeText_calls A c b pl m W (Kd.C_below hG.C hW) hG.hc hG.hb hG.hm)
  have hlen : b.length ≤ 140737488351232 := hG.hm
  have HSO := Aside0.mk hso
  have HSX := Aside0.mk hs
  have HIX := Aside0.mk hi
  have TX := Aside0.mk hT
  clear hG hso hs hi hT
  have c0 : W.cell? ⟨an, 0, none⟩ = some (.int .i64 say) := obj_cell TX.out.note 0 (by rw [← HSO.out, ← say_s4 b]; rfl)
  go_upto_if 212 with fail
  clear c0
  go_cut [5] (fun s5' wx => ∃ (p : Int) (a : Ads), s5' = .int .i64 p ∧ Aside0 ((s5 b).2 = ⟨p, 0⟩) ∧ Aside0 (0 ≤ p ∧ p ≤ b.length) ∧ Aside0 (Tm w wx an (Lz w.heap.size) (s5 b).1 a))
  case first =>
    by_cases h7 : say = 7
    · have g7 : (say == 7) = true := by simp [h7]
      have HS1 : Aside0 (s5 b = ({ (s4 b).1 with bytes := (textR b ⟨p0, 0⟩ 512).1 }, (textR b ⟨p0, 0⟩ 512).2)) := ⟨by unfold s5; rw [HSO.out, show hasB say = true by simp [hasB, h7], if_pos rfl]; unfold bytesS; rw [HSX.out]⟩
      clear h7
      go_wp2_with fail
      refine (HTT.out p0 512 W TX.out.b).mono ?_
      rintro e w2 ⟨v2, rfl, hr2, hb2⟩
      have T2 := Aside0.mk (TX.out.below hb2)
      by_cases he : (takeText b p0 512).2.2 = 0
      case neg =>
        have h1 : ((takeText b p0 512).2.2 != 0) = true := by simpa using he
        have hsy : (s5 b).2 = ⟨p0, (takeText b p0 512).2.2⟩ := by
          rw [HS1.out]
          exact text_bad he
        clear hr2 hb2
        have HTF := Aside0.mk (bad5 hsy he)
        go_upto_region 57 with fail
        refine WiEx.exit4 (x := 222) (y := 223) (z := 29) (g0 := w.heap.size) rfl rfl rfl rfl rfl rfl rfl rfl rfl rfl rfl rfl (by kernel_rfl) rfl rfl T2.out.ret (by assumption) (fun T' p2 p3 => ?_)
        exact ret_none HTF.out T2.out.ret T2.out.b p2 p3
      rw [text_ok he] at HS1
      have HIT := Aside0.mk (takeText_in HG.out.hb p0 512 he)
      have HBY := Aside0.mk (takeText_bytes HG.out.hb p0 512)
      obtain ⟨⟨l, at2, e2⟩, htt⟩ : ∃ t, t = takeText b p0 512 := ⟨_, rfl⟩
      rw [← htt] at HS1 he hr2 HIT HBY ⊢
      clear htt
      dsimp only at *
      subst he
      obtain ⟨A2, c2, rfl⟩ := Kd.R_slice hr2
      have c1 := obj_cell (v := .slice a0.ab (s4 b).1.bytes.length a0.cb) T2.out.note 6 rfl
      have f1 := obj_free T2.out.note 6
      have T3 := Aside0.mk (T2.out.setB (Kd.R_lower hr2 TX.out.b.size) HBY.out)
      clear hr2 hb2
      go_wp2_with fail
      go_meet
      exact ⟨at2, _, rfl, ⟨by rw [HS1.out]⟩, ⟨⟨HIT.out.1, HIT.out.2.1⟩⟩, ⟨by rw [HS1.out]; exact T3.out⟩⟩
    · have g7 : (say == 7) = false := by simp [h7]
      have HS1 : Aside0 (s5 b = s4 b) := ⟨by unfold s5; rw [HSO.out, show hasB say = false by simp [hasB, h7]]; rfl⟩
      clear h7
      go_wp2_with fail
      go_meet
      exact ⟨p0, _, rfl, ⟨by rw [HS1.out]; exact HSX.out⟩, HIX, ⟨by rw [HS1.out]; exact TX.out⟩⟩
  case rest =>
  obtain ⟨p1, a1, rfl, HS9, HI9, T9⟩ := hcut
  refine step_k (by assumption) ?_
  exact useC tailD rfl _ _ _ _ _ _ _ _ _ _ _ _ _ _ _ _ _ _ _ _ _ _ _ _ _ _ _ _ _ _ _ _ _ _ _ _ _ _ _ _ _ _ _ _ _ _ _ _ _ _ _ _ _ _ _ _ _ _ _ _ _ _ _ _ _ _ _ _ _ _ _ _ _ _ _ _ _ _ _ _ _ _ _ _ _ _ _ _ _ _ _ _ _ _ _ _ _ _ _ _ _ _ _ _ _ _ _ _ _ _ _ _ _ _ _ _ _ _ _ _ _ _ _ _ _ _ _ _ _ _ _ _ _ _ _ _ _ _ _ _ _ _ _ _ _ _ _ _ _ _ _ _ _ _ _ _ _ _ _ _ _ _ _ _ _ _ _ _ _ _ _ _ _ _ _ _ _ _ _ _ _ _ _ _ _ _ _ _ _ _ _ _ _ _ _ _ _ _ _ _ _ _ _ _ _ _ _ _ _ _ _ _ _ _ _ _ _ _ _ _ _ _ _ _ _ _ _ _ _ _ _ _ _ _ _ _ _ _ _ _ _ _ _ HG.out HSO.out HS9.out HI9.out T9.out
end Go.Proofs.Ytbncmffifbcbjaa.WiYd
