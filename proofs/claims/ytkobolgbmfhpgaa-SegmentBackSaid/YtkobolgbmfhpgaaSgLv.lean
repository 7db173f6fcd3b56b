/- The law's live: it answers true. -/
import Derived.Test.YtkobolgbmfhpgaaSgE
import Derived.Deep.MidRow
namespace Go.Proofs.Ytkobolgbmfhpgaa.SgLv
open Go Go.RowKit Go.Proofs.YtkobolgbmfhpgaaW.PrintWords Go.Proofs.Ytkobolgbmfhpgaa.K Go.Proofs.Ytkobolgbmfhpgaa.OctS Go.Proofs.Ytkobolgbmfhpgaa.OctP Go.Proofs.Ytkobolgbmfhpgaa.Oct Go.Proofs.Ytkobolgbmfhpgaa.SgL Go.Proofs.Ytkobolgbmfhpgaa.SgB Go.Proofs.Ytkobolgbmfhpgaa.SgD Go.Proofs.Ytkobolgbmfhpgaa.SgM Go.Proofs.Ytkobolgbmfhpgaa.SgH Go.Proofs.Ytkobolgbmfhpgaa.SgE
set_option linter.unusedVariables false
set_option linter.unusedSimpArgs false
def s6 : List Int := [0, 0, 0, 6, 0, 0, 0, 0, 0, 0, 0, 0, 0, 0, 0, 0, 0, 0, 0, 0, 0, 0, 0, 0, 0, 0, 0, 0, 0, 0, 0, 0]
def sumZ : Array Value := (List.replicate 32 (Value.int .u8 0)).toArray
theorem infoSm : (Try.prog.info? 31).map (fun i => (i.zero, i.size, i.bytes)) = some (some (.agg (List.replicate 32 (Value.int .u8 0)).toArray), 32, 32) := by kernel_rfl
theorem zeroSm (W : World) : (zeroValue 31).run Try.prog W = .ok (.agg sumZ) W := by
  obtain ⟨i, h1, h2⟩ := Option.map_eq_some_iff.1 infoSm
  simp only [Prod.mk.injEq] at h2
  simp [zeroValue, typeInfo, Sem.run_bind, h1, h2.1, sumZ]
theorem sum_one (s : List Int) : (nums .u8 s).toArray.all (·.oneCell') = true := all_oneCell_toArray (fun v hv => by
  obtain ⟨x, _, rfl⟩ := List.mem_map.1 hv
  rfl)
theorem info6 : (Try.prog.info? 31).map (·.size) = some (nums .u8 s6).toArray.size := by
  obtain ⟨i, h1, h2⟩ := Option.map_eq_some_iff.1 infoSm
  simp only [Prod.mk.injEq] at h2
  rw [h1]
  show some i.size = _
  rw [h2.2.1]; rfl
theorem s6_hook3 : hookF s6 3 = true := by decide
theorem s6_hook4 : hookF s6 4 = false := by decide
theorem champs_live : champs 2 [[1, 2], [2, 3], [3]] = [3, 2] := by decide
theorem size_set (b : Nat) : ∀ (vs : List Value) (o : Nat) (w : World), (w.setCells b o vs).heap.size = w.heap.size
  | [], _, _ => rfl
  | v :: vs, o, w => (size_set b vs (o + 1) (w.setCell ⟨b, o, none⟩ v)).trans (by simp [World.setCell])
theorem lit_int (w : World) (l : List Int) (t : TypeId) (hl : l.length ≤ 9223372036854775807) : (Kd.int .i64).C (w.alloc (.cells (nums .i64 l).toArray t)) (some ⟨w.heap.size, 0, none⟩) l.length l :=
  (Kd.R_reads' (Kd.R_of_own (ok := fun _ => True) (own_lit w w.heap.size t .i64 l (Nat.le_refl _) hl) (fun _ _ => trivial) : (Kd.int .i64).R t (w.alloc (.cells (nums .i64 l).toArray t)) w.heap.size (fun _ => True) (.slice (some ⟨w.heap.size, 0, none⟩) l.length l.length) l)).2.2
theorem lit_sl (w : World) (ds : List Ds) (t : TypeId) (hl : ds.length ≤ 9223372036854775807) : dSl.C (w.alloc (.cells (ds.map (fun d => Value.slice d.a d.n d.c)).toArray t)) (some ⟨w.heap.size, 0, none⟩) ds.length ds := by
  refine ⟨rfl, hl, fun h0 => ⟨_, rfl, fun j x hj => ⟨x.cells, rfl, ⟨trivial, rfl⟩, fun r u hu => ?_⟩⟩⟩
  have hr : r = 0 := by
    have := (List.getElem?_eq_some_iff.1 hu).1
    have h1 : x.cells.length = 1 := rfl
    omega
  subst hr
  obtain rfl : Value.slice x.a x.n x.c = u := by simpa [Ds.cells] using hu
  rw [addr0]
  show World.cell? _ ⟨w.heap.size, j * 1 + 0, none⟩ = _
  rw [Nat.mul_one, Nat.add_zero]
  refine obj_cell (heap_alloc_new w _) j ?_
  simp [hj]
theorem range_below {w w1 : World} {b o : Nat} {cs : List Value} (h : w.rangeAt b o cs) (hb : Below w.heap.size w w1) : w1.rangeAt b o cs := fun j v hj => by
  have h1 := h j v hj
  rw [← h1]
  unfold World.cell?
  rw [hb.block b (World.block_lt_of_cell? _ _ h1)]
theorem lists (W1 W4 : World) (b : Nat) (hz : W1.heap.size = b) (h4 : W4 = (((W1.alloc (.cells #[.int .i64 1, .int .i64 2] 3)).alloc (.cells #[.int .i64 2, .int .i64 3] 3)).alloc (.cells #[.int .i64 3] 3)).alloc (.cells #[.slice (some ⟨b, 0, none⟩) 2 2, .slice (some ⟨b + 1, 0, none⟩) 2 2, .slice (some ⟨b + 1 + 1, 0, none⟩) 1 1] 24)) :
    ∃ f, Tls W4 f [⟨some ⟨b, 0, none⟩, 2, 2⟩, ⟨some ⟨b + 1, 0, none⟩, 2, 2⟩, ⟨some ⟨b + 1 + 1, 0, none⟩, 1, 1⟩] ∧ List.map f [⟨some ⟨b, 0, none⟩, 2, 2⟩, ⟨some ⟨b + 1, 0, none⟩, 2, 2⟩, ⟨some ⟨b + 1 + 1, 0, none⟩, 1, 1⟩] = [[1, 2], [2, 3], [3]] := by
  subst hz
  have b0 : ∀ (W : World) (o : Obj), Below W.heap.size W (W.alloc o) := fun W o => below_alloc (Below.refl _ _) o
  have c0 := lit_int W1 [1, 2] 3 (by decide)
  have c1 := lit_int (W1.alloc (.cells #[.int .i64 1, .int .i64 2] 3)) [2, 3] 3 (by decide)
  have c2 := lit_int ((W1.alloc (.cells #[.int .i64 1, .int .i64 2] 3)).alloc (.cells #[.int .i64 2, .int .i64 3] 3)) [3] 3 (by decide)
  rw [World.size_alloc] at c1 c2
  rw [World.size_alloc] at c2
  have d0 : (Kd.int .i64).C W4 (some ⟨W1.heap.size, 0, none⟩) 2 [1, 2] := by
    rw [h4]; exact Kd.C_below (Kd.C_below (Kd.C_below c0 (b0 _ _)) (b0 _ _)) (b0 _ _)
  have d1 : (Kd.int .i64).C W4 (some ⟨W1.heap.size + 1, 0, none⟩) 2 [2, 3] := by
    rw [h4]; exact Kd.C_below (Kd.C_below c1 (b0 _ _)) (b0 _ _)
  have d2 : (Kd.int .i64).C W4 (some ⟨W1.heap.size + 1 + 1, 0, none⟩) 1 [3] := by
    rw [h4]; exact Kd.C_below c2 (b0 _ _)
  have t0 : TL W4 ⟨some ⟨W1.heap.size, 0, none⟩, 2, 2⟩ [1, 2] := ⟨d0, Nat.le_refl _, by decide, (by decide : 2 ≤ 12)⟩
  have t1 : TL W4 ⟨some ⟨W1.heap.size + 1, 0, none⟩, 2, 2⟩ [2, 3] := ⟨d1, Nat.le_refl _, by decide, (by decide : 2 ≤ 12)⟩
  have t2 : TL W4 ⟨some ⟨W1.heap.size + 1 + 1, 0, none⟩, 1, 1⟩ [3] := ⟨d2, Nat.le_refl _, by decide, (by decide : 1 ≤ 12)⟩
  refine ⟨rdL W4, fun d hd => ?_, ?_⟩
  · simp only [List.mem_cons, List.not_mem_nil, or_false] at hd
    rcases hd with rfl | rfl | rfl
    · exact rdL_tl t0
    · exact rdL_tl t1
    · exact rdL_tl t2
  · simp only [List.map_cons, List.map_nil, rdL_is t0, rdL_is t1, rdL_is t2]
def z32 : List Int := List.replicate 32 0
def rL : Ref := ⟨z32, 1, 0, 0⟩
def r0 : Ref := ⟨z32, 0, 0, 0⟩
theorem rL_ok : rL.Ok := ⟨rfl, by decide, by decide, by decide, by decide⟩
theorem r0_ok : r0.Ok := ⟨rfl, by decide, by decide, by decide, by decide⟩
theorem rL_all : ReR.AllOk [rL] := fun r hr => by
  simp at hr
  subst hr
  unfold ReR.okRef; decide
theorem r0_ends : endsF [r0] 1 = true := by decide
theorem rL_len : (ReP.refsB [rL]).length = 36 := by decide +kernel
theorem lit1 (w : World) (r : Ref) (h : r.Ok) : RefsC (w.alloc (.cells r.cells.toArray 34)) (some ⟨w.heap.size, 0, none⟩) 1 [r] := by
  refine ⟨rfl, by simp [maxLen], fun r' hr => ?_, fun _ => ⟨_, rfl⟩, fun ad ha i hi j v hj => ?_⟩
  · simp at hr
    subst hr; exact h
  · injection ha with ha
    subst ha
    obtain rfl : i = 0 := by omega
    have hb := heap_alloc_new w (.cells r.cells.toArray 34)
    have hl := (List.getElem?_eq_some_iff.1 hj).1
    rw [Nat.zero_mul, addr0, addr0]
    refine obj_cell hb j ?_
    rw [List.getElem?_toArray]
    exact hj
set_option maxRecDepth 100000 in
set_option maxHeartbeats 4000000 in
theorem live_calls (w : World) : Calls Try.prog 12 #[] w fun e w' => e = .returned (.bool true) ∧ Below w.heap.size w w' := by
  have HZ := zeroSm
  have HU := Aside0.mk Try.underlying31
  have HI6 := Aside0.mk info6
  have HO6 := Aside0.mk (sum_one s6)
  have h1 : (w.alloc (.cells sumZ 31)).heap[w.heap.size]? = some (.cells sumZ 31 (0, 0)) := heap_alloc_new w _
  have there : (w.alloc (.cells sumZ 31)).there w.heap.size 0 32 := fun j hj => by
    refine ⟨?_, obj_free h1 _⟩
    rw [cell_of_row _ _ _ _ _ _ h1]
    have : j < sumZ.size := by simp [sumZ]; omega
    simp [this]
  have HTH := Aside0.mk there
  go_enter Try.func12, Try.ntmps12
  refine wp_seq_k (fun K2 h2 => ?_)
  refine wp_region_lit ?_
  iterate 1 (refine wpList_step (fun K hK => ?_); go_simp; refine hK _ _ ?_; clear hK K)
  refine wpList_nil ?_
  refine h2 _ _ ?_
  clear h2 K2
  refine wp_seq_k (fun K2 h2 => ?_)
  refine wp_region_lit ?_
  iterate 1 (refine wpList_step (fun K hK => ?_); go_simp; refine hK _ _ ?_; clear hK K)
  iterate 1 (refine Hd.step_run rfl (Hd.exec_alloc _ rfl _ (zeroSm _)) ?_; (try simp only [Act.put, List.setIfInBounds_toArray, List.set_cons_zero, List.set_cons_succ, World.size_alloc]))
  refine wpList_store_mid rfl _ _ _ rfl w.heap.size 0 (nums .u8 s6).toArray rfl rfl HTH.out HI6.out HO6.out ?_
  refine wpList_nil ?_
  obtain ⟨W1, hW1⟩ : ∃ W1, W1 = (w.alloc (.cells (Value.agg sumZ).cells 31)).setCells w.heap.size 0 (nums .u8 s6).toArray.toList := ⟨_, rfl⟩
  rw [← hW1]
  have hz1 : W1.heap.size = w.heap.size + 1 := by rw [hW1, size_set]; simp
  have HR1 : Aside0 (W1.rangeAt w.heap.size 0 (nums .u8 s6)) := ⟨by rw [hW1]; exact World.rangeAt_setCells_same _ _ _ _ there⟩
  have HB1 : Aside0 (Below w.heap.size w W1) := ⟨by
    have := (below_alloc (Below.refl w.heap.size w) (.cells sumZ 31)).grown (grown_set _ w.heap.size 0 (nums .u8 s6)) (by simp) (fun k hk => by cases hk; exact Nat.le_refl _)
    rw [hW1]; exact this⟩
  clear hW1 h1 there HTH
  refine h2 _ _ ?_
  clear h2 K2
  (try simp only [Act.put, List.setIfInBounds_toArray, List.set_cons_zero, List.set_cons_succ])
  obtain ⟨f, hTl, hmap⟩ := lists W1 _ (w.heap.size + 1) hz1 rfl
  have HCH := champs_calls (some ⟨w.heap.size + 1 + 1 + 1 + 1, 0, none⟩) 3 3 _ f 2 _ (by
    have := lit_sl (((W1.alloc (.cells #[.int .i64 1, .int .i64 2] 3)).alloc (.cells #[.int .i64 2, .int .i64 3] 3)).alloc (.cells #[.int .i64 3] 3)) [⟨some ⟨w.heap.size + 1, 0, none⟩, 2, 2⟩, ⟨some ⟨w.heap.size + 1 + 1, 0, none⟩, 2, 2⟩, ⟨some ⟨w.heap.size + 1 + 1 + 1, 0, none⟩, 1, 1⟩] 24 (by simp)
    simp only [World.size_alloc, hz1] at this
    exact this) hTl (by decide)
  rw [hmap, show (min (2 : Int) 8).toNat = 2 from by decide, champs_live] at HCH
  clear hmap hTl
  go_wp2_with fail
  refine HCH.mono ?_
  rintro e W3 ⟨v3, rfl, ho3, hb3⟩
  have HB3 : Aside0 (Below w.heap.size w W3) := ⟨below_then (below_alloc (below_alloc (below_alloc (below_alloc HB1.out _) _) _) _) (by simp; omega) hb3⟩
  have HR3 : Aside0 (W3.rangeAt w.heap.size 0 (nums .u8 s6)) := ⟨range_below HR1.out (below_then (below_alloc (below_alloc (below_alloc (below_alloc (Below.refl _ _) _) _) _) _) (by simp; omega) hb3)⟩
  obtain ⟨A3, c3, rfl, hlc3, hC3⟩ := Kd.R_reads ho3
  have HC3 := Aside0.mk hC3
  clear HCH ho3 hb3 hC3 hz1
  go_wp2_with fail
  rename_i K1 h1 K0 h0
  refine (ReP.put_calls (some ⟨W3.heap.size, 0, none⟩) 1 1 [rL] _ (lit1 W3 rL rL_ok) (by decide)).mono ?_
  rintro e W5 ⟨hb5, h5⟩
  rcases h5 with ⟨_, v5, rfl, ho5⟩ | ⟨hn, _⟩
  rotate_left
  · exact absurd rL_all hn
  obtain ⟨A5, c5, rfl⟩ := Kd.R_slice ho5
  have HB35 := Aside0.mk (below_then (below_alloc (Below.refl W3.heap.size W3) _) (by simp) hb5)
  have HB5 := Aside0.mk (below_then HB3.out HB3.out.size HB35.out)
  have HR5 := Aside0.mk (range_below HR3.out HB35.out)
  have HC5 := Aside0.mk (Kd.C_below HC3.out HB35.out)
  rw [rL_len]
  clear HB35 hb5 ho5 HC3 HR3 HB3 hlc3
  refine h0 _ _ ?_
  clear h0 K0
  iterate 5 (refine wpList_step (fun K hK => ?_); go_simp; refine hK _ _ ?_; clear hK K)
  refine wpList_nil ?_
  refine h1 _ _ ?_
  clear h1 K1
  refine wp_seq_k (fun K2 h2 => ?_)
  refine wp_region_lit ?_
  (refine wpList_step (fun K hK => ?_); refine Hd.load_wanted (by rfl) _ (.tmp 1) rfl w.heap.size 0 rfl (nums .u8 s6) _ HR5.out HU.out rfl HI6.out ?_; refine hK _ _ ?_; clear hK K; (try simp only [Act.put, List.setIfInBounds_toArray, List.set_cons_zero, List.set_cons_succ]))
  (refine wpList_step (fun K hK => ?_); go_simp)
  refine (hook_calls s6 3 _ rfl (by decide)).mono ?_
  rintro e W6 ⟨rfl, hb6⟩
  rw [s6_hook3]
  refine hK _ _ ?_
  clear hK K
  (try simp only [Act.put, List.setIfInBounds_toArray, List.set_cons_zero, List.set_cons_succ])
  have HB6 := Aside0.mk (below_then HB5.out HB5.out.size hb6)
  have HR6 := Aside0.mk (range_below HR5.out hb6)
  have hC6 := Kd.C_below HC5.out hb6
  clear HC5 HR5 HB5
  iterate 1 (refine wpList_step (fun K hK => ?_); go_simp; refine hK _ _ ?_; clear hK K)
  (refine wpList_step (fun K hK => ?_); refine Hd.load_wanted (by rfl) _ (.tmp 1) rfl w.heap.size 0 rfl (nums .u8 s6) _ HR6.out HU.out rfl HI6.out ?_; refine hK _ _ ?_; clear hK K; (try simp only [Act.put, List.setIfInBounds_toArray, List.set_cons_zero, List.set_cons_succ]))
  (refine wpList_step (fun K hK => ?_); go_simp)
  refine (hook_calls s6 4 _ rfl (by decide)).mono ?_
  rintro e W7 ⟨rfl, hb7⟩
  rw [s6_hook4]
  refine hK _ _ ?_
  clear hK K
  (try simp only [Act.put, List.setIfInBounds_toArray, List.set_cons_zero, List.set_cons_succ])
  have HB7 := Aside0.mk (below_then HB6.out HB6.out.size hb7)
  obtain ⟨ad, rfl, hx0⟩ := Kd.at_int (Kd.C_below hC6 hb7) 0 (by decide) (by decide)
  obtain ⟨ad', e', hx1⟩ := Kd.at_int (Kd.C_below hC6 hb7) 1 (by decide) (by decide)
  injection e' with e'
  subst e'
  have hx0 : W7.cell? ad = some (.int .i64 3) := hx0
  have hx1 : W7.cell? ⟨ad.block, ad.off + 1, none⟩ = some (.int .i64 2) := hx1
  clear hC6 HR6 HB6 hb6 hb7
  iterate 29 (refine wpList_step (fun K hK => ?_); go_simp; refine hK _ _ ?_; clear hK K)
  iterate 2 (refine wpList_step (fun K hK => ?_); go_simp; refine hK _ _ ?_; clear hK K)
  (refine wpList_step (fun K hK => ?_); go_simp)
  refine (ends_calls (some ⟨W7.heap.size, 0, none⟩) 1 1 [r0] 1 _ (lit1 W7 r0 r0_ok) (by decide)).mono ?_
  rintro e W8 ⟨rfl, hb8⟩
  rw [r0_ends]
  refine hK _ _ ?_
  clear hK K
  (try simp only [Act.put, List.setIfInBounds_toArray, List.set_cons_zero, List.set_cons_succ])
  iterate 2 (refine wpList_step (fun K hK => ?_); go_simp; refine hK _ _ ?_; clear hK K)
  refine wpList_nil ?_
  refine h2 _ _ ?_
  (try simp only [Act.put, List.setIfInBounds_toArray, List.set_cons_zero, List.set_cons_succ])
  go_wp2
  go_ret
  exact ⟨rfl, below_then (below_alloc HB7.out _) (Nat.le_trans HB7.out.size (by simp)) hb8⟩
end Go.Proofs.Ytkobolgbmfhpgaa.SgLv
