/- Refs and pieces as kinds of elements; what slices.Clone computes at refs. -/
import Derived.Test.YtkobolgbmfhpgaaSgP
import Derived.Test.YtkobolgbmfhpgaaKr
namespace Go.Proofs.Ytkobolgbmfhpgaa.ReK
open Go Go.RowKit Go.Proofs.YtkobolgbmfhpgaaW.PrintWords Go.Proofs.Ytkobolgbmfhpgaa.K Go.Proofs.Ytkobolgbmfhpgaa.OctS Go.Proofs.Ytkobolgbmfhpgaa.OctP Go.Proofs.Ytkobolgbmfhpgaa.ReS Go.Proofs.Ytkobolgbmfhpgaa.ReR Go.Proofs.Ytkobolgbmfhpgaa.ReT Go.Proofs.Ytkobolgbmfhpgaa.ReN Go.Proofs.Ytkobolgbmfhpgaa.ReP
set_option linter.unusedVariables false
set_option linter.unusedSimpArgs false
theorem ref_one (r : Ref) (_ : r.Ok) : ∀ u ∈ r.cells, u.oneCell' = true := fun v hv => by
  rcases List.mem_append.1 hv with hv | hv
  · obtain ⟨x, _, rfl⟩ := List.mem_map.1 hv; rfl
  · simp only [List.mem_cons, List.not_mem_nil, or_false] at hv
    rcases hv with rfl | rfl | rfl <;> rfl
def dRef : Kd Ref := Kd.flatK 35 Ref.Ok Ref.cells (fun _ h => Ref.cells_len h) ref_one
theorem flat_ref : Flat dRef := Kd.flatK_flat _ _ _ _ _
theorem infoRef3 : (Try.prog.info? 34).map (fun i => (i.zero, i.size, i.bytes)) = some (some (.agg (List.replicate 32 (Value.int .u8 0) ++ [Value.int .i64 0, Value.int .i64 0, Value.int .i64 0]).toArray), 35, 56) := by kernel_rfl
theorem refs_C {w : World} {A : Option Addr} {k : Nat} {rs : List Ref} (h : RefsC w A k rs) : dRef.C w A k rs := by
  refine ⟨h.len, by have := h.lim; simp only [maxLen] at this; omega, fun h0 => ?_⟩
  obtain ⟨ad, had⟩ := h.is h0
  refine ⟨ad, had, fun j p hj => ?_⟩
  obtain ⟨hjl, hjp⟩ := List.getElem?_eq_some_iff.1 hj
  have hp : rs.getD j default = p := by simp [hj]
  have ho := h.ok j (by rw [← h.len]; exact hjl)
  have hc := h.cells ad had j (by rw [← h.len]; exact hjl)
  rw [hp] at hc ho
  refine ⟨p.cells, Ref.cells_len ho, ⟨ho, rfl⟩, fun i u hu => ?_⟩
  have := hc i u hu
  rwa [Addr.add_add] at this
theorem refs_of_C {w : World} {A : Option Addr} {k : Nat} {rs : List Ref} (h : dRef.C w A k rs) (hk : k ≤ maxLen) : RefsC w A k rs := by
  have hl : rs.length = k := h.1
  have hg : ∀ j (hj : j < rs.length), ∃ ad, A = some ad ∧ (rs[j]).Ok ∧ Go.Proofs.Ytkobolgbmfhpgaa.Hd.RangeA w (ad.add (j * 35)) (rs[j]).cells := fun j hj => by
    obtain ⟨ad, had, hc⟩ := h.2.2 (by omega)
    obtain ⟨cs, hs, ⟨ho, rfl⟩, hcell⟩ := hc j rs[j] (List.getElem?_eq_getElem hj)
    exact ⟨ad, had, ho, fun i u hu => by rw [Addr.add_add]; exact hcell i u hu⟩
  refine ⟨hl, hk, fun r hr => ?_, fun h0 => ?_, fun ad ha i hi => ?_⟩
  · obtain ⟨j, hj, rfl⟩ := List.getElem_of_mem hr
    obtain ⟨_, _, ho, _⟩ := hg j hj
    exact ho
  · obtain ⟨ad, had, _⟩ := h.2.2 h0
    exact ⟨ad, had⟩
  · obtain ⟨ad', had, _, hr⟩ := hg i (by omega)
    rw [ha] at had
    injection had with had
    subst had
    rw [show rs.getD i default = rs[i] from by simp [show i < rs.length by omega]]
    exact hr
theorem qRf (w : World) (a : Option Addr) (n c n' c' : Nat) : (binOp .eql 28 (.slice a n c) (.slice none n' c')).run Try.prog w = .ok (.bool a.isNone) w := Lib.run_eql_slice_nil w _ _ a n c n' c' Try.underlying28
set_option maxHeartbeats 1000000 in
theorem cloneR (A0 : Option Addr) (n c0 : Nat) (l0 : List Ref) (w : World) (hr : dRef.C w A0 n l0) (hb : n * 56 ≤ 140737488351232) :
    Calls Try.prog 35 #[.slice A0 n c0] w fun e w' => ∃ v, e = .returned v ∧ Kd.R dRef 34 w' w.heap.size (fun _ => True) (v) (l0) ∧ Below w.heap.size w w' := by
  have HB := Aside0.mk (Below.refl w.heap.size w)
  have hq := qRf
  cases A0 with
  | none =>
    obtain rfl : l0 = [] := C_none hr
    go_enter Try.func35, Try.ntmps35
    go_wp2
    go_ret
    exact ⟨_, rfl, Kd.R_nil _ _ _ _ _, HB.out⟩
  | some a =>
    have HR := Aside0.mk hr
    clear hr
    have HN := Aside0.mk (Kd.R_made_nil dRef w 34)
    go_enter Try.func35, Try.ntmps35
    go_wp2_with ((with_reducible refine gate_builtin (b := .append) (xs := #[.tmp 5, .tmp 6]) rfl ?_); at_builtin; refine app dRef flat_ref w.heap.size (w0 := w) (.tmp 5) (.tmp 6) 28 34 _ 56 rfl rfl Try.underlying28 infoRef3 rfl (by decide) (by decide) _ [] l0 (some a) n c0 rfl rfl ?aO ?aR ?aB ?aS ?aL ?_; (case aO => exact HN.out); (case aR => exact (Kd.C_below HR.out (by repeat (first | (with_reducible first | exact HB.out | apply below_alloc | apply pw_below_drewN | apply below_drew1) | exact HB.out)))); (case aB => exact (by repeat (first | (with_reducible first | exact HB.out | apply below_alloc | apply pw_below_drewN | apply below_drew1) | exact HB.out))); (case aS => exact (below_size (by repeat (first | (with_reducible first | exact HB.out | apply below_alloc | apply pw_below_drewN | apply below_drew1) | exact HB.out)))); (case aL => exact (by simp; omega)); intro v1 w1 ho hb1 hg hat)
    go_ret
    exact ⟨_, rfl, by simpa using ho, hb1⟩
end Go.Proofs.Ytkobolgbmfhpgaa.ReK
