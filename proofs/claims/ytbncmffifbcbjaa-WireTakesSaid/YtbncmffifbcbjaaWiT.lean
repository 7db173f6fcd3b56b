/- A string as bytes; what wire.text computes: a text behind its length, behind a row; condition: not too much. -/
import Derived.Test.YtbncmffifbcbjaaWiN
import Derived.Test.YtbncmffifbcbjaaAp
import Derived.Lib.ConvBytes
namespace Go.Proofs.Ytbncmffifbcbjaa.WiT
open Go Go.RowKit Go.Proofs.YtbncmffifbcbjaaW.PrintWords Go.Proofs.Ytbncmffifbcbjaa.K Go.Proofs.Ytbncmffifbcbjaa.OctS Go.Proofs.Ytbncmffifbcbjaa.OctP Go.Proofs.Ytbncmffifbcbjaa.Oct Go.Proofs.Ytbncmffifbcbjaa.WiN Go.Proofs.Ytbncmffifbcbjaa.Ap
set_option linter.unusedVariables false
set_option linter.unusedSimpArgs false
/-- A string's bytes. -/
def strB (s : ByteArray) : List Int := s.data.toList.map (fun b => (b.toNat : Int))
theorem strB_len (s : ByteArray) : (strB s).length = s.size := by simp [strB]
theorem strB_bytes (s : ByteArray) : Bytes (strB s) := fun c hc => by
  obtain ⟨b, _, rfl⟩ := List.mem_map.1 hc
  have := b.toNat_lt
  omega
theorem strOf_strB (s : ByteArray) : strOfNums (strB s) = s := by
  have h : (strOfNums (strB s)).data.toList = s.data.toList := by
    rw [strOfNums_data, strB, List.map_map]
    conv => rhs; rw [← List.map_id s.data.toList]
    refine List.map_congr_left fun b _ => ?_
    simp
  exact WideShapes.bytes_inj h
theorem strB_strOf {l : List Int} (h : Bytes l) : strB (strOfNums l) = l := by
  unfold strB
  rw [strOfNums_data, List.map_map]
  conv => rhs; rw [← List.map_id l]
  refine List.map_congr_left fun b hb => ?_
  have := h b hb
  simp only [Function.comp_apply, id_eq]
  have h1 : b.toNat < 256 := by omega
  simp [UInt8.toNat_ofNat, Nat.mod_eq_of_lt h1]
  omega
theorem conv_below (W : World) (e : TypeId) (s : ByteArray) : Below W.heap.size W (Lib.bytesWorld W e s) :=
  ⟨rfl, rfl, rfl, by rw [Lib.bytesWorld_size]; omega, fun k hk => Lib.bytesWorld_at_old W e s k hk⟩
theorem conv_C (W : World) (s : ByteArray) (hm : s.size ≤ maxLen) {W1 : World} (h : W1.heap[W.heap.size]? = (Lib.bytesWorld W 5 s).heap[W.heap.size]?) : (Kd.int .u8).C W1 (some ⟨W.heap.size, 0, none⟩) s.size (strB s) := by
  rw [← strB_len]
  refine Kd.C_of_reads (d := 0) ⟨rfl, by rw [strB_len]; simpa [maxLen] using hm, fun _ => ⟨⟨W.heap.size, 0, none⟩, rfl, fun j hj => ?_⟩⟩
  rw [strB_len] at hj
  have : W1.cell? ⟨W.heap.size, 0 + j, none⟩ = some (.int .u8 ((strB s).getD j 0)) := by
    have h2 := Lib.bytesWorld_cell W 5 s j hj
    rw [Nat.zero_add]
    unfold World.cell? at h2 ⊢
    simp only [h]
    rw [h2]
    congr 2
    have hj' : j < s.data.size := hj
    simp only [strB, List.getD_eq_getElem?_getD, List.getElem?_map, Array.getElem?_toList]
    rw [Array.getElem?_eq_getElem hj']
    rfl
  rw [Nat.zero_add] at this
  by_cases hj0 : j = 0
  · subst hj0; simpa [Addr.add] using this
  · simpa [Addr.add, hj0] using this
theorem infoI : (Try.prog.info? 3).map (fun i => (i.zero, i.size, i.bytes)) = some (some (.int .i64 0), 1, 8) := by kernel_rfl
set_option maxHeartbeats 1000000 in
theorem text_calls (base : Nat) (v : Value) (xs : List Int) (A : Option Addr) (n c : Nat) (ps : List Int) (w : World) (hO : Kd.R (Kd.int .u8) 5 w base (fun _ => True) (v) (xs)) (hb : base ≤ w.heap.size)
    (hC : ∀ W, w.grownBy W v.ownBlock → (Kd.int .u8).C W A n ps) (hl : xs.length + n ≤ 900000) :
    Calls Try.prog 26 #[v, .slice A n c] w fun e w' => ∃ v', e = .returned v' ∧ Kd.R (Kd.int .u8) 5 w' base (fun _ => True) (v') (xs ++ (numB n ++ ps)) ∧ Below base w w' ∧ Grew w w' v v' := by
  have HC := Aside0.mk hC
  have HBB := Aside0.mk hb
  have HL := Aside0.mk hl
  have HN := Aside0.mk (nums_calls base w.heap.size v xs [n] 1 rfl (w.alloc (.cells #[.int .i64 (n : Int)] 3)) (Kd.R_alloc hO _) (heap_alloc_new w _) (Nat.le_trans hb (by simp)) (by simp; omega) (by simp; omega))
  have hn : n ≤ 900000 := by omega
  clear hO hC hb hl
  go_enter Try.func26, Try.ntmps26
  go_wp2_with fail
  refine HN.out.mono ?_
  rintro e w1 ⟨v1, rfl, ho1, hb1, hg1⟩
  have HB1 := Aside0.mk (((Below.refl base w).alloc HBB.out (.cells #[.int .i64 (n : Int)] 3)).trans hb1)
  have HG1 : Aside0 (Grew w w1 v v1) := ⟨⟨⟨hg1.grown.os, hg1.grown.tape, hg1.grown.output, Nat.le_trans (by simp) hg1.grown.size, fun k hk hne => (hg1.grown.block k (by simp; omega) hne).trans (Below.heap_alloc w _ k hk)⟩, by
    rcases hg1.own with h | ⟨b, h, h2⟩
    · exact .inl h
    · exact .inr ⟨b, h, by simp at h2; omega⟩⟩⟩
  have HO1 := Aside0.mk ho1
  have HS1 := Aside0.mk (Nat.le_trans HBB.out HG1.out.grown.size)
  clear ho1 hb1 hg1
  go_wp2_with ((with_reducible refine gate_builtin (b := .append) (xs := #[.tmp 9, .tmp 10]) rfl ?_); at_builtin; refine app (Kd.int .u8) (flat_int .u8) base (w0 := w) (.tmp 9) (.tmp 10) 25 5 (.int .u8 0) 1 rfl rfl Try.underlying25 infoU8 rfl (by decide) (by decide) _ (xs ++ [n].flatMap numB) ps A n c rfl rfl HO1.out (HC.out _ HG1.out.grown) HB1.out HS1.out (by have := HL.out; have := numB_len8 n (by omega); simp; omega) ?_; intro v2 w2 ho2 hb2 hg2 hat2; have HO2 := Aside0.mk ho2; have HB2 := Aside0.mk hb2; have HG2 := Aside0.mk (HG1.out.step hg2 hat2); clear ho2 hb2 hg2 hat2)
  go_ret
  exact ⟨_, rfl, by have := HO2.out; simpa [List.append_assoc] using this, HB2.out, HG2.out⟩
end Go.Proofs.Ytbncmffifbcbjaa.WiT
