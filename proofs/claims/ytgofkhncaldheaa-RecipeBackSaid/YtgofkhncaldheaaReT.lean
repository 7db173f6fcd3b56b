/- How many bytes refs have, in the program; and the struct variable of a loop over refs. -/
import Derived.Test.YtgofkhncaldheaaReR
namespace Go.Proofs.Ytgofkhncaldheaa.ReT
open Go Go.RowKit Go.Proofs.YtgofkhncaldheaaW.PrintWords Go.Proofs.Ytgofkhncaldheaa.K Go.Proofs.Ytgofkhncaldheaa.OctS Go.Proofs.Ytgofkhncaldheaa.OctP Go.Proofs.Ytgofkhncaldheaa.ReS Go.Proofs.Ytgofkhncaldheaa.ReR
set_option linter.unusedVariables false
set_option linter.unusedSimpArgs false
theorem infoRefZ : (Try.prog.info? 56).map (fun i => i.zero) = some (some (.agg (List.replicate 32 (Value.int .u8 0) ++ [Value.int .i64 0, Value.int .i64 0, Value.int .i64 0]).toArray)) := by kernel_rfl
theorem zeroRef : ∃ Z : Array Value, Z.size = 35 ∧ ∀ W, (zeroValue 56).run Try.prog W = .ok (.agg Z) W := by
  refine ⟨(List.replicate 32 (Value.int .u8 0) ++ [Value.int .i64 0, Value.int .i64 0, Value.int .i64 0]).toArray, rfl, fun W => ?_⟩
  obtain ⟨i, h1, h2⟩ := Option.map_eq_some_iff.1 infoRefZ
  simp [zeroValue, typeInfo, Sem.run_bind, h1, h2]
set_option maxHeartbeats 2000000 in
theorem size_calls (A : Option Addr) (k c : Nat) (rs : List Ref) (w : World) (h : RefsC w A k rs) (hk : k ≤ 256) (ho : AllOk rs) : Calls Try.prog 22 #[.slice A k c] w fun e w' => e = .returned (.int .i64 ((lens rs).sum : Nat)) ∧ Below w.heap.size w w' := by
  have H := Aside0.mk h
  have HO := Aside0.mk ho
  have HL := Aside0.mk h.len
  have HU := Aside0.mk Try.underlying56
  obtain ⟨Z, hz, hzv⟩ := zeroRef
  have HZ := Aside0.mk hz
  have HZV := Aside0.mk hzv
  clear h ho hz hzv
  go_enter Try.func22, Try.ntmps22
  go_wp2
  go_loopg [3, 8] (k + 1) (fun gk v3 v8 wr => ∃ (i acc : Nat), v3 = .int .i64 acc ∧ v8 = .int .i64 i ∧ i ≤ k ∧ acc ≤ 512 * i ∧ Aside0 (gk = k - i + 1) ∧ Aside0 (acc = ((lens rs).take i).sum) ∧ Aside0 (Below w.heap.size w wr))
  case atStart => exact ⟨0, 0, rfl, rfl, Nat.zero_le _, by omega, ⟨rfl⟩, ⟨by simp⟩, ⟨Below.refl _ _⟩⟩
  case round =>
    obtain ⟨i, acc, rfl, rfl, hi, hacc, HG, HT, HB⟩ := hrel
    by_cases hlt : i < k
    · have h1 : decide ((i : Int) < (k : Int)) = true := by simp; omega
      obtain ⟨ad, hA⟩ := H.out.is (by omega)
      subst hA
      have hp1 : (0 : Int) ≤ (i : Int) := by omega
      have hp2 : (i : Int) < (k : Int) := by omega
      have hk1 := getD_ok rs HO.out i (by rw [HL.out]; exact hlt)
      have HS := Aside0.mk (lens_take rs i (by rw [HL.out]; exact hlt))
      have hok := H.out.ok i hlt
      have HRA := Aside0.mk ((H.out.below HB.out).cells ad rfl i hlt)
      have HI := Aside0.mk (infoRef _ hok)
      have HI2 : Aside0 ((Try.prog.info? 56).map (·.size) = some (rs.getD i default).cells.toArray.size) := ⟨by rw [List.size_toArray]; exact HI.out⟩
      have HZC := Aside0.mk (show Z.size = (rs.getD i default).cells.toArray.size from HZ.out.trans (by rw [List.size_toArray, Ref.cells_len hok]))
      have HON := Aside0.mk (Ref.cells_one (r := rs.getD i default))
      have hl : (rs.getD i default).len = ((rs.getD i default).len.toNat : Int) := by unfold okRef at hk1; omega
      have hc : (wr.alloc (.cells (rs.getD i default).cells.toArray 56)).cell? ⟨wr.heap.size, 32, none⟩ = some (.int .i64 (rs.getD i default).len) := obj_cell (heap_alloc_new wr _) 32 (Ref.cell_len hok)
      rw [hl] at hc
      have hl2 : (rs.getD i default).len.toNat ≤ 512 := by unfold okRef at hk1; omega
      have HB2 := Aside0.mk (below_alloc HB.out (.cells (rs.getD i default).cells.toArray 56))
      generalize (rs.getD i default).len.toNat = x at *
      generalize (rs.getD i default).cells = C at *
      clear hl hk1 hok
      go_wp2_with (first
        | ((with_reducible refine gate_ (.load 56 (.tmp 10)) rfl ?_); refine Hd.wpList_load_any rfl _ (.tmp 10) rfl _ rfl C _ HRA.out HU.out rfl HI.out ?_)
        | ((with_reducible refine gate_ (.alloc 56) rfl ?_); refine Hd.step_run rfl (Hd.exec_alloc _ rfl _ (HZV.out _)) ?_; refine Hd.wpList_store_new rfl _ _ _ rfl _ Z C.toArray rfl rfl HZC.out HI2.out HON.out ?_))
      go_roundg (k - (i + 1) + 1)
      case measure => have := HG.out; omega
      case rel => exact ⟨i + 1, acc + x, by go_num, by go_num, by omega, by omega, ⟨rfl⟩, ⟨by rw [HS.out, ← HT.out]⟩, HB2⟩
    · obtain rfl : i = k := by omega
      have h1 : decide ((i : Int) < (i : Int)) = false := by simp
      go_wp2
      go_ret
      have hh : acc = (lens rs).sum := by
        have h := HT.out
        rwa [List.take_of_length_le (by simp [lens, HL.out])] at h
      exact ⟨by rw [← hh]; rfl, HB.out⟩
end Go.Proofs.Ytgofkhncaldheaa.ReT
