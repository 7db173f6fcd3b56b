/- The struct variable of a loop over refs. -/
import Derived.Test.YtkobolgbmfhpgaaSgR
namespace Go.Proofs.Ytkobolgbmfhpgaa.ReT
open Go Go.RowKit Go.Proofs.YtkobolgbmfhpgaaW.PrintWords Go.Proofs.Ytkobolgbmfhpgaa.K Go.Proofs.Ytkobolgbmfhpgaa.OctS Go.Proofs.Ytkobolgbmfhpgaa.OctP Go.Proofs.Ytkobolgbmfhpgaa.ReS Go.Proofs.Ytkobolgbmfhpgaa.ReR
set_option linter.unusedVariables false
set_option linter.unusedSimpArgs false
theorem infoRefZ : (Try.prog.info? 34).map (fun i => i.zero) = some (some (.agg (List.replicate 32 (Value.int .u8 0) ++ [Value.int .i64 0, Value.int .i64 0, Value.int .i64 0]).toArray)) := by kernel_rfl
theorem zeroRef : ∃ Z : Array Value, Z.size = 35 ∧ ∀ W, (zeroValue 34).run Try.prog W = .ok (.agg Z) W := by
  refine ⟨(List.replicate 32 (Value.int .u8 0) ++ [Value.int .i64 0, Value.int .i64 0, Value.int .i64 0]).toArray, rfl, fun W => ?_⟩
  obtain ⟨i, h1, h2⟩ := Option.map_eq_some_iff.1 infoRefZ
  simp [zeroValue, typeInfo, Sem.run_bind, h1, h2]
end Go.Proofs.Ytkobolgbmfhpgaa.ReT
