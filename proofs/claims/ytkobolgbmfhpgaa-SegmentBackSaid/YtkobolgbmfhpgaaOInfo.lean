/- The element type of bytes. -/
import Derived.Test.YtkobolgbmfhpgaaK
import Derived.Test.YtkobolgbmfhpgaaOctS
namespace Go.Proofs.Ytkobolgbmfhpgaa.Oct
open Go.RowKit Go.Proofs.YtkobolgbmfhpgaaW.PrintWords Go.Proofs.YtkobolgbmfhpgaaW.PrintLast Go.Proofs.YtkobolgbmfhpgaaW.PrintMore Go.Proofs.Ytkobolgbmfhpgaa.K Go.Proofs.Ytkobolgbmfhpgaa.OctS
set_option linter.unusedVariables false
theorem infoU8 : (Try.prog.info? 5).map (fun i => (i.zero, i.size, i.bytes)) = some (some (.int .u8 0), 1, 1) := by kernel_rfl
theorem qB (w : World) (a : Option Addr) (n c n' c' : Nat) : (binOp .eql 42 (.slice a n c) (.slice none n' c')).run Try.prog w = .ok (.bool a.isNone) w := Lib.run_eql_slice_nil w _ _ a n c n' c' Try.underlying42

end Go.Proofs.Ytkobolgbmfhpgaa.Oct
