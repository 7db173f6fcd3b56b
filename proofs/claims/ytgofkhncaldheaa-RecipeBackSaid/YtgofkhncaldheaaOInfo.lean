/- The element type of bytes. -/
import Derived.Test.YtgofkhncaldheaaK
import Derived.Test.YtgofkhncaldheaaOctS
namespace Go.Proofs.Ytgofkhncaldheaa.Oct
open Go.RowKit Go.Proofs.YtgofkhncaldheaaW.PrintWords Go.Proofs.YtgofkhncaldheaaW.PrintLast Go.Proofs.YtgofkhncaldheaaW.PrintMore Go.Proofs.Ytgofkhncaldheaa.K Go.Proofs.Ytgofkhncaldheaa.OctS
set_option linter.unusedVariables false
theorem infoU8 : (Try.prog.info? 5).map (fun i => (i.zero, i.size, i.bytes)) = some (some (.int .u8 0), 1, 1) := by kernel_rfl
theorem qB (w : World) (a : Option Addr) (n c n' c' : Nat) : (binOp .eql 76 (.slice a n c) (.slice none n' c')).run Try.prog w = .ok (.bool a.isNone) w := Lib.run_eql_slice_nil w _ _ a n c n' c' Try.underlying76

end Go.Proofs.Ytgofkhncaldheaa.Oct
