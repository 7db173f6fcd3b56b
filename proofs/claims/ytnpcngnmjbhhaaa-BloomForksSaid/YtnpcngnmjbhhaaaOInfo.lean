/- The element type of bytes. -/
import Derived.Test.YtnpcngnmjbhhaaaK
import Derived.Test.YtnpcngnmjbhhaaaOctS
namespace Go.Proofs.Ytnpcngnmjbhhaaa.Oct
open Go.RowKit Go.Proofs.YtnpcngnmjbhhaaaW.PrintWords Go.Proofs.YtnpcngnmjbhhaaaW.PrintLast Go.Proofs.YtnpcngnmjbhhaaaW.PrintMore Go.Proofs.Ytnpcngnmjbhhaaa.K Go.Proofs.Ytnpcngnmjbhhaaa.OctS
set_option linter.unusedVariables false
theorem infoU8 : (Try.prog.info? 5).map (fun i => (i.zero, i.size, i.bytes)) = some (some (.int .u8 0), 1, 1) := by kernel_rfl
theorem qB (w : World) (a : Option Addr) (n c n' c' : Nat) : (binOp .eql 77 (.slice a n c) (.slice none n' c')).run Try.prog w = .ok (.bool a.isNone) w := Lib.run_eql_slice_nil w _ _ a n c n' c' Try.underlying77

end Go.Proofs.Ytnpcngnmjbhhaaa.Oct
