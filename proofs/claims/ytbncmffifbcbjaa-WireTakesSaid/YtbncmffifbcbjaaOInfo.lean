/- The element type of bytes. -/
import Derived.Test.YtbncmffifbcbjaaK
import Derived.Test.YtbncmffifbcbjaaOctS
namespace Go.Proofs.Ytbncmffifbcbjaa.Oct
open Go.RowKit Go.Proofs.YtbncmffifbcbjaaW.PrintWords Go.Proofs.YtbncmffifbcbjaaW.PrintLast Go.Proofs.YtbncmffifbcbjaaW.PrintMore Go.Proofs.Ytbncmffifbcbjaa.K Go.Proofs.Ytbncmffifbcbjaa.OctS
set_option linter.unusedVariables false
theorem infoU8 : (Try.prog.info? 5).map (fun i => (i.zero, i.size, i.bytes)) = some (some (.int .u8 0), 1, 1) := by kernel_rfl
theorem qB (w : World) (a : Option Addr) (n c n' c' : Nat) : (binOp .eql 25 (.slice a n c) (.slice none n' c')).run Try.prog w = .ok (.bool a.isNone) w := Lib.run_eql_slice_nil w _ _ a n c n' c' Try.underlying25

end Go.Proofs.Ytbncmffifbcbjaa.Oct
