/- The element type of bytes. -/
import Derived.Test.YtlmcompoalhpnaaK
import Derived.Test.YtlmcompoalhpnaaOctS
namespace Go.Proofs.Ytlmcompoalhpnaa.Oct
open Go.RowKit Go.Proofs.YtlmcompoalhpnaaW.PrintWords Go.Proofs.YtlmcompoalhpnaaW.PrintLast Go.Proofs.YtlmcompoalhpnaaW.PrintMore Go.Proofs.Ytlmcompoalhpnaa.K Go.Proofs.Ytlmcompoalhpnaa.OctS
set_option linter.unusedVariables false
theorem infoU8 : (Try.prog.info? 5).map (fun i => (i.zero, i.size, i.bytes)) = some (some (.int .u8 0), 1, 1) := by kernel_rfl
theorem qB (w : World) (a : Option Addr) (n c n' c' : Nat) : (binOp .eql 22 (.slice a n c) (.slice none n' c')).run Try.prog w = .ok (.bool a.isNone) w := Lib.run_eql_slice_nil w _ _ a n c n' c' Try.underlying22

end Go.Proofs.Ytlmcompoalhpnaa.Oct
