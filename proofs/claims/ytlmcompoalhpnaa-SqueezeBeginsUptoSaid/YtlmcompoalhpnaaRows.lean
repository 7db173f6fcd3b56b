/-
  No cell of these rows narrows 'for every input' (looked for: loops, veiled, ifaces, maps, wideKeys, modest, calm, conditions, laid).
  DERIVED. THE GIVEN ROWS OF THIS SEAT. 5 by the template 'for every input the law returns true; each argument reads behind the call as it read before'; 0 by the template 'total and deterministic' (their statements: YtlmcompoalhpnaaTotals.lean).
  GIVEN WITH THE SEED: the statements are not yours to turn. If you find one false, say at which input.
  Laid BY PROGRAM, IN A SANDBOX (cutbox-rows.mjs): the forced cells as the released guide's own fill.sh prints them over the translation 10eefe7bc70d9836… (all of the seat's roots in one cut). By AI agents, Wed Nov 11 2026. No macro, syntax, notation, axiom, sorry.
-/
import Derived.Test.YtlmcompoalhpnaaChecked
import GoSem.Claim
import GoSem.ClaimJoined
import GoSem.ClaimMapViews
import Derived.JoinedTies
import Derived.KernelRfl
namespace Go.Proofs.Ytlmcompoalhpnaa
/- THE CELL 'sum', in the pinned program and in every row, IS THE sha256 OF THE DUMP (.gsa) THAT YtlmcompoalhpnaaProg.lean LOADS. Nothing in Lean hashes anything: it is a label: what it is worth is what the hold of that sum in a sandbox is worth. -/
noncomputable def Try.pinned : Pinned := { name := "ytlmcompoalhpnaa", sum := "10eefe7bc70d983673f22ae56f95107dee3c08b2f5ff09d665df8149f5dffc02", checked := Try.checked }
namespace Rows
def none {H : Type} : Left H := { results := [], args := [] }

/-- 'aumbrylaw24.SqueezePuts': WHATEVER THE INPUT: true; the input reads as it did. -/
def squeezePutsSpec : ChangeSpec := { name := "squeezePuts", fn := fun _ => fun
  | [d] => { results := [.lit (.bool true)], args := [d] }
  | _ => none }
def squeezePutsRow : OpenClaim := { program := "ytlmcompoalhpnaa", sum := "10eefe7bc70d983673f22ae56f95107dee3c08b2f5ff09d665df8149f5dffc02", func := "aumbry/aumbrylaw24.SqueezePuts", spec := "squeezePuts", unfollowed := true, recurses := true, plainKeys := false, apart := false }
def SqueezePutsSaid : Prop := squeezePutsRow.holds Try.pinned (OpenSpec.ofChange squeezePutsSpec)

/-- ITS FALSE NEIGHBOUR: 'it returns false'. Refute it at one input. -/
def squeezePutsWrong : ChangeSpec := { name := "squeezePuts", fn := fun _ => fun
  | [d] => { results := [.lit (.bool false)], args := [d] }
  | _ => none }
def SqueezePutsWrongFalsely : Prop := squeezePutsRow.holds Try.pinned (OpenSpec.ofChange squeezePutsWrong)

/-- 'aumbrylaw24.SqueezeTakes': WHATEVER THE INPUT: true; the input reads as it did. -/
def squeezeTakesSpec : ChangeSpec := { name := "squeezeTakes", fn := fun _ => fun
  | [d1, d2] => { results := [.lit (.bool true)], args := [d1, d2] }
  | _ => none }
def squeezeTakesRow : OpenClaim := { program := "ytlmcompoalhpnaa", sum := "10eefe7bc70d983673f22ae56f95107dee3c08b2f5ff09d665df8149f5dffc02", func := "aumbry/aumbrylaw24.SqueezeTakes", spec := "squeezeTakes", unfollowed := true, recurses := true, plainKeys := false, apart := false }
def SqueezeTakesSaid : Prop := squeezeTakesRow.holds Try.pinned (OpenSpec.ofChange squeezeTakesSpec)

/-- ITS FALSE NEIGHBOUR: 'it returns false'. Refute it at one input. -/
def squeezeTakesWrong : ChangeSpec := { name := "squeezeTakes", fn := fun _ => fun
  | [d1, d2] => { results := [.lit (.bool false)], args := [d1, d2] }
  | _ => none }
def SqueezeTakesWrongFalsely : Prop := squeezeTakesRow.holds Try.pinned (OpenSpec.ofChange squeezeTakesWrong)

/-- 'aumbrylaw24.SqueezeBack': WHATEVER THE INPUT: true; the input reads as it did. -/
def squeezeBackSpec : ChangeSpec := { name := "squeezeBack", fn := fun _ => fun
  | [d] => { results := [.lit (.bool true)], args := [d] }
  | _ => none }
def squeezeBackRow : OpenClaim := { program := "ytlmcompoalhpnaa", sum := "10eefe7bc70d983673f22ae56f95107dee3c08b2f5ff09d665df8149f5dffc02", func := "aumbry/aumbrylaw24.SqueezeBack", spec := "squeezeBack", unfollowed := true, recurses := true, plainKeys := false, apart := false }
def SqueezeBackSaid : Prop := squeezeBackRow.holds Try.pinned (OpenSpec.ofChange squeezeBackSpec)

/-- ITS FALSE NEIGHBOUR: 'it returns false'. Refute it at one input. -/
def squeezeBackWrong : ChangeSpec := { name := "squeezeBack", fn := fun _ => fun
  | [d] => { results := [.lit (.bool false)], args := [d] }
  | _ => none }
def SqueezeBackWrongFalsely : Prop := squeezeBackRow.holds Try.pinned (OpenSpec.ofChange squeezeBackWrong)

/-- 'aumbrylaw24.SqueezeSmall': WHATEVER THE INPUT: true; the input reads as it did. -/
def squeezeSmallSpec : ChangeSpec := { name := "squeezeSmall", fn := fun _ => fun
  | [d1, d2, d3] => { results := [.lit (.bool true)], args := [d1, d2, d3] }
  | _ => none }
def squeezeSmallRow : OpenClaim := { program := "ytlmcompoalhpnaa", sum := "10eefe7bc70d983673f22ae56f95107dee3c08b2f5ff09d665df8149f5dffc02", func := "aumbry/aumbrylaw24.SqueezeSmall", spec := "squeezeSmall", unfollowed := true, recurses := true, plainKeys := false, apart := false }
def SqueezeSmallSaid : Prop := squeezeSmallRow.holds Try.pinned (OpenSpec.ofChange squeezeSmallSpec)

/-- ITS FALSE NEIGHBOUR: 'it returns false'. Refute it at one input. -/
def squeezeSmallWrong : ChangeSpec := { name := "squeezeSmall", fn := fun _ => fun
  | [d1, d2, d3] => { results := [.lit (.bool false)], args := [d1, d2, d3] }
  | _ => none }
def SqueezeSmallWrongFalsely : Prop := squeezeSmallRow.holds Try.pinned (OpenSpec.ofChange squeezeSmallWrong)

/-- 'aumbrylaw24.SqueezeBegins': WHATEVER THE INPUT: true; the input reads as it did. -/
def squeezeBeginsSpec : ChangeSpec := { name := "squeezeBegins", fn := fun _ => fun
  | [d1, d2, d3] => { results := [.lit (.bool true)], args := [d1, d2, d3] }
  | _ => none }
def squeezeBeginsRow : OpenClaim := { program := "ytlmcompoalhpnaa", sum := "10eefe7bc70d983673f22ae56f95107dee3c08b2f5ff09d665df8149f5dffc02", func := "aumbry/aumbrylaw24.SqueezeBegins", spec := "squeezeBegins", unfollowed := true, recurses := true, plainKeys := false, apart := false }
def SqueezeBeginsSaid : Prop := squeezeBeginsRow.holds Try.pinned (OpenSpec.ofChange squeezeBeginsSpec)

/-- ITS FALSE NEIGHBOUR: 'it returns false'. Refute it at one input. -/
def squeezeBeginsWrong : ChangeSpec := { name := "squeezeBegins", fn := fun _ => fun
  | [d1, d2, d3] => { results := [.lit (.bool false)], args := [d1, d2, d3] }
  | _ => none }
def SqueezeBeginsWrongFalsely : Prop := squeezeBeginsRow.holds Try.pinned (OpenSpec.ofChange squeezeBeginsWrong)

/- THE SECOND FORM. 'bulk': how many values and letters a reading holds, each counted each time it is reached (what is shared counts as often as it is met; a slice's spare places count too). A statement '..UptoSaid' is the law's where the arguments, and the package variables that the reading takes, are together of bulk at most 1048576: NARROWER than '..Said'. Prove '..Said' where nothing that the law and all that it calls make is longer than what came in: it says more and counts as full. Else prove '..UptoSaid'. A law counts once. -/
mutual
def uptoBulk {H : Type} : DataW H → Nat
  | .lit (.string bytes) => bytes.length + 1
  | .lit _ => 1
  | .nil => 1
  | .ptr d => uptoBulk d + 1
  | .slice elems spare => uptoBulkAll elems + uptoBulkAll spare + 1
  | .agg parts => uptoBulkAll parts + 1
  | .iface _ d => uptoBulk d + 1
  | .map entries => uptoBulkEntries entries + 1
  | .held _ => 1
def uptoBulkAll {H : Type} : List (DataW H) → Nat
  | [] => 0
  | d :: r => uptoBulk d + uptoBulkAll r
def uptoBulkEntries {H : Type} : List (Lit × DataW H) → Nat
  | [] => 0
  | x :: r => uptoBulkEntry x + uptoBulkEntries r
def uptoBulkEntry {H : Type} : Lit × DataW H → Nat
  | (.string bytes, d) => bytes.length + uptoBulk d + 1
  | (_, d) => uptoBulk d + 1
 end
def uptoSmall : (H : Type) → List (DataW H) → Bool := fun _ ds => decide (uptoBulkAll ds ≤ 1048576)
def OpenSpec.upto (s : _root_.Go.ChangeSpec) : _root_.Go.OpenSpec := { _root_.Go.OpenSpec.ofChange s with cond := some uptoSmall }

/-- 'aumbrylaw24.SqueezePuts', WHERE WHAT IT READS IS OF BULK AT MOST 1048576: true; the input reads as it did. -/
def squeezePutsUptoRow : OpenClaim := { program := "ytlmcompoalhpnaa", sum := "10eefe7bc70d983673f22ae56f95107dee3c08b2f5ff09d665df8149f5dffc02", func := "aumbry/aumbrylaw24.SqueezePuts", spec := "squeezePuts", unfollowed := true, recurses := true, plainKeys := false, apart := false, narrowed := true }
def SqueezePutsUptoSaid : Prop := squeezePutsUptoRow.holds Try.pinned (OpenSpec.upto squeezePutsSpec)

/-- 'aumbrylaw24.SqueezeTakes', WHERE WHAT IT READS IS OF BULK AT MOST 1048576: true; the input reads as it did. -/
def squeezeTakesUptoRow : OpenClaim := { program := "ytlmcompoalhpnaa", sum := "10eefe7bc70d983673f22ae56f95107dee3c08b2f5ff09d665df8149f5dffc02", func := "aumbry/aumbrylaw24.SqueezeTakes", spec := "squeezeTakes", unfollowed := true, recurses := true, plainKeys := false, apart := false, narrowed := true }
def SqueezeTakesUptoSaid : Prop := squeezeTakesUptoRow.holds Try.pinned (OpenSpec.upto squeezeTakesSpec)

/-- 'aumbrylaw24.SqueezeBack', WHERE WHAT IT READS IS OF BULK AT MOST 1048576: true; the input reads as it did. -/
def squeezeBackUptoRow : OpenClaim := { program := "ytlmcompoalhpnaa", sum := "10eefe7bc70d983673f22ae56f95107dee3c08b2f5ff09d665df8149f5dffc02", func := "aumbry/aumbrylaw24.SqueezeBack", spec := "squeezeBack", unfollowed := true, recurses := true, plainKeys := false, apart := false, narrowed := true }
def SqueezeBackUptoSaid : Prop := squeezeBackUptoRow.holds Try.pinned (OpenSpec.upto squeezeBackSpec)

/-- 'aumbrylaw24.SqueezeSmall', WHERE WHAT IT READS IS OF BULK AT MOST 1048576: true; the input reads as it did. -/
def squeezeSmallUptoRow : OpenClaim := { program := "ytlmcompoalhpnaa", sum := "10eefe7bc70d983673f22ae56f95107dee3c08b2f5ff09d665df8149f5dffc02", func := "aumbry/aumbrylaw24.SqueezeSmall", spec := "squeezeSmall", unfollowed := true, recurses := true, plainKeys := false, apart := false, narrowed := true }
def SqueezeSmallUptoSaid : Prop := squeezeSmallUptoRow.holds Try.pinned (OpenSpec.upto squeezeSmallSpec)

/-- 'aumbrylaw24.SqueezeBegins', WHERE WHAT IT READS IS OF BULK AT MOST 1048576: true; the input reads as it did. -/
def squeezeBeginsUptoRow : OpenClaim := { program := "ytlmcompoalhpnaa", sum := "10eefe7bc70d983673f22ae56f95107dee3c08b2f5ff09d665df8149f5dffc02", func := "aumbry/aumbrylaw24.SqueezeBegins", spec := "squeezeBegins", unfollowed := true, recurses := true, plainKeys := false, apart := false, narrowed := true }
def SqueezeBeginsUptoSaid : Prop := squeezeBeginsUptoRow.holds Try.pinned (OpenSpec.upto squeezeBeginsSpec)

end Rows
end Go.Proofs.Ytlmcompoalhpnaa
