/-
  No cell of these rows narrows 'for every input' (looked for: loops, veiled, ifaces, maps, wideKeys, modest, calm, conditions, laid).
  DERIVED. THE GIVEN ROWS OF THIS SEAT. 5 by the template 'for every input the law returns true; each argument reads behind the call as it read before'; 0 by the template 'total and deterministic' (their statements: YtnpcngnmjbhhaaaTotals.lean).
  GIVEN WITH THE SEED: the statements are not yours to turn. If you find one false, say at which input.
  Laid BY PROGRAM, IN A SANDBOX (cutbox-rows.mjs): the forced cells as the released guide's own fill.sh prints them over the translation 2a2d464cbccf534f… (all of the seat's roots in one cut). By AI agents, Wed Nov 11 2026. No macro, syntax, notation, axiom, sorry.
-/
import Derived.Test.YtnpcngnmjbhhaaaChecked
import GoSem.Claim
import GoSem.ClaimJoined
import GoSem.ClaimMapViews
import Derived.JoinedTies
import Derived.KernelRfl
namespace Go.Proofs.Ytnpcngnmjbhhaaa
/- THE CELL 'sum', in the pinned program and in every row, IS THE sha256 OF THE DUMP (.gsa) THAT YtnpcngnmjbhhaaaProg.lean LOADS. Nothing in Lean hashes anything: it is a label: what it is worth is what the hold of that sum in a sandbox is worth. -/
noncomputable def Try.pinned : Pinned := { name := "ytnpcngnmjbhhaaa", sum := "2a2d464cbccf534fac49aca8d3b45cb31249c70cbcdffbc6849d83b332d802cf", checked := Try.checked }
namespace Rows
def none {H : Type} : Left H := { results := [], args := [] }

/-- 'aumbrylaw08.BloomNew': WHATEVER THE INPUT: true; the input reads as it did. -/
def bloomNewSpec : ChangeSpec := { name := "bloomNew", fn := fun _ => fun
  | [d1, d2, d3] => { results := [.lit (.bool true)], args := [d1, d2, d3] }
  | _ => none }
def bloomNewRow : OpenClaim := { program := "ytnpcngnmjbhhaaa", sum := "2a2d464cbccf534fac49aca8d3b45cb31249c70cbcdffbc6849d83b332d802cf", func := "aumbry/aumbrylaw08.BloomNew", spec := "bloomNew", unfollowed := true, recurses := true, apart := false }
def BloomNewSaid : Prop := bloomNewRow.holds Try.pinned (OpenSpec.ofChange bloomNewSpec)

/-- ITS FALSE NEIGHBOUR: 'it returns false'. Refute it at one input. -/
def bloomNewWrong : ChangeSpec := { name := "bloomNew", fn := fun _ => fun
  | [d1, d2, d3] => { results := [.lit (.bool false)], args := [d1, d2, d3] }
  | _ => none }
def BloomNewWrongFalsely : Prop := bloomNewRow.holds Try.pinned (OpenSpec.ofChange bloomNewWrong)

/-- 'aumbrylaw08.BloomAnyOrder': WHATEVER THE INPUT: true; the input reads as it did. -/
def bloomAnyOrderSpec : ChangeSpec := { name := "bloomAnyOrder", fn := fun _ => fun
  | [d1, d2, d3, d4] => { results := [.lit (.bool true)], args := [d1, d2, d3, d4] }
  | _ => none }
def bloomAnyOrderRow : OpenClaim := { program := "ytnpcngnmjbhhaaa", sum := "2a2d464cbccf534fac49aca8d3b45cb31249c70cbcdffbc6849d83b332d802cf", func := "aumbry/aumbrylaw08.BloomAnyOrder", spec := "bloomAnyOrder", unfollowed := true, recurses := true, apart := false }
def BloomAnyOrderSaid : Prop := bloomAnyOrderRow.holds Try.pinned (OpenSpec.ofChange bloomAnyOrderSpec)

/-- ITS FALSE NEIGHBOUR: 'it returns false'. Refute it at one input. -/
def bloomAnyOrderWrong : ChangeSpec := { name := "bloomAnyOrder", fn := fun _ => fun
  | [d1, d2, d3, d4] => { results := [.lit (.bool false)], args := [d1, d2, d3, d4] }
  | _ => none }
def BloomAnyOrderWrongFalsely : Prop := bloomAnyOrderRow.holds Try.pinned (OpenSpec.ofChange bloomAnyOrderWrong)

/-- 'aumbrylaw08.BloomPlays': WHATEVER THE INPUT: true; the input reads as it did. -/
def bloomPlaysSpec : ChangeSpec := { name := "bloomPlays", fn := fun _ => fun
  | [d1, d2, d3, d4] => { results := [.lit (.bool true)], args := [d1, d2, d3, d4] }
  | _ => none }
def bloomPlaysRow : OpenClaim := { program := "ytnpcngnmjbhhaaa", sum := "2a2d464cbccf534fac49aca8d3b45cb31249c70cbcdffbc6849d83b332d802cf", func := "aumbry/aumbrylaw08.BloomPlays", spec := "bloomPlays", unfollowed := true, recurses := true, apart := false }
def BloomPlaysSaid : Prop := bloomPlaysRow.holds Try.pinned (OpenSpec.ofChange bloomPlaysSpec)

/-- ITS FALSE NEIGHBOUR: 'it returns false'. Refute it at one input. -/
def bloomPlaysWrong : ChangeSpec := { name := "bloomPlays", fn := fun _ => fun
  | [d1, d2, d3, d4] => { results := [.lit (.bool false)], args := [d1, d2, d3, d4] }
  | _ => none }
def BloomPlaysWrongFalsely : Prop := bloomPlaysRow.holds Try.pinned (OpenSpec.ofChange bloomPlaysWrong)

/-- 'aumbrylaw08.BloomFinds': WHATEVER THE INPUT: true; the input reads as it did. -/
def bloomFindsSpec : ChangeSpec := { name := "bloomFinds", fn := fun _ => fun
  | [d1, d2, d3, d4, d5] => { results := [.lit (.bool true)], args := [d1, d2, d3, d4, d5] }
  | _ => none }
def bloomFindsRow : OpenClaim := { program := "ytnpcngnmjbhhaaa", sum := "2a2d464cbccf534fac49aca8d3b45cb31249c70cbcdffbc6849d83b332d802cf", func := "aumbry/aumbrylaw08.BloomFinds", spec := "bloomFinds", unfollowed := true, recurses := true, apart := false }
def BloomFindsSaid : Prop := bloomFindsRow.holds Try.pinned (OpenSpec.ofChange bloomFindsSpec)

/-- ITS FALSE NEIGHBOUR: 'it returns false'. Refute it at one input. -/
def bloomFindsWrong : ChangeSpec := { name := "bloomFinds", fn := fun _ => fun
  | [d1, d2, d3, d4, d5] => { results := [.lit (.bool false)], args := [d1, d2, d3, d4, d5] }
  | _ => none }
def BloomFindsWrongFalsely : Prop := bloomFindsRow.holds Try.pinned (OpenSpec.ofChange bloomFindsWrong)

/-- 'aumbrylaw08.BloomForks': WHATEVER THE INPUT: true; the input reads as it did. -/
def bloomForksSpec : ChangeSpec := { name := "bloomForks", fn := fun _ => fun
  | [d1, d2, d3, d4, d5] => { results := [.lit (.bool true)], args := [d1, d2, d3, d4, d5] }
  | _ => none }
def bloomForksRow : OpenClaim := { program := "ytnpcngnmjbhhaaa", sum := "2a2d464cbccf534fac49aca8d3b45cb31249c70cbcdffbc6849d83b332d802cf", func := "aumbry/aumbrylaw08.BloomForks", spec := "bloomForks", unfollowed := true, recurses := true, apart := false }
def BloomForksSaid : Prop := bloomForksRow.holds Try.pinned (OpenSpec.ofChange bloomForksSpec)

/-- ITS FALSE NEIGHBOUR: 'it returns false'. Refute it at one input. -/
def bloomForksWrong : ChangeSpec := { name := "bloomForks", fn := fun _ => fun
  | [d1, d2, d3, d4, d5] => { results := [.lit (.bool false)], args := [d1, d2, d3, d4, d5] }
  | _ => none }
def BloomForksWrongFalsely : Prop := bloomForksRow.holds Try.pinned (OpenSpec.ofChange bloomForksWrong)

/- THE SECOND FORM. 'bulk': how many values and letters a reading holds, each counted each time it is reached (what is shared counts as often as it is met; a slice's spare places count too). A statement '..UptoSaid' is the law's where the arguments, and the package variables that the reading takes, are together of bulk at most 1048576: NARROWER than '..Said'. Prove '..Said' where nothing that the law and all that it calls make is longer than what came in: it says more and counts as full. Else prove '..UptoSaid'. A law counts once. -/
mutual
def uptoBulk {H : Type} : DataW H → Nat
  | .lit (.string bytes) => bytes.length + 1
  | .lit _ => 1
  | .nil => 1
  | .ptr d => uptoBulk d + 1
  | .slice elems spare => uptoBulkAll elems + uptoBulkAll spare + 1
  | .agg parts => uptoBulkAll parts + 1
  | .iface _ d => uptoBulk d + 1
  | .map entries => uptoBulkEntries entries + 1
  | .held _ => 1
def uptoBulkAll {H : Type} : List (DataW H) → Nat
  | [] => 0
  | d :: r => uptoBulk d + uptoBulkAll r
def uptoBulkEntries {H : Type} : List (Lit × DataW H) → Nat
  | [] => 0
  | x :: r => uptoBulkEntry x + uptoBulkEntries r
def uptoBulkEntry {H : Type} : Lit × DataW H → Nat
  | (.string bytes, d) => bytes.length + uptoBulk d + 1
  | (_, d) => uptoBulk d + 1
 end
def uptoSmall : (H : Type) → List (DataW H) → Bool := fun _ ds => decide (uptoBulkAll ds ≤ 1048576)
def OpenSpec.upto (s : _root_.Go.ChangeSpec) : _root_.Go.OpenSpec := { _root_.Go.OpenSpec.ofChange s with cond := some uptoSmall }

/-- 'aumbrylaw08.BloomNew', WHERE WHAT IT READS IS OF BULK AT MOST 1048576: true; the input reads as it did. -/
def bloomNewUptoRow : OpenClaim := { program := "ytnpcngnmjbhhaaa", sum := "2a2d464cbccf534fac49aca8d3b45cb31249c70cbcdffbc6849d83b332d802cf", func := "aumbry/aumbrylaw08.BloomNew", spec := "bloomNew", unfollowed := true, recurses := true, apart := false, narrowed := true }
def BloomNewUptoSaid : Prop := bloomNewUptoRow.holds Try.pinned (OpenSpec.upto bloomNewSpec)

/-- 'aumbrylaw08.BloomAnyOrder', WHERE WHAT IT READS IS OF BULK AT MOST 1048576: true; the input reads as it did. -/
def bloomAnyOrderUptoRow : OpenClaim := { program := "ytnpcngnmjbhhaaa", sum := "2a2d464cbccf534fac49aca8d3b45cb31249c70cbcdffbc6849d83b332d802cf", func := "aumbry/aumbrylaw08.BloomAnyOrder", spec := "bloomAnyOrder", unfollowed := true, recurses := true, apart := false, narrowed := true }
def BloomAnyOrderUptoSaid : Prop := bloomAnyOrderUptoRow.holds Try.pinned (OpenSpec.upto bloomAnyOrderSpec)

/-- 'aumbrylaw08.BloomPlays', WHERE WHAT IT READS IS OF BULK AT MOST 1048576: true; the input reads as it did. -/
def bloomPlaysUptoRow : OpenClaim := { program := "ytnpcngnmjbhhaaa", sum := "2a2d464cbccf534fac49aca8d3b45cb31249c70cbcdffbc6849d83b332d802cf", func := "aumbry/aumbrylaw08.BloomPlays", spec := "bloomPlays", unfollowed := true, recurses := true, apart := false, narrowed := true }
def BloomPlaysUptoSaid : Prop := bloomPlaysUptoRow.holds Try.pinned (OpenSpec.upto bloomPlaysSpec)

/-- 'aumbrylaw08.BloomFinds', WHERE WHAT IT READS IS OF BULK AT MOST 1048576: true; the input reads as it did. -/
def bloomFindsUptoRow : OpenClaim := { program := "ytnpcngnmjbhhaaa", sum := "2a2d464cbccf534fac49aca8d3b45cb31249c70cbcdffbc6849d83b332d802cf", func := "aumbry/aumbrylaw08.BloomFinds", spec := "bloomFinds", unfollowed := true, recurses := true, apart := false, narrowed := true }
def BloomFindsUptoSaid : Prop := bloomFindsUptoRow.holds Try.pinned (OpenSpec.upto bloomFindsSpec)

/-- 'aumbrylaw08.BloomForks', WHERE WHAT IT READS IS OF BULK AT MOST 1048576: true; the input reads as it did. -/
def bloomForksUptoRow : OpenClaim := { program := "ytnpcngnmjbhhaaa", sum := "2a2d464cbccf534fac49aca8d3b45cb31249c70cbcdffbc6849d83b332d802cf", func := "aumbry/aumbrylaw08.BloomForks", spec := "bloomForks", unfollowed := true, recurses := true, apart := false, narrowed := true }
def BloomForksUptoSaid : Prop := bloomForksUptoRow.holds Try.pinned (OpenSpec.upto bloomForksSpec)

end Rows
end Go.Proofs.Ytnpcngnmjbhhaaa
