/-
  No cell of these rows narrows 'for every input' (looked for: loops, veiled, ifaces, maps, wideKeys, modest, calm, conditions, laid).
  DERIVED. THE GIVEN ROWS OF THIS SEAT. 6 by the template 'for every input the law returns true; each argument reads behind the call as it read before'; 0 by the template 'total and deterministic' (their statements: YtkobolgbmfhpgaaTotals.lean).
  GIVEN WITH THE SEED: the statements are not yours to turn. If you find one false, say at which input.
  Laid BY PROGRAM, IN A SANDBOX (cutbox-rows.mjs): the forced cells as the released guide's own fill.sh prints them over the translation 5876cc9b88b7e2f2… (all of the seat's roots in one cut). By AI agents, Wed Nov 11 2026. No macro, syntax, notation, axiom, sorry.
-/
import Derived.Test.YtkobolgbmfhpgaaChecked
import GoSem.Claim
import GoSem.ClaimJoined
import GoSem.ClaimMapViews
import Derived.JoinedTies
import Derived.KernelRfl
namespace Go.Proofs.Ytkobolgbmfhpgaa
/- THE CELL 'sum', in the pinned program and in every row, IS THE sha256 OF THE DUMP (.gsa) THAT YtkobolgbmfhpgaaProg.lean LOADS. Nothing in Lean hashes anything: it is a label: what it is worth is what the hold of that sum in a sandbox is worth. -/
noncomputable def Try.pinned : Pinned := { name := "ytkobolgbmfhpgaa", sum := "5876cc9b88b7e2f20d9662d081edd6608deeac7c32ce03546f6fc058ad00e7b5", checked := Try.checked }
namespace Rows
def none {H : Type} : Left H := { results := [], args := [] }

/-- 'aumbrylaw07.SegmentChampions': WHATEVER THE INPUT: true; the input reads as it did. -/
def segmentChampionsSpec : ChangeSpec := { name := "segmentChampions", fn := fun _ => fun
  | [d1, d2] => { results := [.lit (.bool true)], args := [d1, d2] }
  | _ => none }
def segmentChampionsRow : OpenClaim := { program := "ytkobolgbmfhpgaa", sum := "5876cc9b88b7e2f20d9662d081edd6608deeac7c32ce03546f6fc058ad00e7b5", func := "aumbry/aumbrylaw07.SegmentChampions", spec := "segmentChampions", unfollowed := true, recurses := true, apart := false }
def SegmentChampionsSaid : Prop := segmentChampionsRow.holds Try.pinned (OpenSpec.ofChange segmentChampionsSpec)

/-- ITS FALSE NEIGHBOUR: 'it returns false'. Refute it at one input. -/
def segmentChampionsWrong : ChangeSpec := { name := "segmentChampions", fn := fun _ => fun
  | [d1, d2] => { results := [.lit (.bool false)], args := [d1, d2] }
  | _ => none }
def SegmentChampionsWrongFalsely : Prop := segmentChampionsRow.holds Try.pinned (OpenSpec.ofChange segmentChampionsWrong)

/-- 'aumbrylaw07.SegmentHooks': WHATEVER THE INPUT: true; the input reads as it did. -/
def segmentHooksSpec : ChangeSpec := { name := "segmentHooks", fn := fun _ => fun
  | [d1, d2] => { results := [.lit (.bool true)], args := [d1, d2] }
  | _ => none }
def segmentHooksRow : OpenClaim := { program := "ytkobolgbmfhpgaa", sum := "5876cc9b88b7e2f20d9662d081edd6608deeac7c32ce03546f6fc058ad00e7b5", func := "aumbry/aumbrylaw07.SegmentHooks", spec := "segmentHooks", unfollowed := true, recurses := true, apart := false }
def SegmentHooksSaid : Prop := segmentHooksRow.holds Try.pinned (OpenSpec.ofChange segmentHooksSpec)

/-- ITS FALSE NEIGHBOUR: 'it returns false'. Refute it at one input. -/
def segmentHooksWrong : ChangeSpec := { name := "segmentHooks", fn := fun _ => fun
  | [d1, d2] => { results := [.lit (.bool false)], args := [d1, d2] }
  | _ => none }
def SegmentHooksWrongFalsely : Prop := segmentHooksRow.holds Try.pinned (OpenSpec.ofChange segmentHooksWrong)

/-- 'aumbrylaw07.SegmentSplits': WHATEVER THE INPUT: true; the input reads as it did. -/
def segmentSplitsSpec : ChangeSpec := { name := "segmentSplits", fn := fun _ => fun
  | [d1, d2] => { results := [.lit (.bool true)], args := [d1, d2] }
  | _ => none }
def segmentSplitsRow : OpenClaim := { program := "ytkobolgbmfhpgaa", sum := "5876cc9b88b7e2f20d9662d081edd6608deeac7c32ce03546f6fc058ad00e7b5", func := "aumbry/aumbrylaw07.SegmentSplits", spec := "segmentSplits", unfollowed := true, recurses := true, apart := false }
def SegmentSplitsSaid : Prop := segmentSplitsRow.holds Try.pinned (OpenSpec.ofChange segmentSplitsSpec)

/-- ITS FALSE NEIGHBOUR: 'it returns false'. Refute it at one input. -/
def segmentSplitsWrong : ChangeSpec := { name := "segmentSplits", fn := fun _ => fun
  | [d1, d2] => { results := [.lit (.bool false)], args := [d1, d2] }
  | _ => none }
def SegmentSplitsWrongFalsely : Prop := segmentSplitsRow.holds Try.pinned (OpenSpec.ofChange segmentSplitsWrong)

/-- 'aumbrylaw07.SegmentApart': WHATEVER THE INPUT: true; the input reads as it did. -/
def segmentApartSpec : ChangeSpec := { name := "segmentApart", fn := fun _ => fun
  | [d1, d2, d3] => { results := [.lit (.bool true)], args := [d1, d2, d3] }
  | _ => none }
def segmentApartRow : OpenClaim := { program := "ytkobolgbmfhpgaa", sum := "5876cc9b88b7e2f20d9662d081edd6608deeac7c32ce03546f6fc058ad00e7b5", func := "aumbry/aumbrylaw07.SegmentApart", spec := "segmentApart", unfollowed := true, recurses := true, apart := false }
def SegmentApartSaid : Prop := segmentApartRow.holds Try.pinned (OpenSpec.ofChange segmentApartSpec)

/-- ITS FALSE NEIGHBOUR: 'it returns false'. Refute it at one input. -/
def segmentApartWrong : ChangeSpec := { name := "segmentApart", fn := fun _ => fun
  | [d1, d2, d3] => { results := [.lit (.bool false)], args := [d1, d2, d3] }
  | _ => none }
def SegmentApartWrongFalsely : Prop := segmentApartRow.holds Try.pinned (OpenSpec.ofChange segmentApartWrong)

/-- 'aumbrylaw07.SegmentPuts': WHATEVER THE INPUT: true; the input reads as it did. -/
def segmentPutsSpec : ChangeSpec := { name := "segmentPuts", fn := fun _ => fun
  | [d1, d2] => { results := [.lit (.bool true)], args := [d1, d2] }
  | _ => none }
def segmentPutsRow : OpenClaim := { program := "ytkobolgbmfhpgaa", sum := "5876cc9b88b7e2f20d9662d081edd6608deeac7c32ce03546f6fc058ad00e7b5", func := "aumbry/aumbrylaw07.SegmentPuts", spec := "segmentPuts", unfollowed := true, recurses := true, apart := false }
def SegmentPutsSaid : Prop := segmentPutsRow.holds Try.pinned (OpenSpec.ofChange segmentPutsSpec)

/-- ITS FALSE NEIGHBOUR: 'it returns false'. Refute it at one input. -/
def segmentPutsWrong : ChangeSpec := { name := "segmentPuts", fn := fun _ => fun
  | [d1, d2] => { results := [.lit (.bool false)], args := [d1, d2] }
  | _ => none }
def SegmentPutsWrongFalsely : Prop := segmentPutsRow.holds Try.pinned (OpenSpec.ofChange segmentPutsWrong)

/-- 'aumbrylaw07.SegmentBack': WHATEVER THE INPUT: true; the input reads as it did. -/
def segmentBackSpec : ChangeSpec := { name := "segmentBack", fn := fun _ => fun
  | [d1, d2] => { results := [.lit (.bool true)], args := [d1, d2] }
  | _ => none }
def segmentBackRow : OpenClaim := { program := "ytkobolgbmfhpgaa", sum := "5876cc9b88b7e2f20d9662d081edd6608deeac7c32ce03546f6fc058ad00e7b5", func := "aumbry/aumbrylaw07.SegmentBack", spec := "segmentBack", unfollowed := true, recurses := true, apart := false }
def SegmentBackSaid : Prop := segmentBackRow.holds Try.pinned (OpenSpec.ofChange segmentBackSpec)

/-- ITS FALSE NEIGHBOUR: 'it returns false'. Refute it at one input. -/
def segmentBackWrong : ChangeSpec := { name := "segmentBack", fn := fun _ => fun
  | [d1, d2] => { results := [.lit (.bool false)], args := [d1, d2] }
  | _ => none }
def SegmentBackWrongFalsely : Prop := segmentBackRow.holds Try.pinned (OpenSpec.ofChange segmentBackWrong)

/- THE SECOND FORM. 'bulk': how many values and letters a reading holds, each counted each time it is reached (what is shared counts as often as it is met; a slice's spare places count too). A statement '..UptoSaid' is the law's where the arguments, and the package variables that the reading takes, are together of bulk at most 1048576: NARROWER than '..Said'. Prove '..Said' where nothing that the law and all that it calls make is longer than what came in: it says more and counts as full. Else prove '..UptoSaid'. A law counts once. -/
mutual
def uptoBulk {H : Type} : DataW H → Nat
  | .lit (.string bytes) => bytes.length + 1
  | .lit _ => 1
  | .nil => 1
  | .ptr d => uptoBulk d + 1
  | .slice elems spare => uptoBulkAll elems + uptoBulkAll spare + 1
  | .agg parts => uptoBulkAll parts + 1
  | .iface _ d => uptoBulk d + 1
  | .map entries => uptoBulkEntries entries + 1
  | .held _ => 1
def uptoBulkAll {H : Type} : List (DataW H) → Nat
  | [] => 0
  | d :: r => uptoBulk d + uptoBulkAll r
def uptoBulkEntries {H : Type} : List (Lit × DataW H) → Nat
  | [] => 0
  | x :: r => uptoBulkEntry x + uptoBulkEntries r
def uptoBulkEntry {H : Type} : Lit × DataW H → Nat
  | (.string bytes, d) => bytes.length + uptoBulk d + 1
  | (_, d) => uptoBulk d + 1
 end
def uptoSmall : (H : Type) → List (DataW H) → Bool := fun _ ds => decide (uptoBulkAll ds ≤ 1048576)
def OpenSpec.upto (s : _root_.Go.ChangeSpec) : _root_.Go.OpenSpec := { _root_.Go.OpenSpec.ofChange s with cond := some uptoSmall }

/-- 'aumbrylaw07.SegmentChampions', WHERE WHAT IT READS IS OF BULK AT MOST 1048576: true; the input reads as it did. -/
def segmentChampionsUptoRow : OpenClaim := { program := "ytkobolgbmfhpgaa", sum := "5876cc9b88b7e2f20d9662d081edd6608deeac7c32ce03546f6fc058ad00e7b5", func := "aumbry/aumbrylaw07.SegmentChampions", spec := "segmentChampions", unfollowed := true, recurses := true, apart := false, narrowed := true }
def SegmentChampionsUptoSaid : Prop := segmentChampionsUptoRow.holds Try.pinned (OpenSpec.upto segmentChampionsSpec)

/-- 'aumbrylaw07.SegmentHooks', WHERE WHAT IT READS IS OF BULK AT MOST 1048576: true; the input reads as it did. -/
def segmentHooksUptoRow : OpenClaim := { program := "ytkobolgbmfhpgaa", sum := "5876cc9b88b7e2f20d9662d081edd6608deeac7c32ce03546f6fc058ad00e7b5", func := "aumbry/aumbrylaw07.SegmentHooks", spec := "segmentHooks", unfollowed := true, recurses := true, apart := false, narrowed := true }
def SegmentHooksUptoSaid : Prop := segmentHooksUptoRow.holds Try.pinned (OpenSpec.upto segmentHooksSpec)

/-- 'aumbrylaw07.SegmentSplits', WHERE WHAT IT READS IS OF BULK AT MOST 1048576: true; the input reads as it did. -/
def segmentSplitsUptoRow : OpenClaim := { program := "ytkobolgbmfhpgaa", sum := "5876cc9b88b7e2f20d9662d081edd6608deeac7c32ce03546f6fc058ad00e7b5", func := "aumbry/aumbrylaw07.SegmentSplits", spec := "segmentSplits", unfollowed := true, recurses := true, apart := false, narrowed := true }
def SegmentSplitsUptoSaid : Prop := segmentSplitsUptoRow.holds Try.pinned (OpenSpec.upto segmentSplitsSpec)

/-- 'aumbrylaw07.SegmentApart', WHERE WHAT IT READS IS OF BULK AT MOST 1048576: true; the input reads as it did. -/
def segmentApartUptoRow : OpenClaim := { program := "ytkobolgbmfhpgaa", sum := "5876cc9b88b7e2f20d9662d081edd6608deeac7c32ce03546f6fc058ad00e7b5", func := "aumbry/aumbrylaw07.SegmentApart", spec := "segmentApart", unfollowed := true, recurses := true, apart := false, narrowed := true }
def SegmentApartUptoSaid : Prop := segmentApartUptoRow.holds Try.pinned (OpenSpec.upto segmentApartSpec)

/-- 'aumbrylaw07.SegmentPuts', WHERE WHAT IT READS IS OF BULK AT MOST 1048576: true; the input reads as it did. -/
def segmentPutsUptoRow : OpenClaim := { program := "ytkobolgbmfhpgaa", sum := "5876cc9b88b7e2f20d9662d081edd6608deeac7c32ce03546f6fc058ad00e7b5", func := "aumbry/aumbrylaw07.SegmentPuts", spec := "segmentPuts", unfollowed := true, recurses := true, apart := false, narrowed := true }
def SegmentPutsUptoSaid : Prop := segmentPutsUptoRow.holds Try.pinned (OpenSpec.upto segmentPutsSpec)

/-- 'aumbrylaw07.SegmentBack', WHERE WHAT IT READS IS OF BULK AT MOST 1048576: true; the input reads as it did. -/
def segmentBackUptoRow : OpenClaim := { program := "ytkobolgbmfhpgaa", sum := "5876cc9b88b7e2f20d9662d081edd6608deeac7c32ce03546f6fc058ad00e7b5", func := "aumbry/aumbrylaw07.SegmentBack", spec := "segmentBack", unfollowed := true, recurses := true, apart := false, narrowed := true }
def SegmentBackUptoSaid : Prop := segmentBackUptoRow.holds Try.pinned (OpenSpec.upto segmentBackSpec)

end Rows
end Go.Proofs.Ytkobolgbmfhpgaa
