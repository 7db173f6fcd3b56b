/-
  No cell of these rows narrows 'for every input' (looked for: loops, veiled, ifaces, maps, wideKeys, modest, calm, conditions, laid).
  DERIVED. THE GIVEN ROWS OF THIS SEAT. 6 by the template 'for every input the law returns true; each argument reads behind the call as it read before'; 0 by the template 'total and deterministic' (their statements: YtgfmchajkajagaaTotals.lean).
  GIVEN WITH THE SEED: the statements are not yours to turn. If you find one false, say at which input.
  Laid BY PROGRAM, IN A SANDBOX (cutbox-rows.mjs): the forced cells as the released guide's own fill.sh prints them over the translation 7847dff8723018f3… (all of the seat's roots in one cut). By AI agents, Wed Nov 11 2026. No macro, syntax, notation, axiom, sorry.
-/
import Derived.Test.YtgfmchajkajagaaChecked
import GoSem.Claim
import GoSem.ClaimJoined
import GoSem.ClaimMapViews
import Derived.JoinedTies
import Derived.KernelRfl
namespace Go.Proofs.Ytgfmchajkajagaa
/- THE CELL 'sum', in the pinned program and in every row, IS THE sha256 OF THE DUMP (.gsa) THAT YtgfmchajkajagaaProg.lean LOADS. Nothing in Lean hashes anything: it is a label: what it is worth is what the hold of that sum in a sandbox is worth. -/
noncomputable def Try.pinned : Pinned := { name := "ytgfmchajkajagaa", sum := "7847dff8723018f37df2f9cb36458f0468a80ab9bd15cbbdd4863257e5657578", checked := Try.checked }
namespace Rows
def none {H : Type} : Left H := { results := [], args := [] }

/-- 'aumbrylaw01.OctetNums': WHATEVER THE INPUT: true; the input reads as it did. -/
def octetNumsSpec : ChangeSpec := { name := "octetNums", fn := fun _ => fun
  | [d1, d2, d3] => { results := [.lit (.bool true)], args := [d1, d2, d3] }
  | _ => none }
def octetNumsRow : OpenClaim := { program := "ytgfmchajkajagaa", sum := "7847dff8723018f37df2f9cb36458f0468a80ab9bd15cbbdd4863257e5657578", func := "aumbry/aumbrylaw01.OctetNums", spec := "octetNums", apart := false }
def OctetNumsSaid : Prop := octetNumsRow.holds Try.pinned (OpenSpec.ofChange octetNumsSpec)

/-- ITS FALSE NEIGHBOUR: 'it returns false'. Refute it at one input. -/
def octetNumsWrong : ChangeSpec := { name := "octetNums", fn := fun _ => fun
  | [d1, d2, d3] => { results := [.lit (.bool false)], args := [d1, d2, d3] }
  | _ => none }
def OctetNumsWrongFalsely : Prop := octetNumsRow.holds Try.pinned (OpenSpec.ofChange octetNumsWrong)

/-- 'aumbrylaw01.OctetNumBack': WHATEVER THE INPUT: true; the input reads as it did. -/
def octetNumBackSpec : ChangeSpec := { name := "octetNumBack", fn := fun _ => fun
  | [d1, d2] => { results := [.lit (.bool true)], args := [d1, d2] }
  | _ => none }
def octetNumBackRow : OpenClaim := { program := "ytgfmchajkajagaa", sum := "7847dff8723018f37df2f9cb36458f0468a80ab9bd15cbbdd4863257e5657578", func := "aumbry/aumbrylaw01.OctetNumBack", spec := "octetNumBack", apart := false }
def OctetNumBackSaid : Prop := octetNumBackRow.holds Try.pinned (OpenSpec.ofChange octetNumBackSpec)

/-- ITS FALSE NEIGHBOUR: 'it returns false'. Refute it at one input. -/
def octetNumBackWrong : ChangeSpec := { name := "octetNumBack", fn := fun _ => fun
  | [d1, d2] => { results := [.lit (.bool false)], args := [d1, d2] }
  | _ => none }
def OctetNumBackWrongFalsely : Prop := octetNumBackRow.holds Try.pinned (OpenSpec.ofChange octetNumBackWrong)

/-- 'aumbrylaw01.OctetTexts': WHATEVER THE INPUT: true; the input reads as it did. -/
def octetTextsSpec : ChangeSpec := { name := "octetTexts", fn := fun _ => fun
  | [d1, d2, d3, d4] => { results := [.lit (.bool true)], args := [d1, d2, d3, d4] }
  | _ => none }
def octetTextsRow : OpenClaim := { program := "ytgfmchajkajagaa", sum := "7847dff8723018f37df2f9cb36458f0468a80ab9bd15cbbdd4863257e5657578", func := "aumbry/aumbrylaw01.OctetTexts", spec := "octetTexts", apart := false }
def OctetTextsSaid : Prop := octetTextsRow.holds Try.pinned (OpenSpec.ofChange octetTextsSpec)

/-- ITS FALSE NEIGHBOUR: 'it returns false'. Refute it at one input. -/
def octetTextsWrong : ChangeSpec := { name := "octetTexts", fn := fun _ => fun
  | [d1, d2, d3, d4] => { results := [.lit (.bool false)], args := [d1, d2, d3, d4] }
  | _ => none }
def OctetTextsWrongFalsely : Prop := octetTextsRow.holds Try.pinned (OpenSpec.ofChange octetTextsWrong)

/-- 'aumbrylaw01.OctetFixes': WHATEVER THE INPUT: true; the input reads as it did. -/
def octetFixesSpec : ChangeSpec := { name := "octetFixes", fn := fun _ => fun
  | [d1, d2, d3, d4] => { results := [.lit (.bool true)], args := [d1, d2, d3, d4] }
  | _ => none }
def octetFixesRow : OpenClaim := { program := "ytgfmchajkajagaa", sum := "7847dff8723018f37df2f9cb36458f0468a80ab9bd15cbbdd4863257e5657578", func := "aumbry/aumbrylaw01.OctetFixes", spec := "octetFixes", apart := false }
def OctetFixesSaid : Prop := octetFixesRow.holds Try.pinned (OpenSpec.ofChange octetFixesSpec)

/-- ITS FALSE NEIGHBOUR: 'it returns false'. Refute it at one input. -/
def octetFixesWrong : ChangeSpec := { name := "octetFixes", fn := fun _ => fun
  | [d1, d2, d3, d4] => { results := [.lit (.bool false)], args := [d1, d2, d3, d4] }
  | _ => none }
def OctetFixesWrongFalsely : Prop := octetFixesRow.holds Try.pinned (OpenSpec.ofChange octetFixesWrong)

/-- 'aumbrylaw01.OctetFixedBack': WHATEVER THE INPUT: true; the input reads as it did. -/
def octetFixedBackSpec : ChangeSpec := { name := "octetFixedBack", fn := fun _ => fun
  | [d1, d2, d3, d4] => { results := [.lit (.bool true)], args := [d1, d2, d3, d4] }
  | _ => none }
def octetFixedBackRow : OpenClaim := { program := "ytgfmchajkajagaa", sum := "7847dff8723018f37df2f9cb36458f0468a80ab9bd15cbbdd4863257e5657578", func := "aumbry/aumbrylaw01.OctetFixedBack", spec := "octetFixedBack", apart := false }
def OctetFixedBackSaid : Prop := octetFixedBackRow.holds Try.pinned (OpenSpec.ofChange octetFixedBackSpec)

/-- ITS FALSE NEIGHBOUR: 'it returns false'. Refute it at one input. -/
def octetFixedBackWrong : ChangeSpec := { name := "octetFixedBack", fn := fun _ => fun
  | [d1, d2, d3, d4] => { results := [.lit (.bool false)], args := [d1, d2, d3, d4] }
  | _ => none }
def OctetFixedBackWrongFalsely : Prop := octetFixedBackRow.holds Try.pinned (OpenSpec.ofChange octetFixedBackWrong)

/-- 'aumbrylaw01.OctetReads': WHATEVER THE INPUT: true; the input reads as it did. -/
def octetReadsSpec : ChangeSpec := { name := "octetReads", fn := fun _ => fun
  | [d1, d2] => { results := [.lit (.bool true)], args := [d1, d2] }
  | _ => none }
def octetReadsRow : OpenClaim := { program := "ytgfmchajkajagaa", sum := "7847dff8723018f37df2f9cb36458f0468a80ab9bd15cbbdd4863257e5657578", func := "aumbry/aumbrylaw01.OctetReads", spec := "octetReads", apart := false }
def OctetReadsSaid : Prop := octetReadsRow.holds Try.pinned (OpenSpec.ofChange octetReadsSpec)

/-- ITS FALSE NEIGHBOUR: 'it returns false'. Refute it at one input. -/
def octetReadsWrong : ChangeSpec := { name := "octetReads", fn := fun _ => fun
  | [d1, d2] => { results := [.lit (.bool false)], args := [d1, d2] }
  | _ => none }
def OctetReadsWrongFalsely : Prop := octetReadsRow.holds Try.pinned (OpenSpec.ofChange octetReadsWrong)

/- THE SECOND FORM. 'bulk': how many values and letters a reading holds, each counted each time it is reached (what is shared counts as often as it is met; a slice's spare places count too). A statement '..UptoSaid' is the law's where the arguments, and the package variables that the reading takes, are together of bulk at most 1048576: NARROWER than '..Said'. Prove '..Said' where nothing that the law and all that it calls make is longer than what came in: it says more and counts as full. Else prove '..UptoSaid'. A law counts once. -/
mutual
def uptoBulk {H : Type} : DataW H → Nat
  | .lit (.string bytes) => bytes.length + 1
  | .lit _ => 1
  | .nil => 1
  | .ptr d => uptoBulk d + 1
  | .slice elems spare => uptoBulkAll elems + uptoBulkAll spare + 1
  | .agg parts => uptoBulkAll parts + 1
  | .iface _ d => uptoBulk d + 1
  | .map entries => uptoBulkEntries entries + 1
  | .held _ => 1
def uptoBulkAll {H : Type} : List (DataW H) → Nat
  | [] => 0
  | d :: r => uptoBulk d + uptoBulkAll r
def uptoBulkEntries {H : Type} : List (Lit × DataW H) → Nat
  | [] => 0
  | x :: r => uptoBulkEntry x + uptoBulkEntries r
def uptoBulkEntry {H : Type} : Lit × DataW H → Nat
  | (.string bytes, d) => bytes.length + uptoBulk d + 1
  | (_, d) => uptoBulk d + 1
 end
def uptoSmall : (H : Type) → List (DataW H) → Bool := fun _ ds => decide (uptoBulkAll ds ≤ 1048576)
def OpenSpec.upto (s : _root_.Go.ChangeSpec) : _root_.Go.OpenSpec := { _root_.Go.OpenSpec.ofChange s with cond := some uptoSmall }

/-- 'aumbrylaw01.OctetNums', WHERE WHAT IT READS IS OF BULK AT MOST 1048576: true; the input reads as it did. -/
def octetNumsUptoRow : OpenClaim := { program := "ytgfmchajkajagaa", sum := "7847dff8723018f37df2f9cb36458f0468a80ab9bd15cbbdd4863257e5657578", func := "aumbry/aumbrylaw01.OctetNums", spec := "octetNums", apart := false, narrowed := true }
def OctetNumsUptoSaid : Prop := octetNumsUptoRow.holds Try.pinned (OpenSpec.upto octetNumsSpec)

/-- 'aumbrylaw01.OctetNumBack', WHERE WHAT IT READS IS OF BULK AT MOST 1048576: true; the input reads as it did. -/
def octetNumBackUptoRow : OpenClaim := { program := "ytgfmchajkajagaa", sum := "7847dff8723018f37df2f9cb36458f0468a80ab9bd15cbbdd4863257e5657578", func := "aumbry/aumbrylaw01.OctetNumBack", spec := "octetNumBack", apart := false, narrowed := true }
def OctetNumBackUptoSaid : Prop := octetNumBackUptoRow.holds Try.pinned (OpenSpec.upto octetNumBackSpec)

/-- 'aumbrylaw01.OctetTexts', WHERE WHAT IT READS IS OF BULK AT MOST 1048576: true; the input reads as it did. -/
def octetTextsUptoRow : OpenClaim := { program := "ytgfmchajkajagaa", sum := "7847dff8723018f37df2f9cb36458f0468a80ab9bd15cbbdd4863257e5657578", func := "aumbry/aumbrylaw01.OctetTexts", spec := "octetTexts", apart := false, narrowed := true }
def OctetTextsUptoSaid : Prop := octetTextsUptoRow.holds Try.pinned (OpenSpec.upto octetTextsSpec)

/-- 'aumbrylaw01.OctetFixes', WHERE WHAT IT READS IS OF BULK AT MOST 1048576: true; the input reads as it did. -/
def octetFixesUptoRow : OpenClaim := { program := "ytgfmchajkajagaa", sum := "7847dff8723018f37df2f9cb36458f0468a80ab9bd15cbbdd4863257e5657578", func := "aumbry/aumbrylaw01.OctetFixes", spec := "octetFixes", apart := false, narrowed := true }
def OctetFixesUptoSaid : Prop := octetFixesUptoRow.holds Try.pinned (OpenSpec.upto octetFixesSpec)

/-- 'aumbrylaw01.OctetFixedBack', WHERE WHAT IT READS IS OF BULK AT MOST 1048576: true; the input reads as it did. -/
def octetFixedBackUptoRow : OpenClaim := { program := "ytgfmchajkajagaa", sum := "7847dff8723018f37df2f9cb36458f0468a80ab9bd15cbbdd4863257e5657578", func := "aumbry/aumbrylaw01.OctetFixedBack", spec := "octetFixedBack", apart := false, narrowed := true }
def OctetFixedBackUptoSaid : Prop := octetFixedBackUptoRow.holds Try.pinned (OpenSpec.upto octetFixedBackSpec)

/-- 'aumbrylaw01.OctetReads', WHERE WHAT IT READS IS OF BULK AT MOST 1048576: true; the input reads as it did. -/
def octetReadsUptoRow : OpenClaim := { program := "ytgfmchajkajagaa", sum := "7847dff8723018f37df2f9cb36458f0468a80ab9bd15cbbdd4863257e5657578", func := "aumbry/aumbrylaw01.OctetReads", spec := "octetReads", apart := false, narrowed := true }
def OctetReadsUptoSaid : Prop := octetReadsUptoRow.holds Try.pinned (OpenSpec.upto octetReadsSpec)

end Rows
end Go.Proofs.Ytgfmchajkajagaa
