/-
  No cell of these rows narrows 'for every input' (looked for: loops, veiled, ifaces, maps, wideKeys, modest, calm, conditions, laid).
  DERIVED. THE GIVEN ROWS OF THIS SEAT. 6 by the template 'for every input the law returns true; each argument reads behind the call as it read before'; 0 by the template 'total and deterministic' (their statements: YtgofkhncaldheaaTotals.lean).
  GIVEN WITH THE SEED: the statements are not yours to turn. If you find one false, say at which input.
  Laid BY PROGRAM, IN A SANDBOX (cutbox-rows.mjs): the forced cells as the released guide's own fill.sh prints them over the translation ddfbcb755d5a8181… (all of the seat's roots in one cut). By AI agents, Wed Nov 11 2026. No macro, syntax, notation, axiom, sorry.
-/
import Derived.Test.YtgofkhncaldheaaChecked
import GoSem.Claim
import GoSem.ClaimJoined
import GoSem.ClaimMapViews
import Derived.JoinedTies
import Derived.KernelRfl
namespace Go.Proofs.Ytgofkhncaldheaa
/- THE CELL 'sum', in the pinned program and in every row, IS THE sha256 OF THE DUMP (.gsa) THAT YtgofkhncaldheaaProg.lean LOADS. Nothing in Lean hashes anything: it is a label: what it is worth is what the hold of that sum in a sandbox is worth. -/
noncomputable def Try.pinned : Pinned := { name := "ytgofkhncaldheaa", sum := "ddfbcb755d5a8181c9f98861e37062949b8c197a1a8acb9cae5a8ac9e0f18263", checked := Try.checked }
namespace Rows
def none {H : Type} : Left H := { results := [], args := [] }

/-- 'aumbrylaw15.RecipeCuts': WHATEVER THE INPUT: true; the input reads as it did. -/
def recipeCutsSpec : ChangeSpec := { name := "recipeCuts", fn := fun _ => fun
  | [d1, d2, d3] => { results := [.lit (.bool true)], args := [d1, d2, d3] }
  | _ => none }
def recipeCutsRow : OpenClaim := { program := "ytgofkhncaldheaa", sum := "ddfbcb755d5a8181c9f98861e37062949b8c197a1a8acb9cae5a8ac9e0f18263", func := "aumbry/aumbrylaw15.RecipeCuts", spec := "recipeCuts", unfollowed := true, recurses := true, plainKeys := false, apart := false }
def RecipeCutsSaid : Prop := recipeCutsRow.holds Try.pinned (OpenSpec.ofChange recipeCutsSpec)

/-- ITS FALSE NEIGHBOUR: 'it returns false'. Refute it at one input. -/
def recipeCutsWrong : ChangeSpec := { name := "recipeCuts", fn := fun _ => fun
  | [d1, d2, d3] => { results := [.lit (.bool false)], args := [d1, d2, d3] }
  | _ => none }
def RecipeCutsWrongFalsely : Prop := recipeCutsRow.holds Try.pinned (OpenSpec.ofChange recipeCutsWrong)

/-- 'aumbrylaw15.RecipeSides': WHATEVER THE INPUT: true; the input reads as it did. -/
def recipeSidesSpec : ChangeSpec := { name := "recipeSides", fn := fun _ => fun
  | [d1, d2, d3, d4] => { results := [.lit (.bool true)], args := [d1, d2, d3, d4] }
  | _ => none }
def recipeSidesRow : OpenClaim := { program := "ytgofkhncaldheaa", sum := "ddfbcb755d5a8181c9f98861e37062949b8c197a1a8acb9cae5a8ac9e0f18263", func := "aumbry/aumbrylaw15.RecipeSides", spec := "recipeSides", unfollowed := true, recurses := true, plainKeys := false, apart := false }
def RecipeSidesSaid : Prop := recipeSidesRow.holds Try.pinned (OpenSpec.ofChange recipeSidesSpec)

/-- ITS FALSE NEIGHBOUR: 'it returns false'. Refute it at one input. -/
def recipeSidesWrong : ChangeSpec := { name := "recipeSides", fn := fun _ => fun
  | [d1, d2, d3, d4] => { results := [.lit (.bool false)], args := [d1, d2, d3, d4] }
  | _ => none }
def RecipeSidesWrongFalsely : Prop := recipeSidesRow.holds Try.pinned (OpenSpec.ofChange recipeSidesWrong)

/-- 'aumbrylaw15.RecipeNew': WHATEVER THE INPUT: true; the input reads as it did. -/
def recipeNewSpec : ChangeSpec := { name := "recipeNew", fn := fun _ => fun
  | [d] => { results := [.lit (.bool true)], args := [d] }
  | _ => none }
def recipeNewRow : OpenClaim := { program := "ytgofkhncaldheaa", sum := "ddfbcb755d5a8181c9f98861e37062949b8c197a1a8acb9cae5a8ac9e0f18263", func := "aumbry/aumbrylaw15.RecipeNew", spec := "recipeNew", unfollowed := true, recurses := true, plainKeys := false, apart := false }
def RecipeNewSaid : Prop := recipeNewRow.holds Try.pinned (OpenSpec.ofChange recipeNewSpec)

/-- ITS FALSE NEIGHBOUR: 'it returns false'. Refute it at one input. -/
def recipeNewWrong : ChangeSpec := { name := "recipeNew", fn := fun _ => fun
  | [d] => { results := [.lit (.bool false)], args := [d] }
  | _ => none }
def RecipeNewWrongFalsely : Prop := recipeNewRow.holds Try.pinned (OpenSpec.ofChange recipeNewWrong)

/-- 'aumbrylaw15.RecipeMoves': WHATEVER THE INPUT: true; the input reads as it did. -/
def recipeMovesSpec : ChangeSpec := { name := "recipeMoves", fn := fun _ => fun
  | [d1, d2] => { results := [.lit (.bool true)], args := [d1, d2] }
  | _ => none }
def recipeMovesRow : OpenClaim := { program := "ytgofkhncaldheaa", sum := "ddfbcb755d5a8181c9f98861e37062949b8c197a1a8acb9cae5a8ac9e0f18263", func := "aumbry/aumbrylaw15.RecipeMoves", spec := "recipeMoves", unfollowed := true, recurses := true, plainKeys := false, apart := false }
def RecipeMovesSaid : Prop := recipeMovesRow.holds Try.pinned (OpenSpec.ofChange recipeMovesSpec)

/-- ITS FALSE NEIGHBOUR: 'it returns false'. Refute it at one input. -/
def recipeMovesWrong : ChangeSpec := { name := "recipeMoves", fn := fun _ => fun
  | [d1, d2] => { results := [.lit (.bool false)], args := [d1, d2] }
  | _ => none }
def RecipeMovesWrongFalsely : Prop := recipeMovesRow.holds Try.pinned (OpenSpec.ofChange recipeMovesWrong)

/-- 'aumbrylaw15.RecipeSpots': WHATEVER THE INPUT: true; the input reads as it did. -/
def recipeSpotsSpec : ChangeSpec := { name := "recipeSpots", fn := fun _ => fun
  | [d] => { results := [.lit (.bool true)], args := [d] }
  | _ => none }
def recipeSpotsRow : OpenClaim := { program := "ytgofkhncaldheaa", sum := "ddfbcb755d5a8181c9f98861e37062949b8c197a1a8acb9cae5a8ac9e0f18263", func := "aumbry/aumbrylaw15.RecipeSpots", spec := "recipeSpots", unfollowed := true, recurses := true, plainKeys := false, apart := false }
def RecipeSpotsSaid : Prop := recipeSpotsRow.holds Try.pinned (OpenSpec.ofChange recipeSpotsSpec)

/-- ITS FALSE NEIGHBOUR: 'it returns false'. Refute it at one input. -/
def recipeSpotsWrong : ChangeSpec := { name := "recipeSpots", fn := fun _ => fun
  | [d] => { results := [.lit (.bool false)], args := [d] }
  | _ => none }
def RecipeSpotsWrongFalsely : Prop := recipeSpotsRow.holds Try.pinned (OpenSpec.ofChange recipeSpotsWrong)

/-- 'aumbrylaw15.RecipeBack': WHATEVER THE INPUT: true; the input reads as it did. -/
def recipeBackSpec : ChangeSpec := { name := "recipeBack", fn := fun _ => fun
  | [d1, d2] => { results := [.lit (.bool true)], args := [d1, d2] }
  | _ => none }
def recipeBackRow : OpenClaim := { program := "ytgofkhncaldheaa", sum := "ddfbcb755d5a8181c9f98861e37062949b8c197a1a8acb9cae5a8ac9e0f18263", func := "aumbry/aumbrylaw15.RecipeBack", spec := "recipeBack", unfollowed := true, recurses := true, plainKeys := false, apart := false }
def RecipeBackSaid : Prop := recipeBackRow.holds Try.pinned (OpenSpec.ofChange recipeBackSpec)

/-- ITS FALSE NEIGHBOUR: 'it returns false'. Refute it at one input. -/
def recipeBackWrong : ChangeSpec := { name := "recipeBack", fn := fun _ => fun
  | [d1, d2] => { results := [.lit (.bool false)], args := [d1, d2] }
  | _ => none }
def RecipeBackWrongFalsely : Prop := recipeBackRow.holds Try.pinned (OpenSpec.ofChange recipeBackWrong)

/- THE SECOND FORM. 'bulk': how many values and letters a reading holds, each counted each time it is reached (what is shared counts as often as it is met; a slice's spare places count too). A statement '..UptoSaid' is the law's where the arguments, and the package variables that the reading takes, are together of bulk at most 1048576: NARROWER than '..Said'. Prove '..Said' where nothing that the law and all that it calls make is longer than what came in: it says more and counts as full. Else prove '..UptoSaid'. A law counts once. -/
mutual
def uptoBulk {H : Type} : DataW H → Nat
  | .lit (.string bytes) => bytes.length + 1
  | .lit _ => 1
  | .nil => 1
  | .ptr d => uptoBulk d + 1
  | .slice elems spare => uptoBulkAll elems + uptoBulkAll spare + 1
  | .agg parts => uptoBulkAll parts + 1
  | .iface _ d => uptoBulk d + 1
  | .map entries => uptoBulkEntries entries + 1
  | .held _ => 1
def uptoBulkAll {H : Type} : List (DataW H) → Nat
  | [] => 0
  | d :: r => uptoBulk d + uptoBulkAll r
def uptoBulkEntries {H : Type} : List (Lit × DataW H) → Nat
  | [] => 0
  | x :: r => uptoBulkEntry x + uptoBulkEntries r
def uptoBulkEntry {H : Type} : Lit × DataW H → Nat
  | (.string bytes, d) => bytes.length + uptoBulk d + 1
  | (_, d) => uptoBulk d + 1
 end
def uptoSmall : (H : Type) → List (DataW H) → Bool := fun _ ds => decide (uptoBulkAll ds ≤ 1048576)
def OpenSpec.upto (s : _root_.Go.ChangeSpec) : _root_.Go.OpenSpec := { _root_.Go.OpenSpec.ofChange s with cond := some uptoSmall }

/-- 'aumbrylaw15.RecipeCuts', WHERE WHAT IT READS IS OF BULK AT MOST 1048576: true; the input reads as it did. -/
def recipeCutsUptoRow : OpenClaim := { program := "ytgofkhncaldheaa", sum := "ddfbcb755d5a8181c9f98861e37062949b8c197a1a8acb9cae5a8ac9e0f18263", func := "aumbry/aumbrylaw15.RecipeCuts", spec := "recipeCuts", unfollowed := true, recurses := true, plainKeys := false, apart := false, narrowed := true }
def RecipeCutsUptoSaid : Prop := recipeCutsUptoRow.holds Try.pinned (OpenSpec.upto recipeCutsSpec)

/-- 'aumbrylaw15.RecipeSides', WHERE WHAT IT READS IS OF BULK AT MOST 1048576: true; the input reads as it did. -/
def recipeSidesUptoRow : OpenClaim := { program := "ytgofkhncaldheaa", sum := "ddfbcb755d5a8181c9f98861e37062949b8c197a1a8acb9cae5a8ac9e0f18263", func := "aumbry/aumbrylaw15.RecipeSides", spec := "recipeSides", unfollowed := true, recurses := true, plainKeys := false, apart := false, narrowed := true }
def RecipeSidesUptoSaid : Prop := recipeSidesUptoRow.holds Try.pinned (OpenSpec.upto recipeSidesSpec)

/-- 'aumbrylaw15.RecipeNew', WHERE WHAT IT READS IS OF BULK AT MOST 1048576: true; the input reads as it did. -/
def recipeNewUptoRow : OpenClaim := { program := "ytgofkhncaldheaa", sum := "ddfbcb755d5a8181c9f98861e37062949b8c197a1a8acb9cae5a8ac9e0f18263", func := "aumbry/aumbrylaw15.RecipeNew", spec := "recipeNew", unfollowed := true, recurses := true, plainKeys := false, apart := false, narrowed := true }
def RecipeNewUptoSaid : Prop := recipeNewUptoRow.holds Try.pinned (OpenSpec.upto recipeNewSpec)

/-- 'aumbrylaw15.RecipeMoves', WHERE WHAT IT READS IS OF BULK AT MOST 1048576: true; the input reads as it did. -/
def recipeMovesUptoRow : OpenClaim := { program := "ytgofkhncaldheaa", sum := "ddfbcb755d5a8181c9f98861e37062949b8c197a1a8acb9cae5a8ac9e0f18263", func := "aumbry/aumbrylaw15.RecipeMoves", spec := "recipeMoves", unfollowed := true, recurses := true, plainKeys := false, apart := false, narrowed := true }
def RecipeMovesUptoSaid : Prop := recipeMovesUptoRow.holds Try.pinned (OpenSpec.upto recipeMovesSpec)

/-- 'aumbrylaw15.RecipeSpots', WHERE WHAT IT READS IS OF BULK AT MOST 1048576: true; the input reads as it did. -/
def recipeSpotsUptoRow : OpenClaim := { program := "ytgofkhncaldheaa", sum := "ddfbcb755d5a8181c9f98861e37062949b8c197a1a8acb9cae5a8ac9e0f18263", func := "aumbry/aumbrylaw15.RecipeSpots", spec := "recipeSpots", unfollowed := true, recurses := true, plainKeys := false, apart := false, narrowed := true }
def RecipeSpotsUptoSaid : Prop := recipeSpotsUptoRow.holds Try.pinned (OpenSpec.upto recipeSpotsSpec)

/-- 'aumbrylaw15.RecipeBack', WHERE WHAT IT READS IS OF BULK AT MOST 1048576: true; the input reads as it did. -/
def recipeBackUptoRow : OpenClaim := { program := "ytgofkhncaldheaa", sum := "ddfbcb755d5a8181c9f98861e37062949b8c197a1a8acb9cae5a8ac9e0f18263", func := "aumbry/aumbrylaw15.RecipeBack", spec := "recipeBack", unfollowed := true, recurses := true, plainKeys := false, apart := false, narrowed := true }
def RecipeBackUptoSaid : Prop := recipeBackUptoRow.holds Try.pinned (OpenSpec.upto recipeBackSpec)

end Rows
end Go.Proofs.Ytgofkhncaldheaa
