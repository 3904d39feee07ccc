/-
  No cell of these rows narrows 'for every input' (looked for: loops, veiled, ifaces, maps, wideKeys, modest, calm, conditions, laid).
  DERIVED. THE GIVEN ROWS OF THIS SEAT. 12 by the template 'for every input the law returns true; each argument reads behind the call as it read before'; 0 by the template 'total and deterministic' (their statements: YtnnbjnmkkfakdaaTotals.lean).
  GIVEN WITH THE SEED: the statements are not yours to turn. If you find one false, say at which input.
  Laid BY PROGRAM, IN A SANDBOX (cutbox-rows.mjs): the forced cells as the released guide's own fill.sh prints them over the translation a2cbbcb3c83184de… (all of the seat's roots in one cut). By AI agents, Wed Nov 11 2026. No macro, syntax, notation, axiom, sorry.
-/
import Derived.Test.YtnnbjnmkkfakdaaChecked
import GoSem.Claim
import GoSem.ClaimJoined
import GoSem.ClaimMapViews
import Derived.JoinedTies
import Derived.KernelRfl
namespace Go.Proofs.Ytnnbjnmkkfakdaa
/- THE CELL 'sum', in the pinned program and in every row, IS THE sha256 OF THE DUMP (.gsa) THAT YtnnbjnmkkfakdaaProg.lean LOADS. Nothing in Lean hashes anything: it is a label: what it is worth is what the hold of that sum in a sandbox is worth. -/
noncomputable def Try.pinned : Pinned := { name := "ytnnbjnmkkfakdaa", sum := "a2cbbcb3c83184de63b69b0f037ba4ce1499046e399354e756680e22eceed2ad", checked := Try.checked }
namespace Rows
def none {H : Type} : Left H := { results := [], args := [] }

/-- 'laws.FnExactProductPair': WHATEVER THE INPUT: true; the input reads as it did. -/
def fnExactProductPairSpec : ChangeSpec := { name := "fnExactProductPair", fn := fun _ => fun
  | [d1, d2] => { results := [.lit (.bool true)], args := [d1, d2] }
  | _ => none }
def fnExactProductPairRow : OpenClaim := { program := "ytnnbjnmkkfakdaa", sum := "a2cbbcb3c83184de63b69b0f037ba4ce1499046e399354e756680e22eceed2ad", func := "loop.example/g01161/laws.FnExactProductPair", spec := "fnExactProductPair", unfollowed := true, recurses := true, apart := false }
def FnExactProductPairSaid : Prop := fnExactProductPairRow.holds Try.pinned (OpenSpec.ofChange fnExactProductPairSpec)

/-- ITS FALSE NEIGHBOUR: 'it returns false'. Refute it at one input. -/
def fnExactProductPairWrong : ChangeSpec := { name := "fnExactProductPair", fn := fun _ => fun
  | [d1, d2] => { results := [.lit (.bool false)], args := [d1, d2] }
  | _ => none }
def FnExactProductPairWrongFalsely : Prop := fnExactProductPairRow.holds Try.pinned (OpenSpec.ofChange fnExactProductPairWrong)

/-- 'laws.FnExactPowerPair': WHATEVER THE INPUT: true; the input reads as it did. -/
def fnExactPowerPairSpec : ChangeSpec := { name := "fnExactPowerPair", fn := fun _ => fun
  | [d1, d2] => { results := [.lit (.bool true)], args := [d1, d2] }
  | _ => none }
def fnExactPowerPairRow : OpenClaim := { program := "ytnnbjnmkkfakdaa", sum := "a2cbbcb3c83184de63b69b0f037ba4ce1499046e399354e756680e22eceed2ad", func := "loop.example/g01161/laws.FnExactPowerPair", spec := "fnExactPowerPair", unfollowed := true, recurses := true, apart := false }
def FnExactPowerPairSaid : Prop := fnExactPowerPairRow.holds Try.pinned (OpenSpec.ofChange fnExactPowerPairSpec)

/-- ITS FALSE NEIGHBOUR: 'it returns false'. Refute it at one input. -/
def fnExactPowerPairWrong : ChangeSpec := { name := "fnExactPowerPair", fn := fun _ => fun
  | [d1, d2] => { results := [.lit (.bool false)], args := [d1, d2] }
  | _ => none }
def FnExactPowerPairWrongFalsely : Prop := fnExactPowerPairRow.holds Try.pinned (OpenSpec.ofChange fnExactPowerPairWrong)

/-- 'laws.FnExactCommutatorPair': WHATEVER THE INPUT: true; the input reads as it did. -/
def fnExactCommutatorPairSpec : ChangeSpec := { name := "fnExactCommutatorPair", fn := fun _ => fun
  | [d1, d2] => { results := [.lit (.bool true)], args := [d1, d2] }
  | _ => none }
def fnExactCommutatorPairRow : OpenClaim := { program := "ytnnbjnmkkfakdaa", sum := "a2cbbcb3c83184de63b69b0f037ba4ce1499046e399354e756680e22eceed2ad", func := "loop.example/g01161/laws.FnExactCommutatorPair", spec := "fnExactCommutatorPair", unfollowed := true, recurses := true, apart := false }
def FnExactCommutatorPairSaid : Prop := fnExactCommutatorPairRow.holds Try.pinned (OpenSpec.ofChange fnExactCommutatorPairSpec)

/-- ITS FALSE NEIGHBOUR: 'it returns false'. Refute it at one input. -/
def fnExactCommutatorPairWrong : ChangeSpec := { name := "fnExactCommutatorPair", fn := fun _ => fun
  | [d1, d2] => { results := [.lit (.bool false)], args := [d1, d2] }
  | _ => none }
def FnExactCommutatorPairWrongFalsely : Prop := fnExactCommutatorPairRow.holds Try.pinned (OpenSpec.ofChange fnExactCommutatorPairWrong)

/-- 'laws.FnExactDoCommute': WHATEVER THE INPUT: true; the input reads as it did. -/
def fnExactDoCommuteSpec : ChangeSpec := { name := "fnExactDoCommute", fn := fun _ => fun
  | [d1, d2] => { results := [.lit (.bool true)], args := [d1, d2] }
  | _ => none }
def fnExactDoCommuteRow : OpenClaim := { program := "ytnnbjnmkkfakdaa", sum := "a2cbbcb3c83184de63b69b0f037ba4ce1499046e399354e756680e22eceed2ad", func := "loop.example/g01161/laws.FnExactDoCommute", spec := "fnExactDoCommute", unfollowed := true, recurses := true, apart := false }
def FnExactDoCommuteSaid : Prop := fnExactDoCommuteRow.holds Try.pinned (OpenSpec.ofChange fnExactDoCommuteSpec)

/-- ITS FALSE NEIGHBOUR: 'it returns false'. Refute it at one input. -/
def fnExactDoCommuteWrong : ChangeSpec := { name := "fnExactDoCommute", fn := fun _ => fun
  | [d1, d2] => { results := [.lit (.bool false)], args := [d1, d2] }
  | _ => none }
def FnExactDoCommuteWrongFalsely : Prop := fnExactDoCommuteRow.holds Try.pinned (OpenSpec.ofChange fnExactDoCommuteWrong)

/-- 'laws.FnExactPairOfForest': WHATEVER THE INPUT: true; the input reads as it did. -/
def fnExactPairOfForestSpec : ChangeSpec := { name := "fnExactPairOfForest", fn := fun _ => fun
  | [d] => { results := [.lit (.bool true)], args := [d] }
  | _ => none }
def fnExactPairOfForestRow : OpenClaim := { program := "ytnnbjnmkkfakdaa", sum := "a2cbbcb3c83184de63b69b0f037ba4ce1499046e399354e756680e22eceed2ad", func := "loop.example/g01161/laws.FnExactPairOfForest", spec := "fnExactPairOfForest", unfollowed := true, recurses := true, apart := false }
def FnExactPairOfForestSaid : Prop := fnExactPairOfForestRow.holds Try.pinned (OpenSpec.ofChange fnExactPairOfForestSpec)

/-- ITS FALSE NEIGHBOUR: 'it returns false'. Refute it at one input. -/
def fnExactPairOfForestWrong : ChangeSpec := { name := "fnExactPairOfForest", fn := fun _ => fun
  | [d] => { results := [.lit (.bool false)], args := [d] }
  | _ => none }
def FnExactPairOfForestWrongFalsely : Prop := fnExactPairOfForestRow.holds Try.pinned (OpenSpec.ofChange fnExactPairOfForestWrong)

/-- 'laws.FnExactPairOfForests': WHATEVER THE INPUT: true; the input reads as it did. -/
def fnExactPairOfForestsSpec : ChangeSpec := { name := "fnExactPairOfForests", fn := fun _ => fun
  | [d1, d2] => { results := [.lit (.bool true)], args := [d1, d2] }
  | _ => none }
def fnExactPairOfForestsRow : OpenClaim := { program := "ytnnbjnmkkfakdaa", sum := "a2cbbcb3c83184de63b69b0f037ba4ce1499046e399354e756680e22eceed2ad", func := "loop.example/g01161/laws.FnExactPairOfForests", spec := "fnExactPairOfForests", unfollowed := true, recurses := true, apart := false }
def FnExactPairOfForestsSaid : Prop := fnExactPairOfForestsRow.holds Try.pinned (OpenSpec.ofChange fnExactPairOfForestsSpec)

/-- ITS FALSE NEIGHBOUR: 'it returns false'. Refute it at one input. -/
def fnExactPairOfForestsWrong : ChangeSpec := { name := "fnExactPairOfForests", fn := fun _ => fun
  | [d1, d2] => { results := [.lit (.bool false)], args := [d1, d2] }
  | _ => none }
def FnExactPairOfForestsWrongFalsely : Prop := fnExactPairOfForestsRow.holds Try.pinned (OpenSpec.ofChange fnExactPairOfForestsWrong)

/-- 'laws.FnExactForestsOfPair': WHATEVER THE INPUT: true; the input reads as it did. -/
def fnExactForestsOfPairSpec : ChangeSpec := { name := "fnExactForestsOfPair", fn := fun _ => fun
  | [d] => { results := [.lit (.bool true)], args := [d] }
  | _ => none }
def fnExactForestsOfPairRow : OpenClaim := { program := "ytnnbjnmkkfakdaa", sum := "a2cbbcb3c83184de63b69b0f037ba4ce1499046e399354e756680e22eceed2ad", func := "loop.example/g01161/laws.FnExactForestsOfPair", spec := "fnExactForestsOfPair", recurses := true, apart := false }
def FnExactForestsOfPairSaid : Prop := fnExactForestsOfPairRow.holds Try.pinned (OpenSpec.ofChange fnExactForestsOfPairSpec)

/-- ITS FALSE NEIGHBOUR: 'it returns false'. Refute it at one input. -/
def fnExactForestsOfPairWrong : ChangeSpec := { name := "fnExactForestsOfPair", fn := fun _ => fun
  | [d] => { results := [.lit (.bool false)], args := [d] }
  | _ => none }
def FnExactForestsOfPairWrongFalsely : Prop := fnExactForestsOfPairRow.holds Try.pinned (OpenSpec.ofChange fnExactForestsOfPairWrong)

/-- 'laws.FnExactPairOfWord': WHATEVER THE INPUT: true; the input reads as it did. -/
def fnExactPairOfWordSpec : ChangeSpec := { name := "fnExactPairOfWord", fn := fun _ => fun
  | [d] => { results := [.lit (.bool true)], args := [d] }
  | _ => none }
def fnExactPairOfWordRow : OpenClaim := { program := "ytnnbjnmkkfakdaa", sum := "a2cbbcb3c83184de63b69b0f037ba4ce1499046e399354e756680e22eceed2ad", func := "loop.example/g01161/laws.FnExactPairOfWord", spec := "fnExactPairOfWord", unfollowed := true, recurses := true, apart := false }
def FnExactPairOfWordSaid : Prop := fnExactPairOfWordRow.holds Try.pinned (OpenSpec.ofChange fnExactPairOfWordSpec)

/-- ITS FALSE NEIGHBOUR: 'it returns false'. Refute it at one input. -/
def fnExactPairOfWordWrong : ChangeSpec := { name := "fnExactPairOfWord", fn := fun _ => fun
  | [d] => { results := [.lit (.bool false)], args := [d] }
  | _ => none }
def FnExactPairOfWordWrongFalsely : Prop := fnExactPairOfWordRow.holds Try.pinned (OpenSpec.ofChange fnExactPairOfWordWrong)

/-- 'laws.FnExactLengthOf': WHATEVER THE INPUT: true; the input reads as it did. -/
def fnExactLengthOfSpec : ChangeSpec := { name := "fnExactLengthOf", fn := fun _ => fun
  | [d] => { results := [.lit (.bool true)], args := [d] }
  | _ => none }
def fnExactLengthOfRow : OpenClaim := { program := "ytnnbjnmkkfakdaa", sum := "a2cbbcb3c83184de63b69b0f037ba4ce1499046e399354e756680e22eceed2ad", func := "loop.example/g01161/laws.FnExactLengthOf", spec := "fnExactLengthOf", unfollowed := true, recurses := true, apart := false }
def FnExactLengthOfSaid : Prop := fnExactLengthOfRow.holds Try.pinned (OpenSpec.ofChange fnExactLengthOfSpec)

/-- ITS FALSE NEIGHBOUR: 'it returns false'. Refute it at one input. -/
def fnExactLengthOfWrong : ChangeSpec := { name := "fnExactLengthOf", fn := fun _ => fun
  | [d] => { results := [.lit (.bool false)], args := [d] }
  | _ => none }
def FnExactLengthOfWrongFalsely : Prop := fnExactLengthOfRow.holds Try.pinned (OpenSpec.ofChange fnExactLengthOfWrong)

/-- 'laws.FnExactDistanceOf': WHATEVER THE INPUT: true; the input reads as it did. -/
def fnExactDistanceOfSpec : ChangeSpec := { name := "fnExactDistanceOf", fn := fun _ => fun
  | [d1, d2] => { results := [.lit (.bool true)], args := [d1, d2] }
  | _ => none }
def fnExactDistanceOfRow : OpenClaim := { program := "ytnnbjnmkkfakdaa", sum := "a2cbbcb3c83184de63b69b0f037ba4ce1499046e399354e756680e22eceed2ad", func := "loop.example/g01161/laws.FnExactDistanceOf", spec := "fnExactDistanceOf", unfollowed := true, recurses := true, apart := false }
def FnExactDistanceOfSaid : Prop := fnExactDistanceOfRow.holds Try.pinned (OpenSpec.ofChange fnExactDistanceOfSpec)

/-- ITS FALSE NEIGHBOUR: 'it returns false'. Refute it at one input. -/
def fnExactDistanceOfWrong : ChangeSpec := { name := "fnExactDistanceOf", fn := fun _ => fun
  | [d1, d2] => { results := [.lit (.bool false)], args := [d1, d2] }
  | _ => none }
def FnExactDistanceOfWrongFalsely : Prop := fnExactDistanceOfRow.holds Try.pinned (OpenSpec.ofChange fnExactDistanceOfWrong)

/-- 'laws.FnExactLengthOfWord': WHATEVER THE INPUT: true; the input reads as it did. -/
def fnExactLengthOfWordSpec : ChangeSpec := { name := "fnExactLengthOfWord", fn := fun _ => fun
  | [d] => { results := [.lit (.bool true)], args := [d] }
  | _ => none }
def fnExactLengthOfWordRow : OpenClaim := { program := "ytnnbjnmkkfakdaa", sum := "a2cbbcb3c83184de63b69b0f037ba4ce1499046e399354e756680e22eceed2ad", func := "loop.example/g01161/laws.FnExactLengthOfWord", spec := "fnExactLengthOfWord", unfollowed := true, recurses := true, apart := false }
def FnExactLengthOfWordSaid : Prop := fnExactLengthOfWordRow.holds Try.pinned (OpenSpec.ofChange fnExactLengthOfWordSpec)

/-- ITS FALSE NEIGHBOUR: 'it returns false'. Refute it at one input. -/
def fnExactLengthOfWordWrong : ChangeSpec := { name := "fnExactLengthOfWord", fn := fun _ => fun
  | [d] => { results := [.lit (.bool false)], args := [d] }
  | _ => none }
def FnExactLengthOfWordWrongFalsely : Prop := fnExactLengthOfWordRow.holds Try.pinned (OpenSpec.ofChange fnExactLengthOfWordWrong)

/-- 'laws.FnExactWordOfPair': WHATEVER THE INPUT: true; the input reads as it did. -/
def fnExactWordOfPairSpec : ChangeSpec := { name := "fnExactWordOfPair", fn := fun _ => fun
  | [d] => { results := [.lit (.bool true)], args := [d] }
  | _ => none }
def fnExactWordOfPairRow : OpenClaim := { program := "ytnnbjnmkkfakdaa", sum := "a2cbbcb3c83184de63b69b0f037ba4ce1499046e399354e756680e22eceed2ad", func := "loop.example/g01161/laws.FnExactWordOfPair", spec := "fnExactWordOfPair", recurses := true, apart := false }
def FnExactWordOfPairSaid : Prop := fnExactWordOfPairRow.holds Try.pinned (OpenSpec.ofChange fnExactWordOfPairSpec)

/-- ITS FALSE NEIGHBOUR: 'it returns false'. Refute it at one input. -/
def fnExactWordOfPairWrong : ChangeSpec := { name := "fnExactWordOfPair", fn := fun _ => fun
  | [d] => { results := [.lit (.bool false)], args := [d] }
  | _ => none }
def FnExactWordOfPairWrongFalsely : Prop := fnExactWordOfPairRow.holds Try.pinned (OpenSpec.ofChange fnExactWordOfPairWrong)

/- THE SECOND FORM. 'bulk': how many values and letters a reading holds, each counted each time it is reached (what is shared counts as often as it is met; a slice's spare places count too). A statement '..UptoSaid' is the law's where the arguments, and the package variables that the reading takes, are together of bulk at most 1048576: NARROWER than '..Said'. Prove '..Said' where nothing that the law and all that it calls make is longer than what came in: it says more and counts as full. Else prove '..UptoSaid'. A law counts once. -/
mutual
def uptoBulk {H : Type} : DataW H → Nat
  | .lit (.string bytes) => bytes.length + 1
  | .lit _ => 1
  | .nil => 1
  | .ptr d => uptoBulk d + 1
  | .slice elems spare => uptoBulkAll elems + uptoBulkAll spare + 1
  | .agg parts => uptoBulkAll parts + 1
  | .iface _ d => uptoBulk d + 1
  | .map entries => uptoBulkEntries entries + 1
  | .held _ => 1
def uptoBulkAll {H : Type} : List (DataW H) → Nat
  | [] => 0
  | d :: r => uptoBulk d + uptoBulkAll r
def uptoBulkEntries {H : Type} : List (Lit × DataW H) → Nat
  | [] => 0
  | x :: r => uptoBulkEntry x + uptoBulkEntries r
def uptoBulkEntry {H : Type} : Lit × DataW H → Nat
  | (.string bytes, d) => bytes.length + uptoBulk d + 1
  | (_, d) => uptoBulk d + 1
 end
def uptoSmall : (H : Type) → List (DataW H) → Bool := fun _ ds => decide (uptoBulkAll ds ≤ 1048576)
def OpenSpec.upto (s : _root_.Go.ChangeSpec) : _root_.Go.OpenSpec := { _root_.Go.OpenSpec.ofChange s with cond := some uptoSmall }

/-- 'laws.FnExactProductPair', WHERE WHAT IT READS IS OF BULK AT MOST 1048576: true; the input reads as it did. -/
def fnExactProductPairUptoRow : OpenClaim := { program := "ytnnbjnmkkfakdaa", sum := "a2cbbcb3c83184de63b69b0f037ba4ce1499046e399354e756680e22eceed2ad", func := "loop.example/g01161/laws.FnExactProductPair", spec := "fnExactProductPair", unfollowed := true, recurses := true, apart := false, narrowed := true }
def FnExactProductPairUptoSaid : Prop := fnExactProductPairUptoRow.holds Try.pinned (OpenSpec.upto fnExactProductPairSpec)

/-- 'laws.FnExactPowerPair', WHERE WHAT IT READS IS OF BULK AT MOST 1048576: true; the input reads as it did. -/
def fnExactPowerPairUptoRow : OpenClaim := { program := "ytnnbjnmkkfakdaa", sum := "a2cbbcb3c83184de63b69b0f037ba4ce1499046e399354e756680e22eceed2ad", func := "loop.example/g01161/laws.FnExactPowerPair", spec := "fnExactPowerPair", unfollowed := true, recurses := true, apart := false, narrowed := true }
def FnExactPowerPairUptoSaid : Prop := fnExactPowerPairUptoRow.holds Try.pinned (OpenSpec.upto fnExactPowerPairSpec)

/-- 'laws.FnExactCommutatorPair', WHERE WHAT IT READS IS OF BULK AT MOST 1048576: true; the input reads as it did. -/
def fnExactCommutatorPairUptoRow : OpenClaim := { program := "ytnnbjnmkkfakdaa", sum := "a2cbbcb3c83184de63b69b0f037ba4ce1499046e399354e756680e22eceed2ad", func := "loop.example/g01161/laws.FnExactCommutatorPair", spec := "fnExactCommutatorPair", unfollowed := true, recurses := true, apart := false, narrowed := true }
def FnExactCommutatorPairUptoSaid : Prop := fnExactCommutatorPairUptoRow.holds Try.pinned (OpenSpec.upto fnExactCommutatorPairSpec)

/-- 'laws.FnExactDoCommute', WHERE WHAT IT READS IS OF BULK AT MOST 1048576: true; the input reads as it did. -/
def fnExactDoCommuteUptoRow : OpenClaim := { program := "ytnnbjnmkkfakdaa", sum := "a2cbbcb3c83184de63b69b0f037ba4ce1499046e399354e756680e22eceed2ad", func := "loop.example/g01161/laws.FnExactDoCommute", spec := "fnExactDoCommute", unfollowed := true, recurses := true, apart := false, narrowed := true }
def FnExactDoCommuteUptoSaid : Prop := fnExactDoCommuteUptoRow.holds Try.pinned (OpenSpec.upto fnExactDoCommuteSpec)

/-- 'laws.FnExactPairOfForest', WHERE WHAT IT READS IS OF BULK AT MOST 1048576: true; the input reads as it did. -/
def fnExactPairOfForestUptoRow : OpenClaim := { program := "ytnnbjnmkkfakdaa", sum := "a2cbbcb3c83184de63b69b0f037ba4ce1499046e399354e756680e22eceed2ad", func := "loop.example/g01161/laws.FnExactPairOfForest", spec := "fnExactPairOfForest", unfollowed := true, recurses := true, apart := false, narrowed := true }
def FnExactPairOfForestUptoSaid : Prop := fnExactPairOfForestUptoRow.holds Try.pinned (OpenSpec.upto fnExactPairOfForestSpec)

/-- 'laws.FnExactPairOfForests', WHERE WHAT IT READS IS OF BULK AT MOST 1048576: true; the input reads as it did. -/
def fnExactPairOfForestsUptoRow : OpenClaim := { program := "ytnnbjnmkkfakdaa", sum := "a2cbbcb3c83184de63b69b0f037ba4ce1499046e399354e756680e22eceed2ad", func := "loop.example/g01161/laws.FnExactPairOfForests", spec := "fnExactPairOfForests", unfollowed := true, recurses := true, apart := false, narrowed := true }
def FnExactPairOfForestsUptoSaid : Prop := fnExactPairOfForestsUptoRow.holds Try.pinned (OpenSpec.upto fnExactPairOfForestsSpec)

/-- 'laws.FnExactForestsOfPair', WHERE WHAT IT READS IS OF BULK AT MOST 1048576: true; the input reads as it did. -/
def fnExactForestsOfPairUptoRow : OpenClaim := { program := "ytnnbjnmkkfakdaa", sum := "a2cbbcb3c83184de63b69b0f037ba4ce1499046e399354e756680e22eceed2ad", func := "loop.example/g01161/laws.FnExactForestsOfPair", spec := "fnExactForestsOfPair", recurses := true, apart := false, narrowed := true }
def FnExactForestsOfPairUptoSaid : Prop := fnExactForestsOfPairUptoRow.holds Try.pinned (OpenSpec.upto fnExactForestsOfPairSpec)

/-- 'laws.FnExactPairOfWord', WHERE WHAT IT READS IS OF BULK AT MOST 1048576: true; the input reads as it did. -/
def fnExactPairOfWordUptoRow : OpenClaim := { program := "ytnnbjnmkkfakdaa", sum := "a2cbbcb3c83184de63b69b0f037ba4ce1499046e399354e756680e22eceed2ad", func := "loop.example/g01161/laws.FnExactPairOfWord", spec := "fnExactPairOfWord", unfollowed := true, recurses := true, apart := false, narrowed := true }
def FnExactPairOfWordUptoSaid : Prop := fnExactPairOfWordUptoRow.holds Try.pinned (OpenSpec.upto fnExactPairOfWordSpec)

/-- 'laws.FnExactLengthOf', WHERE WHAT IT READS IS OF BULK AT MOST 1048576: true; the input reads as it did. -/
def fnExactLengthOfUptoRow : OpenClaim := { program := "ytnnbjnmkkfakdaa", sum := "a2cbbcb3c83184de63b69b0f037ba4ce1499046e399354e756680e22eceed2ad", func := "loop.example/g01161/laws.FnExactLengthOf", spec := "fnExactLengthOf", unfollowed := true, recurses := true, apart := false, narrowed := true }
def FnExactLengthOfUptoSaid : Prop := fnExactLengthOfUptoRow.holds Try.pinned (OpenSpec.upto fnExactLengthOfSpec)

/-- 'laws.FnExactDistanceOf', WHERE WHAT IT READS IS OF BULK AT MOST 1048576: true; the input reads as it did. -/
def fnExactDistanceOfUptoRow : OpenClaim := { program := "ytnnbjnmkkfakdaa", sum := "a2cbbcb3c83184de63b69b0f037ba4ce1499046e399354e756680e22eceed2ad", func := "loop.example/g01161/laws.FnExactDistanceOf", spec := "fnExactDistanceOf", unfollowed := true, recurses := true, apart := false, narrowed := true }
def FnExactDistanceOfUptoSaid : Prop := fnExactDistanceOfUptoRow.holds Try.pinned (OpenSpec.upto fnExactDistanceOfSpec)

/-- 'laws.FnExactLengthOfWord', WHERE WHAT IT READS IS OF BULK AT MOST 1048576: true; the input reads as it did. -/
def fnExactLengthOfWordUptoRow : OpenClaim := { program := "ytnnbjnmkkfakdaa", sum := "a2cbbcb3c83184de63b69b0f037ba4ce1499046e399354e756680e22eceed2ad", func := "loop.example/g01161/laws.FnExactLengthOfWord", spec := "fnExactLengthOfWord", unfollowed := true, recurses := true, apart := false, narrowed := true }
def FnExactLengthOfWordUptoSaid : Prop := fnExactLengthOfWordUptoRow.holds Try.pinned (OpenSpec.upto fnExactLengthOfWordSpec)

/-- 'laws.FnExactWordOfPair', WHERE WHAT IT READS IS OF BULK AT MOST 1048576: true; the input reads as it did. -/
def fnExactWordOfPairUptoRow : OpenClaim := { program := "ytnnbjnmkkfakdaa", sum := "a2cbbcb3c83184de63b69b0f037ba4ce1499046e399354e756680e22eceed2ad", func := "loop.example/g01161/laws.FnExactWordOfPair", spec := "fnExactWordOfPair", recurses := true, apart := false, narrowed := true }
def FnExactWordOfPairUptoSaid : Prop := fnExactWordOfPairUptoRow.holds Try.pinned (OpenSpec.upto fnExactWordOfPairSpec)

end Rows
end Go.Proofs.Ytnnbjnmkkfakdaa
