/-
  No cell of these rows narrows 'for every input' (looked for: loops, veiled, ifaces, maps, wideKeys, modest, calm, conditions, laid).
  DERIVED. THE GIVEN ROWS OF THIS SEAT. 12 by the template 'for every input the law returns true; each argument reads behind the call as it read before'; 0 by the template 'total and deterministic' (their statements: YtmoodcnoncipiaaTotals.lean).
  GIVEN WITH THE SEED: the statements are not yours to turn. If you find one false, say at which input.
  Laid BY PROGRAM, IN A SANDBOX (cutbox-rows.mjs): the forced cells as the released guide's own fill.sh prints them over the translation fc8bbdbbc820f6fa… (all of the seat's roots in one cut). By AI agents, Wed Nov 11 2026. No macro, syntax, notation, axiom, sorry.
-/
import Derived.Test.YtmoodcnoncipiaaChecked
import GoSem.Claim
import GoSem.ClaimJoined
import GoSem.ClaimMapViews
import Derived.JoinedTies
import Derived.KernelRfl
namespace Go.Proofs.Ytmoodcnoncipiaa
/- THE CELL 'sum', in the pinned program and in every row, IS THE sha256 OF THE DUMP (.gsa) THAT YtmoodcnoncipiaaProg.lean LOADS. Nothing in Lean hashes anything: it is a label: what it is worth is what the hold of that sum in a sandbox is worth. -/
noncomputable def Try.pinned : Pinned := { name := "ytmoodcnoncipiaa", sum := "fc8bbdbbc820f6fad19d8a806bc02c8cb61bcdf09401adb1f2a1982365a466a5", checked := Try.checked }
namespace Rows
def none {H : Type} : Left H := { results := [], args := [] }

/-- 'laws.FnExactCommonForest': WHATEVER THE INPUT: true; the input reads as it did. -/
def fnExactCommonForestSpec : ChangeSpec := { name := "fnExactCommonForest", fn := fun _ => fun
  | [d1, d2] => { results := [.lit (.bool true)], args := [d1, d2] }
  | _ => none }
def fnExactCommonForestRow : OpenClaim := { program := "ytmoodcnoncipiaa", sum := "fc8bbdbbc820f6fad19d8a806bc02c8cb61bcdf09401adb1f2a1982365a466a5", func := "loop.example/g01161/laws.FnExactCommonForest", spec := "fnExactCommonForest", unfollowed := true, recurses := true, apart := false }
def FnExactCommonForestSaid : Prop := fnExactCommonForestRow.holds Try.pinned (OpenSpec.ofChange fnExactCommonForestSpec)

/-- ITS FALSE NEIGHBOUR: 'it returns false'. Refute it at one input. -/
def fnExactCommonForestWrong : ChangeSpec := { name := "fnExactCommonForest", fn := fun _ => fun
  | [d1, d2] => { results := [.lit (.bool false)], args := [d1, d2] }
  | _ => none }
def FnExactCommonForestWrongFalsely : Prop := fnExactCommonForestRow.holds Try.pinned (OpenSpec.ofChange fnExactCommonForestWrong)

/-- 'laws.FnExactSlopeAt': WHATEVER THE INPUT: true; the input reads as it did. -/
def fnExactSlopeAtSpec : ChangeSpec := { name := "fnExactSlopeAt", fn := fun _ => fun
  | [d1, d2] => { results := [.lit (.bool true)], args := [d1, d2] }
  | _ => none }
def fnExactSlopeAtRow : OpenClaim := { program := "ytmoodcnoncipiaa", sum := "fc8bbdbbc820f6fad19d8a806bc02c8cb61bcdf09401adb1f2a1982365a466a5", func := "loop.example/g01161/laws.FnExactSlopeAt", spec := "fnExactSlopeAt", recurses := true, apart := false }
def FnExactSlopeAtSaid : Prop := fnExactSlopeAtRow.holds Try.pinned (OpenSpec.ofChange fnExactSlopeAtSpec)

/-- ITS FALSE NEIGHBOUR: 'it returns false'. Refute it at one input. -/
def fnExactSlopeAtWrong : ChangeSpec := { name := "fnExactSlopeAt", fn := fun _ => fun
  | [d1, d2] => { results := [.lit (.bool false)], args := [d1, d2] }
  | _ => none }
def FnExactSlopeAtWrongFalsely : Prop := fnExactSlopeAtRow.holds Try.pinned (OpenSpec.ofChange fnExactSlopeAtWrong)

/-- 'laws.FnExactStackForests': WHATEVER THE INPUT: true; the input reads as it did. -/
def fnExactStackForestsSpec : ChangeSpec := { name := "fnExactStackForests", fn := fun _ => fun
  | [d1, d2] => { results := [.lit (.bool true)], args := [d1, d2] }
  | _ => none }
def fnExactStackForestsRow : OpenClaim := { program := "ytmoodcnoncipiaa", sum := "fc8bbdbbc820f6fad19d8a806bc02c8cb61bcdf09401adb1f2a1982365a466a5", func := "loop.example/g01161/laws.FnExactStackForests", spec := "fnExactStackForests", unfollowed := true, recurses := true, apart := false }
def FnExactStackForestsSaid : Prop := fnExactStackForestsRow.holds Try.pinned (OpenSpec.ofChange fnExactStackForestsSpec)

/-- ITS FALSE NEIGHBOUR: 'it returns false'. Refute it at one input. -/
def fnExactStackForestsWrong : ChangeSpec := { name := "fnExactStackForests", fn := fun _ => fun
  | [d1, d2] => { results := [.lit (.bool false)], args := [d1, d2] }
  | _ => none }
def FnExactStackForestsWrongFalsely : Prop := fnExactStackForestsRow.holds Try.pinned (OpenSpec.ofChange fnExactStackForestsWrong)

/-- 'laws.FnExactReduceBy': WHATEVER THE INPUT: true; the input reads as it did. -/
def fnExactReduceBySpec : ChangeSpec := { name := "fnExactReduceBy", fn := fun _ => fun
  | [d1, d2] => { results := [.lit (.bool true)], args := [d1, d2] }
  | _ => none }
def fnExactReduceByRow : OpenClaim := { program := "ytmoodcnoncipiaa", sum := "fc8bbdbbc820f6fad19d8a806bc02c8cb61bcdf09401adb1f2a1982365a466a5", func := "loop.example/g01161/laws.FnExactReduceBy", spec := "fnExactReduceBy", recurses := true, apart := false }
def FnExactReduceBySaid : Prop := fnExactReduceByRow.holds Try.pinned (OpenSpec.ofChange fnExactReduceBySpec)

/-- ITS FALSE NEIGHBOUR: 'it returns false'. Refute it at one input. -/
def fnExactReduceByWrong : ChangeSpec := { name := "fnExactReduceBy", fn := fun _ => fun
  | [d1, d2] => { results := [.lit (.bool false)], args := [d1, d2] }
  | _ => none }
def FnExactReduceByWrongFalsely : Prop := fnExactReduceByRow.holds Try.pinned (OpenSpec.ofChange fnExactReduceByWrong)

/-- 'laws.FnExactJoinForests': WHATEVER THE INPUT: true; the input reads as it did. -/
def fnExactJoinForestsSpec : ChangeSpec := { name := "fnExactJoinForests", fn := fun _ => fun
  | [d1, d2] => { results := [.lit (.bool true)], args := [d1, d2] }
  | _ => none }
def fnExactJoinForestsRow : OpenClaim := { program := "ytmoodcnoncipiaa", sum := "fc8bbdbbc820f6fad19d8a806bc02c8cb61bcdf09401adb1f2a1982365a466a5", func := "loop.example/g01161/laws.FnExactJoinForests", spec := "fnExactJoinForests", unfollowed := true, recurses := true, apart := false }
def FnExactJoinForestsSaid : Prop := fnExactJoinForestsRow.holds Try.pinned (OpenSpec.ofChange fnExactJoinForestsSpec)

/-- ITS FALSE NEIGHBOUR: 'it returns false'. Refute it at one input. -/
def fnExactJoinForestsWrong : ChangeSpec := { name := "fnExactJoinForests", fn := fun _ => fun
  | [d1, d2] => { results := [.lit (.bool false)], args := [d1, d2] }
  | _ => none }
def FnExactJoinForestsWrongFalsely : Prop := fnExactJoinForestsRow.holds Try.pinned (OpenSpec.ofChange fnExactJoinForestsWrong)

/-- 'laws.FnExactBreakValues': WHATEVER THE INPUT: true; the input reads as it did. -/
def fnExactBreakValuesSpec : ChangeSpec := { name := "fnExactBreakValues", fn := fun _ => fun
  | [d] => { results := [.lit (.bool true)], args := [d] }
  | _ => none }
def fnExactBreakValuesRow : OpenClaim := { program := "ytmoodcnoncipiaa", sum := "fc8bbdbbc820f6fad19d8a806bc02c8cb61bcdf09401adb1f2a1982365a466a5", func := "loop.example/g01161/laws.FnExactBreakValues", spec := "fnExactBreakValues", recurses := true, apart := false }
def FnExactBreakValuesSaid : Prop := fnExactBreakValuesRow.holds Try.pinned (OpenSpec.ofChange fnExactBreakValuesSpec)

/-- ITS FALSE NEIGHBOUR: 'it returns false'. Refute it at one input. -/
def fnExactBreakValuesWrong : ChangeSpec := { name := "fnExactBreakValues", fn := fun _ => fun
  | [d] => { results := [.lit (.bool false)], args := [d] }
  | _ => none }
def FnExactBreakValuesWrongFalsely : Prop := fnExactBreakValuesRow.holds Try.pinned (OpenSpec.ofChange fnExactBreakValuesWrong)

/-- 'laws.FnExactBreaksOf': WHATEVER THE INPUT: true; the input reads as it did. -/
def fnExactBreaksOfSpec : ChangeSpec := { name := "fnExactBreaksOf", fn := fun _ => fun
  | [d] => { results := [.lit (.bool true)], args := [d] }
  | _ => none }
def fnExactBreaksOfRow : OpenClaim := { program := "ytmoodcnoncipiaa", sum := "fc8bbdbbc820f6fad19d8a806bc02c8cb61bcdf09401adb1f2a1982365a466a5", func := "loop.example/g01161/laws.FnExactBreaksOf", spec := "fnExactBreaksOf", recurses := true, apart := false }
def FnExactBreaksOfSaid : Prop := fnExactBreaksOfRow.holds Try.pinned (OpenSpec.ofChange fnExactBreaksOfSpec)

/-- ITS FALSE NEIGHBOUR: 'it returns false'. Refute it at one input. -/
def fnExactBreaksOfWrong : ChangeSpec := { name := "fnExactBreaksOf", fn := fun _ => fun
  | [d] => { results := [.lit (.bool false)], args := [d] }
  | _ => none }
def FnExactBreaksOfWrongFalsely : Prop := fnExactBreaksOfRow.holds Try.pinned (OpenSpec.ofChange fnExactBreaksOfWrong)

/-- 'laws.FnExactSlopesBeside': WHATEVER THE INPUT: true; the input reads as it did. -/
def fnExactSlopesBesideSpec : ChangeSpec := { name := "fnExactSlopesBeside", fn := fun _ => fun
  | [d1, d2] => { results := [.lit (.bool true)], args := [d1, d2] }
  | _ => none }
def fnExactSlopesBesideRow : OpenClaim := { program := "ytmoodcnoncipiaa", sum := "fc8bbdbbc820f6fad19d8a806bc02c8cb61bcdf09401adb1f2a1982365a466a5", func := "loop.example/g01161/laws.FnExactSlopesBeside", spec := "fnExactSlopesBeside", recurses := true, apart := false }
def FnExactSlopesBesideSaid : Prop := fnExactSlopesBesideRow.holds Try.pinned (OpenSpec.ofChange fnExactSlopesBesideSpec)

/-- ITS FALSE NEIGHBOUR: 'it returns false'. Refute it at one input. -/
def fnExactSlopesBesideWrong : ChangeSpec := { name := "fnExactSlopesBeside", fn := fun _ => fun
  | [d1, d2] => { results := [.lit (.bool false)], args := [d1, d2] }
  | _ => none }
def FnExactSlopesBesideWrongFalsely : Prop := fnExactSlopesBesideRow.holds Try.pinned (OpenSpec.ofChange fnExactSlopesBesideWrong)

/-- 'laws.FnExactLeftQuotient': WHATEVER THE INPUT: true; the input reads as it did. -/
def fnExactLeftQuotientSpec : ChangeSpec := { name := "fnExactLeftQuotient", fn := fun _ => fun
  | [d1, d2] => { results := [.lit (.bool true)], args := [d1, d2] }
  | _ => none }
def fnExactLeftQuotientRow : OpenClaim := { program := "ytmoodcnoncipiaa", sum := "fc8bbdbbc820f6fad19d8a806bc02c8cb61bcdf09401adb1f2a1982365a466a5", func := "loop.example/g01161/laws.FnExactLeftQuotient", spec := "fnExactLeftQuotient", recurses := true, apart := false }
def FnExactLeftQuotientSaid : Prop := fnExactLeftQuotientRow.holds Try.pinned (OpenSpec.ofChange fnExactLeftQuotientSpec)

/-- ITS FALSE NEIGHBOUR: 'it returns false'. Refute it at one input. -/
def fnExactLeftQuotientWrong : ChangeSpec := { name := "fnExactLeftQuotient", fn := fun _ => fun
  | [d1, d2] => { results := [.lit (.bool false)], args := [d1, d2] }
  | _ => none }
def FnExactLeftQuotientWrongFalsely : Prop := fnExactLeftQuotientRow.holds Try.pinned (OpenSpec.ofChange fnExactLeftQuotientWrong)

/-- 'laws.FnExactFixedFractions': WHATEVER THE INPUT: true; the input reads as it did. -/
def fnExactFixedFractionsSpec : ChangeSpec := { name := "fnExactFixedFractions", fn := fun _ => fun
  | [d] => { results := [.lit (.bool true)], args := [d] }
  | _ => none }
def fnExactFixedFractionsRow : OpenClaim := { program := "ytmoodcnoncipiaa", sum := "fc8bbdbbc820f6fad19d8a806bc02c8cb61bcdf09401adb1f2a1982365a466a5", func := "loop.example/g01161/laws.FnExactFixedFractions", spec := "fnExactFixedFractions", recurses := true, apart := false }
def FnExactFixedFractionsSaid : Prop := fnExactFixedFractionsRow.holds Try.pinned (OpenSpec.ofChange fnExactFixedFractionsSpec)

/-- ITS FALSE NEIGHBOUR: 'it returns false'. Refute it at one input. -/
def fnExactFixedFractionsWrong : ChangeSpec := { name := "fnExactFixedFractions", fn := fun _ => fun
  | [d] => { results := [.lit (.bool false)], args := [d] }
  | _ => none }
def FnExactFixedFractionsWrongFalsely : Prop := fnExactFixedFractionsRow.holds Try.pinned (OpenSpec.ofChange fnExactFixedFractionsWrong)

/-- 'laws.FnExactWordOfForest': WHATEVER THE INPUT: true; the input reads as it did. -/
def fnExactWordOfForestSpec : ChangeSpec := { name := "fnExactWordOfForest", fn := fun _ => fun
  | [d] => { results := [.lit (.bool true)], args := [d] }
  | _ => none }
def fnExactWordOfForestRow : OpenClaim := { program := "ytmoodcnoncipiaa", sum := "fc8bbdbbc820f6fad19d8a806bc02c8cb61bcdf09401adb1f2a1982365a466a5", func := "loop.example/g01161/laws.FnExactWordOfForest", spec := "fnExactWordOfForest", recurses := true, apart := false }
def FnExactWordOfForestSaid : Prop := fnExactWordOfForestRow.holds Try.pinned (OpenSpec.ofChange fnExactWordOfForestSpec)

/-- ITS FALSE NEIGHBOUR: 'it returns false'. Refute it at one input. -/
def fnExactWordOfForestWrong : ChangeSpec := { name := "fnExactWordOfForest", fn := fun _ => fun
  | [d] => { results := [.lit (.bool false)], args := [d] }
  | _ => none }
def FnExactWordOfForestWrongFalsely : Prop := fnExactWordOfForestRow.holds Try.pinned (OpenSpec.ofChange fnExactWordOfForestWrong)

/-- 'laws.FnExactForestOfWord': WHATEVER THE INPUT: true; the input reads as it did. -/
def fnExactForestOfWordSpec : ChangeSpec := { name := "fnExactForestOfWord", fn := fun _ => fun
  | [d] => { results := [.lit (.bool true)], args := [d] }
  | _ => none }
def fnExactForestOfWordRow : OpenClaim := { program := "ytmoodcnoncipiaa", sum := "fc8bbdbbc820f6fad19d8a806bc02c8cb61bcdf09401adb1f2a1982365a466a5", func := "loop.example/g01161/laws.FnExactForestOfWord", spec := "fnExactForestOfWord", unfollowed := true, recurses := true, apart := false }
def FnExactForestOfWordSaid : Prop := fnExactForestOfWordRow.holds Try.pinned (OpenSpec.ofChange fnExactForestOfWordSpec)

/-- ITS FALSE NEIGHBOUR: 'it returns false'. Refute it at one input. -/
def fnExactForestOfWordWrong : ChangeSpec := { name := "fnExactForestOfWord", fn := fun _ => fun
  | [d] => { results := [.lit (.bool false)], args := [d] }
  | _ => none }
def FnExactForestOfWordWrongFalsely : Prop := fnExactForestOfWordRow.holds Try.pinned (OpenSpec.ofChange fnExactForestOfWordWrong)

/- THE SECOND FORM. 'bulk': how many values and letters a reading holds, each counted each time it is reached (what is shared counts as often as it is met; a slice's spare places count too). A statement '..UptoSaid' is the law's where the arguments, and the package variables that the reading takes, are together of bulk at most 1048576: NARROWER than '..Said'. Prove '..Said' where nothing that the law and all that it calls make is longer than what came in: it says more and counts as full. Else prove '..UptoSaid'. A law counts once. -/
mutual
def uptoBulk {H : Type} : DataW H → Nat
  | .lit (.string bytes) => bytes.length + 1
  | .lit _ => 1
  | .nil => 1
  | .ptr d => uptoBulk d + 1
  | .slice elems spare => uptoBulkAll elems + uptoBulkAll spare + 1
  | .agg parts => uptoBulkAll parts + 1
  | .iface _ d => uptoBulk d + 1
  | .map entries => uptoBulkEntries entries + 1
  | .held _ => 1
def uptoBulkAll {H : Type} : List (DataW H) → Nat
  | [] => 0
  | d :: r => uptoBulk d + uptoBulkAll r
def uptoBulkEntries {H : Type} : List (Lit × DataW H) → Nat
  | [] => 0
  | x :: r => uptoBulkEntry x + uptoBulkEntries r
def uptoBulkEntry {H : Type} : Lit × DataW H → Nat
  | (.string bytes, d) => bytes.length + uptoBulk d + 1
  | (_, d) => uptoBulk d + 1
 end
def uptoSmall : (H : Type) → List (DataW H) → Bool := fun _ ds => decide (uptoBulkAll ds ≤ 1048576)
def OpenSpec.upto (s : _root_.Go.ChangeSpec) : _root_.Go.OpenSpec := { _root_.Go.OpenSpec.ofChange s with cond := some uptoSmall }

/-- 'laws.FnExactCommonForest', WHERE WHAT IT READS IS OF BULK AT MOST 1048576: true; the input reads as it did. -/
def fnExactCommonForestUptoRow : OpenClaim := { program := "ytmoodcnoncipiaa", sum := "fc8bbdbbc820f6fad19d8a806bc02c8cb61bcdf09401adb1f2a1982365a466a5", func := "loop.example/g01161/laws.FnExactCommonForest", spec := "fnExactCommonForest", unfollowed := true, recurses := true, apart := false, narrowed := true }
def FnExactCommonForestUptoSaid : Prop := fnExactCommonForestUptoRow.holds Try.pinned (OpenSpec.upto fnExactCommonForestSpec)

/-- 'laws.FnExactSlopeAt', WHERE WHAT IT READS IS OF BULK AT MOST 1048576: true; the input reads as it did. -/
def fnExactSlopeAtUptoRow : OpenClaim := { program := "ytmoodcnoncipiaa", sum := "fc8bbdbbc820f6fad19d8a806bc02c8cb61bcdf09401adb1f2a1982365a466a5", func := "loop.example/g01161/laws.FnExactSlopeAt", spec := "fnExactSlopeAt", recurses := true, apart := false, narrowed := true }
def FnExactSlopeAtUptoSaid : Prop := fnExactSlopeAtUptoRow.holds Try.pinned (OpenSpec.upto fnExactSlopeAtSpec)

/-- 'laws.FnExactStackForests', WHERE WHAT IT READS IS OF BULK AT MOST 1048576: true; the input reads as it did. -/
def fnExactStackForestsUptoRow : OpenClaim := { program := "ytmoodcnoncipiaa", sum := "fc8bbdbbc820f6fad19d8a806bc02c8cb61bcdf09401adb1f2a1982365a466a5", func := "loop.example/g01161/laws.FnExactStackForests", spec := "fnExactStackForests", unfollowed := true, recurses := true, apart := false, narrowed := true }
def FnExactStackForestsUptoSaid : Prop := fnExactStackForestsUptoRow.holds Try.pinned (OpenSpec.upto fnExactStackForestsSpec)

/-- 'laws.FnExactReduceBy', WHERE WHAT IT READS IS OF BULK AT MOST 1048576: true; the input reads as it did. -/
def fnExactReduceByUptoRow : OpenClaim := { program := "ytmoodcnoncipiaa", sum := "fc8bbdbbc820f6fad19d8a806bc02c8cb61bcdf09401adb1f2a1982365a466a5", func := "loop.example/g01161/laws.FnExactReduceBy", spec := "fnExactReduceBy", recurses := true, apart := false, narrowed := true }
def FnExactReduceByUptoSaid : Prop := fnExactReduceByUptoRow.holds Try.pinned (OpenSpec.upto fnExactReduceBySpec)

/-- 'laws.FnExactJoinForests', WHERE WHAT IT READS IS OF BULK AT MOST 1048576: true; the input reads as it did. -/
def fnExactJoinForestsUptoRow : OpenClaim := { program := "ytmoodcnoncipiaa", sum := "fc8bbdbbc820f6fad19d8a806bc02c8cb61bcdf09401adb1f2a1982365a466a5", func := "loop.example/g01161/laws.FnExactJoinForests", spec := "fnExactJoinForests", unfollowed := true, recurses := true, apart := false, narrowed := true }
def FnExactJoinForestsUptoSaid : Prop := fnExactJoinForestsUptoRow.holds Try.pinned (OpenSpec.upto fnExactJoinForestsSpec)

/-- 'laws.FnExactBreakValues', WHERE WHAT IT READS IS OF BULK AT MOST 1048576: true; the input reads as it did. -/
def fnExactBreakValuesUptoRow : OpenClaim := { program := "ytmoodcnoncipiaa", sum := "fc8bbdbbc820f6fad19d8a806bc02c8cb61bcdf09401adb1f2a1982365a466a5", func := "loop.example/g01161/laws.FnExactBreakValues", spec := "fnExactBreakValues", recurses := true, apart := false, narrowed := true }
def FnExactBreakValuesUptoSaid : Prop := fnExactBreakValuesUptoRow.holds Try.pinned (OpenSpec.upto fnExactBreakValuesSpec)

/-- 'laws.FnExactBreaksOf', WHERE WHAT IT READS IS OF BULK AT MOST 1048576: true; the input reads as it did. -/
def fnExactBreaksOfUptoRow : OpenClaim := { program := "ytmoodcnoncipiaa", sum := "fc8bbdbbc820f6fad19d8a806bc02c8cb61bcdf09401adb1f2a1982365a466a5", func := "loop.example/g01161/laws.FnExactBreaksOf", spec := "fnExactBreaksOf", recurses := true, apart := false, narrowed := true }
def FnExactBreaksOfUptoSaid : Prop := fnExactBreaksOfUptoRow.holds Try.pinned (OpenSpec.upto fnExactBreaksOfSpec)

/-- 'laws.FnExactSlopesBeside', WHERE WHAT IT READS IS OF BULK AT MOST 1048576: true; the input reads as it did. -/
def fnExactSlopesBesideUptoRow : OpenClaim := { program := "ytmoodcnoncipiaa", sum := "fc8bbdbbc820f6fad19d8a806bc02c8cb61bcdf09401adb1f2a1982365a466a5", func := "loop.example/g01161/laws.FnExactSlopesBeside", spec := "fnExactSlopesBeside", recurses := true, apart := false, narrowed := true }
def FnExactSlopesBesideUptoSaid : Prop := fnExactSlopesBesideUptoRow.holds Try.pinned (OpenSpec.upto fnExactSlopesBesideSpec)

/-- 'laws.FnExactLeftQuotient', WHERE WHAT IT READS IS OF BULK AT MOST 1048576: true; the input reads as it did. -/
def fnExactLeftQuotientUptoRow : OpenClaim := { program := "ytmoodcnoncipiaa", sum := "fc8bbdbbc820f6fad19d8a806bc02c8cb61bcdf09401adb1f2a1982365a466a5", func := "loop.example/g01161/laws.FnExactLeftQuotient", spec := "fnExactLeftQuotient", recurses := true, apart := false, narrowed := true }
def FnExactLeftQuotientUptoSaid : Prop := fnExactLeftQuotientUptoRow.holds Try.pinned (OpenSpec.upto fnExactLeftQuotientSpec)

/-- 'laws.FnExactFixedFractions', WHERE WHAT IT READS IS OF BULK AT MOST 1048576: true; the input reads as it did. -/
def fnExactFixedFractionsUptoRow : OpenClaim := { program := "ytmoodcnoncipiaa", sum := "fc8bbdbbc820f6fad19d8a806bc02c8cb61bcdf09401adb1f2a1982365a466a5", func := "loop.example/g01161/laws.FnExactFixedFractions", spec := "fnExactFixedFractions", recurses := true, apart := false, narrowed := true }
def FnExactFixedFractionsUptoSaid : Prop := fnExactFixedFractionsUptoRow.holds Try.pinned (OpenSpec.upto fnExactFixedFractionsSpec)

/-- 'laws.FnExactWordOfForest', WHERE WHAT IT READS IS OF BULK AT MOST 1048576: true; the input reads as it did. -/
def fnExactWordOfForestUptoRow : OpenClaim := { program := "ytmoodcnoncipiaa", sum := "fc8bbdbbc820f6fad19d8a806bc02c8cb61bcdf09401adb1f2a1982365a466a5", func := "loop.example/g01161/laws.FnExactWordOfForest", spec := "fnExactWordOfForest", recurses := true, apart := false, narrowed := true }
def FnExactWordOfForestUptoSaid : Prop := fnExactWordOfForestUptoRow.holds Try.pinned (OpenSpec.upto fnExactWordOfForestSpec)

/-- 'laws.FnExactForestOfWord', WHERE WHAT IT READS IS OF BULK AT MOST 1048576: true; the input reads as it did. -/
def fnExactForestOfWordUptoRow : OpenClaim := { program := "ytmoodcnoncipiaa", sum := "fc8bbdbbc820f6fad19d8a806bc02c8cb61bcdf09401adb1f2a1982365a466a5", func := "loop.example/g01161/laws.FnExactForestOfWord", spec := "fnExactForestOfWord", unfollowed := true, recurses := true, apart := false, narrowed := true }
def FnExactForestOfWordUptoSaid : Prop := fnExactForestOfWordUptoRow.holds Try.pinned (OpenSpec.upto fnExactForestOfWordSpec)

end Rows
end Go.Proofs.Ytmoodcnoncipiaa
