/-
  No cell of these rows narrows 'for every input' (looked for: loops, veiled, ifaces, maps, wideKeys, modest, calm, conditions, laid).
  DERIVED. THE GIVEN ROWS OF THIS SEAT. 10 by the template 'for every input the law returns true; each argument reads behind the call as it read before'; 0 by the template 'total and deterministic' (their statements: YtdfllkeekehplaaTotals.lean).
  GIVEN WITH THE SEED: the statements are not yours to turn. If you find one false, say at which input.
  Laid BY PROGRAM, IN A SANDBOX (cutbox-rows.mjs): the forced cells as the released guide's own fill.sh prints them over the translation e8ae2219c235665c… (all of the seat's roots in one cut). By AI agents, Wed Nov 11 2026. No macro, syntax, notation, axiom, sorry.
-/
import Derived.Test.YtdfllkeekehplaaChecked
import GoSem.Claim
import GoSem.ClaimJoined
import GoSem.ClaimMapViews
import Derived.JoinedTies
import Derived.KernelRfl
namespace Go.Proofs.Ytdfllkeekehplaa
/- THE CELL 'sum', in the pinned program and in every row, IS THE sha256 OF THE DUMP (.gsa) THAT YtdfllkeekehplaaProg.lean LOADS. Nothing in Lean hashes anything: it is a label: what it is worth is what the hold of that sum in a sandbox is worth. -/
noncomputable def Try.pinned : Pinned := { name := "ytdfllkeekehplaa", sum := "e8ae2219c235665cf1305bbf2e702b94aed7658309cac4f6b40583502d1cd57e", checked := Try.checked }
namespace Rows
def none {H : Type} : Left H := { results := [], args := [] }

/-- 'laws.FnTreesCounted': WHATEVER THE INPUT: true; the input reads as it did. -/
def fnTreesCountedSpec : ChangeSpec := { name := "fnTreesCounted", fn := fun _ => fun
  | [d1, d2] => { results := [.lit (.bool true)], args := [d1, d2] }
  | _ => none }
def fnTreesCountedRow : OpenClaim := { program := "ytdfllkeekehplaa", sum := "e8ae2219c235665cf1305bbf2e702b94aed7658309cac4f6b40583502d1cd57e", func := "loop.example/g01161/laws.FnTreesCounted", spec := "fnTreesCounted", recurses := true, apart := false }
def FnTreesCountedSaid : Prop := fnTreesCountedRow.holds Try.pinned (OpenSpec.ofChange fnTreesCountedSpec)

/-- ITS FALSE NEIGHBOUR: 'it returns false'. Refute it at one input. -/
def fnTreesCountedWrong : ChangeSpec := { name := "fnTreesCounted", fn := fun _ => fun
  | [d1, d2] => { results := [.lit (.bool false)], args := [d1, d2] }
  | _ => none }
def FnTreesCountedWrongFalsely : Prop := fnTreesCountedRow.holds Try.pinned (OpenSpec.ofChange fnTreesCountedWrong)

/-- 'laws.FnTreesJoined': WHATEVER THE INPUT: true; the input reads as it did. -/
def fnTreesJoinedSpec : ChangeSpec := { name := "fnTreesJoined", fn := fun _ => fun
  | [d1, d2] => { results := [.lit (.bool true)], args := [d1, d2] }
  | _ => none }
def fnTreesJoinedRow : OpenClaim := { program := "ytdfllkeekehplaa", sum := "e8ae2219c235665cf1305bbf2e702b94aed7658309cac4f6b40583502d1cd57e", func := "loop.example/g01161/laws.FnTreesJoined", spec := "fnTreesJoined", unfollowed := true, recurses := true, apart := false }
def FnTreesJoinedSaid : Prop := fnTreesJoinedRow.holds Try.pinned (OpenSpec.ofChange fnTreesJoinedSpec)

/-- ITS FALSE NEIGHBOUR: 'it returns false'. Refute it at one input. -/
def fnTreesJoinedWrong : ChangeSpec := { name := "fnTreesJoined", fn := fun _ => fun
  | [d1, d2] => { results := [.lit (.bool false)], args := [d1, d2] }
  | _ => none }
def FnTreesJoinedWrongFalsely : Prop := fnTreesJoinedRow.holds Try.pinned (OpenSpec.ofChange fnTreesJoinedWrong)

/-- 'laws.FnKindsOfCarets': WHATEVER THE INPUT: true; the input reads as it did. -/
def fnKindsOfCaretsSpec : ChangeSpec := { name := "fnKindsOfCarets", fn := fun _ => fun
  | [d1, d2] => { results := [.lit (.bool true)], args := [d1, d2] }
  | _ => none }
def fnKindsOfCaretsRow : OpenClaim := { program := "ytdfllkeekehplaa", sum := "e8ae2219c235665cf1305bbf2e702b94aed7658309cac4f6b40583502d1cd57e", func := "loop.example/g01161/laws.FnKindsOfCarets", spec := "fnKindsOfCarets", unfollowed := true, recurses := true, apart := false }
def FnKindsOfCaretsSaid : Prop := fnKindsOfCaretsRow.holds Try.pinned (OpenSpec.ofChange fnKindsOfCaretsSpec)

/-- ITS FALSE NEIGHBOUR: 'it returns false'. Refute it at one input. -/
def fnKindsOfCaretsWrong : ChangeSpec := { name := "fnKindsOfCarets", fn := fun _ => fun
  | [d1, d2] => { results := [.lit (.bool false)], args := [d1, d2] }
  | _ => none }
def FnKindsOfCaretsWrongFalsely : Prop := fnKindsOfCaretsRow.holds Try.pinned (OpenSpec.ofChange fnKindsOfCaretsWrong)

/-- 'laws.FnExponentsOfTrees': WHATEVER THE INPUT: true; the input reads as it did. -/
def fnExponentsOfTreesSpec : ChangeSpec := { name := "fnExponentsOfTrees", fn := fun _ => fun
  | [d1, d2] => { results := [.lit (.bool true)], args := [d1, d2] }
  | _ => none }
def fnExponentsOfTreesRow : OpenClaim := { program := "ytdfllkeekehplaa", sum := "e8ae2219c235665cf1305bbf2e702b94aed7658309cac4f6b40583502d1cd57e", func := "loop.example/g01161/laws.FnExponentsOfTrees", spec := "fnExponentsOfTrees", unfollowed := true, recurses := true, apart := false }
def FnExponentsOfTreesSaid : Prop := fnExponentsOfTreesRow.holds Try.pinned (OpenSpec.ofChange fnExponentsOfTreesSpec)

/-- ITS FALSE NEIGHBOUR: 'it returns false'. Refute it at one input. -/
def fnExponentsOfTreesWrong : ChangeSpec := { name := "fnExponentsOfTrees", fn := fun _ => fun
  | [d1, d2] => { results := [.lit (.bool false)], args := [d1, d2] }
  | _ => none }
def FnExponentsOfTreesWrongFalsely : Prop := fnExponentsOfTreesRow.holds Try.pinned (OpenSpec.ofChange fnExponentsOfTreesWrong)

/-- 'laws.FnTreesByAddresses': WHATEVER THE INPUT: true; the input reads as it did. -/
def fnTreesByAddressesSpec : ChangeSpec := { name := "fnTreesByAddresses", fn := fun _ => fun
  | [d1, d2] => { results := [.lit (.bool true)], args := [d1, d2] }
  | _ => none }
def fnTreesByAddressesRow : OpenClaim := { program := "ytdfllkeekehplaa", sum := "e8ae2219c235665cf1305bbf2e702b94aed7658309cac4f6b40583502d1cd57e", func := "loop.example/g01161/laws.FnTreesByAddresses", spec := "fnTreesByAddresses", unfollowed := true, recurses := true, apart := false }
def FnTreesByAddressesSaid : Prop := fnTreesByAddressesRow.holds Try.pinned (OpenSpec.ofChange fnTreesByAddressesSpec)

/-- ITS FALSE NEIGHBOUR: 'it returns false'. Refute it at one input. -/
def fnTreesByAddressesWrong : ChangeSpec := { name := "fnTreesByAddresses", fn := fun _ => fun
  | [d1, d2] => { results := [.lit (.bool false)], args := [d1, d2] }
  | _ => none }
def FnTreesByAddressesWrongFalsely : Prop := fnTreesByAddressesRow.holds Try.pinned (OpenSpec.ofChange fnTreesByAddressesWrong)

/-- 'laws.FnPairsMultiply': WHATEVER THE INPUT: true; the input reads as it did. -/
def fnPairsMultiplySpec : ChangeSpec := { name := "fnPairsMultiply", fn := fun _ => fun
  | [d1, d2] => { results := [.lit (.bool true)], args := [d1, d2] }
  | _ => none }
def fnPairsMultiplyRow : OpenClaim := { program := "ytdfllkeekehplaa", sum := "e8ae2219c235665cf1305bbf2e702b94aed7658309cac4f6b40583502d1cd57e", func := "loop.example/g01161/laws.FnPairsMultiply", spec := "fnPairsMultiply", unfollowed := true, recurses := true, apart := false }
def FnPairsMultiplySaid : Prop := fnPairsMultiplyRow.holds Try.pinned (OpenSpec.ofChange fnPairsMultiplySpec)

/-- ITS FALSE NEIGHBOUR: 'it returns false'. Refute it at one input. -/
def fnPairsMultiplyWrong : ChangeSpec := { name := "fnPairsMultiply", fn := fun _ => fun
  | [d1, d2] => { results := [.lit (.bool false)], args := [d1, d2] }
  | _ => none }
def FnPairsMultiplyWrongFalsely : Prop := fnPairsMultiplyRow.holds Try.pinned (OpenSpec.ofChange fnPairsMultiplyWrong)

/-- 'laws.FnForestsStacked': WHATEVER THE INPUT: true; the input reads as it did. -/
def fnForestsStackedSpec : ChangeSpec := { name := "fnForestsStacked", fn := fun _ => fun
  | [d1, d2] => { results := [.lit (.bool true)], args := [d1, d2] }
  | _ => none }
def fnForestsStackedRow : OpenClaim := { program := "ytdfllkeekehplaa", sum := "e8ae2219c235665cf1305bbf2e702b94aed7658309cac4f6b40583502d1cd57e", func := "loop.example/g01161/laws.FnForestsStacked", spec := "fnForestsStacked", unfollowed := true, recurses := true, apart := false }
def FnForestsStackedSaid : Prop := fnForestsStackedRow.holds Try.pinned (OpenSpec.ofChange fnForestsStackedSpec)

/-- ITS FALSE NEIGHBOUR: 'it returns false'. Refute it at one input. -/
def fnForestsStackedWrong : ChangeSpec := { name := "fnForestsStacked", fn := fun _ => fun
  | [d1, d2] => { results := [.lit (.bool false)], args := [d1, d2] }
  | _ => none }
def FnForestsStackedWrongFalsely : Prop := fnForestsStackedRow.holds Try.pinned (OpenSpec.ofChange fnForestsStackedWrong)

/-- 'laws.FnRulesSortWords': WHATEVER THE INPUT: true; the input reads as it did. -/
def fnRulesSortWordsSpec : ChangeSpec := { name := "fnRulesSortWords", fn := fun _ => fun
  | [d1, d2] => { results := [.lit (.bool true)], args := [d1, d2] }
  | _ => none }
def fnRulesSortWordsRow : OpenClaim := { program := "ytdfllkeekehplaa", sum := "e8ae2219c235665cf1305bbf2e702b94aed7658309cac4f6b40583502d1cd57e", func := "loop.example/g01161/laws.FnRulesSortWords", spec := "fnRulesSortWords", unfollowed := true, recurses := true, apart := false }
def FnRulesSortWordsSaid : Prop := fnRulesSortWordsRow.holds Try.pinned (OpenSpec.ofChange fnRulesSortWordsSpec)

/-- ITS FALSE NEIGHBOUR: 'it returns false'. Refute it at one input. -/
def fnRulesSortWordsWrong : ChangeSpec := { name := "fnRulesSortWords", fn := fun _ => fun
  | [d1, d2] => { results := [.lit (.bool false)], args := [d1, d2] }
  | _ => none }
def FnRulesSortWordsWrongFalsely : Prop := fnRulesSortWordsRow.holds Try.pinned (OpenSpec.ofChange fnRulesSortWordsWrong)

/-- 'laws.FnReducedAreUnique': WHATEVER THE INPUT: true; the input reads as it did. -/
def fnReducedAreUniqueSpec : ChangeSpec := { name := "fnReducedAreUnique", fn := fun _ => fun
  | [d1, d2] => { results := [.lit (.bool true)], args := [d1, d2] }
  | _ => none }
def fnReducedAreUniqueRow : OpenClaim := { program := "ytdfllkeekehplaa", sum := "e8ae2219c235665cf1305bbf2e702b94aed7658309cac4f6b40583502d1cd57e", func := "loop.example/g01161/laws.FnReducedAreUnique", spec := "fnReducedAreUnique", inPlace := ["internal/bytealg.IndexByteString", "internal/bytealg.IndexString"], unfollowed := true, recurses := true, named := ["internal/bytealg.MaxLen"], apart := false }
def FnReducedAreUniqueSaid : Prop := fnReducedAreUniqueRow.holds Try.pinned (OpenSpec.ofChange fnReducedAreUniqueSpec)

/-- ITS FALSE NEIGHBOUR: 'it returns false'. Refute it at one input. -/
def fnReducedAreUniqueWrong : ChangeSpec := { name := "fnReducedAreUnique", fn := fun _ => fun
  | [d1, d2] => { results := [.lit (.bool false)], args := [d1, d2] }
  | _ => none }
def FnReducedAreUniqueWrongFalsely : Prop := fnReducedAreUniqueRow.holds Try.pinned (OpenSpec.ofChange fnReducedAreUniqueWrong)

/-- 'laws.FnApartCommute': WHATEVER THE INPUT: true; the input reads as it did. -/
def fnApartCommuteSpec : ChangeSpec := { name := "fnApartCommute", fn := fun _ => fun
  | [d1, d2] => { results := [.lit (.bool true)], args := [d1, d2] }
  | _ => none }
def fnApartCommuteRow : OpenClaim := { program := "ytdfllkeekehplaa", sum := "e8ae2219c235665cf1305bbf2e702b94aed7658309cac4f6b40583502d1cd57e", func := "loop.example/g01161/laws.FnApartCommute", spec := "fnApartCommute", unfollowed := true, recurses := true, apart := false }
def FnApartCommuteSaid : Prop := fnApartCommuteRow.holds Try.pinned (OpenSpec.ofChange fnApartCommuteSpec)

/-- ITS FALSE NEIGHBOUR: 'it returns false'. Refute it at one input. -/
def fnApartCommuteWrong : ChangeSpec := { name := "fnApartCommute", fn := fun _ => fun
  | [d1, d2] => { results := [.lit (.bool false)], args := [d1, d2] }
  | _ => none }
def FnApartCommuteWrongFalsely : Prop := fnApartCommuteRow.holds Try.pinned (OpenSpec.ofChange fnApartCommuteWrong)

/- THE SECOND FORM. 'bulk': how many values and letters a reading holds, each counted each time it is reached (what is shared counts as often as it is met; a slice's spare places count too). A statement '..UptoSaid' is the law's where the arguments, and the package variables that the reading takes, are together of bulk at most 1048576: NARROWER than '..Said'. Prove '..Said' where nothing that the law and all that it calls make is longer than what came in: it says more and counts as full. Else prove '..UptoSaid'. A law counts once. -/
mutual
def uptoBulk {H : Type} : DataW H → Nat
  | .lit (.string bytes) => bytes.length + 1
  | .lit _ => 1
  | .nil => 1
  | .ptr d => uptoBulk d + 1
  | .slice elems spare => uptoBulkAll elems + uptoBulkAll spare + 1
  | .agg parts => uptoBulkAll parts + 1
  | .iface _ d => uptoBulk d + 1
  | .map entries => uptoBulkEntries entries + 1
  | .held _ => 1
def uptoBulkAll {H : Type} : List (DataW H) → Nat
  | [] => 0
  | d :: r => uptoBulk d + uptoBulkAll r
def uptoBulkEntries {H : Type} : List (Lit × DataW H) → Nat
  | [] => 0
  | x :: r => uptoBulkEntry x + uptoBulkEntries r
def uptoBulkEntry {H : Type} : Lit × DataW H → Nat
  | (.string bytes, d) => bytes.length + uptoBulk d + 1
  | (_, d) => uptoBulk d + 1
 end
def uptoSmall : (H : Type) → List (DataW H) → Bool := fun _ ds => decide (uptoBulkAll ds ≤ 1048576)
def OpenSpec.upto (s : _root_.Go.ChangeSpec) : _root_.Go.OpenSpec := { _root_.Go.OpenSpec.ofChange s with cond := some uptoSmall }

/-- 'laws.FnTreesCounted', WHERE WHAT IT READS IS OF BULK AT MOST 1048576: true; the input reads as it did. -/
def fnTreesCountedUptoRow : OpenClaim := { program := "ytdfllkeekehplaa", sum := "e8ae2219c235665cf1305bbf2e702b94aed7658309cac4f6b40583502d1cd57e", func := "loop.example/g01161/laws.FnTreesCounted", spec := "fnTreesCounted", recurses := true, apart := false, narrowed := true }
def FnTreesCountedUptoSaid : Prop := fnTreesCountedUptoRow.holds Try.pinned (OpenSpec.upto fnTreesCountedSpec)

/-- 'laws.FnTreesJoined', WHERE WHAT IT READS IS OF BULK AT MOST 1048576: true; the input reads as it did. -/
def fnTreesJoinedUptoRow : OpenClaim := { program := "ytdfllkeekehplaa", sum := "e8ae2219c235665cf1305bbf2e702b94aed7658309cac4f6b40583502d1cd57e", func := "loop.example/g01161/laws.FnTreesJoined", spec := "fnTreesJoined", unfollowed := true, recurses := true, apart := false, narrowed := true }
def FnTreesJoinedUptoSaid : Prop := fnTreesJoinedUptoRow.holds Try.pinned (OpenSpec.upto fnTreesJoinedSpec)

/-- 'laws.FnKindsOfCarets', WHERE WHAT IT READS IS OF BULK AT MOST 1048576: true; the input reads as it did. -/
def fnKindsOfCaretsUptoRow : OpenClaim := { program := "ytdfllkeekehplaa", sum := "e8ae2219c235665cf1305bbf2e702b94aed7658309cac4f6b40583502d1cd57e", func := "loop.example/g01161/laws.FnKindsOfCarets", spec := "fnKindsOfCarets", unfollowed := true, recurses := true, apart := false, narrowed := true }
def FnKindsOfCaretsUptoSaid : Prop := fnKindsOfCaretsUptoRow.holds Try.pinned (OpenSpec.upto fnKindsOfCaretsSpec)

/-- 'laws.FnExponentsOfTrees', WHERE WHAT IT READS IS OF BULK AT MOST 1048576: true; the input reads as it did. -/
def fnExponentsOfTreesUptoRow : OpenClaim := { program := "ytdfllkeekehplaa", sum := "e8ae2219c235665cf1305bbf2e702b94aed7658309cac4f6b40583502d1cd57e", func := "loop.example/g01161/laws.FnExponentsOfTrees", spec := "fnExponentsOfTrees", unfollowed := true, recurses := true, apart := false, narrowed := true }
def FnExponentsOfTreesUptoSaid : Prop := fnExponentsOfTreesUptoRow.holds Try.pinned (OpenSpec.upto fnExponentsOfTreesSpec)

/-- 'laws.FnTreesByAddresses', WHERE WHAT IT READS IS OF BULK AT MOST 1048576: true; the input reads as it did. -/
def fnTreesByAddressesUptoRow : OpenClaim := { program := "ytdfllkeekehplaa", sum := "e8ae2219c235665cf1305bbf2e702b94aed7658309cac4f6b40583502d1cd57e", func := "loop.example/g01161/laws.FnTreesByAddresses", spec := "fnTreesByAddresses", unfollowed := true, recurses := true, apart := false, narrowed := true }
def FnTreesByAddressesUptoSaid : Prop := fnTreesByAddressesUptoRow.holds Try.pinned (OpenSpec.upto fnTreesByAddressesSpec)

/-- 'laws.FnPairsMultiply', WHERE WHAT IT READS IS OF BULK AT MOST 1048576: true; the input reads as it did. -/
def fnPairsMultiplyUptoRow : OpenClaim := { program := "ytdfllkeekehplaa", sum := "e8ae2219c235665cf1305bbf2e702b94aed7658309cac4f6b40583502d1cd57e", func := "loop.example/g01161/laws.FnPairsMultiply", spec := "fnPairsMultiply", unfollowed := true, recurses := true, apart := false, narrowed := true }
def FnPairsMultiplyUptoSaid : Prop := fnPairsMultiplyUptoRow.holds Try.pinned (OpenSpec.upto fnPairsMultiplySpec)

/-- 'laws.FnForestsStacked', WHERE WHAT IT READS IS OF BULK AT MOST 1048576: true; the input reads as it did. -/
def fnForestsStackedUptoRow : OpenClaim := { program := "ytdfllkeekehplaa", sum := "e8ae2219c235665cf1305bbf2e702b94aed7658309cac4f6b40583502d1cd57e", func := "loop.example/g01161/laws.FnForestsStacked", spec := "fnForestsStacked", unfollowed := true, recurses := true, apart := false, narrowed := true }
def FnForestsStackedUptoSaid : Prop := fnForestsStackedUptoRow.holds Try.pinned (OpenSpec.upto fnForestsStackedSpec)

/-- 'laws.FnRulesSortWords', WHERE WHAT IT READS IS OF BULK AT MOST 1048576: true; the input reads as it did. -/
def fnRulesSortWordsUptoRow : OpenClaim := { program := "ytdfllkeekehplaa", sum := "e8ae2219c235665cf1305bbf2e702b94aed7658309cac4f6b40583502d1cd57e", func := "loop.example/g01161/laws.FnRulesSortWords", spec := "fnRulesSortWords", unfollowed := true, recurses := true, apart := false, narrowed := true }
def FnRulesSortWordsUptoSaid : Prop := fnRulesSortWordsUptoRow.holds Try.pinned (OpenSpec.upto fnRulesSortWordsSpec)

/-- 'laws.FnReducedAreUnique', WHERE WHAT IT READS IS OF BULK AT MOST 1048576: true; the input reads as it did. -/
def fnReducedAreUniqueUptoRow : OpenClaim := { program := "ytdfllkeekehplaa", sum := "e8ae2219c235665cf1305bbf2e702b94aed7658309cac4f6b40583502d1cd57e", func := "loop.example/g01161/laws.FnReducedAreUnique", spec := "fnReducedAreUnique", inPlace := ["internal/bytealg.IndexByteString", "internal/bytealg.IndexString"], unfollowed := true, recurses := true, named := ["internal/bytealg.MaxLen"], apart := false, narrowed := true }
def FnReducedAreUniqueUptoSaid : Prop := fnReducedAreUniqueUptoRow.holds Try.pinned (OpenSpec.upto fnReducedAreUniqueSpec)

/-- 'laws.FnApartCommute', WHERE WHAT IT READS IS OF BULK AT MOST 1048576: true; the input reads as it did. -/
def fnApartCommuteUptoRow : OpenClaim := { program := "ytdfllkeekehplaa", sum := "e8ae2219c235665cf1305bbf2e702b94aed7658309cac4f6b40583502d1cd57e", func := "loop.example/g01161/laws.FnApartCommute", spec := "fnApartCommute", unfollowed := true, recurses := true, apart := false, narrowed := true }
def FnApartCommuteUptoSaid : Prop := fnApartCommuteUptoRow.holds Try.pinned (OpenSpec.upto fnApartCommuteSpec)

end Rows
end Go.Proofs.Ytdfllkeekehplaa
