/-
  No cell of these rows narrows 'for every input' (looked for: loops, veiled, ifaces, maps, wideKeys, modest, calm, conditions, laid).
  DERIVED. THE GIVEN ROWS OF THIS SEAT. 4 by the template 'for every input the law returns true; each argument reads behind the call as it read before'; 0 by the template 'total and deterministic' (their statements: YtlkjnlhpdjbjdaaTotals.lean).
  GIVEN WITH THE SEED: the statements are not yours to turn. If you find one false, say at which input.
  Laid BY PROGRAM, IN A SANDBOX (cutbox-rows.mjs): the forced cells as the released guide's own fill.sh prints them over the translation a01e998b0e7d5cc5… (all of the seat's roots in one cut). By AI agents, Wed Nov 11 2026. No macro, syntax, notation, axiom, sorry.
-/
import Derived.Test.YtlkjnlhpdjbjdaaChecked
import GoSem.Claim
import GoSem.ClaimJoined
import GoSem.ClaimMapViews
import Derived.JoinedTies
import Derived.KernelRfl
namespace Go.Proofs.Ytlkjnlhpdjbjdaa
/- THE CELL 'sum', in the pinned program and in every row, IS THE sha256 OF THE DUMP (.gsa) THAT YtlkjnlhpdjbjdaaProg.lean LOADS. Nothing in Lean hashes anything: it is a label: what it is worth is what the hold of that sum in a sandbox is worth. -/
noncomputable def Try.pinned : Pinned := { name := "ytlkjnlhpdjbjdaa", sum := "a01e998b0e7d5cc5661a0f36c07e38ece4af5612e65966e6456806c3ec58f600", checked := Try.checked }
namespace Rows
def none {H : Type} : Left H := { results := [], args := [] }

/-- 'laws.FnExactAreApart': WHATEVER THE INPUT: true; the input reads as it did. -/
def fnExactAreApartSpec : ChangeSpec := { name := "fnExactAreApart", fn := fun _ => fun
  | [d1, d2] => { results := [.lit (.bool true)], args := [d1, d2] }
  | _ => none }
def fnExactAreApartRow : OpenClaim := { program := "ytlkjnlhpdjbjdaa", sum := "a01e998b0e7d5cc5661a0f36c07e38ece4af5612e65966e6456806c3ec58f600", func := "loop.example/g01161/laws.FnExactAreApart", spec := "fnExactAreApart", unfollowed := true, recurses := true, apart := false }
def FnExactAreApartSaid : Prop := fnExactAreApartRow.holds Try.pinned (OpenSpec.ofChange fnExactAreApartSpec)

/-- ITS FALSE NEIGHBOUR: 'it returns false'. Refute it at one input. -/
def fnExactAreApartWrong : ChangeSpec := { name := "fnExactAreApart", fn := fun _ => fun
  | [d1, d2] => { results := [.lit (.bool false)], args := [d1, d2] }
  | _ => none }
def FnExactAreApartWrongFalsely : Prop := fnExactAreApartRow.holds Try.pinned (OpenSpec.ofChange fnExactAreApartWrong)

/-- 'laws.FnExactFixedIntervals': WHATEVER THE INPUT: true; the input reads as it did. -/
def fnExactFixedIntervalsSpec : ChangeSpec := { name := "fnExactFixedIntervals", fn := fun _ => fun
  | [d] => { results := [.lit (.bool true)], args := [d] }
  | _ => none }
def fnExactFixedIntervalsRow : OpenClaim := { program := "ytlkjnlhpdjbjdaa", sum := "a01e998b0e7d5cc5661a0f36c07e38ece4af5612e65966e6456806c3ec58f600", func := "loop.example/g01161/laws.FnExactFixedIntervals", spec := "fnExactFixedIntervals", recurses := true, apart := false }
def FnExactFixedIntervalsSaid : Prop := fnExactFixedIntervalsRow.holds Try.pinned (OpenSpec.ofChange fnExactFixedIntervalsSpec)

/-- ITS FALSE NEIGHBOUR: 'it returns false'. Refute it at one input. -/
def fnExactFixedIntervalsWrong : ChangeSpec := { name := "fnExactFixedIntervals", fn := fun _ => fun
  | [d] => { results := [.lit (.bool false)], args := [d] }
  | _ => none }
def FnExactFixedIntervalsWrongFalsely : Prop := fnExactFixedIntervalsRow.holds Try.pinned (OpenSpec.ofChange fnExactFixedIntervalsWrong)

/-- 'laws.FnExactMovedIntervals': WHATEVER THE INPUT: true; the input reads as it did. -/
def fnExactMovedIntervalsSpec : ChangeSpec := { name := "fnExactMovedIntervals", fn := fun _ => fun
  | [d] => { results := [.lit (.bool true)], args := [d] }
  | _ => none }
def fnExactMovedIntervalsRow : OpenClaim := { program := "ytlkjnlhpdjbjdaa", sum := "a01e998b0e7d5cc5661a0f36c07e38ece4af5612e65966e6456806c3ec58f600", func := "loop.example/g01161/laws.FnExactMovedIntervals", spec := "fnExactMovedIntervals", recurses := true, apart := false }
def FnExactMovedIntervalsSaid : Prop := fnExactMovedIntervalsRow.holds Try.pinned (OpenSpec.ofChange fnExactMovedIntervalsSpec)

/-- ITS FALSE NEIGHBOUR: 'it returns false'. Refute it at one input. -/
def fnExactMovedIntervalsWrong : ChangeSpec := { name := "fnExactMovedIntervals", fn := fun _ => fun
  | [d] => { results := [.lit (.bool false)], args := [d] }
  | _ => none }
def FnExactMovedIntervalsWrongFalsely : Prop := fnExactMovedIntervalsRow.holds Try.pinned (OpenSpec.ofChange fnExactMovedIntervalsWrong)

/-- 'laws.FnExactDirectionsOf': WHATEVER THE INPUT: true; the input reads as it did. -/
def fnExactDirectionsOfSpec : ChangeSpec := { name := "fnExactDirectionsOf", fn := fun _ => fun
  | [d] => { results := [.lit (.bool true)], args := [d] }
  | _ => none }
def fnExactDirectionsOfRow : OpenClaim := { program := "ytlkjnlhpdjbjdaa", sum := "a01e998b0e7d5cc5661a0f36c07e38ece4af5612e65966e6456806c3ec58f600", func := "loop.example/g01161/laws.FnExactDirectionsOf", spec := "fnExactDirectionsOf", recurses := true, apart := false }
def FnExactDirectionsOfSaid : Prop := fnExactDirectionsOfRow.holds Try.pinned (OpenSpec.ofChange fnExactDirectionsOfSpec)

/-- ITS FALSE NEIGHBOUR: 'it returns false'. Refute it at one input. -/
def fnExactDirectionsOfWrong : ChangeSpec := { name := "fnExactDirectionsOf", fn := fun _ => fun
  | [d] => { results := [.lit (.bool false)], args := [d] }
  | _ => none }
def FnExactDirectionsOfWrongFalsely : Prop := fnExactDirectionsOfRow.holds Try.pinned (OpenSpec.ofChange fnExactDirectionsOfWrong)

/- THE SECOND FORM. 'bulk': how many values and letters a reading holds, each counted each time it is reached (what is shared counts as often as it is met; a slice's spare places count too). A statement '..UptoSaid' is the law's where the arguments, and the package variables that the reading takes, are together of bulk at most 1048576: NARROWER than '..Said'. Prove '..Said' where nothing that the law and all that it calls make is longer than what came in: it says more and counts as full. Else prove '..UptoSaid'. A law counts once. -/
mutual
def uptoBulk {H : Type} : DataW H → Nat
  | .lit (.string bytes) => bytes.length + 1
  | .lit _ => 1
  | .nil => 1
  | .ptr d => uptoBulk d + 1
  | .slice elems spare => uptoBulkAll elems + uptoBulkAll spare + 1
  | .agg parts => uptoBulkAll parts + 1
  | .iface _ d => uptoBulk d + 1
  | .map entries => uptoBulkEntries entries + 1
  | .held _ => 1
def uptoBulkAll {H : Type} : List (DataW H) → Nat
  | [] => 0
  | d :: r => uptoBulk d + uptoBulkAll r
def uptoBulkEntries {H : Type} : List (Lit × DataW H) → Nat
  | [] => 0
  | x :: r => uptoBulkEntry x + uptoBulkEntries r
def uptoBulkEntry {H : Type} : Lit × DataW H → Nat
  | (.string bytes, d) => bytes.length + uptoBulk d + 1
  | (_, d) => uptoBulk d + 1
 end
def uptoSmall : (H : Type) → List (DataW H) → Bool := fun _ ds => decide (uptoBulkAll ds ≤ 1048576)
def OpenSpec.upto (s : _root_.Go.ChangeSpec) : _root_.Go.OpenSpec := { _root_.Go.OpenSpec.ofChange s with cond := some uptoSmall }

/-- 'laws.FnExactAreApart', WHERE WHAT IT READS IS OF BULK AT MOST 1048576: true; the input reads as it did. -/
def fnExactAreApartUptoRow : OpenClaim := { program := "ytlkjnlhpdjbjdaa", sum := "a01e998b0e7d5cc5661a0f36c07e38ece4af5612e65966e6456806c3ec58f600", func := "loop.example/g01161/laws.FnExactAreApart", spec := "fnExactAreApart", unfollowed := true, recurses := true, apart := false, narrowed := true }
def FnExactAreApartUptoSaid : Prop := fnExactAreApartUptoRow.holds Try.pinned (OpenSpec.upto fnExactAreApartSpec)

/-- 'laws.FnExactFixedIntervals', WHERE WHAT IT READS IS OF BULK AT MOST 1048576: true; the input reads as it did. -/
def fnExactFixedIntervalsUptoRow : OpenClaim := { program := "ytlkjnlhpdjbjdaa", sum := "a01e998b0e7d5cc5661a0f36c07e38ece4af5612e65966e6456806c3ec58f600", func := "loop.example/g01161/laws.FnExactFixedIntervals", spec := "fnExactFixedIntervals", recurses := true, apart := false, narrowed := true }
def FnExactFixedIntervalsUptoSaid : Prop := fnExactFixedIntervalsUptoRow.holds Try.pinned (OpenSpec.upto fnExactFixedIntervalsSpec)

/-- 'laws.FnExactMovedIntervals', WHERE WHAT IT READS IS OF BULK AT MOST 1048576: true; the input reads as it did. -/
def fnExactMovedIntervalsUptoRow : OpenClaim := { program := "ytlkjnlhpdjbjdaa", sum := "a01e998b0e7d5cc5661a0f36c07e38ece4af5612e65966e6456806c3ec58f600", func := "loop.example/g01161/laws.FnExactMovedIntervals", spec := "fnExactMovedIntervals", recurses := true, apart := false, narrowed := true }
def FnExactMovedIntervalsUptoSaid : Prop := fnExactMovedIntervalsUptoRow.holds Try.pinned (OpenSpec.upto fnExactMovedIntervalsSpec)

/-- 'laws.FnExactDirectionsOf', WHERE WHAT IT READS IS OF BULK AT MOST 1048576: true; the input reads as it did. -/
def fnExactDirectionsOfUptoRow : OpenClaim := { program := "ytlkjnlhpdjbjdaa", sum := "a01e998b0e7d5cc5661a0f36c07e38ece4af5612e65966e6456806c3ec58f600", func := "loop.example/g01161/laws.FnExactDirectionsOf", spec := "fnExactDirectionsOf", recurses := true, apart := false, narrowed := true }
def FnExactDirectionsOfUptoSaid : Prop := fnExactDirectionsOfUptoRow.holds Try.pinned (OpenSpec.upto fnExactDirectionsOfSpec)

end Rows
end Go.Proofs.Ytlkjnlhpdjbjdaa
