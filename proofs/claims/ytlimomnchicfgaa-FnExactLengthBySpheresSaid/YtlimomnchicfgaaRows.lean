/-
  No cell of these rows narrows 'for every input' (looked for: loops, veiled, ifaces, maps, wideKeys, modest, calm, conditions, laid).
  DERIVED. THE GIVEN ROWS OF THIS SEAT. 6 by the template 'for every input the law returns true; each argument reads behind the call as it read before'; 0 by the template 'total and deterministic' (their statements: YtlimomnchicfgaaTotals.lean).
  GIVEN WITH THE SEED: the statements are not yours to turn. If you find one false, say at which input.
  Laid BY PROGRAM, IN A SANDBOX (cutbox-rows.mjs): the forced cells as the released guide's own fill.sh prints them over the translation a7eda6129929c490… (all of the seat's roots in one cut). By AI agents, Wed Nov 11 2026. No macro, syntax, notation, axiom, sorry.
-/
import Derived.Test.YtlimomnchicfgaaChecked
import GoSem.Claim
import GoSem.ClaimJoined
import GoSem.ClaimMapViews
import Derived.JoinedTies
import Derived.KernelRfl
namespace Go.Proofs.Ytlimomnchicfgaa
/- THE CELL 'sum', in the pinned program and in every row, IS THE sha256 OF THE DUMP (.gsa) THAT YtlimomnchicfgaaProg.lean LOADS. Nothing in Lean hashes anything: it is a label: what it is worth is what the hold of that sum in a sandbox is worth. -/
noncomputable def Try.pinned : Pinned := { name := "ytlimomnchicfgaa", sum := "a7eda6129929c490978efa73b6de440f72f6f921782db1527e5c5d22d5a8051b", checked := Try.checked }
namespace Rows
def none {H : Type} : Left H := { results := [], args := [] }

/-- 'laws.FnExactSphereSize': WHATEVER THE INPUT: true; the input reads as it did. -/
def fnExactSphereSizeSpec : ChangeSpec := { name := "fnExactSphereSize", fn := fun _ => fun
  | [d] => { results := [.lit (.bool true)], args := [d] }
  | _ => none }
def fnExactSphereSizeRow : OpenClaim := { program := "ytlimomnchicfgaa", sum := "a7eda6129929c490978efa73b6de440f72f6f921782db1527e5c5d22d5a8051b", func := "loop.example/g01161/laws.FnExactSphereSize", spec := "fnExactSphereSize", unfollowed := true, recurses := true, apart := false }
def FnExactSphereSizeSaid : Prop := fnExactSphereSizeRow.holds Try.pinned (OpenSpec.ofChange fnExactSphereSizeSpec)

/-- ITS FALSE NEIGHBOUR: 'it returns false'. Refute it at one input. -/
def fnExactSphereSizeWrong : ChangeSpec := { name := "fnExactSphereSize", fn := fun _ => fun
  | [d] => { results := [.lit (.bool false)], args := [d] }
  | _ => none }
def FnExactSphereSizeWrongFalsely : Prop := fnExactSphereSizeRow.holds Try.pinned (OpenSpec.ofChange fnExactSphereSizeWrong)

/-- 'laws.FnExactLengthBySpheres': WHATEVER THE INPUT: true; the input reads as it did. -/
def fnExactLengthBySpheresSpec : ChangeSpec := { name := "fnExactLengthBySpheres", fn := fun _ => fun
  | [d1, d2] => { results := [.lit (.bool true)], args := [d1, d2] }
  | _ => none }
def fnExactLengthBySpheresRow : OpenClaim := { program := "ytlimomnchicfgaa", sum := "a7eda6129929c490978efa73b6de440f72f6f921782db1527e5c5d22d5a8051b", func := "loop.example/g01161/laws.FnExactLengthBySpheres", spec := "fnExactLengthBySpheres", unfollowed := true, recurses := true, apart := false }
def FnExactLengthBySpheresSaid : Prop := fnExactLengthBySpheresRow.holds Try.pinned (OpenSpec.ofChange fnExactLengthBySpheresSpec)

/-- ITS FALSE NEIGHBOUR: 'it returns false'. Refute it at one input. -/
def fnExactLengthBySpheresWrong : ChangeSpec := { name := "fnExactLengthBySpheres", fn := fun _ => fun
  | [d1, d2] => { results := [.lit (.bool false)], args := [d1, d2] }
  | _ => none }
def FnExactLengthBySpheresWrongFalsely : Prop := fnExactLengthBySpheresRow.holds Try.pinned (OpenSpec.ofChange fnExactLengthBySpheresWrong)

/-- 'laws.FnExactCountShortest': WHATEVER THE INPUT: true; the input reads as it did. -/
def fnExactCountShortestSpec : ChangeSpec := { name := "fnExactCountShortest", fn := fun _ => fun
  | [d] => { results := [.lit (.bool true)], args := [d] }
  | _ => none }
def fnExactCountShortestRow : OpenClaim := { program := "ytlimomnchicfgaa", sum := "a7eda6129929c490978efa73b6de440f72f6f921782db1527e5c5d22d5a8051b", func := "loop.example/g01161/laws.FnExactCountShortest", spec := "fnExactCountShortest", unfollowed := true, recurses := true, apart := false }
def FnExactCountShortestSaid : Prop := fnExactCountShortestRow.holds Try.pinned (OpenSpec.ofChange fnExactCountShortestSpec)

/-- ITS FALSE NEIGHBOUR: 'it returns false'. Refute it at one input. -/
def fnExactCountShortestWrong : ChangeSpec := { name := "fnExactCountShortest", fn := fun _ => fun
  | [d] => { results := [.lit (.bool false)], args := [d] }
  | _ => none }
def FnExactCountShortestWrongFalsely : Prop := fnExactCountShortestRow.holds Try.pinned (OpenSpec.ofChange fnExactCountShortestWrong)

/-- 'laws.FnExactNextLengths': WHATEVER THE INPUT: true; the input reads as it did. -/
def fnExactNextLengthsSpec : ChangeSpec := { name := "fnExactNextLengths", fn := fun _ => fun
  | [d] => { results := [.lit (.bool true)], args := [d] }
  | _ => none }
def fnExactNextLengthsRow : OpenClaim := { program := "ytlimomnchicfgaa", sum := "a7eda6129929c490978efa73b6de440f72f6f921782db1527e5c5d22d5a8051b", func := "loop.example/g01161/laws.FnExactNextLengths", spec := "fnExactNextLengths", unfollowed := true, recurses := true, apart := false }
def FnExactNextLengthsSaid : Prop := fnExactNextLengthsRow.holds Try.pinned (OpenSpec.ofChange fnExactNextLengthsSpec)

/-- ITS FALSE NEIGHBOUR: 'it returns false'. Refute it at one input. -/
def fnExactNextLengthsWrong : ChangeSpec := { name := "fnExactNextLengths", fn := fun _ => fun
  | [d] => { results := [.lit (.bool false)], args := [d] }
  | _ => none }
def FnExactNextLengthsWrongFalsely : Prop := fnExactNextLengthsRow.holds Try.pinned (OpenSpec.ofChange fnExactNextLengthsWrong)

/-- 'laws.FnExactIsDeadEnd': WHATEVER THE INPUT: true; the input reads as it did. -/
def fnExactIsDeadEndSpec : ChangeSpec := { name := "fnExactIsDeadEnd", fn := fun _ => fun
  | [d] => { results := [.lit (.bool true)], args := [d] }
  | _ => none }
def fnExactIsDeadEndRow : OpenClaim := { program := "ytlimomnchicfgaa", sum := "a7eda6129929c490978efa73b6de440f72f6f921782db1527e5c5d22d5a8051b", func := "loop.example/g01161/laws.FnExactIsDeadEnd", spec := "fnExactIsDeadEnd", unfollowed := true, recurses := true, apart := false }
def FnExactIsDeadEndSaid : Prop := fnExactIsDeadEndRow.holds Try.pinned (OpenSpec.ofChange fnExactIsDeadEndSpec)

/-- ITS FALSE NEIGHBOUR: 'it returns false'. Refute it at one input. -/
def fnExactIsDeadEndWrong : ChangeSpec := { name := "fnExactIsDeadEnd", fn := fun _ => fun
  | [d] => { results := [.lit (.bool false)], args := [d] }
  | _ => none }
def FnExactIsDeadEndWrongFalsely : Prop := fnExactIsDeadEndRow.holds Try.pinned (OpenSpec.ofChange fnExactIsDeadEndWrong)

/-- 'laws.FnExactShortestWord': WHATEVER THE INPUT: true; the input reads as it did. -/
def fnExactShortestWordSpec : ChangeSpec := { name := "fnExactShortestWord", fn := fun _ => fun
  | [d] => { results := [.lit (.bool true)], args := [d] }
  | _ => none }
def fnExactShortestWordRow : OpenClaim := { program := "ytlimomnchicfgaa", sum := "a7eda6129929c490978efa73b6de440f72f6f921782db1527e5c5d22d5a8051b", func := "loop.example/g01161/laws.FnExactShortestWord", spec := "fnExactShortestWord", unfollowed := true, recurses := true, apart := false }
def FnExactShortestWordSaid : Prop := fnExactShortestWordRow.holds Try.pinned (OpenSpec.ofChange fnExactShortestWordSpec)

/-- ITS FALSE NEIGHBOUR: 'it returns false'. Refute it at one input. -/
def fnExactShortestWordWrong : ChangeSpec := { name := "fnExactShortestWord", fn := fun _ => fun
  | [d] => { results := [.lit (.bool false)], args := [d] }
  | _ => none }
def FnExactShortestWordWrongFalsely : Prop := fnExactShortestWordRow.holds Try.pinned (OpenSpec.ofChange fnExactShortestWordWrong)

/- THE SECOND FORM. 'bulk': how many values and letters a reading holds, each counted each time it is reached (what is shared counts as often as it is met; a slice's spare places count too). A statement '..UptoSaid' is the law's where the arguments, and the package variables that the reading takes, are together of bulk at most 1048576: NARROWER than '..Said'. Prove '..Said' where nothing that the law and all that it calls make is longer than what came in: it says more and counts as full. Else prove '..UptoSaid'. A law counts once. -/
mutual
def uptoBulk {H : Type} : DataW H → Nat
  | .lit (.string bytes) => bytes.length + 1
  | .lit _ => 1
  | .nil => 1
  | .ptr d => uptoBulk d + 1
  | .slice elems spare => uptoBulkAll elems + uptoBulkAll spare + 1
  | .agg parts => uptoBulkAll parts + 1
  | .iface _ d => uptoBulk d + 1
  | .map entries => uptoBulkEntries entries + 1
  | .held _ => 1
def uptoBulkAll {H : Type} : List (DataW H) → Nat
  | [] => 0
  | d :: r => uptoBulk d + uptoBulkAll r
def uptoBulkEntries {H : Type} : List (Lit × DataW H) → Nat
  | [] => 0
  | x :: r => uptoBulkEntry x + uptoBulkEntries r
def uptoBulkEntry {H : Type} : Lit × DataW H → Nat
  | (.string bytes, d) => bytes.length + uptoBulk d + 1
  | (_, d) => uptoBulk d + 1
 end
def uptoSmall : (H : Type) → List (DataW H) → Bool := fun _ ds => decide (uptoBulkAll ds ≤ 1048576)
def OpenSpec.upto (s : _root_.Go.ChangeSpec) : _root_.Go.OpenSpec := { _root_.Go.OpenSpec.ofChange s with cond := some uptoSmall }

/-- 'laws.FnExactSphereSize', WHERE WHAT IT READS IS OF BULK AT MOST 1048576: true; the input reads as it did. -/
def fnExactSphereSizeUptoRow : OpenClaim := { program := "ytlimomnchicfgaa", sum := "a7eda6129929c490978efa73b6de440f72f6f921782db1527e5c5d22d5a8051b", func := "loop.example/g01161/laws.FnExactSphereSize", spec := "fnExactSphereSize", unfollowed := true, recurses := true, apart := false, narrowed := true }
def FnExactSphereSizeUptoSaid : Prop := fnExactSphereSizeUptoRow.holds Try.pinned (OpenSpec.upto fnExactSphereSizeSpec)

/-- 'laws.FnExactLengthBySpheres', WHERE WHAT IT READS IS OF BULK AT MOST 1048576: true; the input reads as it did. -/
def fnExactLengthBySpheresUptoRow : OpenClaim := { program := "ytlimomnchicfgaa", sum := "a7eda6129929c490978efa73b6de440f72f6f921782db1527e5c5d22d5a8051b", func := "loop.example/g01161/laws.FnExactLengthBySpheres", spec := "fnExactLengthBySpheres", unfollowed := true, recurses := true, apart := false, narrowed := true }
def FnExactLengthBySpheresUptoSaid : Prop := fnExactLengthBySpheresUptoRow.holds Try.pinned (OpenSpec.upto fnExactLengthBySpheresSpec)

/-- 'laws.FnExactCountShortest', WHERE WHAT IT READS IS OF BULK AT MOST 1048576: true; the input reads as it did. -/
def fnExactCountShortestUptoRow : OpenClaim := { program := "ytlimomnchicfgaa", sum := "a7eda6129929c490978efa73b6de440f72f6f921782db1527e5c5d22d5a8051b", func := "loop.example/g01161/laws.FnExactCountShortest", spec := "fnExactCountShortest", unfollowed := true, recurses := true, apart := false, narrowed := true }
def FnExactCountShortestUptoSaid : Prop := fnExactCountShortestUptoRow.holds Try.pinned (OpenSpec.upto fnExactCountShortestSpec)

/-- 'laws.FnExactNextLengths', WHERE WHAT IT READS IS OF BULK AT MOST 1048576: true; the input reads as it did. -/
def fnExactNextLengthsUptoRow : OpenClaim := { program := "ytlimomnchicfgaa", sum := "a7eda6129929c490978efa73b6de440f72f6f921782db1527e5c5d22d5a8051b", func := "loop.example/g01161/laws.FnExactNextLengths", spec := "fnExactNextLengths", unfollowed := true, recurses := true, apart := false, narrowed := true }
def FnExactNextLengthsUptoSaid : Prop := fnExactNextLengthsUptoRow.holds Try.pinned (OpenSpec.upto fnExactNextLengthsSpec)

/-- 'laws.FnExactIsDeadEnd', WHERE WHAT IT READS IS OF BULK AT MOST 1048576: true; the input reads as it did. -/
def fnExactIsDeadEndUptoRow : OpenClaim := { program := "ytlimomnchicfgaa", sum := "a7eda6129929c490978efa73b6de440f72f6f921782db1527e5c5d22d5a8051b", func := "loop.example/g01161/laws.FnExactIsDeadEnd", spec := "fnExactIsDeadEnd", unfollowed := true, recurses := true, apart := false, narrowed := true }
def FnExactIsDeadEndUptoSaid : Prop := fnExactIsDeadEndUptoRow.holds Try.pinned (OpenSpec.upto fnExactIsDeadEndSpec)

/-- 'laws.FnExactShortestWord', WHERE WHAT IT READS IS OF BULK AT MOST 1048576: true; the input reads as it did. -/
def fnExactShortestWordUptoRow : OpenClaim := { program := "ytlimomnchicfgaa", sum := "a7eda6129929c490978efa73b6de440f72f6f921782db1527e5c5d22d5a8051b", func := "loop.example/g01161/laws.FnExactShortestWord", spec := "fnExactShortestWord", unfollowed := true, recurses := true, apart := false, narrowed := true }
def FnExactShortestWordUptoSaid : Prop := fnExactShortestWordUptoRow.holds Try.pinned (OpenSpec.upto fnExactShortestWordSpec)

end Rows
end Go.Proofs.Ytlimomnchicfgaa
