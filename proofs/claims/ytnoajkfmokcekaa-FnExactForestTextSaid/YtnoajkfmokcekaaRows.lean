/-
  No cell of these rows narrows 'for every input' (looked for: loops, veiled, ifaces, maps, wideKeys, modest, calm, conditions, laid).
  DERIVED. THE GIVEN ROWS OF THIS SEAT. 6 by the template 'for every input the law returns true; each argument reads behind the call as it read before'; 0 by the template 'total and deterministic' (their statements: YtnoajkfmokcekaaTotals.lean).
  GIVEN WITH THE SEED: the statements are not yours to turn. If you find one false, say at which input.
  Laid BY PROGRAM, IN A SANDBOX (cutbox-rows.mjs): the forced cells as the released guide's own fill.sh prints them over the translation df0329be7d6847a1… (all of the seat's roots in one cut). By AI agents, Wed Nov 11 2026. No macro, syntax, notation, axiom, sorry.
-/
import Derived.Test.YtnoajkfmokcekaaChecked
import GoSem.Claim
import GoSem.ClaimJoined
import GoSem.ClaimMapViews
import Derived.JoinedTies
import Derived.KernelRfl
namespace Go.Proofs.Ytnoajkfmokcekaa
/- THE CELL 'sum', in the pinned program and in every row, IS THE sha256 OF THE DUMP (.gsa) THAT YtnoajkfmokcekaaProg.lean LOADS. Nothing in Lean hashes anything: it is a label: what it is worth is what the hold of that sum in a sandbox is worth. -/
noncomputable def Try.pinned : Pinned := { name := "ytnoajkfmokcekaa", sum := "df0329be7d6847a1d16450c9bdf21973800c5c55ebf3f1d0fe3c30845fe5254a", checked := Try.checked }
namespace Rows
def none {H : Type} : Left H := { results := [], args := [] }

/-- 'laws.FnExactCaretKinds': WHATEVER THE INPUT: true; the input reads as it did. -/
def fnExactCaretKindsSpec : ChangeSpec := { name := "fnExactCaretKinds", fn := fun _ => fun
  | [d] => { results := [.lit (.bool true)], args := [d] }
  | _ => none }
def fnExactCaretKindsRow : OpenClaim := { program := "ytnoajkfmokcekaa", sum := "df0329be7d6847a1d16450c9bdf21973800c5c55ebf3f1d0fe3c30845fe5254a", func := "loop.example/g01161/laws.FnExactCaretKinds", spec := "fnExactCaretKinds", unfollowed := true, recurses := true, apart := false }
def FnExactCaretKindsSaid : Prop := fnExactCaretKindsRow.holds Try.pinned (OpenSpec.ofChange fnExactCaretKindsSpec)

/-- ITS FALSE NEIGHBOUR: 'it returns false'. Refute it at one input. -/
def fnExactCaretKindsWrong : ChangeSpec := { name := "fnExactCaretKinds", fn := fun _ => fun
  | [d] => { results := [.lit (.bool false)], args := [d] }
  | _ => none }
def FnExactCaretKindsWrongFalsely : Prop := fnExactCaretKindsRow.holds Try.pinned (OpenSpec.ofChange fnExactCaretKindsWrong)

/-- 'laws.FnExactLeafOf': WHATEVER THE INPUT: true; the input reads as it did. -/
def fnExactLeafOfSpec : ChangeSpec := { name := "fnExactLeafOf", fn := fun _ => fun
  | [d1, d2] => { results := [.lit (.bool true)], args := [d1, d2] }
  | _ => none }
def fnExactLeafOfRow : OpenClaim := { program := "ytnoajkfmokcekaa", sum := "df0329be7d6847a1d16450c9bdf21973800c5c55ebf3f1d0fe3c30845fe5254a", func := "loop.example/g01161/laws.FnExactLeafOf", spec := "fnExactLeafOf", recurses := true, apart := false }
def FnExactLeafOfSaid : Prop := fnExactLeafOfRow.holds Try.pinned (OpenSpec.ofChange fnExactLeafOfSpec)

/-- ITS FALSE NEIGHBOUR: 'it returns false'. Refute it at one input. -/
def fnExactLeafOfWrong : ChangeSpec := { name := "fnExactLeafOf", fn := fun _ => fun
  | [d1, d2] => { results := [.lit (.bool false)], args := [d1, d2] }
  | _ => none }
def FnExactLeafOfWrongFalsely : Prop := fnExactLeafOfRow.holds Try.pinned (OpenSpec.ofChange fnExactLeafOfWrong)

/-- 'laws.FnExactParsePair': WHATEVER THE INPUT: true; the input reads as it did. -/
def fnExactParsePairSpec : ChangeSpec := { name := "fnExactParsePair", fn := fun _ => fun
  | [d] => { results := [.lit (.bool true)], args := [d] }
  | _ => none }
def fnExactParsePairRow : OpenClaim := { program := "ytnoajkfmokcekaa", sum := "df0329be7d6847a1d16450c9bdf21973800c5c55ebf3f1d0fe3c30845fe5254a", func := "loop.example/g01161/laws.FnExactParsePair", spec := "fnExactParsePair", inPlace := ["internal/bytealg.IndexByteString", "internal/bytealg.IndexString"], recurses := true, named := ["internal/bytealg.MaxLen"], apart := false }
def FnExactParsePairSaid : Prop := fnExactParsePairRow.holds Try.pinned (OpenSpec.ofChange fnExactParsePairSpec)

/-- ITS FALSE NEIGHBOUR: 'it returns false'. Refute it at one input. -/
def fnExactParsePairWrong : ChangeSpec := { name := "fnExactParsePair", fn := fun _ => fun
  | [d] => { results := [.lit (.bool false)], args := [d] }
  | _ => none }
def FnExactParsePairWrongFalsely : Prop := fnExactParsePairRow.holds Try.pinned (OpenSpec.ofChange fnExactParsePairWrong)

/-- 'laws.FnExactAreSamePairs': WHATEVER THE INPUT: true; the input reads as it did. -/
def fnExactAreSamePairsSpec : ChangeSpec := { name := "fnExactAreSamePairs", fn := fun _ => fun
  | [d1, d2] => { results := [.lit (.bool true)], args := [d1, d2] }
  | _ => none }
def fnExactAreSamePairsRow : OpenClaim := { program := "ytnoajkfmokcekaa", sum := "df0329be7d6847a1d16450c9bdf21973800c5c55ebf3f1d0fe3c30845fe5254a", func := "loop.example/g01161/laws.FnExactAreSamePairs", spec := "fnExactAreSamePairs", recurses := true, apart := false }
def FnExactAreSamePairsSaid : Prop := fnExactAreSamePairsRow.holds Try.pinned (OpenSpec.ofChange fnExactAreSamePairsSpec)

/-- ITS FALSE NEIGHBOUR: 'it returns false'. Refute it at one input. -/
def fnExactAreSamePairsWrong : ChangeSpec := { name := "fnExactAreSamePairs", fn := fun _ => fun
  | [d1, d2] => { results := [.lit (.bool false)], args := [d1, d2] }
  | _ => none }
def FnExactAreSamePairsWrongFalsely : Prop := fnExactAreSamePairsRow.holds Try.pinned (OpenSpec.ofChange fnExactAreSamePairsWrong)

/-- 'laws.FnExactReducePair': WHATEVER THE INPUT: true; the input reads as it did. -/
def fnExactReducePairSpec : ChangeSpec := { name := "fnExactReducePair", fn := fun _ => fun
  | [d] => { results := [.lit (.bool true)], args := [d] }
  | _ => none }
def fnExactReducePairRow : OpenClaim := { program := "ytnoajkfmokcekaa", sum := "df0329be7d6847a1d16450c9bdf21973800c5c55ebf3f1d0fe3c30845fe5254a", func := "loop.example/g01161/laws.FnExactReducePair", spec := "fnExactReducePair", recurses := true, apart := false }
def FnExactReducePairSaid : Prop := fnExactReducePairRow.holds Try.pinned (OpenSpec.ofChange fnExactReducePairSpec)

/-- ITS FALSE NEIGHBOUR: 'it returns false'. Refute it at one input. -/
def fnExactReducePairWrong : ChangeSpec := { name := "fnExactReducePair", fn := fun _ => fun
  | [d] => { results := [.lit (.bool false)], args := [d] }
  | _ => none }
def FnExactReducePairWrongFalsely : Prop := fnExactReducePairRow.holds Try.pinned (OpenSpec.ofChange fnExactReducePairWrong)

/-- 'laws.FnExactForestText': WHATEVER THE INPUT: true; the input reads as it did. -/
def fnExactForestTextSpec : ChangeSpec := { name := "fnExactForestText", fn := fun _ => fun
  | [d] => { results := [.lit (.bool true)], args := [d] }
  | _ => none }
def fnExactForestTextRow : OpenClaim := { program := "ytnoajkfmokcekaa", sum := "df0329be7d6847a1d16450c9bdf21973800c5c55ebf3f1d0fe3c30845fe5254a", func := "loop.example/g01161/laws.FnExactForestText", spec := "fnExactForestText", inPlace := ["internal/abi.NoEscape", "internal/bytealg.MakeNoZero"], recurses := true, apart := false }
def FnExactForestTextSaid : Prop := fnExactForestTextRow.holds Try.pinned (OpenSpec.ofChange fnExactForestTextSpec)

/-- ITS FALSE NEIGHBOUR: 'it returns false'. Refute it at one input. -/
def fnExactForestTextWrong : ChangeSpec := { name := "fnExactForestText", fn := fun _ => fun
  | [d] => { results := [.lit (.bool false)], args := [d] }
  | _ => none }
def FnExactForestTextWrongFalsely : Prop := fnExactForestTextRow.holds Try.pinned (OpenSpec.ofChange fnExactForestTextWrong)

/- THE SECOND FORM. 'bulk': how many values and letters a reading holds, each counted each time it is reached (what is shared counts as often as it is met; a slice's spare places count too). A statement '..UptoSaid' is the law's where the arguments, and the package variables that the reading takes, are together of bulk at most 1048576: NARROWER than '..Said'. Prove '..Said' where nothing that the law and all that it calls make is longer than what came in: it says more and counts as full. Else prove '..UptoSaid'. A law counts once. -/
mutual
def uptoBulk {H : Type} : DataW H → Nat
  | .lit (.string bytes) => bytes.length + 1
  | .lit _ => 1
  | .nil => 1
  | .ptr d => uptoBulk d + 1
  | .slice elems spare => uptoBulkAll elems + uptoBulkAll spare + 1
  | .agg parts => uptoBulkAll parts + 1
  | .iface _ d => uptoBulk d + 1
  | .map entries => uptoBulkEntries entries + 1
  | .held _ => 1
def uptoBulkAll {H : Type} : List (DataW H) → Nat
  | [] => 0
  | d :: r => uptoBulk d + uptoBulkAll r
def uptoBulkEntries {H : Type} : List (Lit × DataW H) → Nat
  | [] => 0
  | x :: r => uptoBulkEntry x + uptoBulkEntries r
def uptoBulkEntry {H : Type} : Lit × DataW H → Nat
  | (.string bytes, d) => bytes.length + uptoBulk d + 1
  | (_, d) => uptoBulk d + 1
 end
def uptoSmall : (H : Type) → List (DataW H) → Bool := fun _ ds => decide (uptoBulkAll ds ≤ 1048576)
def OpenSpec.upto (s : _root_.Go.ChangeSpec) : _root_.Go.OpenSpec := { _root_.Go.OpenSpec.ofChange s with cond := some uptoSmall }

/-- 'laws.FnExactCaretKinds', WHERE WHAT IT READS IS OF BULK AT MOST 1048576: true; the input reads as it did. -/
def fnExactCaretKindsUptoRow : OpenClaim := { program := "ytnoajkfmokcekaa", sum := "df0329be7d6847a1d16450c9bdf21973800c5c55ebf3f1d0fe3c30845fe5254a", func := "loop.example/g01161/laws.FnExactCaretKinds", spec := "fnExactCaretKinds", unfollowed := true, recurses := true, apart := false, narrowed := true }
def FnExactCaretKindsUptoSaid : Prop := fnExactCaretKindsUptoRow.holds Try.pinned (OpenSpec.upto fnExactCaretKindsSpec)

/-- 'laws.FnExactLeafOf', WHERE WHAT IT READS IS OF BULK AT MOST 1048576: true; the input reads as it did. -/
def fnExactLeafOfUptoRow : OpenClaim := { program := "ytnoajkfmokcekaa", sum := "df0329be7d6847a1d16450c9bdf21973800c5c55ebf3f1d0fe3c30845fe5254a", func := "loop.example/g01161/laws.FnExactLeafOf", spec := "fnExactLeafOf", recurses := true, apart := false, narrowed := true }
def FnExactLeafOfUptoSaid : Prop := fnExactLeafOfUptoRow.holds Try.pinned (OpenSpec.upto fnExactLeafOfSpec)

/-- 'laws.FnExactParsePair', WHERE WHAT IT READS IS OF BULK AT MOST 1048576: true; the input reads as it did. -/
def fnExactParsePairUptoRow : OpenClaim := { program := "ytnoajkfmokcekaa", sum := "df0329be7d6847a1d16450c9bdf21973800c5c55ebf3f1d0fe3c30845fe5254a", func := "loop.example/g01161/laws.FnExactParsePair", spec := "fnExactParsePair", inPlace := ["internal/bytealg.IndexByteString", "internal/bytealg.IndexString"], recurses := true, named := ["internal/bytealg.MaxLen"], apart := false, narrowed := true }
def FnExactParsePairUptoSaid : Prop := fnExactParsePairUptoRow.holds Try.pinned (OpenSpec.upto fnExactParsePairSpec)

/-- 'laws.FnExactAreSamePairs', WHERE WHAT IT READS IS OF BULK AT MOST 1048576: true; the input reads as it did. -/
def fnExactAreSamePairsUptoRow : OpenClaim := { program := "ytnoajkfmokcekaa", sum := "df0329be7d6847a1d16450c9bdf21973800c5c55ebf3f1d0fe3c30845fe5254a", func := "loop.example/g01161/laws.FnExactAreSamePairs", spec := "fnExactAreSamePairs", recurses := true, apart := false, narrowed := true }
def FnExactAreSamePairsUptoSaid : Prop := fnExactAreSamePairsUptoRow.holds Try.pinned (OpenSpec.upto fnExactAreSamePairsSpec)

/-- 'laws.FnExactReducePair', WHERE WHAT IT READS IS OF BULK AT MOST 1048576: true; the input reads as it did. -/
def fnExactReducePairUptoRow : OpenClaim := { program := "ytnoajkfmokcekaa", sum := "df0329be7d6847a1d16450c9bdf21973800c5c55ebf3f1d0fe3c30845fe5254a", func := "loop.example/g01161/laws.FnExactReducePair", spec := "fnExactReducePair", recurses := true, apart := false, narrowed := true }
def FnExactReducePairUptoSaid : Prop := fnExactReducePairUptoRow.holds Try.pinned (OpenSpec.upto fnExactReducePairSpec)

/-- 'laws.FnExactForestText', WHERE WHAT IT READS IS OF BULK AT MOST 1048576: true; the input reads as it did. -/
def fnExactForestTextUptoRow : OpenClaim := { program := "ytnoajkfmokcekaa", sum := "df0329be7d6847a1d16450c9bdf21973800c5c55ebf3f1d0fe3c30845fe5254a", func := "loop.example/g01161/laws.FnExactForestText", spec := "fnExactForestText", inPlace := ["internal/abi.NoEscape", "internal/bytealg.MakeNoZero"], recurses := true, apart := false, narrowed := true }
def FnExactForestTextUptoSaid : Prop := fnExactForestTextUptoRow.holds Try.pinned (OpenSpec.upto fnExactForestTextSpec)

end Rows
end Go.Proofs.Ytnoajkfmokcekaa
