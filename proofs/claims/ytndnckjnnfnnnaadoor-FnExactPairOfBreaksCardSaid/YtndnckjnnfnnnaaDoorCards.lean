/-
  DERIVED. GIVEN WITH THE SEED: THE CARDS: each row of YtndnckjnnfnnnaaDoorRows.lean that lists a variable, with what it lists TIED to the program's text (the seventh form; the later family's looks); each row that meets fmt, with fmt's text TOLD by the authors' own Lean function (tested against real Go, not proved from fmt's source: count such statements apart). THE CARD IS WHAT COUNTS. Prove the row's statement (the work); the ties are given (YtndnckjnnfnnnaaDoorTie.lean); close each card by the builder's one call (the guide's Derived/Test/ToyasCard.lean, 'card_holds'). Laid BY PROGRAM, IN A SANDBOX (cutbox-door.mjs). By AI agents, Wed Nov 11 2026. No macro, syntax, notation, axiom, sorry.
-/
import Derived.Test.YtndnckjnnfnnnaaDoorRows
import GoSem.ClaimSeven
namespace Go.Proofs.YtndnckjnnfnnnaaDoor
namespace Rows

/-- THE TIED CARD OF 'laws.FnExactPairOfBreaks'. -/
def fnExactPairOfBreaksCard : Claim7 := { stood := { row := fnExactPairOfBreaksRow, standIns := [], harness := (true, "43c977dee91a090aa9575241712dd91800bcd76c58646b6da2d0a7fb93200957"), looks := false }, kinds := [], alts := [], laidByText := true, laidKinds := [.data, .data, .data], laidTests := true, laidLooks := .later }
def FnExactPairOfBreaksCardSaid : Prop := Claim7.holds Tryd.pinned (.plain (OpenSpec.ofChange fnExactPairOfBreaksSpec)) fnExactPairOfBreaksCard

/-- THE SECOND FORM's CARD OF 'laws.FnExactPairOfBreaks'. -/
def fnExactPairOfBreaksUptoCard : Claim7 := { stood := { row := fnExactPairOfBreaksUptoRow, standIns := [], harness := (true, "43c977dee91a090aa9575241712dd91800bcd76c58646b6da2d0a7fb93200957"), looks := false }, kinds := [], alts := [], laidByText := true, laidKinds := [.data, .data, .data], laidTests := true, laidLooks := .later }
def FnExactPairOfBreaksUptoCardSaid : Prop := Claim7.holds Tryd.pinned (.plain (OpenSpec.upto fnExactPairOfBreaksSpec)) fnExactPairOfBreaksUptoCard
end Rows
end Go.Proofs.YtndnckjnnfnnnaaDoor
