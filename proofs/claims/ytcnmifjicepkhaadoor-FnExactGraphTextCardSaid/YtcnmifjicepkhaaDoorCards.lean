/-
  DERIVED. GIVEN WITH THE SEED: THE CARDS: each row of YtcnmifjicepkhaaDoorRows.lean that lists a variable, with what it lists TIED to the program's text (the seventh form; the later family's looks); each row that meets fmt, with fmt's text TOLD by the authors' own Lean function (tested against real Go, not proved from fmt's source: count such statements apart). THE CARD IS WHAT COUNTS. Prove the row's statement (the work); the ties are given (YtcnmifjicepkhaaDoorTie.lean); close each card by the builder's one call (the guide's Derived/Test/ToyasCard.lean, 'card_holds'). Laid BY PROGRAM, IN A SANDBOX (cutbox-door.mjs). By AI agents, Wed Nov 11 2026. No macro, syntax, notation, axiom, sorry.
-/
import Derived.Test.YtcnmifjicepkhaaDoorRows
import GoSem.ClaimSeven
namespace Go.Proofs.YtcnmifjicepkhaaDoor
namespace Rows

/-- THE TIED CARD OF 'laws.FnExactImageOfAddress'. -/
def fnExactImageOfAddressCard : Claim7 := { stood := { row := fnExactImageOfAddressRow, standIns := [], harness := (true, "d4b68441f7a4a1c6f54d124a3ba485e583ab7ebbb0015188fb2bd3e0b4d0c272"), looks := false }, kinds := [], alts := [], laidByText := true, laidKinds := [.data, .pinned], laidTests := true, laidLooks := .later }
def FnExactImageOfAddressCardSaid : Prop := Claim7.holds Tryd.pinned (.plain (OpenSpec.ofChange fnExactImageOfAddressSpec)) fnExactImageOfAddressCard

/-- THE TIED CARD OF 'laws.FnExactParseForest'. -/
def fnExactParseForestCard : Claim7 := { stood := { row := fnExactParseForestRow, standIns := [], harness := (true, "d4b68441f7a4a1c6f54d124a3ba485e583ab7ebbb0015188fb2bd3e0b4d0c272"), looks := false }, kinds := [], alts := [], laidByText := true, laidKinds := [.data, .pinned], laidTests := true, laidLooks := .later }
def FnExactParseForestCardSaid : Prop := Claim7.holds Tryd.pinned (.plain (OpenSpec.ofChange fnExactParseForestSpec)) fnExactParseForestCard

/-- THE TIED CARD OF 'laws.FnExactGraphText'. -/
def fnExactGraphTextCard : Claim7 := { stood := { row := fnExactGraphTextRow, standIns := [], harness := (true, "d4b68441f7a4a1c6f54d124a3ba485e583ab7ebbb0015188fb2bd3e0b4d0c272"), looks := false }, kinds := [], alts := [], laidByText := true, laidKinds := [.data, .data, .data], laidTests := true, laidLooks := .later }
def FnExactGraphTextCardSaid : Prop := Claim7.holds Tryd.pinned (.plain (OpenSpec.ofChange fnExactGraphTextSpec)) fnExactGraphTextCard

/-- THE SECOND FORM's CARD OF 'laws.FnExactImageOfAddress'. -/
def fnExactImageOfAddressUptoCard : Claim7 := { stood := { row := fnExactImageOfAddressUptoRow, standIns := [], harness := (true, "d4b68441f7a4a1c6f54d124a3ba485e583ab7ebbb0015188fb2bd3e0b4d0c272"), looks := false }, kinds := [], alts := [], laidByText := true, laidKinds := [.data, .pinned], laidTests := true, laidLooks := .later }
def FnExactImageOfAddressUptoCardSaid : Prop := Claim7.holds Tryd.pinned (.plain (OpenSpec.upto fnExactImageOfAddressSpec)) fnExactImageOfAddressUptoCard

/-- THE SECOND FORM's CARD OF 'laws.FnExactParseForest'. -/
def fnExactParseForestUptoCard : Claim7 := { stood := { row := fnExactParseForestUptoRow, standIns := [], harness := (true, "d4b68441f7a4a1c6f54d124a3ba485e583ab7ebbb0015188fb2bd3e0b4d0c272"), looks := false }, kinds := [], alts := [], laidByText := true, laidKinds := [.data, .pinned], laidTests := true, laidLooks := .later }
def FnExactParseForestUptoCardSaid : Prop := Claim7.holds Tryd.pinned (.plain (OpenSpec.upto fnExactParseForestSpec)) fnExactParseForestUptoCard

/-- THE SECOND FORM's CARD OF 'laws.FnExactGraphText'. -/
def fnExactGraphTextUptoCard : Claim7 := { stood := { row := fnExactGraphTextUptoRow, standIns := [], harness := (true, "d4b68441f7a4a1c6f54d124a3ba485e583ab7ebbb0015188fb2bd3e0b4d0c272"), looks := false }, kinds := [], alts := [], laidByText := true, laidKinds := [.data, .data, .data], laidTests := true, laidLooks := .later }
def FnExactGraphTextUptoCardSaid : Prop := Claim7.holds Tryd.pinned (.plain (OpenSpec.upto fnExactGraphTextSpec)) fnExactGraphTextUptoCard
end Rows
end Go.Proofs.YtcnmifjicepkhaaDoor
