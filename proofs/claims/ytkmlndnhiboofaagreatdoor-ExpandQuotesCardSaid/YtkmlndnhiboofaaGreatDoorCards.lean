/-
  DERIVED. GIVEN WITH THE SEED: THE CARDS: each row of YtkmlndnhiboofaaGreatDoorRows.lean that lists a variable, with what it lists TIED to the program's text (the seventh form; the later family's looks); each row that meets fmt, with fmt's text TOLD by the authors' own Lean function (tested against real Go, not proved from fmt's source: count such statements apart). THE CARD IS WHAT COUNTS. Prove the row's statement (the work); the ties are given (YtkmlndnhiboofaaGreatDoorTie.lean); close each card by the builder's one call (the guide's Derived/Test/ToyasCard.lean, 'card_holds'). Laid BY PROGRAM, IN A SANDBOX (cutbox-door.mjs). By AI agents, Wed Nov 11 2026. No macro, syntax, notation, axiom, sorry.
-/
import Derived.Test.YtkmlndnhiboofaaGreatDoorRows
import GoSem.ClaimSeven
namespace Go.Proofs.YtkmlndnhiboofaaGreatDoor
namespace Rows

/-- THE TIED CARD OF 'jobshelllaw21.ExpandQuotes'. -/
def expandQuotesCard : Claim7 := { stood := { row := expandQuotesRow, standIns := [], harness := (true, "4dfcb1320df68983f850311497df311a1a59582a73e24ebe0fb41581da319a42"), looks := true }, kinds := [], alts := [], laidByText := true, laidKinds := [.data, .data, .data, .data, .pinned], laidTests := true, laidLooks := .later }
def ExpandQuotesCardSaid : Prop := Claim7.holds Tryz.pinned (.plain (OpenSpec.ofChange expandQuotesSpec)) expandQuotesCard

/-- THE SECOND FORM's CARD OF 'jobshelllaw21.ExpandQuotes'. -/
def expandQuotesUptoCard : Claim7 := { stood := { row := expandQuotesUptoRow, standIns := [], harness := (true, "4dfcb1320df68983f850311497df311a1a59582a73e24ebe0fb41581da319a42"), looks := true }, kinds := [], alts := [], laidByText := true, laidKinds := [.data, .data, .data, .data, .pinned], laidTests := true, laidLooks := .later }
def ExpandQuotesUptoCardSaid : Prop := Claim7.holds Tryz.pinned (.plain (OpenSpec.upto expandQuotesSpec)) expandQuotesUptoCard
end Rows
end Go.Proofs.YtkmlndnhiboofaaGreatDoor
