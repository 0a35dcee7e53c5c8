/-
  DERIVED. GIVEN WITH THE SEED: THE CARDS: each row of YthmndfnkdgmenaaGreatDoorRows.lean that lists a variable, with what it lists TIED to the program's text (the seventh form; the later family's looks); each row that meets fmt, with fmt's text TOLD by the authors' own Lean function (tested against real Go, not proved from fmt's source: count such statements apart). THE CARD IS WHAT COUNTS. Prove the row's statement (the work); the ties are given (YthmndfnkdgmenaaGreatDoorTie.lean); close each card by the builder's one call (the guide's Derived/Test/ToyasCard.lean, 'card_holds'). Laid BY PROGRAM, IN A SANDBOX (cutbox-door.mjs). By AI agents, Wed Nov 11 2026. No macro, syntax, notation, axiom, sorry.
-/
import Derived.Test.YthmndfnkdgmenaaGreatDoorRows
import GoSem.ClaimSeven
namespace Go.Proofs.YthmndfnkdgmenaaGreatDoor
namespace Rows

/-- THE TIED CARD OF 'jobshelllaw21.ExpandTexts'. -/
def expandTextsCard : Claim7 := { stood := { row := expandTextsRow, standIns := [], harness := (true, "55e193ad713bba8a5a0dd2550e1697fe74efba736019d981746eabd7af77ae23"), looks := true }, kinds := [], alts := [], laidByText := true, laidKinds := [.data, .data, .data, .data, .pinned], laidTests := true, laidLooks := .later }
def ExpandTextsCardSaid : Prop := Claim7.holds Tryz.pinned (.plain (OpenSpec.ofChange expandTextsSpec)) expandTextsCard

/-- THE SECOND FORM's CARD OF 'jobshelllaw21.ExpandTexts'. -/
def expandTextsUptoCard : Claim7 := { stood := { row := expandTextsUptoRow, standIns := [], harness := (true, "55e193ad713bba8a5a0dd2550e1697fe74efba736019d981746eabd7af77ae23"), looks := true }, kinds := [], alts := [], laidByText := true, laidKinds := [.data, .data, .data, .data, .pinned], laidTests := true, laidLooks := .later }
def ExpandTextsUptoCardSaid : Prop := Claim7.holds Tryz.pinned (.plain (OpenSpec.upto expandTextsSpec)) expandTextsUptoCard
end Rows
end Go.Proofs.YthmndfnkdgmenaaGreatDoor
