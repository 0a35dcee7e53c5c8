/-
  DERIVED. GIVEN WITH THE SEED: THE CARDS: each row of YtkeibjejncpgnaaGreatDoorRows.lean that lists a variable, with what it lists TIED to the program's text (the seventh form; the later family's looks); each row that meets fmt, with fmt's text TOLD by the authors' own Lean function (tested against real Go, not proved from fmt's source: count such statements apart). THE CARD IS WHAT COUNTS. Prove the row's statement (the work); the ties are given (YtkeibjejncpgnaaGreatDoorTie.lean); close each card by the builder's one call (the guide's Derived/Test/ToyasCard.lean, 'card_holds'). Laid BY PROGRAM, IN A SANDBOX (cutbox-door.mjs). By AI agents, Wed Nov 11 2026. No macro, syntax, notation, axiom, sorry.
-/
import Derived.Test.YtkeibjejncpgnaaGreatDoorRows
import GoSem.ClaimSeven
namespace Go.Proofs.YtkeibjejncpgnaaGreatDoor
namespace Rows

/-- THE TIED CARD OF 'jobshelllaw21.ExpandAll'. -/
def expandAllCard : Claim7 := { stood := { row := expandAllRow, standIns := [], harness := (true, "8191cc92100ece26137ec9239503d1c28468455779b65bf7161d8d5e7c504613"), looks := true }, kinds := [], alts := [], laidByText := true, laidKinds := [.data, .data, .data, .data, .pinned], laidTests := true, laidLooks := .later }
def ExpandAllCardSaid : Prop := Claim7.holds Tryz.pinned (.plain (OpenSpec.ofChange expandAllSpec)) expandAllCard

/-- THE SECOND FORM's CARD OF 'jobshelllaw21.ExpandAll'. -/
def expandAllUptoCard : Claim7 := { stood := { row := expandAllUptoRow, standIns := [], harness := (true, "8191cc92100ece26137ec9239503d1c28468455779b65bf7161d8d5e7c504613"), looks := true }, kinds := [], alts := [], laidByText := true, laidKinds := [.data, .data, .data, .data, .pinned], laidTests := true, laidLooks := .later }
def ExpandAllUptoCardSaid : Prop := Claim7.holds Tryz.pinned (.plain (OpenSpec.upto expandAllSpec)) expandAllUptoCard
end Rows
end Go.Proofs.YtkeibjejncpgnaaGreatDoor
