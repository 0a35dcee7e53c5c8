/-
  DERIVED. GIVEN WITH THE SEED: THE CARDS: each row of YtlgmlcgjmcmmgaaGreatDoorRows.lean that lists a variable, with what it lists TIED to the program's text (the seventh form; the later family's looks); each row that meets fmt, with fmt's text TOLD by the authors' own Lean function (tested against real Go, not proved from fmt's source: count such statements apart). THE CARD IS WHAT COUNTS. Prove the row's statement (the work); the ties are given (YtlgmlcgjmcmmgaaGreatDoorTie.lean); close each card by the builder's one call (the guide's Derived/Test/ToyasCard.lean, 'card_holds'). Laid BY PROGRAM, IN A SANDBOX (cutbox-door.mjs). By AI agents, Wed Nov 11 2026. No macro, syntax, notation, axiom, sorry.
-/
import Derived.Test.YtlgmlcgjmcmmgaaGreatDoorRows
import GoSem.ClaimSeven
namespace Go.Proofs.YtlgmlcgjmcmmgaaGreatDoor
namespace Rows

/-- THE TIED CARD OF 'jobshelllaw21.ExpandAssigns'. -/
def expandAssignsCard : Claim7 := { stood := { row := expandAssignsRow, standIns := [], harness := (true, "6207e9f60917a9b2fc1aabc87099dd027ee420c08feaf0729c5cf8799560abc3"), looks := true }, kinds := [], alts := [], laidByText := true, laidKinds := [.data, .data, .data, .data, .pinned], laidTests := true, laidLooks := .later }
def ExpandAssignsCardSaid : Prop := Claim7.holds Tryz.pinned (.plain (OpenSpec.ofChange expandAssignsSpec)) expandAssignsCard

/-- THE SECOND FORM's CARD OF 'jobshelllaw21.ExpandAssigns'. -/
def expandAssignsUptoCard : Claim7 := { stood := { row := expandAssignsUptoRow, standIns := [], harness := (true, "6207e9f60917a9b2fc1aabc87099dd027ee420c08feaf0729c5cf8799560abc3"), looks := true }, kinds := [], alts := [], laidByText := true, laidKinds := [.data, .data, .data, .data, .pinned], laidTests := true, laidLooks := .later }
def ExpandAssignsUptoCardSaid : Prop := Claim7.holds Tryz.pinned (.plain (OpenSpec.upto expandAssignsSpec)) expandAssignsUptoCard
end Rows
end Go.Proofs.YtlgmlcgjmcmmgaaGreatDoor
