/-
  DERIVED. GIVEN WITH THE SEED: THE CARDS: each row of YtjgkapeknmdedaaGreatDoorRows.lean that lists a variable, with what it lists TIED to the program's text (the seventh form; the later family's looks); each row that meets fmt, with fmt's text TOLD by the authors' own Lean function (tested against real Go, not proved from fmt's source: count such statements apart). THE CARD IS WHAT COUNTS. Prove the row's statement (the work); the ties are given (YtjgkapeknmdedaaGreatDoorTie.lean); close each card by the builder's one call (the guide's Derived/Test/ToyasCard.lean, 'card_holds'). Laid BY PROGRAM, IN A SANDBOX (cutbox-door.mjs). By AI agents, Wed Nov 11 2026. No macro, syntax, notation, axiom, sorry.
-/
import Derived.Test.YtjgkapeknmdedaaGreatDoorRows
import GoSem.ClaimSeven
namespace Go.Proofs.YtjgkapeknmdedaaGreatDoor
namespace Rows

/-- THE TIED CARD OF 'jobshelllaw21.ExpandPatterns'. -/
def expandPatternsCard : Claim7 := { stood := { row := expandPatternsRow, standIns := [], harness := (true, "e49b22786e0a351cabce865fb18522b3464496515dd8a2ab0b3d66756980fa87"), looks := true }, kinds := [], alts := [], laidByText := true, laidKinds := [.data, .data, .data, .data, .pinned], laidTests := true, laidLooks := .later }
def ExpandPatternsCardSaid : Prop := Claim7.holds Tryz.pinned (.plain (OpenSpec.ofChange expandPatternsSpec)) expandPatternsCard

/-- THE SECOND FORM's CARD OF 'jobshelllaw21.ExpandPatterns'. -/
def expandPatternsUptoCard : Claim7 := { stood := { row := expandPatternsUptoRow, standIns := [], harness := (true, "e49b22786e0a351cabce865fb18522b3464496515dd8a2ab0b3d66756980fa87"), looks := true }, kinds := [], alts := [], laidByText := true, laidKinds := [.data, .data, .data, .data, .pinned], laidTests := true, laidLooks := .later }
def ExpandPatternsUptoCardSaid : Prop := Claim7.holds Tryz.pinned (.plain (OpenSpec.upto expandPatternsSpec)) expandPatternsUptoCard
end Rows
end Go.Proofs.YtjgkapeknmdedaaGreatDoor
