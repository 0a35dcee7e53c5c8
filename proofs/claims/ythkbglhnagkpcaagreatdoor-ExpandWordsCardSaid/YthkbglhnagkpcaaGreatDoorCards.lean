/-
  DERIVED. GIVEN WITH THE SEED: THE CARDS: each row of YthkbglhnagkpcaaGreatDoorRows.lean that lists a variable, with what it lists TIED to the program's text (the seventh form; the later family's looks); each row that meets fmt, with fmt's text TOLD by the authors' own Lean function (tested against real Go, not proved from fmt's source: count such statements apart). THE CARD IS WHAT COUNTS. Prove the row's statement (the work); the ties are given (YthkbglhnagkpcaaGreatDoorTie.lean); close each card by the builder's one call (the guide's Derived/Test/ToyasCard.lean, 'card_holds'). Laid BY PROGRAM, IN A SANDBOX (cutbox-door.mjs). By AI agents, Wed Nov 11 2026. No macro, syntax, notation, axiom, sorry.
-/
import Derived.Test.YthkbglhnagkpcaaGreatDoorRows
import GoSem.ClaimSeven
namespace Go.Proofs.YthkbglhnagkpcaaGreatDoor
namespace Rows

/-- THE TIED CARD OF 'jobshelllaw21.ExpandWords'. -/
def expandWordsCard : Claim7 := { stood := { row := expandWordsRow, standIns := [], harness := (true, "607038fb5512deb5935aad1a7e9a098c84c5bce58e33ed81b2101247abf044c3"), looks := true }, kinds := [], alts := [], laidByText := true, laidKinds := [.data, .data, .data, .data, .pinned], laidTests := true, laidLooks := .later }
def ExpandWordsCardSaid : Prop := Claim7.holds Tryz.pinned (.plain (OpenSpec.ofChange expandWordsSpec)) expandWordsCard

/-- THE SECOND FORM's CARD OF 'jobshelllaw21.ExpandWords'. -/
def expandWordsUptoCard : Claim7 := { stood := { row := expandWordsUptoRow, standIns := [], harness := (true, "607038fb5512deb5935aad1a7e9a098c84c5bce58e33ed81b2101247abf044c3"), looks := true }, kinds := [], alts := [], laidByText := true, laidKinds := [.data, .data, .data, .data, .pinned], laidTests := true, laidLooks := .later }
def ExpandWordsUptoCardSaid : Prop := Claim7.holds Tryz.pinned (.plain (OpenSpec.upto expandWordsSpec)) expandWordsUptoCard
end Rows
end Go.Proofs.YthkbglhnagkpcaaGreatDoor
