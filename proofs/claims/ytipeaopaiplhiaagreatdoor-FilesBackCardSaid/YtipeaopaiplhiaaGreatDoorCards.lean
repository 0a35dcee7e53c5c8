/-
  DERIVED. GIVEN WITH THE SEED: THE CARDS: each row of YtipeaopaiplhiaaGreatDoorRows.lean that lists a variable, with what it lists TIED to the program's text (the seventh form; the later family's looks); each row that meets fmt, with fmt's text TOLD by the authors' own Lean function (tested against real Go, not proved from fmt's source: count such statements apart). THE CARD IS WHAT COUNTS. Prove the row's statement (the work); the ties are given (YtipeaopaiplhiaaGreatDoorTie.lean); close each card by the builder's one call (the guide's Derived/Test/ToyasCard.lean, 'card_holds'). Laid BY PROGRAM, IN A SANDBOX (cutbox-door.mjs). By AI agents, Wed Nov 11 2026. No macro, syntax, notation, axiom, sorry.
-/
import Derived.Test.YtipeaopaiplhiaaGreatDoorRows
import GoSem.ClaimSeven
namespace Go.Proofs.YtipeaopaiplhiaaGreatDoor
namespace Rows

/-- THE TIED CARD OF 'jobshelllaw19.FilesRenames'. -/
def filesRenamesCard : Claim7 := { stood := { row := filesRenamesRow, standIns := [], harness := (true, "6d9acd4ae72241cc81743a1bf1ee5eb82a25b571bc89f1cf23b706071cff58c4"), looks := false }, kinds := [], alts := [], laidByText := true, laidKinds := [.data, .pinned], laidTests := true, laidLooks := .later }
def FilesRenamesCardSaid : Prop := Claim7.holds Tryz.pinned (.plain (OpenSpec.ofChange filesRenamesSpec)) filesRenamesCard

/-- THE TIED CARD OF 'jobshelllaw19.FilesStay'. -/
def filesStayCard : Claim7 := { stood := { row := filesStayRow, standIns := [], harness := (true, "6d9acd4ae72241cc81743a1bf1ee5eb82a25b571bc89f1cf23b706071cff58c4"), looks := false }, kinds := [], alts := [], laidByText := true, laidKinds := [.data, .pinned], laidTests := true, laidLooks := .later }
def FilesStayCardSaid : Prop := Claim7.holds Tryz.pinned (.plain (OpenSpec.ofChange filesStaySpec)) filesStayCard

/-- THE TIED CARD OF 'jobshelllaw19.FilesBack'. -/
def filesBackCard : Claim7 := { stood := { row := filesBackRow, standIns := [], harness := (true, "6d9acd4ae72241cc81743a1bf1ee5eb82a25b571bc89f1cf23b706071cff58c4"), looks := false }, kinds := [], alts := [], laidByText := true, laidKinds := [.data, .pinned], laidTests := true, laidLooks := .later }
def FilesBackCardSaid : Prop := Claim7.holds Tryz.pinned (.plain (OpenSpec.ofChange filesBackSpec)) filesBackCard

/-- THE SECOND FORM's CARD OF 'jobshelllaw19.FilesRenames'. -/
def filesRenamesUptoCard : Claim7 := { stood := { row := filesRenamesUptoRow, standIns := [], harness := (true, "6d9acd4ae72241cc81743a1bf1ee5eb82a25b571bc89f1cf23b706071cff58c4"), looks := false }, kinds := [], alts := [], laidByText := true, laidKinds := [.data, .pinned], laidTests := true, laidLooks := .later }
def FilesRenamesUptoCardSaid : Prop := Claim7.holds Tryz.pinned (.plain (OpenSpec.upto filesRenamesSpec)) filesRenamesUptoCard

/-- THE SECOND FORM's CARD OF 'jobshelllaw19.FilesStay'. -/
def filesStayUptoCard : Claim7 := { stood := { row := filesStayUptoRow, standIns := [], harness := (true, "6d9acd4ae72241cc81743a1bf1ee5eb82a25b571bc89f1cf23b706071cff58c4"), looks := false }, kinds := [], alts := [], laidByText := true, laidKinds := [.data, .pinned], laidTests := true, laidLooks := .later }
def FilesStayUptoCardSaid : Prop := Claim7.holds Tryz.pinned (.plain (OpenSpec.upto filesStaySpec)) filesStayUptoCard

/-- THE SECOND FORM's CARD OF 'jobshelllaw19.FilesBack'. -/
def filesBackUptoCard : Claim7 := { stood := { row := filesBackUptoRow, standIns := [], harness := (true, "6d9acd4ae72241cc81743a1bf1ee5eb82a25b571bc89f1cf23b706071cff58c4"), looks := false }, kinds := [], alts := [], laidByText := true, laidKinds := [.data, .pinned], laidTests := true, laidLooks := .later }
def FilesBackUptoCardSaid : Prop := Claim7.holds Tryz.pinned (.plain (OpenSpec.upto filesBackSpec)) filesBackUptoCard
end Rows
end Go.Proofs.YtipeaopaiplhiaaGreatDoor
