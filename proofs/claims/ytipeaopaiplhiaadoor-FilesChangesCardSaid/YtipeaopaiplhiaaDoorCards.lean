/-
  DERIVED. GIVEN WITH THE SEED: THE CARDS: each row of YtipeaopaiplhiaaDoorRows.lean that lists a variable, with what it lists TIED to the program's text (the seventh form; the later family's looks); each row that meets fmt, with fmt's text TOLD by the authors' own Lean function (tested against real Go, not proved from fmt's source: count such statements apart). THE CARD IS WHAT COUNTS. Prove the row's statement (the work); the ties are given (YtipeaopaiplhiaaDoorTie.lean); close each card by the builder's one call (the guide's Derived/Test/ToyasCard.lean, 'card_holds'). Laid BY PROGRAM, IN A SANDBOX (cutbox-door.mjs). By AI agents, Wed Nov 11 2026. No macro, syntax, notation, axiom, sorry.
-/
import Derived.Test.YtipeaopaiplhiaaDoorRows
import GoSem.ClaimSeven
namespace Go.Proofs.YtipeaopaiplhiaaDoor
namespace Rows

/-- THE TIED CARD OF 'jobshelllaw19.FilesValid'. -/
def filesValidCard : Claim7 := { stood := { row := filesValidRow, standIns := [], harness := (true, "482b044c93707541ee9b32bcb474f8edcaea39cf33a9917cb06d3a703fa3e4de"), looks := false }, kinds := [], alts := [], laidByText := true, laidKinds := [.data, .pinned], laidTests := true, laidLooks := .later }
def FilesValidCardSaid : Prop := Claim7.holds Tryd.pinned (.plain (OpenSpec.ofChange filesValidSpec)) filesValidCard

/-- THE TIED CARD OF 'jobshelllaw19.FilesCleans'. -/
def filesCleansCard : Claim7 := { stood := { row := filesCleansRow, standIns := [], harness := (true, "482b044c93707541ee9b32bcb474f8edcaea39cf33a9917cb06d3a703fa3e4de"), looks := false }, kinds := [], alts := [], laidByText := true, laidKinds := [.data, .pinned], laidTests := true, laidLooks := .later }
def FilesCleansCardSaid : Prop := Claim7.holds Tryd.pinned (.plain (OpenSpec.ofChange filesCleansSpec)) filesCleansCard

/-- THE TIED CARD OF 'jobshelllaw19.FilesClosed'. -/
def filesClosedCard : Claim7 := { stood := { row := filesClosedRow, standIns := [], harness := (true, "482b044c93707541ee9b32bcb474f8edcaea39cf33a9917cb06d3a703fa3e4de"), looks := false }, kinds := [], alts := [], laidByText := true, laidKinds := [.data, .pinned], laidTests := true, laidLooks := .later }
def FilesClosedCardSaid : Prop := Claim7.holds Tryd.pinned (.plain (OpenSpec.ofChange filesClosedSpec)) filesClosedCard

/-- THE TIED CARD OF 'jobshelllaw19.FilesLooks'. -/
def filesLooksCard : Claim7 := { stood := { row := filesLooksRow, standIns := [], harness := (true, "482b044c93707541ee9b32bcb474f8edcaea39cf33a9917cb06d3a703fa3e4de"), looks := false }, kinds := [], alts := [], laidByText := true, laidKinds := [.data, .pinned], laidTests := true, laidLooks := .later }
def FilesLooksCardSaid : Prop := Claim7.holds Tryd.pinned (.plain (OpenSpec.ofChange filesLooksSpec)) filesLooksCard

/-- THE TIED CARD OF 'jobshelllaw19.FilesChanges'. -/
def filesChangesCard : Claim7 := { stood := { row := filesChangesRow, standIns := [], harness := (true, "482b044c93707541ee9b32bcb474f8edcaea39cf33a9917cb06d3a703fa3e4de"), looks := false }, kinds := [], alts := [], laidByText := true, laidKinds := [.data, .pinned], laidTests := true, laidLooks := .later }
def FilesChangesCardSaid : Prop := Claim7.holds Tryd.pinned (.plain (OpenSpec.ofChange filesChangesSpec)) filesChangesCard

/-- THE SECOND FORM's CARD OF 'jobshelllaw19.FilesValid'. -/
def filesValidUptoCard : Claim7 := { stood := { row := filesValidUptoRow, standIns := [], harness := (true, "482b044c93707541ee9b32bcb474f8edcaea39cf33a9917cb06d3a703fa3e4de"), looks := false }, kinds := [], alts := [], laidByText := true, laidKinds := [.data, .pinned], laidTests := true, laidLooks := .later }
def FilesValidUptoCardSaid : Prop := Claim7.holds Tryd.pinned (.plain (OpenSpec.upto filesValidSpec)) filesValidUptoCard

/-- THE SECOND FORM's CARD OF 'jobshelllaw19.FilesCleans'. -/
def filesCleansUptoCard : Claim7 := { stood := { row := filesCleansUptoRow, standIns := [], harness := (true, "482b044c93707541ee9b32bcb474f8edcaea39cf33a9917cb06d3a703fa3e4de"), looks := false }, kinds := [], alts := [], laidByText := true, laidKinds := [.data, .pinned], laidTests := true, laidLooks := .later }
def FilesCleansUptoCardSaid : Prop := Claim7.holds Tryd.pinned (.plain (OpenSpec.upto filesCleansSpec)) filesCleansUptoCard

/-- THE SECOND FORM's CARD OF 'jobshelllaw19.FilesClosed'. -/
def filesClosedUptoCard : Claim7 := { stood := { row := filesClosedUptoRow, standIns := [], harness := (true, "482b044c93707541ee9b32bcb474f8edcaea39cf33a9917cb06d3a703fa3e4de"), looks := false }, kinds := [], alts := [], laidByText := true, laidKinds := [.data, .pinned], laidTests := true, laidLooks := .later }
def FilesClosedUptoCardSaid : Prop := Claim7.holds Tryd.pinned (.plain (OpenSpec.upto filesClosedSpec)) filesClosedUptoCard

/-- THE SECOND FORM's CARD OF 'jobshelllaw19.FilesLooks'. -/
def filesLooksUptoCard : Claim7 := { stood := { row := filesLooksUptoRow, standIns := [], harness := (true, "482b044c93707541ee9b32bcb474f8edcaea39cf33a9917cb06d3a703fa3e4de"), looks := false }, kinds := [], alts := [], laidByText := true, laidKinds := [.data, .pinned], laidTests := true, laidLooks := .later }
def FilesLooksUptoCardSaid : Prop := Claim7.holds Tryd.pinned (.plain (OpenSpec.upto filesLooksSpec)) filesLooksUptoCard

/-- THE SECOND FORM's CARD OF 'jobshelllaw19.FilesChanges'. -/
def filesChangesUptoCard : Claim7 := { stood := { row := filesChangesUptoRow, standIns := [], harness := (true, "482b044c93707541ee9b32bcb474f8edcaea39cf33a9917cb06d3a703fa3e4de"), looks := false }, kinds := [], alts := [], laidByText := true, laidKinds := [.data, .pinned], laidTests := true, laidLooks := .later }
def FilesChangesUptoCardSaid : Prop := Claim7.holds Tryd.pinned (.plain (OpenSpec.upto filesChangesSpec)) filesChangesUptoCard
end Rows
end Go.Proofs.YtipeaopaiplhiaaDoor
