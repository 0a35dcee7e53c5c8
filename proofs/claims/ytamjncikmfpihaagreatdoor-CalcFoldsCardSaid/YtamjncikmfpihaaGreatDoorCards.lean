/-
  DERIVED. GIVEN WITH THE SEED: THE CARDS: each row of YtamjncikmfpihaaGreatDoorRows.lean that lists a variable, with what it lists TIED to the program's text (the seventh form; the later family's looks); each row that meets fmt, with fmt's text TOLD by the authors' own Lean function (tested against real Go, not proved from fmt's source: count such statements apart). THE CARD IS WHAT COUNTS. Prove the row's statement (the work); the ties are given (YtamjncikmfpihaaGreatDoorTie.lean); close each card by the builder's one call (the guide's Derived/Test/ToyasCard.lean, 'card_holds'). Laid BY PROGRAM, IN A SANDBOX (cutbox-door.mjs). By AI agents, Wed Nov 11 2026. No macro, syntax, notation, axiom, sorry.
-/
import Derived.Test.YtamjncikmfpihaaGreatDoorRows
import GoSem.ClaimSeven
namespace Go.Proofs.YtamjncikmfpihaaGreatDoor
namespace Rows

/-- THE TIED CARD OF 'jobshelllaw06.CalcNumbers'. -/
def calcNumbersCard : Claim7 := { stood := { row := calcNumbersRow, standIns := [], harness := (true, "cecf96d93961ef72e687af4e7e8cf63e4f5b2f49556d751ae2eef463eb59185f"), looks := true }, kinds := [], alts := [], laidByText := true, laidKinds := [.data, .data, .data], laidTests := true, laidLooks := .later }
def CalcNumbersCardSaid : Prop := Claim7.holds Tryz.pinned (.plain (OpenSpec.ofChange calcNumbersSpec)) calcNumbersCard

/-- THE TIED CARD OF 'jobshelllaw06.CalcEvals'. -/
def calcEvalsCard : Claim7 := { stood := { row := calcEvalsRow, standIns := [], harness := (true, "cecf96d93961ef72e687af4e7e8cf63e4f5b2f49556d751ae2eef463eb59185f"), looks := true }, kinds := [], alts := [], laidByText := true, laidKinds := [.data, .data, .data], laidTests := true, laidLooks := .later }
def CalcEvalsCardSaid : Prop := Claim7.holds Tryz.pinned (.plain (OpenSpec.ofChange calcEvalsSpec)) calcEvalsCard

/-- THE TIED CARD OF 'jobshelllaw06.CalcTexts'. -/
def calcTextsCard : Claim7 := { stood := { row := calcTextsRow, standIns := [], harness := (true, "cecf96d93961ef72e687af4e7e8cf63e4f5b2f49556d751ae2eef463eb59185f"), looks := true }, kinds := [], alts := [], laidByText := true, laidKinds := [.data, .data, .data], laidTests := true, laidLooks := .later }
def CalcTextsCardSaid : Prop := Claim7.holds Tryz.pinned (.plain (OpenSpec.ofChange calcTextsSpec)) calcTextsCard

/-- THE TIED CARD OF 'jobshelllaw06.CalcFolds'. -/
def calcFoldsCard : Claim7 := { stood := { row := calcFoldsRow, standIns := [], harness := (true, "cecf96d93961ef72e687af4e7e8cf63e4f5b2f49556d751ae2eef463eb59185f"), looks := true }, kinds := [], alts := [], laidByText := true, laidKinds := [.data, .data, .data], laidTests := true, laidLooks := .later }
def CalcFoldsCardSaid : Prop := Claim7.holds Tryz.pinned (.plain (OpenSpec.ofChange calcFoldsSpec)) calcFoldsCard

/-- THE TIED CARD OF 'jobshelllaw06.CalcKeeps'. -/
def calcKeepsCard : Claim7 := { stood := { row := calcKeepsRow, standIns := [], harness := (true, "cecf96d93961ef72e687af4e7e8cf63e4f5b2f49556d751ae2eef463eb59185f"), looks := true }, kinds := [], alts := [], laidByText := true, laidKinds := [.data, .data, .data], laidTests := true, laidLooks := .later }
def CalcKeepsCardSaid : Prop := Claim7.holds Tryz.pinned (.plain (OpenSpec.ofChange calcKeepsSpec)) calcKeepsCard

/-- THE TIED CARD OF 'jobshelllaw06.CalcAssigns'. -/
def calcAssignsCard : Claim7 := { stood := { row := calcAssignsRow, standIns := [], harness := (true, "cecf96d93961ef72e687af4e7e8cf63e4f5b2f49556d751ae2eef463eb59185f"), looks := true }, kinds := [], alts := [], laidByText := true, laidKinds := [.data, .data, .data], laidTests := true, laidLooks := .later }
def CalcAssignsCardSaid : Prop := Claim7.holds Tryz.pinned (.plain (OpenSpec.ofChange calcAssignsSpec)) calcAssignsCard

/-- THE TIED CARD OF 'jobshelllaw06.CalcDivides'. -/
def calcDividesCard : Claim7 := { stood := { row := calcDividesRow, standIns := [], harness := (true, "cecf96d93961ef72e687af4e7e8cf63e4f5b2f49556d751ae2eef463eb59185f"), looks := true }, kinds := [], alts := [], laidByText := true, laidKinds := [.data, .data, .data], laidTests := true, laidLooks := .later }
def CalcDividesCardSaid : Prop := Claim7.holds Tryz.pinned (.plain (OpenSpec.ofChange calcDividesSpec)) calcDividesCard

/-- THE TIED CARD OF 'jobshelllaw06.CalcCompares'. -/
def calcComparesCard : Claim7 := { stood := { row := calcComparesRow, standIns := [], harness := (true, "cecf96d93961ef72e687af4e7e8cf63e4f5b2f49556d751ae2eef463eb59185f"), looks := true }, kinds := [], alts := [], laidByText := true, laidKinds := [.data, .data, .data], laidTests := true, laidLooks := .later }
def CalcComparesCardSaid : Prop := Claim7.holds Tryz.pinned (.plain (OpenSpec.ofChange calcComparesSpec)) calcComparesCard

/-- THE SECOND FORM's CARD OF 'jobshelllaw06.CalcNumbers'. -/
def calcNumbersUptoCard : Claim7 := { stood := { row := calcNumbersUptoRow, standIns := [], harness := (true, "cecf96d93961ef72e687af4e7e8cf63e4f5b2f49556d751ae2eef463eb59185f"), looks := true }, kinds := [], alts := [], laidByText := true, laidKinds := [.data, .data, .data], laidTests := true, laidLooks := .later }
def CalcNumbersUptoCardSaid : Prop := Claim7.holds Tryz.pinned (.plain (OpenSpec.upto calcNumbersSpec)) calcNumbersUptoCard

/-- THE SECOND FORM's CARD OF 'jobshelllaw06.CalcEvals'. -/
def calcEvalsUptoCard : Claim7 := { stood := { row := calcEvalsUptoRow, standIns := [], harness := (true, "cecf96d93961ef72e687af4e7e8cf63e4f5b2f49556d751ae2eef463eb59185f"), looks := true }, kinds := [], alts := [], laidByText := true, laidKinds := [.data, .data, .data], laidTests := true, laidLooks := .later }
def CalcEvalsUptoCardSaid : Prop := Claim7.holds Tryz.pinned (.plain (OpenSpec.upto calcEvalsSpec)) calcEvalsUptoCard

/-- THE SECOND FORM's CARD OF 'jobshelllaw06.CalcTexts'. -/
def calcTextsUptoCard : Claim7 := { stood := { row := calcTextsUptoRow, standIns := [], harness := (true, "cecf96d93961ef72e687af4e7e8cf63e4f5b2f49556d751ae2eef463eb59185f"), looks := true }, kinds := [], alts := [], laidByText := true, laidKinds := [.data, .data, .data], laidTests := true, laidLooks := .later }
def CalcTextsUptoCardSaid : Prop := Claim7.holds Tryz.pinned (.plain (OpenSpec.upto calcTextsSpec)) calcTextsUptoCard

/-- THE SECOND FORM's CARD OF 'jobshelllaw06.CalcFolds'. -/
def calcFoldsUptoCard : Claim7 := { stood := { row := calcFoldsUptoRow, standIns := [], harness := (true, "cecf96d93961ef72e687af4e7e8cf63e4f5b2f49556d751ae2eef463eb59185f"), looks := true }, kinds := [], alts := [], laidByText := true, laidKinds := [.data, .data, .data], laidTests := true, laidLooks := .later }
def CalcFoldsUptoCardSaid : Prop := Claim7.holds Tryz.pinned (.plain (OpenSpec.upto calcFoldsSpec)) calcFoldsUptoCard

/-- THE SECOND FORM's CARD OF 'jobshelllaw06.CalcKeeps'. -/
def calcKeepsUptoCard : Claim7 := { stood := { row := calcKeepsUptoRow, standIns := [], harness := (true, "cecf96d93961ef72e687af4e7e8cf63e4f5b2f49556d751ae2eef463eb59185f"), looks := true }, kinds := [], alts := [], laidByText := true, laidKinds := [.data, .data, .data], laidTests := true, laidLooks := .later }
def CalcKeepsUptoCardSaid : Prop := Claim7.holds Tryz.pinned (.plain (OpenSpec.upto calcKeepsSpec)) calcKeepsUptoCard

/-- THE SECOND FORM's CARD OF 'jobshelllaw06.CalcAssigns'. -/
def calcAssignsUptoCard : Claim7 := { stood := { row := calcAssignsUptoRow, standIns := [], harness := (true, "cecf96d93961ef72e687af4e7e8cf63e4f5b2f49556d751ae2eef463eb59185f"), looks := true }, kinds := [], alts := [], laidByText := true, laidKinds := [.data, .data, .data], laidTests := true, laidLooks := .later }
def CalcAssignsUptoCardSaid : Prop := Claim7.holds Tryz.pinned (.plain (OpenSpec.upto calcAssignsSpec)) calcAssignsUptoCard

/-- THE SECOND FORM's CARD OF 'jobshelllaw06.CalcDivides'. -/
def calcDividesUptoCard : Claim7 := { stood := { row := calcDividesUptoRow, standIns := [], harness := (true, "cecf96d93961ef72e687af4e7e8cf63e4f5b2f49556d751ae2eef463eb59185f"), looks := true }, kinds := [], alts := [], laidByText := true, laidKinds := [.data, .data, .data], laidTests := true, laidLooks := .later }
def CalcDividesUptoCardSaid : Prop := Claim7.holds Tryz.pinned (.plain (OpenSpec.upto calcDividesSpec)) calcDividesUptoCard

/-- THE SECOND FORM's CARD OF 'jobshelllaw06.CalcCompares'. -/
def calcComparesUptoCard : Claim7 := { stood := { row := calcComparesUptoRow, standIns := [], harness := (true, "cecf96d93961ef72e687af4e7e8cf63e4f5b2f49556d751ae2eef463eb59185f"), looks := true }, kinds := [], alts := [], laidByText := true, laidKinds := [.data, .data, .data], laidTests := true, laidLooks := .later }
def CalcComparesUptoCardSaid : Prop := Claim7.holds Tryz.pinned (.plain (OpenSpec.upto calcComparesSpec)) calcComparesUptoCard
end Rows
end Go.Proofs.YtamjncikmfpihaaGreatDoor
