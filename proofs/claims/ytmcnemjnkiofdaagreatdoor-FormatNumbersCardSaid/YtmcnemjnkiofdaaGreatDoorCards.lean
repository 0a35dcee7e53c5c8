/-
  DERIVED. GIVEN WITH THE SEED: THE CARDS: each row of YtmcnemjnkiofdaaGreatDoorRows.lean that lists a variable, with what it lists TIED to the program's text (the seventh form; the later family's looks); each row that meets fmt, with fmt's text TOLD by the authors' own Lean function (tested against real Go, not proved from fmt's source: count such statements apart). THE CARD IS WHAT COUNTS. Prove the row's statement (the work); the ties are given (YtmcnemjnkiofdaaGreatDoorTie.lean); close each card by the builder's one call (the guide's Derived/Test/ToyasCard.lean, 'card_holds'). Laid BY PROGRAM, IN A SANDBOX (cutbox-door.mjs). By AI agents, Wed Nov 11 2026. No macro, syntax, notation, axiom, sorry.
-/
import Derived.Test.YtmcnemjnkiofdaaGreatDoorRows
import GoSem.ClaimSeven
namespace Go.Proofs.YtmcnemjnkiofdaaGreatDoor
namespace Rows

/-- THE TIED CARD OF 'jobshelllaw30.FormatPrintfs'. -/
def formatPrintfsCard : Claim7 := { stood := { row := formatPrintfsRow, standIns := [], harness := (true, "99431a44bdc5dd6ac5ae1a62dc314076ffedfeea197e57c83ca095f160cf4062"), looks := false }, kinds := [], alts := [], laidByText := true, laidKinds := [.data, .data, .data], laidTests := true, laidLooks := .later }
def FormatPrintfsCardSaid : Prop := Claim7.holds Tryz.pinned (.plain (OpenSpec.ofChange formatPrintfsSpec)) formatPrintfsCard

/-- THE TIED CARD OF 'jobshelllaw30.FormatEchos'. -/
def formatEchosCard : Claim7 := { stood := { row := formatEchosRow, standIns := [], harness := (true, "99431a44bdc5dd6ac5ae1a62dc314076ffedfeea197e57c83ca095f160cf4062"), looks := false }, kinds := [], alts := [], laidByText := true, laidKinds := [.data, .data, .data], laidTests := true, laidLooks := .later }
def FormatEchosCardSaid : Prop := Claim7.holds Tryz.pinned (.plain (OpenSpec.ofChange formatEchosSpec)) formatEchosCard

/-- THE TIED CARD OF 'jobshelllaw30.FormatNumbers'. -/
def formatNumbersCard : Claim7 := { stood := { row := formatNumbersRow, standIns := [], harness := (true, "99431a44bdc5dd6ac5ae1a62dc314076ffedfeea197e57c83ca095f160cf4062"), looks := false }, kinds := [], alts := [], laidByText := true, laidKinds := [.data, .data, .data], laidTests := true, laidLooks := .later }
def FormatNumbersCardSaid : Prop := Claim7.holds Tryz.pinned (.plain (OpenSpec.ofChange formatNumbersSpec)) formatNumbersCard

/-- THE SECOND FORM's CARD OF 'jobshelllaw30.FormatPrintfs'. -/
def formatPrintfsUptoCard : Claim7 := { stood := { row := formatPrintfsUptoRow, standIns := [], harness := (true, "99431a44bdc5dd6ac5ae1a62dc314076ffedfeea197e57c83ca095f160cf4062"), looks := false }, kinds := [], alts := [], laidByText := true, laidKinds := [.data, .data, .data], laidTests := true, laidLooks := .later }
def FormatPrintfsUptoCardSaid : Prop := Claim7.holds Tryz.pinned (.plain (OpenSpec.upto formatPrintfsSpec)) formatPrintfsUptoCard

/-- THE SECOND FORM's CARD OF 'jobshelllaw30.FormatEchos'. -/
def formatEchosUptoCard : Claim7 := { stood := { row := formatEchosUptoRow, standIns := [], harness := (true, "99431a44bdc5dd6ac5ae1a62dc314076ffedfeea197e57c83ca095f160cf4062"), looks := false }, kinds := [], alts := [], laidByText := true, laidKinds := [.data, .data, .data], laidTests := true, laidLooks := .later }
def FormatEchosUptoCardSaid : Prop := Claim7.holds Tryz.pinned (.plain (OpenSpec.upto formatEchosSpec)) formatEchosUptoCard

/-- THE SECOND FORM's CARD OF 'jobshelllaw30.FormatNumbers'. -/
def formatNumbersUptoCard : Claim7 := { stood := { row := formatNumbersUptoRow, standIns := [], harness := (true, "99431a44bdc5dd6ac5ae1a62dc314076ffedfeea197e57c83ca095f160cf4062"), looks := false }, kinds := [], alts := [], laidByText := true, laidKinds := [.data, .data, .data], laidTests := true, laidLooks := .later }
def FormatNumbersUptoCardSaid : Prop := Claim7.holds Tryz.pinned (.plain (OpenSpec.upto formatNumbersSpec)) formatNumbersUptoCard
end Rows
end Go.Proofs.YtmcnemjnkiofdaaGreatDoor
