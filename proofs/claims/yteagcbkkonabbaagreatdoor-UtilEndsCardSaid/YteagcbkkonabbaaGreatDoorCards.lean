/-
  DERIVED. GIVEN WITH THE SEED: THE CARDS: each row of YteagcbkkonabbaaGreatDoorRows.lean that lists a variable, with what it lists TIED to the program's text (the seventh form; the later family's looks); each row that meets fmt, with fmt's text TOLD by the authors' own Lean function (tested against real Go, not proved from fmt's source: count such statements apart). THE CARD IS WHAT COUNTS. Prove the row's statement (the work); the ties are given (YteagcbkkonabbaaGreatDoorTie.lean); close each card by the builder's one call (the guide's Derived/Test/ToyasCard.lean, 'card_holds'). Laid BY PROGRAM, IN A SANDBOX (cutbox-door.mjs). By AI agents, Wed Nov 11 2026. No macro, syntax, notation, axiom, sorry.
-/
import Derived.Test.YteagcbkkonabbaaGreatDoorRows
import GoSem.ClaimSeven
namespace Go.Proofs.YteagcbkkonabbaaGreatDoor
namespace Rows

/-- THE TIED CARD OF 'jobshelllaw31.UtilStarts'. -/
def utilStartsCard : Claim7 := { stood := { row := utilStartsRow, standIns := [], harness := (true, "ce234dee472abb3233f8b1294aa0d25522ab3b3ad3bdb5cf72057904d8aaf208"), looks := true }, kinds := [], alts := [], laidByText := true, laidKinds := [.data, .data, .data, .data, .sentinel, .sentinel, .widerDeep, .pinned], laidTests := true, laidLooks := .later }
def UtilStartsCardSaid : Prop := Claim7.holds Tryz.pinned (.plain (OpenSpec.ofChange utilStartsSpec)) utilStartsCard

/-- THE TIED CARD OF 'jobshelllaw31.UtilCats'. -/
def utilCatsCard : Claim7 := { stood := { row := utilCatsRow, standIns := [], harness := (true, "ce234dee472abb3233f8b1294aa0d25522ab3b3ad3bdb5cf72057904d8aaf208"), looks := true }, kinds := [], alts := [], laidByText := true, laidKinds := [.data, .data, .data, .data, .sentinel, .sentinel, .widerDeep, .pinned], laidTests := true, laidLooks := .later }
def UtilCatsCardSaid : Prop := Claim7.holds Tryz.pinned (.plain (OpenSpec.ofChange utilCatsSpec)) utilCatsCard

/-- THE TIED CARD OF 'jobshelllaw31.UtilHeads'. -/
def utilHeadsCard : Claim7 := { stood := { row := utilHeadsRow, standIns := [], harness := (true, "ce234dee472abb3233f8b1294aa0d25522ab3b3ad3bdb5cf72057904d8aaf208"), looks := true }, kinds := [], alts := [], laidByText := true, laidKinds := [.data, .data, .data, .data, .sentinel, .sentinel, .widerDeep, .pinned], laidTests := true, laidLooks := .later }
def UtilHeadsCardSaid : Prop := Claim7.holds Tryz.pinned (.plain (OpenSpec.ofChange utilHeadsSpec)) utilHeadsCard

/-- THE TIED CARD OF 'jobshelllaw31.UtilSorts'. -/
def utilSortsCard : Claim7 := { stood := { row := utilSortsRow, standIns := [], harness := (true, "ce234dee472abb3233f8b1294aa0d25522ab3b3ad3bdb5cf72057904d8aaf208"), looks := true }, kinds := [], alts := [], laidByText := true, laidKinds := [.data, .data, .data, .data, .sentinel, .sentinel, .widerDeep, .pinned], laidTests := true, laidLooks := .later }
def UtilSortsCardSaid : Prop := Claim7.holds Tryz.pinned (.plain (OpenSpec.ofChange utilSortsSpec)) utilSortsCard

/-- THE TIED CARD OF 'jobshelllaw31.UtilGreps'. -/
def utilGrepsCard : Claim7 := { stood := { row := utilGrepsRow, standIns := [], harness := (true, "ce234dee472abb3233f8b1294aa0d25522ab3b3ad3bdb5cf72057904d8aaf208"), looks := true }, kinds := [], alts := [], laidByText := true, laidKinds := [.data, .data, .data, .data, .sentinel, .sentinel, .widerDeep, .pinned], laidTests := true, laidLooks := .later }
def UtilGrepsCardSaid : Prop := Claim7.holds Tryz.pinned (.plain (OpenSpec.ofChange utilGrepsSpec)) utilGrepsCard

/-- THE TIED CARD OF 'jobshelllaw31.UtilEnds'. -/
def utilEndsCard : Claim7 := { stood := { row := utilEndsRow, standIns := [], harness := (true, "ce234dee472abb3233f8b1294aa0d25522ab3b3ad3bdb5cf72057904d8aaf208"), looks := true }, kinds := [], alts := [], laidByText := true, laidKinds := [.data, .data, .data, .data, .sentinel, .sentinel, .widerDeep, .pinned], laidTests := true, laidLooks := .later }
def UtilEndsCardSaid : Prop := Claim7.holds Tryz.pinned (.plain (OpenSpec.ofChange utilEndsSpec)) utilEndsCard

/-- THE SECOND FORM's CARD OF 'jobshelllaw31.UtilStarts'. -/
def utilStartsUptoCard : Claim7 := { stood := { row := utilStartsUptoRow, standIns := [], harness := (true, "ce234dee472abb3233f8b1294aa0d25522ab3b3ad3bdb5cf72057904d8aaf208"), looks := true }, kinds := [], alts := [], laidByText := true, laidKinds := [.data, .data, .data, .data, .sentinel, .sentinel, .widerDeep, .pinned], laidTests := true, laidLooks := .later }
def UtilStartsUptoCardSaid : Prop := Claim7.holds Tryz.pinned (.plain (OpenSpec.upto utilStartsSpec)) utilStartsUptoCard

/-- THE SECOND FORM's CARD OF 'jobshelllaw31.UtilCats'. -/
def utilCatsUptoCard : Claim7 := { stood := { row := utilCatsUptoRow, standIns := [], harness := (true, "ce234dee472abb3233f8b1294aa0d25522ab3b3ad3bdb5cf72057904d8aaf208"), looks := true }, kinds := [], alts := [], laidByText := true, laidKinds := [.data, .data, .data, .data, .sentinel, .sentinel, .widerDeep, .pinned], laidTests := true, laidLooks := .later }
def UtilCatsUptoCardSaid : Prop := Claim7.holds Tryz.pinned (.plain (OpenSpec.upto utilCatsSpec)) utilCatsUptoCard

/-- THE SECOND FORM's CARD OF 'jobshelllaw31.UtilHeads'. -/
def utilHeadsUptoCard : Claim7 := { stood := { row := utilHeadsUptoRow, standIns := [], harness := (true, "ce234dee472abb3233f8b1294aa0d25522ab3b3ad3bdb5cf72057904d8aaf208"), looks := true }, kinds := [], alts := [], laidByText := true, laidKinds := [.data, .data, .data, .data, .sentinel, .sentinel, .widerDeep, .pinned], laidTests := true, laidLooks := .later }
def UtilHeadsUptoCardSaid : Prop := Claim7.holds Tryz.pinned (.plain (OpenSpec.upto utilHeadsSpec)) utilHeadsUptoCard

/-- THE SECOND FORM's CARD OF 'jobshelllaw31.UtilSorts'. -/
def utilSortsUptoCard : Claim7 := { stood := { row := utilSortsUptoRow, standIns := [], harness := (true, "ce234dee472abb3233f8b1294aa0d25522ab3b3ad3bdb5cf72057904d8aaf208"), looks := true }, kinds := [], alts := [], laidByText := true, laidKinds := [.data, .data, .data, .data, .sentinel, .sentinel, .widerDeep, .pinned], laidTests := true, laidLooks := .later }
def UtilSortsUptoCardSaid : Prop := Claim7.holds Tryz.pinned (.plain (OpenSpec.upto utilSortsSpec)) utilSortsUptoCard

/-- THE SECOND FORM's CARD OF 'jobshelllaw31.UtilGreps'. -/
def utilGrepsUptoCard : Claim7 := { stood := { row := utilGrepsUptoRow, standIns := [], harness := (true, "ce234dee472abb3233f8b1294aa0d25522ab3b3ad3bdb5cf72057904d8aaf208"), looks := true }, kinds := [], alts := [], laidByText := true, laidKinds := [.data, .data, .data, .data, .sentinel, .sentinel, .widerDeep, .pinned], laidTests := true, laidLooks := .later }
def UtilGrepsUptoCardSaid : Prop := Claim7.holds Tryz.pinned (.plain (OpenSpec.upto utilGrepsSpec)) utilGrepsUptoCard

/-- THE SECOND FORM's CARD OF 'jobshelllaw31.UtilEnds'. -/
def utilEndsUptoCard : Claim7 := { stood := { row := utilEndsUptoRow, standIns := [], harness := (true, "ce234dee472abb3233f8b1294aa0d25522ab3b3ad3bdb5cf72057904d8aaf208"), looks := true }, kinds := [], alts := [], laidByText := true, laidKinds := [.data, .data, .data, .data, .sentinel, .sentinel, .widerDeep, .pinned], laidTests := true, laidLooks := .later }
def UtilEndsUptoCardSaid : Prop := Claim7.holds Tryz.pinned (.plain (OpenSpec.upto utilEndsSpec)) utilEndsUptoCard
end Rows
end Go.Proofs.YteagcbkkonabbaaGreatDoor
