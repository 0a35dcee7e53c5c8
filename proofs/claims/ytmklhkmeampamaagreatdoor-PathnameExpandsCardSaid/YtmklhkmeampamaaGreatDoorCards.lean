/-
  DERIVED. GIVEN WITH THE SEED: THE CARDS: each row of YtmklhkmeampamaaGreatDoorRows.lean that lists a variable, with what it lists TIED to the program's text (the seventh form; the later family's looks); each row that meets fmt, with fmt's text TOLD by the authors' own Lean function (tested against real Go, not proved from fmt's source: count such statements apart). THE CARD IS WHAT COUNTS. Prove the row's statement (the work); the ties are given (YtmklhkmeampamaaGreatDoorTie.lean); close each card by the builder's one call (the guide's Derived/Test/ToyasCard.lean, 'card_holds'). Laid BY PROGRAM, IN A SANDBOX (cutbox-door.mjs). By AI agents, Wed Nov 11 2026. No macro, syntax, notation, axiom, sorry.
-/
import Derived.Test.YtmklhkmeampamaaGreatDoorRows
import GoSem.ClaimSeven
namespace Go.Proofs.YtmklhkmeampamaaGreatDoor
namespace Rows

/-- THE TIED CARD OF 'jobshelllaw20.PathnameExpands'. -/
def pathnameExpandsCard : Claim7 := { stood := { row := pathnameExpandsRow, standIns := [], harness := (true, "c271a35ac38caf2e5f96ca1297799f0be93d69ee0a9ca8920f2b16b42948f352"), looks := false }, kinds := [], alts := [], laidByText := true, laidKinds := [.data, .pinned], laidTests := true, laidLooks := .later }
def PathnameExpandsCardSaid : Prop := Claim7.holds Tryz.pinned (.plain (OpenSpec.ofChange pathnameExpandsSpec)) pathnameExpandsCard

/-- THE TIED CARD OF 'jobshelllaw20.PathnameQuotes'. -/
def pathnameQuotesCard : Claim7 := { stood := { row := pathnameQuotesRow, standIns := [], harness := (true, "c271a35ac38caf2e5f96ca1297799f0be93d69ee0a9ca8920f2b16b42948f352"), looks := false }, kinds := [], alts := [], laidByText := true, laidKinds := [.data, .pinned], laidTests := true, laidLooks := .later }
def PathnameQuotesCardSaid : Prop := Claim7.holds Tryz.pinned (.plain (OpenSpec.ofChange pathnameQuotesSpec)) pathnameQuotesCard

/-- THE TIED CARD OF 'jobshelllaw20.PathnameFinds'. -/
def pathnameFindsCard : Claim7 := { stood := { row := pathnameFindsRow, standIns := [], harness := (true, "c271a35ac38caf2e5f96ca1297799f0be93d69ee0a9ca8920f2b16b42948f352"), looks := false }, kinds := [], alts := [], laidByText := true, laidKinds := [.data, .pinned], laidTests := true, laidLooks := .later }
def PathnameFindsCardSaid : Prop := Claim7.holds Tryz.pinned (.plain (OpenSpec.ofChange pathnameFindsSpec)) pathnameFindsCard

/-- THE TIED CARD OF 'jobshelllaw20.PathnameStars'. -/
def pathnameStarsCard : Claim7 := { stood := { row := pathnameStarsRow, standIns := [], harness := (true, "c271a35ac38caf2e5f96ca1297799f0be93d69ee0a9ca8920f2b16b42948f352"), looks := false }, kinds := [], alts := [], laidByText := true, laidKinds := [.data, .pinned], laidTests := true, laidLooks := .later }
def PathnameStarsCardSaid : Prop := Claim7.holds Tryz.pinned (.plain (OpenSpec.ofChange pathnameStarsSpec)) pathnameStarsCard

/-- THE TIED CARD OF 'jobshelllaw20.PathnameEnters'. -/
def pathnameEntersCard : Claim7 := { stood := { row := pathnameEntersRow, standIns := [], harness := (true, "c271a35ac38caf2e5f96ca1297799f0be93d69ee0a9ca8920f2b16b42948f352"), looks := false }, kinds := [], alts := [], laidByText := true, laidKinds := [.data, .pinned], laidTests := true, laidLooks := .later }
def PathnameEntersCardSaid : Prop := Claim7.holds Tryz.pinned (.plain (OpenSpec.ofChange pathnameEntersSpec)) pathnameEntersCard

/-- THE SECOND FORM's CARD OF 'jobshelllaw20.PathnameExpands'. -/
def pathnameExpandsUptoCard : Claim7 := { stood := { row := pathnameExpandsUptoRow, standIns := [], harness := (true, "c271a35ac38caf2e5f96ca1297799f0be93d69ee0a9ca8920f2b16b42948f352"), looks := false }, kinds := [], alts := [], laidByText := true, laidKinds := [.data, .pinned], laidTests := true, laidLooks := .later }
def PathnameExpandsUptoCardSaid : Prop := Claim7.holds Tryz.pinned (.plain (OpenSpec.upto pathnameExpandsSpec)) pathnameExpandsUptoCard

/-- THE SECOND FORM's CARD OF 'jobshelllaw20.PathnameQuotes'. -/
def pathnameQuotesUptoCard : Claim7 := { stood := { row := pathnameQuotesUptoRow, standIns := [], harness := (true, "c271a35ac38caf2e5f96ca1297799f0be93d69ee0a9ca8920f2b16b42948f352"), looks := false }, kinds := [], alts := [], laidByText := true, laidKinds := [.data, .pinned], laidTests := true, laidLooks := .later }
def PathnameQuotesUptoCardSaid : Prop := Claim7.holds Tryz.pinned (.plain (OpenSpec.upto pathnameQuotesSpec)) pathnameQuotesUptoCard

/-- THE SECOND FORM's CARD OF 'jobshelllaw20.PathnameFinds'. -/
def pathnameFindsUptoCard : Claim7 := { stood := { row := pathnameFindsUptoRow, standIns := [], harness := (true, "c271a35ac38caf2e5f96ca1297799f0be93d69ee0a9ca8920f2b16b42948f352"), looks := false }, kinds := [], alts := [], laidByText := true, laidKinds := [.data, .pinned], laidTests := true, laidLooks := .later }
def PathnameFindsUptoCardSaid : Prop := Claim7.holds Tryz.pinned (.plain (OpenSpec.upto pathnameFindsSpec)) pathnameFindsUptoCard

/-- THE SECOND FORM's CARD OF 'jobshelllaw20.PathnameStars'. -/
def pathnameStarsUptoCard : Claim7 := { stood := { row := pathnameStarsUptoRow, standIns := [], harness := (true, "c271a35ac38caf2e5f96ca1297799f0be93d69ee0a9ca8920f2b16b42948f352"), looks := false }, kinds := [], alts := [], laidByText := true, laidKinds := [.data, .pinned], laidTests := true, laidLooks := .later }
def PathnameStarsUptoCardSaid : Prop := Claim7.holds Tryz.pinned (.plain (OpenSpec.upto pathnameStarsSpec)) pathnameStarsUptoCard

/-- THE SECOND FORM's CARD OF 'jobshelllaw20.PathnameEnters'. -/
def pathnameEntersUptoCard : Claim7 := { stood := { row := pathnameEntersUptoRow, standIns := [], harness := (true, "c271a35ac38caf2e5f96ca1297799f0be93d69ee0a9ca8920f2b16b42948f352"), looks := false }, kinds := [], alts := [], laidByText := true, laidKinds := [.data, .pinned], laidTests := true, laidLooks := .later }
def PathnameEntersUptoCardSaid : Prop := Claim7.holds Tryz.pinned (.plain (OpenSpec.upto pathnameEntersSpec)) pathnameEntersUptoCard
end Rows
end Go.Proofs.YtmklhkmeampamaaGreatDoor
