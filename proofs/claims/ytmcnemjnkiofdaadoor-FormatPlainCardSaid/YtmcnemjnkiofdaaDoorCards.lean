/-
  DERIVED. GIVEN WITH THE SEED: THE CARDS: each row of YtmcnemjnkiofdaaDoorRows.lean that lists a variable, with what it lists TIED to the program's text (the seventh form; the later family's looks); each row that meets fmt, with fmt's text TOLD by the authors' own Lean function (tested against real Go, not proved from fmt's source: count such statements apart). THE CARD IS WHAT COUNTS. Prove the row's statement (the work); the ties are given (YtmcnemjnkiofdaaDoorTie.lean); close each card by the builder's one call (the guide's Derived/Test/ToyasCard.lean, 'card_holds'). Laid BY PROGRAM, IN A SANDBOX (cutbox-door.mjs). By AI agents, Wed Nov 11 2026. No macro, syntax, notation, axiom, sorry.
-/
import Derived.Test.YtmcnemjnkiofdaaDoorRows
import GoSem.ClaimSeven
namespace Go.Proofs.YtmcnemjnkiofdaaDoor
namespace Rows

/-- THE TIED CARD OF 'jobshelllaw30.FormatPlain'. -/
def formatPlainCard : Claim7 := { stood := { row := formatPlainRow, standIns := [], harness := (true, "6a0611eb84f7d3617b7d26eccf79ab4112391de93b1cbd934771c9523e6b3b0d"), looks := false }, kinds := [], alts := [], laidByText := true, laidKinds := [.data, .data, .data], laidTests := true, laidLooks := .later }
def FormatPlainCardSaid : Prop := Claim7.holds Tryd.pinned (.plain (OpenSpec.ofChange formatPlainSpec)) formatPlainCard

/-- THE TIED CARD OF 'jobshelllaw30.FormatEnds'. -/
def formatEndsCard : Claim7 := { stood := { row := formatEndsRow, standIns := [], harness := (true, "6a0611eb84f7d3617b7d26eccf79ab4112391de93b1cbd934771c9523e6b3b0d"), looks := false }, kinds := [], alts := [], laidByText := true, laidKinds := [.data, .data, .data], laidTests := true, laidLooks := .later }
def FormatEndsCardSaid : Prop := Claim7.holds Tryd.pinned (.plain (OpenSpec.ofChange formatEndsSpec)) formatEndsCard

/-- THE SECOND FORM's CARD OF 'jobshelllaw30.FormatPlain'. -/
def formatPlainUptoCard : Claim7 := { stood := { row := formatPlainUptoRow, standIns := [], harness := (true, "6a0611eb84f7d3617b7d26eccf79ab4112391de93b1cbd934771c9523e6b3b0d"), looks := false }, kinds := [], alts := [], laidByText := true, laidKinds := [.data, .data, .data], laidTests := true, laidLooks := .later }
def FormatPlainUptoCardSaid : Prop := Claim7.holds Tryd.pinned (.plain (OpenSpec.upto formatPlainSpec)) formatPlainUptoCard

/-- THE SECOND FORM's CARD OF 'jobshelllaw30.FormatEnds'. -/
def formatEndsUptoCard : Claim7 := { stood := { row := formatEndsUptoRow, standIns := [], harness := (true, "6a0611eb84f7d3617b7d26eccf79ab4112391de93b1cbd934771c9523e6b3b0d"), looks := false }, kinds := [], alts := [], laidByText := true, laidKinds := [.data, .data, .data], laidTests := true, laidLooks := .later }
def FormatEndsUptoCardSaid : Prop := Claim7.holds Tryd.pinned (.plain (OpenSpec.upto formatEndsSpec)) formatEndsUptoCard
end Rows
end Go.Proofs.YtmcnemjnkiofdaaDoor
