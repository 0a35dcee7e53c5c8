/-
  DERIVED. GIVEN WITH THE SEED: THE CARDS: each row of YtmklhkmeampamaaDoorRows.lean that lists a variable, with what it lists TIED to the program's text (the seventh form; the later family's looks); each row that meets fmt, with fmt's text TOLD by the authors' own Lean function (tested against real Go, not proved from fmt's source: count such statements apart). THE CARD IS WHAT COUNTS. Prove the row's statement (the work); the ties are given (YtmklhkmeampamaaDoorTie.lean); close each card by the builder's one call (the guide's Derived/Test/ToyasCard.lean, 'card_holds'). Laid BY PROGRAM, IN A SANDBOX (cutbox-door.mjs). By AI agents, Wed Nov 11 2026. No macro, syntax, notation, axiom, sorry.
-/
import Derived.Test.YtmklhkmeampamaaDoorRows
import GoSem.ClaimSeven
namespace Go.Proofs.YtmklhkmeampamaaDoor
namespace Rows

/-- THE TIED CARD OF 'jobshelllaw20.PathnameDirs'. -/
def pathnameDirsCard : Claim7 := { stood := { row := pathnameDirsRow, standIns := [], harness := (true, "31b0879753f0cab85f0e06f51a2102a64c3fbce40237d24ade365c767ec76c16"), looks := false }, kinds := [], alts := [], laidByText := true, laidKinds := [.data, .pinned], laidTests := true, laidLooks := .later }
def PathnameDirsCardSaid : Prop := Claim7.holds Tryd.pinned (.plain (OpenSpec.ofChange pathnameDirsSpec)) pathnameDirsCard

/-- THE SECOND FORM's CARD OF 'jobshelllaw20.PathnameDirs'. -/
def pathnameDirsUptoCard : Claim7 := { stood := { row := pathnameDirsUptoRow, standIns := [], harness := (true, "31b0879753f0cab85f0e06f51a2102a64c3fbce40237d24ade365c767ec76c16"), looks := false }, kinds := [], alts := [], laidByText := true, laidKinds := [.data, .pinned], laidTests := true, laidLooks := .later }
def PathnameDirsUptoCardSaid : Prop := Claim7.holds Tryd.pinned (.plain (OpenSpec.upto pathnameDirsSpec)) pathnameDirsUptoCard
end Rows
end Go.Proofs.YtmklhkmeampamaaDoor
