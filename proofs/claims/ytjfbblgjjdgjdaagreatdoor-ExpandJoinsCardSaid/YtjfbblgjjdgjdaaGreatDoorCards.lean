/-
  DERIVED. GIVEN WITH THE SEED: THE CARDS: each row of YtjfbblgjjdgjdaaGreatDoorRows.lean that lists a variable, with what it lists TIED to the program's text (the seventh form; the later family's looks); each row that meets fmt, with fmt's text TOLD by the authors' own Lean function (tested against real Go, not proved from fmt's source: count such statements apart). THE CARD IS WHAT COUNTS. Prove the row's statement (the work); the ties are given (YtjfbblgjjdgjdaaGreatDoorTie.lean); close each card by the builder's one call (the guide's Derived/Test/ToyasCard.lean, 'card_holds'). Laid BY PROGRAM, IN A SANDBOX (cutbox-door.mjs). By AI agents, Wed Nov 11 2026. No macro, syntax, notation, axiom, sorry.
-/
import Derived.Test.YtjfbblgjjdgjdaaGreatDoorRows
import GoSem.ClaimSeven
namespace Go.Proofs.YtjfbblgjjdgjdaaGreatDoor
namespace Rows

/-- THE TIED CARD OF 'jobshelllaw21.ExpandJoins'. -/
def expandJoinsCard : Claim7 := { stood := { row := expandJoinsRow, standIns := [], harness := (true, "e11172bd3334fd95cca77f1cce35c0f8438eca3af3377dde4350f7058328b9f9"), looks := true }, kinds := [], alts := [], laidByText := true, laidKinds := [.data, .data, .data, .data, .pinned], laidTests := true, laidLooks := .later }
def ExpandJoinsCardSaid : Prop := Claim7.holds Tryz.pinned (.plain (OpenSpec.ofChange expandJoinsSpec)) expandJoinsCard

/-- THE TIED CARD OF 'jobshelllaw21.ExpandWaits'. -/
def expandWaitsCard : Claim7 := { stood := { row := expandWaitsRow, standIns := [], harness := (true, "e11172bd3334fd95cca77f1cce35c0f8438eca3af3377dde4350f7058328b9f9"), looks := true }, kinds := [], alts := [], laidByText := true, laidKinds := [.data, .data, .data, .data, .pinned], laidTests := true, laidLooks := .later }
def ExpandWaitsCardSaid : Prop := Claim7.holds Tryz.pinned (.plain (OpenSpec.ofChange expandWaitsSpec)) expandWaitsCard

/-- THE SECOND FORM's CARD OF 'jobshelllaw21.ExpandJoins'. -/
def expandJoinsUptoCard : Claim7 := { stood := { row := expandJoinsUptoRow, standIns := [], harness := (true, "e11172bd3334fd95cca77f1cce35c0f8438eca3af3377dde4350f7058328b9f9"), looks := true }, kinds := [], alts := [], laidByText := true, laidKinds := [.data, .data, .data, .data, .pinned], laidTests := true, laidLooks := .later }
def ExpandJoinsUptoCardSaid : Prop := Claim7.holds Tryz.pinned (.plain (OpenSpec.upto expandJoinsSpec)) expandJoinsUptoCard

/-- THE SECOND FORM's CARD OF 'jobshelllaw21.ExpandWaits'. -/
def expandWaitsUptoCard : Claim7 := { stood := { row := expandWaitsUptoRow, standIns := [], harness := (true, "e11172bd3334fd95cca77f1cce35c0f8438eca3af3377dde4350f7058328b9f9"), looks := true }, kinds := [], alts := [], laidByText := true, laidKinds := [.data, .data, .data, .data, .pinned], laidTests := true, laidLooks := .later }
def ExpandWaitsUptoCardSaid : Prop := Claim7.holds Tryz.pinned (.plain (OpenSpec.upto expandWaitsSpec)) expandWaitsUptoCard
end Rows
end Go.Proofs.YtjfbblgjjdgjdaaGreatDoor
