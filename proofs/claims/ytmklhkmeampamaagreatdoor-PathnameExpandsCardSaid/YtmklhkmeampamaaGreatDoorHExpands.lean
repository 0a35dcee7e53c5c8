/-
  PathnameExpands: the card.
-/
import Derived.Test.YtmklhkmeampamaaGreatDoorCPathnameExpands
import Derived.Test.YtmklhkmeampamaaGreatDoorQk
namespace Go.Proofs.YtmklhkmeampamaaGreatDoor
open Go.RT
theorem pathnameExpands_holds : Rows.PathnameExpandsCardSaid := pathnameExpandsLaw.card fun a0 _ a1 _ a2 q2 => pathnameExpands a0 a1 a2 fun x hx => (q2.2 x hx).1
#print axioms pathnameExpands_holds
end Go.Proofs.YtmklhkmeampamaaGreatDoor
