/-
  PathnameEnters: the card.
-/
import Derived.Test.YtmklhkmeampamaaGreatDoorCPathnameEnters
import Derived.Test.YtmklhkmeampamaaGreatDoorPf
namespace Go.Proofs.YtmklhkmeampamaaGreatDoor
open Go.RT
theorem pathnameEnters_holds : Rows.PathnameEntersCardSaid := pathnameEntersLaw.card fun a0 _ a1 _ a2 q2 => pathnameEnters a0 a1 a2 q2
#print axioms pathnameEnters_holds
end Go.Proofs.YtmklhkmeampamaaGreatDoor
