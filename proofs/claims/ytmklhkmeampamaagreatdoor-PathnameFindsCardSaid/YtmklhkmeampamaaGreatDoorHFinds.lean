/-
  PathnameFinds: the card.
-/
import Derived.Test.YtmklhkmeampamaaGreatDoorCPathnameFinds
import Derived.Test.YtmklhkmeampamaaGreatDoorQh
namespace Go.Proofs.YtmklhkmeampamaaGreatDoor
open Go.RT
theorem pathnameFinds_holds : Rows.PathnameFindsCardSaid := pathnameFindsLaw.card fun a0 _ a1 _ a2 q2 => pathnameFinds a0 a1 a2 fun x hx => (q2.2 x hx).1
#print axioms pathnameFinds_holds
end Go.Proofs.YtmklhkmeampamaaGreatDoor
