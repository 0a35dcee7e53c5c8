/-
  PathnameStars: the card.
-/
import Derived.Test.YtmklhkmeampamaaGreatDoorCPathnameStars
import Derived.Test.YtmklhkmeampamaaGreatDoorPy
namespace Go.Proofs.YtmklhkmeampamaaGreatDoor
open Go.RT
theorem pathnameStars_holds : Rows.PathnameStarsCardSaid := pathnameStarsLaw.card fun a0 _ a1 _ => pathnameStars a0 a1
#print axioms pathnameStars_holds
end Go.Proofs.YtmklhkmeampamaaGreatDoor
