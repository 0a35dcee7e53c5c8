/-
  PathnameQuotes: the card.
-/
import Derived.Test.YtmklhkmeampamaaGreatDoorCPathnameQuotes
import Derived.Test.YtmklhkmeampamaaGreatDoorPs
namespace Go.Proofs.YtmklhkmeampamaaGreatDoor
open Go.RT
theorem pathnameQuotes_holds : Rows.PathnameQuotesCardSaid := pathnameQuotesLaw.card fun a0 _ a1 _ a2 q2 => pathnameQuotes a0 a1 a2 q2
#print axioms pathnameQuotes_holds
end Go.Proofs.YtmklhkmeampamaaGreatDoor
