/-
  CalcAssigns: the card.
-/
import Derived.Test.YtamjncikmfpihaaGreatDoorCCalcAssigns
import Derived.Test.YtamjncikmfpihaaGreatDoorAs
namespace Go.Proofs.YtamjncikmfpihaaGreatDoor
theorem calcAssigns_holds : Rows.CalcAssignsCardSaid := calcAssignsLaw.card fun a0 _ a1 q1 a2 _ => calcAssigns_plain a0 a1 a2 q1
#print axioms calcAssigns_holds
end Go.Proofs.YtamjncikmfpihaaGreatDoor
