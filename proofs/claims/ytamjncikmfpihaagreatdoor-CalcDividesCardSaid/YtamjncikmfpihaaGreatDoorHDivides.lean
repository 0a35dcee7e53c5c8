/-
  CalcDivides: the card.
-/
import Derived.Test.YtamjncikmfpihaaGreatDoorCCalcDivides
import Derived.Test.YtamjncikmfpihaaGreatDoorDv
namespace Go.Proofs.YtamjncikmfpihaaGreatDoor
theorem calcDivides_holds : Rows.CalcDividesCardSaid := calcDividesLaw.card fun a0 q0 a1 q1 => calcDivides_plain a0 a1 q0 q1
#print axioms calcDivides_holds
end Go.Proofs.YtamjncikmfpihaaGreatDoor
