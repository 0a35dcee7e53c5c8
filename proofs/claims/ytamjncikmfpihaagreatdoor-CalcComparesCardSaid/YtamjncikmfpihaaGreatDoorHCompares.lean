/-
  CalcCompares: the card.
-/
import Derived.Test.YtamjncikmfpihaaGreatDoorCCalcCompares
import Derived.Test.YtamjncikmfpihaaGreatDoorDv
namespace Go.Proofs.YtamjncikmfpihaaGreatDoor
theorem calcCompares_holds : Rows.CalcComparesCardSaid := calcComparesLaw.card fun a0 q0 a1 q1 => calcCompares_plain a0 a1 q0 q1
#print axioms calcCompares_holds
end Go.Proofs.YtamjncikmfpihaaGreatDoor
