/-
  CalcEvals: the card.
-/
import Derived.Test.YtamjncikmfpihaaGreatDoorCCalcEvals
import Derived.Test.YtamjncikmfpihaaGreatDoorEk
namespace Go.Proofs.YtamjncikmfpihaaGreatDoor
theorem calcEvals_holds : Rows.CalcEvalsCardSaid := calcEvalsLaw.card fun a0 q0 a1 _ => calcEvals_plain a0 a1 q0
#print axioms calcEvals_holds
end Go.Proofs.YtamjncikmfpihaaGreatDoor
