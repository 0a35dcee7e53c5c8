/-
  CalcFolds: the card.
-/
import Derived.Test.YtamjncikmfpihaaGreatDoorCCalcFolds
import Derived.Test.YtamjncikmfpihaaGreatDoorFp
namespace Go.Proofs.YtamjncikmfpihaaGreatDoor
theorem calcFolds_holds : Rows.CalcFoldsCardSaid := calcFoldsLaw.card fun a0 q0 => calcFolds_plain a0 q0
#print axioms calcFolds_holds
end Go.Proofs.YtamjncikmfpihaaGreatDoor
