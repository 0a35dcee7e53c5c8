/-
  CalcKeeps: the card.
-/
import Derived.Test.YtamjncikmfpihaaGreatDoorCCalcKeeps
import Derived.Test.YtamjncikmfpihaaGreatDoorFp
namespace Go.Proofs.YtamjncikmfpihaaGreatDoor
theorem calcKeeps_holds : Rows.CalcKeepsCardSaid := calcKeepsLaw.card fun a0 q0 a1 _ => calcKeeps_plain a0 a1 q0
#print axioms calcKeeps_holds
end Go.Proofs.YtamjncikmfpihaaGreatDoor
