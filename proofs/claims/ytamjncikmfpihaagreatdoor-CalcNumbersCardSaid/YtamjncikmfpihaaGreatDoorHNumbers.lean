/-
  CalcNumbers: the card.
-/
import Derived.Test.YtamjncikmfpihaaGreatDoorCCalcNumbers
import Derived.Test.YtamjncikmfpihaaGreatDoorNu
namespace Go.Proofs.YtamjncikmfpihaaGreatDoor
theorem calcNumbers_holds : Rows.CalcNumbersCardSaid := calcNumbersLaw.card calcNumbers_plain
#print axioms calcNumbers_holds
end Go.Proofs.YtamjncikmfpihaaGreatDoor
