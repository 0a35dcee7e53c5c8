/-
  CalcTexts: the card.
-/
import Derived.Test.YtamjncikmfpihaaGreatDoorCCalcTexts
import Derived.Test.YtamjncikmfpihaaGreatDoorTx
namespace Go.Proofs.YtamjncikmfpihaaGreatDoor
theorem calcTexts_holds : Rows.CalcTextsCardSaid := calcTextsLaw.card fun a0 _ a1 _ => calcTexts_plain a0 a1
#print axioms calcTexts_holds
end Go.Proofs.YtamjncikmfpihaaGreatDoor
