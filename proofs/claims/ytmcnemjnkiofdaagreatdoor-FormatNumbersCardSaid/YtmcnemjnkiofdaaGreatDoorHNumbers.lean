/-
  FormatNumbers: the card.
-/
import Derived.Test.YtmcnemjnkiofdaaGreatDoorCFormatNumbers
import Derived.Test.YtmcnemjnkiofdaaGreatDoorFl
namespace Go.Proofs.YtmcnemjnkiofdaaGreatDoor
theorem formatNumbers_holds : Rows.FormatNumbersCardSaid := formatNumbersLaw.card fun a0 q0 a1 q1 => formatNumbers a0 q0 a1 q1
#print axioms formatNumbers_holds
end Go.Proofs.YtmcnemjnkiofdaaGreatDoor
