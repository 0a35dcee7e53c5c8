/-
  FormatEchos: the card.
-/
import Derived.Test.YtmcnemjnkiofdaaGreatDoorCFormatEchos
import Derived.Test.YtmcnemjnkiofdaaGreatDoorFk
namespace Go.Proofs.YtmcnemjnkiofdaaGreatDoor
theorem formatEchos_holds : Rows.FormatEchosCardSaid := formatEchosLaw.card fun a0 q => formatEchos a0 q.1
#print axioms formatEchos_holds
end Go.Proofs.YtmcnemjnkiofdaaGreatDoor
