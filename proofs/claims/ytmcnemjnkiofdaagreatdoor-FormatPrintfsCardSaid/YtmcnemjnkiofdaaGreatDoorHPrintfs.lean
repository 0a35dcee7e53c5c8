/-
  FormatPrintfs: the card.
-/
import Derived.Test.YtmcnemjnkiofdaaGreatDoorCFormatPrintfs
import Derived.Test.YtmcnemjnkiofdaaGreatDoorFk
namespace Go.Proofs.YtmcnemjnkiofdaaGreatDoor
theorem formatPrintfs_holds : Rows.FormatPrintfsCardSaid := formatPrintfsLaw.card fun a0 q => formatPrintfs a0 q.1
#print axioms formatPrintfs_holds
end Go.Proofs.YtmcnemjnkiofdaaGreatDoor
