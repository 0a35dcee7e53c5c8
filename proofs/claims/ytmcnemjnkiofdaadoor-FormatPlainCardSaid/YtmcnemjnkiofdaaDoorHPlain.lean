/-
  FormatPlain: the card.
-/
import Derived.Test.YtmcnemjnkiofdaaDoorCFormatPlain
import Derived.Test.YtmcnemjnkiofdaaDoorFf
namespace Go.Proofs.YtmcnemjnkiofdaaDoor
theorem formatPlain_holds : Rows.FormatPlainCardSaid := formatPlainLaw.card fun a0 q0 a1 q1 => formatPlain a0 q0 a1 q1.1
#print axioms formatPlain_holds
end Go.Proofs.YtmcnemjnkiofdaaDoor
