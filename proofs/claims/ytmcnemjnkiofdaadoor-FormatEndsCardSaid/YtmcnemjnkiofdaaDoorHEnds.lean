/-
  FormatEnds: the card.
-/
import Derived.Test.YtmcnemjnkiofdaaDoorCFormatEnds
import Derived.Test.YtmcnemjnkiofdaaDoorFf
namespace Go.Proofs.YtmcnemjnkiofdaaDoor
theorem formatEnds_holds : Rows.FormatEndsCardSaid := formatEndsLaw.card fun a0 q => formatEnds a0 q.1
#print axioms formatEnds_holds
end Go.Proofs.YtmcnemjnkiofdaaDoor
