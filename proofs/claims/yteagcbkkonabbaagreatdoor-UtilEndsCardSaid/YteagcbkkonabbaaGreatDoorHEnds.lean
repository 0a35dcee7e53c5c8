/-
  UtilEnds: every utility other than yes and printf whose requests have no errors exits, with a status from 0 to 255.
-/
import Derived.Test.YteagcbkkonabbaaGreatDoorCUtilEnds
import Derived.Test.YteagcbkkonabbaaGreatDoorVm
namespace Go.Proofs.YteagcbkkonabbaaGreatDoor
open Go.RT
theorem utilEnds_holds : Rows.UtilEndsCardSaid := utilEndsLaw.card fun a0 _ a1 _ a2 _ => utilEnds a0 a1 a2
#print axioms utilEnds_holds
end Go.Proofs.YteagcbkkonabbaaGreatDoor
