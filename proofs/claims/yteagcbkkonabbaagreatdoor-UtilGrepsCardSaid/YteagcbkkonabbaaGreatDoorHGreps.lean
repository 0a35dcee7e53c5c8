/-
  UtilGreps: grep and grep -v partition the lines of the input.
-/
import Derived.Test.YteagcbkkonabbaaGreatDoorCUtilGreps
import Derived.Test.YteagcbkkonabbaaGreatDoorUj
namespace Go.Proofs.YteagcbkkonabbaaGreatDoor
open Go.RT
theorem utilGreps_holds : Rows.UtilGrepsCardSaid := utilGrepsLaw.card fun a0 _ a1 _ a2 _ => utilGreps a0 a1 a2
#print axioms utilGreps_holds
end Go.Proofs.YteagcbkkonabbaaGreatDoor
