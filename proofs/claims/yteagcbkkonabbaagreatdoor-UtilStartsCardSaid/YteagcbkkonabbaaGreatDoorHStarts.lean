/-
  UtilStarts: Known and Start return the specified results; a started utility has the given name, arguments and environment.
-/
import Derived.Test.YteagcbkkonabbaaGreatDoorCUtilStarts
import Derived.Test.YteagcbkkonabbaaGreatDoorUe
namespace Go.Proofs.YteagcbkkonabbaaGreatDoor
open Go.RT
theorem utilStarts_holds : Rows.UtilStartsCardSaid := utilStartsLaw.card fun a0 _ a1 _ a2 _ => utilStarts a0 a1 a2
#print axioms utilStarts_holds
end Go.Proofs.YteagcbkkonabbaaGreatDoor
