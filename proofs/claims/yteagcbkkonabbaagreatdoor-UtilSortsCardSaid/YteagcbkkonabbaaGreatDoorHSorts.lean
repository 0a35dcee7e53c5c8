/-
  UtilSorts: sort, rev and tail write the lines of the input.
-/
import Derived.Test.YteagcbkkonabbaaGreatDoorCUtilSorts
import Derived.Test.YteagcbkkonabbaaGreatDoorUk
namespace Go.Proofs.YteagcbkkonabbaaGreatDoor
open Go.RT
theorem utilSorts_holds : Rows.UtilSortsCardSaid := utilSortsLaw.card fun a0 _ a1 _ => utilSorts a0 a1
#print axioms utilSorts_holds
end Go.Proofs.YteagcbkkonabbaaGreatDoor
