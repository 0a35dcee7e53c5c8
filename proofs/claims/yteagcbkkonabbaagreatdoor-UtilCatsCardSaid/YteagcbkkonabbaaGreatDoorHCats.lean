/-
  UtilCats: cat copies its input, read in chunks of any size, and exits with 0 (input of at most 300 bytes).
-/
import Derived.Test.YteagcbkkonabbaaGreatDoorCUtilCats
import Derived.Test.YteagcbkkonabbaaGreatDoorUd
namespace Go.Proofs.YteagcbkkonabbaaGreatDoor
open Go.RT
theorem utilCats_holds : Rows.UtilCatsCardSaid := utilCatsLaw.card fun a0 _ a1 _ => utilCats a0 a1
#print axioms utilCats_holds
end Go.Proofs.YteagcbkkonabbaaGreatDoor
