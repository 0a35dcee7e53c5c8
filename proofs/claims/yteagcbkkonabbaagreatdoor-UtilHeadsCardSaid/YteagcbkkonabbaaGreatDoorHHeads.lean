/-
  UtilHeads: head writes the prefix of its input that ends with the given line feed, or the whole input (input of at most 300 bytes, counts up to 100).
-/
import Derived.Test.YteagcbkkonabbaaGreatDoorCUtilHeads
import Derived.Test.YteagcbkkonabbaaGreatDoorUg
namespace Go.Proofs.YteagcbkkonabbaaGreatDoor
open Go.RT
theorem utilHeads_holds : Rows.UtilHeadsCardSaid := utilHeadsLaw.card fun a0 _ a1 _ a2 _ => utilHeads a0 a1 a2
#print axioms utilHeads_holds
end Go.Proofs.YteagcbkkonabbaaGreatDoor
