/-
  FilesClosed: the card.
-/
import Derived.Test.YtipeaopaiplhiaaDoorCFilesClosed
import Derived.Test.YtipeaopaiplhiaaDoorFc
namespace Go.Proofs.YtipeaopaiplhiaaDoor
theorem filesClosed_holds : Rows.FilesClosedCardSaid := filesClosedLaw.card fun a0 _ a1 _ a2 _ => filesClosed a0 a1 a2
#print axioms filesClosed_holds
end Go.Proofs.YtipeaopaiplhiaaDoor
