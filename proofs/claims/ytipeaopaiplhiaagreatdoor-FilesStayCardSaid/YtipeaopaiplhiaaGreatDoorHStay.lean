/-
  FilesStay: the card.
-/
import Derived.Test.YtipeaopaiplhiaaGreatDoorCFilesStay
import Derived.Test.YtipeaopaiplhiaaGreatDoorFh
namespace Go.Proofs.YtipeaopaiplhiaaGreatDoor
theorem filesStay_holds : Rows.FilesStayCardSaid := filesStayLaw.card fun a0 _ => filesStay a0
#print axioms filesStay_holds
end Go.Proofs.YtipeaopaiplhiaaGreatDoor
