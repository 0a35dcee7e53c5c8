/-
  FilesRenames: the card.
-/
import Derived.Test.YtipeaopaiplhiaaGreatDoorCFilesRenames
import Derived.Test.YtipeaopaiplhiaaGreatDoorFg
namespace Go.Proofs.YtipeaopaiplhiaaGreatDoor
theorem filesRenames_holds : Rows.FilesRenamesCardSaid := filesRenamesLaw.card fun a0 _ a1 _ a2 _ => filesRenames a0 a1 a2
#print axioms filesRenames_holds
end Go.Proofs.YtipeaopaiplhiaaGreatDoor
