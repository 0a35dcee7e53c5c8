/-
  FilesBack: the card.
-/
import Derived.Test.YtipeaopaiplhiaaGreatDoorCFilesBack
import Derived.Test.YtipeaopaiplhiaaGreatDoorFh
namespace Go.Proofs.YtipeaopaiplhiaaGreatDoor
theorem filesBack_holds : Rows.FilesBackCardSaid := filesBackLaw.card fun a0 _ a1 _ a2 _ a3 _ => filesBack a0 a1 a2 a3
#print axioms filesBack_holds
end Go.Proofs.YtipeaopaiplhiaaGreatDoor
