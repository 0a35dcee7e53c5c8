/-
  FilesChanges: the card.
-/
import Derived.Test.YtipeaopaiplhiaaDoorCFilesChanges
import Derived.Test.YtipeaopaiplhiaaDoorFe
namespace Go.Proofs.YtipeaopaiplhiaaDoor
theorem filesChanges_holds : Rows.FilesChangesCardSaid := filesChangesLaw.card fun a0 _ a1 _ a2 _ => filesChanges a0 a1 a2
#print axioms filesChanges_holds
end Go.Proofs.YtipeaopaiplhiaaDoor
