/-
  FilesCleans: the card.
-/
import Derived.Test.YtipeaopaiplhiaaDoorCFilesCleans
import Derived.Test.YtipeaopaiplhiaaDoorFc
namespace Go.Proofs.YtipeaopaiplhiaaDoor
theorem filesCleans_holds : Rows.FilesCleansCardSaid := filesCleansLaw.card fun a0 _ a1 _ => filesCleans a0 a1
#print axioms filesCleans_holds
end Go.Proofs.YtipeaopaiplhiaaDoor
