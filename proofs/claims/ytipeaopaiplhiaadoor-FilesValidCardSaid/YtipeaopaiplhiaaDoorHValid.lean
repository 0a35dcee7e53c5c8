/-
  FilesValid: the card.
-/
import Derived.Test.YtipeaopaiplhiaaDoorCFilesValid
import Derived.Test.YtipeaopaiplhiaaDoorFb
namespace Go.Proofs.YtipeaopaiplhiaaDoor
theorem filesValid_holds : Rows.FilesValidCardSaid := filesValidLaw.card fun a _ => filesValid a
#print axioms filesValid_holds
end Go.Proofs.YtipeaopaiplhiaaDoor
