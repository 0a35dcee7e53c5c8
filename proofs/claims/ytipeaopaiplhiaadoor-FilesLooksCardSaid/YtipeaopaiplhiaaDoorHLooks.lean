/-
  FilesLooks: the card.
-/
import Derived.Test.YtipeaopaiplhiaaDoorCFilesLooks
import Derived.Test.YtipeaopaiplhiaaDoorFd
namespace Go.Proofs.YtipeaopaiplhiaaDoor
theorem filesLooks_holds : Rows.FilesLooksCardSaid := filesLooksLaw.card fun a0 _ a1 _ a2 _ => filesLooks a0 a1 a2
#print axioms filesLooks_holds
end Go.Proofs.YtipeaopaiplhiaaDoor
