/-
 ExpandWords: for every valid job,Words returns the fields and the environment,or the first error,of the document.
-/
import Derived.Test.YthkbglhnagkpcaaGreatDoorCExpandWords
import Derived.Test.YthkbglhnagkpcaaGreatDoorZU
open Bool renaming true->eQ
set_option linter.all false
namespace Go.Proofs.YthkbglhnagkpcaaGreatDoor
open Go.RT
theorem ake{n:Int}(h:(Lit.int .i64 n).wf=eQ):K.ir n:=by unfold Lit.wf at h;rw[cH]at h;exact⟨DA h.1,DA h.2⟩
theorem expandWords_holds:Rows.ExpandWordsCardSaid:=LH.card λa0 q0=>expandWords a0 (ake q0.1.2.2.2.2.2.2.2.2.1) (ake q0.1.2.2.2.2.2.2.2.2.2.1)
#print axioms expandWords_holds
end Go.Proofs.YthkbglhnagkpcaaGreatDoor
