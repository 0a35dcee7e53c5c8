/-
 ExpandTexts: for every job that is valid and small and every here-document of at most 200 bytes,Text of each word and Here return the same expansion and the same error for program and document.
-/
import Derived.Test.YthmndfnkdgmenaaGreatDoorCExpandTexts
import Derived.Test.YthmndfnkdgmenaaGreatDoorZq
set_option linter.all false
namespace Go.Proofs.YthmndfnkdgmenaaGreatDoor
open Go.RT
theorem afO{n:Int}(h:(Lit.int .i64 n).wf=true):K.gw n:=by
 unfold Lit.wf at h;rw [cx] at h;exact⟨wS h.1,wS h.2⟩
theorem expandTexts_holds:Rows.ExpandTextsCardSaid:=Jd.card fun a0 q0 a1 _=>expandTexts a0 a1 (afO q0.1.2.2.2.2.2.2.2.2.1) (afO q0.1.2.2.2.2.2.2.2.2.2.1)
#print axioms expandTexts_holds
end Go.Proofs.YthmndfnkdgmenaaGreatDoor
