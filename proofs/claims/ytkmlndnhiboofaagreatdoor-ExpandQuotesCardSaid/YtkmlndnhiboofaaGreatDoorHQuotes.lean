/-
 ExpandQuotes: for every valid job,a double-quoted word without the parameter @ gives one field,its string value.
-/
import Derived.Test.YtkmlndnhiboofaaGreatDoorCExpandQuotes
import Derived.Test.YtkmlndnhiboofaaGreatDoorZQ
open Bool renaming true->WF
set_option linter.all false
namespace Go.Proofs.YtkmlndnhiboofaaGreatDoor
open Go.RT
theorem ahm{n:Int}(h:(Lit.int .i64 n).wf=WF):K.gJ n:=by
 unfold Lit.wf at h;rw[cH]at h;exact⟨Cm h.1,Cm h.2⟩
theorem expandQuotes_holds:Rows.ExpandQuotesCardSaid:=Ie.card λa0 q0=>expandQuotes a0 (ahm q0.1.2.2.2.2.2.2.2.2.1) (ahm q0.1.2.2.2.2.2.2.2.2.2.1)
#print axioms expandQuotes_holds
end Go.Proofs.YtkmlndnhiboofaaGreatDoor
