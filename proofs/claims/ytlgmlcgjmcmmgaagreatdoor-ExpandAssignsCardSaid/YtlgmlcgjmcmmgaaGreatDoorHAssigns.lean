/-
 ExpandAssigns: for every job that is valid and small and every list of names,Assign of program and document return the same expansion and the same error.
-/
import Derived.Test.YtlgmlcgjmcmmgaaGreatDoorCExpandAssigns
import Derived.Test.YtlgmlcgjmcmmgaaGreatDoorZp
set_option linter.all false
namespace Go.Proofs.YtlgmlcgjmcmmgaaGreatDoor
open Go.RT
theorem afG{n:Int}(h:(Lit.int .i64 n).wf=true):K.gw n:=by
 unfold Lit.wf at h;rw [cx] at h;exact⟨ym h.1,ym h.2⟩
theorem expandAssigns_holds:Rows.ExpandAssignsCardSaid:=Fv.card fun a0 q0 a1 _=>expandAssigns a0 a1 (afG q0.1.2.2.2.2.2.2.2.2.1) (afG q0.1.2.2.2.2.2.2.2.2.2.1)
#print axioms expandAssigns_holds
end Go.Proofs.YtlgmlcgjmcmmgaaGreatDoor
