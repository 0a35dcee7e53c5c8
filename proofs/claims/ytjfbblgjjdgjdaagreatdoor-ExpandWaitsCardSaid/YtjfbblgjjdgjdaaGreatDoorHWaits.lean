/-
 ExpandWaits: for every valid job and every further result,a suspended expansion goes on with one more result,needs at most one for each command substitution,and further results change nothing.
-/
import Derived.Test.YtjfbblgjjdgjdaaGreatDoorCExpandWaits
import Derived.Test.YtjfbblgjjdgjdaaGreatDoorZS
open Bool renaming true->hJ
set_option linter.all false
namespace Go.Proofs.YtjfbblgjjdgjdaaGreatDoor
open Go.RT
theorem ajI{n:Int}(h:(Lit.int .i64 n).wf=hJ):K.ic n:=by unfold Lit.wf at h;rw[cL]at h;exact⟨Bl h.1,Bl h.2⟩
theorem expandWaits_holds:Rows.ExpandWaitsCardSaid:=K3.card λa0 q0 a1 _=>expandWaits a0 a1 (ajI q0.1.2.2.2.2.2.2.2.2.1) (ajI q0.1.2.2.2.2.2.2.2.2.2.1)
#print axioms expandWaits_holds
end Go.Proofs.YtjfbblgjjdgjdaaGreatDoor
