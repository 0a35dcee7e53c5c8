import Derived.Test.YtlgmlcgjmcmmgaaGreatDoorGExpandAssigns
import Derived.JoinedOf
set_option linter.all false
namespace Go.Proofs.YtlgmlcgjmcmmgaaGreatDoor
open Go
set_option maxHeartbeats 4000000 in
theorem J4:joinedFacts Tryz.pinned.checked.prog 3 Tryz.f3 Rows.expandAssignsSpec Rows.expandAssignsRow=true:=by
 unfold joinedFacts
 repeat' with_reducible refine ahI ?_ ?_
 all_goals as_aux_lemma=>kernel_rfl
end Go.Proofs.YtlgmlcgjmcmmgaaGreatDoor
