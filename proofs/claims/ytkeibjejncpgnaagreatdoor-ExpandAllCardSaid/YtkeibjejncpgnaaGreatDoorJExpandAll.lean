import Derived.Test.YtkeibjejncpgnaaGreatDoorGExpandAll
import Derived.JoinedOf
set_option linter.all false
namespace Go.Proofs.YtkeibjejncpgnaaGreatDoor
open Go
set_option maxHeartbeats 4000000 in
theorem NK:joinedFacts Tryz.pinned.checked.prog 3 Tryz.f3 Rows.expandAllSpec Rows.expandAllRow=true:=by
 unfold joinedFacts
 repeat' with_reducible refine agX ?_ ?_
 all_goals as_aux_lemma=>kernel_rfl
end Go.Proofs.YtkeibjejncpgnaaGreatDoor
