import Derived.Test.YtjgkapeknmdedaaGreatDoorGExpandPatterns
import Derived.JoinedOf
set_option linter.all false
namespace Go.Proofs.YtjgkapeknmdedaaGreatDoor
open Go
set_option maxHeartbeats 4000000 in
theorem IY:joinedFacts Tryz.pinned.checked.prog 3 Tryz.f3 Rows.expandPatternsSpec Rows.expandPatternsRow=true:=by
 unfold joinedFacts
 repeat' with_reducible refine ahI ?_ ?_
 all_goals as_aux_lemma=>kernel_rfl
end Go.Proofs.YtjgkapeknmdedaaGreatDoor
