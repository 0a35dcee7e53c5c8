import Derived.Test.YteagcbkkonabbaaGreatDoorGm
import Derived.JoinedOf
namespace Go.Proofs.YteagcbkkonabbaaGreatDoor
open Go
set_option linter.all false
set_option maxHeartbeats 4000000 in
theorem utilEnds_closed : joinedFacts Tryz.pinned.checked.prog 8 Tryz.f8 Rows.utilEndsSpec Rows.utilEndsRow = true := by
  unfold joinedFacts
  repeat' with_reducible refine bothTrue ?_ ?_
  all_goals as_aux_lemma => kernel_rfl
end Go.Proofs.YteagcbkkonabbaaGreatDoor
