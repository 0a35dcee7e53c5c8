/-
  UtilGreps: the closed facts of the row, one by one.
-/
import Derived.Test.YteagcbkkonabbaaGreatDoorGm
import Derived.JoinedOf
namespace Go.Proofs.YteagcbkkonabbaaGreatDoor
open Go
set_option linter.all false
set_option maxHeartbeats 4000000 in
theorem utilGreps_closed : joinedFacts Tryz.pinned.checked.prog 7 Tryz.f7 Rows.utilGrepsSpec Rows.utilGrepsRow = true := by
  unfold joinedFacts
  repeat' with_reducible refine bothTrue ?_ ?_
  all_goals as_aux_lemma => kernel_rfl
end Go.Proofs.YteagcbkkonabbaaGreatDoor
