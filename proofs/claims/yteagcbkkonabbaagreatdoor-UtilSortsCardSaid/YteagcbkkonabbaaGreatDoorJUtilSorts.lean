/-
  UtilSorts: the closed facts of the row, one by one.
-/
import Derived.Test.YteagcbkkonabbaaGreatDoorGm
import Derived.JoinedOf
namespace Go.Proofs.YteagcbkkonabbaaGreatDoor
open Go
set_option linter.all false
set_option maxHeartbeats 4000000 in
theorem utilSorts_closed : joinedFacts Tryz.pinned.checked.prog 6 Tryz.f6 Rows.utilSortsSpec Rows.utilSortsRow = true := by
  unfold joinedFacts
  repeat' with_reducible refine bothTrue ?_ ?_
  all_goals as_aux_lemma => kernel_rfl
end Go.Proofs.YteagcbkkonabbaaGreatDoor
