import Derived.Test.YteagcbkkonabbaaGreatDoorGm
import Derived.JoinedOf
namespace Go.Proofs.YteagcbkkonabbaaGreatDoor
open Go
set_option linter.all false
theorem utilCats_closed : joinedFacts Tryz.pinned.checked.prog 4 Tryz.f4 Rows.utilCatsSpec Rows.utilCatsRow = true := by
  unfold joinedFacts
  repeat' with_reducible refine bothTrue ?_ ?_
  all_goals as_aux_lemma => kernel_rfl
end Go.Proofs.YteagcbkkonabbaaGreatDoor
