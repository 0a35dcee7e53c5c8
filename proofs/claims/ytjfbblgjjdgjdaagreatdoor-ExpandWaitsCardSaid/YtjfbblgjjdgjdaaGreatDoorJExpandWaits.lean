import Derived.Test.YtjfbblgjjdgjdaaGreatDoorGExpandWaits
open Bool renaming true->hJ
set_option linter.all false
namespace Go.Proofs.YtjfbblgjjdgjdaaGreatDoor
open Go
set_option maxHeartbeats 4000000 in
theorem O2:joinedFacts Tryz.pinned.checked.prog 4 Tryz.f4 Rows.expandWaitsSpec Rows.expandWaitsRow=hJ:=by
 unfold joinedFacts
 repeat' with_reducible refine al6 ?_ ?_
 all_goals as_aux_lemma=>kernel_rfl
