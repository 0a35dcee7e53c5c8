import Derived.Test.YtjfbblgjjdgjdaaGreatDoorGExpandJoins
open Bool renaming true->hJ
set_option linter.all false
namespace Go.Proofs.YtjfbblgjjdgjdaaGreatDoor
open Go
set_option maxHeartbeats 4000000 in
theorem OX:joinedFacts Tryz.pinned.checked.prog 3 Tryz.f3 Rows.expandJoinsSpec Rows.expandJoinsRow=hJ:=by
 unfold joinedFacts
 repeat' with_reducible refine al4 ?_ ?_
 all_goals as_aux_lemma=>kernel_rfl
