import Derived.Test.YthkbglhnagkpcaaGreatDoorGExpandWords
open Bool renaming true->eQ
set_option linter.all false
namespace Go.Proofs.YthkbglhnagkpcaaGreatDoor
open Go
set_option maxHeartbeats 4000000 in
theorem PW:joinedFacts Tryz.pinned.checked.prog 3 Tryz.f3 Rows.expandWordsSpec Rows.expandWordsRow=eQ:=by
 unfold joinedFacts
 repeat' with_reducible refine amB ?_ ?_
 all_goals as_aux_lemma=>kernel_rfl
