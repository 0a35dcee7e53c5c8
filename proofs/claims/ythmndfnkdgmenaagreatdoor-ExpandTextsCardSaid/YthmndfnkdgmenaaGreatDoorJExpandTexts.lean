import Derived.Test.YthmndfnkdgmenaaGreatDoorGExpandTexts
import Derived.JoinedOf
set_option linter.all false
namespace Go.Proofs.YthmndfnkdgmenaaGreatDoor
open Go
set_option maxHeartbeats 4000000 in
theorem MG:joinedFacts Tryz.pinned.checked.prog 3 Tryz.f3 Rows.expandTextsSpec Rows.expandTextsRow=true:=by
 unfold joinedFacts
 repeat' with_reducible refine ahQ ?_ ?_
 all_goals as_aux_lemma=>kernel_rfl
end Go.Proofs.YthmndfnkdgmenaaGreatDoor
