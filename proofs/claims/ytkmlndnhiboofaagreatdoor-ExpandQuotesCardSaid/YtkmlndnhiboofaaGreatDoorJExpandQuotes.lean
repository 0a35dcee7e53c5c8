import Derived.Test.YtkmlndnhiboofaaGreatDoorGExpandQuotes
import Derived.JoinedOf
open Bool renaming true->WF
set_option linter.all false
namespace Go.Proofs.YtkmlndnhiboofaaGreatDoor
open Go
set_option maxHeartbeats 4000000 in
theorem M4:joinedFacts Tryz.pinned.checked.prog 3 Tryz.f3 Rows.expandQuotesSpec Rows.expandQuotesRow=WF:=by
 unfold joinedFacts
 repeat' with_reducible refine ajG ?_ ?_
 all_goals as_aux_lemma=>kernel_rfl
end Go.Proofs.YtkmlndnhiboofaaGreatDoor
