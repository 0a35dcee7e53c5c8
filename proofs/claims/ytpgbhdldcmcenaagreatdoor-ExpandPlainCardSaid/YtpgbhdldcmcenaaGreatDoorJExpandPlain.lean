import Derived.Test.YtpgbhdldcmcenaaGreatDoorGExpandPlain
import Derived.JoinedOf
set_option linter.all false
namespace Go.Proofs.YtpgbhdldcmcenaaGreatDoor
open Go
set_option maxHeartbeats 4000000 in
theorem Nf:joinedFacts Tryz.pinned.checked.prog 3 Tryz.f3 Rows.expandPlainSpec Rows.expandPlainRow=true:=by
 unfold joinedFacts
 repeat' with_reducible refine aiT ?_ ?_
 all_goals as_aux_lemma=>kernel_rfl
end Go.Proofs.YtpgbhdldcmcenaaGreatDoor
