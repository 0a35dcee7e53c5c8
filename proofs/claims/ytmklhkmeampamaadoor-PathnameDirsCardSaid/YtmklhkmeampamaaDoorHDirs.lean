/-
  PathnameDirs: the card.
-/
import Derived.Test.YtmklhkmeampamaaDoorCPathnameDirs
import Derived.Test.YtmklhkmeampamaaDoorDa
import Derived.Test.YtmklhkmeampamaaDoorAw
namespace Go.Proofs.YtmklhkmeampamaaDoor
open Go.RT
theorem pathnameDirs (a0 : List UInt8) : ∃ F, law20_PathnameDirs F a0 = some true := by
  refine ⟨a0.length + 1, ?_⟩
  unfold law20_PathnameDirs
  rw [awake_ok]
  by_cases h : 300 < a0.length
  · rw [ct (by omega)]; rfl
  · rw [cf (by omega), dir_eq _ a0 (by omega), Option.bind_some, refDir_eq _ a0 (by omega) (by omega), Option.bind_some]
    have h1 : (a0.take (dirS a0) == a0.take (dirS a0)) = true := beq_self_eq_true _
    have h2 : (a0.drop (dirS a0) == a0.drop (dirS a0)) = true := beq_self_eq_true _
    have h3 : (a0.take (dirS a0) ++ a0.drop (dirS a0) == a0) = true := by rw [List.take_append_drop]; exact beq_self_eq_true _
    dsimp only
    rw [h1, h2, h3, rq1 (by simp only [List.length_take, List.length_drop]; omega)]
    rfl
theorem pathnameDirs_holds : Rows.PathnameDirsCardSaid := pathnameDirsLaw.card fun a0 _ => pathnameDirs a0
#print axioms pathnameDirs_holds
end Go.Proofs.YtmklhkmeampamaaDoor
