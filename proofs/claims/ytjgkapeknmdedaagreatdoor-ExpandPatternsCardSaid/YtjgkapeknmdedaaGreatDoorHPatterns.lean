/-
 ExpandPatterns: for every job that is valid and small,Pattern of program and document return the same runs,the same expansion and the same error for each word.
-/
import Derived.Test.YtjgkapeknmdedaaGreatDoorCExpandPatterns
import Derived.Test.YtjgkapeknmdedaaGreatDoorZm
set_option linter.all false
namespace Go.Proofs.YtjgkapeknmdedaaGreatDoor
open Go.RT
theorem afI{n:Int}(h:(Lit.int .i64 n).wf=true):K.gi n:=by
 unfold Lit.wf at h;rw [cw] at h;exact⟨yX h.1,yX h.2⟩
theorem expandPatterns_holds:Rows.ExpandPatternsCardSaid:=DE.card fun a0 q0=>expandPatterns a0 (afI q0.1.2.2.2.2.2.2.2.2.1) (afI q0.1.2.2.2.2.2.2.2.2.2.1)
#print axioms expandPatterns_holds
end Go.Proofs.YtjgkapeknmdedaaGreatDoor
