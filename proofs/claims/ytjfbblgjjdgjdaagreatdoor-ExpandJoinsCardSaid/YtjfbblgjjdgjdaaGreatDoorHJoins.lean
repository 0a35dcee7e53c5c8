/-
 ExpandJoins: for every valid job and every cut,the fields of two slices of words together are those of the one and those of the other in the resulting environment.
-/
import Derived.Test.YtjfbblgjjdgjdaaGreatDoorCExpandJoins
import Derived.Test.YtjfbblgjjdgjdaaGreatDoorZO
open Bool renaming true->hJ
set_option linter.all false
namespace Go.Proofs.YtjfbblgjjdgjdaaGreatDoor
open Go.RT
theorem ajI{n:Int}(h:(Lit.int .i64 n).wf=hJ):K.ij n:=by unfold Lit.wf at h;rw[cK]at h;exact⟨zi h.1,zi h.2⟩
theorem atl{n:Int}(h:(Lit.int .u8 n).wf=hJ):0<=n/\n<=255:=by unfold Lit.wf at h;rw[cK]at h;exact⟨zi h.1,zi h.2⟩
theorem expandJoins_holds:Rows.ExpandJoinsCardSaid:=K2.card λa0 q0 a1 q1=>expandJoins a0 a1 (ajI q0.1.2.2.2.2.2.2.2.2.1) (ajI q0.1.2.2.2.2.2.2.2.2.2.1) (atl q1)
#print axioms expandJoins_holds
end Go.Proofs.YtjfbblgjjdgjdaaGreatDoor
