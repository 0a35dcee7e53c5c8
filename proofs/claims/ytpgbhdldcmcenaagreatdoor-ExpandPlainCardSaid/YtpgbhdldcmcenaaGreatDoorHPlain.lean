/-
 ExpandPlain: for every job that is valid and small and every valid list of files: with noglob Words does not depend on the files,and a word of literal and quoted strings is its one field and leaves the environment unchanged.
-/
import Derived.Test.YtpgbhdldcmcenaaGreatDoorCExpandPlain
import Derived.Test.YtpgbhdldcmcenaaGreatDoorZN
set_option linter.all false
namespace Go.Proofs.YtpgbhdldcmcenaaGreatDoor
open Go.RT
theorem agH{n:Int}(h:(Lit.int .i64 n).wf=true):K.gG n:=by
 unfold Lit.wf at h;rw [cE] at h;exact⟨Ae h.1,Ae h.2⟩
theorem expandPlain_holds:Rows.ExpandPlainCardSaid:=JG.card fun a0 q0 a1 _=>expandPlain a0 a1 (agH q0.1.2.2.2.2.2.2.2.2.1) (agH q0.1.2.2.2.2.2.2.2.2.2.1)
#print axioms expandPlain_holds
end Go.Proofs.YtpgbhdldcmcenaaGreatDoor
