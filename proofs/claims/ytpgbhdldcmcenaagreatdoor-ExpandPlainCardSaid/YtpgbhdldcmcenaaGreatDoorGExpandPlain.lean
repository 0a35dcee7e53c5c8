import Derived.Test.YtpgbhdldcmcenaaGreatDoorCards
import Derived.Test.YtpgbhdldcmcenaaGreatDoorChecked
import Derived.SevenTiedAt
import Derived.KernelRfl
set_option linter.all false
namespace Go.Proofs.YtpgbhdldcmcenaaGreatDoor
open Go
theorem agx:Tryz.pinned.checked.prog.mainIs=some (true,"4d86a753e74dbda9ca145d2c9477a4af40df3c966b63e48d7359e5d132c02d2a".toList):=by kernel_rfl
theorem aeA:true=Tryz.pinned.checked.prog.looks []:=by kernel_rfl
theorem aiT{a b:Bool}(ha:a=true)(hb:b=true):(a&&b)=true:=by rw [ha,hb];rfl
theorem agF:Tryz.pinned.checked.prog=Tryz.prog:=rfl
theorem aiU:Tryz.pinned.checked.prog.wantsStandIn 31=false:=by kernel_rfl
theorem aiV:Tryz.pinned.checked.prog.wantsStandIn 34=false:=by kernel_rfl
theorem U4:Rows.expandPlainRow.wfByText (OpenSpec.ofChange Rows.expandPlainSpec)=true:=by kernel_rfl
theorem JI:Tryz.pinned.checked.prog.funcNamed "jobshell/jobshelllaw21.ExpandPlain" = some 3:=by kernel_rfl
theorem agG:Tryz.pinned.checked.prog.funcs.any Func.goes=false:=by kernel_rfl
theorem alQ{P:Program}(h:P.funcs.any Func.goes=false){c:OpenClaim}(hs:c.start=.entering):false=c.goesBy P:=by
 have hg:∀f,P.goes f=false:=fun f=>by
  unfold Program.goes;rw [h,Bool.and_false,Bool.or_false,List.any_eq_false];intro g _
  cases hq:P.funcs[g]? with
  | none=>simp
  | some fn=>
   obtain⟨i,hi⟩:=Array.getElem?_eq_some_iff.1 hq;have:=(Array.any_eq_false (p:=Func.goes)).1 h g i;simpa [hi] using this
 unfold OpenClaim.goesBy Program.goesAt Program.goesFrom;rw [hs]
 cases P.funcNamed c.func with
 | none=>rfl
 | some f=>simp [hg]
theorem Ry:false=Rows.expandPlainRow.goesBy Tryz.pinned.checked.prog:=alQ agG rfl
theorem U5:∀f fn,Tryz.pinned.checked.prog.funcNamed Rows.expandPlainRow.func=some f->Tryz.pinned.checked.prog.funcs[f]? = some fn->true=Tryz.pinned.checked.prog.looks []/\∀(j:Nat) t,fn.params[j]? = some t->Tryz.pinned.checked.prog.wantsStandIn t=false:=by
   intro f fn hf hfn;obtain rfl:f=3:=Option.some.inj (JI.symm.trans hf) |>.symm;rw [agF] at hfn;obtain rfl:fn=Tryz.f3:=(Option.some.inj (Tryz.func3.symm.trans hfn)).symm
   exact⟨aeA,fun j t ht=>by
    rw [Tryz.params3] at ht;rcases j with _|j
    ·obtain rfl:t=34:=by simpa using ht.symm
     exact aiV
    rcases j with _|j
    ·obtain rfl:t=31:=by simpa using ht.symm
     exact aiU
    ·simp at ht⟩
end Go.Proofs.YtpgbhdldcmcenaaGreatDoor
