import Derived.Test.YtlgmlcgjmcmmgaaGreatDoorCards
import Derived.Test.YtlgmlcgjmcmmgaaGreatDoorChecked
import Derived.SevenTiedAt
import Derived.KernelRfl
set_option linter.all false
namespace Go.Proofs.YtlgmlcgjmcmmgaaGreatDoor
open Go
theorem afw:Tryz.pinned.checked.prog.mainIs=some (true,"6207e9f60917a9b2fc1aabc87099dd027ee420c08feaf0729c5cf8799560abc3".toList):=by kernel_rfl
theorem adA:true=Tryz.pinned.checked.prog.looks []:=by kernel_rfl
theorem ahI{a b:Bool}(ha:a=true)(hb:b=true):(a&&b)=true:=by rw [ha,hb];rfl
theorem afE:Tryz.pinned.checked.prog=Tryz.prog:=rfl
theorem ahJ:Tryz.pinned.checked.prog.wantsStandIn 23=false:=by kernel_rfl
theorem ahK:Tryz.pinned.checked.prog.wantsStandIn 34=false:=by kernel_rfl
theorem Ql:Rows.expandAssignsRow.wfByText (OpenSpec.ofChange Rows.expandAssignsSpec)=true:=by kernel_rfl
theorem Fx:Tryz.pinned.checked.prog.funcNamed "jobshell/jobshelllaw21.ExpandAssigns" = some 3:=by kernel_rfl
theorem afF:Tryz.pinned.checked.prog.funcs.any Func.goes=false:=by kernel_rfl
theorem aku{P:Program}(h:P.funcs.any Func.goes=false){c:OpenClaim}(hs:c.start=.entering):false=c.goesBy P:=by
 have hg:∀f,P.goes f=false:=fun f=>by
  unfold Program.goes;rw [h,Bool.and_false,Bool.or_false,List.any_eq_false];intro g _
  cases hq:P.funcs[g]? with
  | none=>simp
  | some fn=>
   obtain⟨i,hi⟩:=Array.getElem?_eq_some_iff.1 hq;have:=(Array.any_eq_false (p:=Func.goes)).1 h g i;simpa [hi] using this
 unfold OpenClaim.goesBy Program.goesAt Program.goesFrom;rw [hs]
 cases P.funcNamed c.func with
 | none=>rfl
 | some f=>simp [hg]
theorem Mr:false=Rows.expandAssignsRow.goesBy Tryz.pinned.checked.prog:=aku afF rfl
theorem Qm:∀f fn,Tryz.pinned.checked.prog.funcNamed Rows.expandAssignsRow.func=some f->Tryz.pinned.checked.prog.funcs[f]? = some fn->true=Tryz.pinned.checked.prog.looks []/\∀(j:Nat) t,fn.params[j]? = some t->Tryz.pinned.checked.prog.wantsStandIn t=false:=by
   intro f fn hf hfn;obtain rfl:f=3:=Option.some.inj (Fx.symm.trans hf) |>.symm;rw [afE] at hfn;obtain rfl:fn=Tryz.f3:=(Option.some.inj (Tryz.func3.symm.trans hfn)).symm
   exact⟨adA,fun j t ht=>by
    rw [Tryz.params3] at ht;rcases j with _|j
    ·obtain rfl:t=34:=by simpa using ht.symm
     exact ahK
    rcases j with _|j
    ·obtain rfl:t=23:=by simpa using ht.symm
     exact ahJ
    ·simp at ht⟩
end Go.Proofs.YtlgmlcgjmcmmgaaGreatDoor
