import Derived.Test.YtjfbblgjjdgjdaaGreatDoorCards
import Derived.SevenTiedAt
open Option renaming some->iN
open Bool renaming true->hJ,false->eQ
set_option linter.all false
namespace Go.Proofs.YtjfbblgjjdgjdaaGreatDoor
open Go
theorem ajy:Tryz.pinned.checked.prog.mainIs=iN (hJ,"e11172bd3334fd95cca77f1cce35c0f8438eca3af3377dde4350f7058328b9f9".toList):=by kernel_rfl
theorem ahq:hJ=Tryz.pinned.checked.prog.looks []:=by kernel_rfl
theorem al4{a b:Bool}(ha:a=hJ)(hb:b=hJ):(a&&b)=hJ:=by rw[ha,hb];rfl
def ajG:Tryz.pinned.checked.prog=Tryz.prog:=rfl
theorem apm:Tryz.pinned.checked.prog.wantsStandIn 5=eQ:=by kernel_rfl
theorem al5:Tryz.pinned.checked.prog.wantsStandIn 34=eQ:=by kernel_rfl
theorem Xq:Rows.expandJoinsRow.wfByText (OpenSpec.ofChange Rows.expandJoinsSpec)=hJ:=by kernel_rfl
theorem K4:Tryz.pinned.checked.prog.funcNamed "jobshell/jobshelllaw21.ExpandJoins" = iN 3:=by kernel_rfl
theorem ajH:Tryz.pinned.checked.prog.funcs.any Func.goes=eQ:=by kernel_rfl
theorem apn{P:Program}(h:P.funcs.any Func.goes=eQ){c:OpenClaim}(hs:c.start=.entering):eQ=c.goesBy P:=by
 have hg:∀f,P.goes f=eQ:=λf=>by
  unfold Program.goes;rw[h,Bool.and_false,Bool.or_false,List.any_eq_false];intro g _;cases hq:P.funcs[g]? with
  | none=>simp|some fn=>obtain⟨i,hi⟩:=Array.getElem?_eq_some_iff.1 hq;have:=(Array.any_eq_false (p:=Func.goes)).1 h g i;simpa[hi]using this
 unfold OpenClaim.goesBy Program.goesAt Program.goesFrom;rw[hs];cases P.funcNamed c.func with|none=>rfl|some f=>simp[hg]
def TM:eQ=Rows.expandJoinsRow.goesBy Tryz.pinned.checked.prog:=apn ajH rfl
theorem Xr:∀f fn,Tryz.pinned.checked.prog.funcNamed Rows.expandJoinsRow.func=iN f->Tryz.pinned.checked.prog.funcs[f]? = iN fn->hJ=Tryz.pinned.checked.prog.looks []/\∀(j:Nat) t,fn.params[j]? = iN t->Tryz.pinned.checked.prog.wantsStandIn t=eQ:=by
   intro f fn hf hfn;obtain rfl:f=3:=Option.some.inj (K4.symm.trans hf) |>.symm;rw[ajG]at hfn;obtain rfl:fn=Tryz.f3:=(Option.some.inj (Tryz.func3.symm.trans hfn)).symm
   exact⟨ahq,λj t ht=>by
    rw[Tryz.params3]at ht;rcases j with _|j
    ·obtain rfl:t=34:=by simpa using ht.symm
     exact al5
    rcases j with _|j
    ·obtain rfl:t=5:=by simpa using ht.symm
     exact apm
    ·simp at ht⟩
