import Derived.Test.YthkbglhnagkpcaaGreatDoorCards
import Derived.SevenTiedAt
open Option renaming some->iN
open Bool renaming true->eQ,false->eK
set_option linter.all false
namespace Go.Proofs.YthkbglhnagkpcaaGreatDoor
open Go
theorem aj4:Tryz.pinned.checked.prog.mainIs=iN (eQ,"607038fb5512deb5935aad1a7e9a098c84c5bce58e33ed81b2101247abf044c3".toList):=by kernel_rfl
theorem ahZ:eQ=Tryz.pinned.checked.prog.looks []:=by kernel_rfl
theorem amB{a b:Bool}(ha:a=eQ)(hb:b=eQ):(a&&b)=eQ:=by rw[ha,hb];rfl
def akc:Tryz.pinned.checked.prog=Tryz.prog:=rfl
theorem amC:Tryz.pinned.checked.prog.wantsStandIn 34=eK:=by kernel_rfl
theorem Ye:Rows.expandWordsRow.wfByText (OpenSpec.ofChange Rows.expandWordsSpec)=eQ:=by kernel_rfl
theorem LK:Tryz.pinned.checked.prog.funcNamed "jobshell/jobshelllaw21.ExpandWords" = iN 3:=by kernel_rfl
theorem akd:Tryz.pinned.checked.prog.funcs.any Func.goes=eK:=by kernel_rfl
theorem apS{P:Program}(h:P.funcs.any Func.goes=eK){c:OpenClaim}(hs:c.start=.entering):eK=c.goesBy P:=by
 have hg:∀f,P.goes f=eK:=λf=>by
  unfold Program.goes;rw[h,Bool.and_false,Bool.or_false,List.any_eq_false];intro g _;cases hq:P.funcs[g]? with
  | none=>simp|some fn=>obtain⟨i,hi⟩:=Array.getElem?_eq_some_iff.1 hq;have:=(Array.any_eq_false (p:=Func.goes)).1 h g i;simpa[hi]using this
 unfold OpenClaim.goesBy Program.goesAt Program.goesFrom;rw[hs];cases P.funcNamed c.func with|none=>rfl|some f=>simp[hg]
def UC:eK=Rows.expandWordsRow.goesBy Tryz.pinned.checked.prog:=apS akd rfl
theorem Yf:∀f fn,Tryz.pinned.checked.prog.funcNamed Rows.expandWordsRow.func=iN f->Tryz.pinned.checked.prog.funcs[f]? = iN fn->eQ=Tryz.pinned.checked.prog.looks []/\∀(j:Nat) t,fn.params[j]? = iN t->Tryz.pinned.checked.prog.wantsStandIn t=eK:=by
   intro f fn hf hfn;obtain rfl:f=3:=Option.some.inj (LK.symm.trans hf) |>.symm;rw[akc]at hfn;obtain rfl:fn=Tryz.f3:=(Option.some.inj (Tryz.func3.symm.trans hfn)).symm
   exact⟨ahZ,λj t ht=>by
    rw[Tryz.params3]at ht;rcases j with _|j
    .obtain rfl:t=34:=by simpa using ht.symm
     exact amC
    .simp at ht⟩
