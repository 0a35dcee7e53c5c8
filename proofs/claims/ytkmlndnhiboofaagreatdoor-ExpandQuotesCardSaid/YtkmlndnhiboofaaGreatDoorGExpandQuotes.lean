import Derived.Test.YtkmlndnhiboofaaGreatDoorCards
import Derived.Test.YtkmlndnhiboofaaGreatDoorChecked
import Derived.SevenTiedAt
import Derived.KernelRfl
open Option renaming some->W0
open Bool renaming true->WF,false->UV
set_option linter.all false
namespace Go.Proofs.YtkmlndnhiboofaaGreatDoor
open Go
theorem ahc:Tryz.pinned.checked.prog.mainIs=W0 (WF,"4dfcb1320df68983f850311497df311a1a59582a73e24ebe0fb41581da319a42".toList):=by kernel_rfl
theorem aff:WF=Tryz.pinned.checked.prog.looks []:=by kernel_rfl
theorem ajG{a b:Bool}(ha:a=WF)(hb:b=WF):(a&&b)=WF:=by rw[ha,hb];rfl
theorem ahk:Tryz.pinned.checked.prog=Tryz.prog:=rfl
theorem ajH:Tryz.pinned.checked.prog.wantsStandIn 34=UV:=by kernel_rfl
theorem Tp:Rows.expandQuotesRow.wfByText (OpenSpec.ofChange Rows.expandQuotesSpec)=WF:=by kernel_rfl
theorem Ih:Tryz.pinned.checked.prog.funcNamed "jobshell/jobshelllaw21.ExpandQuotes" = W0 3:=by kernel_rfl
theorem ahl:Tryz.pinned.checked.prog.funcs.any Func.goes=UV:=by kernel_rfl
theorem amG{P:Program}(h:P.funcs.any Func.goes=UV){c:OpenClaim}(hs:c.start=.entering):UV=c.goesBy P:=by
 have hg:∀f,P.goes f=UV:=λf=>by
  unfold Program.goes;rw[h,Bool.and_false,Bool.or_false,List.any_eq_false];intro g _
  cases hq:P.funcs[g]? with
  | none=>simp
  | some fn=>
   obtain⟨i,hi⟩:=Array.getElem?_eq_some_iff.1 hq;have:=(Array.any_eq_false (p:=Func.goes)).1 h g i;simpa[hi]using this
 unfold OpenClaim.goesBy Program.goesAt Program.goesFrom;rw[hs]
 cases P.funcNamed c.func with
 | none=>rfl
 | some f=>simp[hg]
theorem QJ:UV=Rows.expandQuotesRow.goesBy Tryz.pinned.checked.prog:=amG ahl rfl
theorem Tq:∀f fn,Tryz.pinned.checked.prog.funcNamed Rows.expandQuotesRow.func=W0 f->Tryz.pinned.checked.prog.funcs[f]? = W0 fn->WF=Tryz.pinned.checked.prog.looks []/\∀(j:Nat) t,fn.params[j]? = W0 t->Tryz.pinned.checked.prog.wantsStandIn t=UV:=by
   intro f fn hf hfn;obtain rfl:f=3:=Option.some.inj (Ih.symm.trans hf) |>.symm;rw[ahk]at hfn;obtain rfl:fn=Tryz.f3:=(Option.some.inj (Tryz.func3.symm.trans hfn)).symm
   exact⟨aff,λj t ht=>by
    rw[Tryz.params3]at ht;rcases j with _|j
    ·obtain rfl:t=34:=by simpa using ht.symm
     exact ajH
    ·simp at ht⟩
end Go.Proofs.YtkmlndnhiboofaaGreatDoor
