import Derived.Test.YthmndfnkdgmenaaGreatDoorCards
import Derived.Test.YthmndfnkdgmenaaGreatDoorChecked
import Derived.SevenTiedAt
import Derived.KernelRfl
set_option linter.all false
namespace Go.Proofs.YthmndfnkdgmenaaGreatDoor
open Go
theorem afE:Tryz.pinned.checked.prog.mainIs=some (true,"55e193ad713bba8a5a0dd2550e1697fe74efba736019d981746eabd7af77ae23".toList):=by kernel_rfl
theorem adI:true=Tryz.pinned.checked.prog.looks []:=by kernel_rfl
theorem ahQ{a b:Bool}(ha:a=true)(hb:b=true):(a&&b)=true:=by rw [ha,hb];rfl
theorem afM:Tryz.pinned.checked.prog=Tryz.prog:=rfl
theorem akB:Tryz.pinned.checked.prog.wantsStandIn 9=false:=by kernel_rfl
theorem ahR:Tryz.pinned.checked.prog.wantsStandIn 34=false:=by kernel_rfl
theorem Up:Rows.expandTextsRow.wfByText (OpenSpec.ofChange Rows.expandTextsSpec)=true:=by kernel_rfl
theorem Jf:Tryz.pinned.checked.prog.funcNamed "jobshell/jobshelllaw21.ExpandTexts" = some 3:=by kernel_rfl
theorem afN:Tryz.pinned.checked.prog.funcs.any Func.goes=false:=by kernel_rfl
theorem akC{P:Program}(h:P.funcs.any Func.goes=false){c:OpenClaim}(hs:c.start=.entering):false=c.goesBy P:=by
 have hg:∀f,P.goes f=false:=fun f=>by
  unfold Program.goes;rw [h,Bool.and_false,Bool.or_false,List.any_eq_false];intro g _
  cases hq:P.funcs[g]? with
  | none=>simp
  | some fn=>
   obtain⟨i,hi⟩:=Array.getElem?_eq_some_iff.1 hq;have:=(Array.any_eq_false (p:=Func.goes)).1 h g i;simpa [hi] using this
 unfold OpenClaim.goesBy Program.goesAt Program.goesFrom;rw [hs]
 cases P.funcNamed c.func with
 | none=>rfl
 | some f=>simp [hg]
theorem Qz:false=Rows.expandTextsRow.goesBy Tryz.pinned.checked.prog:=akC afN rfl
theorem Uq:∀f fn,Tryz.pinned.checked.prog.funcNamed Rows.expandTextsRow.func=some f->Tryz.pinned.checked.prog.funcs[f]? = some fn->true=Tryz.pinned.checked.prog.looks []/\∀(j:Nat) t,fn.params[j]? = some t->Tryz.pinned.checked.prog.wantsStandIn t=false:=by
   intro f fn hf hfn;obtain rfl:f=3:=Option.some.inj (Jf.symm.trans hf) |>.symm;rw [afM] at hfn;obtain rfl:fn=Tryz.f3:=(Option.some.inj (Tryz.func3.symm.trans hfn)).symm
   exact⟨adI,fun j t ht=>by
    rw [Tryz.params3] at ht;rcases j with _|j
    ·obtain rfl:t=34:=by simpa using ht.symm
     exact ahR
    rcases j with _|j
    ·obtain rfl:t=9:=by simpa using ht.symm
     exact akB
    ·simp at ht⟩
end Go.Proofs.YthmndfnkdgmenaaGreatDoor
