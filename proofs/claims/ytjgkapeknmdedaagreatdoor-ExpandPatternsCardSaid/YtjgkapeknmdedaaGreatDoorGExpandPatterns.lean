import Derived.Test.YtjgkapeknmdedaaGreatDoorCards
import Derived.Test.YtjgkapeknmdedaaGreatDoorChecked
import Derived.SevenTiedAt
import Derived.KernelRfl
set_option linter.all false
namespace Go.Proofs.YtjgkapeknmdedaaGreatDoor
open Go
theorem afy:Tryz.pinned.checked.prog.mainIs=some (true,"e49b22786e0a351cabce865fb18522b3464496515dd8a2ab0b3d66756980fa87".toList):=by kernel_rfl
theorem adB:true=Tryz.pinned.checked.prog.looks []:=by kernel_rfl
theorem ahI{a b:Bool}(ha:a=true)(hb:b=true):(a&&b)=true:=by rw [ha,hb];rfl
theorem afG:Tryz.pinned.checked.prog=Tryz.prog:=rfl
theorem ahJ:Tryz.pinned.checked.prog.wantsStandIn 34=false:=by kernel_rfl
theorem Pb:Rows.expandPatternsRow.wfByText (OpenSpec.ofChange Rows.expandPatternsSpec)=true:=by kernel_rfl
theorem DF:Tryz.pinned.checked.prog.funcNamed "jobshell/jobshelllaw21.ExpandPatterns" = some 3:=by kernel_rfl
theorem afH:Tryz.pinned.checked.prog.funcs.any Func.goes=false:=by kernel_rfl
theorem akt{P:Program}(h:P.funcs.any Func.goes=false){c:OpenClaim}(hs:c.start=.entering):false=c.goesBy P:=by
 have hg:∀f,P.goes f=false:=fun f=>by
  unfold Program.goes;rw [h,Bool.and_false,Bool.or_false,List.any_eq_false];intro g _
  cases hq:P.funcs[g]? with
  | none=>simp
  | some fn=>
   obtain⟨i,hi⟩:=Array.getElem?_eq_some_iff.1 hq;have:=(Array.any_eq_false (p:=Func.goes)).1 h g i;simpa [hi] using this
 unfold OpenClaim.goesBy Program.goesAt Program.goesFrom;rw [hs]
 cases P.funcNamed c.func with
 | none=>rfl
 | some f=>simp [hg]
theorem LV:false=Rows.expandPatternsRow.goesBy Tryz.pinned.checked.prog:=akt afH rfl
theorem Pc:∀f fn,Tryz.pinned.checked.prog.funcNamed Rows.expandPatternsRow.func=some f->Tryz.pinned.checked.prog.funcs[f]? = some fn->true=Tryz.pinned.checked.prog.looks []/\∀(j:Nat) t,fn.params[j]? = some t->Tryz.pinned.checked.prog.wantsStandIn t=false:=by
   intro f fn hf hfn;obtain rfl:f=3:=Option.some.inj (DF.symm.trans hf) |>.symm;rw [afG] at hfn;obtain rfl:fn=Tryz.f3:=(Option.some.inj (Tryz.func3.symm.trans hfn)).symm
   exact⟨adB,fun j t ht=>by
    rw [Tryz.params3] at ht;rcases j with _|j
    ·obtain rfl:t=34:=by simpa using ht.symm
     exact ahJ
    ·simp at ht⟩
end Go.Proofs.YtjgkapeknmdedaaGreatDoor
