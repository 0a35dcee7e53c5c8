import Derived.Test.YtkeibjejncpgnaaGreatDoorCards
import Derived.Test.YtkeibjejncpgnaaGreatDoorChecked
import Derived.SevenTiedAt
import Derived.KernelRfl
set_option linter.all false
namespace Go.Proofs.YtkeibjejncpgnaaGreatDoor
open Go
theorem afw:Tryz.pinned.checked.prog.mainIs=some (true,"8191cc92100ece26137ec9239503d1c28468455779b65bf7161d8d5e7c504613".toList):=by kernel_rfl
theorem adN:true=Tryz.pinned.checked.prog.looks []:=by kernel_rfl
theorem agX {a b:Bool} (ha:a=true) (hb:b=true):(a&&b)=true:=by rw [ha,hb];rfl
theorem afz:Tryz.pinned.checked.prog=Tryz.prog:=rfl
theorem agY:Tryz.pinned.checked.prog.wantsStandIn 34=false:=by kernel_rfl
theorem Yh:Rows.expandAllRow.wfByText (OpenSpec.ofChange Rows.expandAllSpec)=true:=by kernel_rfl
theorem Js:Tryz.pinned.checked.prog.funcNamed "jobshell/jobshelllaw21.ExpandAll" = some 3:=by kernel_rfl
theorem Se:false=Rows.expandAllRow.goesBy Tryz.pinned.checked.prog:=by kernel_rfl
theorem Yi:∀f fn,Tryz.pinned.checked.prog.funcNamed Rows.expandAllRow.func=some f→Tryz.pinned.checked.prog.funcs[f]? = some fn→true=Tryz.pinned.checked.prog.looks []∧∀(j:Nat) t,fn.params[j]? = some t→Tryz.pinned.checked.prog.wantsStandIn t=false:=by
   intro f fn hf hfn;obtain rfl:f=3:=Option.some.inj (Js.symm.trans hf) |>.symm;rw [afz] at hfn;obtain rfl:fn=Tryz.f3:=(Option.some.inj (Tryz.func3.symm.trans hfn)).symm
   exact⟨adN,fun j t ht=>by
    rw [Tryz.params3] at ht;rcases j with _ | j
    ·obtain rfl:t=34:=by simpa using ht.symm
     exact agY
    ·simp at ht⟩
end Go.Proofs.YtkeibjejncpgnaaGreatDoor
