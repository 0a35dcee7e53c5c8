/-
  UtilSorts: what is reckoned off the code.
-/
import Derived.Test.YteagcbkkonabbaaGreatDoorGm
namespace Go.Proofs.YteagcbkkonabbaaGreatDoor
open Go
set_option linter.all false
theorem utilSorts_wf : Rows.utilSortsRow.wfByText (OpenSpec.ofChange Rows.utilSortsSpec) = true := by kernel_rfl
theorem utilSorts_fn : Tryz.pinned.checked.prog.funcNamed "jobshell/jobshelllaw31.UtilSorts" = some 6 := by kernel_rfl
theorem utilSorts_goes : false = Rows.utilSortsRow.goesBy Tryz.pinned.checked.prog := by kernel_rfl
theorem utilSorts_hl : ∀ f fn, Tryz.pinned.checked.prog.funcNamed Rows.utilSortsRow.func = some f → Tryz.pinned.checked.prog.funcs[f]? = some fn → true = Tryz.pinned.checked.prog.looks [] ∧ ∀ (j : Nat) t, fn.params[j]? = some t → Tryz.pinned.checked.prog.wantsStandIn t = false := by
      intro f fn hf hfn
      obtain rfl : f = 6 := Option.some.inj (utilSorts_fn.symm.trans hf) |>.symm
      rw [seat_prog] at hfn
      obtain rfl : fn = Tryz.f6 := (Option.some.inj (Tryz.func6.symm.trans hfn)).symm
      exact ⟨seat_looks, fun j t ht => by
        rw [Tryz.params6] at ht
        rcases j with _ | j
        · obtain rfl : t = 9 := by simpa using ht.symm
          exact wants_9
        rcases j with _ | j
        · obtain rfl : t = 3 := by simpa using ht.symm
          exact wants_3
        · simp at ht⟩
end Go.Proofs.YteagcbkkonabbaaGreatDoor
