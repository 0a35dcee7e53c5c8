/-
  UtilStarts: what is reckoned off the code.
-/
import Derived.Test.YteagcbkkonabbaaGreatDoorGm
namespace Go.Proofs.YteagcbkkonabbaaGreatDoor
open Go
set_option linter.all false
theorem utilStarts_wf : Rows.utilStartsRow.wfByText (OpenSpec.ofChange Rows.utilStartsSpec) = true := by kernel_rfl
theorem utilStarts_fn : Tryz.pinned.checked.prog.funcNamed "jobshell/jobshelllaw31.UtilStarts" = some 3 := by kernel_rfl
theorem utilStarts_goes : false = Rows.utilStartsRow.goesBy Tryz.pinned.checked.prog := by kernel_rfl
theorem utilStarts_hl : ∀ f fn, Tryz.pinned.checked.prog.funcNamed Rows.utilStartsRow.func = some f → Tryz.pinned.checked.prog.funcs[f]? = some fn → true = Tryz.pinned.checked.prog.looks [] ∧ ∀ (j : Nat) t, fn.params[j]? = some t → Tryz.pinned.checked.prog.wantsStandIn t = false := by
      intro f fn hf hfn
      obtain rfl : f = 3 := Option.some.inj (utilStarts_fn.symm.trans hf) |>.symm
      rw [seat_prog] at hfn
      obtain rfl : fn = Tryz.f3 := (Option.some.inj (Tryz.func3.symm.trans hfn)).symm
      exact ⟨seat_looks, fun j t ht => by
        rw [Tryz.params3] at ht
        rcases j with _ | j
        · obtain rfl : t = 9 := by simpa using ht.symm
          exact wants_9
        rcases j with _ | j
        · obtain rfl : t = 22 := by simpa using ht.symm
          exact wants_22
        rcases j with _ | j
        · obtain rfl : t = 22 := by simpa using ht.symm
          exact wants_22
        · simp at ht⟩
end Go.Proofs.YteagcbkkonabbaaGreatDoor
