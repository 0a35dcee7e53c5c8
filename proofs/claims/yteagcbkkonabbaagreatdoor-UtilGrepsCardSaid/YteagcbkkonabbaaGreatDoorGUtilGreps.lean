/-
  UtilGreps: what is reckoned off the code.
-/
import Derived.Test.YteagcbkkonabbaaGreatDoorGm
namespace Go.Proofs.YteagcbkkonabbaaGreatDoor
open Go
set_option linter.all false
theorem utilGreps_wf : Rows.utilGrepsRow.wfByText (OpenSpec.ofChange Rows.utilGrepsSpec) = true := by kernel_rfl
theorem utilGreps_fn : Tryz.pinned.checked.prog.funcNamed "jobshell/jobshelllaw31.UtilGreps" = some 7 := by kernel_rfl
theorem utilGreps_goes : false = Rows.utilGrepsRow.goesBy Tryz.pinned.checked.prog := by kernel_rfl
theorem utilGreps_hl : ∀ f fn, Tryz.pinned.checked.prog.funcNamed Rows.utilGrepsRow.func = some f → Tryz.pinned.checked.prog.funcs[f]? = some fn → true = Tryz.pinned.checked.prog.looks [] ∧ ∀ (j : Nat) t, fn.params[j]? = some t → Tryz.pinned.checked.prog.wantsStandIn t = false := by
      intro f fn hf hfn
      obtain rfl : f = 7 := Option.some.inj (utilGreps_fn.symm.trans hf) |>.symm
      rw [seat_prog] at hfn
      obtain rfl : fn = Tryz.f7 := (Option.some.inj (Tryz.func7.symm.trans hfn)).symm
      exact ⟨seat_looks, fun j t ht => by
        rw [Tryz.params7] at ht
        rcases j with _ | j
        · obtain rfl : t = 9 := by simpa using ht.symm
          exact wants_9
        rcases j with _ | j
        · obtain rfl : t = 9 := by simpa using ht.symm
          exact wants_9
        rcases j with _ | j
        · obtain rfl : t = 3 := by simpa using ht.symm
          exact wants_3
        · simp at ht⟩
end Go.Proofs.YteagcbkkonabbaaGreatDoor
