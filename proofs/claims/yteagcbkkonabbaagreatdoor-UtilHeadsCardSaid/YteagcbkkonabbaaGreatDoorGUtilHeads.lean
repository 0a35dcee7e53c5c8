/-
  UtilHeads: what is reckoned off the code.
-/
import Derived.Test.YteagcbkkonabbaaGreatDoorGm
namespace Go.Proofs.YteagcbkkonabbaaGreatDoor
open Go
set_option linter.all false
theorem utilHeads_wf : Rows.utilHeadsRow.wfByText (OpenSpec.ofChange Rows.utilHeadsSpec) = true := by kernel_rfl
theorem utilHeads_fn : Tryz.pinned.checked.prog.funcNamed "jobshell/jobshelllaw31.UtilHeads" = some 5 := by kernel_rfl
theorem utilHeads_goes : false = Rows.utilHeadsRow.goesBy Tryz.pinned.checked.prog := by kernel_rfl
theorem utilHeads_hl : ∀ f fn, Tryz.pinned.checked.prog.funcNamed Rows.utilHeadsRow.func = some f → Tryz.pinned.checked.prog.funcs[f]? = some fn → true = Tryz.pinned.checked.prog.looks [] ∧ ∀ (j : Nat) t, fn.params[j]? = some t → Tryz.pinned.checked.prog.wantsStandIn t = false := by
      intro f fn hf hfn
      obtain rfl : f = 5 := Option.some.inj (utilHeads_fn.symm.trans hf) |>.symm
      rw [seat_prog] at hfn
      obtain rfl : fn = Tryz.f5 := (Option.some.inj (Tryz.func5.symm.trans hfn)).symm
      exact ⟨seat_looks, fun j t ht => by
        rw [Tryz.params5] at ht
        rcases j with _ | j
        · obtain rfl : t = 9 := by simpa using ht.symm
          exact wants_9
        rcases j with _ | j
        · obtain rfl : t = 3 := by simpa using ht.symm
          exact wants_3
        rcases j with _ | j
        · obtain rfl : t = 3 := by simpa using ht.symm
          exact wants_3
        · simp at ht⟩
end Go.Proofs.YteagcbkkonabbaaGreatDoor
