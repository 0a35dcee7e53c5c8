import Derived.Test.YteagcbkkonabbaaGreatDoorGm
namespace Go.Proofs.YteagcbkkonabbaaGreatDoor
open Go
set_option linter.all false
theorem utilEnds_wf : Rows.utilEndsRow.wfByText (OpenSpec.ofChange Rows.utilEndsSpec) = true := by kernel_rfl
theorem utilEnds_fn : Tryz.pinned.checked.prog.funcNamed "jobshell/jobshelllaw31.UtilEnds" = some 8 := by kernel_rfl
theorem utilEnds_goes : false = Rows.utilEndsRow.goesBy Tryz.pinned.checked.prog := by kernel_rfl
theorem utilEnds_hl : ∀ f fn, Tryz.pinned.checked.prog.funcNamed Rows.utilEndsRow.func = some f → Tryz.pinned.checked.prog.funcs[f]? = some fn → true = Tryz.pinned.checked.prog.looks [] ∧ ∀ (j : Nat) t, fn.params[j]? = some t → Tryz.pinned.checked.prog.wantsStandIn t = false := by
      intro f fn hf hfn
      obtain rfl : f = 8 := Option.some.inj (utilEnds_fn.symm.trans hf) |>.symm
      rw [seat_prog] at hfn
      obtain rfl : fn = Tryz.f8 := (Option.some.inj (Tryz.func8.symm.trans hfn)).symm
      exact ⟨seat_looks, fun j t ht => by
        rw [Tryz.params8] at ht
        rcases j with _ | j
        · obtain rfl : t = 22 := by simpa using ht.symm
          exact wants_22
        rcases j with _ | j
        · obtain rfl : t = 9 := by simpa using ht.symm
          exact wants_9
        rcases j with _ | j
        · obtain rfl : t = 3 := by simpa using ht.symm
          exact wants_3
        · simp at ht⟩
end Go.Proofs.YteagcbkkonabbaaGreatDoor
