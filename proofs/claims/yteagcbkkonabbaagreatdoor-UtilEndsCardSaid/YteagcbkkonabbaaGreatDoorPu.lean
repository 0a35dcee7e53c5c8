import Derived.Test.YteagcbkkonabbaaGreatDoorRh
import Derived.IntWalk
namespace Go.RT
set_option linter.unusedVariables false
theorem w64_in {x : Int} (h : -9223372036854775808 ≤ x ∧ x ≤ 9223372036854775807) : w64 x = x := IntWalk.i64_in _ (by omega)
theorem w64_nat {i : Nat} (h : i < 9223372036854775807) : w64 ((i : Int) + 1) = ((i + 1 : Nat) : Int) := by
  rw [w64_in (by omega)]; omega
end Go.RT
