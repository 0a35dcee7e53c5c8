import Derived.Test.YteagcbkkonabbaaGreatDoorZ2
import Derived.Test.YteagcbkkonabbaaGreatDoorUt
import Derived.Test.YteagcbkkonabbaaGreatDoorMs
namespace Go.Proofs.YteagcbkkonabbaaGreatDoor
open Go.RT
set_option linter.all false
def szL (l : List TRun) : Nat := (l.map fun r => r.fText.length).sum
theorem szL_take_succ (l : List TRun) (i : Nat) (h : i < l.length) : szL (l.take (i + 1)) = szL (l.take i) + l[i].fText.length := by
  unfold szL
  rw [List.take_succ_eq_append_getElem h, List.map_append, List.sum_append]
  simp
theorem szL_take_le (l : List TRun) (i : Nat) : szL (l.take i) ≤ szL l := by
  unfold szL
  conv => rhs; rw [← List.take_append_drop i l]
  rw [List.map_append, List.sum_append]
  omega
end Go.Proofs.YteagcbkkonabbaaGreatDoor
