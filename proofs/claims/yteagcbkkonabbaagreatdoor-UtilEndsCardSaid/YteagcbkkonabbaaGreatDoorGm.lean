import Derived.Test.YteagcbkkonabbaaGreatDoorCards
import Derived.Test.YteagcbkkonabbaaGreatDoorChecked
import Derived.SevenTiedAt
import Derived.KernelRfl
namespace Go.Proofs.YteagcbkkonabbaaGreatDoor
open Go
set_option linter.all false
theorem seat_main : Tryz.pinned.checked.prog.mainIs = some (true, "ce234dee472abb3233f8b1294aa0d25522ab3b3ad3bdb5cf72057904d8aaf208".toList) := by kernel_rfl
theorem seat_looks : true = Tryz.pinned.checked.prog.looks [] := by kernel_rfl
theorem bothTrue {a b : Bool} (ha : a = true) (hb : b = true) : (a && b) = true := by rw [ha, hb]; rfl
theorem seat_prog : Tryz.pinned.checked.prog = Tryz.prog := rfl
theorem wants_3 : Tryz.pinned.checked.prog.wantsStandIn 3 = false := by kernel_rfl
theorem wants_9 : Tryz.pinned.checked.prog.wantsStandIn 9 = false := by kernel_rfl
theorem wants_22 : Tryz.pinned.checked.prog.wantsStandIn 22 = false := by kernel_rfl
end Go.Proofs.YteagcbkkonabbaaGreatDoor
