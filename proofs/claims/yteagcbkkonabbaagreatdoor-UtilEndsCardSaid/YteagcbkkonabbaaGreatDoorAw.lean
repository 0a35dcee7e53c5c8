import Derived.Test.YteagcbkkonabbaaGreatDoorZ2
import Derived.KernelRfl
namespace Go.Proofs.YteagcbkkonabbaaGreatDoor
open Go.RT
set_option linter.all false
set_option maxRecDepth 100000 in
theorem awake_ok : law31_awake 60 = some true := by decide +kernel
end Go.Proofs.YteagcbkkonabbaaGreatDoor
