import Derived.Test.YtmklhkmeampamaaGreatDoorZ2
import Derived.KernelRfl
namespace Go.Proofs.YtmklhkmeampamaaGreatDoor
open Go.RT
set_option linter.all false
set_option maxRecDepth 100000 in
theorem awake_ok : law20_awake 60 = some true := by decide +kernel
end Go.Proofs.YtmklhkmeampamaaGreatDoor
