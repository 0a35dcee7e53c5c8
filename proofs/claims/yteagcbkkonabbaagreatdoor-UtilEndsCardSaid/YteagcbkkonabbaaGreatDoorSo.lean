import Derived.Test.YteagcbkkonabbaaGreatDoorEv
import Derived.Test.YteagcbkkonabbaaGreatDoorRi
import Derived.Sort.Walk0
namespace Go.RT
set_option linter.all false
end Go.RT
