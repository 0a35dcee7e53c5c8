import Derived.Test.YteagcbkkonabbaaGreatDoorEv
namespace Go.RT
set_option linter.all false
end Go.RT
