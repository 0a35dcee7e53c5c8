/-
 ExpandAll: for every job that is valid and small,"$@" expands to one field for each positional parameter,and "$*" to exactly one field.
-/
import Derived.Test.YtkeibjejncpgnaaGreatDoorCExpandAll
import Derived.Test.YtkeibjejncpgnaaGreatDoorXg
set_option linter.all false
namespace Go.Proofs.YtkeibjejncpgnaaGreatDoor
open Go.RT
theorem expandAll_holds:Rows.ExpandAllCardSaid:=Jq.card fun a0 _=>expandAll a0
#print axioms expandAll_holds
end Go.Proofs.YtkeibjejncpgnaaGreatDoor
