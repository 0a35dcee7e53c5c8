import Derived.Test.YteagcbkkonabbaaGreatDoorTy
namespace Go.Proofs.YteagcbkkonabbaaGreatDoor
open Go.RT
set_option linter.all false
set_option maxRecDepth 100000
noncomputable section
def slices_Clone (F : Nat)  (a0 : List (List UInt8)) : Option (List (List UInt8)) :=
 cond a0.isEmpty
 (agree (some [])
 (rq ((decide (([] : List (List UInt8)).length + a0.length ≤ 9223372036854775807)) && (decide ((([] : List (List UInt8)).length + a0.length) * 16 ≤ 140737488355328))) (some (([] : List (List UInt8)) ++ a0))))
 (rq ((decide (([] : List (List UInt8)).length + a0.length ≤ 9223372036854775807)) && (decide ((([] : List (List UInt8)).length + a0.length) * 16 ≤ 140737488355328))) (some (([] : List (List UInt8)) ++ a0)))
def slices_Clone_s : Shp := ⟨22, [.one (.dat (.lst .str))], [], [], ⟨.one (.dat (.lst .str)), [], [], []⟩, none, []⟩
def slices_Clone_p : Plan := .seq [] none (.leaf) (.seq [.slot 2 9 .str] none (.leaf) (.leaf))
def slices_Clone_c (F : Nat) : Ctr E := ⟨slices_Clone_s, fun (x : List (List UInt8)) => slices_Clone F x⟩
theorem slices_Clone_ok (F : Nat) : (slices_Clone_c F).Ok Tryz.prog := Ctr.ok_of (X := ⟨Tryz.prog, tyT, [], [], none⟩) (F := F) ⟨E_ok, okN, mixed, goN, rvN⟩ (pl := slices_Clone_p) Tryz.func22 (by kernel_rfl) (fun x => by kernel_rfl)
end
end Go.Proofs.YteagcbkkonabbaaGreatDoor
