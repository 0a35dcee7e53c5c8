import Derived.Test.YteagcbkkonabbaaGreatDoorCw
namespace Go.Proofs.YteagcbkkonabbaaGreatDoor
set_option linter.all false
open Go.RT
def cloneF (F : Nat) (x : List (List UInt8)) : Option (List (List UInt8)) :=
  rq (decide (x.length ≤ 9223372036854775807) && decide (x.length * 16 ≤ 140737488355328)) (some x)
theorem cloneF_out (F : Nat) (x y : List (List UInt8)) (h : cloneF F x = some y) : y = x ∧ x.length * 16 ≤ 140737488355328 := by
  obtain ⟨h1, h2⟩ := rq_some h
  rw [Bool.and_eq_true, decide_eq_true_eq, decide_eq_true_eq] at h1
  cases h2
  exact ⟨rfl, h1.2⟩
theorem clone_eq (F : Nat) (x : List (List UInt8)) : slices_Clone F x = cloneF F x := by
  unfold slices_Clone cloneF
  cases x with
  | nil =>
    simp only [List.isEmpty_nil, cond_true, List.nil_append]
    exact agree_self _
  | cons a l => simp only [List.isEmpty_cons, cond_false, List.nil_append, List.length_nil, Nat.zero_add]
end Go.Proofs.YteagcbkkonabbaaGreatDoor
