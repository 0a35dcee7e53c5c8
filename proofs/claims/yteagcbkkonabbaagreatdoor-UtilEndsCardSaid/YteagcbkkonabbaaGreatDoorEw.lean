import Derived.Test.YteagcbkkonabbaaGreatDoorEv
namespace Go.RT
set_option linter.all false
theorem capk {n k : Nat} (h : n ≤ 1000000000) (hk : k ≤ 100000) : (decide (n ≤ 9223372036854775807) && decide (n * k ≤ 140737488355328)) = true := by
  have : n * k ≤ 1000000000 * 100000 := Nat.mul_le_mul h hk
  rw [decide_eq_true (by omega), decide_eq_true (by omega)]; rfl
theorem rq_cap {R : Type} {n k : Nat} (h : n ≤ 1000000000) (hk : k ≤ 100000) (x : Option R) : rq (decide (n ≤ 9223372036854775807) && decide (n * k ≤ 140737488355328)) x = x := rq_true (capk h hk)
theorem rq_ix {R : Type} {i n : Nat} (h : i < n) (x : Option R) : rq (decide (0 ≤ (i : Int)) && decide ((i : Int) < (n : Int))) x = x := rq_true (by rw [decide_eq_true (by omega), decide_eq_true (by omega)]; rfl)
end Go.RT
