import Derived.Test.YteagcbkkonabbaaGreatDoorEw
namespace Go.RT
set_option linter.all false
theorem rq1 {R : Type} {p : Prop} {i : Decidable p} {k : Option R} (h : p) : rq (@decide p i) k = k := rq_true (decide_eq_true h)
theorem rq2 {R : Type} {p q : Prop} {i : Decidable p} {j : Decidable q} {k : Option R} (h : p) (h' : q) : rq (@decide p i && @decide q j) k = k := rq_true (by rw [decide_eq_true h, decide_eq_true h']; rfl)
theorem rq3 {R : Type} {p q r : Prop} {i : Decidable p} {j : Decidable q} {l : Decidable r} {k : Option R} (h : p) (h' : q) (h2 : r) : rq (@decide p i && (@decide q j && @decide r l)) k = k := rq_true (by rw [decide_eq_true h, decide_eq_true h', decide_eq_true h2]; rfl)
theorem dT {p : Prop} {i : Decidable p} (h : p) : @decide p i = true := decide_eq_true h
theorem dF {p : Prop} {i : Decidable p} (h : ¬ p) : @decide p i = false := decide_eq_false h
theorem ct {α : Type} {p : Prop} {i : Decidable p} {x y : α} (h : p) : cond (@decide p i) x y = x := by rw [decide_eq_true h]; rfl
theorem cf {α : Type} {p : Prop} {i : Decidable p} {x y : α} (h : ¬ p) : cond (@decide p i) x y = y := by rw [decide_eq_false h]; rfl
end Go.RT
