/-
  Plain lemmas for the printed models of RT: numbers that do not wrap, loops that count. No program is named here.
-/
import Derived.Test.YteagcbkkonabbaaGreatDoorRh
import Derived.IntWalk
namespace Go.RT
set_option linter.unusedVariables false

theorem w64_in {x : Int} (h : -9223372036854775808 ≤ x ∧ x ≤ 9223372036854775807) : w64 x = x := IntWalk.i64_in _ (by omega)
theorem w64_nat {i : Nat} (h : i < 9223372036854775807) : w64 ((i : Int) + 1) = ((i + 1 : Nat) : Int) := by
  rw [w64_in (by omega)]; omega

/-- A counting loop, without fuel: f i rest is the round at i. -/
def iter {R : Type} (f : Nat → Option R → Option R) (z : Option R) : Nat → Nat → Option R
  | 0, _ => z
  | k + 1, i => f i (iter f z k (i + 1))

theorem loopF_iter {R : Type} {body : (Int → Option R) → Int → Option R} {n : Nat} {z : Option R} {f : Nat → Option R → Option R}
    (hs : ∀ (i : Nat) rc, i < n → body rc (i : Int) = f i (rc ((i + 1 : Nat) : Int))) (he : ∀ rc, body rc (n : Int) = z) : ∀ (k i F : Nat), i + k = n → k < F → loopF body F (i : Int) = iter f z k i
  | 0, i, F, h, hF => by
    cases F with
    | zero => omega
    | succ F =>
      have : i = n := by omega
      subst this
      exact he _
  | k + 1, i, F, h, hF => by
    cases F with
    | zero => omega
    | succ F =>
      simp only [loopF, iter]
      rw [hs i _ (by omega), loopF_iter hs he k (i + 1) F (by omega) (by omega)]
theorem loopF_iter0 {R : Type} {body : (Int → Option R) → Int → Option R} {n : Nat} {z : Option R} {f : Nat → Option R → Option R}
    (hs : ∀ (i : Nat) rc, i < n → body rc (i : Int) = f i (rc ((i + 1 : Nat) : Int))) (he : ∀ rc, body rc (n : Int) = z) (F : Nat) (hF : n < F) : loopF body F 0 = iter f z n 0 :=
  loopF_iter hs he n 0 F (by omega) hF

theorem iter_congr {R : Type} {f g : Nat → Option R → Option R} {z : Option R} : ∀ (k i : Nat), (∀ j r, i ≤ j → j < i + k → f j r = g j r) → iter f z k i = iter g z k i
  | 0, _, _ => rfl
  | k + 1, i, h => by
    simp only [iter]
    rw [h i _ (Nat.le_refl _) (by omega), iter_congr k (i + 1) fun j r h1 h2 => h j r (by omega) (by omega)]
theorem iter_some {R : Type} {f : Nat → Option R → Option R} {z : Option R} (hz : ∃ y, z = some y) : ∀ (k i : Nat), (∀ j (r : R), i ≤ j → j < i + k → ∃ y, f j (some r) = some y) → ∃ y, iter f z k i = some y
  | 0, _, _ => hz
  | k + 1, i, h => by
    obtain ⟨y, hy⟩ := iter_some hz k (i + 1) fun j r h1 h2 => h j r (by omega) (by omega)
    simp only [iter]
    rw [hy]
    exact h i y (Nat.le_refl _) (by omega)

end Go.RT
