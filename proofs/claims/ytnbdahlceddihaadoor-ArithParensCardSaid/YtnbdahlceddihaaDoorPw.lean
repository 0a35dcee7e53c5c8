/-
  Arith: the plain law of ArithValid.
-/
import Derived.Test.YtnbdahlceddihaaDoorPv
namespace Go.Proofs.YtnbdahlceddihaaDoor
open Go.RT
set_option linter.unusedVariables false
set_option maxRecDepth 100000

theorem small_some (F : Nat) : ∀ (n : Nat) (e : TExpr) (a b : Int), okTExpr e → b ≤ 40 → b < n → 0 < n → SizeOf.sizeOf e < F → ∃ r, ref05_small_n F n e a b = some r
  | 0, e, a, b, ho, h1, h2, h3, hs => by omega
  | n + 1, e, a, b, ho, h1, h2, _, hs => by
    obtain ⟨k1, k2⟩ := kid_size e
    obtain ⟨k3, k4⟩ := ok_kids ho
    show ∃ r, ref05_small_m F (ref05_small_n F n) e a b = some r
    unfold ref05_small_m
    by_cases hb : b < 1
    · rw [show decide (b < 1) = true by simpa using hb]
      cases decide (a < 1) <;> exact ⟨_, rfl⟩
    · have loop : ∀ (k i m : Nat) (c : Int), i + k = e.fKids.length → k < m → ∃ r, loopF (σ := Int × Int) (R := Int) (fun rc4 x3 =>
           (cond (decide (x3.2 < (e.fKids.length : Int)))
           (some (decide (0 ≤ x3.1)))
           (some false) : Option Bool).bind fun x5 =>
           cond x5
           (rq ((decide (0 ≤ x3.2)) && (decide (x3.2 < (e.fKids.length : Int)))) ((ref05_small_n F n (e.fKids.getD (Int.toNat x3.2) dTExpr) x3.1 (w64 (b - 1))).bind fun x6 =>
           rc4 (x6, w64 (x3.2 + 1))))
           (some x3.1)) m (c, (i : Int)) = some r := by
        intro k
        induction k with
        | zero =>
          intro i m c h hm
          cases m with
          | zero => omega
          | succ m =>
            have e1 : decide ((i : Int) < (e.fKids.length : Int)) = false := by simp; omega
            simp only [loopF, e1, cond_false, Option.bind_some]
            exact ⟨_, rfl⟩
        | succ k ih =>
          intro i m c h hm
          cases m with
          | zero => omega
          | succ m =>
            have e1 : decide ((i : Int) < (e.fKids.length : Int)) = true := by simp; omega
            have e2 : decide (0 ≤ (i : Int)) = true := by simp
            simp only [loopF, e1, e2, cond_true, Option.bind_some, Bool.and_self, rq, Int.toNat_natCast]
            cases decide (0 ≤ c) with
            | false => exact ⟨_, rfl⟩
            | true =>
              simp only [cond_true]
              obtain ⟨y, hy⟩ : ∃ y, ref05_small_n F n (e.fKids.getD i dTExpr) c (w64 (b - 1)) = some y := by
                rw [w64_in (x := b - 1) (by omega)]
                exact small_some F n (e.fKids.getD i dTExpr) c (b - 1) (k4 i (by omega)) (by omega) (by omega) (by omega) (by have := k2 i (by omega); omega)
              rw [hy, w64_nat (by omega)]
              exact ih (i + 1) m y (by omega) (by omega)
      obtain ⟨y, hy⟩ := loop e.fKids.length 0 F (w64 (a - 1)) (by omega) (by omega)
      have hy' := hy
      cases decide (a < 1) <;> cases decide (b < 1) <;> cases decide (60 < (e.fName.length : Int)) <;> first | exact ⟨_, rfl⟩ | exact ⟨y, hy'⟩

theorem arithValid_plain (a0 : TExpr) (q0 : okTExpr a0) : ∃ F, law05_ArithValid F a0 = some true := by
  refine ⟨(SizeOf.sizeOf a0 + 50) + 20, ?_⟩
  unfold law05_ArithValid arith_Valid ref05_Valid ref05_Small
  simp only [TExpr.eta]
  obtain ⟨x, hx⟩ := small_some ((SizeOf.sizeOf a0 + 50) + 20) ((SizeOf.sizeOf a0 + 50) + 20) a0 60 40 q0 (by omega) (by omega) (by omega) (by omega)
  obtain ⟨v, hv⟩ := valid_some ((SizeOf.sizeOf a0 + 50) + 20) (by omega) ((SizeOf.sizeOf a0 + 50) + 20) a0 0 q0 (by omega) (by omega) (by omega) (by omega)
  have he := valid_eq (SizeOf.sizeOf a0 + 50) (by omega) ((SizeOf.sizeOf a0 + 50) + 20) a0 0 (by omega) (by omega)
  rw [show ref05_small ((SizeOf.sizeOf a0 + 50) + 20) a0 60 40 = some x from hx, show ref05_valid ((SizeOf.sizeOf a0 + 50) + 20) a0 0 = some v from hv, show arith_valid ((SizeOf.sizeOf a0 + 50) + 20) a0 0 = some v from he.trans hv, awake60]
  simp only [Option.bind_some, beq_self_eq_true, cond_true]
  cases (!decide (0 ≤ x)) <;> rfl
end Go.Proofs.YtnbdahlceddihaaDoor
