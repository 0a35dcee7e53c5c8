/-
  Calc: integers of strings, operators, evaluation: plain functions, and both evaluators follow them.
-/
import Derived.Test.YtamjncikmfpihaaGreatDoorEn
namespace Go.Proofs.YtamjncikmfpihaaGreatDoor
open Go.RT
set_option linter.all false
set_option maxRecDepth 100000

def R64 (x : Int) : Prop := -9223372036854775808 ≤ x ∧ x ≤ 9223372036854775807
theorem w64_rng (x : Int) : R64 (w64 x) := by
  show R64 (if (true && decide (x % (2 ^ 64 : Int) ≥ (2 ^ 63 : Int))) = true then x % (2 ^ 64 : Int) - (2 ^ 64 : Int) else x % (2 ^ 64 : Int))
  have h0 := Int.emod_nonneg x (show (2 ^ 64 : Int) ≠ 0 by decide)
  have h1 := Int.emod_lt_of_pos x (show (0 : Int) < 2 ^ 64 by decide)
  unfold R64
  simp only [Bool.true_and, decide_eq_true_eq]
  split <;> omega

/-! ### Operators -/
theorem and63 (b : Int) : bAnd .i64 b 63 = b % 64 := by
  unfold bAnd
  have h : (BitVec.ofInt 64 b &&& BitVec.ofInt 64 63).toNat = (b % 64).toNat := by
    rw [BitVec.toNat_and]
    have h63 : (BitVec.ofInt 64 63).toNat = 2 ^ 6 - 1 := by decide
    rw [h63, Nat.and_two_pow_sub_one_eq_mod, BitVec.toNat_ofInt]
    have h0 := Int.emod_nonneg b (show (2 ^ 64 : Int) ≠ 0 by decide)
    omega
  show w64 (((BitVec.ofInt 64 b &&& BitVec.ofInt 64 63).toNat : Nat) : Int) = _
  rw [h, w64_in (by omega)]
  omega
theorem not_eq {a : Int} (h : R64 a) : bNot .i64 a = w64 ((w64 (0 - a)) - 1) := by
  unfold R64 at h
  have h1 : (BitVec.ofInt 64 (-1) ^^^ BitVec.ofInt 64 a) = ~~~ BitVec.ofInt 64 a := by
    rw [show BitVec.ofInt 64 (-1) = BitVec.allOnes 64 from rfl, BitVec.allOnes_xor]
  show w64 (((BitVec.ofInt 64 (-1) ^^^ BitVec.ofInt 64 a).toNat : Nat) : Int) = _
  rw [h1, BitVec.toNat_not, BitVec.toNat_ofInt]
  by_cases h0 : a = -9223372036854775808
  · subst h0; decide
  · rw [w64_in (x := 0 - a) (by omega), w64_in (x := 0 - a - 1) (by omega)]
    have e := Int.emod_nonneg a (show ((2 ^ 64 : Nat) : Int) ≠ 0 by decide)
    by_cases hn : 0 ≤ a
    · have e1 : a % ((2 ^ 64 : Nat) : Int) = a := Int.emod_eq_of_lt hn (by omega)
      rw [e1]
      have e2 : ((2 ^ 64 - 1 - a.toNat : Nat) : Int) = 18446744073709551615 - a := by omega
      rw [e2]
      unfold w64 IntKind.wrap
      have e3 : (18446744073709551615 - a) % (2 ^ IntKind.i64.bits : Int) = 18446744073709551615 - a := Int.emod_eq_of_lt (by omega) (by show _ < (18446744073709551616 : Int); omega)
      simp only [e3]
      show (if (true && decide ((18446744073709551615 - a) ≥ (2 ^ 63 : Int))) = true then (18446744073709551615 - a) - (2 ^ 64 : Int) else 18446744073709551615 - a) = _
      rw [if_pos (by simp; omega)]
      omega
    · have e1 : a % ((2 ^ 64 : Nat) : Int) = a + 18446744073709551616 := by omega
      rw [e1]
      have e2 : ((2 ^ 64 - 1 - (a + 18446744073709551616).toNat : Nat) : Int) = - a - 1 := by omega
      rw [e2, w64_in (by omega)]
      omega
theorem bShr_rng {a : Int} (b : Int) (h : R64 a) : R64 (bShr .i64 a b) := by
  unfold R64 at h ⊢
  unfold bShr
  generalize min b.toNat IntKind.i64.bits = k
  have hp : (0 : Int) < 2 ^ k := Int.pow_pos (by decide)
  rw [Int.fdiv_eq_ediv_of_nonneg _ (by omega)]
  by_cases h0 : 0 ≤ a
  · have h1 := Int.ediv_nonneg h0 (show (0 : Int) ≤ 2 ^ k by omega)
    have h2 := Int.ediv_le_self (b := 2 ^ k) h0
    omega
  · have h1 : a ≤ a / 2 ^ k := by
      apply Int.le_ediv_of_mul_le hp
      have := Int.mul_le_mul_of_nonpos_left (a := a) (b := 2 ^ k) (c := 1) (by omega) (by omega)
      omega
    have h2 : a / 2 ^ k < 0 := Int.ediv_neg_of_neg_of_pos (by omega) hp
    omega
theorem tmod_rng {a : Int} (b : Int) (h : R64 a) : R64 (Int.tmod a b) := by
  unfold R64 at h ⊢
  by_cases h0 : 0 ≤ a
  · have h1 := Int.tmod_nonneg b h0
    have h2 : (Int.tmod a b).natAbs ≤ a.natAbs := by rw [Int.natAbs_tmod]; exact Nat.mod_le _ _
    omega
  · have h1 : Int.tmod a b = - Int.tmod (-a) b := by rw [Int.neg_tmod]; omega
    have h3 := Int.tmod_nonneg (a := -a) b (by omega)
    have h2 : (Int.tmod (-a) b).natAbs ≤ (-a).natAbs := by rw [Int.natAbs_tmod]; exact Nat.mod_le _ _
    omega

def tr (b : Bool) : Int := cond b 1 0
theorem tr_rng (b : Bool) : R64 (tr b) := by cases b <;> simp [tr, R64]
theorem calc_truth_eq (F : Nat) (b : Bool) : calc_truth F b = some (tr b) := by cases b <;> rfl
theorem ref_truth_eq (F : Nat) (b : Bool) : ref06_truth F b = some (tr b) := by cases b <;> rfl
def cUn (op a : Int) : Int := cond (op == 3) (w64 (0 - a)) (cond (op == 5) (tr (a == 0)) (cond (op == 6) (bNot .i64 a) a))
def cmpC (op a b : Int) : Bool := cond (op == 14) (decide (a < b)) (cond (op == 15) (decide (b < a)) (cond (op == 16) (decide (a ≤ b)) (cond (op == 17) (decide (b ≤ a)) (cond (op == 18) (a == b) (a != b)))))
def cBin (op a b : Int) : Int × Int :=
  cond (op == 7) (w64 (a * b), 0) (cond (op == 8 || op == 9) (cond (b == 0) (0, 13) (cond (op == 8) (w64 (Int.tdiv a b), 0) (Int.tmod a b, 0)))
    (cond (op == 10) (w64 (a + b), 0) (cond (op == 11) (w64 (a - b), 0) (cond (op == 12) (bShl .i64 a (bAnd .i64 b 63), 0) (cond (op == 13) (bShr .i64 a (bAnd .i64 b 63), 0)
      (cond (op == 20) (bAnd .i64 a b, 0) (cond (op == 21) (bXor .i64 a b, 0) (cond (op == 22) (bOr .i64 a b, 0) (cond (op == 23) (tr (a != 0 && b != 0), 0) (cond (op == 24) (tr (a != 0 || b != 0), 0) (tr (cmpC op a b), 0)))))))))))
theorem cUn_rng (op : Int) {a : Int} (h : R64 a) : R64 (cUn op a) := by
  unfold cUn
  cases (op == 3) with
  | true => exact w64_rng _
  | false =>
    cases (op == 5) with
    | true => exact tr_rng _
    | false =>
      cases (op == 6) with
      | true => exact w64_rng _
      | false => exact h
theorem cBin_rng (op : Int) {a b : Int} (h : R64 a) (h' : R64 b) : R64 (cBin op a b).1 := by
  unfold cBin
  cases (op == 7) with
  | true => exact w64_rng _
  | false =>
  simp only [cond_false]
  cases (op == 8 || op == 9) with
  | true =>
    cases (b == 0) with
    | true => simp [R64]
    | false =>
      cases (op == 8) with
      | true => exact w64_rng _
      | false => exact tmod_rng b h
  | false =>
  simp only [cond_false]
  cases (op == 10) with
  | true => exact w64_rng _
  | false =>
  cases (op == 11) with
  | true => exact w64_rng _
  | false =>
  cases (op == 12) with
  | true => exact w64_rng _
  | false =>
  cases (op == 13) with
  | true => exact bShr_rng _ h
  | false =>
  cases (op == 20) with
  | true => exact w64_rng _
  | false =>
  cases (op == 21) with
  | true => exact w64_rng _
  | false =>
  cases (op == 22) with
  | true => exact w64_rng _
  | false =>
  cases (op == 23) with
  | true => exact tr_rng _
  | false =>
  cases (op == 24) with
  | true => exact tr_rng _
  | false => exact tr_rng _
theorem cBin_err (op a b : Int) : (cBin op a b).2 = 0 ∨ (cBin op a b) = (0, 13) := by
  unfold cBin
  cases (op == 7) <;> cases (op == 8 || op == 9) <;> cases (b == 0) <;> cases (op == 8) <;> cases (op == 10) <;> cases (op == 11) <;> cases (op == 12) <;> cases (op == 13) <;> first | exact .inl rfl | exact .inr rfl | skip
  all_goals (cases (op == 20) <;> cases (op == 21) <;> cases (op == 22) <;> cases (op == 23) <;> cases (op == 24) <;> exact .inl rfl)

theorem and63_ok (b : Int) : decide (0 ≤ bAnd .i64 b 63) = true := decide_eq_true (by rw [and63]; omega)
theorem and63_u (b : Int) : IntKind.wrap .u64 (bAnd .i64 b 63) = bAnd .i64 b 63 := IntWalk.u64_in _ (by rw [and63]; omega)
theorem compare_eq (F : Nat) (op a b : Int) : calc_compare F op a b = some (cmpC op a b) := by
  unfold calc_compare cmpC
  cases (op == 14) <;> cases (op == 15) <;> cases (op == 16) <;> cases (op == 17) <;> cases (op == 18) <;> rfl
theorem holds_eq (F : Nat) (op a b : Int) : ref06_holds F op a b = some (cmpC op a b) := by
  unfold ref06_holds cmpC
  cases (op == 14) <;> cases (op == 15) <;> cases (op == 16) <;> cases (op == 17) <;> cases (op == 18) <;> rfl
theorem unary_eq (F : Nat) (op a : Int) : calc_unary F op a = some (cUn op a) := by
  unfold calc_unary cUn
  simp only [calc_truth_eq, Option.bind_some]
  cases (op == 3) <;> cases (op == 5) <;> cases (op == 6) <;> rfl
theorem one_eq (F : Nat) (op : Int) {a : Int} (h : R64 a) : ref06_one F op a = some (cUn op a) := by
  unfold ref06_one cUn
  simp only [ref_truth_eq, Option.bind_some, not_eq h]
  cases (op == 3) <;> cases (op == 5) <;> cases (op == 6) <;> rfl
theorem binary_eq (F : Nat) (op a b : Int) : calc_binary F op a b = some (cBin op a b) := by
  unfold calc_binary cBin
  simp only [calc_truth_eq, compare_eq, Option.bind_some, and63_ok, rq_tt]
  generalize bShl .i64 a (bAnd .i64 b 63) = s1
  generalize bShr .i64 a (bAnd .i64 b 63) = s2
  cases h7 : (op == 7) with
  | true => rfl
  | false =>
  cases h8 : (op == 8) with
  | true => simp only [cond_false, cond_true, Option.bind_some, Bool.true_or]; cases hb : (b == 0) <;> rfl
  | false =>
  cases h9 : (op == 9) with
  | true => simp only [cond_false, cond_true, Option.bind_some, Bool.false_or]; cases hb : (b == 0) <;> rfl
  | false =>
  simp only [cond_false, Option.bind_some, Bool.false_or]
  cases (op == 10) <;> cases (op == 11) <;> cases (op == 12) <;> cases (op == 13) <;> cases (op == 20) <;> cases (op == 21) <;> cases (op == 22) <;> first | rfl | skip
  all_goals (cases (a != 0) <;> cases (b != 0) <;> cases (op == 23) <;> cases (op == 24) <;> rfl)
theorem two_eq (F : Nat) (op a b : Int) (h : op ≠ 23) (h' : op ≠ 24) : ref06_two F op a b = some (cBin op a b) := by
  have e1 : (op == 23) = false := by rw [beq_eq_false_iff_ne]; exact h
  have e2 : (op == 24) = false := by rw [beq_eq_false_iff_ne]; exact h'
  unfold ref06_two cBin
  simp only [ref_truth_eq, holds_eq, Option.bind_some, and63_u, and63_ok, rq_tt, e1, e2, cond_false]
  generalize bShl .i64 a (bAnd .i64 b 63) = s1
  generalize bShr .i64 a (bAnd .i64 b 63) = s2
  by_cases k7 : op = 7
  · subst k7; rfl
  have h7 : (op == 7) = false := by rw [beq_eq_false_iff_ne]; exact k7
  rw [h7]
  cases h8 : (op == 8) with
  | true => simp only [cond_false, cond_true, Option.bind_some, Bool.true_or]; cases hb : (b == 0) <;> rfl
  | false =>
  cases h9 : (op == 9) with
  | true => simp only [cond_false, cond_true, Option.bind_some, Bool.false_or]; cases hb : (b == 0) <;> rfl
  | false =>
  simp only [cond_false, Option.bind_some, Bool.false_or]
  cases (op == 10) <;> cases (op == 11) <;> cases (op == 12) <;> cases (op == 13) <;> cases (op == 20) <;> cases (op == 21) <;> cases (op == 22) <;> rfl

/-! ### The integer value of a string -/
def tailS (s : List UInt8) : List UInt8 := cond ((((s.getD 0 0).toNat : Int) == 45) || (((s.getD 0 0).toNat : Int) == 43)) (s.drop 1) s
def intS (s : List UInt8) : Int × Bool :=
  cond (s == []) (0, true) (cond ((magS (tailS s)).2 != 0 || ((magS (tailS s)).1 == 9223372036854775808 && !(((s.getD 0 0).toNat : Int) == 45))) (0, false)
    (cond (((s.getD 0 0).toNat : Int) == 45) (w64 (IntKind.wrap .u64 (0 - (magS (tailS s)).1)), true) (w64 (magS (tailS s)).1, true)))
theorem intS_rng (s : List UInt8) : R64 (intS s).1 := by
  unfold intS
  cases (s == []) <;> cases ((magS (tailS s)).2 != 0 || ((magS (tailS s)).1 == 9223372036854775808 && !(((s.getD 0 0).toNat : Int) == 45))) <;> cases (((s.getD 0 0).toNat : Int) == 45) <;> first | exact w64_rng _ | exact (show R64 0 by unfold R64; decide)
theorem tail_len (s : List UInt8) : (tailS s).length ≤ s.length := by
  unfold tailS
  cases ((((s.getD 0 0).toNat : Int) == 45) || (((s.getD 0 0).toNat : Int) == 43)) <;> simp
theorem integer_eq (F : Nat) (s : List UInt8) (hF : s.length < F) (hl : s.length ≤ 1000000) : calc_integer F s = some (intS s) := by
  unfold calc_integer intS
  cases hs : (s == []) with
  | true => rfl
  | false =>
    have hp : 0 < s.length := by
      cases s with
      | nil => cases hs
      | cons a s => simp
    have e0 : decide (0 < (s.length : Int)) = true := decide_eq_true (by omega)
    have e1 : (decide (1 ≤ (s.length : Int)) && decide ((s.length : Int) ≤ (s.length : Int))) = true := by rw [decide_eq_true (by omega), decide_eq_true (by omega)]; rfl
    have e2 : sl s 1 (s.length : Int) = s.drop 1 := by unfold sl; simp
    have et : ((cond (((s.getD 0 0).toNat : Int) == 45) (some true) (some (((s.getD 0 0).toNat : Int) == 43)) : Option Bool).bind fun x2 => cond x2 (some (s.drop 1)) (some s) : Option (List UInt8)) = some (tailS s) := by
      unfold tailS
      cases (((s.getD 0 0).toNat : Int) == 45) <;> cases (((s.getD 0 0).toNat : Int) == 43) <;> rfl
    simp only [cond_false, e0, e1, e2, rq_tt, et, Option.bind_some]
    have := tail_len s
    rw [mag_eq F (tailS s) (by omega) (by omega)]
    simp only [Option.bind_some]
    cases ((magS (tailS s)).2 != 0) <;> cases ((magS (tailS s)).1 == 9223372036854775808) <;> cases (((s.getD 0 0).toNat : Int) == 45) <;> rfl
theorem value6_eq (F : Nat) (s : List UInt8) (hF : s.length < F) (hl : s.length ≤ 1000000) : ref06_Value F s = some (intS s) := by
  unfold ref06_Value intS
  cases hs : (s == []) with
  | true => rfl
  | false =>
    have hp : 0 < s.length := by
      cases s with
      | nil => cases hs
      | cons a s => simp
    have e0 : decide (0 < (s.length : Int)) = true := decide_eq_true (by omega)
    have e1 : (decide (1 ≤ (s.length : Int)) && decide ((s.length : Int) ≤ (s.length : Int))) = true := by rw [decide_eq_true (by omega), decide_eq_true (by omega)]; rfl
    have e2 : sl s 1 (s.length : Int) = s.drop 1 := by unfold sl; simp
    have et : ((cond (((s.getD 0 0).toNat : Int) == 45) (some true) (some (((s.getD 0 0).toNat : Int) == 43)) : Option Bool).bind fun x2 => cond x2 (some (s.drop 1)) (some s) : Option (List UInt8)) = some (tailS s) := by
      unfold tailS
      cases (((s.getD 0 0).toNat : Int) == 45) <;> cases (((s.getD 0 0).toNat : Int) == 43) <;> rfl
    simp only [cond_false, e0, e1, e2, rq_tt, et, Option.bind_some]
    have := tail_len s
    rw [const6_eq F (tailS s) (by omega) (by omega)]
    have key : ∀ (neg : Bool), (cond ((magS (tailS s)).2 != 0) true (decide ((cond neg 9223372036854775808 9223372036854775807 : Int) < (magS (tailS s)).1))) = ((magS (tailS s)).2 != 0 || ((magS (tailS s)).1 == 9223372036854775808 && !neg)) := by
      intro neg
      rcases magS_range (tailS s) with ⟨h, h0, h1⟩ | h | h
      · rw [h]
        simp only [bne_self_eq_false, cond_false, Bool.false_or]
        rw [Bool.eq_iff_iff]
        cases neg <;> simp <;> omega
      · rw [h]; rfl
      · rw [h]; rfl
    rw [← key]
    simp only [Option.bind_some]
    cases ((magS (tailS s)).2 != 0) <;> cases (((s.getD 0 0).toNat : Int) == 45) <;> simp only [cond_true, cond_false, Option.bind_some] <;> first | rfl | (generalize (decide ((_ : Int) < (magS (tailS s)).1)) = c; cases c <;> rfl)

/-! ### Evaluation -/
abbrev Rs := Int × Int × Env
def cSet (n : Int) (name : List UInt8) (x : Rs) : Rs :=
  cond (n != 0)
    (cond (!(intS (mget keq x.2.2 name [])).2) (0, 1, x.2.2)
      (cond ((cBin n (intS (mget keq x.2.2 name [])).1 x.1).2 != 0) (0, (cBin n (intS (mget keq x.2.2 name [])).1 x.1).2, x.2.2)
        ((cBin n (intS (mget keq x.2.2 name [])).1 x.1).1, 0, mset keq x.2.2 name (Lib.itoa (cBin n (intS (mget keq x.2.2 name [])).1 x.1).1))))
    (x.1, 0, mset keq x.2.2 name (Lib.itoa x.1))
def cVar (name : List UInt8) (m : Env) : Rs := cond (!(intS (mget keq m name [])).2) (0, 1, m) ((intS (mget keq m name [])).1, 0, m)
def cTwo (op : Int) (x y : Rs) : Rs := cond (y.2.1 != 0) (0, y.2.1, y.2.2) ((cBin op x.1 y.1).1, (cBin op x.1 y.1).2, y.2.2)
def dK : Env → Rs := fun m => (0, 0, m)
def evB (op n : Int) (name : List UInt8) (ks : List (Env → Rs)) (m : Env) : Rs :=
  cond (op == 1) (n, 0, m) (cond (op == 2) (cVar name m)
    (cond ((ks.getD 0 dK m).2.1 != 0) (0, (ks.getD 0 dK m).2.1, (ks.getD 0 dK m).2.2)
      (cond (op == 26) (cSet n name (ks.getD 0 dK m))
        (cond (decide (3 ≤ op) && decide (op ≤ 6)) (cUn op (ks.getD 0 dK m).1, 0, (ks.getD 0 dK m).2.2)
          (cond (op == 25) (cond ((ks.getD 0 dK m).1 != 0) (ks.getD 1 dK (ks.getD 0 dK m).2.2) (ks.getD 2 dK (ks.getD 0 dK m).2.2))
            (cond (op == 23 && (ks.getD 0 dK m).1 == 0) (0, 0, (ks.getD 0 dK m).2.2)
              (cond (op == 24 && (ks.getD 0 dK m).1 != 0) (1, 0, (ks.getD 0 dK m).2.2)
                (cTwo op (ks.getD 0 dK m) (ks.getD 1 dK (ks.getD 0 dK m).2.2)))))))))
mutual
def evS : TExpr → Env → Rs
  | .mk op n name kids => evB op n name (evL kids)
def evL : List TExpr → List (Env → Rs)
  | [] => []
  | k :: l => evS k :: evL l
end
theorem evL_map : ∀ l, evL l = l.map evS
  | [] => rfl
  | k :: l => by simp only [evL, List.map_cons, evL_map l]
theorem evS_eq (e : TExpr) : evS e = evB e.fOp e.fN e.fName (e.fKids.map evS) := by cases e; rw [← evL_map]; rfl
theorem ev_at (l : List TExpr) (i : Nat) (h : i < l.length) : (l.map evS).getD i dK = evS (l.getD i dTExpr) := by
  simp [List.getD, h]
end Go.Proofs.YtamjncikmfpihaaGreatDoor
