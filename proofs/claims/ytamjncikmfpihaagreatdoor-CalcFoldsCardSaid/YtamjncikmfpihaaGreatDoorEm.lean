/-
  Calc: both evaluators follow the plain function evS.
-/
import Derived.Test.YtamjncikmfpihaaGreatDoorEl
namespace Go.Proofs.YtamjncikmfpihaaGreatDoor
open Go.RT
set_option linter.all false
set_option maxRecDepth 100000

theorem itoa_len60 {n : Int} (h : R64 n) : (Lib.itoa n).length ≤ 60 := by
  have key : ∀ (k u : Nat), u < 10 ^ (k + 1) → (Lib.decDigits u).length ≤ k + 1 := by
    intro k
    induction k with
    | zero =>
      intro u hu
      rw [Lib.decDigits_one (by simpa using hu)]
      simp
    | succ k ih =>
      intro u hu
      by_cases h9 : u < 10
      · rw [Lib.decDigits_one h9]; simp
      · rw [Lib.decDigits.eq_1 u, dif_neg h9]
        have := ih (u / 10) (by rw [Nat.pow_succ] at hu; omega)
        simp
        omega
  unfold R64 at h
  unfold Lib.itoa
  split
  · have := key 20 n.natAbs (by omega)
    simp
    omega
  · have := key 20 n.toNat (by omega)
    omega
theorem itoaF_eq (F : Nat) {n : Int} (h : R64 n) : itoaF F n = some (Lib.itoa n) := by
  unfold itoaF
  unfold R64 at h
  rw [rq_true]
  rw [decide_eq_true h.1, decide_eq_true h.2]
  rfl
theorem decimal_neg (F : Nat) (hF : 30 ≤ F) {n : Int} (h0 : -9223372036854775808 ≤ n) (h1 : n < 0) : ref05_Decimal F n = some (Lib.itoa n) := by
  unfold ref05_Decimal ref05_digits
  obtain ⟨u, hu⟩ : ∃ u : Nat, n = -(u : Int) := ⟨(-n).toNat, by omega⟩
  have e1 : w64 (0 - w64 (n + 1)) = (u : Int) - 1 := by rw [w64_in (x := n + 1) (by omega), w64_in (by omega)]; omega
  have e2 : IntKind.wrap .u64 ((IntKind.wrap .u64 ((u : Int) - 1)) + 1) = (u : Int) := by
    rw [IntWalk.u64_in ((u : Int) - 1) (by omega), IntWalk.u64_in _ (by omega)]; omega
  rw [decide_eq_true h1]
  simp only [cond_true, e1, e2]
  rw [digits_loop 20 u F [] (by omega) (by omega) (by omega) (by simp)]
  simp only [Option.bind_some, List.append_nil]
  rw [hu, Lib.itoa_neg u (by omega)]
  have hl : (Lib.decDigits u).length ≤ 60 := by
    have := itoa_len60 (n := -(u : Int)) ⟨by omega, by omega⟩
    rw [Lib.itoa_neg u (by omega)] at this
    simp at this
    omega
  rw [rq_str (by simp; omega)]
  rfl
theorem dec_eq (F : Nat) (hF : 30 ≤ F) {n : Int} (h : R64 n) : ref05_Decimal F n = some (Lib.itoa n) := by
  by_cases h0 : 0 ≤ n
  · exact decimal_eq F hF h0 h.2
  · exact decimal_neg F hF h.1 (by omega)

theorem Good.okn {e : TExpr} (g : Good e) : R64 e.fN := by
  obtain ⟨v, o, m⟩ := g
  cases o with
  | mk op n name kids a1 a2 a3 a4 a5 => exact wf64 a2
theorem Good.op {e : TExpr} (g : Good e) : 1 ≤ e.fOp ∧ e.fOp ≤ 26 := op_range g.facts.1
theorem Good.kidAt {e : TExpr} (g : Good e) {i : Nat} (h : i < e.fKids.length) : Good (e.fKids.getD i dTExpr) ∧ e.fKids.getD i dTExpr ∈ e.fKids := by
  have hm : e.fKids.getD i dTExpr ∈ e.fKids := by simp [List.getD, h]
  exact ⟨g.kid _ hm, hm⟩
theorem nodes_at {e : TExpr} {i : Nat} (h : i < e.fKids.length) : nodes (e.fKids.getD i dTExpr) < nodes e := by
  have hm : e.fKids.getD i dTExpr ∈ e.fKids := by simp [List.getD, h]
  have := nodes_mem hm
  rw [nodes_eq e]
  omega
theorem nodes_two {l : List TExpr} {i j : Nat} (hij : i < j) (hj : j < l.length) : nodes (l.getD i dTExpr) + nodes (l.getD j dTExpr) ≤ nodesL l := by
  induction l generalizing i j with
  | nil => simp at hj
  | cons k l ih =>
    cases j with
    | zero => omega
    | succ j =>
      have hj' : j < l.length := by simpa using hj
      cases i with
      | zero =>
        have hm : l.getD j dTExpr ∈ l := by simp [List.getD, hj']
        have := nodes_mem hm
        simp only [List.getD_cons_zero, List.getD_cons_succ, nodesL]
        omega
      | succ i =>
        have := ih (i := i) (j := j) (by omega) hj'
        simp only [List.getD_cons_succ, nodesL]
        omega

/-- How an expression looks, by its operator. -/
theorem Good.shape {e : TExpr} (g : Good e) : (e.fOp = 1) ∨ (e.fOp = 2) ∨ ((3 ≤ e.fOp ∧ e.fOp ≤ 6) ∧ e.fKids.length = 1) ∨ ((7 ≤ e.fOp ∧ e.fOp ≤ 24) ∧ e.fKids.length = 2) ∨ (e.fOp = 25 ∧ e.fKids.length = 3) ∨ (e.fOp = 26 ∧ e.fKids.length = 1) := by
  have h1 := g.facts.1
  have h2 := g.op
  rcases op_cases h2 with h | h | h | h | h | h | h | h | h | h | h | h | h | h | h | h | h | h | h | h | h | h | h | h | h | h <;> rw [h] at h1 <;> simp [kidsS] at h1 <;> omega

theorem evS_ok : ∀ e, Good e → ∀ c m, Eo c m → Eo (c + nodes e) (evS e m).2.2 ∧ R64 (evS e m).1 := by
  apply Good.ind
  intro e g ih c m hm
  have z : R64 0 := by unfold R64; decide
  have one : R64 1 := by unfold R64; decide
  have hself := hm.mono (show c ≤ c + nodes e by omega)
  rw [evS_eq]
  unfold evB
  cases h1 : (e.fOp == 1) with
  | true => exact ⟨hself, g.okn⟩
  | false =>
  cases h2 : (e.fOp == 2) with
  | true =>
    unfold cVar
    simp only [cond_true, cond_false]
    cases (!(intS (mget keq m e.fName [])).2)
    · exact ⟨hself, intS_rng _⟩
    · exact ⟨hself, z⟩
  | false =>
  simp only [beq_eq_false_iff_ne] at h1 h2
  have hl : 0 < e.fKids.length := by rcases g.shape with h | h | h | h | h | h <;> omega
  obtain ⟨g0, m0⟩ := g.kidAt hl
  obtain ⟨i1, i2⟩ := ih _ m0 c m hm
  have n0 := nodes_at hl
  simp only [cond_false]
  rw [ev_at _ 0 hl]
  generalize hx : evS (e.fKids.getD 0 dTExpr) m = x at i1 i2 ⊢
  have i1' := i1.mono (show c + nodes (e.fKids.getD 0 dTExpr) ≤ c + nodes e by omega)
  cases (x.2.1 != 0) with
  | true => exact ⟨i1', z⟩
  | false =>
  simp only [cond_false]
  cases h26 : (e.fOp == 26) with
  | true =>
    simp only [cond_true]
    unfold cSet
    have hs : ∀ n : Int, R64 n → Eo (c + nodes e) (mset keq x.2.2 e.fName (Lib.itoa n)) := fun n hn => (i1.set g.facts.2.2.2.1 (itoa_len60 hn)).mono (by omega)
    cases (e.fN != 0) with
    | false => exact ⟨hs _ i2, i2⟩
    | true =>
      simp only [cond_true]
      cases (!(intS (mget keq x.2.2 e.fName [])).2) with
      | true => exact ⟨i1', z⟩
      | false =>
        simp only [cond_false]
        have hr := cBin_rng e.fN (intS_rng (mget keq x.2.2 e.fName [])) i2
        cases ((cBin e.fN (intS (mget keq x.2.2 e.fName [])).1 x.1).2 != 0) with
        | true => exact ⟨i1', z⟩
        | false => exact ⟨hs _ hr, hr⟩
  | false =>
  simp only [beq_eq_false_iff_ne] at h26
  simp only [cond_false]
  cases h36 : (decide (3 ≤ e.fOp) && decide (e.fOp ≤ 6)) with
  | true => exact ⟨i1', cUn_rng _ i2⟩
  | false =>
  have h36' : ¬ (3 ≤ e.fOp ∧ e.fOp ≤ 6) := by
    intro hh
    rw [decide_eq_true hh.1, decide_eq_true hh.2] at h36
    cases h36
  simp only [cond_false]
  have hl1 : 1 < e.fKids.length := by rcases g.shape with h | h | h | h | h | h <;> omega
  obtain ⟨g1, m1⟩ := g.kidAt hl1
  obtain ⟨j1, j2⟩ := ih _ m1 _ x.2.2 i1
  have n01 := nodes_two (l := e.fKids) (i := 0) (j := 1) (by omega) hl1
  rw [ev_at _ 1 hl1]
  have j1' := j1.mono (show c + nodes (e.fKids.getD 0 dTExpr) + nodes (e.fKids.getD 1 dTExpr) ≤ c + nodes e by rw [nodes_eq e]; omega)
  cases h25 : (e.fOp == 25) with
  | true =>
    have h25' : e.fOp = 25 := by simpa using h25
    have hl2 : 2 < e.fKids.length := by rcases g.shape with h | h | h | h | h | h <;> omega
    obtain ⟨g2, m2⟩ := g.kidAt hl2
    obtain ⟨k1, k2⟩ := ih _ m2 _ x.2.2 i1
    have n02 := nodes_two (l := e.fKids) (i := 0) (j := 2) (by omega) hl2
    rw [ev_at _ 2 hl2]
    simp only [cond_true]
    cases (x.1 != 0) with
    | true => exact ⟨j1', j2⟩
    | false => exact ⟨k1.mono (by rw [nodes_eq e]; omega), k2⟩
  | false =>
  simp only [cond_false]
  cases (e.fOp == 23 && x.1 == 0) with
  | true => exact ⟨i1', z⟩
  | false =>
  simp only [cond_false]
  cases (e.fOp == 24 && x.1 != 0) with
  | true => exact ⟨i1', one⟩
  | false =>
  simp only [cond_false]
  unfold cTwo
  cases ((evS (e.fKids.getD 1 dTExpr) x.2.2).2.1 != 0) with
  | true => exact ⟨j1', z⟩
  | false => exact ⟨j1', cBin_rng _ i2 j2⟩

theorem ne_beq {a b : Int} (h : a ≠ b) : (a == b) = false := by rw [beq_eq_false_iff_ne]; exact h
theorem var_eq {c : Nat} {m : Env} (F : Nat) (hF : 100 ≤ F) (hm : Eo c m) (name : List UInt8) : calc_evaluator_variable F name m = some ((cVar name m).1, (cVar name m).2.1) := by
  unfold calc_evaluator_variable calc_Eval_2 cVar
  have := hm.get name
  simp only [Option.bind_some]
  rw [integer_eq F _ (by omega) (by omega)]
  simp only [Option.bind_some]
  cases (intS (mget keq m name [])).2 <;> rfl
theorem cVar_env (name : List UInt8) (m : Env) : (cVar name m).2.2 = m := by
  unfold cVar
  cases (!(intS (mget keq m name [])).2) <;> rfl

/-- The program's evaluator. -/
theorem value_follows : ∀ e, Good e → Evt fun F n => ∀ c m, Eo c m → calc_evaluator_value_n F n e m = some (evS e m) := by
  apply Good.ind
  intro e g ih
  refine Evt.succ (Evt.succ (((Evt.all ih).and (Evt.all ih).up).map2 (Evt.ge (p := fun F _ => 100 ≤ F) 100 fun F n h _ => h) fun F n hi hF c m hm => ?_))
  obtain ⟨ih, ih'⟩ := hi
  show calc_evaluator_value_m F (calc_evaluator_value_n F (n + 1)) (calc_evaluator_assign_n F (n + 1)) e m = _
  have ha : ∀ m, calc_evaluator_assign_n F (n + 1) e m = calc_evaluator_assign_m F (calc_evaluator_value_n F n) (calc_evaluator_assign_n F n) e m := fun m => rfl
  rw [evS_eq]
  unfold calc_evaluator_value_m evB
  cases h1 : (e.fOp == 1) with
  | true => rfl
  | false =>
  cases h2 : (e.fOp == 2) with
  | true =>
    simp only [cond_true, cond_false]
    rw [var_eq F hF hm]
    have := cVar_env e.fName m
    simp only [Option.bind_some]
    congr 1
    refine Prod.ext rfl (Prod.ext rfl this.symm)
  | false =>
  simp only [beq_eq_false_iff_ne] at h1 h2
  have hl : 0 < e.fKids.length := by rcases g.shape with h | h | h | h | h | h <;> omega
  obtain ⟨g0, m0⟩ := g.kidAt hl
  obtain ⟨i1, i2⟩ := evS_ok _ g0 c m hm
  have e0 : decide (0 < (e.fKids.length : Int)) = true := decide_eq_true (by omega)
  simp only [cond_false, e0, rq_tt]
  rw [ev_at _ 0 hl, ih' _ m0 c m hm]
  cases h26 : (e.fOp == 26) with
  | true =>
    have h26' : e.fOp = 26 := by simpa using h26
    simp only [cond_true, TExpr.eta]
    rw [ha]
    unfold calc_evaluator_assign_m
    rw [e0, ih _ m0 c m hm]
    simp only [rq_tt, Option.bind_some]
    generalize evS (e.fKids.getD 0 dTExpr) m = x at i1 i2 ⊢
    cases (x.2.1 != 0) with
    | true => rfl
    | false =>
      simp only [cond_false]
      rw [var_eq F hF i1]
      unfold cSet calc_Eval_1
      cases (e.fN != 0) with
      | false =>
        simp only [cond_false, jj, Option.bind_some, sm]
        rw [itoaF_eq F i2]
        rfl
      | true =>
        simp only [cond_true, Option.bind_some]
        unfold cVar
        cases (!(intS (mget keq x.2.2 e.fName [])).2) with
        | true => rfl
        | false =>
          have hr := cBin_rng e.fN (intS_rng (mget keq x.2.2 e.fName [])) i2
          simp only [cond_false, bne_self_eq_false]
          rw [binary_eq]
          simp only [Option.bind_some]
          cases ((cBin e.fN (intS (mget keq x.2.2 e.fName [])).1 x.1).2 != 0) with
          | true => rfl
          | false =>
            simp only [cond_false, jj, Option.bind_some, sm]
            rw [itoaF_eq F hr]
            rfl
  | false =>
  simp only [beq_eq_false_iff_ne] at h26
  simp only [cond_false, Option.bind_some]
  generalize evS (e.fKids.getD 0 dTExpr) m = x at i1 i2 ⊢
  cases (x.2.1 != 0) with
  | true => rfl
  | false =>
  simp only [cond_false]
  have hun : (cond (e.fOp == 3) (some (e.fOp == 3)) (cond (e.fOp == 4) (some (e.fOp == 4)) (cond (e.fOp == 5) (some (e.fOp == 5)) (some (e.fOp == 6)))) : Option Bool) = some (decide (3 ≤ e.fOp) && decide (e.fOp ≤ 6)) := by
    by_cases h : 3 ≤ e.fOp ∧ e.fOp ≤ 6
    · have : e.fOp = 3 ∨ e.fOp = 4 ∨ e.fOp = 5 ∨ e.fOp = 6 := by omega
      rcases this with h | h | h | h <;> rw [h] <;> rfl
    · rw [ne_beq (show e.fOp ≠ 3 by omega), ne_beq (show e.fOp ≠ 4 by omega), ne_beq (show e.fOp ≠ 5 by omega), ne_beq (show e.fOp ≠ 6 by omega)]
      simp only [cond_false]
      congr 1
      symm
      rw [Bool.and_eq_false_iff, decide_eq_false_iff_not, decide_eq_false_iff_not]
      omega
  rw [hun]
  simp only [Option.bind_some]
  cases h36 : (decide (3 ≤ e.fOp) && decide (e.fOp ≤ 6)) with
  | true =>
    simp only [cond_true, unary_eq, Option.bind_some, jj, sm]
  | false =>
  have h36' : ¬ (3 ≤ e.fOp ∧ e.fOp ≤ 6) := by
    intro hh
    rw [decide_eq_true hh.1, decide_eq_true hh.2] at h36
    cases h36
  simp only [cond_false]
  have hl1 : 1 < e.fKids.length := by rcases g.shape with h | h | h | h | h | h <;> omega
  obtain ⟨g1, m1⟩ := g.kidAt hl1
  have e1 : decide (1 < (e.fKids.length : Int)) = true := decide_eq_true (by omega)
  have f1 := ih' _ m1 _ x.2.2 i1
  rw [ev_at _ 1 hl1, e1, f1]
  cases h25 : (e.fOp == 25) with
  | true =>
    have h25' : e.fOp = 25 := by simpa using h25
    have hl2 : 2 < e.fKids.length := by rcases g.shape with h | h | h | h | h | h <;> omega
    obtain ⟨g2, m2⟩ := g.kidAt hl2
    have e2 : decide (2 < (e.fKids.length : Int)) = true := decide_eq_true (by omega)
    rw [ev_at _ 2 hl2, e2, ih' _ m2 _ x.2.2 i1]
    simp only [cond_true, rq_tt, Option.bind_some]
    cases (x.1 != 0) <;> rfl
  | false =>
  simp only [cond_false, rq_tt, Option.bind_some]
  have hx : (x.1 != 0) = !(x.1 == 0) := rfl
  unfold cTwo
  have fin : ((some (evS (e.fKids.getD 1 dTExpr) x.2.2)).bind fun x9 => cond (x9.2.1 != 0) (some (0, x9.2.1, x9.2.2)) ((calc_binary F e.fOp x.1 x9.1).bind fun x10 => some (x10.1, x10.2, x9.2.2))) = some (cond ((evS (e.fKids.getD 1 dTExpr) x.2.2).2.1 != 0) (0, (evS (e.fKids.getD 1 dTExpr) x.2.2).2.1, (evS (e.fKids.getD 1 dTExpr) x.2.2).2.2) ((cBin e.fOp x.1 (evS (e.fKids.getD 1 dTExpr) x.2.2).1).1, (cBin e.fOp x.1 (evS (e.fKids.getD 1 dTExpr) x.2.2).1).2, (evS (e.fKids.getD 1 dTExpr) x.2.2).2.2)) := by
    simp only [Option.bind_some, binary_eq]
    cases ((evS (e.fKids.getD 1 dTExpr) x.2.2).2.1 != 0) <;> rfl
  simp only [Option.bind_some] at fin
  cases h23 : (e.fOp == 23) with
  | true =>
    have h24 : (e.fOp == 24) = false := ne_beq (by have : e.fOp = 23 := by simpa using h23
                                                   omega)
    rw [h24, hx]
    cases (x.1 == 0) with
    | true => rfl
    | false => exact fin
  | false =>
    rw [hx]
    cases h24 : (e.fOp == 24) with
    | true =>
      cases (x.1 == 0) with
      | true => exact fin
      | false => rfl
    | false => exact fin
end Go.Proofs.YtamjncikmfpihaaGreatDoor
