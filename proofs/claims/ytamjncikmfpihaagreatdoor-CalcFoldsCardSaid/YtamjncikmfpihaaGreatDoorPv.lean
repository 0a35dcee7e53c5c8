/-
  Arith: the two walks that say whether an expression is valid come to the same.
-/
import Derived.Test.YtamjncikmfpihaaGreatDoorPn
import Derived.Test.YtamjncikmfpihaaGreatDoorLp
namespace Go.Proofs.YtamjncikmfpihaaGreatDoor
open Go.RT
set_option linter.unusedVariables false
set_option maxRecDepth 100000

theorem valid_body (G : Nat) (r : TExpr → Int → Option Int) (e : TExpr) (d : Int) (hd : d ≤ 32) (hN : chars_Name (G + 20) e.fName = ref01_Name (G + 20) e.fName) :
    arith_valid_m (G + 20) r e d = ref05_valid_m (G + 20) r e d := by
  unfold arith_valid_m ref05_valid_m
  simp only [describe_eq, kids_eq, compA_eq, compR_eq, hN, Option.bind_some, TExpr.eta]
  generalize ref01_Name (G + 20) e.fName = nm
  generalize e.fOp = op
  generalize e.fN = n
  generalize e.fName = name
  generalize e.fKids = kids
  have e32 : (d == 32) = decide (32 ≤ d) := by
    rw [Bool.eq_iff_iff, beq_iff_eq, decide_eq_true_eq]; omega
  have en : decide (n < 0) = !(decide (0 ≤ n)) := by
    rw [Bool.eq_iff_iff, Bool.not_eq_true', decide_eq_true_eq, decide_eq_false_iff_not]; omega
  have o1 : (op == 1 && op == 26) = false := by
    rw [Bool.and_eq_false_iff, beq_eq_false_iff_ne, beq_eq_false_iff_ne]; omega
  rw [e32, en]
  simp only [bne]
  cases h32 : decide (32 ≤ d) <;> simp only [cond_true, cond_false]
  rcases lev_kids op with ⟨h1, h2⟩ | ⟨h1, h2⟩
  · rw [h1, h2]
    have e : ((kids.length : Int) == -1) = false := by rw [beq_eq_false_iff_ne]; omega
    rw [e]
    cases (op == 2) <;> cases (op == 26) <;> rfl
  · have e0 : ((descS op).1 == 0) = false := by rw [beq_eq_false_iff_ne]; exact h1
    have ex : ∀ k : Int → Option Int, jj (σ := Int) (R := Int) (cond ((descS op).1 == 0) (some (.inr 1)) ((cond ((descS op).1 == 1) (some ((descS op).1 == 1)) (some ((descS op).1 == 13)) : Option Bool).bind fun x3 =>
        cond x3 (some (.inl 1)) (cond ((descS op).1 == 2) (some (.inl 3)) (cond ((descS op).1 == 14) (some (.inl 0)) (some (.inl 2)))))) k = k (kidsS op) := by
      intro k
      rw [e0, ← h2]
      unfold ofLev
      generalize (descS op).1 = L
      cases (L == 1) <;> cases (L == 13) <;> cases (L == 2) <;> cases (L == 14) <;> rfl
    rw [ex]
    generalize (op == 1) = b1 at o1 ⊢
    generalize (op == 26) = b26 at o1 ⊢
    cases ((kids.length : Int) == kidsS op) <;> cases b1 <;> cases b26 <;> (first | (cases o1; done) | skip) <;>
      cases (op == 2) <;> cases (decide (0 ≤ n)) <;> cases (n == 0) <;> cases (compS n) <;> cases (name == []) <;> rfl

theorem valid_congr (F : Nat) (r r' : TExpr → Int → Option Int) (e : TExpr) (d : Int) (h : ¬ 32 ≤ d → ∀ x, r x (w64 (d + 1)) = r' x (w64 (d + 1))) : ref05_valid_m F r e d = ref05_valid_m F r' e d := by
  unfold ref05_valid_m
  by_cases hd : 32 ≤ d
  · rw [show decide (32 ≤ d) = true by simpa using hd]; rfl
  · simp only [h hd]

theorem valid_eq (G : Nat) (hG : 13 ≤ G) : ∀ (n : Nat) (e : TExpr) (d : Int), 0 ≤ d → d ≤ 32 → arith_valid_n (G + 20) n e d = ref05_valid_n (G + 20) n e d
  | 0, e, d, _, _ => rfl
  | n + 1, e, d, h0, h1 => by
    show arith_valid_m (G + 20) (arith_valid_n (G + 20) n) e d = ref05_valid_m (G + 20) (ref05_valid_n (G + 20) n) e d
    rw [valid_body G _ e d h1 (names_eq _ _ (by omega))]
    refine valid_congr _ _ _ e d fun hd x => ?_
    rw [w64_in (by omega)]
    exact valid_eq G hG n x (d + 1) (by omega) (by omega)

theorem len_size {α : Type} [SizeOf α] : ∀ l : List α, l.length ≤ SizeOf.sizeOf l
  | [] => by simp
  | x :: l => by have := len_size l; simp; omega
theorem kid_size (e : TExpr) : e.fKids.length < SizeOf.sizeOf e ∧ ∀ i, i < e.fKids.length → SizeOf.sizeOf (e.fKids.getD i dTExpr) < SizeOf.sizeOf e := by
  cases e with
  | mk op n name kids =>
    have h := len_size kids
    refine ⟨?_, fun i hi => ?_⟩
    · simp only [TExpr.fKids, TExpr.mk.sizeOf_spec]; omega
    · simp only [TExpr.fKids] at hi ⊢
      have hm : kids.getD i dTExpr ∈ kids := by simp [List.getD, hi]
      have := List.sizeOf_lt_of_mem hm
      simp only [TExpr.mk.sizeOf_spec]; omega

theorem ok_kids {e : TExpr} (h : okTExpr e) : e.fKids.length ≤ 9223372036854775807 ∧ ∀ i, i < e.fKids.length → okTExpr (e.fKids.getD i dTExpr) := by
  cases h with
  | mk op n name kids h1 h2 h3 h4 h5 =>
    have hm : maxLen ≤ 9223372036854775807 := by decide
    exact ⟨Nat.le_trans h4 hm, fun i hi => h5 _ (by simp only [TExpr.fKids] at hi ⊢; simp [List.getD, hi])⟩

theorem valid_some (F : Nat) (hF : 33 ≤ F) : ∀ (n : Nat) (e : TExpr) (d : Int), okTExpr e → 0 ≤ d → d ≤ 32 → 33 - d ≤ n → SizeOf.sizeOf e < F → ∃ r, ref05_valid_n F n e d = some r
  | 0, e, d, _, h0, h1, h2, _ => by omega
  | n + 1, e, d, ho, h0, h1, h2, hs => by
    obtain ⟨k3, k4⟩ := ok_kids ho
    show ∃ r, ref05_valid_m F (ref05_valid_n F n) e d = some r
    unfold ref05_valid_m
    simp only [kids_eq, compR_eq, ref01_Name_eq F _ hF, Option.bind_some]
    obtain ⟨k1, k2⟩ := kid_size e
    have loop : ¬ 32 ≤ d → ∃ r, loopF (σ := Int) (R := Int) (fun rc10 x9 =>
         cond (decide (x9 < (e.fKids.length : Int)))
         (rq ((decide (0 ≤ x9)) && (decide (x9 < (e.fKids.length : Int)))) ((ref05_valid_n F n (e.fKids.getD (Int.toNat x9) dTExpr) (w64 (d + 1))).bind fun x11 =>
         cond (x11 != 0)
         (some x11)
         (rc10 (w64 (x9 + 1)))))
         (some 0)) F 0 = some r := by
      intro hd
      rw [loopF_iter0 (n := e.fKids.length) (z := some 0) (f := fun i r => (ref05_valid_n F n (e.fKids.getD i dTExpr) (w64 (d + 1))).bind fun x11 => cond (x11 != 0) (some x11) r) (fun i rc hi => ?_) (fun rc => ?_) F (by omega)]
      · refine iter_some ⟨0, rfl⟩ _ _ fun j r _ hj => ?_
        rw [w64_in (by omega)]
        obtain ⟨y, hy⟩ := valid_some F hF n (e.fKids.getD j dTExpr) (d + 1) (k4 j (by omega)) (by omega) (by omega) (by omega) (by have := k2 j (by omega); omega)
        simp only [hy, Option.bind_some]
        cases (y != 0)
        · exact ⟨r, rfl⟩
        · exact ⟨y, rfl⟩
      · have e1 : decide ((i : Int) < (e.fKids.length : Int)) = true := by simpa using hi
        have e2 : decide (0 ≤ (i : Int)) = true := by simp
        simp only [e1, e2, cond_true, Bool.and_self, Int.toNat_natCast, rq]
        rw [w64_nat (by omega)]
      · have e1 : decide ((e.fKids.length : Int) < (e.fKids.length : Int)) = false := by simp
        simp only [e1, cond_false]
    by_cases hd : 32 ≤ d
    · rw [show decide (32 ≤ d) = true by simpa using hd]; exact ⟨5, rfl⟩
    · rw [show decide (32 ≤ d) = false by simpa using hd]
      obtain ⟨y, hy⟩ := loop hd
      rw [hy]
      simp only [bne]
      generalize ((e.fKids.length : Int) == kidsS e.fOp) = c0
      cases c0 <;> cases (e.fOp == 2) <;> cases (e.fOp == 26) <;> cases (e.fOp == 1) <;> cases (e.fName == []) <;> cases (decide (e.fN < 0)) <;> cases (e.fN == 0) <;> cases (compS e.fN) <;> cases (rName e.fName) <;> exact ⟨_, rfl⟩
end Go.Proofs.YtamjncikmfpihaaGreatDoor
