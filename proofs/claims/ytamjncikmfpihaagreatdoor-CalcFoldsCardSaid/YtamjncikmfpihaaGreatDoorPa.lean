/-
  Plain lemmas on the helpers of Arith's models.
-/
import Derived.Test.YtamjncikmfpihaaGreatDoorZ2
import Derived.Test.YtamjncikmfpihaaGreatDoorPu
namespace Go.Proofs.YtamjncikmfpihaaGreatDoor
open Go.RT
set_option linter.unusedVariables false
set_option linter.unusedSimpArgs false
set_option maxRecDepth 100000

theorem cond_some {α : Type} (c : Bool) (x y : α) : cond c (some x) (some y) = some (cond c x y) := by cases c <;> rfl
def descO (a : Int) : Option (Int × List UInt8) := cond ((24 : Int) == a) (some (3, [124, 124])) (cond ((23 : Int) == a) (some (4, [38, 38])) (cond ((22 : Int) == a) (some (5, [124])) (cond ((21 : Int) == a) (some (6, [94])) (cond ((20 : Int) == a) (some (7, [38])) (cond ((18 : Int) == a) (some (8, [61, 61])) (cond ((19 : Int) == a) (some (8, [33, 61])) (cond ((14 : Int) == a) (some (9, [60])) (cond ((15 : Int) == a) (some (9, [62])) (cond ((16 : Int) == a) (some (9, [60, 61])) (cond ((17 : Int) == a) (some (9, [62, 61])) (cond ((12 : Int) == a) (some (10, [60, 60])) (cond ((13 : Int) == a) (some (10, [62, 62])) (cond ((10 : Int) == a) (some (11, [43])) (cond ((11 : Int) == a) (some (11, [45])) (cond ((7 : Int) == a) (some (12, [42])) (cond ((8 : Int) == a) (some (12, [47])) (cond ((9 : Int) == a) (some (12, [37])) (some (0, [])))))))))))))))))))
/-- An operator's level and symbol. -/
def descB (a : Int) : Int × List UInt8 := cond ((24 : Int) == a) (3, [124, 124]) (cond ((23 : Int) == a) (4, [38, 38]) (cond ((22 : Int) == a) (5, [124]) (cond ((21 : Int) == a) (6, [94]) (cond ((20 : Int) == a) (7, [38]) (cond ((18 : Int) == a) (8, [61, 61]) (cond ((19 : Int) == a) (8, [33, 61]) (cond ((14 : Int) == a) (9, [60]) (cond ((15 : Int) == a) (9, [62]) (cond ((16 : Int) == a) (9, [60, 61]) (cond ((17 : Int) == a) (9, [62, 61]) (cond ((12 : Int) == a) (10, [60, 60]) (cond ((13 : Int) == a) (10, [62, 62]) (cond ((10 : Int) == a) (11, [43]) (cond ((11 : Int) == a) (11, [45]) (cond ((7 : Int) == a) (12, [42]) (cond ((8 : Int) == a) (12, [47]) (cond ((9 : Int) == a) (12, [37]) ((0, [])))))))))))))))))))
def descS (a : Int) : Int × List UInt8 := cond (a == 1 || a == 2) (14, []) (cond (a == 3) (13, [45]) (cond (a == 4) (13, [43]) (cond (a == 5) (13, [33]) (cond (a == 6) (13, [126]) (cond (a == 25) (2, [63]) (cond (a == 26) (1, [61]) (descB a)))))))
def kidsS (a : Int) : Int := cond (a == 1 || a == 2) 0 (cond ((decide (3 ≤ a) && decide (a ≤ 6)) || a == 26) 1 (cond (decide (7 ≤ a) && decide (a ≤ 24)) 2 (cond (a == 25) 3 (-1))))

theorem kids_eq (F : Nat) (a : Int) : ref05_kids F a = some (kidsS a) := by
  unfold ref05_kids kidsS
  cases h1 : (a == 1) <;> cases h2 : (a == 2) <;> cases h3 : decide (3 ≤ a) <;> cases h4 : decide (a ≤ 6) <;> cases h5 : (a == 26) <;> cases h6 : decide (7 ≤ a) <;> cases h7 : decide (a ≤ 24) <;> cases h8 : (a == 25) <;> rfl

theorem descO_eq (a : Int) : descO a = some (descB a) := by simp only [descO, descB, cond_some]
theorem desc_loop (G : Nat) (a : Int) : ((arith_binaries (G + 20)).bind fun x2 =>
 loopF (σ := Int) (R := Int × (List UInt8)) (fun rc4 x3 =>
 cond (decide (x3 < (x2.length : Int)))
 (rq ((decide (0 ≤ x3)) && (decide (x3 < (x2.length : Int)))) (cond (((x2.getD (Int.toNat x3) dTbinary).fop) == a)
 (some ((x2.getD (Int.toNat x3) dTbinary).flevel, (x2.getD (Int.toNat x3) dTbinary).fsymbol))
 (rc4 (w64 (x3 + 1)))))
 (some (0, []))) (G + 20) 0) = descO a := by kernel_rfl
theorem describe_eq (G : Nat) (a : Int) : arith_describe (G + 20) a = some (descS a) := by
  unfold arith_describe descS
  cases h1 : (a == 1) <;> cases h2 : (a == 2) <;> simp only [cond_true, cond_false, Option.bind_some, Bool.or_true, Bool.or_false, Bool.true_or, Bool.false_or]
  cases h3 : (a == 3) <;> simp only [cond_true, cond_false]
  cases h4 : (a == 4) <;> simp only [cond_true, cond_false]
  cases h5 : (a == 5) <;> simp only [cond_true, cond_false]
  cases h6 : (a == 6) <;> simp only [cond_true, cond_false]
  cases h7 : (a == 25) <;> simp only [cond_true, cond_false]
  cases h8 : (a == 26) <;> simp only [cond_true, cond_false]
  exact (desc_loop G a).trans (descO_eq a)

def ofLev (L : Int) : Int := cond (L == 1 || L == 13) 1 (cond (L == 2) 3 (cond (L == 14) 0 2))
theorem lev_kids (op : Int) : ((descS op).1 = 0 ∧ kidsS op = -1) ∨ ((descS op).1 ≠ 0 ∧ ofLev (descS op).1 = kidsS op) := by
  by_cases h : 1 ≤ op ∧ op ≤ 26
  · have : op = 1 ∨ op = 2 ∨ op = 3 ∨ op = 4 ∨ op = 5 ∨ op = 6 ∨ op = 7 ∨ op = 8 ∨ op = 9 ∨ op = 10 ∨ op = 11 ∨ op = 12 ∨ op = 13 ∨ op = 14 ∨ op = 15 ∨ op = 16 ∨ op = 17 ∨ op = 18 ∨ op = 19 ∨ op = 20 ∨ op = 21 ∨ op = 22 ∨ op = 23 ∨ op = 24 ∨ op = 25 ∨ op = 26 := by omega
    rcases this with rfl | rfl | rfl | rfl | rfl | rfl | rfl | rfl | rfl | rfl | rfl | rfl | rfl | rfl | rfl | rfl | rfl | rfl | rfl | rfl | rfl | rfl | rfl | rfl | rfl | rfl <;> decide
  · left
    have h1 : (op == 1) = false := by rw [beq_eq_false_iff_ne]; omega
    have g1 : ((1 : Int) == op) = false := by rw [beq_eq_false_iff_ne]; omega
    have h2 : (op == 2) = false := by rw [beq_eq_false_iff_ne]; omega
    have g2 : ((2 : Int) == op) = false := by rw [beq_eq_false_iff_ne]; omega
    have h3 : (op == 3) = false := by rw [beq_eq_false_iff_ne]; omega
    have g3 : ((3 : Int) == op) = false := by rw [beq_eq_false_iff_ne]; omega
    have h4 : (op == 4) = false := by rw [beq_eq_false_iff_ne]; omega
    have g4 : ((4 : Int) == op) = false := by rw [beq_eq_false_iff_ne]; omega
    have h5 : (op == 5) = false := by rw [beq_eq_false_iff_ne]; omega
    have g5 : ((5 : Int) == op) = false := by rw [beq_eq_false_iff_ne]; omega
    have h6 : (op == 6) = false := by rw [beq_eq_false_iff_ne]; omega
    have g6 : ((6 : Int) == op) = false := by rw [beq_eq_false_iff_ne]; omega
    have h7 : (op == 7) = false := by rw [beq_eq_false_iff_ne]; omega
    have g7 : ((7 : Int) == op) = false := by rw [beq_eq_false_iff_ne]; omega
    have h8 : (op == 8) = false := by rw [beq_eq_false_iff_ne]; omega
    have g8 : ((8 : Int) == op) = false := by rw [beq_eq_false_iff_ne]; omega
    have h9 : (op == 9) = false := by rw [beq_eq_false_iff_ne]; omega
    have g9 : ((9 : Int) == op) = false := by rw [beq_eq_false_iff_ne]; omega
    have h10 : (op == 10) = false := by rw [beq_eq_false_iff_ne]; omega
    have g10 : ((10 : Int) == op) = false := by rw [beq_eq_false_iff_ne]; omega
    have h11 : (op == 11) = false := by rw [beq_eq_false_iff_ne]; omega
    have g11 : ((11 : Int) == op) = false := by rw [beq_eq_false_iff_ne]; omega
    have h12 : (op == 12) = false := by rw [beq_eq_false_iff_ne]; omega
    have g12 : ((12 : Int) == op) = false := by rw [beq_eq_false_iff_ne]; omega
    have h13 : (op == 13) = false := by rw [beq_eq_false_iff_ne]; omega
    have g13 : ((13 : Int) == op) = false := by rw [beq_eq_false_iff_ne]; omega
    have h14 : (op == 14) = false := by rw [beq_eq_false_iff_ne]; omega
    have g14 : ((14 : Int) == op) = false := by rw [beq_eq_false_iff_ne]; omega
    have h15 : (op == 15) = false := by rw [beq_eq_false_iff_ne]; omega
    have g15 : ((15 : Int) == op) = false := by rw [beq_eq_false_iff_ne]; omega
    have h16 : (op == 16) = false := by rw [beq_eq_false_iff_ne]; omega
    have g16 : ((16 : Int) == op) = false := by rw [beq_eq_false_iff_ne]; omega
    have h17 : (op == 17) = false := by rw [beq_eq_false_iff_ne]; omega
    have g17 : ((17 : Int) == op) = false := by rw [beq_eq_false_iff_ne]; omega
    have h18 : (op == 18) = false := by rw [beq_eq_false_iff_ne]; omega
    have g18 : ((18 : Int) == op) = false := by rw [beq_eq_false_iff_ne]; omega
    have h19 : (op == 19) = false := by rw [beq_eq_false_iff_ne]; omega
    have g19 : ((19 : Int) == op) = false := by rw [beq_eq_false_iff_ne]; omega
    have h20 : (op == 20) = false := by rw [beq_eq_false_iff_ne]; omega
    have g20 : ((20 : Int) == op) = false := by rw [beq_eq_false_iff_ne]; omega
    have h21 : (op == 21) = false := by rw [beq_eq_false_iff_ne]; omega
    have g21 : ((21 : Int) == op) = false := by rw [beq_eq_false_iff_ne]; omega
    have h22 : (op == 22) = false := by rw [beq_eq_false_iff_ne]; omega
    have g22 : ((22 : Int) == op) = false := by rw [beq_eq_false_iff_ne]; omega
    have h23 : (op == 23) = false := by rw [beq_eq_false_iff_ne]; omega
    have g23 : ((23 : Int) == op) = false := by rw [beq_eq_false_iff_ne]; omega
    have h24 : (op == 24) = false := by rw [beq_eq_false_iff_ne]; omega
    have g24 : ((24 : Int) == op) = false := by rw [beq_eq_false_iff_ne]; omega
    have h25 : (op == 25) = false := by rw [beq_eq_false_iff_ne]; omega
    have g25 : ((25 : Int) == op) = false := by rw [beq_eq_false_iff_ne]; omega
    have h26 : (op == 26) = false := by rw [beq_eq_false_iff_ne]; omega
    have g26 : ((26 : Int) == op) = false := by rw [beq_eq_false_iff_ne]; omega
    have k1 : (decide (3 ≤ op) && decide (op ≤ 6)) = false := by
      rw [Bool.and_eq_false_iff, decide_eq_false_iff_not, decide_eq_false_iff_not]; omega
    have k2 : (decide (7 ≤ op) && decide (op ≤ 24)) = false := by
      rw [Bool.and_eq_false_iff, decide_eq_false_iff_not, decide_eq_false_iff_not]; omega
    refine ⟨?_, ?_⟩
    · simp only [descS, descB, h1, h2, h3, h4, h5, h6, h7, h8, h9, h10, h11, h12, h13, h14, h15, h16, h17, h18, h19, h20, h21, h22, h23, h24, h25, h26, g1, g2, g3, g4, g5, g6, g7, g8, g9, g10, g11, g12, g13, g14, g15, g16, g17, g18, g19, g20, g21, g22, g23, g24, g25, g26, Bool.or_false, cond_false]
    · simp only [kidsS, h1, h2, h25, h26, k1, k2, Bool.or_false, cond_false]

def compS (n : Int) : Bool := (decide (7 ≤ n) && decide (n ≤ 13)) || (decide (20 ≤ n) && decide (n ≤ 22))
theorem compA_eq (F : Nat) (n : Int) : arith_compound F n = some (compS n) := by
  by_cases h : n = 7 ∨ n = 8 ∨ n = 9 ∨ n = 10 ∨ n = 11 ∨ n = 12 ∨ n = 13 ∨ n = 20 ∨ n = 21 ∨ n = 22
  · rcases h with rfl | rfl | rfl | rfl | rfl | rfl | rfl | rfl | rfl | rfl <;> rfl
  · unfold arith_compound compS
    have h7 : (n == 7) = false := by rw [beq_eq_false_iff_ne]; omega
    have h8 : (n == 8) = false := by rw [beq_eq_false_iff_ne]; omega
    have h9 : (n == 9) = false := by rw [beq_eq_false_iff_ne]; omega
    have h10 : (n == 10) = false := by rw [beq_eq_false_iff_ne]; omega
    have h11 : (n == 11) = false := by rw [beq_eq_false_iff_ne]; omega
    have h12 : (n == 12) = false := by rw [beq_eq_false_iff_ne]; omega
    have h13 : (n == 13) = false := by rw [beq_eq_false_iff_ne]; omega
    have h20 : (n == 20) = false := by rw [beq_eq_false_iff_ne]; omega
    have h21 : (n == 21) = false := by rw [beq_eq_false_iff_ne]; omega
    have h22 : (n == 22) = false := by rw [beq_eq_false_iff_ne]; omega
    have k1 : (decide (7 ≤ n) && decide (n ≤ 13)) = false := by
      rw [Bool.and_eq_false_iff, decide_eq_false_iff_not, decide_eq_false_iff_not]; omega
    have k2 : (decide (20 ≤ n) && decide (n ≤ 22)) = false := by
      rw [Bool.and_eq_false_iff, decide_eq_false_iff_not, decide_eq_false_iff_not]; omega
    simp only [h7, h8, h9, h10, h11, h12, h13, h20, h21, h22, k1, k2, cond_false, Bool.or_false]
theorem compR_eq (F : Nat) (n : Int) : ref05_compound F n = some (n == 0 || compS n) := by
  unfold ref05_compound compS
  cases h1 : (n == 0) <;> cases h2 : decide (7 ≤ n) <;> cases h3 : decide (n ≤ 13) <;> cases h4 : decide (20 ≤ n) <;> cases h5 : decide (n ≤ 22) <;> rfl

end Go.Proofs.YtamjncikmfpihaaGreatDoor
