/-
  Constants of at most 2^63: what the program's magnitude and the reference's constant give; the plain law of CalcNumbers.
-/
import Derived.Test.YtamjncikmfpihaaGreatDoorVl
namespace Go.Proofs.YtamjncikmfpihaaGreatDoor
open Go.RT
set_option linter.all false
set_option maxRecDepth 100000

theorem awake60 : law06_awake 60 = some true := by kernel_rfl

def resM (base v : Nat) (l : List UInt8) : Int × Int := cond (okD (base : Int) l) (cond (decide (valN base v l ≤ 9223372036854775808)) ((valN base v l : Int), 0) (0, 14)) (0, 6)
def baseC (s : List UInt8) : Nat × List UInt8 :=
  cond ((([48, 120] : List UInt8).isPrefixOf s) || (([48, 88] : List UInt8).isPrefixOf s)) (16, s.drop 2) (cond (([48] : List UInt8).isPrefixOf s) (8, s) (10, s))
/-- The value of a constant of at most 2^63, or an error. -/
def magS (s : List UInt8) : Int × Int := cond ((baseC s).2 == []) (0, 6) (resM (baseC s).1 0 (baseC s).2)
def dC (b : UInt8) : Int := cond (decide (0 ≤ dR b)) (dR b) 16
theorem digitC_eq (F : Nat) (b : UInt8) : calc_digit F (b.toNat : Int) = some (dC b) := by
  have hb := b.toNat_lt
  unfold calc_digit dC dR dg digitS
  by_cases h1 : 48 ≤ (b.toNat : Int) ∧ (b.toNat : Int) ≤ 57
  · rw [decide_eq_true h1.1, decide_eq_true h1.2, IntWalk.u8_in ((b.toNat : Int) - 48) (by omega), IntWalk.u64_in ((b.toNat : Int) - 48) (by omega)]
    simp only [Bool.and_self, cond_true, Option.bind_some]
    rw [decide_eq_true (by omega)]; rfl
  · have e1 : (decide (48 ≤ (b.toNat : Int)) && decide ((b.toNat : Int) ≤ 57)) = false := by
      rw [Bool.and_eq_false_iff, decide_eq_false_iff_not, decide_eq_false_iff_not]; omega
    have e1' : (cond (decide (48 ≤ (b.toNat : Int))) (some (decide ((b.toNat : Int) ≤ 57))) (some false) : Option Bool) = some false := by
      rw [← e1]; cases decide (48 ≤ (b.toNat : Int)) <;> rfl
    rw [e1', e1]
    simp only [Option.bind_some, cond_false]
    by_cases h3 : 97 ≤ (b.toNat : Int) ∧ (b.toNat : Int) ≤ 102
    · rw [decide_eq_true h3.1, decide_eq_true h3.2, IntWalk.u8_in ((b.toNat : Int) - 97) (by omega), IntWalk.u64_in ((b.toNat : Int) - 97) (by omega), IntWalk.u64_in ((b.toNat : Int) - 97 + 10) (by omega)]
      simp only [Bool.and_self, cond_true, Option.bind_some]
      rw [decide_eq_true (by omega)]
      simp only [cond_true]
      congr 1
      omega
    · have e3 : (decide (97 ≤ (b.toNat : Int)) && decide ((b.toNat : Int) ≤ 102)) = false := by
        rw [Bool.and_eq_false_iff, decide_eq_false_iff_not, decide_eq_false_iff_not]; omega
      have e3' : (cond (decide (97 ≤ (b.toNat : Int))) (some (decide ((b.toNat : Int) ≤ 102))) (some false) : Option Bool) = some false := by
        rw [← e3]; cases decide (97 ≤ (b.toNat : Int)) <;> rfl
      rw [e3', e3]
      simp only [Option.bind_some, cond_false]
      by_cases h4 : 65 ≤ (b.toNat : Int) ∧ (b.toNat : Int) ≤ 70
      · rw [decide_eq_true h4.1, decide_eq_true h4.2, IntWalk.u8_in ((b.toNat : Int) - 65) (by omega), IntWalk.u64_in ((b.toNat : Int) - 65) (by omega), IntWalk.u64_in ((b.toNat : Int) - 65 + 10) (by omega)]
        simp only [Bool.and_self, cond_true, Option.bind_some]
        rw [decide_eq_true (by omega)]
        simp only [cond_true]
        congr 1
        omega
      · have e4 : (decide (65 ≤ (b.toNat : Int)) && decide ((b.toNat : Int) ≤ 70)) = false := by
          rw [Bool.and_eq_false_iff, decide_eq_false_iff_not, decide_eq_false_iff_not]; omega
        have e4' : (cond (decide (65 ≤ (b.toNat : Int))) (some (decide ((b.toNat : Int) ≤ 70))) (some false) : Option Bool) = some false := by
          rw [← e4]; cases decide (65 ≤ (b.toNat : Int)) <;> rfl
        rw [e4', e4]
        rfl

theorem mag_run (base : Nat) (hb : 1 ≤ base ∧ base ≤ 16) : ∀ (l : List UInt8) (n : Int) (big : Bool) (v : Nat), (big = false → n = (v : Int) ∧ v ≤ 9223372036854775808) → (big = true → 9223372036854775808 < v) →
    lrun (fun (t : Int × Bool) (b : UInt8) => cond (decide ((base : Int) ≤ dC b)) (some (.inr ((0, 6) : Int × Int))) (cond (t.2 || decide (IntKind.wrap .u64 (Int.tdiv (IntKind.wrap .u64 (9223372036854775808 - dC b)) (base : Int)) < t.1)) (some (.inl (t.1, true))) (some (.inl (IntKind.wrap .u64 ((IntKind.wrap .u64 (t.1 * (base : Int))) + dC b), t.2)))))
      (fun t => cond t.2 (some (0, 14)) (some (t.1, 0))) l (n, big) = some (resM base v l)
  | [], n, big, v, h1, h2 => by
    cases big with
    | false =>
      obtain ⟨rfl, h⟩ := h1 rfl
      simp [lrun, resM, okD, valN, h]
    | true =>
      have h3 : ¬ v ≤ 9223372036854775808 := by have := h2 rfl; omega
      simp [lrun, resM, okD, valN, h3]
  | b :: l, n, big, v, h1, h2 => by
    obtain ⟨hd1, hd2⟩ := dR_bounds b
    simp only [lrun]
    by_cases hbad : dR b < 0 ∨ (base : Int) ≤ dR b
    · have e1 : decide ((base : Int) ≤ dC b) = true := by
        unfold dC
        by_cases h0 : 0 ≤ dR b
        · rw [decide_eq_true h0]; exact decide_eq_true (by simp only [cond_true]; omega)
        · rw [decide_eq_false h0]; exact decide_eq_true (by simp only [cond_false]; omega)
      have e2 : okD (base : Int) (b :: l) = false := by
        unfold okD
        rw [List.all_cons, Bool.and_eq_false_iff]
        left
        rw [Bool.and_eq_false_iff, decide_eq_false_iff_not, decide_eq_false_iff_not]
        omega
      rw [e1]
      simp [resM, e2, sm]
    · have hdc : dC b = dR b := by unfold dC; rw [decide_eq_true (by omega)]; rfl
      have e1 : decide ((base : Int) ≤ dC b) = false := by rw [hdc]; exact decide_eq_false (by omega)
      have e2 : okD (base : Int) (b :: l) = okD (base : Int) l := by
        unfold okD
        rw [List.all_cons]
        rw [decide_eq_true (by omega), decide_eq_true (by omega)]
        rfl
      have e3 : resM base v (b :: l) = resM base (v * base + (dR b).toNat) l := by
        unfold resM
        rw [e2]
        rfl
      rw [e1, e3, hdc]
      simp only [cond_false]
      have hm : ((v * base + (dR b).toNat : Nat) : Int) = (v : Int) * (base : Int) + dR b := by
        rw [Int.natCast_add, Int.natCast_mul, Int.toNat_of_nonneg (by omega)]
      have hvb : v * 1 ≤ v * base := Nat.mul_le_mul_left v hb.1
      cases big with
      | true =>
        have := h2 rfl
        simp only [Bool.true_or, cond_true, Option.bind_some, sm]
        exact mag_run base hb l n true _ (fun h => by cases h) fun _ => by omega
      | false =>
        obtain ⟨rfl, hv⟩ := h1 rfl
        simp only [Bool.false_or]
        rw [IntWalk.u64_in (9223372036854775808 - dR b) (by omega), IntWalk.u64_quo _ _ (by omega)]
        by_cases hx : (9223372036854775808 - dR b) / (base : Int) < (v : Int)
        · rw [decide_eq_true hx]
          rw [div_lt (by omega) (by omega) (by omega)] at hx
          simp only [cond_true, Option.bind_some, sm]
          exact mag_run base hb l v true _ (fun h => by cases h) fun _ => by omega
        · rw [decide_eq_false hx]
          rw [div_lt (by omega) (by omega) (by omega)] at hx
          have hnn : (0 : Int) ≤ (v : Int) * (base : Int) := Int.mul_nonneg (by omega) (by omega)
          rw [IntWalk.u64_in ((v : Int) * (base : Int)) (by omega), IntWalk.u64_in ((v : Int) * (base : Int) + dR b) (by omega)]
          simp only [cond_false, Option.bind_some, sm]
          exact mag_run base hb l _ false _ (fun _ => ⟨hm.symm, by omega⟩) fun h => by cases h

theorem baseC_bounds (s : List UInt8) : (1 ≤ (baseC s).1 ∧ (baseC s).1 ≤ 16) ∧ (baseC s).2.length ≤ s.length := by
  unfold baseC
  cases (([48, 120] : List UInt8).isPrefixOf s || ([48, 88] : List UInt8).isPrefixOf s)
  · cases (([48] : List UInt8).isPrefixOf s) <;> simp
  · simp

theorem mag_eq (F : Nat) (s : List UInt8) (hF : s.length < F) (hl : s.length ≤ 1000000) : calc_magnitude F s = some (magS s) := by
  obtain ⟨hb, hlen⟩ := baseC_bounds s
  have e1 : ((strings_HasPrefix F s ([48, 120] : List UInt8)).bind fun x3 => cond x3 (some true) ((strings_HasPrefix F s ([48, 88] : List UInt8)).bind fun x4 => some x4) : Option Bool) = some (([48, 120] : List UInt8).isPrefixOf s || ([48, 88] : List UInt8).isPrefixOf s) := by
    rw [hasPrefix_eq, hasPrefix_eq]
    cases ([48, 120] : List UInt8).isPrefixOf s <;> rfl
  have hbs : (cond (([48, 120] : List UInt8).isPrefixOf s || ([48, 88] : List UInt8).isPrefixOf s)
      (rq ((decide (2 ≤ (s.length : Int))) && (decide ((s.length : Int) ≤ (s.length : Int)))) (some ((16 : Int), sl s 2 (s.length : Int))))
      ((strings_HasPrefix F s ([48] : List UInt8)).bind fun x5 => cond x5 (some (8, s)) (some (10, s))) : Option (Int × List UInt8)) = some (((baseC s).1 : Int), (baseC s).2) := by
    unfold baseC
    cases hp : (([48, 120] : List UInt8).isPrefixOf s || ([48, 88] : List UInt8).isPrefixOf s) with
    | true =>
      have h2 : 2 ≤ s.length := by
        rw [Bool.or_eq_true, List.isPrefixOf_iff_prefix, List.isPrefixOf_iff_prefix] at hp
        rcases hp with h | h <;> exact h.length_le
      simp only [cond_true]
      rw [rq_true (by simp only [Bool.and_eq_true, decide_eq_true_eq]; omega)]
      unfold sl
      simp
    | false =>
      simp only [cond_false, hasPrefix_eq, Option.bind_some]
      cases (([48] : List UInt8).isPrefixOf s) <;> rfl
  unfold calc_magnitude
  rw [e1]
  simp only [Option.bind_some]
  rw [hbs]
  simp only [Option.bind_some]
  unfold magS
  generalize (baseC s).2 = l at hlen ⊢
  generalize (baseC s).1 = base at hb ⊢
  cases (l == []) with
  | true => rfl
  | false =>
    simp only [cond_false]
    rw [loopF_lrun l (fun i (t : Int × Bool) => (t.1, t.2, (i : Int))) (fun (t : Int × Bool) (b : UInt8) => cond (decide ((base : Int) ≤ dC b)) (some (.inr ((0, 6) : Int × Int))) (cond (t.2 || decide (IntKind.wrap .u64 (Int.tdiv (IntKind.wrap .u64 (9223372036854775808 - dC b)) (base : Int)) < t.1)) (some (.inl (t.1, true))) (some (.inl (IntKind.wrap .u64 ((IntKind.wrap .u64 (t.1 * (base : Int))) + dC b), t.2)))))
        (fun t => cond t.2 (some (0, 14)) (some (t.1, 0))) (t := (0, false)) (by omega) ?_ ?_ ?_]
    · exact mag_run base hb l 0 false 0 (fun _ => ⟨rfl, by omega⟩) fun h => by cases h
    · rfl
    · intro i h t rc
      have hz : (!((base : Int) == 0)) = true := by simp; omega
      simp only [dlt h, dnn, Bool.and_self, cond_true, rq_tt, Int.toNat_natCast, gd h, w64_nat (i := i) (by omega), digitC_eq, Option.bind_some, hz]
      cases decide ((base : Int) ≤ dC l[i]) <;> cases t.2 <;> simp only [cond_true, cond_false, Option.bind_some, Bool.or_true, Bool.or_false, Bool.true_or, Bool.false_or, sm]
      all_goals first | rfl | (generalize decide (IntKind.wrap .u64 (Int.tdiv (IntKind.wrap .u64 (9223372036854775808 - dC l[i])) (base : Int)) < t.1) = c; cases c <;> rfl)
    · intro t rc
      simp only [dltn, cond_false]

/-- The second loop of the reference, to the letter. -/
theorem const_run' (base : Nat) (hb : 1 ≤ base ∧ base ≤ 16) : ∀ (l : List UInt8) (v : Nat), okD (base : Int) l = true → v ≤ 9223372036854775808 →
    lrun (fun (t : Int) (b : UInt8) => cond (decide (IntKind.wrap .u64 (Int.tdiv (IntKind.wrap .u64 (9223372036854775808 - (IntKind.wrap .u64 (dR b)))) (base : Int)) < t)) (some (.inr ((0, 14) : Int × Int))) (some (.inl (IntKind.wrap .u64 ((IntKind.wrap .u64 (t * (base : Int))) + (IntKind.wrap .u64 (dR b)))))))
      (fun t => some (t, 0)) l (v : Int) = some (resM base v l)
  | [], v, _, hv => by simp [lrun, resM, okD, valN, hv]
  | b :: l, v, ho, hv => by
    obtain ⟨hd1, hd2⟩ := dR_bounds b
    have ho' : (0 ≤ dR b ∧ dR b < base) ∧ okD (base : Int) l = true := by
      unfold okD at ho ⊢
      simpa [List.all_cons] using ho
    obtain ⟨⟨h0, h1⟩, h2⟩ := ho'
    have hm : ((v * base + (dR b).toNat : Nat) : Int) = (v : Int) * (base : Int) + dR b := by
      rw [Int.natCast_add, Int.natCast_mul, Int.toNat_of_nonneg (by omega)]
    have e3 : resM base v (b :: l) = resM base (v * base + (dR b).toNat) l := by
      unfold resM
      rw [ho, h2]
      rfl
    have hnn : (0 : Int) ≤ (v : Int) * (base : Int) := Int.mul_nonneg (by omega) (by omega)
    simp only [lrun]
    rw [IntWalk.u64_in (dR b) (by omega), IntWalk.u64_in (9223372036854775808 - dR b) (by omega), IntWalk.u64_quo _ _ (by omega), e3]
    by_cases hx : (9223372036854775808 - dR b) / (base : Int) < (v : Int)
    · rw [decide_eq_true hx]
      rw [div_lt (by omega) (by omega) (by omega)] at hx
      have hge := valN_ge base hb.1 l (v * base + (dR b).toNat)
      have : ¬ valN base (v * base + (dR b).toNat) l ≤ 9223372036854775808 := by omega
      simp [resM, h2, this, sm]
    · have hx' := hx
      rw [div_lt (by omega) (by omega) (by omega)] at hx'
      rw [decide_eq_false hx, IntWalk.u64_in ((v : Int) * (base : Int)) (by omega), IntWalk.u64_in ((v : Int) * (base : Int) + dR b) (by omega), ← hm]
      simp only [cond_false, Option.bind_some, sm]
      exact const_run' base hb l _ h2 (by omega)

theorem resM_zero (base : Nat) (h : 1 ≤ base) (t : List UInt8) : resM base 0 (48 :: t) = resM base 0 t := by
  have e1 : okD (base : Int) (48 :: t) = okD (base : Int) t := by
    unfold okD
    rw [List.all_cons, show dR 48 = 0 from rfl, decide_eq_true (by omega), decide_eq_true (by omega)]
    rfl
  have e2 : valN base 0 (48 :: t) = valN base 0 t := by
    unfold valN
    rw [List.foldl_cons, show dR 48 = 0 from rfl]
    simp
  unfold resM
  rw [e1, e2]
theorem base_same2 (s : List UInt8) (h0 : s ≠ []) : magS s = cond ((baseR s).2 == []) (0, 6) (resM (baseR s).1 0 (baseR s).2) := by
  match s, h0 with
  | [a], _ =>
    unfold magS baseC baseR
    have p1 : ([48, 120] : List UInt8).isPrefixOf [a] = false := by simp [List.isPrefixOf]
    have p2 : ([48, 88] : List UInt8).isPrefixOf [a] = false := by simp [List.isPrefixOf]
    rw [p1, p2]
    have p3 : ([48] : List UInt8).isPrefixOf [a] = ((a.toNat : Int) == 48) := by
      rw [Bool.eq_iff_iff]
      simp only [List.isPrefixOf, Bool.and_true, beq_iff_eq]
      constructor
      · rintro rfl; rfl
      · intro h; exact (ofNat_eq (b := a) (n := 48) (by decide) (by simpa using h)).symm
    rw [p3]
    simp only [List.getD_cons_zero]
    cases ha : ((a.toNat : Int) == 48) with
    | false => rfl
    | true =>
      obtain rfl := ofNat_eq (b := a) (n := 48) (by decide) ha
      rfl
  | a :: b :: t, _ =>
    unfold magS baseC baseR
    simp only [List.getD_cons_zero, List.getD_cons_succ]
    have p1 : ([48, 120] : List UInt8).isPrefixOf (a :: b :: t) = (((a.toNat : Int) == 48) && ((b.toNat : Int) == 120)) := by
      rw [Bool.eq_iff_iff]
      simp only [List.isPrefixOf, Bool.and_true, Bool.and_eq_true, beq_iff_eq]
      constructor
      · rintro ⟨rfl, rfl⟩; exact ⟨rfl, rfl⟩
      · rintro ⟨h1, h2⟩
        exact ⟨(ofNat_eq (b := a) (n := 48) (by decide) (by simpa using h1)).symm, (ofNat_eq (b := b) (n := 120) (by decide) (by simpa using h2)).symm⟩
    have p2 : ([48, 88] : List UInt8).isPrefixOf (a :: b :: t) = (((a.toNat : Int) == 48) && ((b.toNat : Int) == 88)) := by
      rw [Bool.eq_iff_iff]
      simp only [List.isPrefixOf, Bool.and_true, Bool.and_eq_true, beq_iff_eq]
      constructor
      · rintro ⟨rfl, rfl⟩; exact ⟨rfl, rfl⟩
      · rintro ⟨h1, h2⟩
        exact ⟨(ofNat_eq (b := a) (n := 48) (by decide) (by simpa using h1)).symm, (ofNat_eq (b := b) (n := 88) (by decide) (by simpa using h2)).symm⟩
    have p3 : ([48] : List UInt8).isPrefixOf (a :: b :: t) = ((a.toNat : Int) == 48) := by
      rw [Bool.eq_iff_iff]
      simp only [List.isPrefixOf, Bool.and_true, beq_iff_eq]
      constructor
      · rintro rfl; rfl
      · intro h; exact (ofNat_eq (b := a) (n := 48) (by decide) (by simpa using h)).symm
    rw [p1, p2, p3]
    have hl1 : decide (1 < ((a :: b :: t).length : Int)) = true := by simp; omega
    rw [hl1]
    cases ha : ((a.toNat : Int) == 48) with
    | false => simp
    | true =>
      obtain rfl := ofNat_eq (b := a) (n := 48) (by decide) ha
      simp only [Bool.true_and, cond_true]
      cases hx : (((b.toNat : Int) == 120) || ((b.toNat : Int) == 88)) with
      | false =>
        simp only [Bool.and_false, cond_false]
        exact resM_zero 8 (by omega) (b :: t)
      | true =>
        cases t with
        | nil =>
          simp only [Bool.or_eq_true] at hx
          rcases hx with hx | hx
          · obtain rfl := ofNat_eq (b := b) (n := 120) (by decide) hx; rfl
          · obtain rfl := ofNat_eq (b := b) (n := 88) (by decide) hx; rfl
        | cons c t =>
          rw [show decide (2 < (((UInt8.ofNat 48) :: b :: c :: t).length : Int)) = true by simp; omega]
          rfl

theorem const_eq2 (F : Nat) (s : List UInt8) (h0 : s ≠ []) (hF : s.length < F) (hl : s.length ≤ 1000000) :
    ref05_Constant F s = some (magS s) := by
  have hpos : 0 < s.length := List.length_pos_iff.2 h0
  have hb : (1 ≤ (baseR s).1 ∧ (baseR s).1 ≤ 16) ∧ (baseR s).2.length ≤ s.length := by
    unfold baseR
    cases (decide (2 < (s.length : Int)) && ((((s.getD 0 0).toNat : Int) == 48) && ((((s.getD 1 0).toNat : Int) == 120) || (((s.getD 1 0).toNat : Int) == 88)))) <;> cases (decide (1 < (s.length : Int)) && (((s.getD 0 0).toNat : Int) == 48)) <;> simp
  rw [base_same2 s h0]
  unfold ref05_Constant
  have hbr : ((cond (decide (2 < (s.length : Int)))
     (rq (decide (0 < (s.length : Int))) (some (((s.getD 0 0).toNat : Int) == 48)))
     (some false) : Option Bool).bind fun x2 =>
     (cond x2
     (rq (decide (1 < (s.length : Int))) (cond (((s.getD 1 0).toNat : Int) == 120)
     (some true)
     (rq (decide (1 < (s.length : Int))) (some (((s.getD 1 0).toNat : Int) == 88)))))
     (some false) : Option Bool).bind fun x3 =>
     cond x3
     (rq ((decide (2 ≤ (s.length : Int))) && (decide ((s.length : Int) ≤ (s.length : Int)))) (some (sl s 2 (s.length : Int), (16 : Int))))
     ((cond (decide (1 < (s.length : Int)))
     (rq (decide (0 < (s.length : Int))) (some (((s.getD 0 0).toNat : Int) == 48)))
     (some false) : Option Bool).bind fun x4 =>
     cond x4
     (rq ((decide (1 ≤ (s.length : Int))) && (decide ((s.length : Int) ≤ (s.length : Int)))) (some (sl s 1 (s.length : Int), 8)))
     (some (s, 10))) : Option ((List UInt8) × Int)) = some ((baseR s).2, ((baseR s).1 : Int)) := by
    have s2 : sl s 2 (s.length : Int) = s.drop 2 := by unfold sl; simp
    have s1 : sl s 1 (s.length : Int) = s.drop 1 := by unfold sl; simp
    rw [show decide (0 < (s.length : Int)) = true from decide_eq_true (by omega), show decide (1 ≤ (s.length : Int)) = true from decide_eq_true (by omega), show decide ((s.length : Int) ≤ (s.length : Int)) = true from decide_eq_true (by omega), s1, s2]
    unfold baseR
    by_cases h2 : 2 < (s.length : Int)
    · rw [decide_eq_true h2, show decide (1 < (s.length : Int)) = true from decide_eq_true (by omega), show decide (2 ≤ (s.length : Int)) = true from decide_eq_true (by omega)]
      cases (((s.getD 0 0).toNat : Int) == 48) <;> cases (((s.getD 1 0).toNat : Int) == 120) <;> cases (((s.getD 1 0).toNat : Int) == 88) <;> rfl
    · rw [decide_eq_false h2]
      cases decide (1 < (s.length : Int)) <;> cases (((s.getD 0 0).toNat : Int) == 48) <;> rfl
  rw [hbr]
  simp only [Option.bind_some]
  obtain ⟨hb, hlen⟩ := hb
  generalize (baseR s).2 = l at hlen ⊢
  generalize (baseR s).1 = base at hb ⊢
  cases (l == []) with
  | true => rfl
  | false =>
    simp only [cond_false]
    cases hok : okD (base : Int) l with
    | false =>
      have hr : resM base 0 l = (0, 6) := by unfold resM; rw [hok]; rfl
      rw [hr]
      · refine loopF_bad (l := l) (p := fun b => decide (0 ≤ dR b) && decide (dR b < (base : Int))) (fun i => (i : Int)) (fun i rc h => ?_) l.length 0 F (by omega) (by omega) (by rw [List.drop_zero]; exact hok)
        simp only [dlt h, dnn, Bool.and_self, cond_true, rq_tt, Int.toNat_natCast, gd h, w64_nat (i := i) (by omega), refValue_eq, Option.bind_some, dv_ok (base := (base : Int)) (by omega)]
        cases (decide (0 ≤ dR l[i]) && decide (dR l[i] < (base : Int))) <;> rfl
    | true =>
      have h1 := const_run' base hb l 0 hok (by omega)
      refine loopF_seq (fun i => (i : Int)) l.length (by omega) rfl ?_ ?_
      · intro i rc h
        have hi : (decide (0 ≤ dR l[i]) && decide (dR l[i] < (base : Int))) = true := by
          unfold okD at hok
          exact List.all_eq_true.1 hok _ (List.getElem_mem h)
        simp only [dlt h, dnn, Bool.and_self, cond_true, rq_tt, Int.toNat_natCast, gd h, w64_nat (i := i) (by omega), refValue_eq, Option.bind_some, dv_ok (base := (base : Int)) (by omega), hi]
        rfl
      · intro rc
        simp only [dltn, cond_false]
        rw [← h1]
        refine loopF_lrun l (fun i (t : Int) => (t, (i : Int))) _ _ (by omega) rfl ?_ ?_
        · intro i h t rc
          have hi : (decide (0 ≤ dR l[i]) && decide (dR l[i] < (base : Int))) = true := by
            unfold okD at hok
            exact List.all_eq_true.1 hok _ (List.getElem_mem h)
          simp only [Bool.and_eq_true, decide_eq_true_eq] at hi
          have hw : IntKind.wrap .u64 (base : Int) = (base : Int) := IntWalk.u64_in (base : Int) (by omega)
          have hz : (!((base : Int) == 0)) = true := by simp; omega
          have hv : cond (decide ((base : Int) ≤ dR l[i])) (-1) (dR l[i]) = dR l[i] := by
            rw [decide_eq_false (by omega)]; rfl
          simp only [dlt h, dnn, Bool.and_self, cond_true, rq_tt, Int.toNat_natCast, gd h, w64_nat (i := i) (by omega), refValue_eq, Option.bind_some, hw, hz, hv]
          generalize decide (IntKind.wrap .u64 (Int.tdiv (IntKind.wrap .u64 (9223372036854775808 - (IntKind.wrap .u64 (dR l[i])))) (base : Int)) < t) = c
          cases c <;> rfl
        · intro t rc
          simp only [dltn, cond_false]

theorem dR_dg (b : UInt8) (h : dg b = false) : dR b < 0 ∨ 10 ≤ dR b := by
  unfold dR
  rw [h]
  simp only [cond_false]
  by_cases h3 : 97 ≤ (b.toNat : Int) ∧ (b.toNat : Int) ≤ 102
  · rw [decide_eq_true h3.1, decide_eq_true h3.2]; simp only [Bool.and_self, cond_true]; omega
  · have e3 : (decide (97 ≤ (b.toNat : Int)) && decide ((b.toNat : Int) ≤ 102)) = false := by
      rw [Bool.and_eq_false_iff, decide_eq_false_iff_not, decide_eq_false_iff_not]; omega
    rw [e3]
    by_cases h4 : 65 ≤ (b.toNat : Int) ∧ (b.toNat : Int) ≤ 70
    · rw [decide_eq_true h4.1, decide_eq_true h4.2]; simp only [Bool.and_self, cond_true, cond_false]; omega
    · have e4 : (decide (65 ≤ (b.toNat : Int)) && decide ((b.toNat : Int) ≤ 70)) = false := by
        rw [Bool.and_eq_false_iff, decide_eq_false_iff_not, decide_eq_false_iff_not]; omega
      rw [e4]
      left
      simp only [cond_false]
      omega
theorem magS_bad (b : UInt8) (t : List UInt8) (h : dg b = false) : magS (b :: t) = (0, 6) := by
  have hne : ((48 : UInt8) == b) = false := by
    rw [beq_eq_false_iff_ne]
    intro e
    subst e
    exact absurd h (by decide)
  unfold magS baseC
  have p1 : ([48, 120] : List UInt8).isPrefixOf (b :: t) = false := by simp only [List.isPrefixOf, hne, Bool.false_and]
  have p2 : ([48, 88] : List UInt8).isPrefixOf (b :: t) = false := by simp only [List.isPrefixOf, hne, Bool.false_and]
  have p3 : ([48] : List UInt8).isPrefixOf (b :: t) = false := by simp only [List.isPrefixOf, hne, Bool.false_and]
  rw [p1, p2, p3]
  simp only [Bool.or_self, cond_false]
  have ho : okD ((10 : Nat) : Int) (b :: t) = false := by
    unfold okD
    rw [List.all_cons, Bool.and_eq_false_iff]
    left
    rw [Bool.and_eq_false_iff, decide_eq_false_iff_not, decide_eq_false_iff_not]
    have := dR_dg b h
    omega
  unfold resM
  rw [ho]
  rfl
theorem const6_eq (F : Nat) (s : List UInt8) (hF : s.length < F) (hl : s.length ≤ 1000000) : ref06_constant F s = some (magS s) := by
  unfold ref06_constant
  cases s with
  | nil => rfl
  | cons b t =>
    have hp : decide (0 < ((b :: t).length : Int)) = true := decide_eq_true (by simp only [List.length_cons]; omega)
    have hne : ((b :: t) == []) = false := rfl
    rw [const_eq2 F (b :: t) (by simp) hF hl]
    simp only [hne, cond_false, hp, rq_tt, List.getD_cons_zero, Option.bind_some]
    cases hd : dg b with
    | true =>
      unfold dg digitS at hd
      simp only [Bool.and_eq_true, decide_eq_true_eq] at hd
      rw [decide_eq_false (show ¬ (b.toNat : Int) < 48 by omega), decide_eq_false (show ¬ 57 < (b.toNat : Int) by omega)]
      rfl
    | false =>
      rw [magS_bad b t hd]
      unfold dg digitS at hd
      rw [Bool.and_eq_false_iff, decide_eq_false_iff_not, decide_eq_false_iff_not] at hd
      by_cases h : (b.toNat : Int) < 48
      · rw [decide_eq_true h]; rfl
      · rw [decide_eq_false h, decide_eq_true (show 57 < (b.toNat : Int) by omega)]; rfl
theorem magS_range (s : List UInt8) : ((magS s).2 = 0 ∧ 0 ≤ (magS s).1 ∧ (magS s).1 ≤ 9223372036854775808) ∨ (magS s).2 = 6 ∨ (magS s).2 = 14 := by
  unfold magS
  cases ((baseC s).2 == []) with
  | true => exact .inr (.inl rfl)
  | false =>
    unfold resM
    cases okD ((baseC s).1 : Int) (baseC s).2 with
    | false => exact .inr (.inl rfl)
    | true =>
      by_cases h : valN (baseC s).1 0 (baseC s).2 ≤ 9223372036854775808
      · rw [decide_eq_true h]
        exact .inl ⟨rfl, show (0 : Int) ≤ (valN (baseC s).1 0 (baseC s).2 : Int) by omega, show (valN (baseC s).1 0 (baseC s).2 : Int) ≤ 9223372036854775808 by omega⟩
      · rw [decide_eq_false h]; exact .inr (.inr rfl)
/-- Number's answer. -/
def numS (s : List UInt8) : Int × Int := cond ((magS s).2 != 0) (0, (magS s).2) (cond ((magS s).1 == 9223372036854775808) (0, 14) (w64 (magS s).1, 0))
theorem number_eq (F : Nat) (s : List UInt8) (hF : s.length < F) (hl : s.length ≤ 1000000) : calc_Number F s = some (numS s) := by
  unfold calc_Number numS
  rw [mag_eq F s hF hl]
  simp only [Option.bind_some]
  cases ((magS s).2 != 0) <;> cases ((magS s).1 == 9223372036854775808) <;> rfl
theorem number6_eq (F : Nat) (s : List UInt8) (hF : s.length < F) (hl : s.length ≤ 1000000) : ref06_Number F s = some (numS s) := by
  unfold ref06_Number numS
  rw [const6_eq F s hF hl]
  simp only [Option.bind_some]
  rcases magS_range s with ⟨h, h0, h1⟩ | h | h
  · rw [h]
    by_cases ht : (magS s).1 = 9223372036854775808
    · rw [ht]; rfl
    · rw [decide_eq_false (show ¬ 9223372036854775807 < (magS s).1 by omega), show ((magS s).1 == 9223372036854775808) = false by rw [beq_eq_false_iff_ne]; exact ht]
      rfl
  · rw [h]; rfl
  · rw [h]; rfl
theorem calcNumbers_plain (a0 : List UInt8) (q0 : a0.length ≤ maxLen) : ∃ F, law06_CalcNumbers F a0 = some true := by
  refine ⟨61, ?_⟩
  unfold law06_CalcNumbers
  by_cases h : 60 < (a0.length : Int)
  · rw [decide_eq_true h, awake60]; rfl
  · rw [decide_eq_false h, number_eq 61 a0 (by omega) (by omega), number6_eq 61 a0 (by omega) (by omega), awake60]
    simp only [cond_false, Option.bind_some, beq_self_eq_true, cond_true]
end Go.Proofs.YtamjncikmfpihaaGreatDoor
