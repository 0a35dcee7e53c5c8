/-
  Constants: the program's value and the reference's.
-/
import Derived.Test.YtamjncikmfpihaaGreatDoorLx
namespace Go.Proofs.YtamjncikmfpihaaGreatDoor
open Go.RT
set_option linter.unusedVariables false
set_option linter.unusedSimpArgs false
set_option linter.all false
set_option maxRecDepth 100000

/-- A loop that ends at the first element for which p does not hold. -/
theorem loopF_bad {R σ α : Type} {body : (σ → Option R) → σ → Option R} {l : List α} {p : α → Bool} {z : Option R} (st : Nat → σ) (hs : ∀ (i : Nat) rc (h : i < l.length), body rc (st i) = cond (p l[i]) (rc (st (i + 1))) z) :
    ∀ (k i F : Nat), i + k = l.length → k < F → (l.drop i).all p = false → loopF body F (st i) = z
  | 0, i, F, h, hF, hb => by
    rw [List.drop_eq_nil_of_le (by omega)] at hb
    simp at hb
  | k + 1, i, F, h, hF, hb => by
    cases F with
    | zero => omega
    | succ F =>
      have hi : i < l.length := by omega
      show body (loopF body F) (st i) = z
      rw [hs i _ hi]
      rw [List.drop_eq_getElem_cons hi, List.all_cons] at hb
      cases hp : p l[i] with
      | false => rfl
      | true =>
        rw [hp] at hb
        exact loopF_bad st hs k (i + 1) F (by omega) (by omega) hb

def hex16 : List UInt8 := [48, 49, 50, 51, 52, 53, 54, 55, 56, 57, 97, 98, 99, 100, 101, 102]
/-- A byte's value as a hexadecimal digit, or -1. -/
def dR (b : UInt8) : Int := cond (dg b) ((b.toNat : Int) - 48) (cond (decide (97 ≤ (b.toNat : Int)) && decide ((b.toNat : Int) ≤ 102)) ((b.toNat : Int) - 87) (cond (decide (65 ≤ (b.toNat : Int)) && decide ((b.toNat : Int) ≤ 70)) ((b.toNat : Int) - 55) (-1)))
def dA (b : UInt8) : Int := Lib.indexByte hex16 (bOr .u8 (b.toNat : Int) (cond (decide (65 ≤ (b.toNat : Int)) && decide ((b.toNat : Int) ≤ 90)) 32 0)).toNat.toUInt8
theorem dA_all : ∀ n : Fin 256, dA (UInt8.ofNat n.val) = dR (UInt8.ofNat n.val) := by decide +kernel
theorem byte_all {P : UInt8 → Prop} (h : ∀ n : Fin 256, P (UInt8.ofNat n.val)) (b : UInt8) : P b := by
  have := h ⟨b.toNat, b.toNat_lt⟩
  simpa using this
theorem dA_eq (b : UInt8) : dA b = dR b := byte_all (P := fun b => dA b = dR b) dA_all b
theorem dR_bounds (b : UInt8) : -1 ≤ dR b ∧ dR b ≤ 15 := by
  unfold dR dg digitS
  generalize (b.toNat : Int) = c
  by_cases h1 : 48 ≤ c <;> by_cases h2 : c ≤ 57 <;> by_cases h3 : 97 ≤ c <;> by_cases h4 : c ≤ 102 <;> by_cases h5 : 65 ≤ c <;> by_cases h6 : c ≤ 70 <;> simp [h1, h2, h3, h4, h5, h6] <;> omega

def okD (base : Int) (l : List UInt8) : Bool := l.all fun b => decide (0 ≤ dR b) && decide (dR b < base)
def valN (base : Nat) (v : Nat) (l : List UInt8) : Nat := l.foldl (fun v b => v * base + (dR b).toNat) v
theorem valN_ge (base : Nat) (hb : 1 ≤ base) : ∀ (l : List UInt8) (v : Nat), v ≤ valN base v l
  | [], v => Nat.le_refl _
  | b :: l, v => by
    have h1 := valN_ge base hb l (v * base + (dR b).toNat)
    have h2 : v * 1 ≤ v * base := Nat.mul_le_mul_left v hb
    show v ≤ valN base (v * base + (dR b).toNat) l
    omega
def resV (base v : Nat) (l : List UInt8) : Int × Int := cond (okD (base : Int) l) (cond (decide (valN base v l ≤ 9223372036854775807)) ((valN base v l : Int), 0) (0, 14)) (0, 6)
def baseS (s : List UInt8) : Nat × List UInt8 :=
  cond ((([48, 120] : List UInt8).isPrefixOf s) || (([48, 88] : List UInt8).isPrefixOf s)) (16, s.drop 2) (cond (((s.getD 0 0).toNat : Int) == 48) (8, s) (10, s))
def valS (s : List UInt8) : Int × Int := cond ((baseS s).2 == []) (0, 6) (resV (baseS s).1 0 (baseS s).2)

theorem div_lt {n d base most : Int} (hb : 1 ≤ base) (hd : 0 ≤ d) (hdm : d ≤ most) : (most - d) / base < n ↔ most < n * base + d := by
  rw [Int.ediv_lt_iff_lt_mul (by omega)]
  omega

theorem value_run (base : Nat) (hb : 1 ≤ base ∧ base ≤ 16) : ∀ (l : List UInt8) (n : Int) (big : Bool) (v : Nat), (big = false → n = (v : Int) ∧ v ≤ 9223372036854775807) → (big = true → 9223372036854775807 < v) →
    lrun (fun (t : Int × Bool) (b : UInt8) => cond (decide (dR b < 0) || decide ((base : Int) ≤ dR b)) (some (.inr ((0, 6) : Int × Int))) (cond (t.2 || decide (w64 (Int.tdiv (w64 (9223372036854775807 - dR b)) (base : Int)) < t.1)) (some (.inl (t.1, true))) (some (.inl (w64 (w64 (t.1 * (base : Int)) + dR b), t.2)))))
      (fun t => cond t.2 (some (0, 14)) (some (t.1, 0))) l (n, big) = some (resV base v l)
  | [], n, big, v, h1, h2 => by
    cases big with
    | false =>
      obtain ⟨rfl, h⟩ := h1 rfl
      simp [lrun, resV, okD, valN, h]
    | true =>
      have h3 : ¬ v ≤ 9223372036854775807 := by have := h2 rfl; omega
      simp [lrun, resV, okD, valN, h3]
  | b :: l, n, big, v, h1, h2 => by
    obtain ⟨hd1, hd2⟩ := dR_bounds b
    simp only [lrun]
    by_cases hbad : dR b < 0 ∨ (base : Int) ≤ dR b
    · have e1 : (decide (dR b < 0) || decide ((base : Int) ≤ dR b)) = true := by simpa using hbad
      have e2 : okD (base : Int) (b :: l) = false := by
        unfold okD
        rw [List.all_cons, Bool.and_eq_false_iff]
        left
        rw [Bool.and_eq_false_iff, decide_eq_false_iff_not, decide_eq_false_iff_not]
        omega
      rw [e1]
      simp [resV, e2, sm]
    · have e1 : (decide (dR b < 0) || decide ((base : Int) ≤ dR b)) = false := by
        rw [Bool.or_eq_false_iff, decide_eq_false_iff_not, decide_eq_false_iff_not]; omega
      have e2 : okD (base : Int) (b :: l) = okD (base : Int) l := by
        unfold okD
        rw [List.all_cons]
        rw [decide_eq_true (by omega), decide_eq_true (by omega)]
        rfl
      have e3 : resV base v (b :: l) = resV base (v * base + (dR b).toNat) l := by
        unfold resV
        rw [e2]
        rfl
      rw [e1, e3]
      simp only [cond_false]
      have hm : ((v * base + (dR b).toNat : Nat) : Int) = (v : Int) * (base : Int) + dR b := by
        rw [Int.natCast_add, Int.natCast_mul, Int.toNat_of_nonneg (by omega)]
      have hvb : v * 1 ≤ v * base := Nat.mul_le_mul_left v hb.1
      cases big with
      | true =>
        have := h2 rfl
        simp only [Bool.true_or, cond_true, Option.bind_some, sm]
        exact value_run base hb l n true _ (fun h => by cases h) fun _ => by omega
      | false =>
        obtain ⟨rfl, hv⟩ := h1 rfl
        simp only [Bool.false_or]
        rw [w64_in (x := 9223372036854775807 - dR b) (by omega), show w64 (Int.tdiv (9223372036854775807 - dR b) (base : Int)) = (9223372036854775807 - dR b) / (base : Int) from IntWalk.i64_quo _ _ (by omega)]
        by_cases hx : (9223372036854775807 - dR b) / (base : Int) < (v : Int)
        · rw [decide_eq_true hx]
          rw [div_lt (by omega) (by omega) (by omega)] at hx
          simp only [cond_true, Option.bind_some, sm]
          exact value_run base hb l v true _ (fun h => by cases h) fun _ => by omega
        · rw [decide_eq_false hx]
          rw [div_lt (by omega) (by omega) (by omega)] at hx
          have hnn : (0 : Int) ≤ (v : Int) * (base : Int) := Int.mul_nonneg (by omega) (by omega)
          rw [w64_in (x := (v : Int) * (base : Int)) (by omega), w64_in (x := (v : Int) * (base : Int) + dR b) (by omega)]
          simp only [cond_false, Option.bind_some, sm]
          exact value_run base hb l _ false _ (fun _ => ⟨hm.symm, by omega⟩) fun h => by cases h

theorem lower_eq (F : Nat) (c : Int) : arith_lower F c = some (cond (decide (65 ≤ c) && decide (c ≤ 90)) 32 0) := by
  unfold arith_lower; cases decide (65 ≤ c) <;> cases decide (c ≤ 90) <;> rfl
theorem baseS_bounds (s : List UInt8) : (1 ≤ (baseS s).1 ∧ (baseS s).1 ≤ 16) ∧ (baseS s).2.length ≤ s.length := by
  unfold baseS
  cases (([48, 120] : List UInt8).isPrefixOf s || ([48, 88] : List UInt8).isPrefixOf s)
  · cases (((s.getD 0 0).toNat : Int) == 48) <;> simp
  · simp

theorem value_eq (F : Nat) (s : List UInt8) (h0 : s ≠ []) (hF : s.length < F) (hl : s.length ≤ 1000000) : arith_value F s = some (valS s) := by
  obtain ⟨hb, hlen⟩ := baseS_bounds s
  have hpos : 0 < s.length := List.length_pos_iff.2 h0
  have e1 : ((strings_HasPrefix F s ([48, 120] : List UInt8)).bind fun x3 => cond x3 (some true) ((strings_HasPrefix F s ([48, 88] : List UInt8)).bind fun x4 => some x4) : Option Bool) = some (([48, 120] : List UInt8).isPrefixOf s || ([48, 88] : List UInt8).isPrefixOf s) := by
    rw [hasPrefix_eq, hasPrefix_eq]
    cases ([48, 120] : List UInt8).isPrefixOf s <;> rfl
  have hbs : (cond (([48, 120] : List UInt8).isPrefixOf s || ([48, 88] : List UInt8).isPrefixOf s)
      (rq ((decide (2 ≤ (s.length : Int))) && (decide ((s.length : Int) ≤ (s.length : Int)))) (some ((16 : Int), sl s 2 (s.length : Int))))
      (rq (decide (0 < (s.length : Int))) (cond (((s.getD 0 0).toNat : Int) == 48) (some (8, s)) (some (10, s)))) : Option (Int × List UInt8)) = some (((baseS s).1 : Int), (baseS s).2) := by
    unfold baseS
    cases hp : (([48, 120] : List UInt8).isPrefixOf s || ([48, 88] : List UInt8).isPrefixOf s) with
    | true =>
      have h2 : 2 ≤ s.length := by
        rw [Bool.or_eq_true, List.isPrefixOf_iff_prefix, List.isPrefixOf_iff_prefix] at hp
        rcases hp with h | h <;> exact h.length_le
      simp only [cond_true]
      rw [rq_true (by simp only [Bool.and_eq_true, decide_eq_true_eq]; omega)]
      unfold sl
      simp
    | false =>
      simp only [cond_false]
      rw [rq_true (by simp only [decide_eq_true_eq]; omega)]
      cases (((s.getD 0 0).toNat : Int) == 48) <;> rfl
  unfold arith_value
  rw [e1]
  simp only [Option.bind_some]
  rw [hbs]
  simp only [Option.bind_some]
  unfold valS
  generalize (baseS s).2 = l at hlen ⊢
  generalize (baseS s).1 = base at hb ⊢
  cases (l == []) with
  | true => rfl
  | false =>
    simp only [cond_false]
    rw [loopF_lrun l (fun i (t : Int × Bool) => (t.1, t.2, (i : Int))) (fun (t : Int × Bool) (b : UInt8) => cond (decide (dR b < 0) || decide ((base : Int) ≤ dR b)) (some (.inr ((0, 6) : Int × Int))) (cond (t.2 || decide (w64 (Int.tdiv (w64 (9223372036854775807 - dR b)) (base : Int)) < t.1)) (some (.inl (t.1, true))) (some (.inl (w64 (w64 (t.1 * (base : Int)) + dR b), t.2)))))
        (fun t => cond t.2 (some (0, 14)) (some (t.1, 0))) (t := (0, false)) (by omega) ?_ ?_ ?_]
    · exact value_run base hb l 0 false 0 (fun _ => ⟨rfl, by omega⟩) fun h => by cases h
    · rfl
    · intro i h t rc
      simp only [dlt h, dnn, Bool.and_self, cond_true, rq_tt, Int.toNat_natCast, gd h, w64_nat (i := i) (by omega), lower_eq, Option.bind_some]
      have hix : strings_IndexByte F ([48, 49, 50, 51, 52, 53, 54, 55, 56, 57, 97, 98, 99, 100, 101, 102] : List UInt8) (bOr .u8 (l[i].toNat : Int) (cond (decide (65 ≤ (l[i].toNat : Int)) && decide ((l[i].toNat : Int) ≤ 90)) 32 0)) = some (dR l[i]) := by
        rw [← dA_eq]
        rfl
      rw [hix]
      have hz : (!((base : Int) == 0)) = true := by simp; omega
      simp only [Option.bind_some, hz, rq_tt]
      cases decide (dR l[i] < 0) <;> cases decide ((base : Int) ≤ dR l[i]) <;> cases t.2 <;> simp only [cond_true, cond_false, Option.bind_some, Bool.or_true, Bool.or_false, Bool.true_or, Bool.false_or, sm]
      all_goals first | rfl | (cases decide (w64 (Int.tdiv (w64 (9223372036854775807 - dR l[i])) (base : Int)) < t.1) <;> rfl)
    · intro t rc
      simp only [dltn, cond_false]

theorem refValue_eq (F : Nat) (b : UInt8) (base : Int) : ref05_value F (b.toNat : Int) base = some (cond (decide (base ≤ dR b)) (-1) (dR b)) := by
  have hb := b.toNat_lt
  unfold ref05_value
  rw [digit_eq]
  simp only [Option.bind_some]
  unfold dR
  cases hd : dg b with
  | true =>
    unfold dg digitS at hd
    simp only [Bool.and_eq_true, decide_eq_true_eq] at hd
    simp only [cond_true, Option.bind_some]
    rw [IntWalk.u8_in _ (by omega), w64_in (by omega)]
    cases decide (base ≤ (b.toNat : Int) - 48) <;> rfl
  | false =>
    simp only [cond_false]
    by_cases h3 : 97 ≤ (b.toNat : Int) ∧ (b.toNat : Int) ≤ 102
    · rw [decide_eq_true h3.1, decide_eq_true h3.2, IntWalk.u8_in _ (by omega), w64_in (x := (b.toNat : Int) - 97) (by omega), w64_in (x := (b.toNat : Int) - 97 + 10) (by omega)]
      simp only [cond_true, Option.bind_some, Bool.and_self]
      rw [show (b.toNat : Int) - 97 + 10 = (b.toNat : Int) - 87 by omega]
      cases decide (base ≤ (b.toNat : Int) - 87) <;> rfl
    · have e3 : (decide (97 ≤ (b.toNat : Int)) && decide ((b.toNat : Int) ≤ 102)) = false := by
        rw [Bool.and_eq_false_iff, decide_eq_false_iff_not, decide_eq_false_iff_not]; omega
      have e3' : (cond (decide (97 ≤ (b.toNat : Int))) (some (decide ((b.toNat : Int) ≤ 102))) (some false) : Option Bool) = some false := by
        rw [← e3]; cases decide (97 ≤ (b.toNat : Int)) <;> rfl
      rw [e3', e3]
      simp only [Option.bind_some, cond_false]
      by_cases h4 : 65 ≤ (b.toNat : Int) ∧ (b.toNat : Int) ≤ 70
      · rw [decide_eq_true h4.1, decide_eq_true h4.2, IntWalk.u8_in _ (by omega), w64_in (x := (b.toNat : Int) - 65) (by omega), w64_in (x := (b.toNat : Int) - 65 + 10) (by omega)]
        simp only [cond_true, Option.bind_some, Bool.and_self]
        rw [show (b.toNat : Int) - 65 + 10 = (b.toNat : Int) - 55 by omega]
        cases decide (base ≤ (b.toNat : Int) - 55) <;> rfl
      · have e4 : (decide (65 ≤ (b.toNat : Int)) && decide ((b.toNat : Int) ≤ 70)) = false := by
          rw [Bool.and_eq_false_iff, decide_eq_false_iff_not, decide_eq_false_iff_not]; omega
        have e4' : (cond (decide (65 ≤ (b.toNat : Int))) (some (decide ((b.toNat : Int) ≤ 70))) (some false) : Option Bool) = some false := by
          rw [← e4]; cases decide (65 ≤ (b.toNat : Int)) <;> rfl
        rw [e4', e4]
        simp only [Option.bind_some, cond_false]
        cases decide (base ≤ -1) <;> rfl
theorem dv_ok {base : Int} (hb : 1 ≤ base) (b : UInt8) : decide (cond (decide (base ≤ dR b)) (-1) (dR b) < 0) = !(decide (0 ≤ dR b) && decide (dR b < base)) := by
  by_cases h : base ≤ dR b
  · rw [decide_eq_true h]
    have : decide (dR b < base) = false := decide_eq_false (by omega)
    simp [this]
  · rw [decide_eq_false h]
    have : decide (dR b < base) = true := decide_eq_true (by omega)
    simp only [cond_false, this, Bool.and_true]
    by_cases h0 : dR b < 0
    · rw [decide_eq_true h0, decide_eq_false (by omega)]; rfl
    · rw [decide_eq_false h0, decide_eq_true (by omega)]; rfl

/-- The second loop of the reference: digits that are all good. -/
theorem const_run (base : Nat) (hb : 1 ≤ base ∧ base ≤ 16) : ∀ (l : List UInt8) (v : Nat), okD (base : Int) l = true → v ≤ 9223372036854775808 →
    ∃ n e, lrun (fun (t : Int) (b : UInt8) => cond (decide (IntKind.wrap .u64 (Int.tdiv (IntKind.wrap .u64 (9223372036854775808 - (IntKind.wrap .u64 (dR b)))) (base : Int)) < t)) (some (.inr ((0, 14) : Int × Int))) (some (.inl (IntKind.wrap .u64 ((IntKind.wrap .u64 (t * (base : Int))) + (IntKind.wrap .u64 (dR b)))))))
      (fun t => some (t, 0)) l (v : Int) = some (n, e) ∧ (cond (e == 0 && decide (9223372036854775807 < n)) 14 e = (resV base v l).2) ∧ ((resV base v l).2 = 0 → n = (resV base v l).1)
  | [], v, _, hv => by
    refine ⟨v, 0, rfl, ?_⟩
    by_cases h : v ≤ 9223372036854775807
    · have : ¬ 9223372036854775807 < (v : Int) := by omega
      simp [resV, okD, valN, h, this]
    · have : 9223372036854775807 < (v : Int) := by omega
      simp [resV, okD, valN, h, this]
  | b :: l, v, ho, hv => by
    obtain ⟨hd1, hd2⟩ := dR_bounds b
    have ho' : (0 ≤ dR b ∧ dR b < base) ∧ okD (base : Int) l = true := by
      unfold okD at ho ⊢
      simpa [List.all_cons] using ho
    obtain ⟨⟨h0, h1⟩, h2⟩ := ho'
    have hm : ((v * base + (dR b).toNat : Nat) : Int) = (v : Int) * (base : Int) + dR b := by
      rw [Int.natCast_add, Int.natCast_mul, Int.toNat_of_nonneg (by omega)]
    have e3 : resV base v (b :: l) = resV base (v * base + (dR b).toNat) l := by
      unfold resV
      rw [ho, h2]
      rfl
    have hnn : (0 : Int) ≤ (v : Int) * (base : Int) := Int.mul_nonneg (by omega) (by omega)
    simp only [lrun]
    rw [IntWalk.u64_in (dR b) (by omega), IntWalk.u64_in (9223372036854775808 - dR b) (by omega), IntWalk.u64_quo _ _ (by omega)]
    by_cases hx : (9223372036854775808 - dR b) / (base : Int) < (v : Int)
    · refine ⟨0, 14, ?_, ?_⟩
      · rw [decide_eq_true hx]; rfl
      · rw [div_lt (by omega) (by omega) (by omega)] at hx
        have hge := valN_ge base hb.1 l (v * base + (dR b).toNat)
        have : ¬ valN base (v * base + (dR b).toNat) l ≤ 9223372036854775807 := by omega
        rw [e3]
        simp [resV, h2, this]
    · have hx' := hx
      rw [div_lt (by omega) (by omega) (by omega)] at hx'
      rw [decide_eq_false hx, IntWalk.u64_in ((v : Int) * (base : Int)) (by omega), IntWalk.u64_in ((v : Int) * (base : Int) + dR b) (by omega), e3, ← hm]
      exact const_run base hb l _ h2 (by omega)

def baseR (s : List UInt8) : Nat × List UInt8 :=
  cond (decide (2 < (s.length : Int)) && ((((s.getD 0 0).toNat : Int) == 48) && ((((s.getD 1 0).toNat : Int) == 120) || (((s.getD 1 0).toNat : Int) == 88)))) (16, s.drop 2) (cond (decide (1 < (s.length : Int)) && (((s.getD 0 0).toNat : Int) == 48)) (8, s.drop 1) (10, s))
theorem resV_zero (base : Nat) (h : 1 ≤ base) (t : List UInt8) : resV base 0 (48 :: t) = resV base 0 t := by
  have e1 : okD (base : Int) (48 :: t) = okD (base : Int) t := by
    unfold okD
    rw [List.all_cons, show dR 48 = 0 from rfl, decide_eq_true (by omega), decide_eq_true (by omega)]
    rfl
  have e2 : valN base 0 (48 :: t) = valN base 0 t := by
    unfold valN
    rw [List.foldl_cons, show dR 48 = 0 from rfl]
    simp
  unfold resV
  rw [e1, e2]
theorem ofNat_eq {b : UInt8} {n : Nat} (hn : n < 256) (h : ((b.toNat : Int) == (n : Int)) = true) : b = UInt8.ofNat n := by
  have : b.toNat = n := by
    have : (b.toNat : Int) = (n : Int) := by simpa using h
    omega
  rw [← this]; simp
/-- The two ways to see the base come to one. -/
theorem base_same (s : List UInt8) (h0 : s ≠ []) : valS s = cond ((baseR s).2 == []) (0, 6) (resV (baseR s).1 0 (baseR s).2) := by
  match s, h0 with
  | [a], _ =>
    unfold valS baseS baseR
    have p1 : ([48, 120] : List UInt8).isPrefixOf [a] = false := by simp [List.isPrefixOf]
    have p2 : ([48, 88] : List UInt8).isPrefixOf [a] = false := by simp [List.isPrefixOf]
    rw [p1, p2]
    cases ha : ((([a].getD 0 0).toNat : Int) == 48) with
    | false => rfl
    | true =>
      obtain rfl := ofNat_eq (b := a) (n := 48) (by decide) ha
      rfl
  | a :: b :: t, _ =>
    unfold valS baseS baseR
    simp only [List.getD_cons_zero, List.getD_cons_succ]
    have p1 : ([48, 120] : List UInt8).isPrefixOf (a :: b :: t) = (((a.toNat : Int) == 48) && ((b.toNat : Int) == 120)) := by
      rw [Bool.eq_iff_iff]
      simp only [List.isPrefixOf, Bool.and_true, Bool.and_eq_true, beq_iff_eq]
      constructor
      · rintro ⟨rfl, rfl⟩; exact ⟨rfl, rfl⟩
      · rintro ⟨h1, h2⟩
        exact ⟨(ofNat_eq (b := a) (n := 48) (by decide) (by simpa using h1)).symm, (ofNat_eq (b := b) (n := 120) (by decide) (by simpa using h2)).symm⟩
    have p2 : ([48, 88] : List UInt8).isPrefixOf (a :: b :: t) = (((a.toNat : Int) == 48) && ((b.toNat : Int) == 88)) := by
      rw [Bool.eq_iff_iff]
      simp only [List.isPrefixOf, Bool.and_true, Bool.and_eq_true, beq_iff_eq]
      constructor
      · rintro ⟨rfl, rfl⟩; exact ⟨rfl, rfl⟩
      · rintro ⟨h1, h2⟩
        exact ⟨(ofNat_eq (b := a) (n := 48) (by decide) (by simpa using h1)).symm, (ofNat_eq (b := b) (n := 88) (by decide) (by simpa using h2)).symm⟩
    rw [p1, p2]
    have hl1 : decide (1 < ((a :: b :: t).length : Int)) = true := by simp; omega
    rw [hl1]
    cases ha : ((a.toNat : Int) == 48) with
    | false => simp
    | true =>
      obtain rfl := ofNat_eq (b := a) (n := 48) (by decide) ha
      simp only [Bool.true_and, cond_true]
      cases hx : (((b.toNat : Int) == 120) || ((b.toNat : Int) == 88)) with
      | false =>
        simp only [Bool.and_false, cond_false]
        exact resV_zero 8 (by omega) (b :: t)
      | true =>
        cases t with
        | nil =>
          simp only [Bool.or_eq_true] at hx
          rcases hx with hx | hx
          · obtain rfl := ofNat_eq (b := b) (n := 120) (by decide) hx; rfl
          · obtain rfl := ofNat_eq (b := b) (n := 88) (by decide) hx; rfl
        | cons c t =>
          rw [show decide (2 < (((UInt8.ofNat 48) :: b :: c :: t).length : Int)) = true by simp; omega]
          rfl

theorem const_eq (F : Nat) (s : List UInt8) (h0 : s ≠ []) (hF : s.length < F) (hl : s.length ≤ 1000000) :
    ∃ n e, ref05_Constant F s = some (n, e) ∧ (cond (e == 0 && decide (9223372036854775807 < n)) 14 e = (valS s).2) ∧ ((valS s).2 = 0 → n = (valS s).1) := by
  have hpos : 0 < s.length := List.length_pos_iff.2 h0
  have hb : (1 ≤ (baseR s).1 ∧ (baseR s).1 ≤ 16) ∧ (baseR s).2.length ≤ s.length := by
    unfold baseR
    cases (decide (2 < (s.length : Int)) && ((((s.getD 0 0).toNat : Int) == 48) && ((((s.getD 1 0).toNat : Int) == 120) || (((s.getD 1 0).toNat : Int) == 88)))) <;> cases (decide (1 < (s.length : Int)) && (((s.getD 0 0).toNat : Int) == 48)) <;> simp
  rw [base_same s h0]
  unfold ref05_Constant
  have hbr : ((cond (decide (2 < (s.length : Int)))
     (rq (decide (0 < (s.length : Int))) (some (((s.getD 0 0).toNat : Int) == 48)))
     (some false) : Option Bool).bind fun x2 =>
     (cond x2
     (rq (decide (1 < (s.length : Int))) (cond (((s.getD 1 0).toNat : Int) == 120)
     (some true)
     (rq (decide (1 < (s.length : Int))) (some (((s.getD 1 0).toNat : Int) == 88)))))
     (some false) : Option Bool).bind fun x3 =>
     cond x3
     (rq ((decide (2 ≤ (s.length : Int))) && (decide ((s.length : Int) ≤ (s.length : Int)))) (some (sl s 2 (s.length : Int), (16 : Int))))
     ((cond (decide (1 < (s.length : Int)))
     (rq (decide (0 < (s.length : Int))) (some (((s.getD 0 0).toNat : Int) == 48)))
     (some false) : Option Bool).bind fun x4 =>
     cond x4
     (rq ((decide (1 ≤ (s.length : Int))) && (decide ((s.length : Int) ≤ (s.length : Int)))) (some (sl s 1 (s.length : Int), 8)))
     (some (s, 10))) : Option ((List UInt8) × Int)) = some ((baseR s).2, ((baseR s).1 : Int)) := by
    have s2 : sl s 2 (s.length : Int) = s.drop 2 := by unfold sl; simp
    have s1 : sl s 1 (s.length : Int) = s.drop 1 := by unfold sl; simp
    rw [show decide (0 < (s.length : Int)) = true from decide_eq_true (by omega), show decide (1 ≤ (s.length : Int)) = true from decide_eq_true (by omega), show decide ((s.length : Int) ≤ (s.length : Int)) = true from decide_eq_true (by omega), s1, s2]
    unfold baseR
    by_cases h2 : 2 < (s.length : Int)
    · rw [decide_eq_true h2, show decide (1 < (s.length : Int)) = true from decide_eq_true (by omega), show decide (2 ≤ (s.length : Int)) = true from decide_eq_true (by omega)]
      cases (((s.getD 0 0).toNat : Int) == 48) <;> cases (((s.getD 1 0).toNat : Int) == 120) <;> cases (((s.getD 1 0).toNat : Int) == 88) <;> rfl
    · rw [decide_eq_false h2]
      cases decide (1 < (s.length : Int)) <;> cases (((s.getD 0 0).toNat : Int) == 48) <;> rfl
  rw [hbr]
  simp only [Option.bind_some]
  obtain ⟨hb, hlen⟩ := hb
  generalize (baseR s).2 = l at hlen ⊢
  generalize (baseR s).1 = base at hb ⊢
  cases (l == []) with
  | true => exact ⟨0, 6, rfl, rfl, fun h => by cases h⟩
  | false =>
    simp only [cond_false]
    cases hok : okD (base : Int) l with
    | false =>
      refine ⟨0, 6, ?_, ?_⟩
      · refine loopF_bad (l := l) (p := fun b => decide (0 ≤ dR b) && decide (dR b < (base : Int))) (fun i => (i : Int)) (fun i rc h => ?_) l.length 0 F (by omega) (by omega) (by rw [List.drop_zero]; exact hok)
        simp only [dlt h, dnn, Bool.and_self, cond_true, rq_tt, Int.toNat_natCast, gd h, w64_nat (i := i) (by omega), refValue_eq, Option.bind_some, dv_ok (base := (base : Int)) (by omega)]
        cases (decide (0 ≤ dR l[i]) && decide (dR l[i] < (base : Int))) <;> rfl
      · unfold resV
        rw [hok]
        exact ⟨rfl, fun h => by cases h⟩
    | true =>
      obtain ⟨n, e, h1, h2⟩ := const_run base hb l 0 hok (by omega)
      refine ⟨n, e, ?_, h2⟩
      refine loopF_seq (fun i => (i : Int)) l.length (by omega) rfl ?_ ?_
      · intro i rc h
        have hi : (decide (0 ≤ dR l[i]) && decide (dR l[i] < (base : Int))) = true := by
          unfold okD at hok
          exact List.all_eq_true.1 hok _ (List.getElem_mem h)
        simp only [dlt h, dnn, Bool.and_self, cond_true, rq_tt, Int.toNat_natCast, gd h, w64_nat (i := i) (by omega), refValue_eq, Option.bind_some, dv_ok (base := (base : Int)) (by omega), hi]
        rfl
      · intro rc
        simp only [dltn, cond_false]
        rw [← h1]
        refine loopF_lrun l (fun i (t : Int) => (t, (i : Int))) _ _ (by omega) rfl ?_ ?_
        · intro i h t rc
          have hi : (decide (0 ≤ dR l[i]) && decide (dR l[i] < (base : Int))) = true := by
            unfold okD at hok
            exact List.all_eq_true.1 hok _ (List.getElem_mem h)
          simp only [Bool.and_eq_true, decide_eq_true_eq] at hi
          have hw : IntKind.wrap .u64 (base : Int) = (base : Int) := IntWalk.u64_in (base : Int) (by omega)
          have hz : (!((base : Int) == 0)) = true := by simp; omega
          have hv : cond (decide ((base : Int) ≤ dR l[i])) (-1) (dR l[i]) = dR l[i] := by
            rw [decide_eq_false (by omega)]; rfl
          simp only [dlt h, dnn, Bool.and_self, cond_true, rq_tt, Int.toNat_natCast, gd h, w64_nat (i := i) (by omega), refValue_eq, Option.bind_some, hw, hz, hv]
          generalize decide (IntKind.wrap .u64 (Int.tdiv (IntKind.wrap .u64 (9223372036854775808 - (IntKind.wrap .u64 (dR l[i])))) (base : Int)) < t) = c
          cases c <;> rfl
        · intro t rc
          simp only [dltn, cond_false]
end Go.Proofs.YtamjncikmfpihaaGreatDoor
