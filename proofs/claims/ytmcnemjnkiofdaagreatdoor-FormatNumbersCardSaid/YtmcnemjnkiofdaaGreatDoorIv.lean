/-
  The integer value of a string, numerals and constants read back (out of the chapters Arith and Calc).
-/
import Derived.Test.YtmcnemjnkiofdaaGreatDoorZ2
import Derived.Test.YtmcnemjnkiofdaaGreatDoorSo
import Derived.Test.YtmcnemjnkiofdaaGreatDoorMs
import Derived.Test.YtmcnemjnkiofdaaGreatDoorUt
namespace Go.Proofs.YtmcnemjnkiofdaaGreatDoor
open Go.RT
set_option linter.all false
set_option maxRecDepth 100000
def digitS (b : Int) : Bool := decide (48 ≤ b) && decide (b ≤ 57)
theorem small_rq {n : Nat} {inst : Decidable (n ≤ 9223372036854775807)} (h : n ≤ 1000000) {R : Type} (k : Option R) : rq (@decide (n ≤ 9223372036854775807) inst) k = k := rq_true (decide_eq_true (by omega))
theorem dig_byte {d : Nat} (h : d < 10) : toBytes ([IntKind.wrap .u8 (IntKind.wrap .u64 (48 + (d : Int)))] : List Int) = [UInt8.ofNat (48 + d)] := by
  have : d = 0 ∨ d = 1 ∨ d = 2 ∨ d = 3 ∨ d = 4 ∨ d = 5 ∨ d = 6 ∨ d = 7 ∨ d = 8 ∨ d = 9 := by omega
  rcases this with rfl | rfl | rfl | rfl | rfl | rfl | rfl | rfl | rfl | rfl <;> rfl
theorem digits_loop : ∀ (k u m : Nat) (out : List UInt8), u < 10 ^ (k + 1) → u < 18446744073709551616 → k < m → out.length + k ≤ 1000 → loopF (σ := Int × (List UInt8)) (R := List UInt8) (fun rc2 x1 =>
     cond (decide (9 < x1.1))
     (rq (decide ((toBytes ([IntKind.wrap .u8 (IntKind.wrap .u64 (48 + (Int.tmod x1.1 10)))] : List Int)).length + x1.2.length ≤ 9223372036854775807)) (rc2 (IntKind.wrap .u64 (Int.tdiv x1.1 10), (toBytes ([IntKind.wrap .u8 (IntKind.wrap .u64 (48 + (Int.tmod x1.1 10)))] : List Int)) ++ x1.2)))
     (rq (decide ((toBytes ([IntKind.wrap .u8 (IntKind.wrap .u64 (48 + x1.1))] : List Int)).length + x1.2.length ≤ 9223372036854775807)) (some ((toBytes ([IntKind.wrap .u8 (IntKind.wrap .u64 (48 + x1.1))] : List Int)) ++ x1.2)))) m ((u : Int), out) = some (Lib.decDigits u ++ out)
  | k, u, 0, out, _, _, h, _ => by omega
  | k, u, m + 1, out, hu, hu', hk, ho => by
    simp only [loopF]
    by_cases h9 : u < 10
    · rw [show decide (9 < (u : Int)) = false by simp; omega]
      simp only [cond_false]
      rw [dig_byte h9, small_rq (by simp; omega), Lib.decDigits_one h9]
    · have e1 : Int.tmod (u : Int) 10 = ((u % 10 : Nat) : Int) := IntWalk.up_tmod rfl rfl
      have e2 : Int.tdiv (u : Int) 10 = ((u / 10 : Nat) : Int) := IntWalk.up_tdiv rfl rfl
      rw [show decide (9 < (u : Int)) = true by simp; omega]
      simp only [cond_true, e1, e2]
      rw [dig_byte (Nat.mod_lt _ (by decide)), small_rq (by simp; omega), IntWalk.u64_in _ (by omega)]
      cases k with
      | zero => simp at hu; omega
      | succ k =>
        rw [Nat.pow_succ] at hu
        rw [digits_loop k (u / 10) m _ (by omega) (by omega) (by omega) (by simp; omega)]
        rw [Lib.decDigits.eq_1 u, dif_neg h9]
        simp
theorem decimal_eq (F : Nat) (hF : 30 ≤ F) {n : Int} (h0 : 0 ≤ n) (h1 : n ≤ 9223372036854775807) : ref05_Decimal F n = some (Lib.itoa n) := by
  obtain ⟨u, rfl⟩ : ∃ u : Nat, n = u := ⟨n.toNat, by omega⟩
  unfold ref05_Decimal ref05_digits
  rw [show decide ((u : Int) < 0) = false by simp, IntWalk.u64_in (u : Int) (by omega)]
  simp only [cond_false]
  rw [digits_loop 20 u F [] (by omega) (by omega) (by omega) (by simp)]
  unfold Lib.itoa
  rw [if_neg (by omega)]
  simp
def dg (b : UInt8) : Bool := digitS (b.toNat : Int)
theorem take_isPrefix {l p : List UInt8} : (l.take p.length == p) = p.isPrefixOf l := by
  rw [Bool.eq_iff_iff, beq_iff_eq, List.isPrefixOf_iff_prefix, List.prefix_iff_eq_take]
  exact eq_comm
theorem digit_eq (F : Nat) (b : UInt8) : ref05_digit F (b.toNat : Int) = some (dg b) := by
  unfold ref05_digit dg digitS
  cases decide (48 ≤ (b.toNat : Int)) <;> rfl
theorem hasPrefix_eq (F : Nat) (a p : List UInt8) : strings_HasPrefix F a p = some (p.isPrefixOf a) := by
  unfold strings_HasPrefix stringslite_HasPrefix
  by_cases h : p.length ≤ a.length
  · have e1 : decide ((p.length : Int) ≤ (a.length : Int)) = true := decide_eq_true (by omega)
    simp only [e1, dnn, Bool.and_self, cond_true, rq_tt, Option.bind_some]
    unfold sl
    simp only [Int.toNat_natCast, Int.toNat_zero, List.drop_zero, take_isPrefix]
  · have e1 : decide ((p.length : Int) ≤ (a.length : Int)) = false := decide_eq_false (by omega)
    simp only [e1, cond_false, Option.bind_some]
    congr 1
    apply Eq.symm
    apply Bool.eq_false_iff.2
    intro hp
    rw [List.isPrefixOf_iff_prefix] at hp
    exact h hp.length_le
/-- A loop that ends at the first element for which p does not hold. -/
theorem loopF_bad {R σ α : Type} {body : (σ → Option R) → σ → Option R} {l : List α} {p : α → Bool} {z : Option R} (st : Nat → σ) (hs : ∀ (i : Nat) rc (h : i < l.length), body rc (st i) = cond (p l[i]) (rc (st (i + 1))) z) :
    ∀ (k i F : Nat), i + k = l.length → k < F → (l.drop i).all p = false → loopF body F (st i) = z
  | 0, i, F, h, hF, hb => by
    rw [List.drop_eq_nil_of_le (by omega)] at hb
    simp at hb
  | k + 1, i, F, h, hF, hb => by
    cases F with
    | zero => omega
    | succ F =>
      have hi : i < l.length := by omega
      show body (loopF body F) (st i) = z
      rw [hs i _ hi]
      rw [List.drop_eq_getElem_cons hi, List.all_cons] at hb
      cases hp : p l[i] with
      | false => rfl
      | true =>
        rw [hp] at hb
        exact loopF_bad st hs k (i + 1) F (by omega) (by omega) hb
/-- A byte's value as a hexadecimal digit, or -1. -/
def dR (b : UInt8) : Int := cond (dg b) ((b.toNat : Int) - 48) (cond (decide (97 ≤ (b.toNat : Int)) && decide ((b.toNat : Int) ≤ 102)) ((b.toNat : Int) - 87) (cond (decide (65 ≤ (b.toNat : Int)) && decide ((b.toNat : Int) ≤ 70)) ((b.toNat : Int) - 55) (-1)))
theorem dR_bounds (b : UInt8) : -1 ≤ dR b ∧ dR b ≤ 15 := by
  unfold dR dg digitS
  generalize (b.toNat : Int) = c
  by_cases h1 : 48 ≤ c <;> by_cases h2 : c ≤ 57 <;> by_cases h3 : 97 ≤ c <;> by_cases h4 : c ≤ 102 <;> by_cases h5 : 65 ≤ c <;> by_cases h6 : c ≤ 70 <;> simp [h1, h2, h3, h4, h5, h6] <;> omega
def okD (base : Int) (l : List UInt8) : Bool := l.all fun b => decide (0 ≤ dR b) && decide (dR b < base)
def valN (base : Nat) (v : Nat) (l : List UInt8) : Nat := l.foldl (fun v b => v * base + (dR b).toNat) v
theorem valN_ge (base : Nat) (hb : 1 ≤ base) : ∀ (l : List UInt8) (v : Nat), v ≤ valN base v l
  | [], v => Nat.le_refl _
  | b :: l, v => by
    have h1 := valN_ge base hb l (v * base + (dR b).toNat)
    have h2 : v * 1 ≤ v * base := Nat.mul_le_mul_left v hb
    show v ≤ valN base (v * base + (dR b).toNat) l
    omega
theorem div_lt {n d base most : Int} (hb : 1 ≤ base) (hd : 0 ≤ d) (hdm : d ≤ most) : (most - d) / base < n ↔ most < n * base + d := by
  rw [Int.ediv_lt_iff_lt_mul (by omega)]
  omega
theorem refValue_eq (F : Nat) (b : UInt8) (base : Int) : ref05_value F (b.toNat : Int) base = some (cond (decide (base ≤ dR b)) (-1) (dR b)) := by
  have hb := b.toNat_lt
  unfold ref05_value
  rw [digit_eq]
  simp only [Option.bind_some]
  unfold dR
  cases hd : dg b with
  | true =>
    unfold dg digitS at hd
    simp only [Bool.and_eq_true, decide_eq_true_eq] at hd
    simp only [cond_true, Option.bind_some]
    rw [IntWalk.u8_in _ (by omega), w64_in (by omega)]
    cases decide (base ≤ (b.toNat : Int) - 48) <;> rfl
  | false =>
    simp only [cond_false]
    by_cases h3 : 97 ≤ (b.toNat : Int) ∧ (b.toNat : Int) ≤ 102
    · rw [decide_eq_true h3.1, decide_eq_true h3.2, IntWalk.u8_in _ (by omega), w64_in (x := (b.toNat : Int) - 97) (by omega), w64_in (x := (b.toNat : Int) - 97 + 10) (by omega)]
      simp only [cond_true, Option.bind_some, Bool.and_self]
      rw [show (b.toNat : Int) - 97 + 10 = (b.toNat : Int) - 87 by omega]
      cases decide (base ≤ (b.toNat : Int) - 87) <;> rfl
    · have e3 : (decide (97 ≤ (b.toNat : Int)) && decide ((b.toNat : Int) ≤ 102)) = false := by
        rw [Bool.and_eq_false_iff, decide_eq_false_iff_not, decide_eq_false_iff_not]; omega
      have e3' : (cond (decide (97 ≤ (b.toNat : Int))) (some (decide ((b.toNat : Int) ≤ 102))) (some false) : Option Bool) = some false := by
        rw [← e3]; cases decide (97 ≤ (b.toNat : Int)) <;> rfl
      rw [e3', e3]
      simp only [Option.bind_some, cond_false]
      by_cases h4 : 65 ≤ (b.toNat : Int) ∧ (b.toNat : Int) ≤ 70
      · rw [decide_eq_true h4.1, decide_eq_true h4.2, IntWalk.u8_in _ (by omega), w64_in (x := (b.toNat : Int) - 65) (by omega), w64_in (x := (b.toNat : Int) - 65 + 10) (by omega)]
        simp only [cond_true, Option.bind_some, Bool.and_self]
        rw [show (b.toNat : Int) - 65 + 10 = (b.toNat : Int) - 55 by omega]
        cases decide (base ≤ (b.toNat : Int) - 55) <;> rfl
      · have e4 : (decide (65 ≤ (b.toNat : Int)) && decide ((b.toNat : Int) ≤ 70)) = false := by
          rw [Bool.and_eq_false_iff, decide_eq_false_iff_not, decide_eq_false_iff_not]; omega
        have e4' : (cond (decide (65 ≤ (b.toNat : Int))) (some (decide ((b.toNat : Int) ≤ 70))) (some false) : Option Bool) = some false := by
          rw [← e4]; cases decide (65 ≤ (b.toNat : Int)) <;> rfl
        rw [e4', e4]
        simp only [Option.bind_some, cond_false]
        cases decide (base ≤ -1) <;> rfl
theorem dv_ok {base : Int} (hb : 1 ≤ base) (b : UInt8) : decide (cond (decide (base ≤ dR b)) (-1) (dR b) < 0) = !(decide (0 ≤ dR b) && decide (dR b < base)) := by
  by_cases h : base ≤ dR b
  · rw [decide_eq_true h]
    have : decide (dR b < base) = false := decide_eq_false (by omega)
    simp [this]
  · rw [decide_eq_false h]
    have : decide (dR b < base) = true := decide_eq_true (by omega)
    simp only [cond_false, this, Bool.and_true]
    by_cases h0 : dR b < 0
    · rw [decide_eq_true h0, decide_eq_false (by omega)]; rfl
    · rw [decide_eq_false h0, decide_eq_true (by omega)]; rfl
def baseR (s : List UInt8) : Nat × List UInt8 :=
  cond (decide (2 < (s.length : Int)) && ((((s.getD 0 0).toNat : Int) == 48) && ((((s.getD 1 0).toNat : Int) == 120) || (((s.getD 1 0).toNat : Int) == 88)))) (16, s.drop 2) (cond (decide (1 < (s.length : Int)) && (((s.getD 0 0).toNat : Int) == 48)) (8, s.drop 1) (10, s))
theorem ofNat_eq {b : UInt8} {n : Nat} (hn : n < 256) (h : ((b.toNat : Int) == (n : Int)) = true) : b = UInt8.ofNat n := by
  have : b.toNat = n := by
    have : (b.toNat : Int) = (n : Int) := by simpa using h
    omega
  rw [← this]; simp
def resM (base v : Nat) (l : List UInt8) : Int × Int := cond (okD (base : Int) l) (cond (decide (valN base v l ≤ 9223372036854775808)) ((valN base v l : Int), 0) (0, 14)) (0, 6)
def baseC (s : List UInt8) : Nat × List UInt8 :=
  cond ((([48, 120] : List UInt8).isPrefixOf s) || (([48, 88] : List UInt8).isPrefixOf s)) (16, s.drop 2) (cond (([48] : List UInt8).isPrefixOf s) (8, s) (10, s))
/-- The value of a constant of at most 2^63, or an error. -/
def magS (s : List UInt8) : Int × Int := cond ((baseC s).2 == []) (0, 6) (resM (baseC s).1 0 (baseC s).2)
def dC (b : UInt8) : Int := cond (decide (0 ≤ dR b)) (dR b) 16
theorem digitC_eq (F : Nat) (b : UInt8) : calc_digit F (b.toNat : Int) = some (dC b) := by
  have hb := b.toNat_lt
  unfold calc_digit dC dR dg digitS
  by_cases h1 : 48 ≤ (b.toNat : Int) ∧ (b.toNat : Int) ≤ 57
  · rw [decide_eq_true h1.1, decide_eq_true h1.2, IntWalk.u8_in ((b.toNat : Int) - 48) (by omega), IntWalk.u64_in ((b.toNat : Int) - 48) (by omega)]
    simp only [Bool.and_self, cond_true, Option.bind_some]
    rw [decide_eq_true (by omega)]; rfl
  · have e1 : (decide (48 ≤ (b.toNat : Int)) && decide ((b.toNat : Int) ≤ 57)) = false := by
      rw [Bool.and_eq_false_iff, decide_eq_false_iff_not, decide_eq_false_iff_not]; omega
    have e1' : (cond (decide (48 ≤ (b.toNat : Int))) (some (decide ((b.toNat : Int) ≤ 57))) (some false) : Option Bool) = some false := by
      rw [← e1]; cases decide (48 ≤ (b.toNat : Int)) <;> rfl
    rw [e1', e1]
    simp only [Option.bind_some, cond_false]
    by_cases h3 : 97 ≤ (b.toNat : Int) ∧ (b.toNat : Int) ≤ 102
    · rw [decide_eq_true h3.1, decide_eq_true h3.2, IntWalk.u8_in ((b.toNat : Int) - 97) (by omega), IntWalk.u64_in ((b.toNat : Int) - 97) (by omega), IntWalk.u64_in ((b.toNat : Int) - 97 + 10) (by omega)]
      simp only [Bool.and_self, cond_true, Option.bind_some]
      rw [decide_eq_true (by omega)]
      simp only [cond_true]
      congr 1
      omega
    · have e3 : (decide (97 ≤ (b.toNat : Int)) && decide ((b.toNat : Int) ≤ 102)) = false := by
        rw [Bool.and_eq_false_iff, decide_eq_false_iff_not, decide_eq_false_iff_not]; omega
      have e3' : (cond (decide (97 ≤ (b.toNat : Int))) (some (decide ((b.toNat : Int) ≤ 102))) (some false) : Option Bool) = some false := by
        rw [← e3]; cases decide (97 ≤ (b.toNat : Int)) <;> rfl
      rw [e3', e3]
      simp only [Option.bind_some, cond_false]
      by_cases h4 : 65 ≤ (b.toNat : Int) ∧ (b.toNat : Int) ≤ 70
      · rw [decide_eq_true h4.1, decide_eq_true h4.2, IntWalk.u8_in ((b.toNat : Int) - 65) (by omega), IntWalk.u64_in ((b.toNat : Int) - 65) (by omega), IntWalk.u64_in ((b.toNat : Int) - 65 + 10) (by omega)]
        simp only [Bool.and_self, cond_true, Option.bind_some]
        rw [decide_eq_true (by omega)]
        simp only [cond_true]
        congr 1
        omega
      · have e4 : (decide (65 ≤ (b.toNat : Int)) && decide ((b.toNat : Int) ≤ 70)) = false := by
          rw [Bool.and_eq_false_iff, decide_eq_false_iff_not, decide_eq_false_iff_not]; omega
        have e4' : (cond (decide (65 ≤ (b.toNat : Int))) (some (decide ((b.toNat : Int) ≤ 70))) (some false) : Option Bool) = some false := by
          rw [← e4]; cases decide (65 ≤ (b.toNat : Int)) <;> rfl
        rw [e4', e4]
        rfl
theorem mag_run (base : Nat) (hb : 1 ≤ base ∧ base ≤ 16) : ∀ (l : List UInt8) (n : Int) (big : Bool) (v : Nat), (big = false → n = (v : Int) ∧ v ≤ 9223372036854775808) → (big = true → 9223372036854775808 < v) →
    lrun (fun (t : Int × Bool) (b : UInt8) => cond (decide ((base : Int) ≤ dC b)) (some (.inr ((0, 6) : Int × Int))) (cond (t.2 || decide (IntKind.wrap .u64 (Int.tdiv (IntKind.wrap .u64 (9223372036854775808 - dC b)) (base : Int)) < t.1)) (some (.inl (t.1, true))) (some (.inl (IntKind.wrap .u64 ((IntKind.wrap .u64 (t.1 * (base : Int))) + dC b), t.2)))))
      (fun t => cond t.2 (some (0, 14)) (some (t.1, 0))) l (n, big) = some (resM base v l)
  | [], n, big, v, h1, h2 => by
    cases big with
    | false =>
      obtain ⟨rfl, h⟩ := h1 rfl
      simp [lrun, resM, okD, valN, h]
    | true =>
      have h3 : ¬ v ≤ 9223372036854775808 := by have := h2 rfl; omega
      simp [lrun, resM, okD, valN, h3]
  | b :: l, n, big, v, h1, h2 => by
    obtain ⟨hd1, hd2⟩ := dR_bounds b
    simp only [lrun]
    by_cases hbad : dR b < 0 ∨ (base : Int) ≤ dR b
    · have e1 : decide ((base : Int) ≤ dC b) = true := by
        unfold dC
        by_cases h0 : 0 ≤ dR b
        · rw [decide_eq_true h0]; exact decide_eq_true (by simp only [cond_true]; omega)
        · rw [decide_eq_false h0]; exact decide_eq_true (by simp only [cond_false]; omega)
      have e2 : okD (base : Int) (b :: l) = false := by
        unfold okD
        rw [List.all_cons, Bool.and_eq_false_iff]
        left
        rw [Bool.and_eq_false_iff, decide_eq_false_iff_not, decide_eq_false_iff_not]
        omega
      rw [e1]
      simp [resM, e2, sm]
    · have hdc : dC b = dR b := by unfold dC; rw [decide_eq_true (by omega)]; rfl
      have e1 : decide ((base : Int) ≤ dC b) = false := by rw [hdc]; exact decide_eq_false (by omega)
      have e2 : okD (base : Int) (b :: l) = okD (base : Int) l := by
        unfold okD
        rw [List.all_cons]
        rw [decide_eq_true (by omega), decide_eq_true (by omega)]
        rfl
      have e3 : resM base v (b :: l) = resM base (v * base + (dR b).toNat) l := by
        unfold resM
        rw [e2]
        rfl
      rw [e1, e3, hdc]
      simp only [cond_false]
      have hm : ((v * base + (dR b).toNat : Nat) : Int) = (v : Int) * (base : Int) + dR b := by
        rw [Int.natCast_add, Int.natCast_mul, Int.toNat_of_nonneg (by omega)]
      have hvb : v * 1 ≤ v * base := Nat.mul_le_mul_left v hb.1
      cases big with
      | true =>
        have := h2 rfl
        simp only [Bool.true_or, cond_true, Option.bind_some, sm]
        exact mag_run base hb l n true _ (fun h => by cases h) fun _ => by omega
      | false =>
        obtain ⟨rfl, hv⟩ := h1 rfl
        simp only [Bool.false_or]
        rw [IntWalk.u64_in (9223372036854775808 - dR b) (by omega), IntWalk.u64_quo _ _ (by omega)]
        by_cases hx : (9223372036854775808 - dR b) / (base : Int) < (v : Int)
        · rw [decide_eq_true hx]
          rw [div_lt (by omega) (by omega) (by omega)] at hx
          simp only [cond_true, Option.bind_some, sm]
          exact mag_run base hb l v true _ (fun h => by cases h) fun _ => by omega
        · rw [decide_eq_false hx]
          rw [div_lt (by omega) (by omega) (by omega)] at hx
          have hnn : (0 : Int) ≤ (v : Int) * (base : Int) := Int.mul_nonneg (by omega) (by omega)
          rw [IntWalk.u64_in ((v : Int) * (base : Int)) (by omega), IntWalk.u64_in ((v : Int) * (base : Int) + dR b) (by omega)]
          simp only [cond_false, Option.bind_some, sm]
          exact mag_run base hb l _ false _ (fun _ => ⟨hm.symm, by omega⟩) fun h => by cases h
theorem baseC_bounds (s : List UInt8) : (1 ≤ (baseC s).1 ∧ (baseC s).1 ≤ 16) ∧ (baseC s).2.length ≤ s.length := by
  unfold baseC
  cases (([48, 120] : List UInt8).isPrefixOf s || ([48, 88] : List UInt8).isPrefixOf s)
  · cases (([48] : List UInt8).isPrefixOf s) <;> simp
  · simp
theorem mag_eq (F : Nat) (s : List UInt8) (hF : s.length < F) (hl : s.length ≤ 1000000) : calc_magnitude F s = some (magS s) := by
  obtain ⟨hb, hlen⟩ := baseC_bounds s
  have e1 : ((strings_HasPrefix F s ([48, 120] : List UInt8)).bind fun x3 => cond x3 (some true) ((strings_HasPrefix F s ([48, 88] : List UInt8)).bind fun x4 => some x4) : Option Bool) = some (([48, 120] : List UInt8).isPrefixOf s || ([48, 88] : List UInt8).isPrefixOf s) := by
    rw [hasPrefix_eq, hasPrefix_eq]
    cases ([48, 120] : List UInt8).isPrefixOf s <;> rfl
  have hbs : (cond (([48, 120] : List UInt8).isPrefixOf s || ([48, 88] : List UInt8).isPrefixOf s)
      (rq ((decide (2 ≤ (s.length : Int))) && (decide ((s.length : Int) ≤ (s.length : Int)))) (some ((16 : Int), sl s 2 (s.length : Int))))
      ((strings_HasPrefix F s ([48] : List UInt8)).bind fun x5 => cond x5 (some (8, s)) (some (10, s))) : Option (Int × List UInt8)) = some (((baseC s).1 : Int), (baseC s).2) := by
    unfold baseC
    cases hp : (([48, 120] : List UInt8).isPrefixOf s || ([48, 88] : List UInt8).isPrefixOf s) with
    | true =>
      have h2 : 2 ≤ s.length := by
        rw [Bool.or_eq_true, List.isPrefixOf_iff_prefix, List.isPrefixOf_iff_prefix] at hp
        rcases hp with h | h <;> exact h.length_le
      simp only [cond_true]
      rw [rq_true (by simp only [Bool.and_eq_true, decide_eq_true_eq]; omega)]
      unfold sl
      simp
    | false =>
      simp only [cond_false, hasPrefix_eq, Option.bind_some]
      cases (([48] : List UInt8).isPrefixOf s) <;> rfl
  unfold calc_magnitude
  rw [e1]
  simp only [Option.bind_some]
  rw [hbs]
  simp only [Option.bind_some]
  unfold magS
  generalize (baseC s).2 = l at hlen ⊢
  generalize (baseC s).1 = base at hb ⊢
  cases (l == []) with
  | true => rfl
  | false =>
    simp only [cond_false]
    rw [loopF_lrun l (fun i (t : Int × Bool) => (t.1, t.2, (i : Int))) (fun (t : Int × Bool) (b : UInt8) => cond (decide ((base : Int) ≤ dC b)) (some (.inr ((0, 6) : Int × Int))) (cond (t.2 || decide (IntKind.wrap .u64 (Int.tdiv (IntKind.wrap .u64 (9223372036854775808 - dC b)) (base : Int)) < t.1)) (some (.inl (t.1, true))) (some (.inl (IntKind.wrap .u64 ((IntKind.wrap .u64 (t.1 * (base : Int))) + dC b), t.2)))))
        (fun t => cond t.2 (some (0, 14)) (some (t.1, 0))) (t := (0, false)) (by omega) ?_ ?_ ?_]
    · exact mag_run base hb l 0 false 0 (fun _ => ⟨rfl, by omega⟩) fun h => by cases h
    · rfl
    · intro i h t rc
      have hz : (!((base : Int) == 0)) = true := by simp; omega
      simp only [dlt h, dnn, Bool.and_self, cond_true, rq_tt, Int.toNat_natCast, gd h, w64_nat (i := i) (by omega), digitC_eq, Option.bind_some, hz]
      cases decide ((base : Int) ≤ dC l[i]) <;> cases t.2 <;> simp only [cond_true, cond_false, Option.bind_some, Bool.or_true, Bool.or_false, Bool.true_or, Bool.false_or, sm]
      all_goals first | rfl | (generalize decide (IntKind.wrap .u64 (Int.tdiv (IntKind.wrap .u64 (9223372036854775808 - dC l[i])) (base : Int)) < t.1) = c; cases c <;> rfl)
    · intro t rc
      simp only [dltn, cond_false]
/-- The second loop of the reference, to the letter. -/
theorem const_run' (base : Nat) (hb : 1 ≤ base ∧ base ≤ 16) : ∀ (l : List UInt8) (v : Nat), okD (base : Int) l = true → v ≤ 9223372036854775808 →
    lrun (fun (t : Int) (b : UInt8) => cond (decide (IntKind.wrap .u64 (Int.tdiv (IntKind.wrap .u64 (9223372036854775808 - (IntKind.wrap .u64 (dR b)))) (base : Int)) < t)) (some (.inr ((0, 14) : Int × Int))) (some (.inl (IntKind.wrap .u64 ((IntKind.wrap .u64 (t * (base : Int))) + (IntKind.wrap .u64 (dR b)))))))
      (fun t => some (t, 0)) l (v : Int) = some (resM base v l)
  | [], v, _, hv => by simp [lrun, resM, okD, valN, hv]
  | b :: l, v, ho, hv => by
    obtain ⟨hd1, hd2⟩ := dR_bounds b
    have ho' : (0 ≤ dR b ∧ dR b < base) ∧ okD (base : Int) l = true := by
      unfold okD at ho ⊢
      simpa [List.all_cons] using ho
    obtain ⟨⟨h0, h1⟩, h2⟩ := ho'
    have hm : ((v * base + (dR b).toNat : Nat) : Int) = (v : Int) * (base : Int) + dR b := by
      rw [Int.natCast_add, Int.natCast_mul, Int.toNat_of_nonneg (by omega)]
    have e3 : resM base v (b :: l) = resM base (v * base + (dR b).toNat) l := by
      unfold resM
      rw [ho, h2]
      rfl
    have hnn : (0 : Int) ≤ (v : Int) * (base : Int) := Int.mul_nonneg (by omega) (by omega)
    simp only [lrun]
    rw [IntWalk.u64_in (dR b) (by omega), IntWalk.u64_in (9223372036854775808 - dR b) (by omega), IntWalk.u64_quo _ _ (by omega), e3]
    by_cases hx : (9223372036854775808 - dR b) / (base : Int) < (v : Int)
    · rw [decide_eq_true hx]
      rw [div_lt (by omega) (by omega) (by omega)] at hx
      have hge := valN_ge base hb.1 l (v * base + (dR b).toNat)
      have : ¬ valN base (v * base + (dR b).toNat) l ≤ 9223372036854775808 := by omega
      simp [resM, h2, this, sm]
    · have hx' := hx
      rw [div_lt (by omega) (by omega) (by omega)] at hx'
      rw [decide_eq_false hx, IntWalk.u64_in ((v : Int) * (base : Int)) (by omega), IntWalk.u64_in ((v : Int) * (base : Int) + dR b) (by omega), ← hm]
      simp only [cond_false, Option.bind_some, sm]
      exact const_run' base hb l _ h2 (by omega)
theorem resM_zero (base : Nat) (h : 1 ≤ base) (t : List UInt8) : resM base 0 (48 :: t) = resM base 0 t := by
  have e1 : okD (base : Int) (48 :: t) = okD (base : Int) t := by
    unfold okD
    rw [List.all_cons, show dR 48 = 0 from rfl, decide_eq_true (by omega), decide_eq_true (by omega)]
    rfl
  have e2 : valN base 0 (48 :: t) = valN base 0 t := by
    unfold valN
    rw [List.foldl_cons, show dR 48 = 0 from rfl]
    simp
  unfold resM
  rw [e1, e2]
theorem base_same2 (s : List UInt8) (h0 : s ≠ []) : magS s = cond ((baseR s).2 == []) (0, 6) (resM (baseR s).1 0 (baseR s).2) := by
  match s, h0 with
  | [a], _ =>
    unfold magS baseC baseR
    have p1 : ([48, 120] : List UInt8).isPrefixOf [a] = false := by simp [List.isPrefixOf]
    have p2 : ([48, 88] : List UInt8).isPrefixOf [a] = false := by simp [List.isPrefixOf]
    rw [p1, p2]
    have p3 : ([48] : List UInt8).isPrefixOf [a] = ((a.toNat : Int) == 48) := by
      rw [Bool.eq_iff_iff]
      simp only [List.isPrefixOf, Bool.and_true, beq_iff_eq]
      constructor
      · rintro rfl; rfl
      · intro h; exact (ofNat_eq (b := a) (n := 48) (by decide) (by simpa using h)).symm
    rw [p3]
    simp only [List.getD_cons_zero]
    cases ha : ((a.toNat : Int) == 48) with
    | false => rfl
    | true =>
      obtain rfl := ofNat_eq (b := a) (n := 48) (by decide) ha
      rfl
  | a :: b :: t, _ =>
    unfold magS baseC baseR
    simp only [List.getD_cons_zero, List.getD_cons_succ]
    have p1 : ([48, 120] : List UInt8).isPrefixOf (a :: b :: t) = (((a.toNat : Int) == 48) && ((b.toNat : Int) == 120)) := by
      rw [Bool.eq_iff_iff]
      simp only [List.isPrefixOf, Bool.and_true, Bool.and_eq_true, beq_iff_eq]
      constructor
      · rintro ⟨rfl, rfl⟩; exact ⟨rfl, rfl⟩
      · rintro ⟨h1, h2⟩
        exact ⟨(ofNat_eq (b := a) (n := 48) (by decide) (by simpa using h1)).symm, (ofNat_eq (b := b) (n := 120) (by decide) (by simpa using h2)).symm⟩
    have p2 : ([48, 88] : List UInt8).isPrefixOf (a :: b :: t) = (((a.toNat : Int) == 48) && ((b.toNat : Int) == 88)) := by
      rw [Bool.eq_iff_iff]
      simp only [List.isPrefixOf, Bool.and_true, Bool.and_eq_true, beq_iff_eq]
      constructor
      · rintro ⟨rfl, rfl⟩; exact ⟨rfl, rfl⟩
      · rintro ⟨h1, h2⟩
        exact ⟨(ofNat_eq (b := a) (n := 48) (by decide) (by simpa using h1)).symm, (ofNat_eq (b := b) (n := 88) (by decide) (by simpa using h2)).symm⟩
    have p3 : ([48] : List UInt8).isPrefixOf (a :: b :: t) = ((a.toNat : Int) == 48) := by
      rw [Bool.eq_iff_iff]
      simp only [List.isPrefixOf, Bool.and_true, beq_iff_eq]
      constructor
      · rintro rfl; rfl
      · intro h; exact (ofNat_eq (b := a) (n := 48) (by decide) (by simpa using h)).symm
    rw [p1, p2, p3]
    have hl1 : decide (1 < ((a :: b :: t).length : Int)) = true := by simp; omega
    rw [hl1]
    cases ha : ((a.toNat : Int) == 48) with
    | false => simp
    | true =>
      obtain rfl := ofNat_eq (b := a) (n := 48) (by decide) ha
      simp only [Bool.true_and, cond_true]
      cases hx : (((b.toNat : Int) == 120) || ((b.toNat : Int) == 88)) with
      | false =>
        simp only [Bool.and_false, cond_false]
        exact resM_zero 8 (by omega) (b :: t)
      | true =>
        cases t with
        | nil =>
          simp only [Bool.or_eq_true] at hx
          rcases hx with hx | hx
          · obtain rfl := ofNat_eq (b := b) (n := 120) (by decide) hx; rfl
          · obtain rfl := ofNat_eq (b := b) (n := 88) (by decide) hx; rfl
        | cons c t =>
          rw [show decide (2 < (((UInt8.ofNat 48) :: b :: c :: t).length : Int)) = true by simp; omega]
          rfl
theorem const_eq2 (F : Nat) (s : List UInt8) (h0 : s ≠ []) (hF : s.length < F) (hl : s.length ≤ 1000000) :
    ref05_Constant F s = some (magS s) := by
  have hpos : 0 < s.length := List.length_pos_iff.2 h0
  have hb : (1 ≤ (baseR s).1 ∧ (baseR s).1 ≤ 16) ∧ (baseR s).2.length ≤ s.length := by
    unfold baseR
    cases (decide (2 < (s.length : Int)) && ((((s.getD 0 0).toNat : Int) == 48) && ((((s.getD 1 0).toNat : Int) == 120) || (((s.getD 1 0).toNat : Int) == 88)))) <;> cases (decide (1 < (s.length : Int)) && (((s.getD 0 0).toNat : Int) == 48)) <;> simp
  rw [base_same2 s h0]
  unfold ref05_Constant
  have hbr : ((cond (decide (2 < (s.length : Int)))
     (rq (decide (0 < (s.length : Int))) (some (((s.getD 0 0).toNat : Int) == 48)))
     (some false) : Option Bool).bind fun x2 =>
     (cond x2
     (rq (decide (1 < (s.length : Int))) (cond (((s.getD 1 0).toNat : Int) == 120)
     (some true)
     (rq (decide (1 < (s.length : Int))) (some (((s.getD 1 0).toNat : Int) == 88)))))
     (some false) : Option Bool).bind fun x3 =>
     cond x3
     (rq ((decide (2 ≤ (s.length : Int))) && (decide ((s.length : Int) ≤ (s.length : Int)))) (some (sl s 2 (s.length : Int), (16 : Int))))
     ((cond (decide (1 < (s.length : Int)))
     (rq (decide (0 < (s.length : Int))) (some (((s.getD 0 0).toNat : Int) == 48)))
     (some false) : Option Bool).bind fun x4 =>
     cond x4
     (rq ((decide (1 ≤ (s.length : Int))) && (decide ((s.length : Int) ≤ (s.length : Int)))) (some (sl s 1 (s.length : Int), 8)))
     (some (s, 10))) : Option ((List UInt8) × Int)) = some ((baseR s).2, ((baseR s).1 : Int)) := by
    have s2 : sl s 2 (s.length : Int) = s.drop 2 := by unfold sl; simp
    have s1 : sl s 1 (s.length : Int) = s.drop 1 := by unfold sl; simp
    rw [show decide (0 < (s.length : Int)) = true from decide_eq_true (by omega), show decide (1 ≤ (s.length : Int)) = true from decide_eq_true (by omega), show decide ((s.length : Int) ≤ (s.length : Int)) = true from decide_eq_true (by omega), s1, s2]
    unfold baseR
    by_cases h2 : 2 < (s.length : Int)
    · rw [decide_eq_true h2, show decide (1 < (s.length : Int)) = true from decide_eq_true (by omega), show decide (2 ≤ (s.length : Int)) = true from decide_eq_true (by omega)]
      cases (((s.getD 0 0).toNat : Int) == 48) <;> cases (((s.getD 1 0).toNat : Int) == 120) <;> cases (((s.getD 1 0).toNat : Int) == 88) <;> rfl
    · rw [decide_eq_false h2]
      cases decide (1 < (s.length : Int)) <;> cases (((s.getD 0 0).toNat : Int) == 48) <;> rfl
  rw [hbr]
  simp only [Option.bind_some]
  obtain ⟨hb, hlen⟩ := hb
  generalize (baseR s).2 = l at hlen ⊢
  generalize (baseR s).1 = base at hb ⊢
  cases (l == []) with
  | true => rfl
  | false =>
    simp only [cond_false]
    cases hok : okD (base : Int) l with
    | false =>
      have hr : resM base 0 l = (0, 6) := by unfold resM; rw [hok]; rfl
      rw [hr]
      · refine loopF_bad (l := l) (p := fun b => decide (0 ≤ dR b) && decide (dR b < (base : Int))) (fun i => (i : Int)) (fun i rc h => ?_) l.length 0 F (by omega) (by omega) (by rw [List.drop_zero]; exact hok)
        simp only [dlt h, dnn, Bool.and_self, cond_true, rq_tt, Int.toNat_natCast, gd h, w64_nat (i := i) (by omega), refValue_eq, Option.bind_some, dv_ok (base := (base : Int)) (by omega)]
        cases (decide (0 ≤ dR l[i]) && decide (dR l[i] < (base : Int))) <;> rfl
    | true =>
      have h1 := const_run' base hb l 0 hok (by omega)
      refine loopF_seq (fun i => (i : Int)) l.length (by omega) rfl ?_ ?_
      · intro i rc h
        have hi : (decide (0 ≤ dR l[i]) && decide (dR l[i] < (base : Int))) = true := by
          unfold okD at hok
          exact List.all_eq_true.1 hok _ (List.getElem_mem h)
        simp only [dlt h, dnn, Bool.and_self, cond_true, rq_tt, Int.toNat_natCast, gd h, w64_nat (i := i) (by omega), refValue_eq, Option.bind_some, dv_ok (base := (base : Int)) (by omega), hi]
        rfl
      · intro rc
        simp only [dltn, cond_false]
        rw [← h1]
        refine loopF_lrun l (fun i (t : Int) => (t, (i : Int))) _ _ (by omega) rfl ?_ ?_
        · intro i h t rc
          have hi : (decide (0 ≤ dR l[i]) && decide (dR l[i] < (base : Int))) = true := by
            unfold okD at hok
            exact List.all_eq_true.1 hok _ (List.getElem_mem h)
          simp only [Bool.and_eq_true, decide_eq_true_eq] at hi
          have hw : IntKind.wrap .u64 (base : Int) = (base : Int) := IntWalk.u64_in (base : Int) (by omega)
          have hz : (!((base : Int) == 0)) = true := by simp; omega
          have hv : cond (decide ((base : Int) ≤ dR l[i])) (-1) (dR l[i]) = dR l[i] := by
            rw [decide_eq_false (by omega)]; rfl
          simp only [dlt h, dnn, Bool.and_self, cond_true, rq_tt, Int.toNat_natCast, gd h, w64_nat (i := i) (by omega), refValue_eq, Option.bind_some, hw, hz, hv]
          generalize decide (IntKind.wrap .u64 (Int.tdiv (IntKind.wrap .u64 (9223372036854775808 - (IntKind.wrap .u64 (dR l[i])))) (base : Int)) < t) = c
          cases c <;> rfl
        · intro t rc
          simp only [dltn, cond_false]
theorem dR_dg (b : UInt8) (h : dg b = false) : dR b < 0 ∨ 10 ≤ dR b := by
  unfold dR
  rw [h]
  simp only [cond_false]
  by_cases h3 : 97 ≤ (b.toNat : Int) ∧ (b.toNat : Int) ≤ 102
  · rw [decide_eq_true h3.1, decide_eq_true h3.2]; simp only [Bool.and_self, cond_true]; omega
  · have e3 : (decide (97 ≤ (b.toNat : Int)) && decide ((b.toNat : Int) ≤ 102)) = false := by
      rw [Bool.and_eq_false_iff, decide_eq_false_iff_not, decide_eq_false_iff_not]; omega
    rw [e3]
    by_cases h4 : 65 ≤ (b.toNat : Int) ∧ (b.toNat : Int) ≤ 70
    · rw [decide_eq_true h4.1, decide_eq_true h4.2]; simp only [Bool.and_self, cond_true, cond_false]; omega
    · have e4 : (decide (65 ≤ (b.toNat : Int)) && decide ((b.toNat : Int) ≤ 70)) = false := by
        rw [Bool.and_eq_false_iff, decide_eq_false_iff_not, decide_eq_false_iff_not]; omega
      rw [e4]
      left
      simp only [cond_false]
      omega
theorem magS_bad (b : UInt8) (t : List UInt8) (h : dg b = false) : magS (b :: t) = (0, 6) := by
  have hne : ((48 : UInt8) == b) = false := by
    rw [beq_eq_false_iff_ne]
    intro e
    subst e
    exact absurd h (by decide)
  unfold magS baseC
  have p1 : ([48, 120] : List UInt8).isPrefixOf (b :: t) = false := by simp only [List.isPrefixOf, hne, Bool.false_and]
  have p2 : ([48, 88] : List UInt8).isPrefixOf (b :: t) = false := by simp only [List.isPrefixOf, hne, Bool.false_and]
  have p3 : ([48] : List UInt8).isPrefixOf (b :: t) = false := by simp only [List.isPrefixOf, hne, Bool.false_and]
  rw [p1, p2, p3]
  simp only [Bool.or_self, cond_false]
  have ho : okD ((10 : Nat) : Int) (b :: t) = false := by
    unfold okD
    rw [List.all_cons, Bool.and_eq_false_iff]
    left
    rw [Bool.and_eq_false_iff, decide_eq_false_iff_not, decide_eq_false_iff_not]
    have := dR_dg b h
    omega
  unfold resM
  rw [ho]
  rfl
theorem const6_eq (F : Nat) (s : List UInt8) (hF : s.length < F) (hl : s.length ≤ 1000000) : ref06_constant F s = some (magS s) := by
  unfold ref06_constant
  cases s with
  | nil => rfl
  | cons b t =>
    have hp : decide (0 < ((b :: t).length : Int)) = true := decide_eq_true (by simp only [List.length_cons]; omega)
    have hne : ((b :: t) == []) = false := rfl
    rw [const_eq2 F (b :: t) (by simp) hF hl]
    simp only [hne, cond_false, hp, rq_tt, List.getD_cons_zero, Option.bind_some]
    cases hd : dg b with
    | true =>
      unfold dg digitS at hd
      simp only [Bool.and_eq_true, decide_eq_true_eq] at hd
      rw [decide_eq_false (show ¬ (b.toNat : Int) < 48 by omega), decide_eq_false (show ¬ 57 < (b.toNat : Int) by omega)]
      rfl
    | false =>
      rw [magS_bad b t hd]
      unfold dg digitS at hd
      rw [Bool.and_eq_false_iff, decide_eq_false_iff_not, decide_eq_false_iff_not] at hd
      by_cases h : (b.toNat : Int) < 48
      · rw [decide_eq_true h]; rfl
      · rw [decide_eq_false h, decide_eq_true (show 57 < (b.toNat : Int) by omega)]; rfl
theorem magS_range (s : List UInt8) : ((magS s).2 = 0 ∧ 0 ≤ (magS s).1 ∧ (magS s).1 ≤ 9223372036854775808) ∨ (magS s).2 = 6 ∨ (magS s).2 = 14 := by
  unfold magS
  cases ((baseC s).2 == []) with
  | true => exact .inr (.inl rfl)
  | false =>
    unfold resM
    cases okD ((baseC s).1 : Int) (baseC s).2 with
    | false => exact .inr (.inl rfl)
    | true =>
      by_cases h : valN (baseC s).1 0 (baseC s).2 ≤ 9223372036854775808
      · rw [decide_eq_true h]
        exact .inl ⟨rfl, show (0 : Int) ≤ (valN (baseC s).1 0 (baseC s).2 : Int) by omega, show (valN (baseC s).1 0 (baseC s).2 : Int) ≤ 9223372036854775808 by omega⟩
      · rw [decide_eq_false h]; exact .inr (.inr rfl)
/-- Number's answer. -/
def numS (s : List UInt8) : Int × Int := cond ((magS s).2 != 0) (0, (magS s).2) (cond ((magS s).1 == 9223372036854775808) (0, 14) (w64 (magS s).1, 0))
theorem number6_eq (F : Nat) (s : List UInt8) (hF : s.length < F) (hl : s.length ≤ 1000000) : ref06_Number F s = some (numS s) := by
  unfold ref06_Number numS
  rw [const6_eq F s hF hl]
  simp only [Option.bind_some]
  rcases magS_range s with ⟨h, h0, h1⟩ | h | h
  · rw [h]
    by_cases ht : (magS s).1 = 9223372036854775808
    · rw [ht]; rfl
    · rw [decide_eq_false (show ¬ 9223372036854775807 < (magS s).1 by omega), show ((magS s).1 == 9223372036854775808) = false by rw [beq_eq_false_iff_ne]; exact ht]
      rfl
  · rw [h]; rfl
  · rw [h]; rfl
def R64 (x : Int) : Prop := -9223372036854775808 ≤ x ∧ x ≤ 9223372036854775807
theorem w64_rng (x : Int) : R64 (w64 x) := by
  show R64 (if (true && decide (x % (2 ^ 64 : Int) ≥ (2 ^ 63 : Int))) = true then x % (2 ^ 64 : Int) - (2 ^ 64 : Int) else x % (2 ^ 64 : Int))
  have h0 := Int.emod_nonneg x (show (2 ^ 64 : Int) ≠ 0 by decide)
  have h1 := Int.emod_lt_of_pos x (show (0 : Int) < 2 ^ 64 by decide)
  unfold R64
  simp only [Bool.true_and, decide_eq_true_eq]
  split <;> omega
def tailS (s : List UInt8) : List UInt8 := cond ((((s.getD 0 0).toNat : Int) == 45) || (((s.getD 0 0).toNat : Int) == 43)) (s.drop 1) s
def intS (s : List UInt8) : Int × Bool :=
  cond (s == []) (0, true) (cond ((magS (tailS s)).2 != 0 || ((magS (tailS s)).1 == 9223372036854775808 && !(((s.getD 0 0).toNat : Int) == 45))) (0, false)
    (cond (((s.getD 0 0).toNat : Int) == 45) (w64 (IntKind.wrap .u64 (0 - (magS (tailS s)).1)), true) (w64 (magS (tailS s)).1, true)))
theorem intS_rng (s : List UInt8) : R64 (intS s).1 := by
  unfold intS
  cases (s == []) <;> cases ((magS (tailS s)).2 != 0 || ((magS (tailS s)).1 == 9223372036854775808 && !(((s.getD 0 0).toNat : Int) == 45))) <;> cases (((s.getD 0 0).toNat : Int) == 45) <;> first | exact w64_rng _ | exact (show R64 0 by unfold R64; decide)
theorem tail_len (s : List UInt8) : (tailS s).length ≤ s.length := by
  unfold tailS
  cases ((((s.getD 0 0).toNat : Int) == 45) || (((s.getD 0 0).toNat : Int) == 43)) <;> simp
theorem integer_eq (F : Nat) (s : List UInt8) (hF : s.length < F) (hl : s.length ≤ 1000000) : calc_integer F s = some (intS s) := by
  unfold calc_integer intS
  cases hs : (s == []) with
  | true => rfl
  | false =>
    have hp : 0 < s.length := by
      cases s with
      | nil => cases hs
      | cons a s => simp
    have e0 : decide (0 < (s.length : Int)) = true := decide_eq_true (by omega)
    have e1 : (decide (1 ≤ (s.length : Int)) && decide ((s.length : Int) ≤ (s.length : Int))) = true := by rw [decide_eq_true (by omega), decide_eq_true (by omega)]; rfl
    have e2 : sl s 1 (s.length : Int) = s.drop 1 := by unfold sl; simp
    have et : ((cond (((s.getD 0 0).toNat : Int) == 45) (some true) (some (((s.getD 0 0).toNat : Int) == 43)) : Option Bool).bind fun x2 => cond x2 (some (s.drop 1)) (some s) : Option (List UInt8)) = some (tailS s) := by
      unfold tailS
      cases (((s.getD 0 0).toNat : Int) == 45) <;> cases (((s.getD 0 0).toNat : Int) == 43) <;> rfl
    simp only [cond_false, e0, e1, e2, rq_tt, et, Option.bind_some]
    have := tail_len s
    rw [mag_eq F (tailS s) (by omega) (by omega)]
    simp only [Option.bind_some]
    cases ((magS (tailS s)).2 != 0) <;> cases ((magS (tailS s)).1 == 9223372036854775808) <;> cases (((s.getD 0 0).toNat : Int) == 45) <;> rfl
theorem value6_eq (F : Nat) (s : List UInt8) (hF : s.length < F) (hl : s.length ≤ 1000000) : ref06_Value F s = some (intS s) := by
  unfold ref06_Value intS
  cases hs : (s == []) with
  | true => rfl
  | false =>
    have hp : 0 < s.length := by
      cases s with
      | nil => cases hs
      | cons a s => simp
    have e0 : decide (0 < (s.length : Int)) = true := decide_eq_true (by omega)
    have e1 : (decide (1 ≤ (s.length : Int)) && decide ((s.length : Int) ≤ (s.length : Int))) = true := by rw [decide_eq_true (by omega), decide_eq_true (by omega)]; rfl
    have e2 : sl s 1 (s.length : Int) = s.drop 1 := by unfold sl; simp
    have et : ((cond (((s.getD 0 0).toNat : Int) == 45) (some true) (some (((s.getD 0 0).toNat : Int) == 43)) : Option Bool).bind fun x2 => cond x2 (some (s.drop 1)) (some s) : Option (List UInt8)) = some (tailS s) := by
      unfold tailS
      cases (((s.getD 0 0).toNat : Int) == 45) <;> cases (((s.getD 0 0).toNat : Int) == 43) <;> rfl
    simp only [cond_false, e0, e1, e2, rq_tt, et, Option.bind_some]
    have := tail_len s
    rw [const6_eq F (tailS s) (by omega) (by omega)]
    have key : ∀ (neg : Bool), (cond ((magS (tailS s)).2 != 0) true (decide ((cond neg 9223372036854775808 9223372036854775807 : Int) < (magS (tailS s)).1))) = ((magS (tailS s)).2 != 0 || ((magS (tailS s)).1 == 9223372036854775808 && !neg)) := by
      intro neg
      rcases magS_range (tailS s) with ⟨h, h0, h1⟩ | h | h
      · rw [h]
        simp only [bne_self_eq_false, cond_false, Bool.false_or]
        rw [Bool.eq_iff_iff]
        cases neg <;> simp <;> omega
      · rw [h]; rfl
      · rw [h]; rfl
    rw [← key]
    simp only [Option.bind_some]
    cases ((magS (tailS s)).2 != 0) <;> cases (((s.getD 0 0).toNat : Int) == 45) <;> simp only [cond_true, cond_false, Option.bind_some] <;> first | rfl | (generalize (decide ((_ : Int) < (magS (tailS s)).1)) = c; cases c <;> rfl)
theorem itoa_len60 {n : Int} (h : R64 n) : (Lib.itoa n).length ≤ 60 := by
  have key : ∀ (k u : Nat), u < 10 ^ (k + 1) → (Lib.decDigits u).length ≤ k + 1 := by
    intro k
    induction k with
    | zero =>
      intro u hu
      rw [Lib.decDigits_one (by simpa using hu)]
      simp
    | succ k ih =>
      intro u hu
      by_cases h9 : u < 10
      · rw [Lib.decDigits_one h9]; simp
      · rw [Lib.decDigits.eq_1 u, dif_neg h9]
        have := ih (u / 10) (by rw [Nat.pow_succ] at hu; omega)
        simp
        omega
  unfold R64 at h
  unfold Lib.itoa
  split
  · have := key 20 n.natAbs (by omega)
    simp
    omega
  · have := key 20 n.toNat (by omega)
    omega
theorem decimal_neg (F : Nat) (hF : 30 ≤ F) {n : Int} (h0 : -9223372036854775808 ≤ n) (h1 : n < 0) : ref05_Decimal F n = some (Lib.itoa n) := by
  unfold ref05_Decimal ref05_digits
  obtain ⟨u, hu⟩ : ∃ u : Nat, n = -(u : Int) := ⟨(-n).toNat, by omega⟩
  have e1 : w64 (0 - w64 (n + 1)) = (u : Int) - 1 := by rw [w64_in (x := n + 1) (by omega), w64_in (by omega)]; omega
  have e2 : IntKind.wrap .u64 ((IntKind.wrap .u64 ((u : Int) - 1)) + 1) = (u : Int) := by
    rw [IntWalk.u64_in ((u : Int) - 1) (by omega), IntWalk.u64_in _ (by omega)]; omega
  rw [decide_eq_true h1]
  simp only [cond_true, e1, e2]
  rw [digits_loop 20 u F [] (by omega) (by omega) (by omega) (by simp)]
  simp only [Option.bind_some, List.append_nil]
  rw [hu, Lib.itoa_neg u (by omega)]
  have hl : (Lib.decDigits u).length ≤ 60 := by
    have := itoa_len60 (n := -(u : Int)) ⟨by omega, by omega⟩
    rw [Lib.itoa_neg u (by omega)] at this
    simp at this
    omega
  rw [rq_str (by simp; omega)]
  rfl
theorem dec_eq (F : Nat) (hF : 30 ≤ F) {n : Int} (h : R64 n) : ref05_Decimal F n = some (Lib.itoa n) := by
  by_cases h0 : 0 ≤ n
  · exact decimal_eq F hF h0 h.2
  · exact decimal_neg F hF h.1 (by omega)
theorem ne_beq {a b : Int} (h : a ≠ b) : (a == b) = false := by rw [beq_eq_false_iff_ne]; exact h
theorem dR_digit {d : Nat} (h : d < 10) : dR (UInt8.ofNat (48 + d)) = (d : Int) := by
  have : d = 0 ∨ d = 1 ∨ d = 2 ∨ d = 3 ∨ d = 4 ∨ d = 5 ∨ d = 6 ∨ d = 7 ∨ d = 8 ∨ d = 9 := by omega
  rcases this with rfl | rfl | rfl | rfl | rfl | rfl | rfl | rfl | rfl | rfl <;> rfl
theorem digits_ok (u : Nat) : okD 10 (Lib.decDigits u) = true ∧ valN 10 0 (Lib.decDigits u) = u ∧ Lib.decDigits u ≠ [] ∧ (1 ≤ u → ∃ b t, Lib.decDigits u = b :: t ∧ b ≠ 48) ∧ (∃ b t, Lib.decDigits u = b :: t ∧ 48 ≤ (b.toNat : Int) ∧ (b.toNat : Int) ≤ 57) := by
  induction u using Nat.strongRecOn with
  | _ u ih =>
    by_cases h9 : u < 10
    · rw [Lib.decDigits_one h9]
      have : u = 0 ∨ u = 1 ∨ u = 2 ∨ u = 3 ∨ u = 4 ∨ u = 5 ∨ u = 6 ∨ u = 7 ∨ u = 8 ∨ u = 9 := by omega
      rcases this with rfl | rfl | rfl | rfl | rfl | rfl | rfl | rfl | rfl | rfl <;> exact ⟨by decide, by decide, by decide, fun h => ⟨_, [], rfl, by revert h; decide⟩, ⟨_, [], rfl, by decide⟩⟩
    · obtain ⟨h1, h2, h3, h4, h5⟩ := ih (u / 10) (by omega)
      rw [Lib.decDigits.eq_1 u, dif_neg h9]
      have hd := dR_digit (Nat.mod_lt u (show 0 < 10 by decide))
      refine ⟨?_, ?_, by simp, fun _ => ?_, ?_⟩
      · unfold okD at h1 ⊢
        rw [List.all_append, h1]
        simp only [List.all_cons, List.all_nil, Bool.and_true, Bool.true_and, hd]
        rw [decide_eq_true (by omega), decide_eq_true (by omega)]
        rfl
      · unfold valN at h2 ⊢
        rw [List.foldl_append, h2]
        simp only [List.foldl_cons, List.foldl_nil, hd]
        omega
      · obtain ⟨b, t, e, hb⟩ := h4 (by omega)
        exact ⟨b, t ++ [_], by rw [e]; rfl, hb⟩
      · obtain ⟨b, t, e, hb⟩ := h5
        exact ⟨b, t ++ [_], by rw [e]; rfl, hb⟩
theorem magS_digits {u : Nat} (h : u ≤ 9223372036854775808) : magS (Lib.decDigits u) = ((u : Int), 0) := by
  obtain ⟨h1, h2, h3, h4, _⟩ := digits_ok u
  by_cases h0 : u = 0
  · subst h0; rw [Lib.decDigits_one (by omega)]; rfl
  obtain ⟨b, t, e, hb⟩ := h4 (by omega)
  have hne : ((48 : UInt8) == b) = false := by rw [beq_eq_false_iff_ne]; exact fun e => hb e.symm
  have p1 : ([48, 120] : List UInt8).isPrefixOf (b :: t) = false := by simp only [List.isPrefixOf, hne, Bool.false_and]
  have p2 : ([48, 88] : List UInt8).isPrefixOf (b :: t) = false := by simp only [List.isPrefixOf, hne, Bool.false_and]
  have p3 : ([48] : List UInt8).isPrefixOf (b :: t) = false := by simp only [List.isPrefixOf, hne, Bool.false_and]
  unfold magS baseC
  rw [e, p1, p2, p3, ← e]
  simp only [Bool.or_self, cond_false]
  rw [show (Lib.decDigits u == []) = false by rw [beq_eq_false_iff_ne]; exact h3]
  simp only [cond_false]
  unfold resM
  rw [show okD ((10 : Nat) : Int) (Lib.decDigits u) = true from h1, h2, decide_eq_true h]
  rfl
theorem intS_itoa {n : Int} (h : R64 n) : intS (Lib.itoa n) = (n, true) := by
  unfold R64 at h
  by_cases h0 : 0 ≤ n
  · obtain ⟨u, rfl⟩ : ∃ u : Nat, n = u := ⟨n.toNat, by omega⟩
    rw [Lib.itoa_nonneg]
    obtain ⟨_, _, h3, _, b, t, e, hb1, hb2⟩ := digits_ok u
    have hm := magS_digits (u := u) (by omega)
    have ne1 : ((b.toNat : Int) == 45) = false := ne_beq (by omega)
    have ne2 : ((b.toNat : Int) == 43) = false := ne_beq (by omega)
    have ht : tailS (Lib.decDigits u) = Lib.decDigits u := by
      unfold tailS
      rw [e]
      simp only [List.getD_cons_zero, ne1, ne2, Bool.or_self, cond_false]
    unfold intS
    rw [ht, hm]
    rw [show (Lib.decDigits u == []) = false by rw [beq_eq_false_iff_ne]; exact h3]
    rw [e]
    simp only [List.getD_cons_zero, ne1, cond_false, bne_self_eq_false, Bool.false_or]
    rw [ne_beq (show (u : Int) ≠ 9223372036854775808 by omega), w64_in (by omega)]
    rfl
  · obtain ⟨u, rfl⟩ : ∃ u : Nat, n = -(u : Int) := ⟨(-n).toNat, by omega⟩
    rw [Lib.itoa_neg u (by omega)]
    have hm := magS_digits (u := u) (by omega)
    have ht : tailS (45 :: Lib.decDigits u) = Lib.decDigits u := rfl
    unfold intS
    rw [ht, hm]
    show cond ((0 : Int) != 0 || ((u : Int) == 9223372036854775808 && false)) (0, false) (w64 (IntKind.wrap .u64 (0 - (u : Int))), true) = _
    rw [Bool.and_false]
    show (w64 (IntKind.wrap .u64 (0 - (u : Int))), true) = _
    congr 1
    have e1 : IntKind.wrap .u64 (0 - (u : Int)) = 18446744073709551616 - (u : Int) := by
      show (0 - (u : Int)) % (2 ^ 64 : Int) = _
      omega
    rw [e1]
    have e2 : (18446744073709551616 - (u : Int)) % (2 ^ 64 : Int) = 18446744073709551616 - (u : Int) := Int.emod_eq_of_lt (by omega) (by omega)
    show (if (true && decide ((18446744073709551616 - (u : Int)) % (2 ^ 64 : Int) ≥ (2 ^ 63 : Int))) = true then (18446744073709551616 - (u : Int)) % (2 ^ 64 : Int) - (2 ^ 64 : Int) else (18446744073709551616 - (u : Int)) % (2 ^ 64 : Int)) = _
    rw [e2, if_pos (by simp; omega)]
    omega

end Go.Proofs.YtmcnemjnkiofdaaGreatDoor
