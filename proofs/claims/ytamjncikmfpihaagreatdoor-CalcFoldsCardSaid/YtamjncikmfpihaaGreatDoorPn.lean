/-
  Names: the program's test, rune by rune, and the reference's, byte by byte, give one answer.
-/
import Derived.Test.YtamjncikmfpihaaGreatDoorPa
namespace Go.Proofs.YtamjncikmfpihaaGreatDoor
open Go.RT
set_option linter.unusedVariables false

def digitS (b : Int) : Bool := decide (48 ≤ b) && decide (b ≤ 57)
def letterS (b : Int) : Bool := (decide (97 ≤ b) && decide (b ≤ 122)) || (decide (65 ≤ b) && decide (b ≤ 90))
def wordS (b : Int) : Bool := (letterS b || digitS b) || b == 95
theorem digitR (F : Nat) (b : Int) : ref01_Digit F b = some (digitS b) := by
  unfold ref01_Digit digitS; cases decide (48 ≤ b) <;> rfl
theorem letterR (F : Nat) (b : Int) : ref01_Letter F b = some (letterS b) := by
  unfold ref01_Letter letterS; cases decide (97 ≤ b) <;> cases decide (b ≤ 122) <;> cases decide (65 ≤ b) <;> rfl
theorem wordR (F : Nat) (b : Int) : ref01_Word F b = some (wordS b) := by
  unfold ref01_Word wordS; rw [letterR, digitR]; cases letterS b <;> cases digitS b <;> rfl
theorem digitC (F : Nat) (b : Int) : chars_digit F b = some (digitS b) := by
  unfold chars_digit digitS; cases decide (48 ≤ b) <;> rfl
theorem letterC (F : Nat) (b : Int) : chars_letter F b = some (letterS b) := by
  unfold chars_letter letterS; cases decide (97 ≤ b) <;> cases decide (b ≤ 122) <;> cases decide (65 ≤ b) <;> cases decide (b ≤ 90) <;> rfl
theorem digit_iff (b : Int) : digitS b = true ↔ 48 ≤ b ∧ b ≤ 57 := by simp [digitS]
theorem word_iff (b : Int) : wordS b = true ↔ (97 ≤ b ∧ b ≤ 122) ∨ (65 ≤ b ∧ b ≤ 90) ∨ (48 ≤ b ∧ b ≤ 57) ∨ b = 95 := by
  simp only [wordS, letterS, digitS, Bool.or_eq_true, Bool.and_eq_true, decide_eq_true_eq, beq_iff_eq]; omega

def byteAt (s : List UInt8) (p : Nat) : Int := ((s.getD p 0).toNat : Int)
theorem iter_all (p : Nat → Bool) : ∀ k i, iter (fun i r => cond (p i) r (some false)) (some true) k i = some ((List.range' i k).all p)
  | 0, i => rfl
  | k + 1, i => by
    simp only [iter, List.range'_succ, List.all_cons]
    rw [iter_all p k (i + 1)]
    cases p i <;> rfl

def rName (s : List UInt8) : Bool := cond (s == [] || decide (32 < (s.length : Int))) false (cond (digitS (byteAt s 0)) false ((List.range' 0 s.length).all fun i => wordS (byteAt s i)))

theorem ref01_Name_eq (F : Nat) (s : List UInt8) (hF : 33 ≤ F) : ref01_Name F s = some (rName s) := by
  unfold ref01_Name rName
  simp only [digitR, wordR, Option.bind_some]
  cases h1 : (s == []) with
  | true => rfl
  | false =>
    cases h2 : decide (32 < (s.length : Int)) with
    | true => rfl
    | false =>
      have h0 : decide (0 < (s.length : Int)) = true := by
        cases s with
        | nil => cases h1
        | cons a s => simp
      have hl : ¬ 32 < (s.length : Int) := by simpa using h2
      simp only [cond_false, Option.bind_some, Bool.or_false, h0, rq, cond_true]
      show cond (digitS (byteAt s 0)) _ _ = some (cond (digitS (byteAt s 0)) _ _)
      cases digitS (byteAt s 0) with
      | true => rfl
      | false =>
        simp only [cond_false]
        rw [← iter_all (fun i => wordS (byteAt s i))]
        refine loopF_iter0 (n := s.length) (fun i rc hi => ?_) (fun rc => ?_) F (by omega)
        · have e1 : decide ((i : Int) < (s.length : Int)) = true := by simpa using hi
          have e2 : decide (0 ≤ (i : Int)) = true := by simp
          simp only [e1, e2, cond_true, Bool.and_self, Int.toNat_natCast]
          rw [w64_nat (by omega)]
          show cond (!(wordS (byteAt s i))) _ _ = _
          cases wordS (byteAt s i) <;> rfl
        · have e1 : decide ((s.length : Int) < (s.length : Int)) = false := by simp
          simp only [e1, cond_false]

theorem get_at (l : List UInt8) (k : Nat) : (ByteArray.mk ⟨l⟩).get! k = l.getD k 0 := by
  simp [ByteArray.get!, List.getD, getElem!_def]
  cases l[k]? <;> rfl
theorem dec_ascii {l : List UInt8} {p : Nat} (h : (l.getD p 0).toNat < 128) : dec l p = ((l.getD p 0).toNat, 1) := by
  unfold dec Utf8.decode
  simp only [get_at, Nat.add_zero]
  rw [if_pos h]
theorem dec_other {l : List UInt8} {p : Nat} (h : ¬ (l.getD p 0).toNat < 128) : 128 ≤ (dec l p).1 := by
  unfold dec Utf8.decode
  simp only [get_at, Nat.add_zero]
  rw [if_neg h]
  (repeat' split) <;> simp_all [Utf8.runeError] <;> omega

/-- The program's test of one rune at an offset. -/
def cOk (c : Int) (p : Int) : Bool := cond (letterS c || c == 95) true (cond (digitS c) (decide (0 < p)) false)
theorem cOk_iff (c p : Int) : cOk c p = true ↔ (97 ≤ c ∧ c ≤ 122) ∨ (65 ≤ c ∧ c ≤ 90) ∨ c = 95 ∨ (48 ≤ c ∧ c ≤ 57) ∧ 0 < p := by
  simp only [cOk, letterS, digitS, Bool.cond_eq_ite, Bool.if_true_left, Bool.if_false_right, Bool.or_eq_true, Bool.and_eq_true, decide_eq_true_eq, beq_iff_eq]
  omega
def bOk (s : List UInt8) (p : Nat) : Bool := wordS (byteAt s p) && !(decide (p = 0) && digitS (byteAt s p))
theorem cOk_bOk (s : List UInt8) (p : Nat) : cOk ((dec s p).1 : Int) (p : Int) = bOk s p ∧ (bOk s p = true → (dec s p).2 = 1) := by
  by_cases h : (s.getD p 0).toNat < 128
  · rw [dec_ascii h]
    refine ⟨?_, fun _ => rfl⟩
    rw [Bool.eq_iff_iff, cOk_iff]
    unfold bOk byteAt
    rw [Bool.and_eq_true, word_iff, Bool.not_eq_true', Bool.and_eq_false_iff]
    have hd : digitS (((s.getD p 0).toNat : Nat) : Int) = false ↔ ¬ (48 ≤ (((s.getD p 0).toNat : Nat) : Int) ∧ (((s.getD p 0).toNat : Nat) : Int) ≤ 57) := by
      rw [← digit_iff]; simp
    rw [hd]
    simp only [decide_eq_false_iff_not]
    omega
  · have h1 := dec_other h
    have h2 : wordS (byteAt s p) = false := by
      apply Bool.eq_false_iff.2
      intro hw
      unfold byteAt at hw
      rw [word_iff] at hw
      omega
    have h3 : bOk s p = false := by unfold bOk; rw [h2]; rfl
    rw [h3]
    refine ⟨?_, fun h => by cases h⟩
    apply Bool.eq_false_iff.2
    intro hc
    rw [cOk_iff] at hc
    omega

theorem chars_loop (F : Nat) (s : List UInt8) : ∀ (k p n : Nat), p + k = s.length → k < n → loopF (σ := (List UInt8) × Int) (R := Bool) (fun rc3 x2 =>
     cond (Nat.blt (Int.toNat x2.2) x2.1.length)
     (((chars_letter F ((dec x2.1 (Int.toNat x2.2)).1 : Int)).bind fun x5 =>
     cond x5
     (some true)
     (some (((dec x2.1 (Int.toNat x2.2)).1 : Int) == 95)) : Option Bool).bind fun x4 =>
     (cond x4
     (some true)
     ((chars_digit F ((dec x2.1 (Int.toNat x2.2)).1 : Int)).bind fun x7 =>
     cond x7
     (some (decide (0 < (((Int.toNat x2.2) : Nat) : Int))))
     (some false)) : Option Bool).bind fun x6 =>
     cond x6
     (rc3 (x2.1, ((((Int.toNat x2.2) + (dec x2.1 (Int.toNat x2.2)).2) : Nat) : Int)))
     (some false))
     (some true)) n (s, (p : Int)) = some ((List.range' p k).all (bOk s))
  | 0, p, n, h, hn => by
    cases n with
    | zero => omega
    | succ n =>
      have e : Nat.blt p s.length = false := by
        apply Bool.eq_false_iff.2
        intro hh
        rw [Nat.blt, Nat.ble_eq] at hh
        omega
      simp only [loopF, Int.toNat_natCast, e, cond_false]
      rfl
  | k + 1, p, n, h, hn => by
    cases n with
    | zero => omega
    | succ n =>
      have e : Nat.blt p s.length = true := by rw [Nat.blt, Nat.ble_eq]; omega
      obtain ⟨h1, h2⟩ := cOk_bOk s p
      have ih := chars_loop F s k (p + 1) n (by omega) (by omega)
      simp only [letterC, digitC, Option.bind_some] at ih ⊢
      rw [loopF]
      simp only [Int.toNat_natCast, e, cond_true]
      have key : ∀ X : Option Bool, ((cond (letterS ((dec s p).1 : Int)) (some true) (some (((dec s p).1 : Int) == 95)) : Option Bool).bind fun x4 =>
          (cond x4 (some true) (cond (digitS ((dec s p).1 : Int)) (some (decide (0 < (p : Int)))) (some false)) : Option Bool).bind fun x6 => cond x6 X (some false)) = cond (cOk ((dec s p).1 : Int) (p : Int)) X (some false) := by
        intro X
        unfold cOk
        cases letterS ((dec s p).1 : Int) <;> cases (((dec s p).1 : Int) == 95) <;> cases digitS ((dec s p).1 : Int) <;> cases decide (0 < (p : Int)) <;> rfl
      rw [key, h1, List.range'_succ, List.all_cons]
      cases hb : bOk s p with
      | false => rfl
      | true =>
        rw [h2 hb]
        simp only [cond_true, Bool.true_and]
        exact ih

theorem chars_Name_eq (F : Nat) (s : List UInt8) (hF : 33 ≤ F) : chars_Name F s = some (rName s) := by
  unfold chars_Name rName
  by_cases hz : s = []
  · subst hz; rfl
  have hlen : 0 < s.length := List.length_pos_iff.2 hz
  have h1 : decide ((s.length : Int) < 1) = false := by simp; omega
  have h2 : (s == []) = false := by simpa using hz
  rw [h1, h2]
  cases hl : decide (32 < (s.length : Int)) with
  | true => rfl
  | false =>
    have hs : ¬ 32 < (s.length : Int) := by simpa using hl
    simp only [cond_false, Option.bind_some, Bool.or_false]
    rw [chars_loop F s s.length 0 F (by omega) (by omega)]
    obtain ⟨m, hm⟩ : ∃ m, s.length = m + 1 := ⟨s.length - 1, by omega⟩
    rw [hm, List.range'_succ, List.all_cons, List.all_cons]
    have e : (List.range' (0 + 1) m).all (bOk s) = (List.range' (0 + 1) m).all fun i => wordS (byteAt s i) := by
      rw [Bool.eq_iff_iff, List.all_eq_true, List.all_eq_true]
      have : ∀ x, x ∈ List.range' (0 + 1) m → bOk s x = wordS (byteAt s x) := fun x hx => by
        rw [List.mem_range'_1] at hx
        unfold bOk
        rw [show decide (x = 0) = false by simp; omega]
        simp
      constructor
      · intro h x hx; rw [← this x hx]; exact h x hx
      · intro h x hx; rw [this x hx]; exact h x hx
    rw [e]
    unfold bOk
    cases digitS (byteAt s 0) <;> simp

theorem names_eq (F : Nat) (s : List UInt8) (hF : 33 ≤ F) : chars_Name F s = ref01_Name F s := (chars_Name_eq F s hF).trans (ref01_Name_eq F s hF).symm

end Go.Proofs.YtamjncikmfpihaaGreatDoor
