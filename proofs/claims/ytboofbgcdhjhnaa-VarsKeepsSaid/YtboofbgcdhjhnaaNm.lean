/-
  Names (layer 1): the program's test, rune by rune, and the reference's, byte by byte, give one answer.
-/
import Derived.Test.YtboofbgcdhjhnaaPure
import Derived.Test.YtboofbgcdhjhnaaM1
namespace Go.Proofs.Ytboofbgcdhjhnaa
set_option linter.unusedVariables false
open Go.AL

def wordB (b : UInt8) : Bool := ref01_Word (b.toNat : Int)
def rName (s : List UInt8) : Bool := cond (cond (cond (s == []) true (decide (32 < (s.length : Int)))) true (ref01_Digit ((s.getD 0 0).toNat : Int))) false (s.all wordB)

theorem word_iff (b : Int) : ref01_Word b = true ↔ (97 ≤ b ∧ b ≤ 122) ∨ (65 ≤ b ∧ b ≤ 90) ∨ (48 ≤ b ∧ b ≤ 57) ∨ b = 95 := by
  simp only [ref01_Word, ref01_Letter, ref01_Digit, Bool.cond_eq_ite, Bool.if_true_left, Bool.if_false_right, Bool.or_eq_true, Bool.and_eq_true, decide_eq_true_eq, beq_iff_eq]
  omega
theorem digit_iff (b : Int) : ref01_Digit b = true ↔ 48 ≤ b ∧ b ≤ 57 := by
  simp only [ref01_Digit, Bool.cond_eq_ite, Bool.if_false_right, Bool.and_eq_true, decide_eq_true_eq]

theorem all_scan (s : List UInt8) : (scan (fun i => if wordB (s.getD i 0) then none else some false) s.length 0).isNone = s.all wordB := by
  have : scan (fun i => if wordB (s.getD i 0) then none else some false) s.length 0 = (s.drop 0).findSome? (fun b => if wordB b then none else some false) :=
    scan_list (fun b : UInt8 => if wordB b then none else some false) s s.length 0 (by omega)
  rw [this, List.drop_zero]
  induction s with
  | nil => rfl
  | cons b s ih =>
    rw [List.findSome?_cons, List.all_cons]
    cases wordB b
    · rfl
    · simp only [if_true, Bool.true_and]
      exact ih (by rw [← scan_list (fun b : UInt8 => if wordB b then none else some false) s s.length 0 (by omega)]; rfl)

theorem ref01_Name_eq (n : Nat) (s : List UInt8) (hn : 33 ≤ n) : ref01_Name n s = some (rName s) := by
  unfold ref01_Name rName
  rw [req_pos (fun h => by
    cases s with
    | nil => simp at h
    | cons a s => simp)]
  cases hc : (cond (cond (s == []) true (decide (32 < (s.length : Int)))) true (ref01_Digit ((s.getD 0 0).toNat : Int))) with
  | true => rfl
  | false =>
    simp only [cond_false]
    have hs : s.length ≤ 32 := by
      cases h2 : decide (32 < (s.length : Int)) with
      | true => rw [h2] at hc; cases h3 : (s == []) <;> rw [h3] at hc <;> cases hc
      | false => have : ¬ 32 < (s.length : Int) := by simpa using h2
                 omega
    have := scan_loop (ref01_Name_l0 s) s.length (fun i => if wordB (s.getD i 0) then none else some false) (fun m i hi => by
      show ref01_Name_l0_b s m (ref01_Name_l0 s m) i = _
      unfold ref01_Name_l0_b
      rw [show decide ((i : Int) < (s.length : Int)) = true by simpa using hi, cond_true, req_pos ⟨by omega, by omega⟩, toNat_cast, w64 (by omega)]
      show cond (!(wordB (s.getD i 0))) _ _ = _
      cases wordB (s.getD i 0) <;> simp) (fun m => by
      show ref01_Name_l0_b s m (ref01_Name_l0 s m) s.length = _
      unfold ref01_Name_l0_b
      simp) n 0 (Nat.zero_le _) (by omega)
    rw [show ((0 : Nat) : Int) = 0 from rfl] at this
    rw [this, ← all_scan s, Nat.sub_zero]
    cases hsc : scan (fun i => if wordB (s.getD i 0) then none else some false) s.length 0 with
    | none => rfl
    | some b =>
      obtain ⟨j, -, -, hj, -⟩ := scan_some hsc
      cases hw : wordB (s.getD j 0) <;> rw [hw] at hj <;> simp at hj
      subst hj
      rfl

theorem get_at (l : List UInt8) (k : Nat) : (ByteArray.mk ⟨l⟩).get! k = l.getD k 0 := by
  simp [ByteArray.get!, List.getD, getElem!_def]
  cases l[k]? <;> rfl
theorem dec_ascii {l : List UInt8} {p : Nat} (h : (l.getD p 0).toNat < 128) : Utf8.decode ⟨⟨l⟩⟩ p = ((l.getD p 0).toNat, 1) := by
  unfold Utf8.decode
  simp only [get_at, Nat.add_zero]
  rw [if_pos h]
theorem dec_other {l : List UInt8} {p : Nat} (h : ¬ (l.getD p 0).toNat < 128) : 128 ≤ (Utf8.decode ⟨⟨l⟩⟩ p).1 := by
  unfold Utf8.decode
  simp only [get_at, Nat.add_zero]
  rw [if_neg h]
  (repeat' split) <;> simp_all [Utf8.runeError] <;> omega

/-- The program's test of one rune at an offset. -/
def cOk (c : Int) (p : Int) : Bool := cond (cond (chars_letter c) true (c == 95)) true (cond (chars_digit c) (decide (0 < p)) false)
theorem cOk_iff (c p : Int) : cOk c p = true ↔ (97 ≤ c ∧ c ≤ 122) ∨ (65 ≤ c ∧ c ≤ 90) ∨ c = 95 ∨ (48 ≤ c ∧ c ≤ 57) ∧ 0 < p := by
  simp only [cOk, chars_letter, chars_digit, Bool.cond_eq_ite, Bool.if_true_left, Bool.if_false_right, Bool.or_eq_true, Bool.and_eq_true, decide_eq_true_eq, beq_iff_eq]
  omega
/-- The same of a byte. -/
def bOk (s : List UInt8) (p : Nat) : Bool := wordB (s.getD p 0) && !(decide (p = 0) && ref01_Digit ((s.getD p 0).toNat : Int))
theorem cOk_bOk (s : List UInt8) (p : Nat) : cOk ((Utf8.decode ⟨⟨s⟩⟩ p).1 : Int) (p : Int) = bOk s p ∧ (bOk s p = true → (Utf8.decode ⟨⟨s⟩⟩ p).2 = 1) := by
  by_cases h : (s.getD p 0).toNat < 128
  · rw [dec_ascii h]
    refine ⟨?_, fun _ => rfl⟩
    rw [Bool.eq_iff_iff, cOk_iff]
    unfold bOk wordB
    rw [Bool.and_eq_true, word_iff, Bool.not_eq_true', Bool.and_eq_false_iff]
    have hd : ref01_Digit (((s.getD p 0).toNat : Nat) : Int) = false ↔ ¬ (48 ≤ (((s.getD p 0).toNat : Nat) : Int) ∧ (((s.getD p 0).toNat : Nat) : Int) ≤ 57) := by
      rw [← digit_iff]; simp
    rw [hd]
    simp only [decide_eq_false_iff_not]
    omega
  · have h1 := dec_other h
    have h2 : wordB (s.getD p 0) = false := by
      apply Bool.eq_false_iff.2
      intro hw
      unfold wordB at hw
      rw [word_iff] at hw
      omega
    have h3 : bOk s p = false := by unfold bOk; rw [h2]; rfl
    rw [h3]
    refine ⟨?_, fun h => by cases h⟩
    apply Bool.eq_false_iff.2
    intro hc
    rw [cOk_iff] at hc
    omega

theorem chars_loop (s : List UInt8) : ∀ n p, p ≤ s.length → s.length - p < n → chars_Name_l0 s n p = some (match scan (fun i => if bOk s i then none else some false) (s.length - p) p with | some b => .ret b | none => .go s.length) := by
  intro n
  induction n with
  | zero => intro p _ h; omega
  | succ n ih =>
    intro p hp hn
    show chars_Name_l0_b s n (chars_Name_l0 s n) p = _
    unfold chars_Name_l0_b
    by_cases hl : p < s.length
    · rw [show decide (p < s.length) = true by simpa using hl, cond_true]
      obtain ⟨k, hk⟩ : ∃ k, s.length - p = k + 1 := ⟨s.length - p - 1, by omega⟩
      rw [hk]
      simp only [scan]
      obtain ⟨h1, h2⟩ := cOk_bOk s p
      show cond (cOk ((Utf8.decode ⟨⟨s⟩⟩ p).1 : Int) (p : Int)) _ _ = _
      rw [h1]
      cases hb : bOk s p with
      | true =>
        rw [h2 hb]
        simp only [cond_true, if_true]
        rw [ih (p + 1) hl (by omega), show s.length - (p + 1) = k by omega]
      | false => simp
    · have : p = s.length := by omega
      subst this
      simp [scan]

theorem chars_Name_eq (n : Nat) (s : List UInt8) (hn : 33 ≤ n) : chars_Name n s = some (rName s) := by
  unfold chars_Name rName
  by_cases hz : s = []
  · subst hz; rfl
  have h1 : ¬ (s.length : Int) < 1 := by
    cases s with
    | nil => exact absurd rfl hz
    | cons a s => simp; omega
  have h2 : (s == []) = false := by simpa using hz
  rw [show decide ((s.length : Int) < 1) = false by simpa using h1, h2]
  cases hl : decide (32 < (s.length : Int)) with
  | true => rfl
  | false =>
    simp only [cond_false]
    have hs : ¬ 32 < (s.length : Int) := by simpa using hl
    rw [chars_loop s n 0 (Nat.zero_le _) (by omega), Nat.sub_zero]
    cases hsc : scan (fun i => if bOk s i then none else some false) s.length 0 with
    | none =>
      have hall := scan_none.1 hsc
      have hb : ∀ j, j < s.length → bOk s j = true := fun j hj => by
        have := hall j (by omega) (by omega)
        cases hb : bOk s j with
        | true => rfl
        | false => rw [hb] at this; simp at this
      have hw : s.all wordB = true := by
        refine List.all_eq_true.2 fun b hb' => ?_
        obtain ⟨j, hj, rfl⟩ := List.getElem_of_mem hb'
        have := hb j hj
        unfold bOk at this
        rw [Bool.and_eq_true] at this
        simpa [List.getD, hj] using this.1
      have hd : ref01_Digit ((s.getD 0 0).toNat : Int) = false := by
        have := hb 0 (by omega)
        unfold bOk at this
        rw [Bool.and_eq_true] at this
        simpa using this.2
      rw [hw, hd]
      rfl
    | some b =>
      obtain ⟨j, -, hj, hjs, hq⟩ := scan_some hsc
      cases hbj : bOk s j with
      | true => rw [hbj] at hjs; simp at hjs
      | false =>
        rw [hbj] at hjs
        simp at hjs
        subst hjs
        show some false = _
        unfold bOk at hbj
        rw [Bool.and_eq_false_iff] at hbj
        rcases hbj with hbj | hbj
        · have : s.all wordB = false := by
            apply Bool.eq_false_iff.2
            intro ha
            have := List.all_eq_true.1 ha (s.getD j 0) (by simp [List.getD, show j < s.length by omega])
            rw [hbj] at this
            cases this
          rw [this]
          cases ref01_Digit ((s.getD 0 0).toNat : Int) <;> rfl
        · have hj0 : j = 0 ∧ ref01_Digit ((s.getD j 0).toNat : Int) = true := by simpa using hbj
          obtain ⟨rfl, hd⟩ := hj0
          rw [hd]
          rfl

theorem rName_len {s : List UInt8} (h : rName s = true) : 0 < s.length ∧ s.length ≤ 32 := by
  unfold rName at h
  cases hc : (cond (cond (s == []) true (decide (32 < (s.length : Int)))) true (ref01_Digit ((s.getD 0 0).toNat : Int))) with
  | true => rw [hc] at h; cases h
  | false =>
    cases h1 : (s == []) with
    | true => rw [h1] at hc; cases hc
    | false =>
      cases h2 : decide (32 < (s.length : Int)) with
      | true => rw [h1, h2] at hc; cases hc
      | false =>
        have : s ≠ [] := by simpa using h1
        have h3 : ¬ 32 < (s.length : Int) := by simpa using h2
        exact ⟨List.length_pos_iff.2 this, by omega⟩
theorem rName_word {s : List UInt8} (h : rName s = true) : ∀ b, b ∈ s → wordB b = true := by
  unfold rName at h
  cases hc : (cond (cond (s == []) true (decide (32 < (s.length : Int)))) true (ref01_Digit ((s.getD 0 0).toNat : Int))) with
  | true => rw [hc] at h; cases h
  | false => rw [hc] at h; exact List.all_eq_true.1 h

end Go.Proofs.Ytboofbgcdhjhnaa
