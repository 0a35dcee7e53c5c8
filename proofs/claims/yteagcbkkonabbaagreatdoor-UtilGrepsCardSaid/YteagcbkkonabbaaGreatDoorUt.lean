/-
  Plain lemmas on UTF-8: runes of a string by offset, runes as strings. No program is named here.
-/
import Derived.Test.YteagcbkkonabbaaGreatDoorEw
namespace Go.RT
set_option linter.all false

theorem get_at (l : List UInt8) (k : Nat) : (ByteArray.mk ⟨l⟩).get! k = l.getD k 0 := by
  simp [ByteArray.get!, List.getD, getElem!_def]
  cases l[k]? <;> rfl
theorem dec_ascii {l : List UInt8} {p : Nat} (h : (l.getD p 0).toNat < 128) : dec l p = ((l.getD p 0).toNat, 1) := by
  unfold dec Utf8.decode
  simp only [get_at, Nat.add_zero]
  rw [if_pos h]
theorem size_mk (l : List UInt8) : (ByteArray.mk ⟨l⟩).size = l.length := rfl
/-- Bytes from 128 on: the rune is from 128 on, and so are all its bytes. -/
theorem dec_span {l : List UInt8} {p : Nat} (h : ¬ (l.getD p 0).toNat < 128) : 128 ≤ (dec l p).1 ∧ 1 ≤ (dec l p).2 ∧ (p < l.length → p + (dec l p).2 ≤ l.length) ∧ ∀ k, k < (dec l p).2 → 128 ≤ (l.getD (p + k) 0).toNat := by
  unfold dec Utf8.decode
  simp only [get_at, Nat.add_zero, size_mk]
  rw [if_neg h]
  split
  · rename_i h1
    simp only [Bool.and_eq_true, beq_iff_eq, decide_eq_true_eq] at h1
    split
    · refine ⟨by dsimp only; omega, by dsimp only; omega, fun _ => by dsimp only; omega, fun k hk => ?_⟩
      have : k = 0 ∨ k = 1 := by dsimp only at hk; omega
      rcases this with rfl | rfl
      · rw [Nat.add_zero]; omega
      · omega
    · exact ⟨by decide, by decide, fun _ => by dsimp only; omega, fun k hk => by (have e : k = 0 := by dsimp only at hk; omega); subst e; rw [Nat.add_zero]; omega⟩
  · split
    · rename_i h1
      simp only [Bool.and_eq_true, beq_iff_eq, decide_eq_true_eq] at h1
      split
      · rename_i h2
        simp only [Bool.and_eq_true, decide_eq_true_eq] at h2
        refine ⟨by dsimp only; omega, by dsimp only; omega, fun _ => by dsimp only; omega, fun k hk => ?_⟩
        have : k = 0 ∨ k = 1 ∨ k = 2 := by dsimp only at hk; omega
        rcases this with rfl | rfl | rfl
        · rw [Nat.add_zero]; omega
        · omega
        · omega
      · exact ⟨by decide, by decide, fun _ => by dsimp only; omega, fun k hk => by (have e : k = 0 := by dsimp only at hk; omega); subst e; rw [Nat.add_zero]; omega⟩
    · split
      · rename_i h1
        simp only [Bool.and_eq_true, beq_iff_eq, decide_eq_true_eq] at h1
        split
        · rename_i h2
          simp only [Bool.and_eq_true, decide_eq_true_eq] at h2
          refine ⟨by dsimp only; omega, by dsimp only; omega, fun _ => by dsimp only; omega, fun k hk => ?_⟩
          have : k = 0 ∨ k = 1 ∨ k = 2 ∨ k = 3 := by dsimp only at hk; omega
          rcases this with rfl | rfl | rfl | rfl
          · rw [Nat.add_zero]; omega
          · omega
          · omega
          · omega
        · exact ⟨by decide, by decide, fun _ => by dsimp only; omega, fun k hk => by (have e : k = 0 := by dsimp only at hk; omega); subst e; rw [Nat.add_zero]; omega⟩
      · exact ⟨by decide, by decide, fun _ => by dsimp only; omega, fun k hk => by (have e : k = 0 := by dsimp only at hk; omega); subst e; rw [Nat.add_zero]; omega⟩

def encN (c : Nat) : List UInt8 :=
  if c < 128 then [UInt8.ofNat c]
  else if c < 2048 then [UInt8.ofNat (192 + c / 64), UInt8.ofNat (128 + c % 64)]
  else if c < 65536 then [UInt8.ofNat (224 + c / 4096), UInt8.ofNat (128 + c / 64 % 64), UInt8.ofNat (128 + c % 64)]
  else [UInt8.ofNat (240 + c / 262144), UInt8.ofNat (128 + c / 4096 % 64), UInt8.ofNat (128 + c / 64 % 64), UInt8.ofNat (128 + c % 64)]
theorem runeStr_eq (r : Int) : runeStr r = encN (if Utf8.valid r = true then r.toNat else Utf8.runeError) := by
  unfold runeStr Utf8.encode encN
  generalize (if Utf8.valid r = true then r.toNat else Utf8.runeError) = c
  dsimp only
  by_cases h1 : c < 128
  · rw [if_pos h1, if_pos h1]
  · rw [if_neg h1, if_neg h1]
    by_cases h2 : c < 2048
    · rw [if_pos h2, if_pos h2]
    · rw [if_neg h2, if_neg h2]
      by_cases h3 : c < 65536
      · rw [if_pos h3, if_pos h3]
      · rw [if_neg h3, if_neg h3]
theorem encN_big {c : Nat} (h : 128 ≤ c) : 2 ≤ (encN c).length ∧ (encN c).length ≤ 4 ∧ 128 ≤ ((encN c).getD ((encN c).length - 1) 0).toNat := by
  have hb : (UInt8.ofNat (128 + c % 64)).toNat = 128 + c % 64 := by
    rw [UInt8.toNat_ofNat']
    exact Nat.mod_eq_of_lt (by omega)
  have h1 : ¬ c < 128 := by omega
  unfold encN
  rw [if_neg h1]
  by_cases h2 : c < 2048
  · rw [if_pos h2]
    refine ⟨by simp, by simp, ?_⟩
    show 128 ≤ (UInt8.ofNat (128 + c % 64)).toNat
    omega
  · rw [if_neg h2]
    by_cases h3 : c < 65536
    · rw [if_pos h3]
      refine ⟨by simp, by simp, ?_⟩
      show 128 ≤ (UInt8.ofNat (128 + c % 64)).toNat
      omega
    · rw [if_neg h3]
      refine ⟨by simp, by simp, ?_⟩
      show 128 ≤ (UInt8.ofNat (128 + c % 64)).toNat
      omega
/-- A rune from 128 on, as a string: two to four bytes, the last one from 128 on. -/
theorem runeStr_big {r : Nat} (h : 128 ≤ r) : 2 ≤ (runeStr (r : Int)).length ∧ (runeStr (r : Int)).length ≤ 4 ∧ 128 ≤ ((runeStr (r : Int)).getD ((runeStr (r : Int)).length - 1) 0).toNat := by
  rw [runeStr_eq]
  apply encN_big
  by_cases hv : Utf8.valid (r : Int) = true
  · rw [if_pos hv]; omega
  · rw [if_neg hv, Utf8.runeError]; omega
end Go.RT
