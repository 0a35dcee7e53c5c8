import Derived.Test.YteagcbkkonabbaaGreatDoorEw
namespace Go.RT
set_option linter.all false
theorem get_at (l : List UInt8) (k : Nat) : (ByteArray.mk ⟨l⟩).get! k = l.getD k 0 := by
  simp [ByteArray.get!, List.getD, getElem!_def]
  cases l[k]? <;> rfl
theorem dec_ascii {l : List UInt8} {p : Nat} (h : (l.getD p 0).toNat < 128) : dec l p = ((l.getD p 0).toNat, 1) := by
  unfold dec Utf8.decode
  simp only [get_at, Nat.add_zero]
  rw [if_pos h]
theorem size_mk (l : List UInt8) : (ByteArray.mk ⟨l⟩).size = l.length := rfl
theorem dec_span {l : List UInt8} {p : Nat} (h : ¬ (l.getD p 0).toNat < 128) : 128 ≤ (dec l p).1 ∧ 1 ≤ (dec l p).2 ∧ (p < l.length → p + (dec l p).2 ≤ l.length) ∧ ∀ k, k < (dec l p).2 → 128 ≤ (l.getD (p + k) 0).toNat := by
  unfold dec Utf8.decode
  simp only [get_at, Nat.add_zero, size_mk]
  rw [if_neg h]
  split
  · rename_i h1
    simp only [Bool.and_eq_true, beq_iff_eq, decide_eq_true_eq] at h1
    split
    · refine ⟨by dsimp only; omega, by dsimp only; omega, fun _ => by dsimp only; omega, fun k hk => ?_⟩
      have : k = 0 ∨ k = 1 := by dsimp only at hk; omega
      rcases this with rfl | rfl
      · rw [Nat.add_zero]; omega
      · omega
    · exact ⟨by decide, by decide, fun _ => by dsimp only; omega, fun k hk => by (have e : k = 0 := by dsimp only at hk; omega); subst e; rw [Nat.add_zero]; omega⟩
  · split
    · rename_i h1
      simp only [Bool.and_eq_true, beq_iff_eq, decide_eq_true_eq] at h1
      split
      · rename_i h2
        simp only [Bool.and_eq_true, decide_eq_true_eq] at h2
        refine ⟨by dsimp only; omega, by dsimp only; omega, fun _ => by dsimp only; omega, fun k hk => ?_⟩
        have : k = 0 ∨ k = 1 ∨ k = 2 := by dsimp only at hk; omega
        rcases this with rfl | rfl | rfl
        · rw [Nat.add_zero]; omega
        · omega
        · omega
      · exact ⟨by decide, by decide, fun _ => by dsimp only; omega, fun k hk => by (have e : k = 0 := by dsimp only at hk; omega); subst e; rw [Nat.add_zero]; omega⟩
    · split
      · rename_i h1
        simp only [Bool.and_eq_true, beq_iff_eq, decide_eq_true_eq] at h1
        split
        · rename_i h2
          simp only [Bool.and_eq_true, decide_eq_true_eq] at h2
          refine ⟨by dsimp only; omega, by dsimp only; omega, fun _ => by dsimp only; omega, fun k hk => ?_⟩
          have : k = 0 ∨ k = 1 ∨ k = 2 ∨ k = 3 := by dsimp only at hk; omega
          rcases this with rfl | rfl | rfl | rfl
          · rw [Nat.add_zero]; omega
          · omega
          · omega
          · omega
        · exact ⟨by decide, by decide, fun _ => by dsimp only; omega, fun k hk => by (have e : k = 0 := by dsimp only at hk; omega); subst e; rw [Nat.add_zero]; omega⟩
      · exact ⟨by decide, by decide, fun _ => by dsimp only; omega, fun k hk => by (have e : k = 0 := by dsimp only at hk; omega); subst e; rw [Nat.add_zero]; omega⟩
end Go.RT
