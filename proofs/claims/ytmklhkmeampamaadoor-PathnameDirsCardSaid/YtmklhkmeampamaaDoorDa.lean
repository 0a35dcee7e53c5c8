/-
  Pathname, plain: Dir splits after the last slash; the examples.
-/
import Derived.Test.YtmklhkmeampamaaDoorMs
import Derived.Test.YtmklhkmeampamaaDoorZ2
import Derived.Lib.LastIndexByte
import Derived.KernelRfl
namespace Go.Proofs.YtmklhkmeampamaaDoor
open Go.RT
set_option linter.all false

theorem gd {l : List UInt8} {i : Nat} (h : i < l.length) : l.getD i 0 = l[i] := by simp [List.getD, List.getElem?_eq_getElem h]
theorem sl_full {α : Type} (l : List α) (f : Nat) : sl l (f : Int) (l.length : Int) = l.drop f := by simp [sl]
theorem sl_zero {α : Type} (l : List α) (k : Nat) : sl l 0 (k : Int) = l.take k := by simp [sl]
theorem data_at (l : List UInt8) (j : Nat) : ((Array.mk l)[j]!) = l.getD j 0 := by
  simp [List.getD, getElem!_def]
  cases l[j]? <;> rfl
theorem b47 (b : UInt8) : ((b.toNat : Int) = 47) ↔ b = 47 := by
  have := u8lit b 47 (by omega)
  rw [Bool.eq_iff_iff] at this
  simpa using this
theorem lib_spec (s : List UInt8) : (Lib.lastIndexByte ⟨⟨s⟩⟩ 47 = -1 ∧ ∀ j, j < s.length → s.getD j 0 ≠ 47) ∨
    ∃ i : Nat, i < s.length ∧ Lib.lastIndexByte ⟨⟨s⟩⟩ 47 = i ∧ s.getD i 0 = 47 ∧ ∀ j, i < j → j < s.length → s.getD j 0 ≠ 47 := by
  have h := Lib.lastIdx_spec ⟨⟨s⟩⟩ 47 s.length
  simp only [ne_eq, b47, data_at] at h
  exact h
/-- The place behind the last slash. -/
def dirS (s : List UInt8) : Nat := (Lib.lastIndexByte ⟨⟨s⟩⟩ 47 + 1).toNat
theorem dir_int (s : List UInt8) : Lib.lastIndexByte ⟨⟨s⟩⟩ 47 + 1 = (dirS s : Int) := by
  unfold dirS
  rcases lib_spec s with ⟨e, -⟩ | ⟨i, -, e, -⟩ <;> rw [e] <;> omega
theorem dir_spec (s : List UInt8) : (dirS s = 0 ∨ (0 < dirS s ∧ dirS s ≤ s.length ∧ s.getD (dirS s - 1) 0 = 47)) ∧ ∀ j, dirS s ≤ j → j < s.length → s.getD j 0 ≠ 47 := by
  unfold dirS
  rcases lib_spec s with ⟨e, h⟩ | ⟨i, hi, e, h3, h4⟩
  · rw [e]; exact ⟨.inl rfl, fun j _ hj => h j hj⟩
  · rw [e]
    have e2 : ((i : Int) + 1).toNat = i + 1 := by omega
    rw [e2]
    exact ⟨.inr ⟨by omega, by omega, h3⟩, fun j h h' => h4 j (by omega) h'⟩
theorem dir_le (s : List UInt8) : dirS s ≤ s.length := by
  rcases (dir_spec s).1 with h | h <;> omega
theorem dir_unique (s : List UInt8) (a : Nat) (h1 : a = 0 ∨ (0 < a ∧ a ≤ s.length ∧ s.getD (a - 1) 0 = 47)) (h2 : ∀ j, a ≤ j → j < s.length → s.getD j 0 ≠ 47) : dirS s = a := by
  obtain ⟨g1, g2⟩ := dir_spec s
  rcases Nat.lt_trichotomy (dirS s) a with q | q | q
  · rcases h1 with h | ⟨k1, k2, k3⟩
    · omega
    · exact absurd k3 (g2 (a - 1) (by omega) (by omega))
  · exact q
  · rcases g1 with h | ⟨k1, k2, k3⟩
    · omega
    · exact absurd k3 (h2 (dirS s - 1) (by omega) (by omega))
theorem dir_eq (F : Nat) (s : List UInt8) (hs : s.length < 1000000000) : pathname_Dir F s = some (s.take (dirS s), s.drop (dirS s)) := by
  have hl := dir_le s
  have hd := dir_int s
  unfold pathname_Dir libF
  rw [rq1 (by omega), Option.bind_some, hd, w64_in (by omega), rq2 (by omega) (by omega), rq3 (by omega) (by omega) (by omega), sl_zero, sl_full]
theorem refDir_eq (F : Nat) (s : List UInt8) (hF : s.length < F) (hs : s.length < 1000000000) : ref20_Dir F s = some (s.take (dirS s), s.drop (dirS s)) := by
  unfold ref20_Dir
  refine loopF_hoare (fun x => ∃ a k : Nat, x.1 = (a : Int) ∧ x.2 = (k : Int) ∧ k ≤ s.length ∧ a ≤ k ∧ (a = 0 ∨ (0 < a ∧ a ≤ s.length ∧ s.getD (a - 1) 0 = 47)) ∧ ∀ j, a ≤ j → j < k → s.getD j 0 ≠ 47) (fun x => s.length - x.2.toNat) ?_ F _ ⟨0, 0, rfl, rfl, by omega, by omega, .inl rfl, fun j _ hj => by omega⟩ (by simpa using hF)
  rintro ⟨aa, ii⟩ ⟨a, k, h0, h0', h1, h1', h2, h3⟩
  dsimp only at h0 h0' ⊢
  subst h0 h0'
  by_cases hk : k < s.length
  · left
    have hg : s.getD k 0 = s[k] := gd hk
    cases hb : (s[k] == 47) with
    | true =>
      refine ⟨(((k + 1 : Nat) : Int), ((k + 1 : Nat) : Int)), ⟨k + 1, k + 1, rfl, rfl, by omega, by omega, .inr ⟨by omega, by omega, by rw [Nat.add_sub_cancel, hg]; exact eq_of_beq hb⟩, fun j h h' => by omega⟩, by simp; omega, fun rc => ?_⟩
      rw [ct (by omega), rq2 (by omega) (by omega), Int.toNat_natCast, hg, u8lit _ 47 (by omega), hb, cond_true, w64s (by omega)]
    | false =>
      have hb' : s.getD k 0 ≠ 47 := by rw [hg]; simpa using hb
      refine ⟨((a : Int), ((k + 1 : Nat) : Int)), ⟨a, k + 1, rfl, rfl, by omega, by omega, h2, fun j h h' => ?_⟩, by simp; omega, fun rc => ?_⟩
      · by_cases e : j = k
        · subst e; exact hb'
        · exact h3 j h (by omega)
      · rw [ct (by omega), rq2 (by omega) (by omega), Int.toNat_natCast, hg, u8lit _ 47 (by omega), hb, cond_false, w64s (by omega)]
  · right
    obtain rfl : k = s.length := by omega
    intro rc
    rw [cf (by omega), dir_unique s a h2 h3, rq2 (by omega) (by omega), rq3 (by omega) (by omega) (by omega), sl_zero, sl_full]
end Go.Proofs.YtmklhkmeampamaaDoor
