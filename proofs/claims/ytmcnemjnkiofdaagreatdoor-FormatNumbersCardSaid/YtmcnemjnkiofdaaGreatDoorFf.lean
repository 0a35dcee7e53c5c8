/-
  Format: the plain laws of FormatEnds and FormatPlain.
-/
import Derived.Test.YtmcnemjnkiofdaaGreatDoorFe
namespace Go.Proofs.YtmcnemjnkiofdaaGreatDoor
open Go.RT
set_option linter.all false
set_option maxRecDepth 100000

theorem awake60 : law30_awake 60 = some true := by kernel_rfl
theorem short_eq (F : Nat) (l : List (List UInt8)) (n m : Nat) (hl : l.length ≤ 9223372036854775807) (hn : n ≤ 1000) (hF : l.length + 2 < F) :
    ∃ r, (r = true → l.length ≤ n ∧ ∀ a ∈ l, a.length ≤ m) ∧ ref03_Short F l (n : Int) (m : Int) = some r := by
  unfold ref03_Short
  refine loopF_post (fun r => r = true → l.length ≤ n ∧ ∀ a ∈ l, a.length ≤ m) (fun st => ∃ i : Nat, st = (i : Int) ∧ i ≤ l.length ∧ ∀ j (h : j < l.length), j < i → l[j].length ≤ m) (fun st => l.length - st.toNat) ?_ F 0 ⟨0, rfl, Nat.zero_le _, fun j _ h => by omega⟩ (by simp; omega)
  rintro st ⟨i, rfl, hi, hall⟩
  have over : ¬ (i < l.length ∧ i ≤ n) → ∃ r, (r = true → l.length ≤ n ∧ ∀ a ∈ l, a.length ≤ m) ∧ some (decide ((l.length : Int) ≤ (n : Int))) = some r := by
    intro hc
    refine ⟨_, fun h => ?_, rfl⟩
    rw [decide_eq_true_eq] at h
    refine ⟨by omega, fun a ha => ?_⟩
    obtain ⟨j, hj, rfl⟩ := List.getElem_of_mem ha
    exact hall j hj (by omega)
  by_cases h1 : i < l.length
  · by_cases h2 : i ≤ n
    · by_cases h3 : m < l[i].length
      · refine .inr ⟨false, (fun h => nomatch h), fun rc => ?_⟩
        simp only [dT (show (i : Int) < (l.length : Int) by omega), dT (show (i : Int) ≤ (n : Int) by omega), cond_true, Option.bind_some, dnn, Bool.and_self, rq_tt, Int.toNat_natCast, gd h1]
        rw [ct (by omega)]
      · refine .inl ⟨((i + 1 : Nat) : Int), ⟨i + 1, rfl, by omega, fun j hj h => ?_⟩, by simp; omega, fun rc => ?_⟩
        · rcases Nat.lt_or_ge j i with h' | h'
          · exact hall j hj h'
          · obtain rfl : j = i := by omega
            omega
        · simp only [dT (show (i : Int) < (l.length : Int) by omega), dT (show (i : Int) ≤ (n : Int) by omega), cond_true, Option.bind_some, dnn, Bool.and_self, rq_tt, Int.toNat_natCast, gd h1]
          rw [cf (by omega), w64s (by omega)]
    · obtain ⟨r, q1, q2⟩ := over (by omega)
      refine .inr ⟨r, q1, fun rc => ?_⟩
      simp only [dT (show (i : Int) < (l.length : Int) by omega), dF (show ¬ (i : Int) ≤ (n : Int) by omega), cond_true, cond_false, Option.bind_some]
      exact q2
  · obtain ⟨r, q1, q2⟩ := over (by omega)
    refine .inr ⟨r, q1, fun rc => ?_⟩
    simp only [dF (show ¬ (i : Int) < (l.length : Int) by omega), cond_false, Option.bind_some]
    exact q2

theorem prS_facts (args : List (List UInt8)) (h : ∀ a ∈ args, a.length ≤ 60) :
    (((prS args).2.2 == 0) == ((prS args).2.1 == [])) = true ∧ 0 ≤ (prS args).2.2 ∧ (prS args).2.2 ≤ 2 ∧ (((prS args).2.2 == 2) == ((args.length : Int) == 0)) = true ∧ (prS args).1.length ≤ 65536 := by
  unfold prS
  cases args with
  | nil => exact ⟨rfl, by decide, by decide, rfl, by decide⟩
  | cons f l =>
    have hok := prN_ok (l.length + 1) f ⟨[], l, false, false, []⟩ ⟨by simp, fun a ha => h a (by simp [ha])⟩
    have hne : (((f :: l).length : Int) == 0) = false := by rw [beq_eq_false_iff_ne]; simp; omega
    dsimp only
    rw [hne]
    generalize prN (l.length + 1) f ⟨[], l, false, false, []⟩ = q at hok
    unfold outS
    cases hm : (q.msg == []) with
    | true => exact ⟨rfl, (show (0 : Int) ≤ 0 by decide), (show (0 : Int) ≤ 2 by decide), rfl, hok.o⟩
    | false => exact ⟨by show ((false : Bool) == (q.msg == [])) = true; rw [hm]; rfl, (show (0 : Int) ≤ 1 by decide), (show (1 : Int) ≤ 2 by decide), rfl, hok.o⟩
/-! ### %s -/
abbrev pS : List UInt8 := [37, 115]
theorem readS_s : readS pS = some (⟨false, false, false, 0, -1, 115⟩, 2) := by decide +kernel
theorem padS_0 (x : Sp) (hw : x.w = 0) (sg s : List UInt8) : padS x sg s = sg ++ s := by unfold padS; rw [hw, ct (by omega)]
theorem pass_s (p : St) (he : p.ended = false) (h : p.o.length + (nextS p).1.length ≤ 65536) : passN pS.length pS p = { (nextS p).2 with o := p.o ++ (nextS p).1 } := by
  have ho : (nextS p).2.o = p.o := by unfold nextS; cases p.ops <;> rfl
  have hen : (nextS p).2.ended = false := by unfold nextS; cases p.ops <;> exact he
  have hst : stepS pS p = ({ (nextS p).2 with o := p.o ++ (nextS p).1 }, 2) := by
    unfold stepS
    rw [readS_s]
    show (putS (padS ⟨false, false, false, 0, -1, 115⟩ [] (cutS (-1) (nextS p).1)) (nextS p).2, 2) = _
    rw [padS_0 _ rfl]
    show (putS (nextS p).1 (nextS p).2, 2) = _
    unfold putS
    rw [ho, cf (by omega)]
  rw [passN_cons (by decide) (Nat.le_refl _), hst]
  dsimp only
  rw [hen]
  rfl
theorem prN_s : ∀ (l : List (List UInt8)) (k : Nat) (o : List UInt8) (u : Bool), l.length ≤ k → o.length + l.flatten.length ≤ 65536 → (prN (k + 1) pS ⟨o, l, u, false, []⟩).o = o ++ l.flatten ∧ (prN (k + 1) pS ⟨o, l, u, false, []⟩).msg = []
  | [], k, o, u, hk, h => by
    unfold prN
    have := pass_s ⟨o, [], false, false, []⟩ rfl (by simpa [nextS] using h)
    simp only [nextS] at this
    simp only [this]
    simp
  | a :: r, k, o, u, hk, h => by
    simp only [List.flatten_cons, List.length_append] at h
    have := pass_s ⟨o, a :: r, false, false, []⟩ rfl (by simp [nextS]; omega)
    simp only [nextS] at this
    unfold prN
    simp only [this]
    cases r with
    | nil => simp
    | cons b r =>
      have e : ((b :: r).length == 0) = false := rfl
      simp only [e, Bool.not_true, Bool.or_self, cond_false]
      cases k with
      | zero => simp at hk
      | succ k =>
        have ih := prN_s (b :: r) k (o ++ a) true (by simpa using hk) (by simp at h ⊢; omega)
        rw [ih.1, ih.2]
        simp
theorem flat_len (l : List (List UInt8)) (n : Nat) (h : ∀ a ∈ l, a.length ≤ n) : l.flatten.length ≤ n * l.length := by
  induction l with
  | nil => simp
  | cons a l ih =>
    have h1 := h a (by simp)
    have h2 := ih fun b hb => h b (by simp [hb])
    simp only [List.flatten_cons, List.length_append, List.length_cons, Nat.mul_succ]
    omega
theorem prS_s (l : List (List UInt8)) (h : ∀ a ∈ l, a.length ≤ 60) (hl : l.length ≤ 8) : prS (pS :: l) = (l.flatten, [], 0) := by
  have hf := flat_len l 60 h
  obtain ⟨q1, q2⟩ := prN_s l l.length [] false (Nat.le_refl _) (by rw [List.length_nil]; omega)
  unfold prS outS
  dsimp only
  rw [q1, q2]
  rfl
theorem prS_plain (s : List UInt8) (l : List (List UInt8)) (hs : s.length ≤ 60) (h : ∀ b ∈ s, b ≠ 37 ∧ b ≠ 92) : prS (s :: l) = (s, [], 0) := by
  have hrun := pass_run s.length s.length s ⟨[], l, false, false, []⟩ (fun j hj => by
    have := h (s.getD j 0) (by rw [gd hj]; exact List.getElem_mem hj)
    exact ord_other this.1 this.2) (Nat.le_refl _) (Nat.le_refl _) (by simp) rfl
  have hpl : plainS (s.take s.length) ⟨[], l, false, false, []⟩ = ⟨s, l, false, false, []⟩ := by
    unfold plainS
    rw [List.take_length, cf (by simp; omega)]
    simp
  rw [hpl, List.drop_length, Nat.sub_self] at hrun
  show outS (cond ((passN s.length s ⟨[], l, false, false, []⟩).ended || (!(passN s.length s ⟨[], l, false, false, []⟩).used || (passN s.length s ⟨[], l, false, false, []⟩).ops.length == 0)) (passN s.length s ⟨[], l, false, false, []⟩) (prN l.length s (passN s.length s ⟨[], l, false, false, []⟩))) = _
  rw [hrun]
  rfl
end Go.Proofs.YtmcnemjnkiofdaaGreatDoor
