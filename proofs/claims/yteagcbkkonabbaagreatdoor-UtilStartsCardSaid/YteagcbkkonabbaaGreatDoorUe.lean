/-
  UtilStarts: the names of utilities, Start.
-/
import Derived.Test.YteagcbkkonabbaaGreatDoorUa
namespace Go.Proofs.YteagcbkkonabbaaGreatDoor
open Go.RT
set_option linter.all false

theorem srch_has (p : List UInt8 → Bool) : ∀ (l : List (List UInt8)) (i : Nat), ((srch p (fun i _ => some (i : Int)) (some (-1 : Int)) l i).bind fun x1 => some (decide (0 ≤ x1))) = some (l.any p)
  | [], i => rfl
  | a :: l, i => by
    simp only [srch, List.any_cons]
    cases h : p a
    · rw [cond_false, srch_has p l]; rfl
    · rw [cond_true, Option.bind_some, dT (by omega)]; rfl
theorem contains_eq (F : Nat) (l : List (List UInt8)) (x : List UInt8) (hF : l.length < F) (hl : l.length ≤ 1000000) : slices_Contains F l x = some (l.any fun y => x == y) := by
  unfold slices_Contains slices_Index
  rw [loopF_srch l (fun i => (i : Int)) (fun y => x == y) (fun i _ => some (i : Int)) (some (-1)) (s := (0 : Int)) hF rfl (fun i h rc => ?_) (fun rc => ?_)]
  · exact srch_has _ l 0
  · rw [ct (by omega), rq2 (by omega) (by omega), Int.toNat_natCast, gd h, w64_nat (by omega)]
  · rw [cf (by omega)]
theorem known_eq (F : Nat) (x : List UInt8) (hF : 40 ≤ F) : util_Known F x = some (tab0.any fun y => x == y) := by
  unfold util_Known
  rw [rq_true (c := Nat.beq tab0.length 28) rfl, show (tab0.take 28).drop 0 = tab0 from rfl, contains_eq F tab0 x (by show 28 < F; omega) (by show 28 ≤ 1000000; omega)]
  rfl
theorem refKnown_eq (F : Nat) (x : List UInt8) (hF : 40 ≤ F) : ref31_Known F x = some (tab0.any fun y => x == y) := by
  unfold ref31_Known
  refine (loopF_srch tab0 (fun i => (i : Int)) (fun y => y == x) (fun _ _ => some true) (some false) (by show 28 < F; omega) rfl (fun i h rc => ?_) (fun rc => ?_)).trans ?_
  · show cond (decide ((i : Int) < (tab0.length : Int))) (rq (decide (0 ≤ (i : Int)) && decide ((i : Int) < (tab0.length : Int))) (cond (tab0.getD (Int.toNat (i : Int)) [] == x) (some true) (rc (w64 ((i : Int) + 1))))) (some false) = _
    have h' : i < 28 := h
    rw [ct (by omega), rq2 (by omega) (by omega), Int.toNat_natCast, gd h, w64_nat (by omega)]
  · show cond (decide (((28 : Nat) : Int) < (tab0.length : Int))) _ _ = _
    rw [cf (by show ¬ ((28 : Nat) : Int) < ((28 : Nat) : Int); omega)]
  · rw [srch_any]
    have : (tab0.any fun y => y == x) = tab0.any fun y => x == y := by
      congr 1
      funext y
      exact BEq.comm
    rw [this]
    cases tab0.any fun y => x == y <;> rfl
theorem short_eq (F : Nat) (l : List (List UInt8)) (hF : 30 ≤ F) : ∃ b, law31_short F l = some b ∧ (b = true → l.length ≤ 20) := by
  unfold law31_short
  refine (loopF_post (fun b => b = true → l.length ≤ 20) (fun s => ∃ i : Nat, s = (i : Int) ∧ i ≤ 20 ∧ i ≤ l.length) (fun s => 20 - s.toNat) (fun s hs => ?_) F 0 ⟨0, rfl, by omega, by omega⟩ (by show 20 - 0 < F; omega)).imp fun b h => ⟨h.2, h.1⟩
  obtain ⟨i, rfl, hi, hil⟩ := hs
  by_cases h1 : i < l.length
  · by_cases h2 : i < 20
    · by_cases h3 : 200 < ((l.getD i []).length : Int)
      · refine .inr ⟨false, (fun h => by cases h), fun rc => ?_⟩
        rw [ct (by omega), Option.bind_some, ct (by omega), rq2 (by omega) (by omega), Int.toNat_natCast, ct h3]
      · refine .inl ⟨((i + 1 : Nat) : Int), ⟨i + 1, rfl, by omega, by omega⟩, by simp only [Int.toNat_natCast]; omega, fun rc => ?_⟩
        rw [ct (by omega), Option.bind_some, ct (by omega), rq2 (by omega) (by omega), Int.toNat_natCast, cf h3, w64_nat (by omega)]
    · refine .inr ⟨decide ((l.length : Int) ≤ 20), (fun h => by have := of_decide_eq_true h; omega), fun rc => ?_⟩
      rw [ct (by omega), Option.bind_some, cf (by omega)]
  · refine .inr ⟨decide ((l.length : Int) ≤ 20), (fun h => by have := of_decide_eq_true h; omega), fun rc => ?_⟩
    rw [cf (by omega), Option.bind_some, cond_false]
theorem texts_self (F : Nat) (l : List (List UInt8)) (hF : l.length < F) (hl : l.length ≤ 1000000) : ref31_Texts F l l = some true := by
  unfold ref31_Texts
  have e : ((l.length : Int) != (l.length : Int)) = false := by simp
  rw [e, cond_false]
  refine loopF_seq (fun i => (i : Int)) l.length hF rfl (fun i rc hi => ?_) (fun rc => ?_)
  · rw [ct (by omega), rq2 (by omega) (by omega), rq2 (by omega) (by omega)]
    have e2 : (l.getD (Int.toNat (i : Int)) [] == l.getD (Int.toNat (i : Int)) []) = true := beq_self_eq_true _
    rw [e2, Bool.not_true, cond_false, w64_nat (by omega)]
  · rw [cf (by omega)]

theorem utilStarts (a0 : List UInt8) (a1 a2 : List (List UInt8)) : ∃ F, law31_UtilStarts F a0 a1 a2 = some true := by
  refine ⟨100, ?_⟩
  unfold law31_UtilStarts
  rw [awake_ok]
  obtain ⟨b1, e1, h1⟩ := short_eq 100 a1 (by omega)
  obtain ⟨b2, e2, h2⟩ := short_eq 100 a2 (by omega)
  rw [e1, e2, Option.bind_some, Option.bind_some]
  by_cases h : (200 : Int) < (a0.length : Int)
  · rw [ct h]; rfl
  rw [cf h, Option.bind_some]
  cases b1 with
  | false => rfl
  | true =>
    cases b2 with
    | false => rfl
    | true =>
      have h1 := h1 rfl
      have h2 := h2 rfl
      simp only [Bool.not_true, cond_false, Option.bind_some]
      have hs : ∃ u b, util_Start 100 a1 a2 = some (u, b) ∧ (∃ v, ref31_Start 100 a1 a2 = some (v, b)) ∧ (b = true → 0 < a1.length ∧ u.fName = a1.getD 0 [] ∧ u.fArgs = a1 ∧ u.fEnv = a2) := by
        unfold util_Start ref31_Start
        by_cases h0 : a1.length = 0
        · have e0 : ((a1.length : Int) == 0) = true := by rw [h0]; rfl
          rw [e0]
          exact ⟨_, false, rfl, ⟨_, rfl⟩, (fun h => by cases h)⟩
        · have e0 : ((a1.length : Int) == 0) = false := beq_false_of_ne (by omega)
          have hq : ∀ {R : Type} (k : Option R), rq (decide ((0 : Int) < (a1.length : Int))) k = k := fun k => rq1 (by omega)
          rw [e0]
          simp only [cond_false, hq, known_eq 100 _ (show 40 ≤ 100 by omega), refKnown_eq 100 _ (show 40 ≤ 100 by omega)]
          cases hk : tab0.any fun y => a1.getD 0 [] == y
          · exact ⟨_, false, rfl, ⟨_, rfl⟩, (fun h => by cases h)⟩
          · simp only [Option.bind_some, Bool.not_true, cond_false]
            rw [clone_ok (by unfold okL; omega), Option.bind_some, clone_ok (by unfold okL; omega), Option.bind_some]
            exact ⟨_, true, rfl, ⟨_, rfl⟩, fun _ => ⟨by omega, rfl, rfl, rfl⟩⟩
      obtain ⟨u, b, hu, ⟨v, hv⟩, hb⟩ := hs
      rw [hu, Option.bind_some, hv, Option.bind_some, known_eq 100 _ (by omega), Option.bind_some, refKnown_eq 100 _ (by omega), Option.bind_some]
      have e3 : ∀ b : Bool, (b == b) = true := fun b => by cases b <;> rfl
      simp only [e3, Bool.not_true, cond_false, Option.bind_some]
      cases b with
      | false => rfl
      | true =>
        obtain ⟨q1, q2, q3, q4⟩ := hb rfl
        simp only [Bool.not_true, cond_false]
        have e4 : (u.fName == a1.getD 0 []) = true := by rw [q2]; exact beq_self_eq_true _
        rw [rq1 (by omega), e4, cond_true, q3, texts_self 100 a1 (by omega) (by omega), q4, texts_self 100 a2 (by omega) (by omega)]
        rfl

end Go.Proofs.YteagcbkkonabbaaGreatDoor
