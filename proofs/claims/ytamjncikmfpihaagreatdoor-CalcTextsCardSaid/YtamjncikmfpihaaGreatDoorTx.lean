/-
  The plain law of CalcTexts.
-/
import Derived.Test.YtamjncikmfpihaaGreatDoorEk
import Derived.Test.YtamjncikmfpihaaGreatDoorPs
namespace Go.Proofs.YtamjncikmfpihaaGreatDoor
open Go.RT
set_option linter.all false
set_option maxRecDepth 100000

theorem Parse_both2 (s : List UInt8) (hs : s.length ≤ 4096) : ∃ x, (okTExpr x.1 ∧ nodes x.1 ≤ 10000) ∧ Evt fun F _ => arith_Parse F s = some x ∧ ref05_Parse F s = some x := by
  have hz : okTExpr zeroE ∧ nodes zeroE ≤ 10000 := ⟨ok_mk (by omega) (by omega) (by simp) (by simp) (by simp), by decide⟩
  by_cases h0 : skip s 0 < s.length
  · obtain ⟨r, d⟩ := D_expr s 0 (Nat.zero_le _)
    refine ⟨_, ?_, Parse_eq (by omega) h0 d⟩
    cases r with
    | err p c => exact hz
    | ok e j =>
      obtain ⟨ho, hn⟩ := D_ok (by omega) d (Nat.zero_le _) trivial
      obtain ⟨_, hj, _⟩ := D_pos d (Nat.zero_le _) trivial
      show okTExpr (cond (decide (skip s j < s.length)) (zeroE, (skip s j : Int), (6 : Int)) (cond (decide (32 < depthS e)) (zeroE, 0, 5) (e, 0, 0))).1 ∧ nodes (cond (decide (skip s j < s.length)) (zeroE, (skip s j : Int), (6 : Int)) (cond (decide (32 < depthS e)) (zeroE, 0, 5) (e, 0, 0))).1 ≤ 10000
      cases decide (skip s j < s.length) with
      | true => exact hz
      | false =>
        cases decide (32 < depthS e) with
        | true => exact hz
        | false =>
          have hn : nodes e + 0 ≤ j := hn
          exact ⟨ho, by show nodes e ≤ 10000; omega⟩
  · exact ⟨_, ⟨ok_mk (by omega) (by omega) (by simp) (by simp) (by simp), by decide⟩, Parse_blank (by omega) h0⟩

theorem calcTexts_plain (a0 : List UInt8) (a1 : List TBinding) : ∃ F, law06_CalcTexts F a0 a1 = some true := by
  have main : Evt fun F _ => law06_CalcTexts F a0 a1 = some true := by
    by_cases hs : ¬ 120 < a0.length ∧ fewS a1 = true
    · obtain ⟨k1, k2⟩ := few_ok hs.2
      obtain ⟨x, ⟨ho, hn⟩, hp⟩ := Parse_both2 a0 (by omega)
      have hlen := EvalS_len ho (l := a1) (by omega) k2 hn
      refine hp.map3 ((calc_Eval_eq ho (l := a1) (by omega) k2 hn).and (ref_Eval_eq ho (l := a1) (by omega) k2 hn)) (Evt.ge (p := fun F _ => 200000 ≤ F) 200000 fun F n h _ => h) fun F _ e1 e2 hF => ?_
      unfold law06_CalcTexts calc_Text ref06_Text
      simp only [TExpr.eta]
      rw [few_eq F a1 (by omega), hs.2, e1.1, e1.2, decide_eq_false (show ¬ 120 < (a0.length : Int) by omega)]
      simp only [Option.bind_some, e2.1, e2.2, cond_false, Bool.not_true]
      cases (x.2.2 != 0) with
      | true =>
        simp only [cond_true, Option.bind_some, beq_self_eq_true, awake60]
        rw [sameB_self F _ (by simp; omega) (by simp)]
        rfl
      | false =>
        simp only [cond_false, Option.bind_some, beq_self_eq_true, awake60, cond_true]
        rw [sameB_self F _ (by omega) (by omega)]
        rfl
    · refine Evt.ge 20 fun F _ hF _ => ?_
      unfold law06_CalcTexts
      rw [few_eq F a1 hF, awake60]
      by_cases h1 : 120 < a0.length
      · rw [decide_eq_true (show 120 < (a0.length : Int) by omega)]; rfl
      · rw [decide_eq_false (show ¬ 120 < (a0.length : Int) by omega)]
        cases h2 : fewS a1 with
        | false => rfl
        | true => exact absurd ⟨h1, h2⟩ hs
  obtain ⟨F, h⟩ := main.diag
  exact ⟨F, h⟩
end Go.Proofs.YtamjncikmfpihaaGreatDoor
