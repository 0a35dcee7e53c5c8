/-
  The plain laws of CalcDivides and CalcCompares.
-/
import Derived.Test.YtamjncikmfpihaaGreatDoorAs
namespace Go.Proofs.YtamjncikmfpihaaGreatDoor
open Go.RT
set_option linter.all false
set_option maxRecDepth 100000

def opd (op : Int) : Prop := op = 7 ∨ op = 8 ∨ op = 9 ∨ op = 10 ∨ op = 11 ∨ op = 12 ∨ op = 14 ∨ op = 15 ∨ op = 16 ∨ op = 17 ∨ op = 18 ∨ op = 19
def vTree (op : Int) : TExpr := .mk op 0 [] [.mk 2 0 [97] [], .mk 2 0 [98] []]
def vEnv (a b : Int) : List TBinding := [⟨[97], Lib.itoa a⟩, ⟨[98], Lib.itoa b⟩]
theorem vTree_ok {op : Int} (h : opd op) : okTExpr (vTree op) ∧ validS (vTree op) 0 = 0 ∧ nodes (vTree op) ≤ 10000 := by
  have h1 : okTExpr (.mk 2 0 [97] []) := ok_var (by decide)
  have h2 : okTExpr (.mk 2 0 [98] []) := ok_var (by decide)
  refine ⟨?_, ?_, ?_⟩
  · refine .mk op 0 [] _ ?_ (by decide) (by decide) (by decide) ?_
    · rcases h with rfl | rfl | rfl | rfl | rfl | rfl | rfl | rfl | rfl | rfl | rfl | rfl <;> decide
    · intro x hx
      simp only [List.mem_cons, List.not_mem_nil, or_false] at hx
      rcases hx with rfl | rfl
      · exact h1
      · exact h2
  · rcases h with rfl | rfl | rfl | rfl | rfl | rfl | rfl | rfl | rfl | rfl | rfl | rfl <;> rfl
  · simp only [vTree, nodes, nodesL]; omega
theorem vEnv_get (a b : Int) : mget keq (envOf (vEnv a b)) [97] [] = Lib.itoa a ∧ mget keq (envOf (vEnv a b)) [98] [] = Lib.itoa b := by
  unfold vEnv envOf
  simp only [List.foldl_cons, List.foldl_nil]
  exact ⟨rfl, rfl⟩
theorem vEval {op a b : Int} (h : opd op) (ha : R64 a) (hb : R64 b) : (EvalS (vTree op) (vEnv a b)).1 = (cBin op a b).1 ∧ (EvalS (vTree op) (vEnv a b)).2.2 = (cBin op a b).2 := by
  obtain ⟨h1, h2, h3⟩ := vTree_ok h
  obtain ⟨g1, g2⟩ := vEnv_get a b
  have hev : evS (vTree op) (envOf (vEnv a b)) = ((cBin op a b).1, (cBin op a b).2, envOf (vEnv a b)) := by
    have k1 : evS (.mk 2 0 [97] []) (envOf (vEnv a b)) = (a, 0, envOf (vEnv a b)) := by
      show cVar [97] (envOf (vEnv a b)) = _
      unfold cVar
      rw [g1, intS_itoa ha]
      rfl
    have k2 : evS (.mk 2 0 [98] []) (envOf (vEnv a b)) = (b, 0, envOf (vEnv a b)) := by
      show cVar [98] (envOf (vEnv a b)) = _
      unfold cVar
      rw [g2, intS_itoa hb]
      rfl
    have k3 : evS (vTree op) (envOf (vEnv a b)) = evB op 0 [] [evS (.mk 2 0 [97] []), evS (.mk 2 0 [98] [])] (envOf (vEnv a b)) := rfl
    rw [k3]
    unfold evB
    simp only [List.getD_cons_zero, List.getD_cons_succ]
    rw [k1]
    simp only [k2]
    rcases h with rfl | rfl | rfl | rfl | rfl | rfl | rfl | rfl | rfl | rfl | rfl | rfl <;> rfl
  unfold EvalS
  rw [h2, hev]
  simp only [bne_self_eq_false, cond_false]
  rcases cBin_err op a b with h | h
  · rw [h]; exact ⟨rfl, rfl⟩
  · rw [h]; exact ⟨rfl, rfl⟩
theorem value_eq2 {op a b : Int} (h : opd op) (ha : R64 a) (hb : R64 b) : Evt fun F _ => law06_value F op a b = some (cBin op a b) := by
  obtain ⟨h1, h2, h3⟩ := vTree_ok h
  have hbn : Bnds (vEnv a b) := by
    intro x hx
    simp only [vEnv, List.mem_cons, List.not_mem_nil, or_false] at hx
    rcases hx with rfl | rfl
    · exact ⟨show 1 ≤ 60 by decide, itoa_len60 ha⟩
    · exact ⟨show 1 ≤ 60 by decide, itoa_len60 hb⟩
  refine (calc_Eval_eq h1 (l := vEnv a b) (by simp [vEnv]) hbn h3).map2 (Evt.ge (p := fun F _ => 30 ≤ F) 30 fun F n h _ => h) fun F _ e1 hF => ?_
  obtain ⟨k1, k2⟩ := vEval h ha hb
  unfold law06_value
  rw [dec_eq F hF ha, dec_eq F hF hb]
  simp only [Option.bind_some]
  show ((calc_Eval F (vTree op) (vEnv a b)).bind _) = _
  rw [e1]
  simp only [Option.bind_some, k1, k2]

theorem divides {a b : Int} (ha : R64 a) (hb : R64 b) (h0 : b ≠ 0) :
    w64 (w64 (w64 (Int.tdiv a b) * b) + Int.tmod a b) = a ∧ w64 (a - Int.tmod a b) = w64 (w64 (Int.tdiv a b) * b) ∧ w64 (b * w64 (Int.tdiv a b)) = w64 (w64 (Int.tdiv a b) * b) ∧ (Int.tmod a b = 0 ∨ (decide (Int.tmod a b < 0) = decide (a < 0))) := by
  unfold R64 at ha hb
  by_cases hm : a = -9223372036854775808 ∧ b = -1
  · obtain ⟨rfl, rfl⟩ := hm; decide
  have hdm := Int.mul_tdiv_add_tmod a b
  have hmr := tmod_rng b (a := a) ha
  unfold R64 at hmr
  have hn1 : (Int.tdiv a b).natAbs = a.natAbs / b.natAbs := Int.natAbs_tdiv a b
  have hn2 : (Int.tmod a b).natAbs = a.natAbs % b.natAbs := Int.natAbs_tmod a b
  have hle : a.natAbs / b.natAbs ≤ a.natAbs := Nat.div_le_self _ _
  have hq : -9223372036854775808 ≤ Int.tdiv a b ∧ Int.tdiv a b ≤ 9223372036854775807 := by
    by_cases hb1 : b.natAbs = 1
    · rcases Int.natAbs_eq b with e | e <;> rw [hb1] at e
      · have : b = 1 := by omega
        subst this
        rw [Int.tdiv_one]; omega
      · have : b = -1 := by omega
        subst this
        have : Int.tdiv a (-1) = -a := by rw [Int.tdiv_neg, Int.tdiv_one]
        rw [this]; omega
    · have hb2 : 2 ≤ b.natAbs := by omega
      have : a.natAbs / b.natAbs ≤ a.natAbs / 2 := Nat.div_le_div_left hb2 (by omega)
      omega
  rw [w64_in (x := Int.tdiv a b) hq]
  have hcomm : Int.tdiv a b * b = b * Int.tdiv a b := Int.mul_comm _ _
  have hsgn : (0 ≤ a → 0 ≤ Int.tmod a b) ∧ (a ≤ 0 → Int.tmod a b ≤ 0) := by
    refine ⟨fun h => Int.tmod_nonneg b h, fun h => ?_⟩
    have h1 : Int.tmod a b = - Int.tmod (-a) b := by rw [Int.neg_tmod]; omega
    have h3 := Int.tmod_nonneg (a := -a) b (by omega)
    omega
  have habs : (Int.tmod a b).natAbs ≤ a.natAbs := by rw [hn2]; exact Nat.mod_le _ _
  have hp : Int.tdiv a b * b = a - Int.tmod a b := by rw [hcomm]; omega
  have hpr : -9223372036854775808 ≤ a - Int.tmod a b ∧ a - Int.tmod a b ≤ 9223372036854775807 := by
    rcases Int.le_total 0 a with h | h
    · have := hsgn.1 h; omega
    · have := hsgn.2 h; omega
  rw [← hcomm, hp, w64_in (x := a - Int.tmod a b) hpr]
  refine ⟨?_, rfl, rfl, ?_⟩
  · rw [w64_in (by omega)]; omega
  · by_cases hz : Int.tmod a b = 0
    · exact .inl hz
    · right
      rcases Int.le_total 0 a with h | h
      · have := hsgn.1 h
        rw [decide_eq_false (by omega), decide_eq_false (by omega)]
      · have := hsgn.2 h
        rw [decide_eq_true (by omega), decide_eq_true (by omega)]

theorem calcDivides_plain (a0 a1 : Int) (q0 : (Lit.int .i64 a0).wf = true) (q1 : (Lit.int .i64 a1).wf = true) : ∃ F, law06_CalcDivides F a0 a1 = some true := by
  have r0 : R64 a0 := wf64 q0
  have r1 : R64 a1 := wf64 q1
  have v1 := value_eq2 (op := 8) (by unfold opd; omega) r0 r1
  have v2 := value_eq2 (op := 9) (by unfold opd; omega) r0 r1
  by_cases h0 : a1 = 0
  · subst h0
    obtain ⟨F, e1, e2⟩ := (v1.and v2).diag
    refine ⟨F, ?_⟩
    unfold law06_CalcDivides
    rw [e1, e2, awake60]
    rfl
  · have c8 : cBin 8 a0 a1 = (w64 (Int.tdiv a0 a1), 0) := by
      show cond (a1 == 0) (0, 13) (w64 (Int.tdiv a0 a1), 0) = _
      rw [ne_beq h0]; rfl
    have c9 : cBin 9 a0 a1 = (Int.tmod a0 a1, 0) := by
      show cond (a1 == 0) (0, 13) (Int.tmod a0 a1, 0) = _
      rw [ne_beq h0]; rfl
    rw [c8] at v1
    rw [c9] at v2
    have rq := w64_rng (Int.tdiv a0 a1)
    have rm := tmod_rng a1 r0
    have rp := w64_rng (w64 (Int.tdiv a0 a1) * a1)
    obtain ⟨d1, d2, d3, d4⟩ := divides r0 r1 h0
    have v3 := value_eq2 (op := 7) (by unfold opd; omega) rq r1
    have v4 := value_eq2 (op := 10) (by unfold opd; omega) rp rm
    have v5 := value_eq2 (op := 11) (by unfold opd; omega) r0 rm
    have v6 := value_eq2 (op := 7) (by unfold opd; omega) r1 rq
    have c7 : cBin 7 (w64 (Int.tdiv a0 a1)) a1 = (w64 (w64 (Int.tdiv a0 a1) * a1), 0) := rfl
    have c10 : cBin 10 (w64 (w64 (Int.tdiv a0 a1) * a1)) (Int.tmod a0 a1) = (a0, 0) := by
      show (w64 (w64 (w64 (Int.tdiv a0 a1) * a1) + Int.tmod a0 a1), (0 : Int)) = _
      rw [d1]
    have c11 : cBin 11 a0 (Int.tmod a0 a1) = (w64 (w64 (Int.tdiv a0 a1) * a1), 0) := by
      show (w64 (a0 - Int.tmod a0 a1), (0 : Int)) = _
      rw [d2]
    have c7' : cBin 7 a1 (w64 (Int.tdiv a0 a1)) = (w64 (w64 (Int.tdiv a0 a1) * a1), 0) := by
      show (w64 (a1 * w64 (Int.tdiv a0 a1)), (0 : Int)) = _
      rw [d3]
    rw [c7] at v3
    rw [c10] at v4
    rw [c11] at v5
    rw [c7'] at v6
    obtain ⟨F, e1, e2, e3, e4, e5, e6⟩ := (v1.and (v2.and (v3.and (v4.and (v5.and v6))))).diag
    refine ⟨F, ?_⟩
    unfold law06_CalcDivides
    rw [e1, e2]
    simp only [Option.bind_some, ne_beq h0, cond_false, e3, e4, e5, e6, bne_self_eq_false, beq_self_eq_true, cond_true, awake60]
    rcases d4 with h | h
    · rw [h]; rfl
    · rw [h]
      cases (Int.tmod a0 a1 == 0) <;> cases decide (a0 < 0) <;> rfl

theorem calcCompares_plain (a0 a1 : Int) (q0 : (Lit.int .i64 a0).wf = true) (q1 : (Lit.int .i64 a1).wf = true) : ∃ F, law06_CalcCompares F a0 a1 = some true := by
  have r0 : R64 a0 := wf64 q0
  have r1 : R64 a1 := wf64 q1
  have r63 : R64 (bAnd .i64 a1 63) := w64_rng _
  have v1 := value_eq2 (op := 14) (by unfold opd; omega) r0 r1
  have v2 := value_eq2 (op := 15) (by unfold opd; omega) r0 r1
  have v3 := value_eq2 (op := 18) (by unfold opd; omega) r0 r1
  have v4 := value_eq2 (op := 16) (by unfold opd; omega) r0 r1
  have v5 := value_eq2 (op := 17) (by unfold opd; omega) r0 r1
  have v6 := value_eq2 (op := 19) (by unfold opd; omega) r0 r1
  have v7 := value_eq2 (op := 12) (by unfold opd; omega) r0 r1
  have v8 := value_eq2 (op := 12) (by unfold opd; omega) r0 r63
  obtain ⟨F, e1, e2, e3, e4, e5, e6, e7, e8⟩ := (v1.and (v2.and (v3.and (v4.and (v5.and (v6.and (v7.and v8))))))).diag
  refine ⟨F, ?_⟩
  have tl : ∀ b : Bool, law06_truth F b = some (tr b) := fun b => by cases b <;> rfl
  have s8 : cBin 12 a0 (bAnd .i64 a1 63) = cBin 12 a0 a1 := by
    show (bShl .i64 a0 (bAnd .i64 (bAnd .i64 a1 63) 63), (0 : Int)) = (bShl .i64 a0 (bAnd .i64 a1 63), 0)
    have : bAnd .i64 (bAnd .i64 a1 63) 63 = bAnd .i64 a1 63 := by rw [and63, and63]; omega
    rw [this]
  have s7 : (cBin 12 a0 a1).2 = 0 := rfl
  have t1 : cBin 14 a0 a1 = (tr (decide (a0 < a1)), 0) := rfl
  have t2 : cBin 15 a0 a1 = (tr (decide (a1 < a0)), 0) := rfl
  have t3 : cBin 18 a0 a1 = (tr (a0 == a1), 0) := rfl
  have t4 : cBin 16 a0 a1 = (tr (decide (a0 ≤ a1)), 0) := rfl
  have t5 : cBin 17 a0 a1 = (tr (decide (a1 ≤ a0)), 0) := rfl
  have t6 : cBin 19 a0 a1 = (tr (a0 != a1), 0) := rfl
  unfold law06_CalcCompares
  rw [e1, e2, e3, e4, e5, e6, e7, e8, s8, t1, t2, t3, t4, t5, t6]
  simp only [Option.bind_some, tl, bne_self_eq_false, cond_false, s7, beq_self_eq_true, cond_true, awake60]
end Go.Proofs.YtamjncikmfpihaaGreatDoor
