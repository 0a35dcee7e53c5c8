/-
  Calc: the reference's evaluator follows the plain function evS; Eval on both sides; the plain laws of CalcEvals and CalcTexts.
-/
import Derived.Test.YtamjncikmfpihaaGreatDoorEm
namespace Go.Proofs.YtamjncikmfpihaaGreatDoor
open Go.RT
set_option linter.all false
set_option maxRecDepth 100000

theorem ref_set_eq {c : Nat} {m : Env} (F : Nat) (hF : 200000 ≤ F) (hm : Eo c m) (hc : c ≤ 100000) {e : TExpr} (g : Good e) (h26 : e.fOp = 26) {a : Int} (ha : R64 a) :
    ref06_set F (TExpr.mk e.fOp e.fN e.fName e.fKids) a (toB m) = some ((cSet e.fN e.fName (a, 0, m)).1, toB (cSet e.fN e.fName (a, 0, m)).2.2, (cSet e.fN e.fName (a, 0, m)).2.1) := by
  rw [TExpr.eta]
  unfold ref06_set cSet
  have hlen : (toB m).length ≤ 100000 := by rw [toB_len]; have := hm.len; omega
  have hg := hm.get e.fName
  rw [lookup_eq F _ _ (by omega) (by omega), lookB_toB]
  simp only [Option.bind_some]
  rw [value6_eq F _ (by omega) (by omega)]
  have hset : ∀ n : Int, R64 n → ((ref05_Decimal F n).bind fun x5 => (ref06_bind F (toB m) e.fName x5).bind fun x6 => some (n, x6, (0 : Int))) = some (n, toB (mset keq m e.fName (Lib.itoa n)), 0) := fun n hn => by
    rw [dec_eq F (by omega) hn]
    simp only [Option.bind_some]
    rw [bind_eq F _ _ _ (by omega) (by omega), toB_set hm.nd]
    rfl
  cases hn : (e.fN != 0) with
  | false =>
    simp only [cond_false, jj, Option.bind_some, sm]
    exact hset a ha
  | true =>
    have hcomp : compS e.fN = true := by
      rcases g.facts.2.2.2.2 h26 with h | h
      · rw [h] at hn; cases hn
      · exact h
    have hne : e.fN ≠ 23 ∧ e.fN ≠ 24 := by
      unfold compS at hcomp
      simp only [Bool.or_eq_true, Bool.and_eq_true, decide_eq_true_eq] at hcomp
      omega
    simp only [cond_true, Option.bind_some]
    cases (intS (mget keq m e.fName [])).2 with
    | false => rfl
    | true =>
      have hr := cBin_rng e.fN (intS_rng (mget keq m e.fName [])) ha
      simp only [Bool.not_true, cond_false]
      rw [two_eq F _ _ _ hne.1 hne.2]
      simp only [Option.bind_some]
      cases ((cBin e.fN (intS (mget keq m e.fName [])).1 a).2 != 0) with
      | true => rfl
      | false =>
        simp only [cond_false, jj, Option.bind_some, sm]
        exact hset _ hr

/-- The reference's evaluator. -/
theorem ref_follows : ∀ e, Good e → Evt fun F n => ∀ c m, Eo c m → c + nodes e ≤ 100000 → ref06_eval_n F n e (toB m) = some ((evS e m).1, toB (evS e m).2.2, (evS e m).2.1) := by
  apply Good.ind
  intro e g ih
  refine Evt.succ ((Evt.all ih).map2 (Evt.ge (p := fun F _ => 200000 ≤ F) 200000 fun F n h _ => h) fun F n ih' hF c m hm hc => ?_)
  show ref06_eval_m F (ref06_eval_n F n) e (toB m) = _
  rw [evS_eq]
  unfold ref06_eval_m evB
  cases h1 : (e.fOp == 1) with
  | true => rfl
  | false =>
  cases h2 : (e.fOp == 2) with
  | true =>
    simp only [cond_true, cond_false]
    have hlen : (toB m).length ≤ 100000 := by rw [toB_len]; have := hm.len; omega
    have hg := hm.get e.fName
    rw [lookup_eq F _ _ (by omega) (by omega), lookB_toB]
    simp only [Option.bind_some]
    rw [value6_eq F _ (by omega) (by omega)]
    simp only [Option.bind_some]
    unfold cVar
    cases (intS (mget keq m e.fName [])).2 <;> rfl
  | false =>
  simp only [beq_eq_false_iff_ne] at h1 h2
  have hl : 0 < e.fKids.length := by rcases g.shape with h | h | h | h | h | h <;> omega
  obtain ⟨g0, m0⟩ := g.kidAt hl
  have n0 := nodes_at hl
  obtain ⟨i1, i2⟩ := evS_ok _ g0 c m hm
  have e0 : decide (0 < (e.fKids.length : Int)) = true := decide_eq_true (by omega)
  simp only [cond_false, e0, rq_tt]
  rw [ev_at _ 0 hl, ih' _ m0 c m hm (by omega)]
  simp only [Option.bind_some]
  generalize evS (e.fKids.getD 0 dTExpr) m = x at i1 i2 ⊢
  cases hx0 : (x.2.1 != 0) with
  | true => rfl
  | false =>
  have hx0' : x.2.1 = 0 := by simpa using hx0
  simp only [cond_false]
  have hun : (cond (decide (3 ≤ e.fOp)) (some (decide (e.fOp ≤ 6))) (some false) : Option Bool) = some (decide (3 ≤ e.fOp) && decide (e.fOp ≤ 6)) := by cases decide (3 ≤ e.fOp) <;> rfl
  rw [hun]
  simp only [Option.bind_some]
  cases h36 : (decide (3 ≤ e.fOp) && decide (e.fOp ≤ 6)) with
  | true =>
    have h36' : 3 ≤ e.fOp ∧ e.fOp ≤ 6 := by simpa using h36
    have h26 : (e.fOp == 26) = false := ne_beq (by omega)
    rw [h26]
    simp only [cond_true, cond_false]
    rw [one_eq F _ i2]
    rfl
  | false =>
  have h36' : ¬ (3 ≤ e.fOp ∧ e.fOp ≤ 6) := by
    intro hh
    rw [decide_eq_true hh.1, decide_eq_true hh.2] at h36
    cases h36
  simp only [cond_false]
  cases h26 : (e.fOp == 26) with
  | true =>
    have h26' : e.fOp = 26 := by simpa using h26
    simp only [cond_true]
    rw [ref_set_eq F hF i1 (by omega) g h26' i2]
    have : x = (x.1, 0, x.2.2) := Prod.ext rfl (Prod.ext hx0' rfl)
    rw [← this]
    rfl
  | false =>
  simp only [beq_eq_false_iff_ne] at h26
  simp only [cond_false]
  have hl1 : 1 < e.fKids.length := by rcases g.shape with h | h | h | h | h | h <;> omega
  obtain ⟨g1, m1⟩ := g.kidAt hl1
  have n01 := nodes_two (l := e.fKids) (i := 0) (j := 1) (by omega) hl1
  have ne := nodes_eq e
  have e1 : decide (1 < (e.fKids.length : Int)) = true := decide_eq_true (by omega)
  have f1 := ih' _ m1 _ x.2.2 i1 (by omega)
  rw [ev_at _ 1 hl1, e1, f1]
  cases h25 : (e.fOp == 25) with
  | true =>
    have h25' : e.fOp = 25 := by simpa using h25
    have hl2 : 2 < e.fKids.length := by rcases g.shape with h | h | h | h | h | h <;> omega
    obtain ⟨g2, m2⟩ := g.kidAt hl2
    have n02 := nodes_two (l := e.fKids) (i := 0) (j := 2) (by omega) hl2
    have e2 : decide (2 < (e.fKids.length : Int)) = true := decide_eq_true (by omega)
    rw [ev_at _ 2 hl2, e2, ih' _ m2 _ x.2.2 i1 (by omega)]
    simp only [cond_true, rq_tt, Option.bind_some]
    cases (x.1 != 0) <;> rfl
  | false =>
  simp only [cond_false, rq_tt, Option.bind_some]
  have hx : (x.1 != 0) = !(x.1 == 0) := rfl
  unfold cTwo
  cases h23 : (e.fOp == 23) with
  | true =>
    have h23' : e.fOp = 23 := by simpa using h23
    have h24 : (e.fOp == 24) = false := ne_beq (by omega)
    rw [h24, hx]
    cases h0 : (x.1 == 0) with
    | true => rfl
    | false =>
      simp only [cond_true, cond_false, Option.bind_some, Bool.and_false, Bool.false_and, ref_truth_eq]
      cases ((evS (e.fKids.getD 1 dTExpr) x.2.2).2.1 != 0) with
      | true => rfl
      | false =>
        have : cBin e.fOp x.1 (evS (e.fKids.getD 1 dTExpr) x.2.2).1 = (tr ((evS (e.fKids.getD 1 dTExpr) x.2.2).1 != 0), 0) := by
          rw [h23']
          show (tr (x.1 != 0 && (evS (e.fKids.getD 1 dTExpr) x.2.2).1 != 0), (0 : Int)) = _
          rw [hx, h0]
          rfl
        rw [this]
        rfl
  | false =>
    cases h24 : (e.fOp == 24) with
    | true =>
      have h24' : e.fOp = 24 := by simpa using h24
      rw [hx]
      cases h0 : (x.1 == 0) with
      | false => rfl
      | true =>
        simp only [cond_true, cond_false, Option.bind_some, Bool.and_false, Bool.false_and, ref_truth_eq, Bool.not_true]
        cases ((evS (e.fKids.getD 1 dTExpr) x.2.2).2.1 != 0) with
        | true => rfl
        | false =>
          have : cBin e.fOp x.1 (evS (e.fKids.getD 1 dTExpr) x.2.2).1 = (tr ((evS (e.fKids.getD 1 dTExpr) x.2.2).1 != 0), 0) := by
            rw [h24']
            show (tr (x.1 != 0 || (evS (e.fKids.getD 1 dTExpr) x.2.2).1 != 0), (0 : Int)) = _
            rw [hx, h0]
            rfl
          rw [this]
          rfl
    | false =>
      simp only [beq_eq_false_iff_ne] at h23 h24
      simp only [cond_false, Option.bind_some, Bool.false_and]
      rw [two_eq F _ _ _ h23 h24]
      cases ((evS (e.fKids.getD 1 dTExpr) x.2.2).2.1 != 0) <;> rfl

/-! ### Eval -/
def EvalS (e : TExpr) (l : List TBinding) : Int × List TBinding × Int :=
  cond (validS e 0 != 0) (0, [], validS e 0) (cond ((evS e (envOf l)).2.1 != 0) (0, [], (evS e (envOf l)).2.1) ((evS e (envOf l)).1, toB (evS e (envOf l)).2.2, 0))
theorem foldl_app_map {α β : Type} (f : α → β) : ∀ (l : List α) (t : List β), l.foldl (fun t k => t ++ [f k]) t = t ++ l.map f
  | [], t => by simp
  | x :: l, t => by rw [List.foldl_cons, foldl_app_map f l]; simp
def Bnds (l : List TBinding) : Prop := ∀ b, b ∈ l → b.fName.length ≤ 60 ∧ b.fValue.length ≤ 60
theorem Vd_nms (e : TExpr) : Vd e → Nms e := by
  induction e using TExpr.ind with
  | h op n name kids ih =>
    intro v
    cases v with
    | mk _ _ _ _ h1 h2 h3 h4 h5 h6 h7 =>
      refine .mk op n name kids ?_ fun k hk => ih k hk (h7 k hk)
      cases hn : isNm op with
      | true =>
        have := h6 hn
        unfold rName at this
        cases hc : (name == [] || decide (32 < (name.length : Int))) with
        | true => rw [hc] at this; cases this
        | false =>
          rw [Bool.or_eq_false_iff, decide_eq_false_iff_not] at hc
          omega
      | false =>
        rw [hn] at h2
        have : name = [] := by simpa using h2.symm
        rw [this]
        simp
theorem calc_Eval_eq {e : TExpr} (ho : okTExpr e) {l : List TBinding} (hl : l.length ≤ 1000) (hb : Bnds l) (hn : nodes e ≤ 10000) : Evt fun F _ => calc_Eval F e l = some (EvalS e l) := by
  by_cases hv : validS e 0 = 0
  · have g : Good e := ⟨Vd_of e 0 hv, ho, Vd_nms e (Vd_of e 0 hv)⟩
    refine (arith_Valid_eq ho).map3 (value_follows e g).fst (Evt.ge (p := fun F _ => 100000 ≤ F) 100000 fun F n h _ => h) fun F _ h1 h2 hF => ?_
    unfold calc_Eval EvalS
    simp only [TExpr.eta]
    rw [h1, hv]
    simp only [Option.bind_some, bne_self_eq_false, cond_false]
    have hm := envOf_ok hb
    obtain ⟨k1, k2⟩ := evS_ok e g _ _ hm
    refine loopF_foldI l (fun i (t : Env) => ((i : Int), t)) (fun m b => mset keq m b.fName b.fValue) (fun _ _ => True) (t := []) (by omega) rfl trivial ?_ (fun _ _ _ _ => trivial) ?_
    · intro i h t rc _
      simp only [dlt h, dnn, Bool.and_self, cond_true, rq_tt, Int.toNat_natCast, gd h, w64_nat (i := i) (by omega)]
      rfl
    · intro rc _
      simp only [dltn, cond_false]
      show ((calc_evaluator_value_n F F e (envOf l)).bind _) = _
      rw [h2 _ _ hm]
      simp only [Option.bind_some]
      generalize evS e (envOf l) = x at k1 k2 ⊢
      cases (x.2.1 != 0) with
      | true => rfl
      | false =>
        simp only [cond_false, maps_Keys, Option.bind_some]
        rw [sk_eq k1 (by omega)]
        simp only [Option.bind_some]
        have hks : (sortK (x.2.2.map (·.1))).length ≤ 11000 := by
          rw [(sortK_perm _).length_eq, List.length_map]
          have := k1.len
          omega
        refine loopF_foldI (sortK (x.2.2.map (·.1))) (fun i (t : List TBinding) => (t, (i : Int))) (fun t k => t ++ [Bk x.2.2 k]) (fun i t => t.length ≤ i) (t := []) (by omega) rfl (by simp) ?_ ?_ ?_
        · intro i h t rc hI
          simp only [dlt h, dnn, Bool.and_self, cond_true, rq_tt, Int.toNat_natCast, gd h, w64_nat (i := i) (by omega)]
          rw [rq_cap (by simp; omega) (by omega)]
          rfl
        · intro i h t hI
          simp
          omega
        · intro rc _
          simp only [dltn, cond_false]
          rw [foldl_app_map]
          rfl
  · refine (arith_Valid_eq ho).mono fun F _ h1 => ?_
    unfold calc_Eval EvalS
    simp only [TExpr.eta]
    rw [h1]
    have : (validS e 0 != 0) = true := by simpa using hv
    simp only [Option.bind_some, this, cond_true]
theorem ref05_Valid_eq {e : TExpr} (ho : okTExpr e) : Evt fun F _ => ref05_Valid F e = some (validS e 0) :=
  (refValid_eq ho).fst.mono fun F _ h => by
    unfold ref05_Valid ref05_valid
    rw [TExpr.eta, h 0 (by omega) (by omega)]
    rfl
theorem ref_Eval_eq {e : TExpr} (ho : okTExpr e) {l : List TBinding} (hl : l.length ≤ 1000) (hb : Bnds l) (hn : nodes e ≤ 10000) : Evt fun F _ => ref06_Eval F e l = some (EvalS e l) := by
  by_cases hv : validS e 0 = 0
  · have g : Good e := ⟨Vd_of e 0 hv, ho, Vd_nms e (Vd_of e 0 hv)⟩
    refine (ref05_Valid_eq ho).map3 (ref_follows e g).fst (Evt.ge (p := fun F _ => 100000 ≤ F) 100000 fun F n h _ => h) fun F _ h1 h2 hF => ?_
    unfold ref06_Eval EvalS
    simp only [TExpr.eta]
    rw [h1, hv]
    simp only [Option.bind_some, bne_self_eq_false, cond_false]
    rw [sorted_eq F l (by omega) hl hb]
    simp only [Option.bind_some]
    show ((ref06_eval_n F F e (toB (envOf l))).bind _) = _
    rw [h2 _ _ (envOf_ok hb) (by omega)]
    simp only [Option.bind_some]
    cases ((evS e (envOf l)).2.1 != 0) <;> rfl
  · refine (ref05_Valid_eq ho).mono fun F _ h1 => ?_
    unfold ref06_Eval EvalS
    simp only [TExpr.eta]
    rw [h1]
    have : (validS e 0 != 0) = true := by simpa using hv
    simp only [Option.bind_some, this, cond_true]

/-! ### Few, SameBindings -/
def bigB (b : TBinding) : Bool := decide (60 < (b.fName.length : Int)) || decide (60 < (b.fValue.length : Int))
theorem few_run : ∀ (l : List TBinding) (L : Nat), lrun (fun (_ : Unit) (b : TBinding) => cond (bigB b) (some (.inr false)) (some (.inl ()))) (fun _ => some (decide ((L : Int) ≤ 12))) l () = some ((l.all fun b => !(bigB b)) && decide ((L : Int) ≤ 12))
  | [], L => rfl
  | b :: l, L => by
    simp only [lrun, List.all_cons]
    cases bigB b
    · exact few_run l L
    · rfl
def fewS (l : List TBinding) : Bool := ((l.take 13).all fun b => !(bigB b)) && decide ((l.length : Int) ≤ 12)
theorem few_eq (F : Nat) (l : List TBinding) (hF : 20 ≤ F) : ref06_Few F l 12 = some (fewS l) := by
  unfold ref06_Few fewS
  rw [← few_run]
  refine loopF_lrun (l.take 13) (fun i (_ : Unit) => (i : Int)) _ _ (by simp; omega) rfl ?_ ?_
  · intro i h t rc
    have h' : i < l.length ∧ i < 13 := by simp at h; omega
    have e1 : decide ((i : Int) ≤ 12) = true := decide_eq_true (by omega)
    simp only [dlt h'.1, dnn, Bool.and_self, cond_true, rq_tt, Int.toNat_natCast, gd h'.1, w64_nat (i := i) (by omega), e1, Option.bind_some, List.getElem_take]
    unfold bigB
    cases decide (60 < (l[i].fName.length : Int)) <;> cases decide (60 < (l[i].fValue.length : Int)) <;> rfl
  · intro t rc
    have : (cond (decide (((l.take 13).length : Int) < (l.length : Int))) (some (decide (((l.take 13).length : Int) ≤ 12))) (some false) : Option Bool) = some false := by
      by_cases h : l.length ≤ 12
      · rw [decide_eq_false (by rw [List.length_take]; omega)]; rfl
      · rw [decide_eq_false (show ¬ ((l.take 13).length : Int) ≤ 12 by rw [List.length_take]; omega)]
        cases decide (((l.take 13).length : Int) < (l.length : Int)) <;> rfl
    rw [this]
    rfl
theorem few_ok {l : List TBinding} (h : fewS l = true) : l.length ≤ 12 ∧ Bnds l := by
  unfold fewS at h
  rw [Bool.and_eq_true, List.all_eq_true, decide_eq_true_eq] at h
  obtain ⟨h1, h2⟩ := h
  refine ⟨by omega, fun b hb => ?_⟩
  rw [List.take_of_length_le (by omega)] at h1
  have := h1 b hb
  unfold bigB at this
  simp only [Bool.not_eq_true', Bool.or_eq_false_iff, decide_eq_false_iff_not] at this
  omega
theorem same_run : ∀ l : List TBinding, lrun (fun (_ : Unit) (b : TBinding) => (some (.inl ()) : Option (Unit ⊕ Bool))) (fun _ => some true) l () = some true
  | [] => rfl
  | b :: l => by simp only [lrun]; exact same_run l
theorem sameB_self (F : Nat) (l : List TBinding) (hF : l.length < F) (hl : l.length ≤ 1000000) : ref06_SameBindings F l l = some true := by
  unfold ref06_SameBindings
  rw [bne_self_eq_false]
  simp only [cond_false]
  refine (loopF_lrun l (fun i (_ : Unit) => (i : Int)) _ _ hF rfl ?_ ?_).trans (same_run l)
  · intro i h t rc
    simp only [dlt h, dnn, Bool.and_self, cond_true, rq_tt, Int.toNat_natCast, gd h, w64_nat (i := i) (by omega), beq_self_eq_true, Bool.not_true, cond_false]
    rfl
  · intro t rc
    simp only [dltn, cond_false]
theorem EvalS_len {e : TExpr} (ho : okTExpr e) {l : List TBinding} (hl : l.length ≤ 1000) (hb : Bnds l) (hn : nodes e ≤ 10000) : (EvalS e l).2.1.length ≤ 100000 := by
  unfold EvalS
  cases hv : (validS e 0 != 0) with
  | true => simp
  | false =>
    have hv' : validS e 0 = 0 := by simpa using hv
    have g : Good e := ⟨Vd_of e 0 hv', ho, Vd_nms e (Vd_of e 0 hv')⟩
    obtain ⟨k1, k2⟩ := evS_ok e g _ _ (envOf_ok hb)
    simp only [cond_false]
    cases ((evS e (envOf l)).2.1 != 0) with
    | true => simp
    | false =>
      simp only [cond_false]
      rw [toB_len]
      have := k1.len
      omega

theorem calcEvals_plain (a0 : TExpr) (a1 : List TBinding) (q0 : okTExpr a0) : ∃ F, law06_CalcEvals F a0 a1 = some true := by
  have key : SmallS a0 = true → fewS a1 = true → Evt fun F _ => (calc_Eval F a0 a1 = some (EvalS a0 a1) ∧ ref06_Eval F a0 a1 = some (EvalS a0 a1)) ∧ (EvalS a0 a1).2.1.length < F := fun h1 h2 => by
    obtain ⟨k1, k2⟩ := few_ok h2
    obtain ⟨k3, _⟩ := SmallS_fact h1
    have := EvalS_len q0 (l := a1) (by omega) k2 (by omega)
    exact ((calc_Eval_eq q0 (by omega) k2 (by omega)).and (ref_Eval_eq q0 (by omega) k2 (by omega))).and (Evt.ge 200000 fun F n h _ => by omega)
  have main : Evt fun F _ => law06_CalcEvals F a0 a1 = some true := by
    by_cases hs : SmallS a0 = true ∧ fewS a1 = true
    · obtain ⟨k1, k2⟩ := few_ok hs.2
      obtain ⟨k3, _⟩ := SmallS_fact hs.1
      have hlen := EvalS_len q0 (l := a1) (by omega) k2 (by omega)
      refine (Small_eq q0).map3 (key hs.1 hs.2) (Evt.ge (p := fun F _ => 20 ≤ F) 20 fun F n h _ => h) fun F _ e1 e2 hF => ?_
      obtain ⟨⟨e2, e3⟩, e4⟩ := e2
      unfold law06_CalcEvals
      simp only [TExpr.eta]
      rw [e1, few_eq F a1 hF, e2, e3, hs.1, hs.2]
      simp only [Option.bind_some, Bool.not_true, cond_false, beq_self_eq_true, cond_true, awake60]
      rw [sameB_self F _ e4 (by omega)]
      rfl
    · refine (Small_eq q0).map2 (Evt.ge (p := fun F _ => 20 ≤ F) 20 fun F n h _ => h) fun F _ e1 hF => ?_
      unfold law06_CalcEvals
      simp only [TExpr.eta]
      rw [e1, few_eq F a1 hF, awake60]
      cases h1 : SmallS a0 with
      | false => rfl
      | true =>
        cases h2 : fewS a1 with
        | false => rfl
        | true => exact absurd ⟨h1, h2⟩ hs
  obtain ⟨F, h⟩ := main.diag
  exact ⟨F, h⟩
end Go.Proofs.YtamjncikmfpihaaGreatDoor
