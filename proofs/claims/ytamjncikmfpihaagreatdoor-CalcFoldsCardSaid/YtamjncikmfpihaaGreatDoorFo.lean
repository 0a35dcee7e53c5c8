/-
  Calc: constant folding: a plain function, and both sides follow it; it keeps validity, value and bindings, and is idempotent. The plain laws of CalcKeeps and CalcFolds.
-/
import Derived.Test.YtamjncikmfpihaaGreatDoorEk
namespace Go.Proofs.YtamjncikmfpihaaGreatDoor
open Go.RT
set_option linter.all false
set_option maxRecDepth 100000

/-- The number that an expression is. -/
def numX (e : TExpr) : Option Int := cond (e.fOp == 1) (some e.fN) (cond (e.fOp == 3 && ((e.fKids.getD 0 dTExpr).fOp == 1 && (e.fKids.getD 0 dTExpr).fN != 0)) (some (w64 (0 - (e.fKids.getD 0 dTExpr).fN))) none)
def conX (n : Int) : TExpr := cond (decide (n < 0)) (.mk 3 0 [] [.mk 1 (w64 (0 - n)) [] []]) (.mk 1 n [] [])
def repX (e : TExpr) (n f : Int) : TExpr := cond (f != 0 || n == -9223372036854775808) e (conX n)
def twoX (op n : Int) (name : List UInt8) (ks : List TExpr) (a : Int) : Option Int → TExpr
  | none => .mk op n name ks
  | some b => repX (.mk op n name ks) (cBin op a b).1 (cBin op a b).2
def oneX (op n : Int) (name : List UInt8) (ks : List TExpr) : Option Int → TExpr
  | none => .mk op n name ks
  | some a => cond (op == 25) (cond (a != 0) (ks.getD 1 dTExpr) (ks.getD 2 dTExpr)) (cond (op == 23 && a == 0) (conX 0) (cond (op == 24 && a != 0) (conX 1)
      (cond (ks.length == 1) (repX (.mk op n name ks) (cUn op a) 0) (twoX op n name ks a (numX (ks.getD 1 dTExpr))))))
def stepX (op n : Int) (name : List UInt8) (ks : List TExpr) : TExpr := cond (op == 26 || ks.length == 0) (.mk op n name ks) (oneX op n name ks (numX (ks.getD 0 dTExpr)))
mutual
def foldS : TExpr → TExpr
  | .mk op n name kids => stepX op n name (foldL kids)
def foldL : List TExpr → List TExpr
  | [] => []
  | k :: l => foldS k :: foldL l
end
theorem foldL_map : ∀ l, foldL l = l.map foldS
  | [] => rfl
  | k :: l => by simp only [foldL, List.map_cons, foldL_map l]
theorem foldS_eq (e : TExpr) : foldS e = stepX e.fOp e.fN e.fName (e.fKids.map foldS) := by cases e; rw [← foldL_map]; rfl

theorem eta' (e : TExpr) : TExpr.mk e.fOp e.fN e.fName e.fKids = e := by cases e; rfl
theorem number_x (F : Nat) {e : TExpr} (h : e.fOp = 3 → 0 < e.fKids.length) : calc_number F e = some ((numX e).getD 0, (numX e).isSome) := by
  unfold calc_number numX
  cases h1 : (e.fOp == 1) with
  | true => rfl
  | false =>
    cases h3 : (e.fOp == 3) with
    | false => rfl
    | true =>
      rw [decide_eq_true (show 0 < (e.fKids.length : Int) by have := h (by simpa using h3); omega)]
      simp only [cond_true, cond_false, rq_tt, Option.bind_some, Bool.true_and]
      cases ((e.fKids.getD 0 dTExpr).fOp == 1) <;> cases ((e.fKids.getD 0 dTExpr).fN != 0) <;> rfl
theorem number6_x (F : Nat) {e : TExpr} (h : e.fOp = 3 → 0 < e.fKids.length) : ref06_number F e = some ((numX e).getD 0, (numX e).isSome) := by
  unfold ref06_number numX
  cases h1 : (e.fOp == 1) with
  | true => rfl
  | false =>
    cases h3 : (e.fOp == 3) with
    | false => rfl
    | true =>
      rw [decide_eq_true (show 0 < (e.fKids.length : Int) by have := h (by simpa using h3); omega)]
      simp only [cond_true, cond_false, rq_tt, Option.bind_some, Bool.true_and]
      cases ((e.fKids.getD 0 dTExpr).fOp == 1) <;> cases ((e.fKids.getD 0 dTExpr).fN != 0) <;> rfl
theorem constant_x (F : Nat) (n : Int) : calc_constant F n = some (conX n) := by
  unfold calc_constant conX
  cases decide (n < 0) <;> rfl
theorem expr_x (F : Nat) (n : Int) : ref06_expr F n = some (conX n) := by
  unfold ref06_expr conX
  cases decide (n < 0) <;> rfl
theorem replaced_x (F : Nat) (e : TExpr) (n f : Int) : ref06_replaced F e n f = some (repX e n f) := by
  unfold ref06_replaced repX
  simp only [eta', expr_x]
  cases (f != 0) <;> cases (n == -9223372036854775808) <;> rfl

/-! ### Validity is kept -/
theorem kidsS_leaf {op : Int} (h : kidsS op = 0) : op = 1 ∨ op = 2 := by
  unfold kidsS at h
  cases h1 : (op == 1) with
  | true => left; simpa using h1
  | false =>
    cases h2 : (op == 2) with
    | true => right; simpa using h2
    | false =>
      rw [h1, h2] at h
      simp only [Bool.or_self, cond_false] at h
      cases hc : ((decide (3 ≤ op) && decide (op ≤ 6)) || op == 26) <;> rw [hc] at h
      · simp only [cond_false] at h
        cases hd : (decide (7 ≤ op) && decide (op ≤ 24)) <;> rw [hd] at h
        · simp only [cond_false] at h
          cases he : (op == 25) <;> rw [he] at h <;> cases h
        · cases h
      · cases h
theorem valid_unf {e : TExpr} {d : Int} : validS e d = 0 ↔ d < 32 ∧ shapeBad e.fOp e.fN e.fName e.fKids.length = false ∧ (isNm e.fOp && !rName e.fName) = false ∧ ∀ k, k ∈ e.fKids → validS k (d + 1) = 0 := by
  rw [validS_eq]
  by_cases h : 32 ≤ d
  · rw [decide_eq_true h]; simp; omega
  · rw [decide_eq_false h]
    simp only [cond_false]
    cases shapeBad e.fOp e.fN e.fName e.fKids.length with
    | true => simp
    | false =>
      cases (isNm e.fOp && !rName e.fName) with
      | true => simp
      | false =>
        simp only [cond_false]
        rw [validL_zero]
        simp
        omega
theorem valid_up (e : TExpr) : ∀ d, validS e (d + 1) = 0 → validS e d = 0 := by
  induction e using TExpr.ind with
  | h op n name kids ih =>
    intro d h
    rw [valid_unf] at h ⊢
    obtain ⟨h1, h2, h3, h4⟩ := h
    exact ⟨by omega, h2, h3, fun k hk => ih k hk _ (h4 k hk)⟩
theorem conX_valid {n : Int} (h : -9223372036854775808 < n) (h' : n ≤ 9223372036854775807) {d : Int} (hd : d + 1 < 32) : validS (conX n) d = 0 := by
  have num : ∀ (k d : Int), 0 ≤ k → d < 32 → validS (.mk 1 k [] []) d = 0 := by
    intro k d hk hd
    rw [valid_unf]
    refine ⟨hd, ?_, rfl, by intro x hx; cases hx⟩
    show (false || false || ((true && decide (k < 0)) || false || false)) = false
    rw [decide_eq_false (by omega)]
    rfl
  unfold conX
  by_cases h0 : n < 0
  · rw [decide_eq_true h0]
    simp only [cond_true]
    rw [valid_unf]
    refine ⟨by omega, rfl, rfl, ?_⟩
    intro x hx
    have : x = .mk 1 (w64 (0 - n)) [] [] := by simpa [TExpr.fKids] using hx
    subst this
    exact num _ _ (by rw [w64_in (by omega)]; omega) hd
  · rw [decide_eq_false h0]
    exact num n d (by omega) (by omega)
theorem conX_ok {n : Int} (h : -9223372036854775808 < n) (h' : n ≤ 9223372036854775807) : okTExpr (conX n) := by
  have wf : ∀ k : Int, -9223372036854775808 ≤ k ∧ k ≤ 9223372036854775807 → (Lit.int .i64 k).wf = true := by
    intro k hk
    have h1 : IntKind.i64.min = -9223372036854775808 := by decide
    have h2 : IntKind.i64.max = 9223372036854775807 := by decide
    simp only [Lit.wf, Bool.and_eq_true, decide_eq_true_eq, h1, h2]
    omega
  unfold conX
  by_cases h0 : n < 0
  · rw [decide_eq_true h0]
    refine .mk 3 0 [] _ (by decide) (by decide) (by decide) (show 1 ≤ maxLen by decide) ?_
    intro x hx
    have : x = .mk 1 (w64 (0 - n)) [] [] := by simpa using hx
    subst this
    exact .mk 1 _ [] [] (by decide) (wf _ (w64_rng _)) (by decide) (by decide) (by intro x hx; cases hx)
  · rw [decide_eq_false h0]
    exact .mk 1 n [] [] (by decide) (wf _ (by omega)) (by decide) (by decide) (by intro x hx; cases hx)
theorem conX_nodes (n : Int) : nodes (conX n) ≤ 2 := by
  unfold conX
  cases decide (n < 0)
  · show nodes (.mk 1 n [] []) ≤ 2; simp [nodes, nodesL]
  · show nodes (.mk 3 0 [] [.mk 1 (w64 (0 - n)) [] []]) ≤ 2; simp [nodes, nodesL]
theorem ok_same {op n : Int} {name : List UInt8} {kids kids' : List TExpr} (h : okTExpr (.mk op n name kids)) (hl : kids'.length = kids.length) (hk : ∀ k, k ∈ kids' → okTExpr k) : okTExpr (.mk op n name kids') := by
  cases h with
  | mk _ _ _ _ a1 a2 a3 a4 a5 => exact .mk op n name kids' a1 a2 a3 (by omega) hk
theorem valid_same {op n : Int} {name : List UInt8} {kids kids' : List TExpr} {d : Int} (h : validS (.mk op n name kids) d = 0) (hl : kids'.length = kids.length) (hk : ∀ k, k ∈ kids' → validS k (d + 1) = 0) : validS (.mk op n name kids') d = 0 := by
  rw [valid_unf] at h ⊢
  obtain ⟨h1, h2, h3, h4⟩ := h
  refine ⟨h1, ?_, h3, hk⟩
  show shapeBad op n name kids'.length = false
  rw [hl]
  exact h2

/-- What a step can give. -/
theorem step_cases {op n : Int} {name : List UInt8} {ks : List TExpr} (hr : ∀ a, numX (ks.getD 0 dTExpr) = some a → R64 a) (hr1 : ∀ b, numX (ks.getD 1 dTExpr) = some b → R64 b) :
    stepX op n name ks = .mk op n name ks ∨ (ks ≠ [] ∧ op = 25 ∧ (stepX op n name ks = ks.getD 1 dTExpr ∨ stepX op n name ks = ks.getD 2 dTExpr)) ∨ (ks ≠ [] ∧ ∃ v, -9223372036854775808 < v ∧ v ≤ 9223372036854775807 ∧ stepX op n name ks = conX v) := by
  have rep : ∀ v f, R64 v → repX (.mk op n name ks) v f = .mk op n name ks ∨ ∃ u, -9223372036854775808 < u ∧ u ≤ 9223372036854775807 ∧ repX (.mk op n name ks) v f = conX u := by
    intro v f hv
    unfold repX
    cases hc : (f != 0 || v == -9223372036854775808) with
    | true => exact .inl rfl
    | false =>
      rw [Bool.or_eq_false_iff, beq_eq_false_iff_ne] at hc
      unfold R64 at hv
      exact .inr ⟨v, by omega, by omega, rfl⟩
  unfold stepX
  cases h0 : (op == 26 || ks.length == 0) with
  | true => exact .inl rfl
  | false =>
    have hne : ks ≠ [] := by rintro rfl; simp at h0
    simp only [cond_false]
    cases ha : numX (ks.getD 0 dTExpr) with
    | none => exact .inl rfl
    | some a =>
      have hra := hr a ha
      unfold oneX
      simp only
      cases h25 : (op == 25) with
      | true =>
        right; left
        refine ⟨hne, by simpa using h25, ?_⟩
        cases (a != 0)
        · exact .inr rfl
        · exact .inl rfl
      | false =>
        simp only [cond_false]
        cases (op == 23 && a == 0) with
        | true => right; right; exact ⟨hne, 0, by omega, by omega, rfl⟩
        | false =>
          simp only [cond_false]
          cases (op == 24 && a != 0) with
          | true => right; right; exact ⟨hne, 1, by omega, by omega, rfl⟩
          | false =>
            simp only [cond_false]
            cases (ks.length == 1) with
            | true =>
              rcases rep (cUn op a) 0 (cUn_rng _ hra) with h | ⟨v, h1, h2, h3⟩
              · exact .inl h
              · exact .inr (.inr ⟨hne, v, h1, h2, h3⟩)
            | false =>
              simp only [cond_false]
              cases hb : numX (ks.getD 1 dTExpr) with
              | none => exact .inl rfl
              | some b =>
                rcases rep (cBin op a b).1 (cBin op a b).2 (cBin_rng _ hra (hr1 b hb)) with h | ⟨v, h1, h2, h3⟩
                · exact .inl h
                · exact .inr (.inr ⟨hne, v, h1, h2, h3⟩)
theorem numX_rng {e : TExpr} (h : R64 e.fN) {a : Int} (ha : numX e = some a) : R64 a := by
  unfold numX at ha
  cases h1 : (e.fOp == 1) with
  | true => rw [h1] at ha; cases ha; exact h
  | false =>
    rw [h1] at ha
    simp only [cond_false] at ha
    cases hc : (e.fOp == 3 && ((e.fKids.getD 0 dTExpr).fOp == 1 && (e.fKids.getD 0 dTExpr).fN != 0)) with
    | false => rw [hc] at ha; cases ha
    | true => rw [hc] at ha; cases ha; exact w64_rng _
theorem ok_rng {e : TExpr} (h : okTExpr e) : R64 e.fN := by
  cases h with
  | mk _ _ _ _ a1 a2 a3 a4 a5 => exact wf64 a2
theorem dT_rng {l : List TExpr} (h : ∀ k, k ∈ l → okTExpr k) (i : Nat) : R64 (l.getD i dTExpr).fN := by
  by_cases hi : i < l.length
  · exact ok_rng (h _ (by simp [List.getD, hi]))
  · have : l.getD i dTExpr = dTExpr := by simp [List.getD]; rw [List.getElem?_eq_none (by omega)]; rfl
    rw [this]
    show R64 0
    unfold R64; decide

theorem fold_keeps (e : TExpr) : ∀ d, okTExpr e → validS e d = 0 → okTExpr (foldS e) ∧ validS (foldS e) d = 0 ∧ nodes (foldS e) ≤ nodes e := by
  induction e using TExpr.ind with
  | h op n name kids ih =>
    intro d ho hv
    have hv' := hv
    rw [valid_unf] at hv'
    obtain ⟨h1, h2, h3, h4⟩ := hv'
    have hk : ∀ k, k ∈ kids → okTExpr (foldS k) ∧ validS (foldS k) (d + 1) = 0 ∧ nodes (foldS k) ≤ nodes k := fun k hm => by
      cases ho with
      | mk _ _ _ _ a1 a2 a3 a4 a5 => exact ih k hm _ (a5 k hm) (h4 k hm)
    have hks : ∀ k, k ∈ kids.map foldS → okTExpr k ∧ validS k (d + 1) = 0 := fun k hm => by
      obtain ⟨q, hq, rfl⟩ := List.mem_map.1 hm
      exact ⟨(hk q hq).1, (hk q hq).2.1⟩
    have hnl : ∀ l : List TExpr, (∀ k, k ∈ l → nodes (foldS k) ≤ nodes k) → nodesL (l.map foldS) ≤ nodesL l := by
      intro l
      induction l with
      | nil => intro _; simp [nodesL]
      | cons k l ih2 =>
        intro h
        have := h k (by simp)
        have := ih2 fun k hm => h k (List.mem_cons_of_mem _ hm)
        simp only [List.map_cons, nodesL]
        omega
    have hnl := hnl kids fun k hm => (hk k hm).2.2
    rw [foldS_eq]
    show okTExpr (stepX op n name (kids.map foldS)) ∧ validS (stepX op n name (kids.map foldS)) d = 0 ∧ nodes (stepX op n name (kids.map foldS)) ≤ _
    have hlen : (kids.map foldS).length = kids.length := by simp
    rcases step_cases (op := op) (n := n) (name := name) (ks := kids.map foldS) (fun a ha => numX_rng (dT_rng (fun k hm => (hks k hm).1) 0) ha) (fun a ha => numX_rng (dT_rng (fun k hm => (hks k hm).1) 1) ha) with h | ⟨hne, h25, h⟩ | ⟨hne, v, hv1, hv2, h⟩
    · rw [h]
      refine ⟨ok_same ho hlen fun k hm => (hks k hm).1, valid_same hv hlen fun k hm => (hks k hm).2, ?_⟩
      simp only [nodes]
      omega
    · have hl3 : kids.length = 3 := by
        have := (shape_ok h2).1
        have e : (TExpr.mk op n name kids).fKids.length = kids.length := rfl
        rw [e] at this
        have e2 : kidsS (TExpr.mk op n name kids).fOp = 3 := by show kidsS op = 3; rw [h25]; rfl
        rw [e2] at this
        omega
      have hm : ∀ i, i < 3 → (kids.map foldS).getD i dTExpr ∈ kids.map foldS := fun i hi => by
        have : i < (kids.map foldS).length := by omega
        rw [gd this]
        exact List.getElem_mem this
      have hnn : ∀ i, i < 3 → nodes ((kids.map foldS).getD i dTExpr) ≤ nodes (.mk op n name kids) := fun i hi => by
        have := nodes_mem (hm i hi)
        simp only [nodes]
        omega
      rcases h with h | h
      · rw [h]
        exact ⟨(hks _ (hm 1 (by omega))).1, valid_up _ _ (hks _ (hm 1 (by omega))).2, hnn 1 (by omega)⟩
      · rw [h]
        exact ⟨(hks _ (hm 2 (by omega))).1, valid_up _ _ (hks _ (hm 2 (by omega))).2, hnn 2 (by omega)⟩
    · rw [h]
      have hkne : ∃ k, k ∈ kids := by
        cases kids with
        | nil => exact absurd rfl hne
        | cons k l => exact ⟨k, by simp⟩
      obtain ⟨k, hkm⟩ := hkne
      have hd : d + 1 < 32 := (valid_unf.1 (h4 k hkm)).1
      refine ⟨conX_ok hv1 hv2, conX_valid hv1 hv2 hd, ?_⟩
      have := conX_nodes v
      have := nodes_mem hkm
      have := nodes_pos k
      simp only [nodes]
      omega

/-! ### Folding twice -/
theorem conX_fold {v : Int} (h1 : -9223372036854775808 < v) (h2 : v ≤ 9223372036854775807) : foldS (conX v) = conX v := by
  unfold conX
  by_cases h0 : v < 0
  · rw [decide_eq_true h0]
    simp only [cond_true]
    have e1 : w64 (0 - v) = - v := by rw [w64_in (by omega)]; omega
    rw [e1]
    show stepX 3 0 [] [.mk 1 (-v) [] []] = _
    show repX (.mk 3 0 [] [.mk 1 (-v) [] []]) (w64 (0 - -v)) 0 = _
    have e2 : w64 (0 - -v) = v := by rw [w64_in (by omega)]; omega
    rw [e2]
    unfold repX
    rw [ne_beq (show v ≠ -9223372036854775808 by omega)]
    unfold conX
    rw [decide_eq_true h0, e1]
    rfl
  · rw [decide_eq_false h0]
    rfl
theorem fold_fold (e : TExpr) : ∀ d, okTExpr e → validS e d = 0 → foldS (foldS e) = foldS e := by
  induction e using TExpr.ind with
  | h op n name kids ih =>
    intro d ho hv
    have hv' := hv
    rw [valid_unf] at hv'
    obtain ⟨h1, h2, h3, h4⟩ := hv'
    have hok : ∀ k, k ∈ kids → okTExpr k := by
      cases ho with
      | mk _ _ _ _ a1 a2 a3 a4 a5 => exact a5
    have hks : ∀ k, k ∈ kids.map foldS → okTExpr k ∧ foldS k = k := fun k hm => by
      obtain ⟨q, hq, rfl⟩ := List.mem_map.1 hm
      exact ⟨(fold_keeps q _ (hok q hq) (h4 q hq)).1, ih q hq _ (hok q hq) (h4 q hq)⟩
    have hmm : (kids.map foldS).map foldS = kids.map foldS := by
      have : ∀ l : List TExpr, (∀ k, k ∈ l → foldS k = k) → l.map foldS = l := by
        intro l
        induction l with
        | nil => intro _; rfl
        | cons k l ih2 => intro h; rw [List.map_cons, h k (by simp), ih2 fun k hm => h k (List.mem_cons_of_mem _ hm)]
      exact this _ fun k hm => (hks k hm).2
    rw [foldS_eq (.mk op n name kids)]
    show foldS (stepX op n name (kids.map foldS)) = stepX op n name (kids.map foldS)
    rcases step_cases (op := op) (n := n) (name := name) (ks := kids.map foldS) (fun a ha => numX_rng (dT_rng (fun k hm => (hks k hm).1) 0) ha) (fun a ha => numX_rng (dT_rng (fun k hm => (hks k hm).1) 1) ha) with h | ⟨hne, h25, h⟩ | ⟨hne, v, hv1, hv2, h⟩
    · have e : foldS (.mk op n name (kids.map foldS)) = stepX op n name ((kids.map foldS).map foldS) := foldS_eq _
      rw [h, e, hmm, h]
    · have hl3 : kids.length = 3 := by
        have := (shape_ok h2).1
        have e : (TExpr.mk op n name kids).fKids.length = kids.length := rfl
        rw [e] at this
        have e2 : kidsS (TExpr.mk op n name kids).fOp = 3 := by show kidsS op = 3; rw [h25]; rfl
        rw [e2] at this
        omega
      have hm : ∀ i, i < 3 → (kids.map foldS).getD i dTExpr ∈ kids.map foldS := fun i hi => by
        have : i < (kids.map foldS).length := by simp; omega
        rw [gd this]
        exact List.getElem_mem this
      rcases h with h | h
      · rw [h]; exact (hks _ (hm 1 (by omega))).2
      · rw [h]; exact (hks _ (hm 2 (by omega))).2
    · rw [h]; exact conX_fold hv1 hv2

/-! ### The value is kept -/
theorem numX_ev {e : TExpr} {a : Int} (ha : numX e = some a) (hk : e.fOp = 3 → e.fKids.length = 1) (m : Env) : evS e m = (a, 0, m) := by
  rw [evS_eq]
  unfold numX at ha
  cases h1 : (e.fOp == 1) with
  | true =>
    rw [h1] at ha
    cases ha
    unfold evB
    rw [h1]
    rfl
  | false =>
    rw [h1] at ha
    simp only [cond_false] at ha
    cases hc : (e.fOp == 3 && ((e.fKids.getD 0 dTExpr).fOp == 1 && (e.fKids.getD 0 dTExpr).fN != 0)) with
    | false => rw [hc] at ha; cases ha
    | true =>
      rw [hc] at ha
      cases ha
      rw [Bool.and_eq_true, Bool.and_eq_true] at hc
      obtain ⟨h3, h11, h0⟩ := hc
      have h3' : e.fOp = 3 := by simpa using h3
      have hl := hk h3'
      have hkid : evS (e.fKids.getD 0 dTExpr) m = ((e.fKids.getD 0 dTExpr).fN, 0, m) := by
        rw [evS_eq]
        unfold evB
        rw [h11]
        rfl
      rw [h3']
      unfold evB
      rw [ev_at _ 0 (by omega), hkid]
      rfl
theorem conX_ev {v : Int} (h1 : -9223372036854775808 < v) (h2 : v ≤ 9223372036854775807) (m : Env) : evS (conX v) m = (v, 0, m) := by
  unfold conX
  by_cases h0 : v < 0
  · rw [decide_eq_true h0]
    show evB 3 0 [] [evS (.mk 1 (w64 (0 - v)) [] [])] m = _
    show (w64 (0 - w64 (0 - v)), (0 : Int), m) = _
    rw [w64_in (x := 0 - v) (by omega), w64_in (by omega)]
    congr 1
    omega
  · rw [decide_eq_false h0]
    rfl
theorem evB_congr (op n : Int) (name : List UInt8) {ks ks' : List TExpr} (hl : ks.length = ks'.length) (h : ∀ i, i < ks.length → evS (ks.getD i dTExpr) = evS (ks'.getD i dTExpr)) : ks.map evS = ks'.map evS := by
  apply List.ext_getElem
  · simpa using hl
  · intro i h1 h2
    have hi : i < ks.length := by simpa using h1
    have := h i hi
    simp only [List.getElem_map]
    rw [gd hi, gd (by omega)] at this
    exact this

theorem step_ev {op n : Int} {name : List UInt8} {ks : List TExpr} (g : Good (.mk op n name ks)) (m : Env) : evS (stepX op n name ks) m = evS (.mk op n name ks) m := by
  have hk3 : ∀ i, i < ks.length → (ks.getD i dTExpr).fOp = 3 → (ks.getD i dTExpr).fKids.length = 1 := fun i hi h3 => by
    have g2 := (g.kidAt (i := i) hi).1
    have g2 : Good (ks.getD i dTExpr) := g2
    rcases g2.shape with h | h | h | h | h | h <;> omega
  have rk : ∀ i, i < ks.length → R64 (ks.getD i dTExpr).fN := fun i hi => by
    have g2 := (g.kidAt (i := i) hi).1
    have g2 : Good (ks.getD i dTExpr) := g2
    exact g2.okn
  unfold stepX
  cases h0 : (op == 26 || ks.length == 0) with
  | true => rfl
  | false =>
    simp only [cond_false]
    rw [Bool.or_eq_false_iff] at h0
    obtain ⟨h26, h00⟩ := h0
    have hl0 : 0 < ks.length := by
      rw [beq_eq_false_iff_ne] at h00
      omega
    cases ha : numX (ks.getD 0 dTExpr) with
    | none => rfl
    | some a =>
      have ea : ∀ m, evS (ks.getD 0 dTExpr) m = (a, 0, m) := fun m => numX_ev ha (hk3 0 hl0) m
      have ra := numX_rng (rk 0 hl0) ha
      have hop := g.op
      have hop : 1 ≤ op ∧ op ≤ 26 := hop
      have hsh := g.shape
      have hsh : (op = 1) ∨ (op = 2) ∨ ((3 ≤ op ∧ op ≤ 6) ∧ ks.length = 1) ∨ ((7 ≤ op ∧ op ≤ 24) ∧ ks.length = 2) ∨ (op = 25 ∧ ks.length = 3) ∨ (op = 26 ∧ ks.length = 1) := hsh
      have hfacts := g.facts.1
      have hfacts : (ks.length : Int) = kidsS op := hfacts
      rw [beq_eq_false_iff_ne] at h26
      have hn12 : op ≠ 1 ∧ op ≠ 2 := by
        constructor
        · rintro rfl; rw [show kidsS 1 = 0 from rfl] at hfacts; omega
        · rintro rfl; rw [show kidsS 2 = 0 from rfl] at hfacts; omega
      rw [evS_eq (.mk op n name ks)]
      show _ = evB op n name (ks.map evS) m
      unfold evB
      rw [ne_beq hn12.1, ne_beq hn12.2, ne_beq h26, ev_at _ 0 hl0, ea]
      simp only [cond_false, bne_self_eq_false]
      unfold oneX
      simp only
      cases h25 : (op == 25) with
      | true =>
        have h25' : op = 25 := by simpa using h25
        have hl3 : ks.length = 3 := by omega
        have h36 : (decide (3 ≤ op) && decide (op ≤ 6)) = false := by rw [h25']; rfl
        rw [h36, ev_at _ 1 (by omega), ev_at _ 2 (by omega)]
        simp only [cond_true, cond_false]
        cases (a != 0) <;> rfl
      | false =>
        rw [beq_eq_false_iff_ne] at h25
        simp only [cond_false]
        have rep : ∀ v f, R64 v → (f = 0 ∨ (v = 0 ∧ f ≠ 0)) → evS (.mk op n name ks) m = (v, f, m) → evS (repX (.mk op n name ks) v f) m = (v, f, m) := by
          intro v f hv hf he
          unfold repX
          cases hc : (f != 0 || v == -9223372036854775808) with
          | true => exact he
          | false =>
            rw [Bool.or_eq_false_iff, beq_eq_false_iff_ne] at hc
            unfold R64 at hv
            have hf0 : f = 0 := by simpa using hc.1
            rw [hf0]
            exact conX_ev (by omega) (by omega) m
        rcases hsh with h | h | ⟨h, hl⟩ | ⟨h, hl⟩ | h | h
        · omega
        · omega
        · have h36 : (decide (3 ≤ op) && decide (op ≤ 6)) = true := by rw [decide_eq_true h.1, decide_eq_true h.2]; rfl
          have h23 : (op == 23) = false := ne_beq (by omega)
          have h24 : (op == 24) = false := ne_beq (by omega)
          rw [h36, h23, h24, hl]
          simp only [cond_true, Bool.false_and, cond_false, beq_self_eq_true]
          refine rep _ _ (cUn_rng _ ra) (.inl rfl) ?_
          rw [evS_eq]
          show evB op n name (ks.map evS) m = _
          unfold evB
          rw [ne_beq hn12.1, ne_beq hn12.2, ne_beq h26, ev_at _ 0 hl0, ea, h36]
          rfl
        · have h36 : (decide (3 ≤ op) && decide (op ≤ 6)) = false := by rw [Bool.and_eq_false_iff, decide_eq_false_iff_not, decide_eq_false_iff_not]; omega
          rw [h36]
          simp only [cond_false]
          cases h23 : (op == 23 && a == 0) with
          | true => exact conX_ev (v := 0) (by omega) (by omega) m
          | false =>
            simp only [cond_false]
            cases h24 : (op == 24 && a != 0) with
            | true => exact conX_ev (v := 1) (by omega) (by omega) m
            | false =>
              simp only [cond_false]
              rw [hl]
              simp only [show ((2 : Nat) == 1) = false from rfl, cond_false]
              rw [ev_at _ 1 (by omega)]
              have hself : evS (.mk op n name ks) m = cTwo op (a, 0, m) (evS (ks.getD 1 dTExpr) m) := by
                rw [evS_eq]
                show evB op n name (ks.map evS) m = _
                unfold evB
                rw [ne_beq hn12.1, ne_beq hn12.2, ne_beq h26, ev_at _ 0 hl0, ea, h36, ne_beq h25]
                simp only [cond_false, bne_self_eq_false, h23, h24]
                rw [ev_at _ 1 (by omega)]
              cases hb : numX (ks.getD 1 dTExpr) with
              | none => exact hself
              | some b =>
                have eb := numX_ev hb (hk3 1 (by omega)) m
                have rb := numX_rng (rk 1 (by omega)) hb
                rw [eb] at hself ⊢
                have e2 : cTwo op (a, 0, m) (b, 0, m) = ((cBin op a b).1, (cBin op a b).2, m) := rfl
                rw [e2] at hself ⊢
                refine rep _ _ (cBin_rng _ ra rb) ?_ hself
                rcases cBin_err op a b with h | h
                · exact .inl h
                · rw [h]; exact .inr ⟨rfl, by decide⟩
        · omega
        · omega

theorem fold_ev (e : TExpr) : ∀ d, okTExpr e → validS e d = 0 → ∀ m, evS (foldS e) m = evS e m := by
  induction e using TExpr.ind with
  | h op n name kids ih =>
    intro d ho hv m
    have hv' := hv
    rw [valid_unf] at hv'
    obtain ⟨h1, h2, h3, h4⟩ := hv'
    have hok : ∀ k, k ∈ kids → okTExpr k := by
      cases ho with
      | mk _ _ _ _ a1 a2 a3 a4 a5 => exact a5
    have hks : ∀ k, k ∈ kids.map foldS → okTExpr k ∧ validS k (d + 1) = 0 := fun k hm => by
      obtain ⟨q, hq, rfl⟩ := List.mem_map.1 hm
      have := fold_keeps q _ (hok q hq) (h4 q hq)
      exact ⟨this.1, this.2.1⟩
    have hv2 : validS (.mk op n name (kids.map foldS)) d = 0 := valid_same hv (by simp) fun k hm => (hks k hm).2
    have g : Good (.mk op n name (kids.map foldS)) := ⟨Vd_of _ d hv2, ok_same ho (by simp) fun k hm => (hks k hm).1, Vd_nms _ (Vd_of _ d hv2)⟩
    have e1 : foldS (.mk op n name kids) = stepX op n name (kids.map foldS) := foldS_eq _
    rw [e1, step_ev g m, evS_eq, evS_eq]
    show evB op n name ((kids.map foldS).map evS) m = evB op n name (kids.map evS) m
    have : (kids.map foldS).map evS = kids.map evS := by
      rw [List.map_map]
      apply List.map_congr_left
      intro k hk
      funext m
      exact ih k hk _ (hok k hk) (h4 k hk) m
    rw [this]
end Go.Proofs.YtamjncikmfpihaaGreatDoor
