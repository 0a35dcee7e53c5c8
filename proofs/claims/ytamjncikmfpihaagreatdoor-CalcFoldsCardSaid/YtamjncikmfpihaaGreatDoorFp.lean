/-
  Calc: both sides' folding follows the plain function foldS; the plain laws of CalcKeeps and CalcFolds.
-/
import Derived.Test.YtamjncikmfpihaaGreatDoorFo
namespace Go.Proofs.YtamjncikmfpihaaGreatDoor
open Go.RT
set_option linter.all false
set_option maxRecDepth 100000

/-- The program's folding, behind its loop. -/
def endP (F : Nat) (op n : Int) (name : List UInt8) (ks : List TExpr) (os : List Int) : Option TExpr :=
 ((cond (op == 26)
 (some true)
 (some ((os.length : Int) == 0)) : Option Bool).bind fun x6 =>
 cond x6
 (some (TExpr.mk ((TExpr.mk op n name ks).fOp) ((TExpr.mk op n name ks).fN) ((TExpr.mk op n name ks).fName) ((TExpr.mk op n name ks).fKids)))
 (rq (decide (0 < (os.length : Int))) (jj (σ := Unit) (R := TExpr) (cond (op == 25)
 (cond ((os.getD 0 0) != 0)
 (rq (decide (1 < (ks.length : Int))) (some (.inr (TExpr.mk ((ks.getD 1 dTExpr).fOp) ((ks.getD 1 dTExpr).fN) ((ks.getD 1 dTExpr).fName) ((ks.getD 1 dTExpr).fKids)))))
 (rq (decide (2 < (ks.length : Int))) (some (.inr (TExpr.mk ((ks.getD 2 dTExpr).fOp) ((ks.getD 2 dTExpr).fN) ((ks.getD 2 dTExpr).fName) ((ks.getD 2 dTExpr).fKids))))))
 (cond (op == 23)
 (cond ((os.getD 0 0) == 0)
 ((calc_constant F 0).bind fun x8 =>
 some (.inr (TExpr.mk x8.fOp x8.fN x8.fName x8.fKids)))
 (some (.inl ())))
 (cond (op == 24)
 (cond ((os.getD 0 0) != 0)
 ((calc_constant F 1).bind fun x9 =>
 some (.inr (TExpr.mk x9.fOp x9.fN x9.fName x9.fKids)))
 (some (.inl ())))
 (some (.inl ()))))) fun _ =>
 cond (decide ((os.length : Int) < (ks.length : Int)))
 (some (TExpr.mk ((TExpr.mk op n name ks).fOp) ((TExpr.mk op n name ks).fN) ((TExpr.mk op n name ks).fName) ((TExpr.mk op n name ks).fKids)))
 ((calc_unary F op (os.getD 0 0)).bind fun x10 =>
 (cond ((ks.length : Int) == 2)
 (rq (decide (1 < (os.length : Int))) ((calc_binary F op (os.getD 0 0) (os.getD 1 0)).bind fun x12 =>
 some (x12.1, x12.2)))
 (some (x10, 0)) : Option (Int × Int)).bind fun x11 =>
 (cond (x11.2 != 0)
 (some true)
 (some (x11.1 == (-9223372036854775808))) : Option Bool).bind fun x13 =>
 cond x13
 (some (TExpr.mk ((TExpr.mk op n name ks).fOp) ((TExpr.mk op n name ks).fN) ((TExpr.mk op n name ks).fName) ((TExpr.mk op n name ks).fKids)))
 ((calc_constant F x11.1).bind fun x14 =>
 some (TExpr.mk x14.fOp x14.fN x14.fName x14.fKids))))))
/-- The reference's folding, behind its loop. -/
def endR (F : Nat) (op n : Int) (name : List UInt8) (ks : List TExpr) : Option TExpr :=
 (rq (decide (0 < (ks.length : Int))) ((ref06_number F (ks.getD 0 dTExpr)).bind fun x4 =>
 (cond (op == 26)
 (some true)
 (some (!x4.2)) : Option Bool).bind fun x5 =>
 cond x5
 (some (TExpr.mk ((TExpr.mk op n name ks).fOp) ((TExpr.mk op n name ks).fN) ((TExpr.mk op n name ks).fName) ((TExpr.mk op n name ks).fKids)))
 ((cond (decide (3 ≤ op))
 (some (decide (op ≤ 6)))
 (some false) : Option Bool).bind fun x6 =>
 cond x6
 ((ref06_one F op x4.1).bind fun x7 =>
 (ref06_replaced F (TExpr.mk op n name ks) x7 0).bind fun x8 =>
 some (TExpr.mk x8.fOp x8.fN x8.fName x8.fKids))
 ((cond (op == 25)
 (some (x4.1 != 0))
 (some false) : Option Bool).bind fun x9 =>
 cond x9
 (rq (decide (1 < (ks.length : Int))) (some (TExpr.mk ((ks.getD 1 dTExpr).fOp) ((ks.getD 1 dTExpr).fN) ((ks.getD 1 dTExpr).fName) ((ks.getD 1 dTExpr).fKids))))
 (cond (op == 25)
 (rq (decide (2 < (ks.length : Int))) (some (TExpr.mk ((ks.getD 2 dTExpr).fOp) ((ks.getD 2 dTExpr).fN) ((ks.getD 2 dTExpr).fName) ((ks.getD 2 dTExpr).fKids))))
 ((cond (op == 23)
 (some (x4.1 == 0))
 (some false) : Option Bool).bind fun x10 =>
 cond x10
 ((ref06_expr F 0).bind fun x11 =>
 some (TExpr.mk x11.fOp x11.fN x11.fName x11.fKids))
 ((cond (op == 24)
 (some (x4.1 != 0))
 (some false) : Option Bool).bind fun x12 =>
 cond x12
 ((ref06_expr F 1).bind fun x13 =>
 some (TExpr.mk x13.fOp x13.fN x13.fName x13.fKids))
 (rq (decide (1 < (ks.length : Int))) ((ref06_number F (ks.getD 1 dTExpr)).bind fun x14 =>
 cond (!x14.2)
 (some (TExpr.mk ((TExpr.mk op n name ks).fOp) ((TExpr.mk op n name ks).fN) ((TExpr.mk op n name ks).fName) ((TExpr.mk op n name ks).fKids)))
 ((cond (op == 23)
 (some true)
 (some (op == 24)) : Option Bool).bind fun x15 =>
 cond x15
 ((ref06_truth F (x14.1 != 0)).bind fun x16 =>
 (ref06_expr F x16).bind fun x17 =>
 some (TExpr.mk x17.fOp x17.fN x17.fName x17.fKids))
 ((ref06_two F op x4.1 x14.1).bind fun x18 =>
 (ref06_replaced F (TExpr.mk op n name ks) x18.1 x18.2).bind fun x19 =>
 some (TExpr.mk x19.fOp x19.fN x19.fName x19.fKids))))))))))))

theorem endP_nil (F : Nat) (op n : Int) (name : List UInt8) (ks : List TExpr) : endP F op n name ks [] = some (.mk op n name ks) := by
  unfold endP
  cases (op == 26) <;> rfl
theorem endP_set (F : Nat) (n : Int) (name : List UInt8) (ks : List TExpr) (os : List Int) : endP F 26 n name ks os = some (.mk 26 n name ks) := rfl
theorem endP_cond (F : Nat) (n : Int) (name : List UInt8) (a b c : TExpr) (x : Int) (os : List Int) : endP F 25 n name [a, b, c] (x :: os) = some (cond (x != 0) b c) := by
  unfold endP
  rw [show ((((x :: os).length : Nat) : Int) == 0) = false by rw [beq_eq_false_iff_ne]; simp; omega, show decide (0 < (((x :: os).length : Nat) : Int)) = true from decide_eq_true (by simp only [List.length_cons]; omega)]
  simp only [List.getD_cons_zero, List.getD_cons_succ, eta']
  cases (x != 0) <;> rfl
theorem rep_out (F : Nat) (e : TExpr) (v f : Int) : ((cond (f != 0) (some true) (some (v == (-9223372036854775808))) : Option Bool).bind fun x13 => cond x13 (some e) ((calc_constant F v).bind fun x14 => some x14)) = some (repX e v f) := by
  unfold repX
  rw [constant_x]
  cases (f != 0) <;> cases (v == -9223372036854775808) <;> rfl
theorem endP_one (F : Nat) {op : Int} (h : 3 ≤ op ∧ op ≤ 6) (n : Int) (name : List UInt8) (a : TExpr) (x : Int) : endP F op n name [a] [x] = some (repX (.mk op n name [a]) (cUn op x) 0) := by
  have h26 : (op == 26) = false := ne_beq (by omega)
  have h25 : (op == 25) = false := ne_beq (by omega)
  have h23 : (op == 23) = false := ne_beq (by omega)
  have h24 : (op == 24) = false := ne_beq (by omega)
  unfold endP
  simp only [h26, h25, h23, h24, cond_false, eta', unary_eq, Option.bind_some]
  rw [← rep_out F]
  rfl
theorem endP_two (F : Nat) {op : Int} (h : 7 ≤ op ∧ op ≤ 24) (n : Int) (name : List UInt8) (a b : TExpr) (x : Int) : endP F op n name [a, b] [x] = some (oneX op n name [a, b] (some x)) ∨ numX b ≠ none := by
  cases hb : numX b with
  | some y => exact .inr (by simp)
  | none =>
    left
    have h26 : (op == 26) = false := ne_beq (by omega)
    have h25 : (op == 25) = false := ne_beq (by omega)
    unfold endP oneX
    simp only [h26, h25, cond_false, eta', unary_eq, constant_x, Option.bind_some, List.getD_cons_zero, List.getD_cons_succ, hb, bne]
    by_cases k23 : op = 23
    · rw [show (op == 23) = true by simpa using k23, ne_beq (show op ≠ 24 by omega)]
      cases (x == 0) <;> rfl
    · rw [ne_beq k23]
      cases (op == 24) <;> cases (x == 0) <;> rfl
theorem endP_bin (F : Nat) {op : Int} (h : 7 ≤ op ∧ op ≤ 24) (n : Int) (name : List UInt8) (a b : TExpr) (x y : Int) (hb : numX b = some y) : endP F op n name [a, b] [x, y] = some (oneX op n name [a, b] (some x)) := by
  have h26 : (op == 26) = false := ne_beq (by omega)
  have h25 : (op == 25) = false := ne_beq (by omega)
  have hr := rep_out F (.mk op n name [a, b]) (cBin op x y).1 (cBin op x y).2
  unfold endP oneX
  simp only [h26, h25, cond_false, eta', unary_eq, binary_eq, Option.bind_some, List.getD_cons_zero, List.getD_cons_succ, hb]
  simp only [constant_x, Option.bind_some] at hr ⊢
  simp only [bne] at hr ⊢
  by_cases k23 : op = 23
  · rw [show (op == 23) = true by simpa using k23, ne_beq (show op ≠ 24 by omega)]
    cases (x == 0) <;> first | rfl | exact hr
  · rw [ne_beq k23]
    cases (op == 24) <;> cases (x == 0) <;> first | rfl | exact hr

theorem endR_eq (F : Nat) {op n : Int} {name : List UInt8} {ks : List TExpr} (g : Good (.mk op n name ks)) (hne : 0 < ks.length) : endR F op n name ks = some (stepX op n name ks) := by
  have hop : 1 ≤ op ∧ op ≤ 26 := g.op
  have hsh : (op = 1) ∨ (op = 2) ∨ ((3 ≤ op ∧ op ≤ 6) ∧ ks.length = 1) ∨ ((7 ≤ op ∧ op ≤ 24) ∧ ks.length = 2) ∨ (op = 25 ∧ ks.length = 3) ∨ (op = 26 ∧ ks.length = 1) := g.shape
  have hfacts : (ks.length : Int) = kidsS op := g.facts.1
  have gk : ∀ i, i < ks.length → Good (ks.getD i dTExpr) := fun i hi => (g.kidAt (i := i) hi).1
  have g3 : ∀ i, i < ks.length → (ks.getD i dTExpr).fOp = 3 → 0 < (ks.getD i dTExpr).fKids.length := fun i hi h3 => by
    rcases (gk i hi).shape with h | h | h | h | h | h <;> omega
  have rk : ∀ i, i < ks.length → ∀ a, numX (ks.getD i dTExpr) = some a → R64 a := fun i hi a ha => numX_rng (gk i hi).okn ha
  have h00 : (ks.length == 0) = false := by rw [beq_eq_false_iff_ne]; omega
  unfold endR stepX
  rw [decide_eq_true (show 0 < (ks.length : Int) by omega), number6_x F (g3 0 hne), h00]
  simp only [rq_tt, Option.bind_some, Bool.or_false, eta']
  cases h26 : (op == 26) with
  | true => rfl
  | false =>
    simp only [cond_false, Option.bind_some]
    rw [beq_eq_false_iff_ne] at h26
    cases ha : numX (ks.getD 0 dTExpr) with
    | none => rfl
    | some x =>
      have rx := rk 0 hne x ha
      have e36 : (cond (decide (3 ≤ op)) (some (decide (op ≤ 6))) (some false) : Option Bool) = some (decide (3 ≤ op) && decide (op ≤ 6)) := by cases decide (3 ≤ op) <;> rfl
      simp only [Option.isSome, Bool.not_true, cond_false, Option.getD, e36, Option.bind_some]
      rcases hsh with h | h | ⟨h, hl⟩ | ⟨h, hl⟩ | ⟨h, hl⟩ | ⟨h, hl⟩
      · subst h; rw [show kidsS 1 = 0 from rfl] at hfacts; omega
      · subst h; rw [show kidsS 2 = 0 from rfl] at hfacts; omega
      · have h25 : (op == 25) = false := ne_beq (by omega)
        have h23 : (op == 23) = false := ne_beq (by omega)
        have h24 : (op == 24) = false := ne_beq (by omega)
        rw [decide_eq_true h.1, decide_eq_true h.2]
        unfold oneX
        simp only [Bool.and_self, cond_true, h25, h23, h24, cond_false, Bool.false_and, hl, beq_self_eq_true, replaced_x, Option.bind_some, eta']
        rw [one_eq F op rx]
        rfl
      · have h25 : (op == 25) = false := ne_beq (by omega)
        have h36 : (decide (3 ≤ op) && decide (op ≤ 6)) = false := by rw [Bool.and_eq_false_iff, decide_eq_false_iff_not, decide_eq_false_iff_not]; omega
        rw [h36, decide_eq_true (show 1 < (ks.length : Int) by omega), number6_x F (g3 1 (by omega))]
        unfold oneX
        simp only [cond_false, h25, Option.bind_some, rq_tt, expr_x, replaced_x, ref_truth_eq, eta', hl]
        rw [show ((2 : Nat) == 1) = false from rfl]
        simp only [cond_false]
        have hx : (x != 0) = !(x == 0) := rfl
        rw [hx]
        cases h23 : (op == 23) with
        | true =>
          have h23' : op = 23 := by simpa using h23
          have h24 : (op == 24) = false := ne_beq (by omega)
          rw [h24]
          cases h0 : (x == 0) with
          | true => rfl
          | false =>
            simp only [cond_true, cond_false, Option.bind_some, Bool.and_false, Bool.false_and]
            cases hb : numX (ks.getD 1 dTExpr) with
            | none => rfl
            | some y =>
              simp only [Option.isSome, Bool.not_true, cond_false, Option.getD, twoX]
              have : cBin op x y = (tr (y != 0), 0) := by
                rw [h23']
                show (tr (x != 0 && y != 0), (0 : Int)) = _
                rw [hx, h0]
                rfl
              rw [this]
              unfold repX
              cases (y != 0) <;> rfl
        | false =>
          cases h24 : (op == 24) with
          | true =>
            have h24' : op = 24 := by simpa using h24
            cases h0 : (x == 0) with
            | false => rfl
            | true =>
              simp only [cond_true, cond_false, Option.bind_some, Bool.and_false, Bool.false_and, Bool.not_true]
              cases hb : numX (ks.getD 1 dTExpr) with
              | none => rfl
              | some y =>
                simp only [Option.isSome, Bool.not_true, cond_false, Option.getD, twoX]
                have : cBin op x y = (tr (y != 0), 0) := by
                  rw [h24']
                  show (tr (x != 0 || y != 0), (0 : Int)) = _
                  rw [hx, h0]
                  rfl
                rw [this]
                unfold repX
                cases (y != 0) <;> rfl
          | false =>
            rw [beq_eq_false_iff_ne] at h23 h24
            simp only [cond_false, Option.bind_some, Bool.false_and]
            cases hb : numX (ks.getD 1 dTExpr) with
            | none => rfl
            | some y =>
              simp only [Option.isSome, Bool.not_true, cond_false, Option.getD, twoX]
              rw [two_eq F op x y h23 h24]
              rfl
      · subst h
        rw [decide_eq_true (show 1 < (ks.length : Int) by omega), decide_eq_true (show 2 < (ks.length : Int) by omega)]
        unfold oneX
        cases hx : (x != 0) <;> simp only [rq_tt] <;> (try rw [hx]) <;> rfl
      · omega

theorem op3_kids {e : TExpr} {d : Int} (ho : okTExpr e) (h : validS e d = 0) : e.fOp = 3 → 0 < e.fKids.length := by
  intro h3
  have g : Good e := ⟨Vd_of e d h, ho, Vd_nms e (Vd_of e d h)⟩
  rcases g.shape with h | h | h | h | h | h <;> omega
/-- One kid more. -/
def gx (t : List TExpr × List Int) (k : TExpr) : List TExpr × List Int :=
  (t.1 ++ [foldS k], cond ((numX (foldS k)).isSome && (t.2.length == t.1.length)) (t.2 ++ [(numX (foldS k)).getD 0]) t.2)
theorem kids_len {op n : Int} {name : List UInt8} {kids : List TExpr} (g : Good (.mk op n name kids)) : kids.length ≤ 3 := by
  have hfacts : (kids.length : Int) = kidsS op := g.facts.1
  have hsh : (op = 1) ∨ (op = 2) ∨ ((3 ≤ op ∧ op ≤ 6) ∧ kids.length = 1) ∨ ((7 ≤ op ∧ op ≤ 24) ∧ kids.length = 2) ∨ (op = 25 ∧ kids.length = 3) ∨ (op = 26 ∧ kids.length = 1) := g.shape
  rcases hsh with h | h | h | h | h | h
  · subst h; rw [show kidsS 1 = 0 from rfl] at hfacts; omega
  · subst h; rw [show kidsS 2 = 0 from rfl] at hfacts; omega
  all_goals omega

theorem fold_follows (e : TExpr) : ∀ d, okTExpr e → validS e d = 0 → Evt fun F n => calc_fold_n F n e = some (foldS e) := by
  induction e using TExpr.ind with
  | h op n name kids ih =>
    intro d ho hv
    have hv' := hv
    rw [valid_unf] at hv'
    obtain ⟨h1, h2, h3, h4⟩ := hv'
    have h4 : ∀ k, k ∈ kids → validS k (d + 1) = 0 := h4
    have hok : ∀ k, k ∈ kids → okTExpr k := by
      cases ho with
      | mk _ _ _ _ a1 a2 a3 a4 a5 => exact a5
    have g : Good (.mk op n name kids) := ⟨Vd_of _ d hv, ho, Vd_nms _ (Vd_of _ d hv)⟩
    have hlen := kids_len g
    have hfacts : (kids.length : Int) = kidsS op := g.facts.1
    have hsh : (op = 1) ∨ (op = 2) ∨ ((3 ≤ op ∧ op ≤ 6) ∧ kids.length = 1) ∨ ((7 ≤ op ∧ op ≤ 24) ∧ kids.length = 2) ∨ (op = 25 ∧ kids.length = 3) ∨ (op = 26 ∧ kids.length = 1) := g.shape
    refine Evt.succ ((Evt.all fun k hk => ih k hk _ (hok k hk) (h4 k hk)).map2 (Evt.ge (p := fun F _ => 10 ≤ F) 10 fun F n h _ => h) fun F m ih' hF => ?_)
    show calc_fold_m F (calc_fold_n F m) (.mk op n name kids) = _
    unfold calc_fold_m
    show loopF _ _ _ = _
    refine loopF_foldI kids (fun i (t : List TExpr × List Int) => (t.1, t.2, (i : Int))) gx (fun i t => t.1.length = i ∧ t.2.length ≤ i) (t := ([], [])) (by omega) rfl ⟨rfl, by simp⟩ ?_ ?_ ?_
    · intro i h t rc hI
      have hm : kids[i] ∈ kids := List.getElem_mem h
      have hkeep := fold_keeps kids[i] _ (hok _ hm) (h4 _ hm)
      simp only [eta']
      show cond (decide ((i : Int) < (kids.length : Int))) _ _ = _
      rw [dlt h]
      simp only [cond_true]
      show rq ((decide (0 ≤ (i : Int))) && (decide ((i : Int) < (kids.length : Int)))) ((calc_fold_n F m (kids.getD (Int.toNat (i : Int)) dTExpr)).bind _) = _
      rw [rq_ix h, Int.toNat_natCast, gd h, ih' _ hm]
      simp only [Option.bind_some]
      rw [rq_cap (by simp; omega) (by omega), number_x F (op3_kids hkeep.1 hkeep.2.1)]
      simp only [Option.bind_some, w64_nat (i := i) (by omega)]
      have hw : w64 (((t.1 ++ [foldS kids[i]]).length : Int) - 1) = (t.1.length : Int) := by rw [w64_in (by simp; omega)]; simp
      rw [hw]
      have hb : ((t.2.length : Int) == (t.1.length : Int)) = (t.2.length == t.1.length) := by
        rw [Bool.eq_iff_iff, beq_iff_eq, beq_iff_eq]; omega
      rw [hb]
      unfold gx
      cases (numX (foldS kids[i])).isSome with
      | false => rfl
      | true =>
        cases (t.2.length == t.1.length) with
        | false => rfl
        | true =>
          simp only [cond_true, Option.bind_some, Bool.and_self]
          rw [rq_cap (by simp; omega) (by omega)]
    · intro i h t hI
      unfold gx
      refine ⟨by simp; omega, ?_⟩
      cases ((numX (foldS kids[i])).isSome && (t.2.length == t.1.length)) <;> simp <;> omega
    · intro rc hI
      have e0 : decide ((kids.length : Int) < (kids.length : Int)) = false := dltn
      show cond (decide ((kids.length : Int) < (kids.length : Int))) _ (endP F op n name (kids.foldl gx ([], [])).1 (kids.foldl gx ([], [])).2) = _
      rw [e0]
      simp only [cond_false]
      rw [foldS_eq]
      show _ = some (stepX op n name (kids.map foldS))
      rcases hsh with h | h | ⟨h, hl⟩ | ⟨h, hl⟩ | ⟨h, hl⟩ | ⟨h, hl⟩
      · subst h
        have : kids = [] := List.eq_nil_of_length_eq_zero (by rw [show kidsS 1 = 0 from rfl] at hfacts; omega)
        subst this
        rfl
      · subst h
        have : kids = [] := List.eq_nil_of_length_eq_zero (by rw [show kidsS 2 = 0 from rfl] at hfacts; omega)
        subst this
        rfl
      · obtain ⟨a, rfl⟩ := len1 hl
        have h26 : (op == 26) = false := ne_beq (by omega)
        have h25 : (op == 25) = false := ne_beq (by omega)
        have h23 : (op == 23) = false := ne_beq (by omega)
        have h24 : (op == 24) = false := ne_beq (by omega)
        unfold stepX
        rw [h26]
        simp only [List.foldl_cons, List.foldl_nil, gx, List.map_cons, List.map_nil, List.nil_append, List.getD_cons_zero, Bool.false_or]
        cases ha : numX (foldS a) with
        | none => exact endP_nil F op n name _
        | some x =>
          refine (endP_one F h n name (foldS a) x).trans ?_
          show _ = some (oneX op n name [foldS a] (some x))
          unfold oneX
          rw [h25, h23, h24]
          rfl
      · obtain ⟨a, b, rfl⟩ := len2 hl
        have h26 : (op == 26) = false := ne_beq (by omega)
        unfold stepX
        rw [h26]
        simp only [List.foldl_cons, List.foldl_nil, gx, List.map_cons, List.map_nil, List.nil_append, List.getD_cons_zero, Bool.false_or]
        cases ha : numX (foldS a) with
        | none =>
          cases hb : numX (foldS b) with
          | none => exact endP_nil F op n name _
          | some y => exact endP_nil F op n name _
        | some x =>
          cases hb : numX (foldS b) with
          | none =>
            rcases endP_two F h n name (foldS a) (foldS b) x with hh | hh
            · exact hh
            · exact absurd hb hh
          | some y => exact endP_bin F h n name (foldS a) (foldS b) x y hb
      · subst h
        obtain ⟨a, b, c, rfl⟩ := len3 hl
        unfold stepX
        simp only [List.foldl_cons, List.foldl_nil, gx, List.map_cons, List.map_nil, List.nil_append, List.getD_cons_zero]
        cases ha : numX (foldS a) with
        | none => cases hb : numX (foldS b) <;> cases hc : numX (foldS c) <;> exact endP_nil F 25 n name _
        | some x => cases hb : numX (foldS b) <;> cases hc : numX (foldS c) <;> exact endP_cond F n name (foldS a) (foldS b) (foldS c) x _
      · subst h
        obtain ⟨a, rfl⟩ := len1 hl
        exact endP_set F n name _ _

theorem ref_fold_follows (e : TExpr) : ∀ d, okTExpr e → validS e d = 0 → Evt fun F n => ref06_fold_n F n e = some (foldS e) := by
  induction e using TExpr.ind with
  | h op n name kids ih =>
    intro d ho hv
    have hv' := hv
    rw [valid_unf] at hv'
    obtain ⟨h1, h2, h3, h4⟩ := hv'
    have h4 : ∀ k, k ∈ kids → validS k (d + 1) = 0 := h4
    have hok : ∀ k, k ∈ kids → okTExpr k := by
      cases ho with
      | mk _ _ _ _ a1 a2 a3 a4 a5 => exact a5
    have g : Good (.mk op n name kids) := ⟨Vd_of _ d hv, ho, Vd_nms _ (Vd_of _ d hv)⟩
    have hks : ∀ k, k ∈ kids.map foldS → okTExpr k ∧ validS k (d + 1) = 0 := fun k hm => by
      obtain ⟨q, hq, rfl⟩ := List.mem_map.1 hm
      have := fold_keeps q _ (hok q hq) (h4 q hq)
      exact ⟨this.1, this.2.1⟩
    have hv2 : validS (.mk op n name (kids.map foldS)) d = 0 := valid_same hv (by simp) fun k hm => (hks k hm).2
    have g2 : Good (.mk op n name (kids.map foldS)) := ⟨Vd_of _ d hv2, ok_same ho (by simp) fun k hm => (hks k hm).1, Vd_nms _ (Vd_of _ d hv2)⟩
    have hlen := kids_len g
    refine Evt.succ ((Evt.all fun k hk => ih k hk _ (hok k hk) (h4 k hk)).map2 (Evt.ge (p := fun F _ => 10 ≤ F) 10 fun F n h _ => h) fun F m ih' hF => ?_)
    show ref06_fold_m F (ref06_fold_n F m) (.mk op n name kids) = _
    unfold ref06_fold_m
    by_cases h0 : kids.length = 0
    · have : kids = [] := List.eq_nil_of_length_eq_zero h0
      subst this
      show some (TExpr.mk op n name []) = _
      rw [foldS_eq]
      show _ = some (cond (op == 26 || true) (TExpr.mk op n name []) _)
      rw [Bool.or_true]
      rfl
    · show cond ((kids.length : Int) == 0) _ _ = _
      rw [ne_beq (show (kids.length : Int) ≠ 0 by omega)]
      simp only [cond_false]
      refine loopF_foldI kids (fun i (t : List TExpr) => ((i : Int), op, n, name, t)) (fun t k => t ++ [foldS k]) (fun i t => t.length = i) (t := []) (by omega) rfl rfl ?_ ?_ ?_
      · intro i h t rc hI
        have hm : kids[i] ∈ kids := List.getElem_mem h
        show cond (decide ((i : Int) < (kids.length : Int))) _ _ = _
        rw [dlt h]
        simp only [cond_true]
        show rq ((decide (0 ≤ (i : Int))) && (decide ((i : Int) < (kids.length : Int)))) ((ref06_fold_n F m (kids.getD (Int.toNat (i : Int)) dTExpr)).bind _) = _
        rw [rq_ix h, Int.toNat_natCast, gd h, ih' _ hm]
        simp only [Option.bind_some]
        rw [rq_cap (by simp; omega) (by omega), w64_nat (i := i) (by omega)]
      · intro i h t hI
        simp
        omega
      · intro rc hI
        have e0 : decide ((kids.length : Int) < (kids.length : Int)) = false := dltn
        rw [foldl_app_map, List.nil_append]
        show cond (decide ((kids.length : Int) < (kids.length : Int))) _ (endR F op n name (kids.map foldS)) = _
        rw [e0]
        simp only [cond_false]
        rw [endR_eq F g2 (by simp; omega), foldS_eq]
        rfl

theorem copied_follows {e : TExpr} (ho : okTExpr e) : nodes e ≤ 1000 → Evt fun F n => calc_copied_n F n e = some e := by
  revert e
  apply okTExpr.ind
  intro e h4' h5 ih hn
  have hlen : e.fKids.length ≤ 1000 := by
    have := nodesL_len e.fKids
    rw [nodes_eq] at hn
    omega
  refine Evt.succ ((Evt.all fun k hk => ih k hk (by have := nodes_mem hk; rw [nodes_eq] at hn; omega)).map2 (Evt.ge (p := fun F _ => e.fKids.length < F) (e.fKids.length + 1) fun F n h _ => h) fun F m ih' hF => ?_)
  show calc_copied_m F (calc_copied_n F m) e = _
  unfold calc_copied_m
  refine loopF_foldI e.fKids (fun i (t : List TExpr) => (t, (i : Int))) (fun t k => t ++ [k]) (fun i t => t.length = i) (t := []) hF rfl rfl ?_ ?_ ?_
  · intro i h t rc hI
    have hm : e.fKids[i] ∈ e.fKids := List.getElem_mem h
    simp only [eta', dlt h, dnn, Bool.and_self, cond_true, rq_tt, Int.toNat_natCast, gd h, w64_nat (i := i) (by omega)]
    rw [ih' _ hm]
    simp only [Option.bind_some]
    rw [rq_cap (by simp; omega) (by omega)]
  · intro i h t hI
    simp
    omega
  · intro rc hI
    have : e.fKids.foldl (fun t k => t ++ [k]) [] = e.fKids := by
      have := foldl_app_map (fun k : TExpr => k) e.fKids []
      simpa using this
    rw [this]
    simp only [dltn, cond_false, eta']

def FoldS (e : TExpr) : TExpr := cond (validS e 0 != 0) e (foldS e)
theorem calc_Fold_eq {e : TExpr} (ho : okTExpr e) (hn : nodes e ≤ 1000) : Evt fun F _ => calc_Fold F e = some (FoldS e) := by
  by_cases hv : validS e 0 = 0
  · refine (arith_Valid_eq ho).map2 (fold_follows e 0 ho hv).fst fun F _ h1 h2 => ?_
    unfold calc_Fold calc_fold FoldS
    simp only [eta', h1, hv, Option.bind_some, bne_self_eq_false, cond_false, h2]
  · have hv' : (validS e 0 != 0) = true := by simpa using hv
    refine (arith_Valid_eq ho).map2 (copied_follows ho hn).fst fun F _ h1 h2 => ?_
    unfold calc_Fold calc_copied FoldS
    simp only [eta', h1, hv', Option.bind_some, cond_true, h2]
theorem ref_Fold_eq {e : TExpr} (ho : okTExpr e) : Evt fun F _ => ref06_Fold F e = some (FoldS e) := by
  by_cases hv : validS e 0 = 0
  · refine (ref05_Valid_eq ho).map2 (ref_fold_follows e 0 ho hv).fst fun F _ h1 h2 => ?_
    unfold ref06_Fold ref06_fold FoldS
    simp only [eta', h1, hv, Option.bind_some, bne_self_eq_false, cond_false, h2]
  · have hv' : (validS e 0 != 0) = true := by simpa using hv
    refine (ref05_Valid_eq ho).mono fun F _ h1 => ?_
    unfold ref06_Fold FoldS
    simp only [eta', h1, hv', Option.bind_some, cond_true]
theorem FoldS_keeps {e : TExpr} (ho : okTExpr e) : okTExpr (FoldS e) ∧ nodes (FoldS e) ≤ nodes e ∧ FoldS (FoldS e) = FoldS e := by
  unfold FoldS
  by_cases hv : validS e 0 = 0
  · obtain ⟨h1, h2, h3⟩ := fold_keeps e 0 ho hv
    rw [hv]
    simp only [bne_self_eq_false, cond_false, h2]
    exact ⟨h1, h3, fold_fold e 0 ho hv⟩
  · have hv' : (validS e 0 != 0) = true := by simpa using hv
    simp only [hv', cond_true]
    exact ⟨ho, Nat.le_refl _, trivial⟩
theorem EvalS_fold {e : TExpr} (ho : okTExpr e) (l : List TBinding) : EvalS (FoldS e) l = EvalS e l := by
  unfold FoldS
  by_cases hv : validS e 0 = 0
  · obtain ⟨h1, h2, h3⟩ := fold_keeps e 0 ho hv
    rw [hv]
    simp only [bne_self_eq_false, cond_false]
    unfold EvalS
    rw [hv, h2, fold_ev e 0 ho hv]
  · have hv' : (validS e 0 != 0) = true := by simpa using hv
    simp only [hv', cond_true]

theorem calcKeeps_plain (a0 : TExpr) (a1 : List TBinding) (q0 : okTExpr a0) : ∃ F, law06_CalcKeeps F a0 a1 = some true := by
  have main : Evt fun F _ => law06_CalcKeeps F a0 a1 = some true := by
    by_cases hs : SmallS a0 = true ∧ fewS a1 = true
    · obtain ⟨k1, k2⟩ := few_ok hs.2
      obtain ⟨k3, _⟩ := SmallS_fact hs.1
      obtain ⟨f1, f2, f3⟩ := FoldS_keeps q0
      have hlen := EvalS_len q0 (l := a1) (by omega) k2 (by omega)
      refine (Small_eq q0).map3 (((calc_Eval_eq q0 (l := a1) (by omega) k2 (by omega)).and (calc_Fold_eq q0 (by omega))).and (calc_Eval_eq f1 (l := a1) (by omega) k2 (by omega))) (Evt.ge (p := fun F _ => 200000 ≤ F) 200000 fun F n h _ => h) fun F _ e1 e2 hF => ?_
      obtain ⟨⟨e2, e3⟩, e4⟩ := e2
      unfold law06_CalcKeeps
      simp only [eta']
      rw [e1, few_eq F a1 (by omega), e2, e3, hs.1, hs.2]
      simp only [Option.bind_some, e4, EvalS_fold q0, Bool.not_true, cond_false, beq_self_eq_true, cond_true, awake60]
      rw [sameB_self F _ (by omega) (by omega)]
      rfl
    · refine (Small_eq q0).map2 (Evt.ge (p := fun F _ => 20 ≤ F) 20 fun F n h _ => h) fun F _ e1 hF => ?_
      unfold law06_CalcKeeps
      simp only [eta']
      rw [e1, few_eq F a1 hF, awake60]
      cases h1 : SmallS a0 with
      | false => rfl
      | true =>
        cases h2 : fewS a1 with
        | false => rfl
        | true => exact absurd ⟨h1, h2⟩ hs
  obtain ⟨F, h⟩ := main.diag
  exact ⟨F, h⟩

theorem calcFolds_plain (a0 : TExpr) (q0 : okTExpr a0) : ∃ F, law06_CalcFolds F a0 = some true := by
  have main : Evt fun F _ => law06_CalcFolds F a0 = some true := by
    cases hs : SmallS a0 with
    | true =>
      obtain ⟨k3, _⟩ := SmallS_fact hs
      obtain ⟨f1, f2, f3⟩ := FoldS_keeps q0
      refine (Small_eq q0).map3 (((calc_Fold_eq q0 (by omega)).and (ref_Fold_eq q0)).and (calc_Fold_eq f1 (by omega))) (ref05_Same_eq f1).fst fun F _ e1 e2 e5 => ?_
      obtain ⟨⟨e2, e3⟩, e4⟩ := e2
      unfold law06_CalcFolds ref05_Same
      simp only [eta']
      rw [e1, e2, e3, hs]
      simp only [Option.bind_some, Bool.not_true, cond_false, e5, sameB_refl, cond_true, e4, f3, awake60]
    | false =>
      refine (Small_eq q0).mono fun F _ e1 => ?_
      unfold law06_CalcFolds
      simp only [eta']
      rw [e1, hs, awake60]
      rfl
  obtain ⟨F, h⟩ := main.diag
  exact ⟨F, h⟩
end Go.Proofs.YtamjncikmfpihaaGreatDoor
