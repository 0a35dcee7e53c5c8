/-
  Trees as text: the validity and the text of a tree as plain functions; numerals.
-/
import Derived.Test.YtamjncikmfpihaaGreatDoorSm1
namespace Go.Proofs.YtamjncikmfpihaaGreatDoor
open Go.RT
set_option linter.unusedVariables false
set_option linter.unusedSimpArgs false
set_option linter.all false
set_option maxRecDepth 100000

/-! ### Validity -/
def shapeBad (op n : Int) (name : List UInt8) (len : Nat) : Bool :=
  ((len : Int) != kidsS op) || (isNm op == (name == [])) || ((op == 1 && decide (n < 0)) || (op == 26 && !(n == 0 || compS n)) || (op != 1 && (op != 26 && n != 0)))
mutual
def validS : TExpr → Int → Int
  | .mk op n name kids, d => cond (decide (32 ≤ d)) 5 (cond (shapeBad op n name kids.length) 1 (cond (isNm op && !rName name) 10 (validL kids (d + 1))))
def validL : List TExpr → Int → Int
  | [], _ => 0
  | k :: l, d => cond (validS k d != 0) (validS k d) (validL l d)
end
theorem validS_eq (e : TExpr) (d : Int) : validS e d = cond (decide (32 ≤ d)) 5 (cond (shapeBad e.fOp e.fN e.fName e.fKids.length) 1 (cond (isNm e.fOp && !rName e.fName) 10 (validL e.fKids (d + 1)))) := by
  cases e; rfl

theorem refValid_eq {e : TExpr} (ho : okTExpr e) : Evt fun F n => ∀ d, 0 ≤ d → d ≤ 32 → ref05_valid_n F n e d = some (validS e d) := by
  revert e
  apply okTExpr.ind
  intro e h4 h5 ih
  refine Evt.succ ((Evt.all ih).map2 (Evt.ge (p := fun F _ => e.fKids.length + 33 < F) (e.fKids.length + 34) fun F n h _ => h) fun F m ih hF d hd0 hd1 => ?_)
  rw [validS_eq]
  show ref05_valid_m F (ref05_valid_n F m) e d = _
  unfold ref05_valid_m
  simp only [kids_eq, compR_eq, ref01_Name_eq F _ (by omega : 33 ≤ F), Option.bind_some]
  by_cases hd : 32 ≤ d
  · rw [show decide (32 ≤ d) = true by simpa using hd]; rfl
  · rw [show decide (32 ≤ d) = false by simpa using hd, w64_in (x := d + 1) (by omega)]
    rw [loopF_lrun e.fKids (fun i (_ : Unit) => (i : Int)) (fun (_ : Unit) k => (ref05_valid_n F m k (d + 1)).bind fun x => cond (x != 0) (some (.inr x)) (some (.inl ()))) (fun _ => some 0) (t := ()) (by omega) ?_ ?_ ?_]
    · have key : ∀ l : List TExpr, (∀ k, k ∈ l → k ∈ e.fKids) → lrun (fun (_ : Unit) k => (ref05_valid_n F m k (d + 1)).bind fun x => cond (x != 0) (some (.inr x)) (some (.inl ()))) (fun _ => some 0) l () = some (validL l (d + 1)) := by
        intro l
        induction l with
        | nil => intro _; rfl
        | cons k l ihl =>
          intro hm
          simp only [lrun, validL]
          rw [ih k (hm k (by simp)) (d + 1) (by omega) (by omega)]
          simp only [Option.bind_some]
          cases (validS k (d + 1) != 0)
          · simp only [cond_false, Option.bind_some, sm]
            exact ihl fun k hk => hm k (List.mem_cons_of_mem _ hk)
          · rfl
      rw [key e.fKids fun _ h => h]
      unfold shapeBad isNm
      simp only [bne]
      generalize ((e.fKids.length : Int) == kidsS e.fOp) = c0
      cases c0 <;> cases (e.fOp == 2) <;> cases (e.fOp == 26) <;> cases (e.fOp == 1) <;> cases (e.fName == []) <;> cases (decide (e.fN < 0)) <;> cases (e.fN == 0) <;> cases (compS e.fN) <;> cases (rName e.fName) <;> rfl
    · rfl
    · intro i h t rc
      simp only [dlt h, dnn, Bool.and_self, cond_true, rq_tt, Int.toNat_natCast, gd h, w64_nat (i := i) (by omega)]
      cases ref05_valid_n F m e.fKids[i] (d + 1) with
      | none => rfl
      | some x =>
        simp only [Option.bind_some]
        cases (x != 0) <;> rfl
    · intro t rc
      simp only [dltn, cond_false]
theorem arithValid_eq {e : TExpr} (ho : okTExpr e) : Evt fun F n => ∀ d, 0 ≤ d → d ≤ 32 → arith_valid_n F n e d = some (validS e d) :=
  (refValid_eq ho).map2 (Evt.ge (p := fun F _ => 33 ≤ F) 33 fun F n h _ => h) fun F n h hF d h0 h1 => by
    obtain ⟨G, rfl⟩ : ∃ G, F = G + 20 := ⟨F - 20, by omega⟩
    rw [valid_eq G (by omega) n e d h0 h1]
    exact h d h0 h1

/-- A valid tree's shape. -/
inductive Vd : TExpr → Prop
  | mk (op n : Int) (name : List UInt8) (kids : List TExpr) (h1 : (kids.length : Int) = kidsS op) (h2 : isNm op = !(name == [])) (h3 : op = 1 → 0 ≤ n) (h4 : op = 26 → n = 0 ∨ compS n = true) (h5 : op ≠ 1 → op ≠ 26 → n = 0)
      (h6 : isNm op = true → rName name = true) (h7 : ∀ k, k ∈ kids → Vd k) : Vd (.mk op n name kids)
theorem validL_zero : ∀ (l : List TExpr) (d : Int), validL l d = 0 ↔ ∀ k, k ∈ l → validS k d = 0
  | [], d => by simp [validL]
  | k :: l, d => by
    simp only [validL, List.mem_cons, forall_eq_or_imp]
    rw [← validL_zero l d]
    cases h : (validS k d != 0) with
    | true =>
      have : validS k d ≠ 0 := by simpa using h
      simp [this]
    | false =>
      have : validS k d = 0 := by simpa using h
      simp [this]
theorem shape_ok {op n : Int} {name : List UInt8} {len : Nat} (h : shapeBad op n name len = false) :
    (len : Int) = kidsS op ∧ isNm op = !(name == []) ∧ (op = 1 → 0 ≤ n) ∧ (op = 26 → n = 0 ∨ compS n = true) ∧ (op ≠ 1 → op ≠ 26 → n = 0) := by
  unfold shapeBad at h
  simp only [Bool.or_eq_false_iff, Bool.and_eq_false_iff, bne_eq_false_iff_eq, decide_eq_false_iff_not, beq_eq_false_iff_ne, Bool.not_eq_false', Bool.or_eq_true, beq_iff_eq] at h
  obtain ⟨⟨h1, h2⟩, ⟨h3, h4⟩, h5⟩ := h
  refine ⟨h1, ?_, ?_, ?_, ?_⟩
  · cases hn : isNm op <;> cases he : (name == []) <;> rw [hn, he] at h2 <;> simp at h2 ⊢
  · intro e; subst e; simp at h3; omega
  · intro e; subst e; simpa using h4
  · intro e1 e2; rcases h5 with h | h | h <;> first | exact absurd h e1 | exact absurd h e2 | exact h
theorem Vd_of (e : TExpr) : ∀ d, validS e d = 0 → Vd e := by
  induction e using TExpr.ind with
  | h op n name kids ih =>
    intro d h
    simp only [validS] at h
    cases h0 : decide (32 ≤ d) with
    | true => rw [h0] at h; simp at h
    | false =>
      rw [h0] at h
      cases h1 : shapeBad op n name kids.length with
      | true => rw [h1] at h; simp at h
      | false =>
        rw [h1] at h
        cases h2 : (isNm op && !rName name) with
        | true => rw [h2] at h; simp at h
        | false =>
          rw [h2] at h
          simp only [cond_false] at h
          rw [validL_zero] at h
          obtain ⟨a, b, c, d', e⟩ := shape_ok h1
          refine .mk op n name kids a b c d' e (fun hn => ?_) fun k hk => ih k hk _ (h k hk)
          rw [hn] at h2
          simpa using h2

/-! ### Text -/
def par (b : Bool) (s : List UInt8) : List UInt8 := cond b (([40] ++ s) ++ [41]) s
def bodyS (op n : Int) (name : List UInt8) (ks : List (Int → List UInt8)) : List UInt8 :=
  cond ((descS op).1 == 1) ((((name ++ [32]) ++ (descS n).2) ++ [61, 32]) ++ (ks.getD 0 fun _ => []) 1)
  (cond ((descS op).1 == 2) ((((((ks.getD 0 fun _ => []) 3 ++ [32, 63, 32]) ++ (ks.getD 1 fun _ => []) 1)) ++ [32, 58, 32]) ++ (ks.getD 2 fun _ => []) 2)
  (cond ((descS op).1 == 13) ((descS op).2 ++ (ks.getD 0 fun _ => []) 13)
  (cond ((descS op).1 == 14) (cond (op == 1) (Lib.itoa n) name)
  ((((ks.getD 0 fun _ => []) (descS op).1 ++ (([32] ++ (descS op).2) ++ [32]))) ++ (ks.getD 1 fun _ => []) ((descS op).1 + 1)))))
mutual
/-- A tree's text as an operand where the level least is asked for. -/
def opndS : TExpr → Int → List UInt8
  | .mk op n name kids, l => par (decide ((descS op).1 < l)) (bodyS op n name (opndL kids))
def opndL : List TExpr → List (Int → List UInt8)
  | [] => []
  | k :: l => opndS k :: opndL l
end
theorem opndL_map : ∀ l, opndL l = l.map opndS
  | [] => rfl
  | k :: l => by simp only [opndL, List.map_cons, opndL_map l]
def showS (e : TExpr) : List UInt8 := bodyS e.fOp e.fN e.fName (e.fKids.map opndS)
theorem opndS_eq (e : TExpr) (l : Int) : opndS e l = par (decide ((descS e.fOp).1 < l)) (showS e) := by
  cases e; simp only [opndS, showS, opndL_map, TExpr.fOp, TExpr.fN, TExpr.fName, TExpr.fKids]; rfl
theorem kid_at (l : List TExpr) (i : Nat) (h : i < l.length) : (l.map opndS).getD i (fun _ => []) = opndS (l.getD i dTExpr) := by
  rw [gd (by simpa using h), gd h, List.getElem_map]

/-- Facts about an operator that has kids, by its number. -/
theorem op_range {op : Int} {n : Nat} (h : (n : Int) = kidsS op) : 1 ≤ op ∧ op ≤ 26 := by
  by_cases h1 : 1 ≤ op ∧ op ≤ 26
  · exact h1
  · exfalso
    have e1 : (op == 1) = false := by rw [beq_eq_false_iff_ne]; omega
    have e2 : (op == 2) = false := by rw [beq_eq_false_iff_ne]; omega
    have e3 : (op == 25) = false := by rw [beq_eq_false_iff_ne]; omega
    have e4 : (op == 26) = false := by rw [beq_eq_false_iff_ne]; omega
    have k1 : (decide (3 ≤ op) && decide (op ≤ 6)) = false := by
      rw [Bool.and_eq_false_iff, decide_eq_false_iff_not, decide_eq_false_iff_not]; omega
    have k2 : (decide (7 ≤ op) && decide (op ≤ 24)) = false := by
      rw [Bool.and_eq_false_iff, decide_eq_false_iff_not, decide_eq_false_iff_not]; omega
    simp only [kidsS, e1, e2, e3, e4, k1, k2, Bool.or_false, cond_false] at h
    omega
theorem op_cases {op : Int} (h : 1 ≤ op ∧ op ≤ 26) : op = 1 ∨ op = 2 ∨ op = 3 ∨ op = 4 ∨ op = 5 ∨ op = 6 ∨ op = 7 ∨ op = 8 ∨ op = 9 ∨ op = 10 ∨ op = 11 ∨ op = 12 ∨ op = 13 ∨ op = 14 ∨ op = 15 ∨ op = 16 ∨ op = 17 ∨ op = 18 ∨ op = 19 ∨ op = 20 ∨ op = 21 ∨ op = 22 ∨ op = 23 ∨ op = 24 ∨ op = 25 ∨ op = 26 := by omega
/-- The five kinds of operators. -/
inductive Kind (op : Int) : Prop
  | num (h : op = 1 ∨ op = 2) (hk : kidsS op = 0) (hl : (descS op).1 = 14)
  | un (h : 3 ≤ op ∧ op ≤ 6) (hk : kidsS op = 1) (hl : (descS op).1 = 13) (hs : (descS op).2.length = 1)
  | bin (h : 7 ≤ op ∧ op ≤ 24) (hk : kidsS op = 2) (hl : 3 ≤ (descS op).1 ∧ (descS op).1 ≤ 12) (hs : (descS op).2.length ≤ 2)
  | con (h : op = 25) (hk : kidsS op = 3) (hl : (descS op).1 = 2)
  | set (h : op = 26) (hk : kidsS op = 1) (hl : (descS op).1 = 1)
theorem kind {op : Int} (h : 1 ≤ op ∧ op ≤ 26) : Kind op := by
  rcases op_cases h with rfl | rfl | rfl | rfl | rfl | rfl | rfl | rfl | rfl | rfl | rfl | rfl | rfl | rfl | rfl | rfl | rfl | rfl | rfl | rfl | rfl | rfl | rfl | rfl | rfl | rfl <;>
    first | exact .num (by decide) (by decide) (by decide) | exact .un (by decide) (by decide) (by decide) (by decide) | exact .bin (by decide) (by decide) (by decide) (by decide) | exact .con rfl (by decide) (by decide) | exact .set rfl (by decide) (by decide)
theorem desc_len (n : Int) : (descS n).2.length ≤ 2 := by
  by_cases h : 1 ≤ n ∧ n ≤ 26
  · rcases op_cases h with rfl | rfl | rfl | rfl | rfl | rfl | rfl | rfl | rfl | rfl | rfl | rfl | rfl | rfl | rfl | rfl | rfl | rfl | rfl | rfl | rfl | rfl | rfl | rfl | rfl | rfl <;> decide
  · unfold descS descB
    repeat' (rw [Bool.cond_eq_ite]; split)
    all_goals simp

theorem nDigits_le : ∀ (k u : Nat), u < 10 ^ (k + 1) → Lib.nDigits u ≤ k + 1
  | 0, u, h => by rw [Lib.nDigits_small (by simpa using h)]; exact Nat.le_refl _
  | k + 1, u, h => by
    by_cases h1 : u < 10
    · rw [Lib.nDigits_small h1]; omega
    · rw [Lib.nDigits_big h1]
      rw [Nat.pow_succ] at h
      have := nDigits_le k (u / 10) (by omega)
      omega
theorem itoa_len {n : Int} (h0 : 0 ≤ n) (h1 : n ≤ 9223372036854775807) : (Lib.itoa n).length ≤ 20 := by
  unfold Lib.itoa
  rw [if_neg (by omega), Lib.decDigits_length]
  have := nDigits_le 18 n.toNat (by omega)
  omega

/-- A valid tree of the arguments' kind, with small names. -/
structure Good (e : TExpr) : Prop where
  v : Vd e
  o : okTExpr e
  m : Nms e
theorem Good.kid {e : TExpr} (g : Good e) : ∀ k, k ∈ e.fKids → Good k := by
  obtain ⟨v, o, m⟩ := g
  cases e with
  | mk op n name kids =>
    cases v with
    | mk _ _ _ _ h1 h2 h3 h4 h5 h6 h7 =>
      cases o with
      | mk _ _ _ _ a1 a2 a3 a4 a5 =>
        cases m with
        | mk _ _ _ _ b1 b2 => exact fun k hk => ⟨h7 k hk, a5 k hk, b2 k hk⟩
theorem Good.ind {P : TExpr → Prop} (h : ∀ e, Good e → (∀ k, k ∈ e.fKids → P k) → P e) : ∀ e, Good e → P e := by
  intro e
  induction e using TExpr.ind with
  | h op n name kids ih =>
    intro g
    exact h _ g fun k hk => ih k hk (g.kid k hk)
theorem wf64 {n : Int} (h : (Lit.int .i64 n).wf = true) : -9223372036854775808 ≤ n ∧ n ≤ 9223372036854775807 := by
  have h1 : IntKind.i64.min = -9223372036854775808 := by decide
  have h2 : IntKind.i64.max = 9223372036854775807 := by decide
  simp only [Lit.wf, Bool.and_eq_true, decide_eq_true_eq, h1, h2] at h
  omega
theorem Good.facts {e : TExpr} (g : Good e) : (e.fKids.length : Int) = kidsS e.fOp ∧ (e.fOp = 1 → 0 ≤ e.fN) ∧ e.fN ≤ 9223372036854775807 ∧ e.fName.length ≤ 60 ∧ (e.fOp = 26 → e.fN = 0 ∨ compS e.fN = true) := by
  obtain ⟨v, o, m⟩ := g
  cases e with
  | mk op n name kids =>
    cases v with
    | mk _ _ _ _ h1 h2 h3 h4 h5 h6 h7 =>
      cases o with
      | mk _ _ _ _ a1 a2 a3 a4 a5 =>
        cases m with
        | mk _ _ _ _ b1 b2 => exact ⟨h1, h3, (wf64 a2).2, b1, h4⟩
theorem len1 {l : List TExpr} (h : l.length = 1) : ∃ a, l = [a] := by
  match l, h with
  | [a], _ => exact ⟨a, rfl⟩
theorem len2 {l : List TExpr} (h : l.length = 2) : ∃ a b, l = [a, b] := by
  match l, h with
  | [a, b], _ => exact ⟨a, b, rfl⟩
theorem len3 {l : List TExpr} (h : l.length = 3) : ∃ a b c, l = [a, b, c] := by
  match l, h with
  | [a, b, c], _ => exact ⟨a, b, c, rfl⟩

/-- How long a text is. -/
theorem par_len (b : Bool) (s : List UInt8) : (par b s).length ≤ s.length + 2 := by cases b <;> simp [par]
theorem show_len {e : TExpr} (g : Good e) (ih : ∀ k, k ∈ e.fKids → ∀ l, (opndS k l).length ≤ 100 * nodes k) : (showS e).length + 2 ≤ 100 * nodes e := by
  obtain ⟨h1, h2, h3, h4, h5⟩ := g.facts
  have hn := nodes_eq e
  unfold showS bodyS
  have hd := desc_len e.fN
  rcases kind (op_range h1) with ⟨h, hk, hl⟩ | ⟨h, hk, hl, hs⟩ | ⟨h, hk, hl, hs⟩ | ⟨h, hk, hl⟩ | ⟨h, hk, hl⟩
  · rw [hl]
    rcases h with h | h
    · have := itoa_len (h2 h) h3
      simp [h]; omega
    · simp [h]; omega
  · obtain ⟨a, ha⟩ := len1 (l := e.fKids) (by omega)
    rw [ha] at ih hn ⊢
    have := ih a (by simp) 13
    simp only [nodesL] at hn
    simp [hl, hs]; omega
  · obtain ⟨a, b, ha⟩ := len2 (l := e.fKids) (by omega)
    rw [ha] at ih hn ⊢
    have i1 := ih a (by simp) (descS e.fOp).1
    have i2 := ih b (by simp) ((descS e.fOp).1 + 1)
    simp only [nodesL] at hn
    have c1 : ((descS e.fOp).1 == 1) = false := by rw [beq_eq_false_iff_ne]; omega
    have c2 : ((descS e.fOp).1 == 2) = false := by rw [beq_eq_false_iff_ne]; omega
    have c3 : ((descS e.fOp).1 == 13) = false := by rw [beq_eq_false_iff_ne]; omega
    have c4 : ((descS e.fOp).1 == 14) = false := by rw [beq_eq_false_iff_ne]; omega
    simp [c1, c2, c3, c4]; omega
  · obtain ⟨a, b, c, ha⟩ := len3 (l := e.fKids) (by omega)
    rw [ha] at ih hn ⊢
    have i1 := ih a (by simp) 3
    have i2 := ih b (by simp) 1
    have i3 := ih c (by simp) 2
    simp only [nodesL] at hn
    simp [hl]; omega
  · obtain ⟨a, ha⟩ := len1 (l := e.fKids) (by omega)
    rw [ha] at ih hn ⊢
    have := ih a (by simp) 1
    simp only [nodesL] at hn
    simp [hl]; omega
theorem opnd_len : ∀ e, Good e → ∀ l, (opndS e l).length ≤ 100 * nodes e := by
  apply Good.ind
  intro e g ih l
  rw [opndS_eq]
  have := par_len (decide ((descS e.fOp).1 < l)) (showS e)
  have := show_len g ih
  omega

theorem small_rq {n : Nat} {inst : Decidable (n ≤ 9223372036854775807)} (h : n ≤ 1000000) {R : Type} (k : Option R) : rq (@decide (n ≤ 9223372036854775807) inst) k = k := rq_true (decide_eq_true (by omega))
/-! ### The reference -/
theorem level_eq (F : Nat) {op : Int} (h : 1 ≤ op ∧ op ≤ 26) : ref05_Level F op = some (descS op).1 := by
  rcases op_cases h with rfl | rfl | rfl | rfl | rfl | rfl | rfl | rfl | rfl | rfl | rfl | rfl | rfl | rfl | rfl | rfl | rfl | rfl | rfl | rfl | rfl | rfl | rfl | rfl | rfl | rfl <;> rfl
theorem sign_eq (F : Nat) {op : Int} (h : 3 ≤ op ∧ op ≤ 24) : ref05_sign F op = some (descS op).2 := by
  rcases op_cases (op := op) (by omega) with rfl | rfl | rfl | rfl | rfl | rfl | rfl | rfl | rfl | rfl | rfl | rfl | rfl | rfl | rfl | rfl | rfl | rfl | rfl | rfl | rfl | rfl | rfl | rfl | rfl | rfl <;> first | omega | rfl
theorem dig_byte {d : Nat} (h : d < 10) : toBytes ([IntKind.wrap .u8 (IntKind.wrap .u64 (48 + (d : Int)))] : List Int) = [UInt8.ofNat (48 + d)] := by
  have : d = 0 ∨ d = 1 ∨ d = 2 ∨ d = 3 ∨ d = 4 ∨ d = 5 ∨ d = 6 ∨ d = 7 ∨ d = 8 ∨ d = 9 := by omega
  rcases this with rfl | rfl | rfl | rfl | rfl | rfl | rfl | rfl | rfl | rfl <;> rfl
theorem digits_loop : ∀ (k u m : Nat) (out : List UInt8), u < 10 ^ (k + 1) → u < 18446744073709551616 → k < m → out.length + k ≤ 1000 → loopF (σ := Int × (List UInt8)) (R := List UInt8) (fun rc2 x1 =>
     cond (decide (9 < x1.1))
     (rq (decide ((toBytes ([IntKind.wrap .u8 (IntKind.wrap .u64 (48 + (Int.tmod x1.1 10)))] : List Int)).length + x1.2.length ≤ 9223372036854775807)) (rc2 (IntKind.wrap .u64 (Int.tdiv x1.1 10), (toBytes ([IntKind.wrap .u8 (IntKind.wrap .u64 (48 + (Int.tmod x1.1 10)))] : List Int)) ++ x1.2)))
     (rq (decide ((toBytes ([IntKind.wrap .u8 (IntKind.wrap .u64 (48 + x1.1))] : List Int)).length + x1.2.length ≤ 9223372036854775807)) (some ((toBytes ([IntKind.wrap .u8 (IntKind.wrap .u64 (48 + x1.1))] : List Int)) ++ x1.2)))) m ((u : Int), out) = some (Lib.decDigits u ++ out)
  | k, u, 0, out, _, _, h, _ => by omega
  | k, u, m + 1, out, hu, hu', hk, ho => by
    simp only [loopF]
    by_cases h9 : u < 10
    · rw [show decide (9 < (u : Int)) = false by simp; omega]
      simp only [cond_false]
      rw [dig_byte h9, small_rq (by simp; omega), Lib.decDigits_one h9]
    · have e1 : Int.tmod (u : Int) 10 = ((u % 10 : Nat) : Int) := IntWalk.up_tmod rfl rfl
      have e2 : Int.tdiv (u : Int) 10 = ((u / 10 : Nat) : Int) := IntWalk.up_tdiv rfl rfl
      rw [show decide (9 < (u : Int)) = true by simp; omega]
      simp only [cond_true, e1, e2]
      rw [dig_byte (Nat.mod_lt _ (by decide)), small_rq (by simp; omega), IntWalk.u64_in _ (by omega)]
      cases k with
      | zero => simp at hu; omega
      | succ k =>
        rw [Nat.pow_succ] at hu
        rw [digits_loop k (u / 10) m _ (by omega) (by omega) (by omega) (by simp; omega)]
        rw [Lib.decDigits.eq_1 u, dif_neg h9]
        simp
theorem decimal_eq (F : Nat) (hF : 30 ≤ F) {n : Int} (h0 : 0 ≤ n) (h1 : n ≤ 9223372036854775807) : ref05_Decimal F n = some (Lib.itoa n) := by
  obtain ⟨u, rfl⟩ : ∃ u : Nat, n = u := ⟨n.toNat, by omega⟩
  unfold ref05_Decimal ref05_digits
  rw [show decide ((u : Int) < 0) = false by simp, IntWalk.u64_in (u : Int) (by omega)]
  simp only [cond_false]
  rw [digits_loop 20 u F [] (by omega) (by omega) (by omega) (by simp)]
  unfold Lib.itoa
  rw [if_neg (by omega)]
  simp
theorem validS_good {e : TExpr} (ho : okTExpr e) (hm : Nms e) (h : validS e 0 = 0) : Good e := ⟨Vd_of e 0 h, ho, hm⟩
theorem arith_Valid_eq {e : TExpr} (ho : okTExpr e) : Evt fun F _ => arith_Valid F e = some (validS e 0) :=
  (arithValid_eq ho).fst.mono fun F _ h => by
    unfold arith_Valid arith_valid
    rw [TExpr.eta, h 0 (by omega) (by omega)]
    rfl

end Go.Proofs.YtamjncikmfpihaaGreatDoor
