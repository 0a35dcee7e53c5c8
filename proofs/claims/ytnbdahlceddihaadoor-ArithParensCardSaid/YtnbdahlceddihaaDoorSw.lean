/-
  Trees as text: the validity and the text of a tree as plain functions; what the two models of Show give; the plain law of ArithShows.
-/
import Derived.Test.YtnbdahlceddihaaDoorSm
namespace Go.Proofs.YtnbdahlceddihaaDoor
open Go.RT
set_option linter.unusedVariables false
set_option linter.unusedSimpArgs false
set_option linter.all false
set_option maxRecDepth 100000

/-! ### Validity -/
def shapeBad (op n : Int) (name : List UInt8) (len : Nat) : Bool :=
  ((len : Int) != kidsS op) || (isNm op == (name == [])) || ((op == 1 && decide (n < 0)) || (op == 26 && !(n == 0 || compS n)) || (op != 1 && (op != 26 && n != 0)))
mutual
def validS : TExpr → Int → Int
  | .mk op n name kids, d => cond (decide (32 ≤ d)) 5 (cond (shapeBad op n name kids.length) 1 (cond (isNm op && !rName name) 10 (validL kids (d + 1))))
def validL : List TExpr → Int → Int
  | [], _ => 0
  | k :: l, d => cond (validS k d != 0) (validS k d) (validL l d)
end
theorem validS_eq (e : TExpr) (d : Int) : validS e d = cond (decide (32 ≤ d)) 5 (cond (shapeBad e.fOp e.fN e.fName e.fKids.length) 1 (cond (isNm e.fOp && !rName e.fName) 10 (validL e.fKids (d + 1)))) := by
  cases e; rfl

theorem refValid_eq {e : TExpr} (ho : okTExpr e) : Evt fun F n => ∀ d, 0 ≤ d → d ≤ 32 → ref05_valid_n F n e d = some (validS e d) := by
  revert e
  apply okTExpr.ind
  intro e h4 h5 ih
  refine Evt.succ ((Evt.all ih).map2 (Evt.ge (p := fun F _ => e.fKids.length + 33 < F) (e.fKids.length + 34) fun F n h _ => h) fun F m ih hF d hd0 hd1 => ?_)
  rw [validS_eq]
  show ref05_valid_m F (ref05_valid_n F m) e d = _
  unfold ref05_valid_m
  simp only [kids_eq, compR_eq, ref01_Name_eq F _ (by omega : 33 ≤ F), Option.bind_some]
  by_cases hd : 32 ≤ d
  · rw [show decide (32 ≤ d) = true by simpa using hd]; rfl
  · rw [show decide (32 ≤ d) = false by simpa using hd, w64_in (x := d + 1) (by omega)]
    rw [loopF_lrun e.fKids (fun i (_ : Unit) => (i : Int)) (fun (_ : Unit) k => (ref05_valid_n F m k (d + 1)).bind fun x => cond (x != 0) (some (.inr x)) (some (.inl ()))) (fun _ => some 0) (t := ()) (by omega) ?_ ?_ ?_]
    · have key : ∀ l : List TExpr, (∀ k, k ∈ l → k ∈ e.fKids) → lrun (fun (_ : Unit) k => (ref05_valid_n F m k (d + 1)).bind fun x => cond (x != 0) (some (.inr x)) (some (.inl ()))) (fun _ => some 0) l () = some (validL l (d + 1)) := by
        intro l
        induction l with
        | nil => intro _; rfl
        | cons k l ihl =>
          intro hm
          simp only [lrun, validL]
          rw [ih k (hm k (by simp)) (d + 1) (by omega) (by omega)]
          simp only [Option.bind_some]
          cases (validS k (d + 1) != 0)
          · simp only [cond_false, Option.bind_some, sm]
            exact ihl fun k hk => hm k (List.mem_cons_of_mem _ hk)
          · rfl
      rw [key e.fKids fun _ h => h]
      unfold shapeBad isNm
      simp only [bne]
      generalize ((e.fKids.length : Int) == kidsS e.fOp) = c0
      cases c0 <;> cases (e.fOp == 2) <;> cases (e.fOp == 26) <;> cases (e.fOp == 1) <;> cases (e.fName == []) <;> cases (decide (e.fN < 0)) <;> cases (e.fN == 0) <;> cases (compS e.fN) <;> cases (rName e.fName) <;> rfl
    · rfl
    · intro i h t rc
      simp only [dlt h, dnn, Bool.and_self, cond_true, rq_tt, Int.toNat_natCast, gd h, w64_nat (i := i) (by omega)]
      cases ref05_valid_n F m e.fKids[i] (d + 1) with
      | none => rfl
      | some x =>
        simp only [Option.bind_some]
        cases (x != 0) <;> rfl
    · intro t rc
      simp only [dltn, cond_false]
theorem arithValid_eq {e : TExpr} (ho : okTExpr e) : Evt fun F n => ∀ d, 0 ≤ d → d ≤ 32 → arith_valid_n F n e d = some (validS e d) :=
  (refValid_eq ho).map2 (Evt.ge (p := fun F _ => 33 ≤ F) 33 fun F n h _ => h) fun F n h hF d h0 h1 => by
    obtain ⟨G, rfl⟩ : ∃ G, F = G + 20 := ⟨F - 20, by omega⟩
    rw [valid_eq G (by omega) n e d h0 h1]
    exact h d h0 h1

/-- A valid tree's shape. -/
inductive Vd : TExpr → Prop
  | mk (op n : Int) (name : List UInt8) (kids : List TExpr) (h1 : (kids.length : Int) = kidsS op) (h2 : isNm op = !(name == [])) (h3 : op = 1 → 0 ≤ n) (h4 : op = 26 → n = 0 ∨ compS n = true) (h5 : op ≠ 1 → op ≠ 26 → n = 0)
      (h6 : isNm op = true → rName name = true) (h7 : ∀ k, k ∈ kids → Vd k) : Vd (.mk op n name kids)
theorem validL_zero : ∀ (l : List TExpr) (d : Int), validL l d = 0 ↔ ∀ k, k ∈ l → validS k d = 0
  | [], d => by simp [validL]
  | k :: l, d => by
    simp only [validL, List.mem_cons, forall_eq_or_imp]
    rw [← validL_zero l d]
    cases h : (validS k d != 0) with
    | true =>
      have : validS k d ≠ 0 := by simpa using h
      simp [this]
    | false =>
      have : validS k d = 0 := by simpa using h
      simp [this]
theorem shape_ok {op n : Int} {name : List UInt8} {len : Nat} (h : shapeBad op n name len = false) :
    (len : Int) = kidsS op ∧ isNm op = !(name == []) ∧ (op = 1 → 0 ≤ n) ∧ (op = 26 → n = 0 ∨ compS n = true) ∧ (op ≠ 1 → op ≠ 26 → n = 0) := by
  unfold shapeBad at h
  simp only [Bool.or_eq_false_iff, Bool.and_eq_false_iff, bne_eq_false_iff_eq, decide_eq_false_iff_not, beq_eq_false_iff_ne, Bool.not_eq_false', Bool.or_eq_true, beq_iff_eq] at h
  obtain ⟨⟨h1, h2⟩, ⟨h3, h4⟩, h5⟩ := h
  refine ⟨h1, ?_, ?_, ?_, ?_⟩
  · cases hn : isNm op <;> cases he : (name == []) <;> rw [hn, he] at h2 <;> simp at h2 ⊢
  · intro e; subst e; simp at h3; omega
  · intro e; subst e; simpa using h4
  · intro e1 e2; rcases h5 with h | h | h <;> first | exact absurd h e1 | exact absurd h e2 | exact h
theorem Vd_of (e : TExpr) : ∀ d, validS e d = 0 → Vd e := by
  induction e using TExpr.ind with
  | h op n name kids ih =>
    intro d h
    simp only [validS] at h
    cases h0 : decide (32 ≤ d) with
    | true => rw [h0] at h; simp at h
    | false =>
      rw [h0] at h
      cases h1 : shapeBad op n name kids.length with
      | true => rw [h1] at h; simp at h
      | false =>
        rw [h1] at h
        cases h2 : (isNm op && !rName name) with
        | true => rw [h2] at h; simp at h
        | false =>
          rw [h2] at h
          simp only [cond_false] at h
          rw [validL_zero] at h
          obtain ⟨a, b, c, d', e⟩ := shape_ok h1
          refine .mk op n name kids a b c d' e (fun hn => ?_) fun k hk => ih k hk _ (h k hk)
          rw [hn] at h2
          simpa using h2

/-! ### Text -/
def par (b : Bool) (s : List UInt8) : List UInt8 := cond b (([40] ++ s) ++ [41]) s
def bodyS (op n : Int) (name : List UInt8) (ks : List (Int → List UInt8)) : List UInt8 :=
  cond ((descS op).1 == 1) ((((name ++ [32]) ++ (descS n).2) ++ [61, 32]) ++ (ks.getD 0 fun _ => []) 1)
  (cond ((descS op).1 == 2) ((((((ks.getD 0 fun _ => []) 3 ++ [32, 63, 32]) ++ (ks.getD 1 fun _ => []) 1)) ++ [32, 58, 32]) ++ (ks.getD 2 fun _ => []) 2)
  (cond ((descS op).1 == 13) ((descS op).2 ++ (ks.getD 0 fun _ => []) 13)
  (cond ((descS op).1 == 14) (cond (op == 1) (Lib.itoa n) name)
  ((((ks.getD 0 fun _ => []) (descS op).1 ++ (([32] ++ (descS op).2) ++ [32]))) ++ (ks.getD 1 fun _ => []) ((descS op).1 + 1)))))
mutual
/-- A tree's text as an operand where the level least is asked for. -/
def opndS : TExpr → Int → List UInt8
  | .mk op n name kids, l => par (decide ((descS op).1 < l)) (bodyS op n name (opndL kids))
def opndL : List TExpr → List (Int → List UInt8)
  | [] => []
  | k :: l => opndS k :: opndL l
end
theorem opndL_map : ∀ l, opndL l = l.map opndS
  | [] => rfl
  | k :: l => by simp only [opndL, List.map_cons, opndL_map l]
def showS (e : TExpr) : List UInt8 := bodyS e.fOp e.fN e.fName (e.fKids.map opndS)
theorem opndS_eq (e : TExpr) (l : Int) : opndS e l = par (decide ((descS e.fOp).1 < l)) (showS e) := by
  cases e; simp only [opndS, showS, opndL_map, TExpr.fOp, TExpr.fN, TExpr.fName, TExpr.fKids]; rfl
theorem kid_at (l : List TExpr) (i : Nat) (h : i < l.length) : (l.map opndS).getD i (fun _ => []) = opndS (l.getD i dTExpr) := by
  rw [gd (by simpa using h), gd h, List.getElem_map]

/-- Facts about an operator that has kids, by its number. -/
theorem op_range {op : Int} {n : Nat} (h : (n : Int) = kidsS op) : 1 ≤ op ∧ op ≤ 26 := by
  by_cases h1 : 1 ≤ op ∧ op ≤ 26
  · exact h1
  · exfalso
    have e1 : (op == 1) = false := by rw [beq_eq_false_iff_ne]; omega
    have e2 : (op == 2) = false := by rw [beq_eq_false_iff_ne]; omega
    have e3 : (op == 25) = false := by rw [beq_eq_false_iff_ne]; omega
    have e4 : (op == 26) = false := by rw [beq_eq_false_iff_ne]; omega
    have k1 : (decide (3 ≤ op) && decide (op ≤ 6)) = false := by
      rw [Bool.and_eq_false_iff, decide_eq_false_iff_not, decide_eq_false_iff_not]; omega
    have k2 : (decide (7 ≤ op) && decide (op ≤ 24)) = false := by
      rw [Bool.and_eq_false_iff, decide_eq_false_iff_not, decide_eq_false_iff_not]; omega
    simp only [kidsS, e1, e2, e3, e4, k1, k2, Bool.or_false, cond_false] at h
    omega
theorem op_cases {op : Int} (h : 1 ≤ op ∧ op ≤ 26) : op = 1 ∨ op = 2 ∨ op = 3 ∨ op = 4 ∨ op = 5 ∨ op = 6 ∨ op = 7 ∨ op = 8 ∨ op = 9 ∨ op = 10 ∨ op = 11 ∨ op = 12 ∨ op = 13 ∨ op = 14 ∨ op = 15 ∨ op = 16 ∨ op = 17 ∨ op = 18 ∨ op = 19 ∨ op = 20 ∨ op = 21 ∨ op = 22 ∨ op = 23 ∨ op = 24 ∨ op = 25 ∨ op = 26 := by omega
/-- The five kinds of operators. -/
inductive Kind (op : Int) : Prop
  | num (h : op = 1 ∨ op = 2) (hk : kidsS op = 0) (hl : (descS op).1 = 14)
  | un (h : 3 ≤ op ∧ op ≤ 6) (hk : kidsS op = 1) (hl : (descS op).1 = 13) (hs : (descS op).2.length = 1)
  | bin (h : 7 ≤ op ∧ op ≤ 24) (hk : kidsS op = 2) (hl : 3 ≤ (descS op).1 ∧ (descS op).1 ≤ 12) (hs : (descS op).2.length ≤ 2)
  | con (h : op = 25) (hk : kidsS op = 3) (hl : (descS op).1 = 2)
  | set (h : op = 26) (hk : kidsS op = 1) (hl : (descS op).1 = 1)
theorem kind {op : Int} (h : 1 ≤ op ∧ op ≤ 26) : Kind op := by
  rcases op_cases h with rfl | rfl | rfl | rfl | rfl | rfl | rfl | rfl | rfl | rfl | rfl | rfl | rfl | rfl | rfl | rfl | rfl | rfl | rfl | rfl | rfl | rfl | rfl | rfl | rfl | rfl <;>
    first | exact .num (by decide) (by decide) (by decide) | exact .un (by decide) (by decide) (by decide) (by decide) | exact .bin (by decide) (by decide) (by decide) (by decide) | exact .con rfl (by decide) (by decide) | exact .set rfl (by decide) (by decide)
theorem desc_len (n : Int) : (descS n).2.length ≤ 2 := by
  by_cases h : 1 ≤ n ∧ n ≤ 26
  · rcases op_cases h with rfl | rfl | rfl | rfl | rfl | rfl | rfl | rfl | rfl | rfl | rfl | rfl | rfl | rfl | rfl | rfl | rfl | rfl | rfl | rfl | rfl | rfl | rfl | rfl | rfl | rfl <;> decide
  · unfold descS descB
    repeat' (rw [Bool.cond_eq_ite]; split)
    all_goals simp

theorem nDigits_le : ∀ (k u : Nat), u < 10 ^ (k + 1) → Lib.nDigits u ≤ k + 1
  | 0, u, h => by rw [Lib.nDigits_small (by simpa using h)]; exact Nat.le_refl _
  | k + 1, u, h => by
    by_cases h1 : u < 10
    · rw [Lib.nDigits_small h1]; omega
    · rw [Lib.nDigits_big h1]
      rw [Nat.pow_succ] at h
      have := nDigits_le k (u / 10) (by omega)
      omega
theorem itoa_len {n : Int} (h0 : 0 ≤ n) (h1 : n ≤ 9223372036854775807) : (Lib.itoa n).length ≤ 20 := by
  unfold Lib.itoa
  rw [if_neg (by omega), Lib.decDigits_length]
  have := nDigits_le 18 n.toNat (by omega)
  omega

/-- A valid tree of the arguments' kind, with small names. -/
structure Good (e : TExpr) : Prop where
  v : Vd e
  o : okTExpr e
  m : Nms e
theorem Good.kid {e : TExpr} (g : Good e) : ∀ k, k ∈ e.fKids → Good k := by
  obtain ⟨v, o, m⟩ := g
  cases e with
  | mk op n name kids =>
    cases v with
    | mk _ _ _ _ h1 h2 h3 h4 h5 h6 h7 =>
      cases o with
      | mk _ _ _ _ a1 a2 a3 a4 a5 =>
        cases m with
        | mk _ _ _ _ b1 b2 => exact fun k hk => ⟨h7 k hk, a5 k hk, b2 k hk⟩
theorem Good.ind {P : TExpr → Prop} (h : ∀ e, Good e → (∀ k, k ∈ e.fKids → P k) → P e) : ∀ e, Good e → P e := by
  intro e
  induction e using TExpr.ind with
  | h op n name kids ih =>
    intro g
    exact h _ g fun k hk => ih k hk (g.kid k hk)
theorem wf64 {n : Int} (h : (Lit.int .i64 n).wf = true) : -9223372036854775808 ≤ n ∧ n ≤ 9223372036854775807 := by
  have h1 : IntKind.i64.min = -9223372036854775808 := by decide
  have h2 : IntKind.i64.max = 9223372036854775807 := by decide
  simp only [Lit.wf, Bool.and_eq_true, decide_eq_true_eq, h1, h2] at h
  omega
theorem Good.facts {e : TExpr} (g : Good e) : (e.fKids.length : Int) = kidsS e.fOp ∧ (e.fOp = 1 → 0 ≤ e.fN) ∧ e.fN ≤ 9223372036854775807 ∧ e.fName.length ≤ 60 ∧ (e.fOp = 26 → e.fN = 0 ∨ compS e.fN = true) := by
  obtain ⟨v, o, m⟩ := g
  cases e with
  | mk op n name kids =>
    cases v with
    | mk _ _ _ _ h1 h2 h3 h4 h5 h6 h7 =>
      cases o with
      | mk _ _ _ _ a1 a2 a3 a4 a5 =>
        cases m with
        | mk _ _ _ _ b1 b2 => exact ⟨h1, h3, (wf64 a2).2, b1, h4⟩
theorem len1 {l : List TExpr} (h : l.length = 1) : ∃ a, l = [a] := by
  match l, h with
  | [a], _ => exact ⟨a, rfl⟩
theorem len2 {l : List TExpr} (h : l.length = 2) : ∃ a b, l = [a, b] := by
  match l, h with
  | [a, b], _ => exact ⟨a, b, rfl⟩
theorem len3 {l : List TExpr} (h : l.length = 3) : ∃ a b c, l = [a, b, c] := by
  match l, h with
  | [a, b, c], _ => exact ⟨a, b, c, rfl⟩

/-- How long a text is. -/
theorem par_len (b : Bool) (s : List UInt8) : (par b s).length ≤ s.length + 2 := by cases b <;> simp [par]
theorem show_len {e : TExpr} (g : Good e) (ih : ∀ k, k ∈ e.fKids → ∀ l, (opndS k l).length ≤ 100 * nodes k) : (showS e).length + 2 ≤ 100 * nodes e := by
  obtain ⟨h1, h2, h3, h4, h5⟩ := g.facts
  have hn := nodes_eq e
  unfold showS bodyS
  have hd := desc_len e.fN
  rcases kind (op_range h1) with ⟨h, hk, hl⟩ | ⟨h, hk, hl, hs⟩ | ⟨h, hk, hl, hs⟩ | ⟨h, hk, hl⟩ | ⟨h, hk, hl⟩
  · rw [hl]
    rcases h with h | h
    · have := itoa_len (h2 h) h3
      simp [h]; omega
    · simp [h]; omega
  · obtain ⟨a, ha⟩ := len1 (l := e.fKids) (by omega)
    rw [ha] at ih hn ⊢
    have := ih a (by simp) 13
    simp only [nodesL] at hn
    simp [hl, hs]; omega
  · obtain ⟨a, b, ha⟩ := len2 (l := e.fKids) (by omega)
    rw [ha] at ih hn ⊢
    have i1 := ih a (by simp) (descS e.fOp).1
    have i2 := ih b (by simp) ((descS e.fOp).1 + 1)
    simp only [nodesL] at hn
    have c1 : ((descS e.fOp).1 == 1) = false := by rw [beq_eq_false_iff_ne]; omega
    have c2 : ((descS e.fOp).1 == 2) = false := by rw [beq_eq_false_iff_ne]; omega
    have c3 : ((descS e.fOp).1 == 13) = false := by rw [beq_eq_false_iff_ne]; omega
    have c4 : ((descS e.fOp).1 == 14) = false := by rw [beq_eq_false_iff_ne]; omega
    simp [c1, c2, c3, c4]; omega
  · obtain ⟨a, b, c, ha⟩ := len3 (l := e.fKids) (by omega)
    rw [ha] at ih hn ⊢
    have i1 := ih a (by simp) 3
    have i2 := ih b (by simp) 1
    have i3 := ih c (by simp) 2
    simp only [nodesL] at hn
    simp [hl]; omega
  · obtain ⟨a, ha⟩ := len1 (l := e.fKids) (by omega)
    rw [ha] at ih hn ⊢
    have := ih a (by simp) 1
    simp only [nodesL] at hn
    simp [hl]; omega
theorem opnd_len : ∀ e, Good e → ∀ l, (opndS e l).length ≤ 100 * nodes e := by
  apply Good.ind
  intro e g ih l
  rw [opndS_eq]
  have := par_len (decide ((descS e.fOp).1 < l)) (showS e)
  have := show_len g ih
  omega

/-! ### The program's writer -/
theorem rq_bind {α β : Type} (c : Bool) (k : Option α) (f : α → Option β) : (rq c k).bind f = rq c (k.bind f) := by cases c <;> rfl
theorem toInts_app (a b : List UInt8) : toInts (a ++ b) = toInts a ++ toInts b := List.map_append
theorem toInts_len (a : List UInt8) : (toInts a).length = a.length := List.length_map _
theorem copy_eq (F : Nat) (c : Bool) (buf : List Int) : strings_Builder_copyCheck F c buf = some (true, buf) := by cases c <;> rfl
theorem wB (F : Nat) (b : Int) (c : Bool) (buf : List Int) (h : buf.length ≤ 1000000) : strings_Builder_WriteByte F b c buf = some (true, buf ++ [b]) := by
  unfold strings_Builder_WriteByte
  rw [copy_eq]
  simp only [Option.bind_some]
  rw [rq_true]
  simp; omega
theorem wS (F : Nat) (s : List UInt8) (c : Bool) (buf : List Int) (h : buf.length + s.length ≤ 1000000) : strings_Builder_WriteString F s c buf = some ((s.length : Int), true, buf ++ toInts s) := by
  unfold strings_Builder_WriteString
  rw [copy_eq]
  simp only [Option.bind_some]
  rw [rq_true]
  simp [toInts_len]; omega

def coreW (F : Nat) (r : TExpr → Int → Bool → (List Int) → Option (Bool × (List Int))) (a0 : TExpr) (x1 : Int × List UInt8) (a2 : Bool) (a3 : List Int) : Option (Bool × (List Int)) :=
 (cond (x1.1 == 1)
 ((arith_describe F a0.fN).bind fun x25 =>
 rq (decide (a0.fName.length + ([32] : List UInt8).length ≤ 9223372036854775807)) (rq (decide ((a0.fName ++ ([32] : List UInt8)).length + x25.2.length ≤ 9223372036854775807)) (rq (decide (((a0.fName ++ ([32] : List UInt8)) ++ x25.2).length + ([61, 32] : List UInt8).length ≤ 9223372036854775807)) ((strings_Builder_WriteString F (((a0.fName ++ ([32] : List UInt8)) ++ x25.2) ++ ([61, 32] : List UInt8)) a2 a3).bind fun x26 =>
 rq (decide (0 < (a0.fKids.length : Int))) ((r (a0.fKids.getD 0 dTExpr) 1 x26.2.1 x26.2.2).bind fun x27 =>
 some (x27.1, x27.2))))))
 (cond (x1.1 == 2)
 (rq (decide (0 < (a0.fKids.length : Int))) ((r (a0.fKids.getD 0 dTExpr) 3 a2 a3).bind fun x28 =>
 (strings_Builder_WriteString F ([32, 63, 32] : List UInt8) x28.1 x28.2).bind fun x29 =>
 rq (decide (1 < (a0.fKids.length : Int))) ((r (a0.fKids.getD 1 dTExpr) 1 x29.2.1 x29.2.2).bind fun x30 =>
 (strings_Builder_WriteString F ([32, 58, 32] : List UInt8) x30.1 x30.2).bind fun x31 =>
 rq (decide (2 < (a0.fKids.length : Int))) ((r (a0.fKids.getD 2 dTExpr) 2 x31.2.1 x31.2.2).bind fun x32 =>
 some (x32.1, x32.2)))))
 (cond (x1.1 == 13)
 ((strings_Builder_WriteString F x1.2 a2 a3).bind fun x33 =>
 rq (decide (0 < (a0.fKids.length : Int))) ((r (a0.fKids.getD 0 dTExpr) 13 x33.2.1 x33.2.2).bind fun x34 =>
 some (x34.1, x34.2)))
 (cond (x1.1 == 14)
 (cond (a0.fOp == 1)
 ((itoaF F a0.fN).bind fun x35 =>
 (strings_Builder_WriteString F x35 a2 a3).bind fun x36 =>
 some (x36.2.1, x36.2.2))
 ((strings_Builder_WriteString F a0.fName a2 a3).bind fun x37 =>
 some (x37.2.1, x37.2.2)))
 (rq (decide (0 < (a0.fKids.length : Int))) ((r (a0.fKids.getD 0 dTExpr) x1.1 a2 a3).bind fun x38 =>
 rq (decide (([32] : List UInt8).length + x1.2.length ≤ 9223372036854775807)) (rq (decide ((([32] : List UInt8) ++ x1.2).length + ([32] : List UInt8).length ≤ 9223372036854775807)) ((strings_Builder_WriteString F ((([32] : List UInt8) ++ x1.2) ++ ([32] : List UInt8)) x38.1 x38.2).bind fun x39 =>
 rq (decide (1 < (a0.fKids.length : Int))) ((r (a0.fKids.getD 1 dTExpr) (w64 (x1.1 + 1)) x39.2.1 x39.2.2).bind fun x40 =>
 some (x40.1, x40.2))))))))))
theorem write_split (F : Nat) (r : TExpr → Int → Bool → (List Int) → Option (Bool × (List Int))) (e : TExpr) (l : Int) (c : Bool) (buf : List Int) : arith_write_m F r e l c buf =
    (arith_describe F e.fOp).bind fun x1 => cond (decide (x1.1 < l)) ((strings_Builder_WriteByte F 40 c buf).bind fun x2 => (coreW F r e x1 x2.1 x2.2).bind fun y => (strings_Builder_WriteByte F 41 y.1 y.2).bind fun z => some (z.1, z.2)) (coreW F r e x1 c buf) := by
  unfold arith_write_m
  congr 1
  funext x1
  congr 1
  congr 1
  funext x2
  unfold coreW
  cases (x1.1 == 1)
  · cases (x1.1 == 2)
    · cases (x1.1 == 13)
      · cases (x1.1 == 14)
        · simp only [cond_false, rq_bind, Option.bind_assoc, Option.bind_some]
        · cases (e.fOp == 1) <;> simp only [cond_true, cond_false, rq_bind, Option.bind_assoc, Option.bind_some]
      · simp only [cond_true, cond_false, rq_bind, Option.bind_assoc, Option.bind_some]
    · simp only [cond_true, cond_false, rq_bind, Option.bind_assoc, Option.bind_some]
  · simp only [cond_true, rq_bind, Option.bind_assoc, Option.bind_some]

theorem d0 {n : Nat} {inst : Decidable ((0 : Int) < (n : Int))} (h : 0 < n) : @decide ((0 : Int) < (n : Int)) inst = true := decide_eq_true (by omega)
theorem d1 {n : Nat} {inst : Decidable ((1 : Int) < (n : Int))} (h : 1 < n) : @decide ((1 : Int) < (n : Int)) inst = true := decide_eq_true (by omega)
theorem d2 {n : Nat} {inst : Decidable ((2 : Int) < (n : Int))} (h : 2 < n) : @decide ((2 : Int) < (n : Int)) inst = true := decide_eq_true (by omega)
theorem small_rq {n : Nat} {inst : Decidable (n ≤ 9223372036854775807)} (h : n ≤ 1000000) {R : Type} (k : Option R) : rq (@decide (n ≤ 9223372036854775807) inst) k = k := rq_true (decide_eq_true (by omega))

theorem core_eq {F : Nat} (hF : 20 ≤ F) {r : TExpr → Int → Bool → (List Int) → Option (Bool × (List Int))} {e : TExpr} (g : Good e)
    (ih : ∀ k, k ∈ e.fKids → ∀ l c buf, buf.length + 100 * nodes k ≤ 100000 → r k l c buf = some (true, buf ++ toInts (opndS k l))) (c : Bool) (buf : List Int) (hb : buf.length + 100 * nodes e ≤ 100001) :
    coreW F r e (descS e.fOp) c buf = some (true, buf ++ toInts (showS e)) := by
  obtain ⟨h1, h2, h3, h4, h5⟩ := g.facts
  have hn := nodes_eq e
  have hd : ∀ a, arith_describe F a = some (descS a) := fun a => by
    obtain ⟨G, rfl⟩ : ∃ G, F = G + 20 := ⟨F - 20, by omega⟩
    exact describe_eq G a
  have hD := desc_len e.fN
  have ol := fun k (hk : k ∈ e.fKids) l => opnd_len k (g.kid k hk) l
  unfold coreW showS bodyS
  rcases kind (op_range h1) with ⟨h, hk, hl⟩ | ⟨h, hk, hl, hs⟩ | ⟨h, hk, hl, hs⟩ | ⟨h, hk, hl⟩ | ⟨h, hk, hl⟩
  · have c1 : ((descS e.fOp).1 == 1) = false := by rw [hl]; rfl
    have c2 : ((descS e.fOp).1 == 2) = false := by rw [hl]; rfl
    have c3 : ((descS e.fOp).1 == 13) = false := by rw [hl]; rfl
    have c4 : ((descS e.fOp).1 == 14) = true := by rw [hl]; rfl
    rcases h with h | h
    · have hi := itoa_len (h2 h) h3
      have e1 : itoaF F e.fN = some (Lib.itoa e.fN) := by
        unfold itoaF
        rw [rq_true]
        have := h2 h
        simp only [Bool.and_eq_true, decide_eq_true_eq]; omega
      have c5 : (e.fOp == 1) = true := by rw [h]; rfl
      simp only [c1, c2, c3, c4, c5, cond_true, cond_false, e1, Option.bind_some]
      rw [wS F _ c buf (by omega)]
      rfl
    · have c5 : (e.fOp == 1) = false := by rw [h]; rfl
      simp only [c1, c2, c3, c4, c5, cond_true, cond_false]
      rw [wS F e.fName c buf (by omega)]
      rfl
  · obtain ⟨a, ha⟩ := len1 (l := e.fKids) (by omega)
    rw [ha] at ih hn ol
    have o1 := ol a (by simp) 13
    simp only [nodesL] at hn
    have c1 : ((descS e.fOp).1 == 1) = false := by rw [hl]; rfl
    have c2 : ((descS e.fOp).1 == 2) = false := by rw [hl]; rfl
    have c3 : ((descS e.fOp).1 == 13) = true := by rw [hl]; rfl
    have c4 : ((descS e.fOp).1 == 14) = false := by rw [hl]; rfl
    simp only [c1, c2, c3, cond_true, cond_false, d0 (n := e.fKids.length) (by omega), rq_tt]
    rw [ha, wS F _ c buf (by omega)]
    show (r a 13 true (buf ++ toInts (descS e.fOp).2)).bind _ = _
    rw [ih a (by simp) 13 true _ (by simp only [List.length_append, toInts_len]; omega)]
    show some (true, (buf ++ toInts (descS e.fOp).2) ++ toInts (opndS a 13)) = some (true, buf ++ toInts ((descS e.fOp).2 ++ opndS a 13))
    rw [toInts_app, List.append_assoc]
  · obtain ⟨a, b, ha⟩ := len2 (l := e.fKids) (by omega)
    rw [ha] at ih hn ol
    have o1 := ol a (by simp) (descS e.fOp).1
    have o2 := ol b (by simp) ((descS e.fOp).1 + 1)
    simp only [nodesL] at hn
    have c1 : ((descS e.fOp).1 == 1) = false := by rw [beq_eq_false_iff_ne]; omega
    have c2 : ((descS e.fOp).1 == 2) = false := by rw [beq_eq_false_iff_ne]; omega
    have c3 : ((descS e.fOp).1 == 13) = false := by rw [beq_eq_false_iff_ne]; omega
    have c4 : ((descS e.fOp).1 == 14) = false := by rw [beq_eq_false_iff_ne]; omega
    simp only [c1, c2, c3, c4, cond_true, cond_false, d0 (n := e.fKids.length) (by omega), d1 (n := e.fKids.length) (by omega), rq_tt]
    rw [ha, w64_in (x := (descS e.fOp).1 + 1) (by omega)]
    show (r a (descS e.fOp).1 c buf).bind _ = _
    rw [ih a (by simp) _ c buf (by omega)]
    simp only [Option.bind_some]
    rw [small_rq (by simp; omega), small_rq (by simp; omega), wS F _ true _ (by simp only [List.length_append, toInts_len, List.length_cons, List.length_nil]; omega)]
    show (r b ((descS e.fOp).1 + 1) true _).bind _ = _
    rw [ih b (by simp) _ true _ (by simp only [List.length_append, toInts_len, List.length_cons, List.length_nil]; omega)]
    show some (true, ((buf ++ toInts (opndS a (descS e.fOp).1)) ++ toInts (([32] ++ (descS e.fOp).2) ++ [32])) ++ toInts (opndS b ((descS e.fOp).1 + 1))) = some (true, buf ++ toInts ((opndS a (descS e.fOp).1 ++ (([32] ++ (descS e.fOp).2) ++ [32])) ++ opndS b ((descS e.fOp).1 + 1)))
    simp only [toInts_app, List.append_assoc]
  · obtain ⟨a, b, d, ha⟩ := len3 (l := e.fKids) (by omega)
    rw [ha] at ih hn ol
    have o1 := ol a (by simp) 3
    have o2 := ol b (by simp) 1
    have o3 := ol d (by simp) 2
    simp only [nodesL] at hn
    have c1 : ((descS e.fOp).1 == 1) = false := by rw [hl]; rfl
    have c2 : ((descS e.fOp).1 == 2) = true := by rw [hl]; rfl
    have c3 : ((descS e.fOp).1 == 13) = false := by rw [hl]; rfl
    have c4 : ((descS e.fOp).1 == 14) = false := by rw [hl]; rfl
    simp only [c1, c2, cond_true, cond_false, d0 (n := e.fKids.length) (by omega), d1 (n := e.fKids.length) (by omega), d2 (n := e.fKids.length) (by omega), rq_tt]
    rw [ha]
    show (r a 3 c buf).bind _ = _
    rw [ih a (by simp) _ c buf (by omega)]
    simp only [Option.bind_some]
    rw [wS F _ true _ (by simp only [List.length_append, toInts_len, List.length_cons, List.length_nil]; omega)]
    show (r b 1 true _).bind _ = _
    rw [ih b (by simp) _ true _ (by simp only [List.length_append, toInts_len, List.length_cons, List.length_nil]; omega)]
    simp only [Option.bind_some]
    rw [wS F _ true _ (by simp only [List.length_append, toInts_len, List.length_cons, List.length_nil]; omega)]
    show (r d 2 true _).bind _ = _
    rw [ih d (by simp) _ true _ (by simp only [List.length_append, toInts_len, List.length_cons, List.length_nil]; omega)]
    show some (true, ((((buf ++ toInts (opndS a 3)) ++ toInts [32, 63, 32]) ++ toInts (opndS b 1)) ++ toInts [32, 58, 32]) ++ toInts (opndS d 2)) = some (true, buf ++ toInts ((((opndS a 3 ++ [32, 63, 32]) ++ opndS b 1) ++ [32, 58, 32]) ++ opndS d 2))
    simp only [toInts_app, List.append_assoc]
  · obtain ⟨a, ha⟩ := len1 (l := e.fKids) (by omega)
    rw [ha] at ih hn ol
    have o1 := ol a (by simp) 1
    simp only [nodesL] at hn
    have c1 : ((descS e.fOp).1 == 1) = true := by rw [hl]; rfl
    have c2 : ((descS e.fOp).1 == 2) = false := by rw [hl]; rfl
    have c3 : ((descS e.fOp).1 == 13) = false := by rw [hl]; rfl
    have c4 : ((descS e.fOp).1 == 14) = false := by rw [hl]; rfl
    simp only [c1, cond_true, d0 (n := e.fKids.length) (by omega), rq_tt, hd, Option.bind_some]
    rw [ha]
    rw [small_rq (by simp; omega), small_rq (by simp; omega), small_rq (by simp; omega)]
    rw [wS F _ c buf (by simp only [List.length_append, toInts_len, List.length_cons, List.length_nil]; omega)]
    show (r a 1 true _).bind _ = _
    rw [ih a (by simp) 1 true _ (by simp only [List.length_append, toInts_len, List.length_cons, List.length_nil]; omega)]
    show some (true, (buf ++ toInts (((e.fName ++ [32]) ++ (descS e.fN).2) ++ [61, 32])) ++ toInts (opndS a 1)) = some (true, buf ++ toInts ((((e.fName ++ [32]) ++ (descS e.fN).2) ++ [61, 32]) ++ opndS a 1))
    simp only [toInts_app, List.append_assoc]

theorem write_eq : ∀ e, Good e → Evt fun F n => ∀ l c buf, buf.length + 100 * nodes e ≤ 100000 → arith_write_n F n e l c buf = some (true, buf ++ toInts (opndS e l)) := by
  apply Good.ind
  intro e g ih
  refine Evt.succ ((Evt.all ih).map2 (Evt.ge (p := fun F _ => 20 ≤ F) 20 fun F n h _ => h) fun F m ih hF l c buf hb => ?_)
  show arith_write_m F (arith_write_n F m) e l c buf = _
  have hd : ∀ a, arith_describe F a = some (descS a) := fun a => by
    obtain ⟨G, rfl⟩ : ∃ G, F = G + 20 := ⟨F - 20, by omega⟩
    exact describe_eq G a
  have hsl := show_len g fun k hk => opnd_len k (g.kid k hk)
  rw [write_split, hd, opndS_eq]
  simp only [Option.bind_some]
  cases decide ((descS e.fOp).1 < l) with
  | false => exact core_eq hF g ih c buf (by omega)
  | true =>
    simp only [cond_true]
    rw [wB F 40 c buf (by omega)]
    simp only [Option.bind_some]
    have hlen : (showS e).length + 2 ≤ 100 * nodes e := hsl
    rw [core_eq hF g ih true (buf ++ [40]) (by simp; omega)]
    simp only [Option.bind_some]
    rw [wB F 41 true _ (by simp only [List.length_append, toInts_len, List.length_cons, List.length_nil]; omega)]
    simp only [Option.bind_some, par, cond_true, toInts_app, List.append_assoc]
    rfl

/-! ### The reference -/
theorem level_eq (F : Nat) {op : Int} (h : 1 ≤ op ∧ op ≤ 26) : ref05_Level F op = some (descS op).1 := by
  rcases op_cases h with rfl | rfl | rfl | rfl | rfl | rfl | rfl | rfl | rfl | rfl | rfl | rfl | rfl | rfl | rfl | rfl | rfl | rfl | rfl | rfl | rfl | rfl | rfl | rfl | rfl | rfl <;> rfl
theorem sign_eq (F : Nat) {op : Int} (h : 3 ≤ op ∧ op ≤ 24) : ref05_sign F op = some (descS op).2 := by
  rcases op_cases (op := op) (by omega) with rfl | rfl | rfl | rfl | rfl | rfl | rfl | rfl | rfl | rfl | rfl | rfl | rfl | rfl | rfl | rfl | rfl | rfl | rfl | rfl | rfl | rfl | rfl | rfl | rfl | rfl <;> first | omega | rfl
theorem dig_byte {d : Nat} (h : d < 10) : toBytes ([IntKind.wrap .u8 (IntKind.wrap .u64 (48 + (d : Int)))] : List Int) = [UInt8.ofNat (48 + d)] := by
  have : d = 0 ∨ d = 1 ∨ d = 2 ∨ d = 3 ∨ d = 4 ∨ d = 5 ∨ d = 6 ∨ d = 7 ∨ d = 8 ∨ d = 9 := by omega
  rcases this with rfl | rfl | rfl | rfl | rfl | rfl | rfl | rfl | rfl | rfl <;> rfl
theorem digits_loop : ∀ (k u m : Nat) (out : List UInt8), u < 10 ^ (k + 1) → u < 18446744073709551616 → k < m → out.length + k ≤ 1000 → loopF (σ := Int × (List UInt8)) (R := List UInt8) (fun rc2 x1 =>
     cond (decide (9 < x1.1))
     (rq (decide ((toBytes ([IntKind.wrap .u8 (IntKind.wrap .u64 (48 + (Int.tmod x1.1 10)))] : List Int)).length + x1.2.length ≤ 9223372036854775807)) (rc2 (IntKind.wrap .u64 (Int.tdiv x1.1 10), (toBytes ([IntKind.wrap .u8 (IntKind.wrap .u64 (48 + (Int.tmod x1.1 10)))] : List Int)) ++ x1.2)))
     (rq (decide ((toBytes ([IntKind.wrap .u8 (IntKind.wrap .u64 (48 + x1.1))] : List Int)).length + x1.2.length ≤ 9223372036854775807)) (some ((toBytes ([IntKind.wrap .u8 (IntKind.wrap .u64 (48 + x1.1))] : List Int)) ++ x1.2)))) m ((u : Int), out) = some (Lib.decDigits u ++ out)
  | k, u, 0, out, _, _, h, _ => by omega
  | k, u, m + 1, out, hu, hu', hk, ho => by
    simp only [loopF]
    by_cases h9 : u < 10
    · rw [show decide (9 < (u : Int)) = false by simp; omega]
      simp only [cond_false]
      rw [dig_byte h9, small_rq (by simp; omega), Lib.decDigits_one h9]
    · have e1 : Int.tmod (u : Int) 10 = ((u % 10 : Nat) : Int) := IntWalk.up_tmod rfl rfl
      have e2 : Int.tdiv (u : Int) 10 = ((u / 10 : Nat) : Int) := IntWalk.up_tdiv rfl rfl
      rw [show decide (9 < (u : Int)) = true by simp; omega]
      simp only [cond_true, e1, e2]
      rw [dig_byte (Nat.mod_lt _ (by decide)), small_rq (by simp; omega), IntWalk.u64_in _ (by omega)]
      cases k with
      | zero => simp at hu; omega
      | succ k =>
        rw [Nat.pow_succ] at hu
        rw [digits_loop k (u / 10) m _ (by omega) (by omega) (by omega) (by simp; omega)]
        rw [Lib.decDigits.eq_1 u, dif_neg h9]
        simp
theorem decimal_eq (F : Nat) (hF : 30 ≤ F) {n : Int} (h0 : 0 ≤ n) (h1 : n ≤ 9223372036854775807) : ref05_Decimal F n = some (Lib.itoa n) := by
  obtain ⟨u, rfl⟩ : ∃ u : Nat, n = u := ⟨n.toNat, by omega⟩
  unfold ref05_Decimal ref05_digits
  rw [show decide ((u : Int) < 0) = false by simp, IntWalk.u64_in (u : Int) (by omega)]
  simp only [cond_false]
  rw [digits_loop 20 u F [] (by omega) (by omega) (by omega) (by simp)]
  unfold Lib.itoa
  rw [if_neg (by omega)]
  simp

theorem refShow_eq : ∀ e, Good e → nodes e ≤ 1000 → Evt fun F n => ref05_show_n F n e = some (showS e) ∧ ∀ l, ref05_operand_n F n e l = some (opndS e l) := by
  apply Good.ind
  intro e g ih hn0
  obtain ⟨h1, h2, h3, h4, h5⟩ := g.facts
  have hn := nodes_eq e
  have hD := desc_len e.fN
  have ol := fun k (hk : k ∈ e.fKids) l => opnd_len k (g.kid k hk) l
  have hsl := show_len g fun k hk => opnd_len k (g.kid k hk)
  have hr := op_range h1
  have hs : Evt fun F n => ref05_show_n F n e = some (showS e) := by
    refine Evt.succ ((Evt.all fun k hk => ih k hk (by have := nodes_mem hk; omega)).map2 (Evt.ge (p := fun F _ => 30 ≤ F) 30 fun F n h _ => h) fun F m ih hF => ?_)
    have ih := fun k hk l => (ih k hk).2 l
    show ref05_show_m F (ref05_show_n F m) (ref05_operand_n F m) e = _
    unfold ref05_show_m
    rw [level_eq F hr]
    simp only [Option.bind_some]
    unfold showS bodyS
    rcases kind hr with ⟨h, hk, hl⟩ | ⟨h, hk, hl, hs⟩ | ⟨h, hk, hl, hs⟩ | ⟨h, hk, hl⟩ | ⟨h, hk, hl⟩
    · have c1 : ((descS e.fOp).1 == 1) = false := by rw [hl]; rfl
      have c2 : ((descS e.fOp).1 == 2) = false := by rw [hl]; rfl
      have c3 : ((descS e.fOp).1 == 13) = false := by rw [hl]; rfl
      have c4 : ((descS e.fOp).1 == 14) = true := by rw [hl]; rfl
      rcases h with h | h
      · have c5 : (e.fOp == 1) = true := by rw [h]; rfl
        simp only [c1, c2, c3, c4, c5, cond_true, cond_false, decimal_eq F hF (h2 h) h3, Option.bind_some]
      · have c5 : (e.fOp == 1) = false := by rw [h]; rfl
        have c6 : (e.fOp == 2) = true := by rw [h]; rfl
        simp only [c1, c2, c3, c4, c5, c6, cond_true, cond_false]
    · obtain ⟨a, ha⟩ := len1 (l := e.fKids) (by omega)
      rw [ha] at ih hn ol
      have o1 := ol a (by simp) 13
      simp only [nodesL] at hn
      have c1 : ((descS e.fOp).1 == 1) = false := by rw [hl]; rfl
      have c2 : ((descS e.fOp).1 == 2) = false := by rw [hl]; rfl
      have c3 : ((descS e.fOp).1 == 13) = true := by rw [hl]; rfl
      have c5 : (e.fOp == 1) = false := by rw [beq_eq_false_iff_ne]; omega
      have c6 : (e.fOp == 2) = false := by rw [beq_eq_false_iff_ne]; omega
      simp only [c1, c2, c3, c5, c6, cond_true, cond_false, d0 (n := e.fKids.length) (by omega), rq_tt, sign_eq F (op := e.fOp) (by omega), Option.bind_some]
      rw [ha]
      show (ref05_operand_n F m a 13).bind _ = _
      rw [ih a (by simp)]
      simp only [Option.bind_some]
      rw [small_rq (by omega)]
      rfl
    · obtain ⟨a, b, ha⟩ := len2 (l := e.fKids) (by omega)
      rw [ha] at ih hn ol
      have o1 := ol a (by simp) (descS e.fOp).1
      have o2 := ol b (by simp) ((descS e.fOp).1 + 1)
      simp only [nodesL] at hn
      have c1 : ((descS e.fOp).1 == 1) = false := by rw [beq_eq_false_iff_ne]; omega
      have c2 : ((descS e.fOp).1 == 2) = false := by rw [beq_eq_false_iff_ne]; omega
      have c3 : ((descS e.fOp).1 == 13) = false := by rw [beq_eq_false_iff_ne]; omega
      have c4 : ((descS e.fOp).1 == 14) = false := by rw [beq_eq_false_iff_ne]; omega
      have c5 : (e.fOp == 1) = false := by rw [beq_eq_false_iff_ne]; omega
      have c6 : (e.fOp == 2) = false := by rw [beq_eq_false_iff_ne]; omega
      have c7 : (e.fOp == 26) = false := by rw [beq_eq_false_iff_ne]; omega
      have c8 : (e.fOp == 25) = false := by rw [beq_eq_false_iff_ne]; omega
      simp only [c1, c2, c3, c4, c5, c6, c7, c8, cond_true, cond_false, d0 (n := e.fKids.length) (by omega), d1 (n := e.fKids.length) (by omega), rq_tt, sign_eq F (op := e.fOp) (by omega), Option.bind_some]
      rw [ha, w64_in (x := (descS e.fOp).1 + 1) (by omega)]
      show (ref05_operand_n F m a (descS e.fOp).1).bind _ = _
      rw [ih a (by simp)]
      simp only [Option.bind_some]
      rw [small_rq (by simp; omega), small_rq (by simp; omega), small_rq (by simp; omega)]
      show (ref05_operand_n F m b ((descS e.fOp).1 + 1)).bind _ = _
      rw [ih b (by simp)]
      simp only [Option.bind_some]
      rw [small_rq (by simp; omega)]
      show some ((((opndS a (descS e.fOp).1 ++ [32]) ++ (descS e.fOp).2) ++ [32]) ++ opndS b ((descS e.fOp).1 + 1)) = some ((opndS a (descS e.fOp).1 ++ (([32] ++ (descS e.fOp).2) ++ [32])) ++ opndS b ((descS e.fOp).1 + 1))
      simp only [List.append_assoc]
    · obtain ⟨a, b, d, ha⟩ := len3 (l := e.fKids) (by omega)
      rw [ha] at ih hn ol
      have o1 := ol a (by simp) 3
      have o2 := ol b (by simp) 1
      have o3 := ol d (by simp) 2
      simp only [nodesL] at hn
      have c1 : ((descS e.fOp).1 == 1) = false := by rw [hl]; rfl
      have c2 : ((descS e.fOp).1 == 2) = true := by rw [hl]; rfl
      have c3 : ((descS e.fOp).1 == 13) = false := by rw [hl]; rfl
      have c5 : (e.fOp == 1) = false := by rw [beq_eq_false_iff_ne]; omega
      have c6 : (e.fOp == 2) = false := by rw [beq_eq_false_iff_ne]; omega
      have c7 : (e.fOp == 26) = false := by rw [beq_eq_false_iff_ne]; omega
      have c8 : (e.fOp == 25) = true := by rw [h]; rfl
      simp only [c1, c2, c3, c5, c6, c7, c8, cond_true, cond_false, d0 (n := e.fKids.length) (by omega), d1 (n := e.fKids.length) (by omega), d2 (n := e.fKids.length) (by omega), rq_tt, Option.bind_some]
      rw [ha]
      show (ref05_operand_n F m a 3).bind _ = _
      rw [ih a (by simp)]
      simp only [Option.bind_some]
      rw [small_rq (by simp; omega)]
      show (ref05_operand_n F m b 1).bind _ = _
      rw [ih b (by simp)]
      simp only [Option.bind_some]
      rw [small_rq (by simp; omega), small_rq (by simp; omega)]
      show (ref05_operand_n F m d 2).bind _ = _
      rw [ih d (by simp)]
      simp only [Option.bind_some]
      rw [small_rq (by simp; omega)]
      rfl
    · obtain ⟨a, ha⟩ := len1 (l := e.fKids) (by omega)
      rw [ha] at ih hn ol
      have o1 := ol a (by simp) 1
      simp only [nodesL] at hn
      have c1 : ((descS e.fOp).1 == 1) = true := by rw [hl]; rfl
      have c3 : ((descS e.fOp).1 == 13) = false := by rw [hl]; rfl
      have c5 : (e.fOp == 1) = false := by rw [beq_eq_false_iff_ne]; omega
      have c6 : (e.fOp == 2) = false := by rw [beq_eq_false_iff_ne]; omega
      have c7 : (e.fOp == 26) = true := by rw [h]; rfl
      simp only [c1, c3, c5, c6, c7, cond_true, cond_false, d0 (n := e.fKids.length) (by omega), rq_tt, Option.bind_some]
      rw [ha]
      rcases h5 h with hz | hz
      · rw [hz]
        show rq _ ((ref05_operand_n F m a 1).bind _) = _
        rw [small_rq (by simp; omega), ih a (by simp)]
        simp only [Option.bind_some]
        rw [small_rq (by simp; omega)]
        show some ((e.fName ++ [32, 61, 32]) ++ opndS a 1) = some ((((e.fName ++ [32]) ++ []) ++ [61, 32]) ++ opndS a 1)
        simp
      · have hz' : (7 ≤ e.fN ∧ e.fN ≤ 13) ∨ (20 ≤ e.fN ∧ e.fN ≤ 22) := by
          simpa [compS] using hz
        have c9 : (e.fN == 0) = false := by rw [beq_eq_false_iff_ne]; omega
        rw [c9, sign_eq F (op := e.fN) (by omega)]
        simp only [cond_false, Option.bind_some]
        rw [small_rq (by simp; omega), small_rq (by simp; omega), small_rq (by simp; omega)]
        show (ref05_operand_n F m a 1).bind _ = _
        rw [ih a (by simp)]
        simp only [Option.bind_some]
        rw [small_rq (by simp; omega)]
        rfl
  refine hs.and (Evt.succ (hs.mono fun F m hs l => ?_))
  show ref05_operand_m F (ref05_show_n F m) (ref05_operand_n F m) e l = _
  unfold ref05_operand_m
  rw [level_eq F hr, TExpr.eta, hs, opndS_eq]
  simp only [Option.bind_some]
  rw [small_rq (by simp; omega), small_rq (by simp; omega)]
  cases decide ((descS e.fOp).1 < l) <;> rfl

theorem byte_rt (s : List UInt8) : byteOk (toInts s) = true ∧ toBytes (toInts s) = s := by
  constructor
  · unfold byteOk toInts
    rw [List.all_map, List.all_eq_true]
    intro b _
    have := b.toNat_lt
    simp only [Function.comp, Bool.and_eq_true, decide_eq_true_eq]; omega
  · unfold toBytes toInts
    rw [List.map_map]
    conv => rhs; rw [← List.map_id s]
    apply List.map_congr_left
    intro b _
    simp

/-- What Show gives. -/
def ShowS (e : TExpr) : List UInt8 × Int := cond (validS e 0 != 0) ([], validS e 0) (cond (decide (4096 < ((opndS e 1).length : Int))) ([], 3) (opndS e 1, 0))
theorem validS_good {e : TExpr} (ho : okTExpr e) (hm : Nms e) (h : validS e 0 = 0) : Good e := ⟨Vd_of e 0 h, ho, hm⟩
theorem arith_Valid_eq {e : TExpr} (ho : okTExpr e) : Evt fun F _ => arith_Valid F e = some (validS e 0) :=
  (arithValid_eq ho).fst.mono fun F _ h => by
    unfold arith_Valid arith_valid
    rw [TExpr.eta, h 0 (by omega) (by omega)]
    rfl
theorem arith_Show_eq {e : TExpr} (ho : okTExpr e) (hm : Nms e) (hn : nodes e ≤ 1000) : Evt fun F _ => arith_Show F e = some (ShowS e) := by
  by_cases hv : validS e 0 = 0
  · refine ((arith_Valid_eq ho).map2 (write_eq e (validS_good ho hm hv)).fst fun F _ h1 h2 => ?_)
    unfold arith_Show arith_write ShowS
    rw [TExpr.eta, h1, h2 1 false [] (by simp; omega), hv]
    obtain ⟨b1, b2⟩ := byte_rt (opndS e 1)
    have hlen := opnd_len e (validS_good ho hm hv) 1
    unfold strings_Builder_Len strings_Builder_String
    simp only [Option.bind_some, List.nil_append, toInts_len, b1, b2, bne_self_eq_false, cond_false, decide_true, Bool.true_and]
    rw [small_rq (by omega)]
    cases decide (4096 < ((opndS e 1).length : Int)) <;> rfl
  · refine (arith_Valid_eq ho).mono fun F _ h1 => ?_
    unfold arith_Show ShowS
    rw [TExpr.eta, h1]
    have : (validS e 0 != 0) = true := by simpa using hv
    simp only [Option.bind_some, this, cond_true]
theorem opnd_one {e : TExpr} (g : Good e) : opndS e 1 = showS e := by
  obtain ⟨h1, _⟩ := g.facts
  rw [opndS_eq]
  have : decide ((descS e.fOp).1 < 1) = false := by
    have := op_range h1
    rcases kind this with ⟨h, hk, hl⟩ | ⟨h, hk, hl, hs⟩ | ⟨h, hk, hl, hs⟩ | ⟨h, hk, hl⟩ | ⟨h, hk, hl⟩ <;> simp <;> omega
  rw [this]
  rfl
theorem ref05_Show_eq {e : TExpr} (ho : okTExpr e) (hm : Nms e) (hn : nodes e ≤ 1000) : Evt fun F _ => ref05_Show F e = some (ShowS e) := by
  have hV : Evt fun F _ => ref05_Valid F e = some (validS e 0) := (refValid_eq ho).fst.mono fun F _ h => by
    unfold ref05_Valid ref05_valid
    rw [TExpr.eta, h 0 (by omega) (by omega)]
    rfl
  by_cases hv : validS e 0 = 0
  · refine (hV.map2 (refShow_eq e (validS_good ho hm hv) hn).fst fun F _ h1 h2 => ?_)
    unfold ref05_Show ref05_show ShowS
    rw [TExpr.eta, h1, h2.1, hv, opnd_one (validS_good ho hm hv)]
    simp only [Option.bind_some, bne_self_eq_false, cond_false]
    cases decide (4096 < ((showS e).length : Int)) <;> rfl
  · refine hV.mono fun F _ h1 => ?_
    unfold ref05_Show ShowS
    rw [TExpr.eta, h1]
    have : (validS e 0 != 0) = true := by simpa using hv
    simp only [Option.bind_some, this, cond_true]

theorem arithShows_plain (a0 : TExpr) (q0 : okTExpr a0) : ∃ F, law05_ArithShows F a0 = some true := by
  refine Evt.diag (p := fun F _ => law05_ArithShows F a0 = some true) ?_
  cases h0 : SmallS a0 with
  | false =>
    refine (Small_eq q0).mono fun F _ s0 => ?_
    unfold law05_ArithShows
    rw [TExpr.eta, s0, h0, awake60]
    rfl
  | true =>
    obtain ⟨b0, m0⟩ := SmallS_fact h0
    refine (Small_eq q0).map3 (arith_Show_eq q0 m0 (by omega)) (ref05_Show_eq q0 m0 (by omega)) fun F _ s0 s1 s2 => ?_
    unfold law05_ArithShows
    rw [TExpr.eta, s0, h0, awake60, s1, s2]
    simp only [Option.bind_some, Bool.not_true, cond_false, beq_self_eq_true, cond_true]
end Go.Proofs.YtnbdahlceddihaaDoor
