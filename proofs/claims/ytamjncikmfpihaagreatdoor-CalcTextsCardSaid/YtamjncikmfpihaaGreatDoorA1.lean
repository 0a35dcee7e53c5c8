/-
  The program's parser gives what the grammar says.
-/
import Derived.Test.YtamjncikmfpihaaGreatDoorDr
namespace Go.Proofs.YtamjncikmfpihaaGreatDoor
open Go.RT
set_option linter.unusedVariables false
set_option linter.unusedSimpArgs false
set_option linter.all false
set_option maxRecDepth 100000

abbrev RA := (TExpr × (List UInt8) × Int × Int × (List UInt8)) ⊕ (Tfault × (List UInt8) × Int × Int × (List UInt8))
abbrev SA := (List UInt8) × Int × Int × (List UInt8) × Int × Int × (List UInt8) × (List TExpr)
def po (s : List UInt8) (i : Nat) : Int := (skip s i : Int)
def EncA (s : List UInt8) : Res → Option RA → Prop
  | .ok e j, x => x = some (.inl (e, s, kd s j, po s j, tx s j))
  | .err p c, x => ∃ st, x = some (.inr (⟨p, c⟩, st))
def bodyA (F : Nat) (r : Int → (List UInt8) → Int → Int → (List UInt8) → Option RA) (l : Int) : (SA → Option RA) → SA → Option RA :=
 (fun rc3 x2 =>
 (arith_parser_operator F x2.1 x2.2.1 x2.2.2.1 x2.2.2.2.1).bind fun x4 =>
 cond (decide (x4.1 < l))
 (some (.inl ((TExpr.mk ((TExpr.mk x2.2.2.2.2.1 x2.2.2.2.2.2.1 x2.2.2.2.2.2.2.1 x2.2.2.2.2.2.2.2).fOp) ((TExpr.mk x2.2.2.2.2.1 x2.2.2.2.2.2.1 x2.2.2.2.2.2.2.1 x2.2.2.2.2.2.2.2).fN) ((TExpr.mk x2.2.2.2.2.1 x2.2.2.2.2.2.1 x2.2.2.2.2.2.2.1 x2.2.2.2.2.2.2.2).fName) ((TExpr.mk x2.2.2.2.2.1 x2.2.2.2.2.2.1 x2.2.2.2.2.2.2.1 x2.2.2.2.2.2.2.2).fKids)), x2.1, x2.2.1, x2.2.2.1, x2.2.2.2.1)))
 ((arith_parser_advance F x2.1 x2.2.1 x2.2.2.1 x2.2.2.2.1).bind fun x5 =>
 (r (w64 (x4.1 + 1)) x5.1 x5.2.1 x5.2.2.1 x5.2.2.2).bind (sm (fun x6 =>
 rc3 (x6.2.1, x6.2.2.1, x6.2.2.2.1, x6.2.2.2.2, (TExpr.mk x4.2 0 [] ([(TExpr.mk x2.2.2.2.2.1 x2.2.2.2.2.2.1 x2.2.2.2.2.2.2.1 x2.2.2.2.2.2.2.2), (TExpr.mk x6.1.fOp x6.1.fN x6.1.fName x6.1.fKids)] : List TExpr)).fOp, (TExpr.mk x4.2 0 [] ([(TExpr.mk x2.2.2.2.2.1 x2.2.2.2.2.2.1 x2.2.2.2.2.2.2.1 x2.2.2.2.2.2.2.2), (TExpr.mk x6.1.fOp x6.1.fN x6.1.fName x6.1.fKids)] : List TExpr)).fN, (TExpr.mk x4.2 0 [] ([(TExpr.mk x2.2.2.2.2.1 x2.2.2.2.2.2.1 x2.2.2.2.2.2.2.1 x2.2.2.2.2.2.2.2), (TExpr.mk x6.1.fOp x6.1.fN x6.1.fName x6.1.fKids)] : List TExpr)).fName, (TExpr.mk x4.2 0 [] ([(TExpr.mk x2.2.2.2.2.1 x2.2.2.2.2.2.1 x2.2.2.2.2.2.2.1 x2.2.2.2.2.2.2.2), (TExpr.mk x6.1.fOp x6.1.fN x6.1.fName x6.1.fKids)] : List TExpr)).fKids)) (fun x7 => some (.inr (x7.1, x7.2.1, x7.2.2.1, x7.2.2.2.1, x7.2.2.2.2))))))

theorem scan_mk (s : List UInt8) (i : Nat) (hi : i ≤ s.length) : scanS s i = ⟨kd s i, po s i, tx s i⟩ := by
  unfold kd tx po
  rcases tok_view s i hi with ⟨h, _, _, _⟩ | ⟨w, b, h, _, _, _, hl⟩ | ⟨w, b, h, _, _, _, hl⟩ | ⟨x, h, _, _, hm, hl⟩ | ⟨b, h, _, _, hl⟩ <;> rw [h]
theorem id_bind (X : Option RA) : X.bind (sm (fun x => some (.inl ((TExpr.mk x.1.fOp x.1.fN x.1.fName x.1.fKids), x.2.1, x.2.2.1, x.2.2.2.1, x.2.2.2.2))) (fun x => some (.inr (x.1, x.2.1, x.2.2.1, x.2.2.2.1, x.2.2.2.2)))) = X := by
  cases X with
  | none => rfl
  | some y => cases y <;> simp only [Option.bind_some, sm, TExpr.eta]

section
variable {s : List UInt8} {i F : Nat} (hl : s.length ≤ 1000000) (hi : i ≤ s.length) (hF : s.length + 60 ≤ F)
include hl hi hF
theorem after_eq : arith_parser_after F s (kd s i) (po s i) (tx s i) = some (scanS s (nx s i)) := by
  unfold arith_parser_after
  obtain ⟨a, _, _⟩ := nx_bounds s i hi
  have e : po s i + ((tx s i).length : Int) = ((nx s i : Nat) : Int) := by unfold po nx; omega
  rw [e, w64_in (by omega), scan_eq F s _ a (by omega) hl]
  rfl
theorem adv_eq : arith_parser_advance F s (kd s i) (po s i) (tx s i) = some (s, kd s (nx s i), po s (nx s i), tx s (nx s i)) := by
  unfold arith_parser_advance
  obtain ⟨a, _, _⟩ := nx_bounds s i hi
  rw [after_eq hl hi hF, scan_mk s _ a]
  rfl
theorem sees_eq {x : List UInt8} (hx : x ≠ []) : arith_parser_sees F x s (kd s i) (po s i) (tx s i) = some (sy s i == x) := by
  unfold arith_parser_sees
  by_cases h : sy s i = []
  · have hk : (cond (kd s i == 3) (some (tx s i == x)) (some false) : Option Bool) = some false := by
      unfold kd tx
      rcases tok_view s i hi with ⟨h', _, _, _⟩ | ⟨w, b, h', _, _, _, _⟩ | ⟨w, b, h', _, _, _, _⟩ | ⟨x', h', hs, _, hm, _⟩ | ⟨b, h', _, _, _⟩ <;> rw [h'] <;> try rfl
      rw [h] at hs
      exact absurd hs.symm (ops35_ne _ hm)
    rw [hk, h]
    have : (([] : List UInt8) == x) = false := by
      rw [beq_eq_false_iff_ne]; exact fun e => hx e.symm
    rw [this]
    rfl
  · obtain ⟨h1, h2⟩ := sy_kd s i hi h
    rw [h1, h2]
    rfl
theorem oper_eq : arith_parser_operator F s (kd s i) (po s i) (tx s i) = some (binS (sy s i)) := by
  by_cases h : sy s i = []
  · rw [h]
    have hk : (kd s i == 3) = false := by
      unfold kd
      rcases tok_view s i hi with ⟨h', _, _, _⟩ | ⟨w, b, h', _, _, _, _⟩ | ⟨w, b, h', _, _, _, _⟩ | ⟨x', h', hs, _, hm, _⟩ | ⟨b, h', _, _, _⟩ <;> rw [h'] <;> try rfl
      rw [h] at hs
      exact absurd hs.symm (ops35_ne _ hm)
    unfold arith_parser_operator
    rw [hk]
    rfl
  · obtain ⟨h1, h2⟩ := sy_kd s i hi h
    rw [h1, h2]
    obtain ⟨G, rfl⟩ : ∃ G, F = G + 20 := ⟨F - 20, by omega⟩
    exact (sy_tab s i).bin G s _
theorem assign_eq : arith_assignment F (scanS s i) = some (cond (asgS (sy s i) == -1) 0 (asgS (sy s i)), !(asgS (sy s i) == -1)) := by
  by_cases h : sy s i = []
  · rw [h]
    have hk : ((scanS s i).fkind != 3) = true := by
      rcases tok_view s i hi with ⟨h', _, _, _⟩ | ⟨w, b, h', _, _, _, _⟩ | ⟨w, b, h', _, _, _, _⟩ | ⟨x', h', hs, _, hm, _⟩ | ⟨b, h', _, _, _⟩ <;> rw [h'] <;> try rfl
      rw [h] at hs
      exact absurd hs.symm (ops35_ne _ hm)
    unfold arith_assignment
    rw [hk]
    rfl
  · obtain ⟨h1, h2⟩ := sy_kd s i hi h
    rw [scan_mk s i hi, h1, h2]
    obtain ⟨G, rfl⟩ : ∃ G, F = G + 20 := ⟨F - 20, by omega⟩
    exact (sy_tab s i).asg G _
theorem expect_yes {x : List UInt8} (hx : x ≠ []) (h : sy s i = x) : arith_parser_expect F x s (kd s i) (po s i) (tx s i) = some (.inl (s, kd s (nx s i), po s (nx s i), tx s (nx s i))) := by
  unfold arith_parser_expect
  rw [sees_eq hl hi hF hx, h, adv_eq hl hi hF]
  simp [jj, sm]
theorem expect_no {x : List UInt8} (hx : x ≠ []) (h : sy s i ≠ x) : arith_parser_expect F x s (kd s i) (po s i) (tx s i) = some (.inr ⟨po s i, 6⟩) := by
  unfold arith_parser_expect
  have : (sy s i == x) = false := by rw [beq_eq_false_iff_ne]; exact h
  rw [sees_eq hl hi hF hx, this]
  rfl
omit hF hl in
theorem tx_len : (tx s i).length ≤ s.length := by
  obtain ⟨a, _, _⟩ := nx_bounds s i hi
  unfold nx at a
  omega
omit hF hl in
theorem tx_ne (h : kd s i = 1 ∨ kd s i = 2) : tx s i ≠ [] := by
  unfold kd at h
  unfold tx
  rcases tok_view s i hi with ⟨h', _, _, _⟩ | ⟨w, b, h', _, _, _, _⟩ | ⟨w, b, h', _, _, _, _⟩ | ⟨x', h', hs, _, hm, _⟩ | ⟨b, h', _, _, _⟩ <;> rw [h'] at h ⊢ <;> simp at h ⊢
theorem valtx_eq (h : kd s i = 1) : arith_value F (tx s i) = some (valS (tx s i)) := by
  have := tx_len hi
  exact value_eq F _ (tx_ne hi (.inl h)) (by omega) (by omega)
theorem var_yes (h : rName (tx s i) = true) : arith_parser_variable F s (kd s i) (po s i) (tx s i) = some (.inl (tx s i, s, kd s (nx s i), po s (nx s i), tx s (nx s i))) := by
  unfold arith_parser_variable
  rw [chars_Name_eq F _ (by omega), h, adv_eq hl hi hF]
  rfl
theorem var_no (h : rName (tx s i) = false) : arith_parser_variable F s (kd s i) (po s i) (tx s i) = some (.inr ⟨po s i, 10⟩) := by
  unfold arith_parser_variable
  rw [chars_Name_eq F _ (by omega), h]
  rfl
end

def StA (s : List UInt8) : Cat → Nat → Res → Prop
  | .expr, i, r => Evt fun F n => EncA s r (arith_parser_expression_n F n s (kd s i) (po s i) (tx s i))
  | .cond, i, r => Evt fun F n => EncA s r (arith_parser_condition_n F n s (kd s i) (po s i) (tx s i))
  | .oper l, i, r => Evt fun F n => EncA s r (arith_parser_operation_n F n l s (kd s i) (po s i) (tx s i))
  | .loop l a, i, r => ∃ N, ∀ F n m, N ≤ F → N ≤ n → N ≤ m → EncA s r (loopF (bodyA F (arith_parser_operation_n F n) l) m (s, kd s i, po s i, tx s i, a.fOp, a.fN, a.fName, a.fKids))
  | .un, i, r => Evt fun F n => EncA s r (arith_parser_unary_n F n s (kd s i) (po s i) (tx s i))
  | .prim, i, r => Evt fun F n => EncA s r (arith_parser_primary_n F n s (kd s i) (po s i) (tx s i))
theorem bigF (s : List UInt8) : Evt fun F _ => s.length + 60 ≤ F := Evt.ge (s.length + 60) fun F n h _ => h

theorem D_A {s : List UInt8} (hl : s.length ≤ 1000000) {c : Cat} {i : Nat} {r : Res} (d : D s c i r) : i ≤ s.length → c.okL → StA s c i r := by
  induction d with
  | @e_cond i r h d ih =>
    intro hi _
    refine Evt.succ (Evt.map2 (ih hi trivial) (bigF s) fun F n h1 hF => ?_)
    show EncA s r (arith_parser_expression_m F (arith_parser_expression_n F n) (arith_parser_condition_n F n) (arith_parser_operation_n F n) (arith_parser_unary_n F n) (arith_parser_primary_n F n) s (kd s i) (po s i) (tx s i))
    unfold arith_parser_expression_m
    rw [id_bind]
    cases hk : (kd s i == 2) with
    | false =>
      have : (kd s i != 2) = true := by unfold bne; rw [hk]; rfl
      rw [this]
      exact h1
    | true =>
      have : (kd s i != 2) = false := by unfold bne; rw [hk]; rfl
      unfold asgAt at h
      rw [hk] at h
      simp only [cond_true] at h
      obtain ⟨a, _, _⟩ := nx_bounds s i hi
      rw [this, after_eq hl hi hF]
      simp only [cond_false, Option.bind_some]
      rw [assign_eq hl a hF, h]
      exact h1
  | @e_name i h hn =>
    intro hi _
    refine Evt.succ (Evt.mono (bigF s) fun F n hF => ?_)
    obtain ⟨hk, h2, _⟩ := asg_kd h
    obtain ⟨a, _, _⟩ := nx_bounds s i hi
    show EncA s _ (arith_parser_expression_m F (arith_parser_expression_n F n) (arith_parser_condition_n F n) (arith_parser_operation_n F n) (arith_parser_unary_n F n) (arith_parser_primary_n F n) s (kd s i) (po s i) (tx s i))
    unfold arith_parser_expression_m
    have h3 : (asgS (sy s (nx s i)) == -1) = false := by rw [beq_eq_false_iff_ne]; exact h2
    rw [after_eq hl hi hF, var_no hl hi hF hn]
    simp only [Option.bind_some]
    rw [assign_eq hl a hF, h3, hk]
    exact ⟨_, rfl⟩
  | @e_set i j e h hn d ih =>
    intro hi _
    obtain ⟨m1, m2, m3, m4⟩ := asg_move hi h
    refine Evt.succ (Evt.map2 (ih m3 trivial) (bigF s) fun F n h1 hF => ?_)
    obtain ⟨hk, h2, he⟩ := asg_kd h
    show EncA s _ (arith_parser_expression_m F (arith_parser_expression_n F n) (arith_parser_condition_n F n) (arith_parser_operation_n F n) (arith_parser_unary_n F n) (arith_parser_primary_n F n) s (kd s i) (po s i) (tx s i))
    unfold arith_parser_expression_m
    have h3 : (asgS (sy s (nx s i)) == -1) = false := by rw [beq_eq_false_iff_ne]; exact h2
    have h1 : arith_parser_expression_n F n s _ _ _ = _ := h1
    rw [after_eq hl hi hF, var_yes hl hi hF hn]
    simp only [Option.bind_some]
    rw [assign_eq hl m1 hF, h3, hk, he]
    simp only [bne_self_eq_false, cond_false, Bool.not_false, Bool.not_true, sm]
    rw [adv_eq hl m1 hF]
    simp only [Option.bind_some]
    rw [h1]
    rfl
  | @e_err i p c h hn d ih =>
    intro hi _
    obtain ⟨m1, m2, m3, m4⟩ := asg_move hi h
    refine Evt.succ (Evt.map2 (ih m3 trivial) (bigF s) fun F n h1 hF => ?_)
    obtain ⟨hk, h2, he⟩ := asg_kd h
    show EncA s _ (arith_parser_expression_m F (arith_parser_expression_n F n) (arith_parser_condition_n F n) (arith_parser_operation_n F n) (arith_parser_unary_n F n) (arith_parser_primary_n F n) s (kd s i) (po s i) (tx s i))
    unfold arith_parser_expression_m
    have h3 : (asgS (sy s (nx s i)) == -1) = false := by rw [beq_eq_false_iff_ne]; exact h2
    obtain ⟨st, h1⟩ := h1
    rw [after_eq hl hi hF, var_yes hl hi hF hn]
    simp only [Option.bind_some]
    rw [assign_eq hl m1 hF, h3, hk]
    simp only [bne_self_eq_false, cond_false, Bool.not_false, Bool.not_true, sm]
    rw [adv_eq hl m1 hF]
    simp only [Option.bind_some]
    rw [h1]
    exact ⟨_, rfl⟩
  | @c_err i p c d ih =>
    intro hi _
    refine Evt.succ (Evt.mono (ih hi (show (0 : Int) < 3 by decide)) fun F n h1 => ?_)
    show EncA s _ (arith_parser_condition_m F (arith_parser_expression_n F n) (arith_parser_condition_n F n) (arith_parser_operation_n F n) (arith_parser_unary_n F n) (arith_parser_primary_n F n) s (kd s i) (po s i) (tx s i))
    unfold arith_parser_condition_m
    obtain ⟨st, h1⟩ := h1
    rw [h1]
    exact ⟨_, rfl⟩
  | @c_one i j a d h ih =>
    intro hi _
    obtain ⟨x, y, z⟩ := D_pos d hi (show (0 : Int) < 3 by decide)
    refine Evt.succ (Evt.map2 (ih hi (show (0 : Int) < 3 by decide)) (bigF s) fun F n h1 hF => ?_)
    show EncA s _ (arith_parser_condition_m F (arith_parser_expression_n F n) (arith_parser_condition_n F n) (arith_parser_operation_n F n) (arith_parser_unary_n F n) (arith_parser_primary_n F n) s (kd s i) (po s i) (tx s i))
    unfold arith_parser_condition_m
    have h1 : arith_parser_operation_n F n 3 s _ _ _ = _ := h1
    have hb : (sy s j == [63]) = false := by rw [beq_eq_false_iff_ne]; exact h
    rw [h1]
    simp only [Option.bind_some, sm]
    rw [sees_eq hl y hF (by decide), hb]
    simp only [Option.bind_some, Bool.not_false, cond_true, TExpr.eta]
    rfl
  | @c_yes i j p c a d h d2 ih ih2 =>
    intro hi _
    obtain ⟨x, y, z⟩ := D_pos d hi (show (0 : Int) < 3 by decide)
    obtain ⟨m1, m2⟩ := sy_move y (by rw [h]; decide)
    refine Evt.succ (Evt.map3 (ih hi (show (0 : Int) < 3 by decide)) (ih2 m1 trivial) (bigF s) fun F n h1 h2 hF => ?_)
    show EncA s _ (arith_parser_condition_m F (arith_parser_expression_n F n) (arith_parser_condition_n F n) (arith_parser_operation_n F n) (arith_parser_unary_n F n) (arith_parser_primary_n F n) s (kd s i) (po s i) (tx s i))
    unfold arith_parser_condition_m
    have h1 : arith_parser_operation_n F n 3 s _ _ _ = _ := h1
    obtain ⟨st, h2⟩ := h2
    rw [h1]
    simp only [Option.bind_some, sm]
    rw [sees_eq hl y hF (by decide), h, adv_eq hl y hF]
    simp only [Option.bind_some]
    rw [h2]
    exact ⟨_, rfl⟩
  | @c_mid i j k a b d h d2 h2 ih ih2 =>
    intro hi _
    obtain ⟨x, y, z⟩ := D_pos d hi (show (0 : Int) < 3 by decide)
    obtain ⟨m1, m2⟩ := sy_move y (by rw [h]; decide)
    obtain ⟨x2, y2, z2⟩ := D_pos d2 m1 trivial
    refine Evt.succ (Evt.map3 (ih hi (show (0 : Int) < 3 by decide)) (ih2 m1 trivial) (bigF s) fun F n h1 h3 hF => ?_)
    show EncA s _ (arith_parser_condition_m F (arith_parser_expression_n F n) (arith_parser_condition_n F n) (arith_parser_operation_n F n) (arith_parser_unary_n F n) (arith_parser_primary_n F n) s (kd s i) (po s i) (tx s i))
    unfold arith_parser_condition_m
    have h1 : arith_parser_operation_n F n 3 s _ _ _ = _ := h1
    have h3 : arith_parser_expression_n F n s _ _ _ = _ := h3
    rw [h1]
    simp only [Option.bind_some, sm]
    rw [sees_eq hl y hF (by decide), h, adv_eq hl y hF]
    simp only [Option.bind_some]
    rw [h3]
    simp only [Option.bind_some, sm]
    rw [expect_no hl y2 hF (by decide) h2]
    exact ⟨_, rfl⟩
  | @c_no i j k p c a b d h d2 h2 d3 ih ih2 ih3 =>
    intro hi _
    obtain ⟨x, y, z⟩ := D_pos d hi (show (0 : Int) < 3 by decide)
    obtain ⟨m1, m2⟩ := sy_move y (by rw [h]; decide)
    obtain ⟨x2, y2, z2⟩ := D_pos d2 m1 trivial
    obtain ⟨m3, m4⟩ := sy_move y2 (by rw [h2]; decide)
    refine Evt.succ (Evt.map3 ((ih hi (show (0 : Int) < 3 by decide)).and (ih3 m3 trivial)) (ih2 m1 trivial) (bigF s) fun F n h1 h3 hF => ?_)
    show EncA s _ (arith_parser_condition_m F (arith_parser_expression_n F n) (arith_parser_condition_n F n) (arith_parser_operation_n F n) (arith_parser_unary_n F n) (arith_parser_primary_n F n) s (kd s i) (po s i) (tx s i))
    unfold arith_parser_condition_m
    obtain ⟨h1, st, h4⟩ := h1
    have h1 : arith_parser_operation_n F n 3 s _ _ _ = _ := h1
    have h3 : arith_parser_expression_n F n s _ _ _ = _ := h3
    rw [h1]
    simp only [Option.bind_some, sm]
    rw [sees_eq hl y hF (by decide), h, adv_eq hl y hF]
    simp only [Option.bind_some]
    rw [h3]
    simp only [Option.bind_some, sm]
    rw [expect_yes hl y2 hF (by decide) h2]
    simp only [Option.bind_some, sm]
    rw [h4]
    exact ⟨_, rfl⟩
  | @c_all i j k m a b e d h d2 h2 d3 ih ih2 ih3 =>
    intro hi _
    obtain ⟨x, y, z⟩ := D_pos d hi (show (0 : Int) < 3 by decide)
    obtain ⟨m1, m2⟩ := sy_move y (by rw [h]; decide)
    obtain ⟨x2, y2, z2⟩ := D_pos d2 m1 trivial
    obtain ⟨m3, m4⟩ := sy_move y2 (by rw [h2]; decide)
    refine Evt.succ (Evt.map3 ((ih hi (show (0 : Int) < 3 by decide)).and (ih3 m3 trivial)) (ih2 m1 trivial) (bigF s) fun F n h1 h3 hF => ?_)
    show EncA s _ (arith_parser_condition_m F (arith_parser_expression_n F n) (arith_parser_condition_n F n) (arith_parser_operation_n F n) (arith_parser_unary_n F n) (arith_parser_primary_n F n) s (kd s i) (po s i) (tx s i))
    unfold arith_parser_condition_m
    obtain ⟨h1, h4⟩ := h1
    have h1 : arith_parser_operation_n F n 3 s _ _ _ = _ := h1
    have h3 : arith_parser_expression_n F n s _ _ _ = _ := h3
    have h4 : arith_parser_condition_n F n s _ _ _ = _ := h4
    rw [h1]
    simp only [Option.bind_some, sm]
    rw [sees_eq hl y hF (by decide), h, adv_eq hl y hF]
    simp only [Option.bind_some]
    rw [h3]
    simp only [Option.bind_some, sm]
    rw [expect_yes hl y2 hF (by decide) h2]
    simp only [Option.bind_some, sm]
    rw [h4]
    simp only [Option.bind_some, sm, TExpr.eta]
    rfl
  | @o_err l i p c d ih =>
    intro hi _
    refine Evt.succ (Evt.mono (ih hi trivial) fun F n h1 => ?_)
    show EncA s _ (arith_parser_operation_m F (arith_parser_expression_n F n) (arith_parser_condition_n F n) (arith_parser_operation_n F n) (arith_parser_unary_n F n) (arith_parser_primary_n F n) l s (kd s i) (po s i) (tx s i))
    unfold arith_parser_operation_m
    obtain ⟨st, h1⟩ := h1
    rw [h1]
    exact ⟨_, rfl⟩
  | @o_go l i j a r d d2 ih ih2 =>
    intro hi hc
    obtain ⟨x, y, z⟩ := D_pos d hi trivial
    obtain ⟨N, h2⟩ := ih2 y hc
    refine Evt.succ (Evt.map2 (ih hi trivial) (Evt.ge (p := fun F n => N ≤ F ∧ N ≤ n) N fun F n a b => ⟨a, b⟩) fun F n h1 hN => ?_)
    show EncA s _ (arith_parser_operation_m F (arith_parser_expression_n F n) (arith_parser_condition_n F n) (arith_parser_operation_n F n) (arith_parser_unary_n F n) (arith_parser_primary_n F n) l s (kd s i) (po s i) (tx s i))
    unfold arith_parser_operation_m
    have h1 : arith_parser_unary_n F n s _ _ _ = _ := h1
    rw [h1]
    exact h2 F n F hN.1 hN.2 hN.1
  | @l_stop l i a h =>
    intro hi _
    refine ⟨s.length + 60, fun F n m hF _ hm => ?_⟩
    cases m with
    | zero => omega
    | succ m =>
      show EncA s _ (bodyA F (arith_parser_operation_n F n) l (loopF (bodyA F (arith_parser_operation_n F n) l) m) (s, kd s i, po s i, tx s i, a.fOp, a.fN, a.fName, a.fKids))
      unfold bodyA
      rw [oper_eq hl hi hF]
      simp only [Option.bind_some, decide_eq_true h, cond_true, TExpr.eta]
      rfl
  | @l_err l i p c a h d ih =>
    intro hi hc
    have hc : 0 < l := hc
    obtain ⟨m1, m2⟩ := sy_move hi (binS_nil hc h)
    obtain ⟨N, h1⟩ := ih m1 (show (0 : Int) < _ by omega)
    have hlv := (sy_tab s i).lv
    refine ⟨N + s.length + 60, fun F n m hF hn hm => ?_⟩
    cases m with
    | zero => omega
    | succ m =>
      show EncA s _ (bodyA F (arith_parser_operation_n F n) l (loopF (bodyA F (arith_parser_operation_n F n) l) m) (s, kd s i, po s i, tx s i, a.fOp, a.fN, a.fName, a.fKids))
      unfold bodyA
      obtain ⟨st, h1⟩ := h1 F n (by omega) (by omega)
      rw [oper_eq hl hi (by omega), adv_eq hl hi (by omega)]
      have hx : decide ((binS (sy s i)).1 < l) = false := decide_eq_false (by omega)
      simp only [Option.bind_some, hx, cond_false]
      rw [w64_in (x := (binS (sy s i)).1 + 1) (by omega), h1]
      exact ⟨_, rfl⟩
  | @l_go l i j a b r h d d2 ih ih2 =>
    intro hi hc
    have hc' : 0 < l := hc
    obtain ⟨m1, m2⟩ := sy_move hi (binS_nil hc' h)
    obtain ⟨x, y, z⟩ := D_pos d m1 (show (0 : Int) < _ by omega)
    obtain ⟨N, h1⟩ := ih m1 (show (0 : Int) < _ by omega)
    obtain ⟨N2, h2⟩ := ih2 y hc
    have hlv := (sy_tab s i).lv
    refine ⟨N + N2 + s.length + 60, fun F n m hF hn hm => ?_⟩
    cases m with
    | zero => omega
    | succ m =>
      show EncA s _ (bodyA F (arith_parser_operation_n F n) l (loopF (bodyA F (arith_parser_operation_n F n) l) m) (s, kd s i, po s i, tx s i, a.fOp, a.fN, a.fName, a.fKids))
      have h1 : arith_parser_operation_n F n _ s _ _ _ = _ := h1 F n (by omega) (by omega)
      have h2 := h2 F n m (by omega) (by omega) (by omega)
      generalize hL : loopF (bodyA F (arith_parser_operation_n F n) l) m = L at h2 ⊢
      unfold bodyA
      rw [oper_eq hl hi (by omega), adv_eq hl hi (by omega)]
      have hx : decide ((binS (sy s i)).1 < l) = false := decide_eq_false (by omega)
      simp only [Option.bind_some, hx, cond_false]
      rw [w64_in (x := (binS (sy s i)).1 + 1) (by omega), h1]
      simp only [Option.bind_some, sm, TExpr.eta]
      exact h2
  | @u_prim i r h d ih =>
    intro hi _
    refine Evt.succ (Evt.map2 (ih hi trivial) (bigF s) fun F n h1 hF => ?_)
    show EncA s _ (arith_parser_unary_m F (arith_parser_expression_n F n) (arith_parser_condition_n F n) (arith_parser_operation_n F n) (arith_parser_unary_n F n) (arith_parser_primary_n F n) s (kd s i) (po s i) (tx s i))
    unfold arith_parser_unary_m
    rw [sees_eq hl hi hF (by decide), sees_eq hl hi hF (by decide), sees_eq hl hi hF (by decide), sees_eq hl hi hF (by decide)]
    have hu : (sy s i == [45]) = false ∧ (sy s i == [43]) = false ∧ (sy s i == [33]) = false ∧ (sy s i == [126]) = false := by
      unfold unS at h
      revert h
      cases (sy s i == [45]) <;> cases (sy s i == [43]) <;> cases (sy s i == [33]) <;> cases (sy s i == [126]) <;> simp
    obtain ⟨u1, u2, u3, u4⟩ := hu
    rw [u1, u2, u3, u4]
    revert h1
    cases arith_parser_primary_n F n s (kd s i) (po s i) (tx s i) with
    | none => exact id
    | some X =>
      cases X with
      | inl X => simp only [Option.bind_some, cond_false, jj, sm, TExpr.eta]; exact id
      | inr X => simp only [Option.bind_some, cond_false, jj, sm, TExpr.eta]; exact id
  | @u_err i p c h d ih =>
    intro hi _
    obtain ⟨m1, m2⟩ := sy_move hi (unS_nil h)
    refine Evt.succ (Evt.map2 (ih m1 trivial) (bigF s) fun F n h1 hF => ?_)
    show EncA s _ (arith_parser_unary_m F (arith_parser_expression_n F n) (arith_parser_condition_n F n) (arith_parser_operation_n F n) (arith_parser_unary_n F n) (arith_parser_primary_n F n) s (kd s i) (po s i) (tx s i))
    unfold arith_parser_unary_m
    rw [sees_eq hl hi hF (by decide), sees_eq hl hi hF (by decide), sees_eq hl hi hF (by decide), sees_eq hl hi hF (by decide), adv_eq hl hi hF]
    obtain ⟨st, h1⟩ := h1
    simp only [Option.bind_some, h1]
    unfold unS at h
    revert h
    cases (sy s i == [45]) <;> cases (sy s i == [43]) <;> cases (sy s i == [33]) <;> cases (sy s i == [126]) <;> intro h <;> first | exact ⟨_, rfl⟩ | exact absurd rfl h
  | @u_go i j a h d ih =>
    intro hi _
    obtain ⟨m1, m2⟩ := sy_move hi (unS_nil h)
    refine Evt.succ (Evt.map2 (ih m1 trivial) (bigF s) fun F n h1 hF => ?_)
    show EncA s _ (arith_parser_unary_m F (arith_parser_expression_n F n) (arith_parser_condition_n F n) (arith_parser_operation_n F n) (arith_parser_unary_n F n) (arith_parser_primary_n F n) s (kd s i) (po s i) (tx s i))
    unfold arith_parser_unary_m
    rw [sees_eq hl hi hF (by decide), sees_eq hl hi hF (by decide), sees_eq hl hi hF (by decide), sees_eq hl hi hF (by decide), adv_eq hl hi hF]
    have h1 : arith_parser_unary_n F n s _ _ _ = _ := h1
    simp only [Option.bind_some, h1]
    unfold unS at h ⊢
    revert h
    cases (sy s i == [45]) <;> cases (sy s i == [43]) <;> cases (sy s i == [33]) <;> cases (sy s i == [126]) <;> intro h <;> first | rfl | exact absurd rfl h
  | @p_num i h hv =>
    intro hi _
    refine Evt.succ (Evt.mono (bigF s) fun F n hF => ?_)
    show EncA s _ (arith_parser_primary_m F (arith_parser_expression_n F n) (arith_parser_condition_n F n) (arith_parser_operation_n F n) (arith_parser_unary_n F n) (arith_parser_primary_n F n) s (kd s i) (po s i) (tx s i))
    unfold arith_parser_primary_m
    rw [valtx_eq hl hi hF h, adv_eq hl hi hF, h]
    simp only [beq_self_eq_true, cond_true, Option.bind_some, hv, bne_self_eq_false, cond_false]
    rfl
  | @p_nerr i h hv =>
    intro hi _
    refine Evt.succ (Evt.mono (bigF s) fun F n hF => ?_)
    show EncA s _ (arith_parser_primary_m F (arith_parser_expression_n F n) (arith_parser_condition_n F n) (arith_parser_operation_n F n) (arith_parser_unary_n F n) (arith_parser_primary_n F n) s (kd s i) (po s i) (tx s i))
    unfold arith_parser_primary_m
    have hv' : ((valS (tx s i)).2 != 0) = true := by simpa using hv
    rw [valtx_eq hl hi hF h, h]
    simp only [beq_self_eq_true, cond_true, Option.bind_some, hv']
    exact ⟨_, rfl⟩
  | @p_var i h hv =>
    intro hi _
    refine Evt.succ (Evt.mono (bigF s) fun F n hF => ?_)
    show EncA s _ (arith_parser_primary_m F (arith_parser_expression_n F n) (arith_parser_condition_n F n) (arith_parser_operation_n F n) (arith_parser_unary_n F n) (arith_parser_primary_n F n) s (kd s i) (po s i) (tx s i))
    unfold arith_parser_primary_m
    rw [var_yes hl hi hF hv, h]
    rfl
  | @p_verr i h hv =>
    intro hi _
    refine Evt.succ (Evt.mono (bigF s) fun F n hF => ?_)
    show EncA s _ (arith_parser_primary_m F (arith_parser_expression_n F n) (arith_parser_condition_n F n) (arith_parser_operation_n F n) (arith_parser_unary_n F n) (arith_parser_primary_n F n) s (kd s i) (po s i) (tx s i))
    unfold arith_parser_primary_m
    rw [var_no hl hi hF hv, h]
    exact ⟨_, rfl⟩
  | @p_bad i h1 h2 h =>
    intro hi _
    refine Evt.succ (Evt.mono (bigF s) fun F n hF => ?_)
    show EncA s _ (arith_parser_primary_m F (arith_parser_expression_n F n) (arith_parser_condition_n F n) (arith_parser_operation_n F n) (arith_parser_unary_n F n) (arith_parser_primary_n F n) s (kd s i) (po s i) (tx s i))
    unfold arith_parser_primary_m
    have k1 : (kd s i == 1) = false := by rw [beq_eq_false_iff_ne]; exact h1
    have k2 : (kd s i == 2) = false := by rw [beq_eq_false_iff_ne]; exact h2
    rw [expect_no hl hi hF (by decide) h, k1, k2]
    exact ⟨_, rfl⟩
  | @p_in i p c h d ih =>
    intro hi _
    obtain ⟨m1, m2⟩ := sy_move hi (by rw [h]; decide)
    refine Evt.succ (Evt.map2 (ih m1 trivial) (bigF s) fun F n h1 hF => ?_)
    show EncA s _ (arith_parser_primary_m F (arith_parser_expression_n F n) (arith_parser_condition_n F n) (arith_parser_operation_n F n) (arith_parser_unary_n F n) (arith_parser_primary_n F n) s (kd s i) (po s i) (tx s i))
    unfold arith_parser_primary_m
    have hk := (sy_kd s i hi (by rw [h]; decide)).1
    obtain ⟨st, h1⟩ := h1
    rw [expect_yes hl hi hF (by decide) h, hk]
    simp only [Option.bind_some, sm]
    rw [h1]
    exact ⟨_, rfl⟩
  | @p_close i j e h d h2 ih =>
    intro hi _
    obtain ⟨m1, m2⟩ := sy_move hi (by rw [h]; decide)
    obtain ⟨x, y, z⟩ := D_pos d m1 trivial
    refine Evt.succ (Evt.map2 (ih m1 trivial) (bigF s) fun F n h1 hF => ?_)
    show EncA s _ (arith_parser_primary_m F (arith_parser_expression_n F n) (arith_parser_condition_n F n) (arith_parser_operation_n F n) (arith_parser_unary_n F n) (arith_parser_primary_n F n) s (kd s i) (po s i) (tx s i))
    unfold arith_parser_primary_m
    have hk := (sy_kd s i hi (by rw [h]; decide)).1
    have h1 : arith_parser_expression_n F n s _ _ _ = _ := h1
    rw [expect_yes hl hi hF (by decide) h, hk]
    simp only [Option.bind_some, sm]
    rw [h1]
    simp only [Option.bind_some, sm]
    rw [expect_no hl y hF (by decide) h2]
    exact ⟨_, rfl⟩
  | @p_ok i j e h d h2 ih =>
    intro hi _
    obtain ⟨m1, m2⟩ := sy_move hi (by rw [h]; decide)
    obtain ⟨x, y, z⟩ := D_pos d m1 trivial
    refine Evt.succ (Evt.map2 (ih m1 trivial) (bigF s) fun F n h1 hF => ?_)
    show EncA s _ (arith_parser_primary_m F (arith_parser_expression_n F n) (arith_parser_condition_n F n) (arith_parser_operation_n F n) (arith_parser_unary_n F n) (arith_parser_primary_n F n) s (kd s i) (po s i) (tx s i))
    unfold arith_parser_primary_m
    have hk := (sy_kd s i hi (by rw [h]; decide)).1
    have h1 : arith_parser_expression_n F n s _ _ _ = _ := h1
    rw [expect_yes hl hi hF (by decide) h, hk]
    simp only [Option.bind_some, sm]
    rw [h1]
    simp only [Option.bind_some, sm]
    rw [expect_yes hl y hF (by decide) h2]
    simp only [Option.bind_some, sm, TExpr.eta]
    rfl
end Go.Proofs.YtamjncikmfpihaaGreatDoor
