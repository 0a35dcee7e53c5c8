/-
  A parsed tree is valid, and its text gives it again: the plain law of ArithAgain.
-/
import Derived.Test.YtnbdahlceddihaaDoorBk
namespace Go.Proofs.YtnbdahlceddihaaDoor
open Go.RT
set_option linter.all false
set_option maxRecDepth 100000

def okV (c : Cat) : Prop := match c with | .loop _ a => Vd a | _ => True
def resVd : Res → Prop
  | .ok e _ => Vd e
  | .err _ _ => True
theorem Vd_kids {P : List TExpr} (h : ∀ k, k ∈ P → Vd k) : ∀ k, k ∈ P → Vd k := h
theorem kids_bin {x : List UInt8} (t : Tab x) (h : (binS x).1 ≠ 0) : kidsS (binS x).2 = 2 ∧ isNm (binS x).2 = false ∧ (binS x).2 ≠ 1 ∧ (binS x).2 ≠ 26 := by
  obtain ⟨h1, h2, _, _⟩ := t.op h
  generalize (binS x).2 = op at h1 h2
  rcases op_cases (op := op) (by omega) with rfl | rfl | rfl | rfl | rfl | rfl | rfl | rfl | rfl | rfl | rfl | rfl | rfl | rfl | rfl | rfl | rfl | rfl | rfl | rfl | rfl | rfl | rfl | rfl | rfl | rfl <;> first | omega | decide
theorem kids_un {x : List UInt8} (h : unS x ≠ 0) : kidsS (unS x) = 1 ∧ isNm (unS x) = false ∧ unS x ≠ 1 ∧ unS x ≠ 26 ∧ 3 ≤ unS x ∧ unS x ≤ 6 := by
  revert h
  unfold unS
  cases (x == [45]) <;> cases (x == [43]) <;> cases (x == [33]) <;> cases (x == [126]) <;> decide
theorem asg_comp : ∀ x, x ∈ ([] :: ops35) → asgS x ≠ -1 → asgS x = 0 ∨ compS (asgS x) = true := by decide
theorem D_vd {s : List UInt8} {c : Cat} {i : Nat} {r : Res} (d : D s c i r) : i ≤ s.length → c.okL → okV c → resVd r := by
  induction d with
  | @e_cond i r h d ih => intro hi _ _; exact ih hi trivial trivial
  | e_name h hn => intro _ _ _; trivial
  | @e_set i j e h hn d ih =>
    intro hi _ _
    obtain ⟨_, _, m, _⟩ := asg_move hi h
    have hv : Vd e := ih m trivial trivial
    have ha := (asg_kd h).2
    rw [ha.2] at h ⊢
    have hne : tx s i ≠ [] := fun e => by rw [e] at hn; exact absurd hn (by decide)
    refine .mk 26 _ _ [e] rfl ?_ (fun h => by omega) (fun _ => asg_comp _ (sy_mem s _) ha.1) (fun _ h => absurd rfl h) (fun _ => hn) (by simpa using hv)
    rw [show (tx s i == []) = false by rw [beq_eq_false_iff_ne]; exact hne]
    rfl
  | e_err h hn d ih => intro _ _ _; trivial
  | c_err d ih => intro _ _ _; trivial
  | c_one d h ih => intro hi _ _; exact ih hi (show (0 : Int) < 3 by decide) trivial
  | c_yes d h d2 ih ih2 => intro _ _ _; trivial
  | c_mid d h d2 h2 ih ih2 => intro _ _ _; trivial
  | c_no d h d2 h2 d3 ih ih2 ih3 => intro _ _ _; trivial
  | @c_all i j k m a b e d h d2 h2 d3 ih ih2 ih3 =>
    intro hi _ _
    obtain ⟨_, p1, _⟩ := D_pos d hi (show (0 : Int) < 3 by decide)
    obtain ⟨m1, m2⟩ := sy_move p1 (by rw [h]; decide)
    obtain ⟨_, p2, _⟩ := D_pos d2 m1 trivial
    obtain ⟨m3, m4⟩ := sy_move p2 (by rw [h2]; decide)
    have v1 : Vd a := ih hi (show (0 : Int) < 3 by decide) trivial
    have v2 : Vd b := ih2 m1 trivial trivial
    have v3 : Vd e := ih3 m3 trivial trivial
    exact .mk 25 0 [] [a, b, e] rfl rfl (fun h => by omega) (fun h => by omega) (fun _ _ => rfl) (fun h => by cases h) (by simpa using ⟨v1, v2, v3⟩)
  | o_err d ih => intro _ _ _; trivial
  | @o_go l i j a r d d2 ih ih2 =>
    intro hi hc _
    obtain ⟨_, p1, _⟩ := D_pos d hi trivial
    exact ih2 p1 hc (ih hi trivial trivial)
  | l_stop h => intro _ _ hv; exact hv
  | l_err h d ih => intro _ _ _; trivial
  | @l_go l i j a b r h d d2 ih ih2 =>
    intro hi hc hv
    have hc' : 0 < l := hc
    obtain ⟨m1, m2⟩ := sy_move hi (binS_nil hc' h)
    obtain ⟨_, p1, _⟩ := D_pos d m1 (show (0 : Int) < _ by omega)
    have v1 : Vd b := ih m1 (show (0 : Int) < _ by omega) trivial
    have v0 : Vd a := hv
    obtain ⟨b1, b2, b3, b4⟩ := kids_bin (sy_tab s i) (by omega)
    refine ih2 p1 hc (show Vd _ from .mk (binS (sy s i)).2 0 [] [a, b] b1.symm (by rw [b2]; rfl) (fun h => absurd h b3) (fun h => absurd h b4) (fun _ _ => rfl) (fun h => by rw [b2] at h; cases h) (by simpa using ⟨v0, v1⟩))
  | @u_prim i r h d ih => intro hi _ _; exact ih hi trivial trivial
  | u_err h d ih => intro _ _ _; trivial
  | @u_go i j a h d ih =>
    intro hi _ _
    obtain ⟨m1, m2⟩ := sy_move hi (unS_nil h)
    have v1 : Vd a := ih m1 trivial trivial
    obtain ⟨b1, b2, b3, b4, _⟩ := kids_un h
    exact .mk (unS (sy s i)) 0 [] [a] b1.symm (by rw [b2]; rfl) (fun h => absurd h b3) (fun h => absurd h b4) (fun _ _ => rfl) (fun h => by rw [b2] at h; cases h) (by simpa using v1)
  | @p_num i h hv =>
    intro hi _ _
    exact .mk 1 _ [] [] rfl rfl (fun _ => (valS_range _ hv).1) (fun h => by omega) (fun h => absurd rfl h) (fun h => by cases h) (by simp)
  | p_nerr h hv => intro _ _ _; trivial
  | @p_var i h hv =>
    intro hi _ _
    have hne : tx s i ≠ [] := fun e => by rw [e] at hv; exact absurd hv (by decide)
    refine .mk 2 0 _ [] rfl ?_ (fun h => by omega) (fun h => by omega) (fun _ _ => rfl) (fun _ => hv) (by simp)
    rw [show (tx s i == []) = false by rw [beq_eq_false_iff_ne]; exact hne]
    rfl
  | p_verr h hv => intro _ _ _; trivial
  | p_bad h1 h2 h => intro _ _ _; trivial
  | p_in h d ih => intro _ _ _; trivial
  | p_close h d h2 ih => intro _ _ _; trivial
  | @p_ok i j e h d h2 ih =>
    intro hi _ _
    obtain ⟨m1, m2⟩ := sy_move hi (by rw [h]; decide)
    exact ih m1 trivial trivial

theorem Vd_nms {e : TExpr} (v : Vd e) : Nms e := by
  induction v with
  | mk op n name kids h1 h2 h3 h4 h5 h6 h7 ih =>
    refine .mk op n name kids ?_ ih
    cases hn : isNm op with
    | true =>
      obtain ⟨_, _, _, _, _, _, _, h⟩ := name_word (h6 hn)
      omega
    | false =>
      rw [hn] at h2
      obtain rfl : name = [] := by simpa using h2.symm
      simp
theorem depthL_ge : ∀ (l : List TExpr) (m : Int), m ≤ depthL l m ∧ ∀ k, k ∈ l → depthS k ≤ depthL l m
  | [], m => ⟨Int.le_refl _, fun k h => by cases h⟩
  | k :: l, m => by
    simp only [depthL]
    by_cases h : m < depthS k
    · rw [decide_eq_true h]
      obtain ⟨h1, h2⟩ := depthL_ge l (depthS k)
      simp only [cond_true]
      refine ⟨by omega, fun x hx => ?_⟩
      rcases List.mem_cons.1 hx with rfl | hx
      · exact h1
      · exact h2 x hx
    · rw [decide_eq_false h]
      obtain ⟨h1, h2⟩ := depthL_ge l m
      simp only [cond_false]
      refine ⟨h1, fun x hx => ?_⟩
      rcases List.mem_cons.1 hx with rfl | hx
      · omega
      · exact h2 x hx
theorem Vd_valid {e : TExpr} (v : Vd e) : ∀ d, depthS e ≤ 32 - d → validS e d = 0 := by
  induction v with
  | mk op n name kids h1 h2 h3 h4 h5 h6 h7 ih =>
    intro d hd
    simp only [depthS] at hd
    obtain ⟨g1, g2⟩ := depthL_ge kids 0
    simp only [validS]
    rw [decide_eq_false (by omega)]
    have hsh : shapeBad op n name kids.length = false := by
      unfold shapeBad
      rw [show ((kids.length : Int) != kidsS op) = false by rw [bne_eq_false_iff_eq]; exact h1, h2]
      have e1 : ((!(name == [])) == (name == [])) = false := by cases (name == []) <;> rfl
      rw [e1]
      simp only [Bool.false_or]
      by_cases o1 : op = 1
      · subst o1
        have := h3 rfl
        rw [show decide (n < 0) = false from decide_eq_false (by omega)]
        rfl
      · by_cases o26 : op = 26
        · subst o26
          have : (n == 0 || compS n) = true := by
            rcases h4 rfl with h | h
            · subst h; rfl
            · rw [h, Bool.or_true]
          rw [this]
          rfl
        · have := h5 o1 o26
          subst this
          rw [show (op == 1) = false by rw [beq_eq_false_iff_ne]; exact o1, show (op == 26) = false by rw [beq_eq_false_iff_ne]; exact o26]
          simp
    rw [hsh]
    have hnm : (isNm op && !rName name) = false := by
      cases hn : isNm op with
      | false => rfl
      | true => rw [h6 hn]; rfl
    rw [hnm]
    simp only [cond_false]
    rw [validL_zero]
    intro k hk
    exact ih k hk (d + 1) (by have := g2 k hk; omega)

/-! ### How long the text is -/
def lenOk (c : Cat) (i : Nat) : Res → Prop
  | .ok e j => match c with | .loop _ a => (showS e).length + 20 * i ≤ 20 * j + (showS a).length | _ => (showS e).length + 20 * i ≤ 20 * j
  | .err _ _ => True
theorem opnd_le (e : TExpr) (l : Int) : (opndS e l).length ≤ (showS e).length + 2 := by
  rw [opndS_eq]; exact par_len _ _
theorem D_len {s : List UInt8} {c : Cat} {i : Nat} {r : Res} (d : D s c i r) : i ≤ s.length → c.okL → lenOk c i r := by
  induction d with
  | @e_cond i r h d ih =>
    intro hi _
    have := ih hi trivial
    cases r with
    | ok e j => exact this
    | err p c => trivial
  | e_name h hn => intro _ _; trivial
  | @e_set i j e h hn d ih =>
    intro hi _
    obtain ⟨a, b, c, f⟩ := asg_move hi h
    have y : (showS e).length + 20 * nx s (nx s i) ≤ 20 * j := ih c trivial
    have m := sy_move a (asgS_nil (asg_kd h).2.1)
    have hd := desc_len (asgAt s i)
    have ho := opnd_le e 1
    have ht : skip s i + (tx s i).length = nx s i := rfl
    have hsk := (skip_le s i hi).2
    show (showS (.mk 26 (asgAt s i) (tx s i) [e])).length + 20 * i ≤ 20 * j
    have : showS (.mk 26 (asgAt s i) (tx s i) [e]) = (((tx s i ++ [32]) ++ (descS (asgAt s i)).2) ++ [61, 32]) ++ opndS e 1 := rfl
    rw [this]
    simp only [List.length_append, List.length_cons, List.length_nil]
    omega
  | e_err h hn d ih => intro _ _; trivial
  | c_err d ih => intro _ _; trivial
  | c_one d h ih => intro hi _; exact ih hi (show (0 : Int) < 3 by decide)
  | c_yes d h d2 ih ih2 => intro _ _; trivial
  | c_mid d h d2 h2 ih ih2 => intro _ _; trivial
  | c_no d h d2 h2 d3 ih ih2 ih3 => intro _ _; trivial
  | @c_all i j k m a b e d h d2 h2 d3 ih ih2 ih3 =>
    intro hi _
    obtain ⟨_, p1, _⟩ := D_pos d hi (show (0 : Int) < 3 by decide)
    obtain ⟨m1, m2⟩ := sy_move p1 (by rw [h]; decide)
    obtain ⟨_, p2, _⟩ := D_pos d2 m1 trivial
    obtain ⟨m3, m4⟩ := sy_move p2 (by rw [h2]; decide)
    have n1 : (showS a).length + 20 * i ≤ 20 * j := ih hi (show (0 : Int) < 3 by decide)
    have n2 : (showS b).length + 20 * nx s j ≤ 20 * k := ih2 m1 trivial
    have n3 : (showS e).length + 20 * nx s k ≤ 20 * m := ih3 m3 trivial
    have o1 := opnd_le a 3
    have o2 := opnd_le b 1
    have o3 := opnd_le e 2
    show (showS (.mk 25 0 [] [a, b, e])).length + 20 * i ≤ 20 * m
    have : showS (.mk 25 0 [] [a, b, e]) = (((opndS a 3 ++ [32, 63, 32]) ++ opndS b 1) ++ [32, 58, 32]) ++ opndS e 2 := rfl
    rw [this]
    simp only [List.length_append, List.length_cons, List.length_nil]
    omega
  | o_err d ih => intro _ _; trivial
  | @o_go l i j a r d d2 ih ih2 =>
    intro hi hc
    obtain ⟨_, p1, _⟩ := D_pos d hi trivial
    have n1 : (showS a).length + 20 * i ≤ 20 * j := ih hi trivial
    have := ih2 p1 hc
    cases r with
    | ok e k =>
      have n2 : (showS e).length + 20 * j ≤ 20 * k + (showS a).length := this
      exact (show (showS e).length + 20 * i ≤ 20 * k by omega)
    | err p c => trivial
  | @l_stop l i a h => intro hi hc; exact (show (showS a).length + 20 * i ≤ 20 * i + (showS a).length by omega)
  | l_err h d ih => intro _ _; trivial
  | @l_go l i j a b r h d d2 ih ih2 =>
    intro hi hc
    have hc' : 0 < l := hc
    obtain ⟨m1, m2⟩ := sy_move hi (binS_nil hc' h)
    obtain ⟨_, p1, _⟩ := D_pos d m1 (show (0 : Int) < _ by omega)
    have n1 : (showS b).length + 20 * nx s i ≤ 20 * j := ih m1 (show (0 : Int) < _ by omega)
    have := ih2 p1 hc
    cases r with
    | ok e k =>
      have n2 : (showS e).length + 20 * j ≤ 20 * k + (showS (.mk (binS (sy s i)).2 0 [] [a, b])).length := this
      show (showS e).length + 20 * i ≤ 20 * k + (showS a).length
      obtain ⟨b1, b2, b3, b4⟩ := (sy_tab s i).op (by omega)
      generalize hop : (binS (sy s i)).2 = op at *
      have c1 : ((descS op).1 == 1) = false := by rw [beq_eq_false_iff_ne]; have := (sy_tab s i).lv; omega
      have c2 : ((descS op).1 == 2) = false := by rw [beq_eq_false_iff_ne]; have := (sy_tab s i).lv; omega
      have c3 : ((descS op).1 == 13) = false := by rw [beq_eq_false_iff_ne]; have := (sy_tab s i).lv; omega
      have c4 : ((descS op).1 == 14) = false := by rw [beq_eq_false_iff_ne]; have := (sy_tab s i).lv; omega
      have hsh : showS (.mk op 0 [] [a, b]) = (opndS a (descS op).1 ++ (([32] ++ (descS op).2) ++ [32])) ++ opndS b ((descS op).1 + 1) := by
        unfold showS bodyS
        simp only [TExpr.fOp, TExpr.fN, TExpr.fName, TExpr.fKids, c1, c2, c3, c4, cond_false, List.map_cons, List.getD_cons_zero, List.getD_cons_succ]
      rw [hsh] at n2
      have o1 := opnd_le a (descS op).1
      have o2 := opnd_le b ((descS op).1 + 1)
      have hd := desc_len op
      simp only [List.length_append, List.length_cons, List.length_nil] at n2
      omega
    | err p c => trivial
  | @u_prim i r h d ih =>
    intro hi _
    have := ih hi trivial
    cases r with
    | ok e j => exact this
    | err p c => trivial
  | u_err h d ih => intro _ _; trivial
  | @u_go i j a h d ih =>
    intro hi _
    obtain ⟨m1, m2⟩ := sy_move hi (unS_nil h)
    have n1 : (showS a).length + 20 * nx s i ≤ 20 * j := ih m1 trivial
    obtain ⟨_, _, _, _, b1, b2⟩ := kids_un h
    show (showS (.mk (unS (sy s i)) 0 [] [a])).length + 20 * i ≤ 20 * j
    obtain ⟨c, e1, _⟩ := un_tok (op := unS (sy s i)) ⟨b1, b2⟩
    have hl : (descS (unS (sy s i))).1 = 13 := by
      generalize unS (sy s i) = op at b1 b2
      rcases op_cases (op := op) (by omega) with rfl | rfl | rfl | rfl | rfl | rfl | rfl | rfl | rfl | rfl | rfl | rfl | rfl | rfl | rfl | rfl | rfl | rfl | rfl | rfl | rfl | rfl | rfl | rfl | rfl | rfl <;> first | omega | decide
    have hsh : showS (.mk (unS (sy s i)) 0 [] [a]) = c :: opndS a 13 := by
      unfold showS bodyS
      simp only [TExpr.fOp, TExpr.fN, TExpr.fName, TExpr.fKids]
      rw [hl, e1]; rfl
    rw [hsh]
    have o1 := opnd_le a 13
    simp only [List.length_cons]
    omega
  | @p_num i h hv =>
    intro hi _
    have m := (nx_bounds s i hi).2.2 (by rw [h]; decide)
    obtain ⟨g1, g2⟩ := valS_range _ hv
    have := itoa_len g1 g2
    show (showS (.mk 1 (valS (tx s i)).1 [] [])).length + 20 * i ≤ 20 * nx s i
    have hsh : showS (.mk 1 (valS (tx s i)).1 [] []) = Lib.itoa (valS (tx s i)).1 := rfl
    rw [hsh]; omega
  | p_nerr h hv => intro _ _; trivial
  | @p_var i h hv =>
    intro hi _
    have hsk := (skip_le s i hi).2
    have ht : skip s i + (tx s i).length = nx s i := rfl
    show (showS (.mk 2 0 (tx s i) [])).length + 20 * i ≤ 20 * nx s i
    have hsh : showS (.mk 2 0 (tx s i) []) = tx s i := rfl
    rw [hsh]; omega
  | p_verr h hv => intro _ _; trivial
  | p_bad h1 h2 h => intro _ _; trivial
  | p_in h d ih => intro _ _; trivial
  | p_close h d h2 ih => intro _ _; trivial
  | @p_ok i j e h d h2 ih =>
    intro hi _
    obtain ⟨m1, m2⟩ := sy_move hi (by rw [h]; decide)
    obtain ⟨_, p1, _⟩ := D_pos d m1 trivial
    obtain ⟨m3, m4⟩ := sy_move p1 (by rw [h2]; decide)
    have n1 : (showS e).length + 20 * nx s i ≤ 20 * j := ih m1 trivial
    exact (show (showS e).length + 20 * i ≤ 20 * nx s j by omega)

/-- What a parsed tree is. -/
structure Parsed (e : TExpr) : Prop where
  o : okTExpr e
  n : nodes e ≤ 1000
  v : validS e 0 = 0
  m : Nms e
  l : (showS e).length ≤ 4096
theorem Parse_out {s : List UInt8} (hs : s.length ≤ 120) : ∃ x, (Evt fun F _ => arith_Parse F s = some x) ∧ ((x.2.2 ≠ 0 ∧ x.1 = zeroE) ∨ (x.2.2 = 0 ∧ Parsed x.1)) := by
  by_cases h0 : skip s 0 < s.length
  · obtain ⟨r, d⟩ := D_expr s 0 (Nat.zero_le _)
    refine ⟨_, (Parse_eq (by omega) h0 d).mono fun F _ h => h.1, ?_⟩
    cases r with
    | err p c =>
      have hc : c ≠ 0 := RD_pos (D_RD d) (Nat.zero_le _)
      exact .inl ⟨hc, rfl⟩
    | ok e j =>
      show (((cond (decide (skip s j < s.length)) (zeroE, (skip s j : Int), (6 : Int)) (cond (decide (32 < depthS e)) (zeroE, 0, 5) (e, 0, 0)))).2.2 ≠ 0 ∧ (cond (decide (skip s j < s.length)) (zeroE, (skip s j : Int), (6 : Int)) (cond (decide (32 < depthS e)) (zeroE, 0, 5) (e, 0, 0))).1 = zeroE) ∨ (((cond (decide (skip s j < s.length)) (zeroE, (skip s j : Int), (6 : Int)) (cond (decide (32 < depthS e)) (zeroE, 0, 5) (e, 0, 0)))).2.2 = 0 ∧ Parsed (cond (decide (skip s j < s.length)) (zeroE, (skip s j : Int), (6 : Int)) (cond (decide (32 < depthS e)) (zeroE, 0, 5) (e, 0, 0))).1)
      cases decide (skip s j < s.length) with
      | true => exact .inl ⟨(show (6 : Int) ≠ 0 by decide), rfl⟩
      | false =>
        by_cases hd : 32 < depthS e
        · rw [decide_eq_true hd]; exact .inl ⟨(show (5 : Int) ≠ 0 by decide), rfl⟩
        · rw [decide_eq_false hd]
          obtain ⟨_, hj, _⟩ := D_pos d (Nat.zero_le _) trivial
          obtain ⟨ho, hn⟩ := D_ok (by omega) d (Nat.zero_le _) trivial
          have hn : nodes e + 0 ≤ j := hn
          have hv : Vd e := D_vd d (Nat.zero_le _) trivial trivial
          have hl : (showS e).length + 20 * 0 ≤ 20 * j := D_len d (Nat.zero_le _) trivial
          exact .inr ⟨rfl, ⟨ho, show nodes e ≤ 1000 by omega, Vd_valid hv 0 (by omega), Vd_nms hv, show (showS e).length ≤ 4096 by omega⟩⟩
  · refine ⟨_, (Parse_blank (by omega) h0).mono fun F _ h => h.1, .inr ⟨rfl, ?_⟩⟩
    exact ⟨ok_mk (by omega) (by omega) (by simp) (by simp) (by simp), by decide, by decide, .mk 1 0 [] [] (by simp) (by simp), by
      show (Lib.itoa 0).length ≤ 4096
      have := itoa_len (n := 0) (by omega) (by omega)
      omega⟩

theorem arithAgain_plain (a0 : List UInt8) (q0 : a0.length ≤ maxLen) : ∃ F, law05_ArithAgain F a0 = some true := by
  refine Evt.diag (p := fun F _ => law05_ArithAgain F a0 = some true) ?_
  by_cases h : 120 < a0.length
  · refine Evt.of fun F _ => ?_
    unfold law05_ArithAgain
    rw [decide_eq_true (by omega), awake60]
    rfl
  · have hlt : decide (120 < (a0.length : Int)) = false := decide_eq_false (by omega)
    obtain ⟨x, hp, hx⟩ := Parse_out (s := a0) (by omega)
    rcases hx with ⟨h1, h2⟩ | ⟨h1, p⟩
    · have hz : okTExpr zeroE := ok_mk (by omega) (by omega) (by simp) (by simp) (by simp)
      refine hp.map2 (ref05_Same_eq hz).fst fun F _ hp hsame => ?_
      have h1' : (x.2.2 != 0) = true := by simpa using h1
      unfold law05_ArithAgain ref05_Same
      rw [hlt, hp, awake60]
      simp only [cond_false, Option.bind_some, h1', cond_true, TExpr.eta]
      rw [h2, hsame, show TExpr.mk 0 0 [] [] = zeroE from rfl, sameB_refl]
      rfl
    · have g := validS_good p.o p.m p.v
      have hs : ShowS x.1 = (showS x.1, 0) := by
        unfold ShowS
        have := p.l
        rw [p.v, opnd_one g, decide_eq_false (by omega)]
        rfl
      have h1' : (x.2.2 != 0) = false := by simpa using h1
      refine (hp.and (arith_Show_eq p.o p.m p.n)).map3 (back g p.v p.l) ((ref05_Same_eq p.o).fst.and (arith_Valid_eq p.o)) fun F _ h12 h3 h45 => ?_
      obtain ⟨e1, e2⟩ := h12
      obtain ⟨e4, e5⟩ := h45
      rw [hs] at e2
      rw [p.v] at e5
      unfold law05_ArithAgain ref05_Same
      rw [hlt, e1, awake60]
      simp only [cond_false, Option.bind_some, h1', TExpr.eta, e2, h3, e5, e4, sameB_refl, beq_self_eq_true, cond_true]
end Go.Proofs.YtnbdahlceddihaaDoor
