/-
  A text in brackets: the plain law of ArithParens.
-/
import Derived.Test.YtnbdahlceddihaaDoorAg
namespace Go.Proofs.YtnbdahlceddihaaDoor
open Go.RT
set_option linter.all false
set_option maxRecDepth 100000

def br (s : List UInt8) : List UInt8 := ([40] ++ s) ++ [41]
theorem br_len (s : List UInt8) : (br s).length = s.length + 2 := by simp [br]
theorem br_drop (s : List UInt8) (i : Nat) (hi : i ≤ s.length) : (br s).drop (i + 1) = s.drop i ++ [41] := by
  unfold br
  rw [List.append_assoc]
  show (s ++ [41]).drop i = _
  rw [List.drop_append_of_le_length hi]
theorem br_end (s : List UInt8) : (br s).drop (s.length + 2) = [] := List.drop_eq_nil_of_le (by rw [br_len]; omega)
theorem takeWhile_app {α : Type} (p : α → Bool) (x : α) (h : p x = false) : ∀ l : List α, (l ++ [x]).takeWhile p = l.takeWhile p
  | [] => by simp [h]
  | a :: l => by
    rw [List.cons_append, List.takeWhile_cons, List.takeWhile_cons, takeWhile_app p x h l]
theorem ops_41 : ∀ o, o ∈ ops35 → (41 : UInt8) ∈ o → o = [41] := by decide
theorem opTxt_app (L : List UInt8) (h : L ≠ []) : opTxt (L ++ [41]) = opTxt L := by
  have key : ∀ o, o ∈ ops35 → o.isPrefixOf (L ++ [41]) = o.isPrefixOf L := by
    intro o ho
    rw [Bool.eq_iff_iff, List.isPrefixOf_iff_prefix, List.isPrefixOf_iff_prefix]
    constructor
    · intro hp
      rcases List.prefix_concat_iff.1 hp with he | hp
      · exfalso
        have := ops_41 o ho (by rw [he]; simp)
        rw [he] at this
        cases L with
        | nil => exact h rfl
        | cons a l => simp at this
      · exact hp
    · intro hp
      exact hp.trans (List.prefix_append _ _)
  unfold opTxt
  have : ∀ l : List (List UInt8), (∀ o, o ∈ l → o.isPrefixOf (L ++ [41]) = o.isPrefixOf L) → l.find? (fun o => o.isPrefixOf (L ++ [41])) = l.find? fun o => o.isPrefixOf L := by
    intro l
    induction l with
    | nil => intro _; rfl
    | cons o l ih =>
      intro hk
      rw [List.find?_cons, List.find?_cons, hk o (by simp), ih fun o h => hk o (List.mem_cons_of_mem _ h)]
  rw [this ops35 key]
theorem skipT (s : List UInt8) (i : Nat) (hi : i ≤ s.length) : skip (br s) (i + 1) = skip s i + 1 := by
  unfold skip
  rw [br_drop s i hi, takeWhile_app bl 41 (by decide)]
  omega
structure TokT (s : List UInt8) (i : Nat) : Prop where
  kd : kd (br s) (i + 1) = kd s i
  tx : tx (br s) (i + 1) = tx s i
  sy : sy (br s) (i + 1) = sy s i
  nx : nx (br s) (i + 1) = nx s i + 1
theorem tokT (s : List UInt8) (i : Nat) (hi : i ≤ s.length) (h : skip s i < s.length) : TokT s i := by
  have hsk := skipT s i hi
  have hd := br_drop s (skip s i) (by omega)
  have hsy : sy (br s) (i + 1) = sy s i := by
    unfold sy
    rw [hsk, hd]
    exact opTxt_app _ (by rw [ne_eq, List.drop_eq_nil_iff]; omega)
  have hsc : (scanS (br s) (i + 1)).fkind = (scanS s i).fkind ∧ (scanS (br s) (i + 1)).ftext = (scanS s i).ftext := by
    unfold scanS tokAt wordL
    rw [hsk, hd]
    have hsy' : opTxt (s.drop (skip s i) ++ [41]) = opTxt (s.drop (skip s i)) := opTxt_app _ (by rw [ne_eq, List.drop_eq_nil_iff]; omega)
    rw [hsy', takeWhile_app fo 41 (by decide)]
    cases hL : s.drop (skip s i) with
    | nil => rw [List.drop_eq_nil_iff] at hL; omega
    | cons b m =>
      simp only [List.cons_append]
      cases fo b
      · cases (opTxt (b :: m) == []) <;> exact ⟨rfl, rfl⟩
      · exact ⟨rfl, rfl⟩
  refine ⟨hsc.1, hsc.2, hsy, ?_⟩
  show skip (br s) (i + 1) + (scanS (br s) (i + 1)).ftext.length = skip s i + (scanS s i).ftext.length + 1
  rw [hsk, hsc.2]; omega
structure TokE (s : List UInt8) (i : Nat) : Prop where
  kd : kd (br s) (i + 1) = 3
  sy : sy (br s) (i + 1) = [41]
  nx : nx (br s) (i + 1) = s.length + 2
  kd' : Go.Proofs.YtnbdahlceddihaaDoor.kd s i = 0
  sy' : Go.Proofs.YtnbdahlceddihaaDoor.sy s i = []
theorem tokE (s : List UInt8) (i : Nat) (hi : i ≤ s.length) (h : skip s i = s.length) : TokE s i := by
  have hsk := skipT s i hi
  have hd : (br s).drop (skip s i + 1) = 41 :: [] := by rw [br_drop s (skip s i) (by omega), h, List.drop_length]; rfl
  have hs2 : skip (br s) (skip s i + 1) = skip s i + 1 := by rw [← hsk]; exact skip_skip _ _
  have hsame : skip (br s) (i + 1) = skip (br s) (skip s i + 1) := by rw [hs2, hsk]
  obtain ⟨c1, c2⟩ := brk_close hd
  have q := scan_op hd (by decide) (by decide) (by decide)
  have hk : kd s i = 0 := by
    have := kd_end s i hi
    rw [h, decide_eq_false (by omega)] at this
    simpa using this
  refine ⟨by rw [kd_same hsame]; exact q.1, by rw [sy_same hsame]; exact c1, by rw [nx_same hsame, c2, h], hk, ?_⟩
  show opTxt (s.drop (skip s i)) = []
  rw [h, List.drop_length]
  rfl
section
variable {s : List UInt8} {i : Nat} (hi : i ≤ s.length)
include hi
theorem skip_two : skip s i < s.length ∨ skip s i = s.length := by have := (skip_le s i hi).1; omega
theorem binT : binS (sy (br s) (i + 1)) = binS (sy s i) := by
  rcases skip_two hi with h | h
  · rw [(tokT s i hi h).sy]
  · rw [(tokE s i hi h).sy, (tokE s i hi h).sy']; decide
theorem unT : unS (sy (br s) (i + 1)) = unS (sy s i) := by
  rcases skip_two hi with h | h
  · rw [(tokT s i hi h).sy]
  · rw [(tokE s i hi h).sy, (tokE s i hi h).sy']; decide
theorem asgST : asgS (sy (br s) (i + 1)) = asgS (sy s i) := by
  rcases skip_two hi with h | h
  · rw [(tokT s i hi h).sy]
  · rw [(tokE s i hi h).sy, (tokE s i hi h).sy']; decide
theorem syT {x : List UInt8} (h1 : x ≠ []) (h2 : x ≠ [41]) : sy (br s) (i + 1) = x ↔ sy s i = x := by
  rcases skip_two hi with h | h
  · rw [(tokT s i hi h).sy]
  · rw [(tokE s i hi h).sy, (tokE s i hi h).sy']
    exact ⟨fun e => absurd e.symm h2, fun e => absurd e.symm h1⟩
theorem moveT {x : List UInt8} (h1 : sy s i ≠ []) : nx (br s) (i + 1) = nx s i + 1 ∧ nx s i ≤ s.length ∧ skip s i < s.length := by
  rcases skip_two hi with h | h
  · exact ⟨(tokT s i hi h).nx, (nx_bounds s i hi).1, h⟩
  · exact absurd (tokE s i hi h).sy' h1
theorem kdT (k : Int) (h0 : k ≠ 0) (h3 : k ≠ 3) : kd (br s) (i + 1) = k ↔ kd s i = k := by
  rcases skip_two hi with h | h
  · rw [(tokT s i hi h).kd]
  · rw [(tokE s i hi h).kd, (tokE s i hi h).kd']
    exact ⟨fun e => absurd e.symm h3, fun e => absurd e.symm h0⟩
theorem asgT : asgAt (br s) (i + 1) = asgAt s i := by
  unfold asgAt
  by_cases hk : kd s i = 2
  · have h : skip s i < s.length := by
      rcases skip_two hi with h | h
      · exact h
      · rw [(tokE s i hi h).kd'] at hk; omega
    have t := tokT s i hi h
    rw [t.kd, t.nx, asgST (nx_bounds s i hi).1]
  · have hk' : kd (br s) (i + 1) ≠ 2 := fun e => hk ((kdT hi 2 (by decide) (by decide)).1 e)
    rw [show (kd s i == 2) = false by rw [beq_eq_false_iff_ne]; exact hk, show (kd (br s) (i + 1) == 2) = false by rw [beq_eq_false_iff_ne]; exact hk']
    simp only [cond_false]
end

/-- What may come where the text alone ended too early. -/
def Late (n : Nat) : Res → Prop
  | .ok _ j => j = n + 2
  | .err p c => n < p ∧ c = 6
def ShR (n : Nat) (P : Res → Prop) : Res → Prop
  | .ok e j => P (.ok e (j + 1))
  | .err p c => (p < n → P (.err (p + 1) c)) ∧ (p = n → c = 6 ∧ ∃ r, P r ∧ Late n r)
theorem kd_lt {s : List UInt8} {i : Nat} (hi : i ≤ s.length) (h : kd s i ≠ 0) : skip s i < s.length := by
  rcases skip_two hi with h' | h'
  · exact h'
  · exact absurd (tokE s i hi h').kd' h
theorem sy_lt {s : List UInt8} {i : Nat} (hi : i ≤ s.length) (h : sy s i ≠ []) : skip s i < s.length := by
  rcases skip_two hi with h' | h'
  · exact h'
  · exact absurd (tokE s i hi h').sy' h
theorem sy_fin (s : List UInt8) : sy (br s) (s.length + 2) = [] := sy_nil (br_end s)
theorem skip_fin (s : List UInt8) : skip (br s) (s.length + 2) = s.length + 2 := skip_nil (br_end s)
theorem lv_fin (s : List UInt8) : (binS (sy (br s) (s.length + 2))).1 = 0 := by rw [sy_fin]; rfl

set_option maxHeartbeats 4000000 in
theorem D_br {s : List UInt8} {c : Cat} {i : Nat} {r : Res} (d : D s c i r) : i ≤ s.length → c.okL → ShR s.length (fun r => D (br s) c (i + 1) r) r := by
  induction d with
  | @e_cond i r h d ih =>
    intro hi _
    have ha : asgAt (br s) (i + 1) = -1 := by rw [asgT hi]; exact h
    have := ih hi trivial
    cases r with
    | ok e j => exact .e_cond ha this
    | err p c => exact ⟨fun hp => .e_cond ha (this.1 hp), fun hp => by obtain ⟨a, r, b, c⟩ := this.2 hp; exact ⟨a, r, .e_cond ha b, c⟩⟩
  | @e_name i h hn =>
    intro hi _
    have hk := (asg_kd h).1
    have hlt := kd_lt hi (by rw [hk]; decide)
    have t := tokT s i hi hlt
    refine ⟨fun _ => ?_, fun hp => by omega⟩
    rw [← skipT s i hi]
    exact .e_name (by rw [asgT hi]; exact h) (by rw [t.tx]; exact hn)
  | @e_set i j e h hn d ih =>
    intro hi _
    obtain ⟨m1, m2, m3, m4⟩ := asg_move hi h
    have hk := asg_kd h
    have t := tokT s i hi (kd_lt hi (by rw [hk.1]; decide))
    have t2 := tokT s _ m1 (sy_lt m1 (asgS_nil hk.2.1))
    have := D.e_set (s := br s) (i := i + 1) (by rw [asgT hi]; exact h) (by rw [t.tx]; exact hn) (by rw [t.nx, t2.nx]; exact ih m3 trivial)
    rw [asgT hi, t.tx] at this
    exact this
  | @e_err i p c h hn d ih =>
    intro hi _
    obtain ⟨m1, m2, m3, m4⟩ := asg_move hi h
    have hk := asg_kd h
    have t := tokT s i hi (kd_lt hi (by rw [hk.1]; decide))
    have t2 := tokT s _ m1 (sy_lt m1 (asgS_nil hk.2.1))
    have := ih m3 trivial
    have h' : asgAt (br s) (i + 1) ≠ -1 := by rw [asgT hi]; exact h
    have hn' : rName (tx (br s) (i + 1)) = true := by rw [t.tx]; exact hn
    have hx : nx (br s) (nx (br s) (i + 1)) = nx s (nx s i) + 1 := by rw [t.nx, t2.nx]
    refine ⟨fun hp => .e_err h' hn' (by rw [hx]; exact this.1 hp), fun hp => ?_⟩
    obtain ⟨a, r, b, c⟩ := this.2 hp
    refine ⟨a, ?_⟩
    cases r with
    | ok e j => exact ⟨_, .e_set h' hn' (by rw [hx]; exact b), c⟩
    | err p c' => exact ⟨_, .e_err h' hn' (by rw [hx]; exact b), c⟩
  | @c_err i p c d ih =>
    intro hi _
    have := ih hi (show (0 : Int) < 3 by decide)
    refine ⟨fun hp => .c_err (this.1 hp), fun hp => ?_⟩
    obtain ⟨a, r, b, c⟩ := this.2 hp
    refine ⟨a, ?_⟩
    cases r with
    | ok e j =>
      have c : j = s.length + 2 := c
      subst c
      exact ⟨_, .c_one b (by rw [sy_fin]; decide), rfl⟩
    | err p c' => exact ⟨_, .c_err b, c⟩
  | @c_one i j a d h ih =>
    intro hi _
    obtain ⟨_, y, _⟩ := D_pos d hi (show (0 : Int) < 3 by decide)
    exact .c_one (ih hi (show (0 : Int) < 3 by decide)) fun e => h ((syT y (by decide) (by decide)).1 e)
  | @c_yes i j p c a d h d2 ih ih2 =>
    intro hi _
    obtain ⟨_, y, _⟩ := D_pos d hi (show (0 : Int) < 3 by decide)
    obtain ⟨x1, x2, _⟩ := moveT (x := []) y (by rw [h]; decide)
    have h' : sy (br s) (j + 1) = [63] := (syT y (by decide) (by decide)).2 h
    have i1 := ih hi (show (0 : Int) < 3 by decide)
    have := ih2 x2 trivial
    refine ⟨fun hp => .c_yes i1 h' (by rw [x1]; exact this.1 hp), fun hp => ?_⟩
    obtain ⟨a, r, b, c⟩ := this.2 hp
    refine ⟨a, ?_⟩
    cases r with
    | ok e j' =>
      have c : j' = s.length + 2 := c
      subst c
      exact ⟨_, .c_mid i1 h' (by rw [x1]; exact b) (by rw [sy_fin]; decide), by rw [skip_fin]; omega, rfl⟩
    | err p c' => exact ⟨_, .c_yes i1 h' (by rw [x1]; exact b), c⟩
  | @c_mid i j k a b d h d2 h2 ih ih2 =>
    intro hi _
    obtain ⟨_, y, _⟩ := D_pos d hi (show (0 : Int) < 3 by decide)
    obtain ⟨x1, x2, _⟩ := moveT (x := []) y (by rw [h]; decide)
    obtain ⟨_, y2, _⟩ := D_pos d2 x2 trivial
    have h' : sy (br s) (j + 1) = [63] := (syT y (by decide) (by decide)).2 h
    have dd := D.c_mid (ih hi (show (0 : Int) < 3 by decide)) h' (by rw [x1]; exact ih2 x2 trivial) (fun e => h2 ((syT y2 (by decide) (by decide)).1 e))
    rw [skipT s k y2] at dd
    exact ⟨fun _ => dd, fun hp => ⟨rfl, _, dd, by omega, rfl⟩⟩
  | @c_no i j k p c a b d h d2 h2 d3 ih ih2 ih3 =>
    intro hi _
    obtain ⟨_, y, _⟩ := D_pos d hi (show (0 : Int) < 3 by decide)
    obtain ⟨x1, x2, _⟩ := moveT (x := []) y (by rw [h]; decide)
    obtain ⟨_, y2, _⟩ := D_pos d2 x2 trivial
    obtain ⟨x3, x4, _⟩ := moveT (x := []) y2 (by rw [h2]; decide)
    have h' : sy (br s) (j + 1) = [63] := (syT y (by decide) (by decide)).2 h
    have h2' : sy (br s) (k + 1) = [58] := (syT y2 (by decide) (by decide)).2 h2
    have i1 := ih hi (show (0 : Int) < 3 by decide)
    have i2 : D (br s) .expr (nx (br s) (j + 1)) (.ok b (k + 1)) := by rw [x1]; exact ih2 x2 trivial
    have := ih3 x4 trivial
    refine ⟨fun hp => .c_no i1 h' i2 h2' (by rw [x3]; exact this.1 hp), fun hp => ?_⟩
    obtain ⟨a, r, b, c⟩ := this.2 hp
    refine ⟨a, ?_⟩
    cases r with
    | ok e j' => exact ⟨_, .c_all i1 h' i2 h2' (by rw [x3]; exact b), c⟩
    | err p c' => exact ⟨_, .c_no i1 h' i2 h2' (by rw [x3]; exact b), c⟩
  | @c_all i j k m a b e d h d2 h2 d3 ih ih2 ih3 =>
    intro hi _
    obtain ⟨_, y, _⟩ := D_pos d hi (show (0 : Int) < 3 by decide)
    obtain ⟨x1, x2, _⟩ := moveT (x := []) y (by rw [h]; decide)
    obtain ⟨_, y2, _⟩ := D_pos d2 x2 trivial
    obtain ⟨x3, x4, _⟩ := moveT (x := []) y2 (by rw [h2]; decide)
    exact .c_all (ih hi (show (0 : Int) < 3 by decide)) ((syT y (by decide) (by decide)).2 h) (by rw [x1]; exact ih2 x2 trivial) ((syT y2 (by decide) (by decide)).2 h2) (by rw [x3]; exact ih3 x4 trivial)
  | @o_err l i p c d ih =>
    intro hi hl
    have := ih hi trivial
    refine ⟨fun hp => .o_err (this.1 hp), fun hp => ?_⟩
    obtain ⟨a, r, b, c⟩ := this.2 hp
    refine ⟨a, ?_⟩
    cases r with
    | ok e j =>
      have c : j = s.length + 2 := c
      subst c
      exact ⟨_, .o_go b (.l_stop (by rw [lv_fin]; exact hl)), rfl⟩
    | err p c' => exact ⟨_, .o_err b, c⟩
  | @o_go l i j a r d d2 ih ih2 =>
    intro hi hl
    obtain ⟨_, y, _⟩ := D_pos d hi trivial
    have i1 := ih hi trivial
    have := ih2 y hl
    cases r with
    | ok e k => exact .o_go i1 this
    | err p c =>
      refine ⟨fun hp => .o_go i1 (this.1 hp), fun hp => ?_⟩
      obtain ⟨a, r, b, c⟩ := this.2 hp
      exact ⟨a, r, .o_go i1 b, c⟩
  | @l_stop l i a h => intro hi _; exact .l_stop (by rw [binT hi]; exact h)
  | @l_err l i p c a h d ih =>
    intro hi hl
    have hl' : 0 < l := hl
    obtain ⟨x1, x2, _⟩ := moveT (x := []) hi (binS_nil hl' h)
    have hb := binT hi
    have := ih x2 (show (0 : Int) < _ by omega)
    have e1 : D (br s) (.oper ((binS (sy (br s) (i + 1))).1 + 1)) (nx (br s) (i + 1)) = D (br s) (.oper ((binS (sy s i)).1 + 1)) (nx s i + 1) := by rw [hb, x1]
    have h' : l ≤ (binS (sy (br s) (i + 1))).1 := by rw [hb]; exact h
    refine ⟨fun hp => .l_err h' (by rw [e1]; exact this.1 hp), fun hp => ?_⟩
    obtain ⟨a', r, b, c⟩ := this.2 hp
    refine ⟨a', ?_⟩
    cases r with
    | ok e j =>
      have c : j = s.length + 2 := c
      subst c
      exact ⟨_, .l_go h' (by rw [e1]; exact b) (.l_stop (by rw [lv_fin]; exact hl)), rfl⟩
    | err p c' => exact ⟨_, .l_err h' (by rw [e1]; exact b), c⟩
  | @l_go l i j a b r h d d2 ih ih2 =>
    intro hi hl
    have hl' : 0 < l := hl
    obtain ⟨x1, x2, _⟩ := moveT (x := []) hi (binS_nil hl' h)
    have hb := binT hi
    obtain ⟨_, y, _⟩ := D_pos d x2 (show (0 : Int) < _ by omega)
    have e1 : D (br s) (.oper ((binS (sy (br s) (i + 1))).1 + 1)) (nx (br s) (i + 1)) = D (br s) (.oper ((binS (sy s i)).1 + 1)) (nx s i + 1) := by rw [hb, x1]
    have h' : l ≤ (binS (sy (br s) (i + 1))).1 := by rw [hb]; exact h
    have i1 : D (br s) (.oper ((binS (sy (br s) (i + 1))).1 + 1)) (nx (br s) (i + 1)) (.ok b (j + 1)) := by rw [e1]; exact ih x2 (show (0 : Int) < _ by omega)
    have := ih2 y hl
    cases r with
    | ok e k => exact .l_go h' i1 (by rw [hb]; exact this)
    | err p c =>
      refine ⟨fun hp => .l_go h' i1 (by rw [hb]; exact this.1 hp), fun hp => ?_⟩
      obtain ⟨a, r, b, c⟩ := this.2 hp
      exact ⟨a, r, .l_go h' i1 (by rw [hb]; exact b), c⟩
  | @u_prim i r h d ih =>
    intro hi _
    have hu : unS (sy (br s) (i + 1)) = 0 := by rw [unT hi]; exact h
    have := ih hi trivial
    cases r with
    | ok e j => exact .u_prim hu this
    | err p c => exact ⟨fun hp => .u_prim hu (this.1 hp), fun hp => by obtain ⟨a, r, b, c⟩ := this.2 hp; exact ⟨a, r, .u_prim hu b, c⟩⟩
  | @u_err i p c h d ih =>
    intro hi _
    obtain ⟨x1, x2, _⟩ := moveT (x := []) hi (unS_nil h)
    have hu : unS (sy (br s) (i + 1)) ≠ 0 := by rw [unT hi]; exact h
    have := ih x2 trivial
    refine ⟨fun hp => .u_err hu (by rw [x1]; exact this.1 hp), fun hp => ?_⟩
    obtain ⟨a, r, b, c⟩ := this.2 hp
    refine ⟨a, ?_⟩
    cases r with
    | ok e j => exact ⟨_, .u_go hu (by rw [x1]; exact b), c⟩
    | err p c' => exact ⟨_, .u_err hu (by rw [x1]; exact b), c⟩
  | @u_go i j a h d ih =>
    intro hi _
    obtain ⟨x1, x2, _⟩ := moveT (x := []) hi (unS_nil h)
    have := D.u_go (s := br s) (i := i + 1) (by rw [unT hi]; exact h) (by rw [x1]; exact ih x2 trivial)
    rw [unT hi] at this
    exact this
  | @p_num i h hv =>
    intro hi _
    have t := tokT s i hi (kd_lt hi (by rw [h]; decide))
    have := D.p_num (s := br s) (i := i + 1) (by rw [t.kd]; exact h) (by rw [t.tx]; exact hv)
    rw [t.tx, t.nx] at this
    exact this
  | @p_nerr i h hv =>
    intro hi _
    have hlt := kd_lt hi (by rw [h]; decide)
    have t := tokT s i hi hlt
    have := D.p_nerr (s := br s) (i := i + 1) (by rw [t.kd]; exact h) (by rw [t.tx]; exact hv)
    rw [t.tx, skipT s i hi] at this
    exact ⟨fun _ => this, fun hp => by omega⟩
  | @p_var i h hv =>
    intro hi _
    have t := tokT s i hi (kd_lt hi (by rw [h]; decide))
    have := D.p_var (s := br s) (i := i + 1) (by rw [t.kd]; exact h) (by rw [t.tx]; exact hv)
    rw [t.tx, t.nx] at this
    exact this
  | @p_verr i h hv =>
    intro hi _
    have hlt := kd_lt hi (by rw [h]; decide)
    have t := tokT s i hi hlt
    have := D.p_verr (s := br s) (i := i + 1) (by rw [t.kd]; exact h) (by rw [t.tx]; exact hv)
    rw [skipT s i hi] at this
    exact ⟨fun _ => this, fun hp => by omega⟩
  | @p_bad i h1 h2 h =>
    intro hi _
    have dd := D.p_bad (s := br s) (i := i + 1) (fun e => h1 ((kdT hi 1 (by decide) (by decide)).1 e)) (fun e => h2 ((kdT hi 2 (by decide) (by decide)).1 e)) (fun e => h ((syT hi (by decide) (by decide)).1 e))
    rw [skipT s i hi] at dd
    exact ⟨fun _ => dd, fun hp => ⟨rfl, _, dd, by omega, rfl⟩⟩
  | @p_in i p c h d ih =>
    intro hi _
    obtain ⟨x1, x2, _⟩ := moveT (x := []) hi (by rw [h]; decide)
    have h' : sy (br s) (i + 1) = [40] := (syT hi (by decide) (by decide)).2 h
    have := ih x2 trivial
    refine ⟨fun hp => .p_in h' (by rw [x1]; exact this.1 hp), fun hp => ?_⟩
    obtain ⟨a, r, b, c⟩ := this.2 hp
    refine ⟨a, ?_⟩
    cases r with
    | ok e j =>
      have c : j = s.length + 2 := c
      subst c
      exact ⟨_, .p_close h' (by rw [x1]; exact b) (by rw [sy_fin]; decide), by rw [skip_fin]; omega, rfl⟩
    | err p c' => exact ⟨_, .p_in h' (by rw [x1]; exact b), c⟩
  | @p_close i j e h d h2 ih =>
    intro hi _
    obtain ⟨x1, x2, _⟩ := moveT (x := []) hi (by rw [h]; decide)
    have h' : sy (br s) (i + 1) = [40] := (syT hi (by decide) (by decide)).2 h
    obtain ⟨_, y, _⟩ := D_pos d x2 trivial
    have i1 : D (br s) .expr (nx (br s) (i + 1)) (.ok e (j + 1)) := by rw [x1]; exact ih x2 trivial
    rcases skip_two y with hj | hj
    · have t := tokT s j y hj
      have dd := D.p_close h' i1 (by rw [t.sy]; exact h2)
      rw [skipT s j y] at dd
      exact ⟨fun _ => dd, fun hp => by omega⟩
    · have t := tokE s j y hj
      have dd := D.p_ok h' i1 t.sy
      rw [t.nx] at dd
      exact ⟨fun hp => by omega, fun _ => ⟨rfl, _, dd, rfl⟩⟩
  | @p_ok i j e h d h2 ih =>
    intro hi _
    obtain ⟨x1, x2, _⟩ := moveT (x := []) hi (by rw [h]; decide)
    have h' : sy (br s) (i + 1) = [40] := (syT hi (by decide) (by decide)).2 h
    obtain ⟨_, y, _⟩ := D_pos d x2 trivial
    obtain ⟨x3, x4, x5⟩ := moveT (x := []) y (by rw [h2]; decide)
    have t := tokT s j y x5
    have dd := D.p_ok h' (by rw [x1]; exact ih x2 trivial) (by rw [t.sy]; exact h2)
    rw [x3] at dd
    exact dd

theorem valS_code (x : List UInt8) : (valS x).2 = 0 ∨ (valS x).2 = 6 ∨ (valS x).2 = 14 := by
  unfold valS resV
  cases ((baseS x).2 == []) <;> cases okD ((baseS x).1 : Int) (baseS x).2 <;> cases decide (valN (baseS x).1 0 (baseS x).2 ≤ 9223372036854775807) <;> simp
def okC : Res → Prop
  | .ok _ _ => True
  | .err _ c => c ≠ 0 ∧ c ≠ 5
theorem D_code {s : List UInt8} {c : Cat} {i : Nat} {r : Res} (d : D s c i r) : okC r := by
  induction d with
  | p_nerr h hv =>
    rename_i i
    refine ⟨hv, ?_⟩
    rcases valS_code (tx s i) with h | h | h
    · exact absurd h hv
    · rw [h]; decide
    · rw [h]; decide
  | e_name h hn => exact ⟨by decide, by decide⟩
  | c_mid d h d2 h2 ih ih2 => exact ⟨by decide, by decide⟩
  | p_verr h hv => exact ⟨by decide, by decide⟩
  | p_bad h1 h2 h => exact ⟨by decide, by decide⟩
  | p_close h d h2 ih => exact ⟨by decide, by decide⟩
  | e_cond h d ih => exact ih
  | e_err h hn d ih => exact ih
  | c_err d ih => exact ih
  | c_yes d h d2 ih ih2 => exact ih2
  | c_no d h d2 h2 d3 ih ih2 ih3 => exact ih3
  | o_err d ih => exact ih
  | o_go d d2 ih ih2 => exact ih2
  | l_err h d ih => exact ih
  | l_go h d d2 ih ih2 => exact ih2
  | u_prim h d ih => exact ih
  | u_err h d ih => exact ih
  | p_in h d ih => exact ih
  | _ => trivial

/-- A primary at the beginning is all. -/
theorem top_err {s : List UInt8} {p : Nat} {c : Int} (hs : sy s 0 = [40]) (d : D s .prim 0 (.err p c)) : D s .expr 0 (.err p c) := by
  have hk := (sy_kd s 0 (Nat.zero_le _) (by rw [hs]; decide)).1
  exact .e_cond (by unfold asgAt; rw [hk]; rfl) (.c_err (.o_err (.u_prim (by rw [hs]; decide) d)))
theorem top_ok {s : List UInt8} {j : Nat} {e : TExpr} (hs : sy s 0 = [40]) (hj : sy s j = []) (d : D s .prim 0 (.ok e j)) : D s .expr 0 (.ok e j) := by
  have hk := (sy_kd s 0 (Nat.zero_le _) (by rw [hs]; decide)).1
  exact .e_cond (by unfold asgAt; rw [hk]; rfl) (.c_one (.o_go (.u_prim (by rw [hs]; decide) d) (.l_stop (by rw [hj]; decide))) (by rw [hj]; decide))

theorem blank_eq (s : List UInt8) (F : Nat) (hF : s.length < F) (hl : s.length ≤ 1000000) : law05_blank F s = some (!(decide (skip s 0 < s.length))) := by
  unfold law05_blank
  have := loopF_while (R := Bool) (σ := Int) (s := s) (p := bl) (fin := fun j => some (!(decide (j < s.length)))) (fun j => (j : Int)) (body := fun rc2 x1 =>
     cond (decide (x1 < (s.length : Int)))
     ((rq ((decide (0 ≤ x1)) && (decide (x1 < (s.length : Int)))) (cond (((s.getD (Int.toNat x1) 0).toNat : Int) != 9)
     (rq ((decide (0 ≤ x1)) && (decide (x1 < (s.length : Int)))) (some (((s.getD (Int.toNat x1) 0).toNat : Int) != 10)))
     (some false)) : Option Bool).bind fun x3 =>
     (cond x3
     (rq ((decide (0 ≤ x1)) && (decide (x1 < (s.length : Int)))) (some (((s.getD (Int.toNat x1) 0).toNat : Int) != 32)))
     (some false) : Option Bool).bind fun x4 =>
     cond x4
     (some false)
     (rc2 (w64 (x1 + 1))))
     (some true)) (fun j rc h => by
      simp only [dlt h, dnn, Bool.and_self, cond_true, rq_tt, Int.toNat_natCast, gd h, w64_nat (i := j) (by omega), decide_eq_true h]
      unfold bl bne
      cases ((s[j].toNat : Int) == 9) <;> cases ((s[j].toNat : Int) == 10) <;> cases ((s[j].toNat : Int) == 32) <;> rfl) (fun rc => by
      simp only [dltn, cond_false]
      rw [decide_eq_false (by omega)]
      rfl) s.length 0 F (by omega) hF
  exact this

set_option maxHeartbeats 4000000 in
theorem arithParens_plain (a0 : List UInt8) (q0 : a0.length ≤ maxLen) : ∃ F, law05_ArithParens F a0 = some true := by
  refine Evt.diag (p := fun F _ => law05_ArithParens F a0 = some true) ?_
  by_cases h120 : 120 < a0.length
  · refine Evt.of fun F _ => ?_
    unfold law05_ArithParens
    rw [decide_eq_true (by omega), awake60]
    rfl
  · have hlt : decide (120 < (a0.length : Int)) = false := decide_eq_false (by omega)
    by_cases hb : skip a0 0 < a0.length
    · have r1 : decide (([40] : List UInt8).length + a0.length ≤ 9223372036854775807) = true := decide_eq_true (by simp only [List.length_cons, List.length_nil]; omega)
      have r2 : decide ((([40] : List UInt8) ++ a0).length + ([41] : List UInt8).length ≤ 9223372036854775807) = true := decide_eq_true (by simp only [List.length_append, List.length_cons, List.length_nil]; omega)
      have hT0 : (br a0).drop 0 = 40 :: (a0 ++ [41]) := by simp [br]
      have hs0 : sy (br a0) 0 = [40] := by rw [sy_none hT0 (by decide)]; rfl
      have hk0 : skip (br a0) 0 < (br a0).length := by rw [skip_none hT0 (by decide), br_len]; omega
      have hn0 : nx (br a0) 0 = 1 := by rw [(scan_op hT0 (by decide) (by decide) (by show [(40 : UInt8)] ≠ []; decide)).2.2]; rfl
      have hTl : (br a0).length ≤ 4096 := by rw [br_len]; omega
      obtain ⟨r, d⟩ := D_expr a0 0 (Nat.zero_le _)
      have hP := Parse_eq (by omega) hb d
      have hbl : Evt fun F _ => law05_blank F a0 = some false := (bigF a0).mono fun F _ hF => by rw [blank_eq a0 F (by omega) (by omega), decide_eq_true hb]; rfl
      have hsh := D_br d (Nat.zero_le _) trivial
      cases r with
      | ok e j =>
        obtain ⟨_, hj, _⟩ := D_pos d (Nat.zero_le _) trivial
        obtain ⟨ho, _⟩ := D_ok (by omega) d (Nat.zero_le _) trivial
        have hsh : D (br a0) .expr (0 + 1) (.ok e (j + 1)) := hsh
        rcases skip_two hj with hjl | hjl
        · have t := tokT a0 j hj hjl
          have hx : PS a0 (.ok e j) = (zeroE, (skip a0 j : Int), 6) := by
            show cond (decide (skip a0 j < a0.length)) _ _ = _
            rw [decide_eq_true hjl]; rfl
          rw [hx] at hP
          have hne : ((skip a0 j : Int) == (a0.length : Int)) = false := by rw [beq_eq_false_iff_ne]; omega
          by_cases h41 : sy a0 j = [41]
          · obtain ⟨y, _, hy⟩ := Parse_both (br a0)
            refine (hP.and hbl).map2 hy fun F _ h1 h2 => ?_
            obtain ⟨h1, h3⟩ := h1
            have hb1 : ((a0.getD (skip a0 j) 0).toNat : Int) = 41 := by
              have hd := List.drop_eq_getElem_cons hjl
              have h42 : opTxt (a0.drop (skip a0 j)) = [41] := h41
              rcases opTxt_mem (a0.drop (skip a0 j)) with hz | ⟨_, hz⟩
              · rw [hz] at h42; cases h42
              · rw [h42, hd] at hz
                obtain ⟨tt, ht⟩ := hz
                simp only [List.cons_append, List.cons.injEq] at ht
                rw [gd hjl, ← ht.1]
                rfl
            unfold law05_ArithParens
            have h2' : arith_Parse F (([40] ++ a0) ++ [41]) = some y := h2.1
            rw [hlt, h3, h1.1, r1, r2, h2', awake60]
            simp only [cond_false, Option.bind_some, rq_tt, hne, Int.toNat_natCast, hb1, dnn, dlt hjl, Bool.and_self, cond_true, beq_self_eq_true]
            rw [show decide ((skip a0 j : Int) < 0) = false from decide_eq_false (by omega), show decide ((a0.length : Int) < (skip a0 j : Int)) = false from decide_eq_false (by omega)]
            rfl
          · have dp : D (br a0) .prim 0 (.err (skip (br a0) (j + 1)) 6) := .p_close hs0 (by rw [hn0]; exact hsh) (by rw [t.sy]; exact h41)
            rw [skipT a0 j hj] at dp
            refine (hP.and hbl).map2 (Parse_eq hTl hk0 (top_err hs0 dp)) fun F _ h1 h2 => ?_
            obtain ⟨h1, h3⟩ := h1
            unfold law05_ArithParens
            have h2' : arith_Parse F (([40] ++ a0) ++ [41]) = some (zeroE, ((skip a0 j + 1 : Nat) : Int), 6) := h2.1
            rw [hlt, h3, h1.1, r1, r2, h2', awake60]
            simp only [cond_false, Option.bind_some, rq_tt, hne, dnn, dlt hjl, Bool.and_self]
            rw [show decide ((skip a0 j : Int) < 0) = false from decide_eq_false (by omega), show decide ((a0.length : Int) < (skip a0 j : Int)) = false from decide_eq_false (by omega), w64_nat (by omega)]
            simp only [beq_self_eq_true, cond_true]
            cases (((a0.getD (Int.toNat (skip a0 j : Int)) 0).toNat : Int) == 41) <;> rfl
        · have t := tokE a0 j hj hjl
          have dp : D (br a0) .prim 0 (.ok e (nx (br a0) (j + 1))) := .p_ok hs0 (by rw [hn0]; exact hsh) t.sy
          rw [t.nx] at dp
          have hx : PS a0 (.ok e j) = cond (decide (32 < depthS e)) (zeroE, 0, 5) (e, 0, 0) := by
            show cond (decide (skip a0 j < a0.length)) _ _ = _
            rw [decide_eq_false (by omega)]; rfl
          have hy : PS (br a0) (.ok e (a0.length + 2)) = cond (decide (32 < depthS e)) (zeroE, 0, 5) (e, 0, 0) := by
            show cond (decide (skip (br a0) (a0.length + 2) < (br a0).length)) _ _ = _
            rw [skip_fin, br_len, decide_eq_false (by omega)]; rfl
          have hT := Parse_eq hTl hk0 (top_ok hs0 (sy_fin a0) dp)
          rw [hx] at hP
          rw [hy] at hT
          have hz : okTExpr zeroE := ok_mk (by omega) (by omega) (by simp) (by simp) (by simp)
          refine (hP.and hbl).map3 hT ((ref05_Same_eq ho).fst.and (ref05_Same_eq hz).fst) fun F _ h1 h2 h4 => ?_
          obtain ⟨h1, h3⟩ := h1
          obtain ⟨h4, h5⟩ := h4
          unfold law05_ArithParens ref05_Same
          have h2' : arith_Parse F (([40] ++ a0) ++ [41]) = some (cond (decide (32 < depthS e)) (zeroE, 0, 5) (e, 0, 0)) := h2.1
          rw [hlt, h3, h1.1, r1, r2, h2', awake60]
          cases decide (32 < depthS e) with
          | false => simp only [cond_false, Option.bind_some, rq_tt, beq_self_eq_true, cond_true, TExpr.eta, h4, sameB_refl]
          | true =>
            simp only [cond_false, Option.bind_some, rq_tt, cond_true, TExpr.eta, h5, sameB_refl]
            rfl
      | err p c =>
        obtain ⟨c1, c2⟩ := D_code d
        have hpp : p ≤ a0.length := D_pos d (Nat.zero_le _) trivial
        have hP : Evt fun F _ => arith_Parse F a0 = some (zeroE, (p : Int), c) ∧ ref05_Parse F a0 = some (zeroE, (p : Int), c) := hP
        have e1 : (c == 0) = false := by rw [beq_eq_false_iff_ne]; exact c1
        have e2 : (c == 5) = false := by rw [beq_eq_false_iff_ne]; exact c2
        have e3 : decide ((p : Int) < 0) = false := decide_eq_false (by omega)
        have e4 : decide ((a0.length : Int) < (p : Int)) = false := decide_eq_false (by omega)
        by_cases hp : p < a0.length
        · have dp : D (br a0) .prim 0 (.err (p + 1) c) := .p_in hs0 (by rw [hn0]; exact hsh.1 hp)
          refine (hP.and hbl).map2 (Parse_eq hTl hk0 (top_err hs0 dp)) fun F _ h1 h2 => ?_
          obtain ⟨h1, h3⟩ := h1
          unfold law05_ArithParens
          have h2' : arith_Parse F (([40] ++ a0) ++ [41]) = some (zeroE, ((p + 1 : Nat) : Int), c) := h2.1
          have hne : ((p : Int) == (a0.length : Int)) = false := by rw [beq_eq_false_iff_ne]; omega
          rw [hlt, h3, h1.1, r1, r2, h2', awake60]
          simp only [cond_false, Option.bind_some, rq_tt, hne, e1, e2, e3, e4, dnn, dlt hp, Bool.and_self, w64_nat (i := p) (by omega), beq_self_eq_true, cond_true]
          cases (((a0.getD (Int.toNat (p : Int)) 0).toNat : Int) == 41) <;> rfl
        · obtain rfl : p = a0.length := by omega
          obtain ⟨hc, r', dr, hl⟩ := hsh.2 rfl
          have dp : ∃ p', a0.length < p' ∧ D (br a0) .prim 0 (.err p' 6) := by
            cases r' with
            | ok e j =>
              have hl : j = a0.length + 2 := hl
              subst hl
              exact ⟨_, by rw [skip_fin]; omega, .p_close hs0 (by rw [hn0]; exact dr) (by rw [sy_fin]; decide)⟩
            | err p' c' =>
              obtain ⟨l1, l2⟩ := hl
              subst l2
              exact ⟨p', l1, .p_in hs0 (by rw [hn0]; exact dr)⟩
          obtain ⟨p', hp', dp⟩ := dp
          refine (hP.and hbl).map2 (Parse_eq hTl hk0 (top_err hs0 dp)) fun F _ h1 h2 => ?_
          obtain ⟨h1, h3⟩ := h1
          unfold law05_ArithParens
          have h2' : arith_Parse F (([40] ++ a0) ++ [41]) = some (zeroE, (p' : Int), 6) := h2.1
          rw [hlt, h3, h1.1, r1, r2, h2', awake60]
          simp only [cond_false, Option.bind_some, rq_tt, e1, e2, e3, e4, beq_self_eq_true, cond_true]
          rw [show decide ((a0.length : Int) < (p' : Int)) = true from decide_eq_true (by omega)]
          rfl
    · refine (bigF a0).mono fun F _ hF => ?_
      unfold law05_ArithParens
      rw [hlt, blank_eq a0 F (by omega) (by omega), decide_eq_false hb, awake60]
      rfl
end Go.Proofs.YtnbdahlceddihaaDoor
