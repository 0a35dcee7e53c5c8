/-
  The grammar as a relation over the offsets of a text; every offset has a derivation. Tables of operators.
-/
import Derived.Test.YtamjncikmfpihaaGreatDoorVl
namespace Go.Proofs.YtamjncikmfpihaaGreatDoor
open Go.RT
set_option linter.unusedVariables false
set_option linter.unusedSimpArgs false
set_option linter.all false
set_option maxRecDepth 100000

/-! ### Tables -/
def binTab : List (List UInt8 × Int × Int) := [([124, 124], 3, 24), ([38, 38], 4, 23), ([124], 5, 22), ([94], 6, 21), ([38], 7, 20), ([61, 61], 8, 18), ([33, 61], 8, 19), ([60], 9, 14), ([62], 9, 15), ([60, 61], 9, 16), ([62, 61], 9, 17), ([60, 60], 10, 12), ([62, 62], 10, 13), ([43], 11, 10), ([45], 11, 11), ([42], 12, 7), ([47], 12, 8), ([37], 12, 9)]
/-- Level and number of a binary operator, or zeros. -/
def binS (x : List UInt8) : Int × Int := match binTab.find? (fun p => p.1 == x) with | some p => p.2 | none => (0, 0)
def asgTab : List (List UInt8 × Int) := [([61], 0), ([43, 61], 10), ([45, 61], 11), ([42, 61], 7), ([47, 61], 8), ([37, 61], 9), ([60, 60, 61], 12), ([62, 62, 61], 13), ([38, 61], 20), ([94, 61], 21), ([124, 61], 22)]
def asgS (x : List UInt8) : Int := match asgTab.find? (fun p => p.1 == x) with | some p => p.2 | none => -1
def unS (x : List UInt8) : Int := cond (x == [45]) 3 (cond (x == [43]) 4 (cond (x == [33]) 5 (cond (x == [126]) 6 0)))

/-- What the tables say of one operator's text. -/
structure Tab (x : List UInt8) : Prop where
  bin : ∀ G s p, arith_parser_operator (G + 20) s 3 p x = some (binS x)
  asg : ∀ G p, arith_assignment (G + 20) ⟨3, p, x⟩ = some (cond (asgS x == -1) 0 (asgS x), !(asgS x == -1))
  asr : ∀ G, ref05_assigning (G + 20) x = some (asgS x)
  bir : ∀ G l, ref05_binary (G + 20) x l = some (cond ((binS x).1 == l) (binS x).2 0)
  lv : 0 ≤ (binS x).1 ∧ (binS x).1 ≤ 12 ∧ ((binS x).1 = 0 ∨ 3 ≤ (binS x).1)
  op : (binS x).1 ≠ 0 → 7 ≤ (binS x).2 ∧ (binS x).2 ≤ 24 ∧ (descS (binS x).2).1 = (binS x).1 ∧ (descS (binS x).2).2 = x
theorem bir_none {x : List UInt8} (h : binS x = (0, 0)) (hr : ∀ G l, ref05_binary (G + 20) x l = some 0) : ∀ G l, ref05_binary (G + 20) x l = some (cond ((binS x).1 == l) (binS x).2 0) := by
  intro G l
  rw [hr, h]
  cases ((0 : Int) == l) <;> rfl
theorem bir_some {x : List UInt8} {lv op : Int} (h : binS x = (lv, op)) (hr : ∀ G l, ref05_binary (G + 20) x l = cond (lv == l) (some op) (some 0)) : ∀ G l, ref05_binary (G + 20) x l = some (cond ((binS x).1 == l) (binS x).2 0) := by
  intro G l
  rw [hr, h]
  cases (lv == l) <;> rfl
theorem tab_all : ∀ x, x ∈ ([] :: ops35) → Tab x := by
  intro x hx
  simp only [ops35, ops18, ops17, List.cons_append, List.nil_append, List.mem_cons, List.not_mem_nil, or_false] at hx
  rcases hx with rfl | rfl | rfl | rfl | rfl | rfl | rfl | rfl | rfl | rfl | rfl | rfl | rfl | rfl | rfl | rfl | rfl | rfl | rfl | rfl | rfl | rfl | rfl | rfl | rfl | rfl | rfl | rfl | rfl | rfl | rfl | rfl | rfl | rfl | rfl | rfl <;>
    exact ⟨fun G s p => by kernel_rfl, fun G p => by kernel_rfl, fun G => by kernel_rfl, (by first | exact bir_none (by decide) (fun G l => by kernel_rfl) | exact bir_some rfl (fun G l => by kernel_rfl)), (by decide), (by decide)⟩

/-! ### Tokens, seen from both sides -/
def kd (s : List UInt8) (i : Nat) : Int := (scanS s i).fkind
def tx (s : List UInt8) (i : Nat) : List UInt8 := (scanS s i).ftext
def sy (s : List UInt8) (i : Nat) : List UInt8 := opTxt (s.drop (skip s i))
def nx (s : List UInt8) (i : Nat) : Nat := skip s i + (tx s i).length
inductive TokV (s : List UInt8) (i : Nat) : Prop
  | fin (h : scanS s i = ⟨0, skip s i, []⟩) (hs : sy s i = []) (hw : wordL s (skip s i) = []) (he : s.length ≤ skip s i)
  | num (w : List UInt8) (b : UInt8) (h : scanS s i = ⟨1, skip s i, b :: w⟩) (hs : sy s i = []) (hw : wordL s (skip s i) = b :: w) (hd : dg b = true) (hl : skip s i + (b :: w).length ≤ s.length)
  | nam (w : List UInt8) (b : UInt8) (h : scanS s i = ⟨2, skip s i, b :: w⟩) (hs : sy s i = []) (hw : wordL s (skip s i) = b :: w) (hd : le b = true) (hl : skip s i + (b :: w).length ≤ s.length)
  | op (x : List UInt8) (h : scanS s i = ⟨3, skip s i, x⟩) (hs : sy s i = x) (hw : wordL s (skip s i) = []) (hm : x ∈ ops35) (hl : skip s i + x.length ≤ s.length)
  | oth (b : UInt8) (h : scanS s i = ⟨4, skip s i, [b]⟩) (hs : sy s i = []) (hw : wordL s (skip s i) = []) (hl : skip s i + 1 ≤ s.length)
theorem heads_all : ∀ n : Fin 256, fo (UInt8.ofNat n.val) = true → ∀ o, o ∈ ops35 → [UInt8.ofNat n.val].isPrefixOf o = false := by decide +kernel
theorem heads (b : UInt8) (h : fo b = true) : ∀ o, o ∈ ops35 → [b].isPrefixOf o = false :=
  byte_all (P := fun b => fo b = true → ∀ o, o ∈ ops35 → [b].isPrefixOf o = false) heads_all b h
theorem opTxt_fo (b : UInt8) (m : List UInt8) (h : fo b = true) : opTxt (b :: m) = [] := by
  rcases opTxt_mem (b :: m) with h1 | ⟨h1, h2⟩
  · exact h1
  · exfalso
    have hne := ops35_ne _ h1
    have := heads b h _ h1
    revert this h2 hne
    cases opTxt (b :: m) with
    | nil => intro _ h; exact absurd rfl h
    | cons c o =>
      intro hp _ hq
      have : c = b := by
        obtain ⟨t, ht⟩ := hp
        simp at ht
        exact ht.1
      subst this
      simp [List.isPrefixOf] at hq
theorem tok_view (s : List UInt8) (i : Nat) (hi : i ≤ s.length) : TokV s i := by
  obtain ⟨h1, h2⟩ := skip_le s i hi
  have e1 : scanS s i = tokAt s (skip s i) := rfl
  have e2 : sy s i = opTxt (s.drop (skip s i)) := rfl
  generalize hj : skip s i = j at h1 h2 e1 e2
  unfold tokAt at e1
  cases hd : s.drop j with
  | nil =>
    rw [hd] at e1 e2
    refine .fin (by rw [hj]; exact e1) e2 (by rw [hj]; unfold wordL; rw [hd]; rfl) ?_
    have := List.drop_eq_nil_iff.1 hd
    omega
  | cons b m =>
    have hlen : (s.drop j).length = m.length + 1 := by rw [hd]; rfl
    rw [List.length_drop] at hlen
    rw [hd] at e1 e2
    simp only [] at e1
    cases hf : fo b with
    | true =>
      have hw : wordL s j = b :: m.takeWhile fo := by unfold wordL; rw [hd, List.takeWhile_cons, hf]; rfl
      have hl : j + (b :: m.takeWhile fo).length ≤ s.length := by
        have := takeWhile_len fo m
        simp only [List.length_cons]; omega
      rw [opTxt_fo b m hf] at e2
      rw [hf, hw] at e1
      cases hdg : dg b with
      | true => rw [hdg] at e1; exact .num (m.takeWhile fo) b (by rw [hj]; exact e1) e2 (by rw [hj]; exact hw) hdg (by rw [hj]; exact hl)
      | false =>
        rw [hdg] at e1
        refine .nam (m.takeWhile fo) b (by rw [hj]; exact e1) e2 (by rw [hj]; exact hw) ?_ (by rw [hj]; exact hl)
        have := fo_eq b
        rw [hf, hdg] at this
        simpa using this.symm
    | false =>
      have hw : wordL s j = [] := by unfold wordL; rw [hd, List.takeWhile_cons, hf]; rfl
      rw [hf] at e1
      rcases opTxt_mem (b :: m) with ho | ⟨ho1, ho2⟩
      · rw [ho] at e1 e2
        exact .oth b (by rw [hj]; exact e1) e2 (by rw [hj]; exact hw) (by rw [hj]; omega)
      · have hne := ops35_ne _ ho1
        have : (opTxt (b :: m) == []) = false := by simpa using hne
        rw [this] at e1
        have hle := ho2.length_le
        simp only [List.length_cons] at hle
        exact .op (opTxt (b :: m)) (by rw [hj]; exact e1) e2 (by rw [hj]; exact hw) ho1 (by rw [hj]; omega)
theorem sy_mem (s : List UInt8) (i : Nat) : sy s i ∈ ([] :: ops35) := by
  unfold sy
  rcases opTxt_mem (s.drop (skip s i)) with h | ⟨h, _⟩
  · rw [h]; simp
  · exact List.mem_cons_of_mem _ h
theorem sy_tab (s : List UInt8) (i : Nat) : Tab (sy s i) := tab_all _ (sy_mem s i)
/-- A token that is there moves on. -/
theorem nx_bounds (s : List UInt8) (i : Nat) (hi : i ≤ s.length) : nx s i ≤ s.length ∧ i ≤ nx s i ∧ (kd s i ≠ 0 → i < nx s i) := by
  obtain ⟨h1, h2⟩ := skip_le s i hi
  unfold nx tx kd
  rcases tok_view s i hi with ⟨h, _, _, _⟩ | ⟨w, b, h, _, _, _, hl⟩ | ⟨w, b, h, _, _, _, hl⟩ | ⟨x, h, _, _, hm, hl⟩ | ⟨b, h, _, _, hl⟩ <;> rw [h] <;> simp only [List.length_nil, List.length_cons] at *
  · exact ⟨by omega, by omega, fun h => absurd rfl h⟩
  · exact ⟨by omega, by omega, fun _ => by omega⟩
  · exact ⟨by omega, by omega, fun _ => by omega⟩
  · have : x.length ≠ 0 := by
      have := ops35_ne x hm
      cases x with
      | nil => exact absurd rfl this
      | cons _ _ => simp
    exact ⟨by omega, by omega, fun _ => by omega⟩
  · exact ⟨by omega, by omega, fun _ => by omega⟩
theorem sy_kd (s : List UInt8) (i : Nat) (hi : i ≤ s.length) (h : sy s i ≠ []) : kd s i = 3 ∧ tx s i = sy s i := by
  unfold kd tx
  rcases tok_view s i hi with ⟨h', hs, _, _⟩ | ⟨w, b, h', hs, _, _, hl⟩ | ⟨w, b, h', hs, _, _, hl⟩ | ⟨x, h', hs, _, hm, hl⟩ | ⟨b, h', hs, _, hl⟩
  · exact absurd hs h
  · exact absurd hs h
  · exact absurd hs h
  · rw [h', hs]; exact ⟨rfl, rfl⟩
  · exact absurd hs h

/-! ### The grammar -/
inductive Res
  | ok (e : TExpr) (j : Nat)
  | err (p : Nat) (c : Int)
inductive Cat
  | expr
  | cond
  | oper (l : Int)
  | loop (l : Int) (a : TExpr)
  | un
  | prim
/-- The assignment that begins at an offset: the operator's number, or -1. -/
def asgAt (s : List UInt8) (i : Nat) : Int := cond (kd s i == 2) (asgS (sy s (nx s i))) (-1)
inductive D (s : List UInt8) : Cat → Nat → Res → Prop
  | e_cond {i : Nat} {r : Res} (h : asgAt s i = -1) (d : D s .cond i r) : D s .expr i r
  | e_name {i : Nat} (h : asgAt s i ≠ -1) (hn : rName (tx s i) = false) : D s .expr i (.err (skip s i) 10)
  | e_set {i j : Nat} {e : TExpr} (h : asgAt s i ≠ -1) (hn : rName (tx s i) = true) (d : D s .expr (nx s (nx s i)) (.ok e j)) : D s .expr i (.ok (.mk 26 (asgAt s i) (tx s i) [e]) j)
  | e_err {i p : Nat} {c : Int} (h : asgAt s i ≠ -1) (hn : rName (tx s i) = true) (d : D s .expr (nx s (nx s i)) (.err p c)) : D s .expr i (.err p c)
  | c_err {i p : Nat} {c : Int} (d : D s (.oper 3) i (.err p c)) : D s .cond i (.err p c)
  | c_one {i j : Nat} {a : TExpr} (d : D s (.oper 3) i (.ok a j)) (h : sy s j ≠ [63]) : D s .cond i (.ok a j)
  | c_yes {i j p : Nat} {c : Int} {a : TExpr} (d : D s (.oper 3) i (.ok a j)) (h : sy s j = [63]) (d2 : D s .expr (nx s j) (.err p c)) : D s .cond i (.err p c)
  | c_mid {i j k : Nat} {a b : TExpr} (d : D s (.oper 3) i (.ok a j)) (h : sy s j = [63]) (d2 : D s .expr (nx s j) (.ok b k)) (h2 : sy s k ≠ [58]) : D s .cond i (.err (skip s k) 6)
  | c_no {i j k p : Nat} {c : Int} {a b : TExpr} (d : D s (.oper 3) i (.ok a j)) (h : sy s j = [63]) (d2 : D s .expr (nx s j) (.ok b k)) (h2 : sy s k = [58]) (d3 : D s .cond (nx s k) (.err p c)) : D s .cond i (.err p c)
  | c_all {i j k m : Nat} {a b e : TExpr} (d : D s (.oper 3) i (.ok a j)) (h : sy s j = [63]) (d2 : D s .expr (nx s j) (.ok b k)) (h2 : sy s k = [58]) (d3 : D s .cond (nx s k) (.ok e m)) : D s .cond i (.ok (.mk 25 0 [] [a, b, e]) m)
  | o_err {l : Int} {i p : Nat} {c : Int} (d : D s .un i (.err p c)) : D s (.oper l) i (.err p c)
  | o_go {l : Int} {i j : Nat} {a : TExpr} {r : Res} (d : D s .un i (.ok a j)) (d2 : D s (.loop l a) j r) : D s (.oper l) i r
  | l_stop {l : Int} {i : Nat} {a : TExpr} (h : (binS (sy s i)).1 < l) : D s (.loop l a) i (.ok a i)
  | l_err {l : Int} {i p : Nat} {c : Int} {a : TExpr} (h : l ≤ (binS (sy s i)).1) (d : D s (.oper ((binS (sy s i)).1 + 1)) (nx s i) (.err p c)) : D s (.loop l a) i (.err p c)
  | l_go {l : Int} {i j : Nat} {a b : TExpr} {r : Res} (h : l ≤ (binS (sy s i)).1) (d : D s (.oper ((binS (sy s i)).1 + 1)) (nx s i) (.ok b j)) (d2 : D s (.loop l (.mk (binS (sy s i)).2 0 [] [a, b])) j r) : D s (.loop l a) i r
  | u_prim {i : Nat} {r : Res} (h : unS (sy s i) = 0) (d : D s .prim i r) : D s .un i r
  | u_err {i p : Nat} {c : Int} (h : unS (sy s i) ≠ 0) (d : D s .un (nx s i) (.err p c)) : D s .un i (.err p c)
  | u_go {i j : Nat} {a : TExpr} (h : unS (sy s i) ≠ 0) (d : D s .un (nx s i) (.ok a j)) : D s .un i (.ok (.mk (unS (sy s i)) 0 [] [a]) j)
  | p_num {i : Nat} (h : kd s i = 1) (hv : (valS (tx s i)).2 = 0) : D s .prim i (.ok (.mk 1 (valS (tx s i)).1 [] []) (nx s i))
  | p_nerr {i : Nat} (h : kd s i = 1) (hv : (valS (tx s i)).2 ≠ 0) : D s .prim i (.err (skip s i) (valS (tx s i)).2)
  | p_var {i : Nat} (h : kd s i = 2) (hv : rName (tx s i) = true) : D s .prim i (.ok (.mk 2 0 (tx s i) []) (nx s i))
  | p_verr {i : Nat} (h : kd s i = 2) (hv : rName (tx s i) = false) : D s .prim i (.err (skip s i) 10)
  | p_bad {i : Nat} (h1 : kd s i ≠ 1) (h2 : kd s i ≠ 2) (h : sy s i ≠ [40]) : D s .prim i (.err (skip s i) 6)
  | p_in {i p : Nat} {c : Int} (h : sy s i = [40]) (d : D s .expr (nx s i) (.err p c)) : D s .prim i (.err p c)
  | p_close {i j : Nat} {e : TExpr} (h : sy s i = [40]) (d : D s .expr (nx s i) (.ok e j)) (h2 : sy s j ≠ [41]) : D s .prim i (.err (skip s j) 6)
  | p_ok {i j : Nat} {e : TExpr} (h : sy s i = [40]) (d : D s .expr (nx s i) (.ok e j)) (h2 : sy s j = [41]) : D s .prim i (.ok e (nx s j))

def Cat.isLoop : Cat → Bool
  | .loop _ _ => true
  | _ => false
def okPos (s : List UInt8) (c : Cat) (i : Nat) : Res → Prop
  | .ok e j => i ≤ j ∧ j ≤ s.length ∧ (c.isLoop = false → i < j)
  | .err p _ => p ≤ s.length
theorem asg_kd {s : List UInt8} {i : Nat} (h : asgAt s i ≠ -1) : kd s i = 2 ∧ asgS (sy s (nx s i)) ≠ -1 ∧ asgAt s i = asgS (sy s (nx s i)) := by
  unfold asgAt at h ⊢
  cases hk : (kd s i == 2) with
  | false => rw [hk] at h; exact absurd rfl h
  | true => rw [hk] at h; exact ⟨by simpa using hk, h, rfl⟩
theorem asgS_nil {x : List UInt8} (h : asgS x ≠ -1) : x ≠ [] := fun e => h (by rw [e]; rfl)
theorem binS_nil {x : List UInt8} {l : Int} (hl : 0 < l) (h : l ≤ (binS x).1) : x ≠ [] := fun e => by rw [e] at h; simp [binS, binTab] at h; omega
theorem unS_nil {x : List UInt8} (h : unS x ≠ 0) : x ≠ [] := fun e => h (by rw [e]; rfl)
def Cat.okL : Cat → Prop
  | .oper l => 0 < l
  | .loop l _ => 0 < l
  | _ => True
theorem sy_move {s : List UInt8} {i : Nat} (hi : i ≤ s.length) (h : sy s i ≠ []) : nx s i ≤ s.length ∧ i < nx s i := by
  obtain ⟨a, b, c⟩ := nx_bounds s i hi
  exact ⟨a, c (by rw [(sy_kd s i hi h).1]; decide)⟩
theorem asg_move {s : List UInt8} {i : Nat} (hi : i ≤ s.length) (h : asgAt s i ≠ -1) : nx s i ≤ s.length ∧ i < nx s i ∧ nx s (nx s i) ≤ s.length ∧ i < nx s (nx s i) := by
  obtain ⟨h1, h2, _⟩ := asg_kd h
  obtain ⟨a, b, c⟩ := nx_bounds s i hi
  have c := c (by rw [h1]; decide)
  obtain ⟨a2, b2⟩ := sy_move a (asgS_nil h2)
  exact ⟨a, c, a2, by omega⟩
theorem D_pos {s : List UInt8} {c : Cat} {i : Nat} {r : Res} (d : D s c i r) : i ≤ s.length → c.okL → okPos s c i r := by
  induction d with
  | @e_cond i r h d ih =>
    intro hi _
    have := ih hi trivial
    cases r with
    | ok e j => exact this
    | err p c => exact this
  | e_name h hn => intro hi _; exact (skip_le s _ hi).1
  | e_set h hn d ih =>
    intro hi _
    obtain ⟨a, b, c, e⟩ := asg_move hi h
    obtain ⟨x, y, z⟩ := ih c trivial
    exact ⟨by omega, y, fun _ => by omega⟩
  | e_err h hn d ih => intro hi _; exact ih (asg_move hi h).2.2.1 trivial
  | c_err d ih => intro hi _; exact ih hi (show (0 : Int) < 3 by decide)
  | c_one d h ih => intro hi _; exact ih hi (show (0 : Int) < 3 by decide)
  | c_yes d h d2 ih ih2 =>
    intro hi _
    obtain ⟨x, y, z⟩ := ih hi (show (0 : Int) < 3 by decide)
    exact ih2 (sy_move y (by rw [h]; decide)).1 trivial
  | c_mid d h d2 h2 ih ih2 =>
    intro hi _
    obtain ⟨x, y, z⟩ := ih hi (show (0 : Int) < 3 by decide)
    obtain ⟨x2, y2, z2⟩ := ih2 (sy_move y (by rw [h]; decide)).1 trivial
    exact (skip_le s _ y2).1
  | c_no d h d2 h2 d3 ih ih2 ih3 =>
    intro hi _
    obtain ⟨x, y, z⟩ := ih hi (show (0 : Int) < 3 by decide)
    obtain ⟨x2, y2, z2⟩ := ih2 (sy_move y (by rw [h]; decide)).1 trivial
    exact ih3 (sy_move y2 (by rw [h2]; decide)).1 trivial
  | c_all d h d2 h2 d3 ih ih2 ih3 =>
    intro hi _
    obtain ⟨x, y, z⟩ := ih hi (show (0 : Int) < 3 by decide)
    obtain ⟨m1, m2⟩ := sy_move y (by rw [h]; decide)
    obtain ⟨x2, y2, z2⟩ := ih2 m1 trivial
    obtain ⟨m3, m4⟩ := sy_move y2 (by rw [h2]; decide)
    obtain ⟨x3, y3, z3⟩ := ih3 m3 trivial
    exact ⟨by omega, y3, fun _ => by omega⟩
  | o_err d ih => intro hi _; exact ih hi trivial
  | @o_go l i j a r d d2 ih ih2 =>
    intro hi hl
    obtain ⟨x, y, z⟩ := ih hi trivial
    have := ih2 y hl
    cases r with
    | ok e j =>
      obtain ⟨x2, y2, _⟩ := this
      have := z rfl
      exact ⟨by omega, y2, fun _ => by omega⟩
    | err p c => exact this
  | l_stop h => intro hi _; exact ⟨Nat.le_refl _, hi, fun h => by cases h⟩
  | @l_err l i p c a h d ih =>
    intro hi hl
    have hl : 0 < l := hl
    exact ih (sy_move hi (binS_nil hl h)).1 (show (0 : Int) < _ by omega)
  | @l_go l i j a b r h d d2 ih ih2 =>
    intro hi hl
    have hl' : 0 < l := hl
    obtain ⟨m1, m2⟩ := sy_move hi (binS_nil hl' h)
    obtain ⟨x, y, z⟩ := ih m1 (show (0 : Int) < _ by omega)
    have := ih2 y hl
    cases r with
    | ok e j =>
      obtain ⟨x2, y2, _⟩ := this
      exact ⟨by omega, y2, fun h => by cases h⟩
    | err p c => exact this
  | @u_prim i r h d ih =>
    intro hi _
    have := ih hi trivial
    cases r with
    | ok e j => exact this
    | err p c => exact this
  | u_err h d ih => intro hi _; exact ih (sy_move hi (unS_nil h)).1 trivial
  | u_go h d ih =>
    intro hi _
    obtain ⟨m1, m2⟩ := sy_move hi (unS_nil h)
    obtain ⟨x, y, z⟩ := ih m1 trivial
    exact ⟨by omega, y, fun _ => by omega⟩
  | p_num h hv =>
    intro hi _
    obtain ⟨a, b, c⟩ := nx_bounds s _ hi
    have c := c (by rw [h]; decide)
    exact ⟨b, a, fun _ => c⟩
  | p_nerr h hv => intro hi _; exact (skip_le s _ hi).1
  | p_var h hv =>
    intro hi _
    obtain ⟨a, b, c⟩ := nx_bounds s _ hi
    have c := c (by rw [h]; decide)
    exact ⟨b, a, fun _ => c⟩
  | p_verr h hv => intro hi _; exact (skip_le s _ hi).1
  | p_bad h1 h2 h => intro hi _; exact (skip_le s _ hi).1
  | p_in h d ih => intro hi _; exact ih (sy_move hi (by rw [h]; decide)).1 trivial
  | p_close h d h2 ih =>
    intro hi _
    obtain ⟨x, y, z⟩ := ih (sy_move hi (by rw [h]; decide)).1 trivial
    exact (skip_le s _ y).1
  | p_ok h d h2 ih =>
    intro hi _
    obtain ⟨m1, m2⟩ := sy_move hi (by rw [h]; decide)
    obtain ⟨x, y, z⟩ := ih m1 trivial
    obtain ⟨m3, m4⟩ := sy_move y (by rw [h2]; decide)
    exact ⟨by omega, m3, fun _ => by omega⟩

def Cat.rank : Cat → Nat
  | .expr => 4
  | .cond => 3
  | .oper _ => 2
  | .loop _ _ => 0
  | .un => 1
  | .prim => 0
theorem D_total (s : List UInt8) (n : Nat) : ∀ (c : Cat) (i : Nat), i ≤ s.length → c.okL → (s.length - i) * 5 + c.rank < n → ∃ r, D s c i r := by
  induction n with
  | zero => intro c i _ _ h; omega
  | succ n ih =>
    intro c i hi hc hm
    cases c with
    | expr =>
      simp only [Cat.rank] at hm
      by_cases h : asgAt s i = -1
      · obtain ⟨r, d⟩ := ih .cond i hi trivial (by simp only [Cat.rank]; omega)
        exact ⟨r, .e_cond h d⟩
      · obtain ⟨_, _, m1, m2⟩ := asg_move hi h
        cases hn : rName (tx s i) with
        | false => exact ⟨_, .e_name h hn⟩
        | true =>
          obtain ⟨r, d⟩ := ih .expr _ m1 trivial (by simp only [Cat.rank]; omega)
          cases r with
          | ok e j => exact ⟨_, .e_set h hn d⟩
          | err p c => exact ⟨_, .e_err h hn d⟩
    | cond =>
      simp only [Cat.rank] at hm
      have h3 : (Cat.oper 3).okL := show (0 : Int) < 3 by decide
      obtain ⟨r, d⟩ := ih (.oper 3) i hi h3 (by simp only [Cat.rank]; omega)
      cases r with
      | err p c => exact ⟨_, .c_err d⟩
      | ok a j =>
        obtain ⟨x, y, z⟩ := D_pos d hi h3
        have z := z rfl
        by_cases h : sy s j = [63]
        · obtain ⟨m1, m2⟩ := sy_move y (by rw [h]; decide)
          obtain ⟨r, d2⟩ := ih .expr _ m1 trivial (by simp only [Cat.rank]; omega)
          cases r with
          | err p c => exact ⟨_, .c_yes d h d2⟩
          | ok b k =>
            obtain ⟨x2, y2, z2⟩ := D_pos d2 m1 trivial
            by_cases h2 : sy s k = [58]
            · obtain ⟨m3, m4⟩ := sy_move y2 (by rw [h2]; decide)
              obtain ⟨r, d3⟩ := ih .cond _ m3 trivial (by simp only [Cat.rank]; omega)
              cases r with
              | err p c => exact ⟨_, .c_no d h d2 h2 d3⟩
              | ok e m => exact ⟨_, .c_all d h d2 h2 d3⟩
            · exact ⟨_, .c_mid d h d2 h2⟩
        · exact ⟨_, .c_one d h⟩
    | oper l =>
      simp only [Cat.rank] at hm
      obtain ⟨r, d⟩ := ih .un i hi trivial (by simp only [Cat.rank]; omega)
      cases r with
      | err p c => exact ⟨_, .o_err d⟩
      | ok a j =>
        obtain ⟨x, y, z⟩ := D_pos d hi trivial
        have z := z rfl
        obtain ⟨r, d2⟩ := ih (.loop l a) j y hc (by simp only [Cat.rank]; omega)
        exact ⟨_, .o_go d d2⟩
    | loop l a =>
      simp only [Cat.rank] at hm
      have hl : 0 < l := hc
      by_cases h : (binS (sy s i)).1 < l
      · exact ⟨_, .l_stop h⟩
      · have h : l ≤ (binS (sy s i)).1 := by omega
        obtain ⟨m1, m2⟩ := sy_move hi (binS_nil hl h)
        have ho : (Cat.oper ((binS (sy s i)).1 + 1)).okL := show (0 : Int) < _ by omega
        obtain ⟨r, d⟩ := ih (.oper ((binS (sy s i)).1 + 1)) _ m1 ho (by simp only [Cat.rank]; omega)
        cases r with
        | err p c => exact ⟨_, .l_err h d⟩
        | ok b j =>
          obtain ⟨x, y, z⟩ := D_pos d m1 ho
          obtain ⟨r, d2⟩ := ih (.loop l (.mk (binS (sy s i)).2 0 [] [a, b])) j y hc (by simp only [Cat.rank]; omega)
          exact ⟨_, .l_go h d d2⟩
    | un =>
      simp only [Cat.rank] at hm
      by_cases h : unS (sy s i) = 0
      · obtain ⟨r, d⟩ := ih .prim i hi trivial (by simp only [Cat.rank]; omega)
        exact ⟨_, .u_prim h d⟩
      · obtain ⟨m1, m2⟩ := sy_move hi (unS_nil h)
        obtain ⟨r, d⟩ := ih .un _ m1 trivial (by simp only [Cat.rank]; omega)
        cases r with
        | ok e j => exact ⟨_, .u_go h d⟩
        | err p c => exact ⟨_, .u_err h d⟩
    | prim =>
      simp only [Cat.rank] at hm
      by_cases h1 : kd s i = 1
      · by_cases hv : (valS (tx s i)).2 = 0
        · exact ⟨_, .p_num h1 hv⟩
        · exact ⟨_, .p_nerr h1 hv⟩
      · by_cases h2 : kd s i = 2
        · cases hv : rName (tx s i) with
          | true => exact ⟨_, .p_var h2 hv⟩
          | false => exact ⟨_, .p_verr h2 hv⟩
        · by_cases h : sy s i = [40]
          · obtain ⟨m1, m2⟩ := sy_move hi (by rw [h]; decide)
            obtain ⟨r, d⟩ := ih .expr _ m1 trivial (by simp only [Cat.rank]; omega)
            cases r with
            | err p c => exact ⟨_, .p_in h d⟩
            | ok e j =>
              by_cases h2 : sy s j = [41]
              · exact ⟨_, .p_ok h d h2⟩
              · exact ⟨_, .p_close h d h2⟩
          · exact ⟨_, .p_bad h1 h2 h⟩
theorem D_expr (s : List UInt8) (i : Nat) (hi : i ≤ s.length) : ∃ r, D s .expr i r := D_total s _ .expr i hi trivial (Nat.lt_succ_self _)
end Go.Proofs.YtamjncikmfpihaaGreatDoor
