/-
  The grammar level by level, as the reference reads it: what the first form derives, the second derives too.
-/
import Derived.Test.YtamjncikmfpihaaGreatDoorDr
namespace Go.Proofs.YtamjncikmfpihaaGreatDoor
open Go.RT
set_option linter.unusedVariables false
set_option linter.unusedSimpArgs false
set_option linter.all false

abbrev lvA (s : List UInt8) (i : Nat) : Int := (binS (sy s i)).1
inductive RCat
  | expr
  | cond
  | level (l : Int)
  | loop (l : Int) (a : TExpr)
  | un
  | prim
inductive RD (s : List UInt8) : RCat → Nat → Res → Prop
  | e_cond {i : Nat} {r : Res} (h : asgAt s i = -1) (d : RD s .cond i r) : RD s .expr i r
  | e_name {i : Nat} (h : asgAt s i ≠ -1) (hn : rName (tx s i) = false) : RD s .expr i (.err (skip s i) 10)
  | e_set {i j : Nat} {e : TExpr} (h : asgAt s i ≠ -1) (hn : rName (tx s i) = true) (d : RD s .expr (nx s (nx s i)) (.ok e j)) : RD s .expr i (.ok (.mk 26 (asgAt s i) (tx s i) [e]) j)
  | e_err {i p : Nat} {c : Int} (h : asgAt s i ≠ -1) (hn : rName (tx s i) = true) (d : RD s .expr (nx s (nx s i)) (.err p c)) : RD s .expr i (.err p c)
  | c_err {i p : Nat} {c : Int} (d : RD s (.level 3) i (.err p c)) : RD s .cond i (.err p c)
  | c_one {i j : Nat} {a : TExpr} (d : RD s (.level 3) i (.ok a j)) (h : sy s j ≠ [63]) : RD s .cond i (.ok a j)
  | c_yes {i j p : Nat} {c : Int} {a : TExpr} (d : RD s (.level 3) i (.ok a j)) (h : sy s j = [63]) (d2 : RD s .expr (nx s j) (.err p c)) : RD s .cond i (.err p c)
  | c_mid {i j k : Nat} {a b : TExpr} (d : RD s (.level 3) i (.ok a j)) (h : sy s j = [63]) (d2 : RD s .expr (nx s j) (.ok b k)) (h2 : sy s k ≠ [58]) : RD s .cond i (.err (skip s k) 6)
  | c_no {i j k p : Nat} {c : Int} {a b : TExpr} (d : RD s (.level 3) i (.ok a j)) (h : sy s j = [63]) (d2 : RD s .expr (nx s j) (.ok b k)) (h2 : sy s k = [58]) (d3 : RD s .cond (nx s k) (.err p c)) : RD s .cond i (.err p c)
  | c_all {i j k m : Nat} {a b e : TExpr} (d : RD s (.level 3) i (.ok a j)) (h : sy s j = [63]) (d2 : RD s .expr (nx s j) (.ok b k)) (h2 : sy s k = [58]) (d3 : RD s .cond (nx s k) (.ok e m)) : RD s .cond i (.ok (.mk 25 0 [] [a, b, e]) m)
  | v_un {l : Int} {i : Nat} {r : Res} (hl : 12 < l) (d : RD s .un i r) : RD s (.level l) i r
  | v_err {l : Int} {i p : Nat} {c : Int} (h3 : 3 ≤ l) (hl : l ≤ 12) (d : RD s (.level (l + 1)) i (.err p c)) : RD s (.level l) i (.err p c)
  | v_go {l : Int} {i j : Nat} {a : TExpr} {r : Res} (h3 : 3 ≤ l) (hl : l ≤ 12) (d : RD s (.level (l + 1)) i (.ok a j)) (d2 : RD s (.loop l a) j r) : RD s (.level l) i r
  | l_stop {l : Int} {i : Nat} {a : TExpr} (h : lvA s i ≠ l) : RD s (.loop l a) i (.ok a i)
  | l_err {l : Int} {i p : Nat} {c : Int} {a : TExpr} (h : lvA s i = l) (d : RD s (.level (l + 1)) (nx s i) (.err p c)) : RD s (.loop l a) i (.err p c)
  | l_go {l : Int} {i j : Nat} {a b : TExpr} {r : Res} (h : lvA s i = l) (d : RD s (.level (l + 1)) (nx s i) (.ok b j)) (d2 : RD s (.loop l (.mk (binS (sy s i)).2 0 [] [a, b])) j r) : RD s (.loop l a) i r
  | u_prim {i : Nat} {r : Res} (h : unS (sy s i) = 0) (d : RD s .prim i r) : RD s .un i r
  | u_err {i p : Nat} {c : Int} (h : unS (sy s i) ≠ 0) (d : RD s .un (nx s i) (.err p c)) : RD s .un i (.err p c)
  | u_go {i j : Nat} {a : TExpr} (h : unS (sy s i) ≠ 0) (d : RD s .un (nx s i) (.ok a j)) : RD s .un i (.ok (.mk (unS (sy s i)) 0 [] [a]) j)
  | p_num {i : Nat} (h : kd s i = 1) (hv : (valS (tx s i)).2 = 0) : RD s .prim i (.ok (.mk 1 (valS (tx s i)).1 [] []) (nx s i))
  | p_nerr {i : Nat} (h : kd s i = 1) (hv : (valS (tx s i)).2 ≠ 0) : RD s .prim i (.err (skip s i) (valS (tx s i)).2)
  | p_var {i : Nat} (h : kd s i = 2) (hv : rName (tx s i) = true) : RD s .prim i (.ok (.mk 2 0 (tx s i) []) (nx s i))
  | p_verr {i : Nat} (h : kd s i = 2) (hv : rName (tx s i) = false) : RD s .prim i (.err (skip s i) 10)
  | p_bad {i : Nat} (h1 : kd s i ≠ 1) (h2 : kd s i ≠ 2) (h : sy s i ≠ [40]) : RD s .prim i (.err (skip s i) 6)
  | p_in {i p : Nat} {c : Int} (h : sy s i = [40]) (d : RD s .expr (nx s i) (.err p c)) : RD s .prim i (.err p c)
  | p_close {i j : Nat} {e : TExpr} (h : sy s i = [40]) (d : RD s .expr (nx s i) (.ok e j)) (h2 : sy s j ≠ [41]) : RD s .prim i (.err (skip s j) 6)
  | p_ok {i j : Nat} {e : TExpr} (h : sy s i = [40]) (d : RD s .expr (nx s i) (.ok e j)) (h2 : sy s j = [41]) : RD s .prim i (.ok e (nx s j))

/-- The loops of the levels from 12 down to l. -/
inductive Tl (s : List UInt8) : Int → TExpr → Nat → Res → Prop
  | top {a : TExpr} {i : Nat} : Tl s 13 a i (.ok a i)
  | err {l : Int} {a : TExpr} {i p : Nat} {c : Int} (h3 : 3 ≤ l) (hl : l ≤ 12) (t : Tl s (l + 1) a i (.err p c)) : Tl s l a i (.err p c)
  | go {l : Int} {a b : TExpr} {i j : Nat} {r : Res} (h3 : 3 ≤ l) (hl : l ≤ 12) (t : Tl s (l + 1) a i (.ok b j)) (d : RD s (.loop l b) j r) : Tl s l a i r

theorem Tl_skip {s : List UInt8} {a : TExpr} {i : Nat} : ∀ (k : Nat) (l : Int), l + k = 13 → 3 ≤ l → lvA s i < l → Tl s l a i (.ok a i)
  | 0, l, hk, _, _ => by
    obtain rfl : l = 13 := by omega
    exact .top
  | k + 1, l, hk, h3, h => .go h3 (by omega) (Tl_skip k (l + 1) (by omega) (by omega) (by omega)) (.l_stop (by omega))
theorem Tl_only {s : List UInt8} {l : Int} {a : TExpr} {i : Nat} {r : Res} (t : Tl s l a i r) : lvA s i < l → r = .ok a i := by
  induction t with
  | top => intro _; rfl
  | err h3 hl t ih => intro h; cases ih (by omega)
  | @go l a b i j r h3 hl t d ih =>
    intro h
    cases ih (by omega)
    cases d with
    | l_stop _ => rfl
    | l_err h' _ => exact absurd h' (by omega)
    | l_go h' _ _ => exact absurd h' (by omega)
theorem Tl_go {s : List UInt8} {a b : TExpr} {i j : Nat} (hd : RD s (.level (lvA s i + 1)) (nx s i) (.ok b j)) (hj : lvA s j < lvA s i + 1) (h12 : lvA s i ≤ 12) :
    ∀ (k : Nat) (l : Int) (r : Res), l + k = lvA s i → 3 ≤ l → Tl s l (.mk (binS (sy s i)).2 0 [] [a, b]) j r → Tl s l a i r
  | 0, l, r, hk, h3, t => by
    have hk' : lvA s i = l := by omega
    rw [hk'] at hd hj h12
    have hs : Tl s (l + 1) a i (.ok a i) := Tl_skip (13 - (l + 1)).toNat _ (by omega) (by omega) (by omega)
    generalize hx : TExpr.mk (binS (sy s i)).2 0 [] [a, b] = x at t
    cases t with
    | top => omega
    | err _ _ t => cases Tl_only t hj
    | go _ _ t d =>
      cases Tl_only t hj
      subst hx
      exact .go h3 h12 hs (.l_go hk' hd d)
  | k + 1, l, r, hk, h3, t => by
    generalize hx : TExpr.mk (binS (sy s i)).2 0 [] [a, b] = x at t
    cases t with
    | top => omega
    | err _ _ t => subst hx; exact .err h3 (by omega) (Tl_go hd hj h12 k (l + 1) _ (by omega) (by omega) t)
    | go _ _ t d => subst hx; exact .go h3 (by omega) (Tl_go hd hj h12 k (l + 1) _ (by omega) (by omega) t) d
theorem Tl_err {s : List UInt8} {a : TExpr} {i p : Nat} {c : Int} (hd : RD s (.level (lvA s i + 1)) (nx s i) (.err p c)) (h12 : lvA s i ≤ 12) :
    ∀ (k : Nat) (l : Int), l + k = lvA s i → 3 ≤ l → Tl s l a i (.err p c)
  | 0, l, hk, h3 => by
    obtain rfl : l = lvA s i := by omega
    exact .go h3 h12 (Tl_skip (13 - (lvA s i + 1)).toNat _ (by omega) (by omega) (by omega)) (.l_err rfl hd)
  | k + 1, l, hk, h3 => .err h3 (by omega) (Tl_err hd h12 k (l + 1) (by omega) (by omega))
theorem level_of {s : List UInt8} {a : TExpr} {i j : Nat} (hu : RD s .un i (.ok a j)) {l : Int} {r : Res} (t : Tl s l a j r) : RD s (.level l) i r := by
  induction t with
  | top => exact .v_un (by omega) hu
  | err h3 hl t ih => exact .v_err h3 hl (ih hu)
  | go h3 hl t d ih => exact .v_go h3 hl (ih hu) d
theorem level_err {s : List UInt8} {i p : Nat} {c : Int} (hu : RD s .un i (.err p c)) : ∀ (k : Nat) (l : Int), l + k = 13 → 3 ≤ l → RD s (.level l) i (.err p c)
  | 0, l, hk, _ => .v_un (by omega) hu
  | k + 1, l, hk, h3 => .v_err h3 (by omega) (level_err hu k (l + 1) (by omega) (by omega))

/-- Behind an operand stands no operator of its level or above. -/
theorem D_after {s : List UInt8} {c : Cat} {i : Nat} {r : Res} (d : D s c i r) : ∀ l, (c = .oper l ∨ ∃ a, c = .loop l a) → ∀ e j, r = .ok e j → lvA s j < l := by
  induction d with
  | o_go d d2 ih ih2 =>
    intro l hc e j hr
    rcases hc with hc | ⟨a, hc⟩ <;> cases hc
    exact ih2 _ (.inr ⟨_, rfl⟩) e j hr
  | l_stop h =>
    intro l hc e j hr
    rcases hc with hc | ⟨a, hc⟩ <;> cases hc
    cases hr
    exact h
  | l_go h d d2 ih ih2 =>
    intro l hc e j hr
    rcases hc with hc | ⟨a, hc⟩ <;> cases hc
    exact ih2 _ (.inr ⟨_, rfl⟩) e j hr
  | _ => intro l hc e j hr; first | (cases hr; done) | (rcases hc with hc | ⟨a, hc⟩ <;> cases hc)

def MR (s : List UInt8) : Cat → Nat → Res → Prop
  | .expr, i, r => RD s .expr i r
  | .cond, i, r => RD s .cond i r
  | .oper l, i, r => 3 ≤ l → l ≤ 13 → RD s (.level l) i r
  | .loop l a, i, r => 3 ≤ l → l ≤ 13 → Tl s l a i r
  | .un, i, r => RD s .un i r
  | .prim, i, r => RD s .prim i r
theorem D_RD {s : List UInt8} {c : Cat} {i : Nat} {r : Res} (d : D s c i r) : MR s c i r := by
  induction d with
  | e_cond h d ih => exact .e_cond h ih
  | e_name h hn => exact .e_name h hn
  | e_set h hn d ih => exact .e_set h hn ih
  | e_err h hn d ih => exact .e_err h hn ih
  | c_err d ih => exact .c_err (ih (by decide) (by decide))
  | c_one d h ih => exact .c_one (ih (by decide) (by decide)) h
  | c_yes d h d2 ih ih2 => exact .c_yes (ih (by decide) (by decide)) h ih2
  | c_mid d h d2 h2 ih ih2 => exact .c_mid (ih (by decide) (by decide)) h ih2 h2
  | c_no d h d2 h2 d3 ih ih2 ih3 => exact .c_no (ih (by decide) (by decide)) h ih2 h2 ih3
  | c_all d h d2 h2 d3 ih ih2 ih3 => exact .c_all (ih (by decide) (by decide)) h ih2 h2 ih3
  | @o_err l i p c d ih => exact fun h3 h13 => level_err ih (13 - l).toNat l (by omega) h3
  | o_go d d2 ih ih2 => exact fun h3 h13 => level_of ih (ih2 h3 h13)
  | @l_stop l i a h => exact fun h3 h13 => Tl_skip (13 - l).toNat l (by omega) h3 h
  | @l_err l i p c a h d ih =>
    intro h3 h13
    have hlv : 0 ≤ lvA s i ∧ lvA s i ≤ 12 ∧ (lvA s i = 0 ∨ 3 ≤ lvA s i) := (sy_tab s i).lv
    have h : l ≤ lvA s i := h
    exact Tl_err (ih (show 3 ≤ lvA s i + 1 by omega) (show lvA s i + 1 ≤ 13 by omega)) hlv.2.1 (lvA s i - l).toNat l (by omega) h3
  | @l_go l i j a b r h d d2 ih ih2 =>
    intro h3 h13
    have hlv : 0 ≤ lvA s i ∧ lvA s i ≤ 12 ∧ (lvA s i = 0 ∨ 3 ≤ lvA s i) := (sy_tab s i).lv
    have h : l ≤ lvA s i := h
    exact Tl_go (ih (show 3 ≤ lvA s i + 1 by omega) (show lvA s i + 1 ≤ 13 by omega)) (D_after d _ (.inl rfl) _ _ rfl) hlv.2.1 (lvA s i - l).toNat l r (by omega) h3 (ih2 h3 h13)
  | u_prim h d ih => exact .u_prim h ih
  | u_err h d ih => exact .u_err h ih
  | u_go h d ih => exact .u_go h ih
  | p_num h hv => exact .p_num h hv
  | p_nerr h hv => exact .p_nerr h hv
  | p_var h hv => exact .p_var h hv
  | p_verr h hv => exact .p_verr h hv
  | p_bad h1 h2 h => exact .p_bad h1 h2 h
  | p_in h d ih => exact .p_in h ih
  | p_close h d h2 ih => exact .p_close h ih h2
  | p_ok h d h2 ih => exact .p_ok h ih h2
end Go.Proofs.YtamjncikmfpihaaGreatDoor
