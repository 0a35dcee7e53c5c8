/-
  RT, part 24: shapes: what of a value, of a box, is data and what is fixed; data taken out and put back.
-/
import Derived.Test.YtnbdahlceddihaaDoorR23
namespace Go.RT
set_option linter.unusedVariables false

variable {E : TEnv}

inductive NilK where
  | ptr | iface | func | slice | map
  deriving DecidableEq
def NilK.val : NilK → Value
  | .ptr => .pointer none
  | .iface => .nilIface
  | .func => .nilFunc
  | .slice => .slice none 0 0
  | .map => .map none
def nilK : Value → Option NilK
  | .pointer none => some .ptr
  | .nilIface => some .iface
  | .nilFunc => some .func
  | .slice none 0 0 => some .slice
  | .map none => some .map
  | _ => none
theorem nilK_ok {v : Value} {k : NilK} (h : nilK v = some k) : v = k.val := by
  unfold nilK at h
  split at h <;> cases h <;> rfl

/-- Shapes of one cell or one plain value. -/
inductive CT where
  | dat (t : Ty)
  | any
  | ptr (r off : Nat)
  | optr (r off : Nat)
  | mref (r : Nat)
  | gsl (j : Nat) (t : Ty)
  | func (f : FuncId) (caps : List (Nat × Nat))
  | nil (k : NilK)
  | cel (t : Ty) (off : Nat)
  | iface (ty : TypeId) (t : Ty)
inductive PT where
  | one (c : CT)
  | agg (cs : List CT)
  | tup (cs : List CT)
inductive BT where
  | cells (ty : TypeId) (cs : List CT)
  | map (kt vt : Ty)
  | iter

def CT.tys : CT → List Ty
  | .dat t => [t]
  | .optr _ _ => [.bool]
  | .gsl _ t => [.lst t]
  | .cel t _ => [t]
  | .iface _ t => [t]
  | _ => []
def CT.tysL : List CT → List Ty
  | [] => []
  | c :: cs => c.tys ++ tysL cs
def PT.tys : PT → List Ty
  | .one c => c.tys
  | .agg cs => CT.tysL cs
  | .tup cs => CT.tysL cs
def BT.tys : BT → List Ty
  | .cells _ cs => CT.tysL cs
  | .map kt vt => [.lst (.pair kt vt)]
  | .iter => [.str, .int .i64]

/-- A piece of data. -/
abbrev Lf (E : TEnv) := (t : Ty) × t.den E.D
@[reducible] def dens (E : TEnv) : List Ty → Type
  | [] => Unit
  | [t] => t.den E.D
  | t :: u :: ts => t.den E.D × dens E (u :: ts)
def lfGet (t : Ty) (x : Lf E) : Option (t.den E.D) := if h : x.1 = t then some (h ▸ x.2) else none
def getAll : (ts : List Ty) → List (Lf E) → Option (dens E ts)
  | [], [] => some ()
  | [], _ :: _ => none
  | [t], [x] => lfGet t x
  | [_], [] => none
  | [_], _ :: _ :: _ => none
  | t :: u :: ts, x :: xs => match lfGet t x, getAll (u :: ts) xs with
    | some y, some ys => some (y, ys)
    | _, _ => none
  | _ :: _ :: _, [] => none
def putAll : (ts : List Ty) → dens E ts → List (Lf E)
  | [], _ => []
  | [t], x => [⟨t, x⟩]
  | t :: u :: ts, x => ⟨t, x.1⟩ :: putAll (u :: ts) x.2
theorem lfGet_ok {t : Ty} {x : Lf E} {y : t.den E.D} (h : lfGet t x = some y) : x = ⟨t, y⟩ := by
  unfold lfGet at h
  split at h
  · rename_i e
    obtain ⟨t', z⟩ := x
    dsimp only at e
    subst e
    cases h
    rfl
  · cases h
theorem getAll_ok : ∀ (ts : List Ty) {ls : List (Lf E)} {x : dens E ts}, getAll ts ls = some x → putAll ts x = ls
  | [], [], _, _ => rfl
  | [], _ :: _, _, h => by cases h
  | [t], [l], x, h => by simp only [getAll] at h; simp only [putAll, lfGet_ok h]
  | [_], [], _, h => by cases h
  | [_], _ :: _ :: _, _, h => by cases h
  | t :: u :: ts, l :: ls, x, h => by
    simp only [getAll] at h
    split at h <;> try (cases h; done)
    rename_i y ys h1 h2
    cases h
    simp only [putAll, lfGet_ok h1, getAll_ok (u :: ts) h2]
  | _ :: _ :: _, [], _, h => by cases h

/-- A renumbering: the boxes and rows of a shape, where they are in a state; the rows' versions there. -/
structure Rn where
  b : List Nat
  g : List Nat
  v : List Nat

def nat2 (a b c d : Nat) : Bool := Nat.beq a b && Nat.beq c d

def capsOk (n : Rn) : List (Nat × Nat) → List (TV E) → Bool
  | [], [] => true
  | (r, off) :: cs, d :: ds => (match n.b[r]?, d with
    | some r', .ptr r'' off' => nat2 r' r'' off off'
    | _, _ => false) && capsOk n cs ds
  | _, _ => false
def capsPut (n : Rn) : List (Nat × Nat) → List (TV E)
  | [] => []
  | (r, off) :: cs => (match n.b[r]? with | some r' => .ptr r' off | none => .any) :: capsPut n cs

def CT.get (n : Rn) : CT → TV E → Option (List (Lf E))
  | .dat t, d => match d.get t with | some x => some [⟨t, x⟩] | none => none
  | .any, _ => some []
  | .ptr r off, .ptr r' off' => match n.b[r]? with
    | some r'' => cond (nat2 r'' r' off off') (some []) none
    | none => none
  | .optr r off, .optr b r' off' => match n.b[r]? with
    | some r'' => cond (nat2 r'' r' off off') (some [⟨.bool, b⟩]) none
    | none => none
  | .optr r off, .ptr r' off' => match n.b[r]? with
    | some r'' => cond (nat2 r'' r' off off') (some [⟨.bool, true⟩]) none
    | none => none
  | .optr _ _, .val (.pointer none) => some [⟨.bool, false⟩]
  | .mref r, .mref r' => match n.b[r]? with
    | some r'' => cond (Nat.beq r'' r') (some []) none
    | none => none
  | .gsl j t, .gsl j' ver t' xs => match n.g[j]?, n.v[j]? with
    | some j'', some v => if h : t' = t then cond (nat2 j'' j' v ver) (some [⟨.lst t, (h ▸ xs : List (t.den E.D))⟩]) none else none
    | _, _ => none
  | .func f caps, .func (.func f') cs => cond (Nat.beq f f' && capsOk n caps cs) (some []) none
  | .nil k, .val v => match nilK v with | some k' => cond (decide (k = k')) (some []) none | none => none
  | .cel t off, .cel t' y off' => if h : t' = t then cond (Nat.beq off off') (some [⟨t, h ▸ y⟩]) none else none
  | .iface ty t, .iface ty' d => match d.get t with | some x => cond (Nat.beq ty ty') (some [⟨t, x⟩]) none | none => none
  | _, _ => none

def CT.put (n : Rn) : CT → List (Lf E) → TV E × List (Lf E)
  | .dat _, l :: ls => (.dat l.1 l.2, ls)
  | .ptr r off, ls => (match n.b[r]? with | some r' => .ptr r' off | none => .any, ls)
  | .optr r off, l :: ls => (match n.b[r]?, l with | some r', ⟨.bool, b⟩ => .optr b r' off | _, _ => .any, ls)
  | .mref r, ls => (match n.b[r]? with | some r' => .mref r' | none => .any, ls)
  | .gsl j _, l :: ls => (match n.g[j]?, n.v[j]?, l with | some j', some v, ⟨.lst t, xs⟩ => .gsl j' v t xs | _, _, _ => .any, ls)
  | .func f caps, ls => (.func (.func f) (capsPut n caps), ls)
  | .nil k, ls => (.val k.val, ls)
  | .cel _ off, l :: ls => (.cel l.1 l.2 off, ls)
  | .iface ty _, l :: ls => (.iface ty (.dat l.1 l.2), ls)
  | _, ls => (.any, ls)

def CT.getL (n : Rn) : List CT → List (TV E) → Option (List (Lf E))
  | [], [] => some []
  | c :: cs, d :: ds => match c.get n d, getL n cs ds with
    | some l, some ls => some (l ++ ls)
    | _, _ => none
  | _, _ => none
def CT.putL (n : Rn) : List CT → List (Lf E) → List (TV E) × List (Lf E)
  | [], ls => ([], ls)
  | c :: cs, ls => ((c.put n ls).1 :: (putL n cs (c.put n ls).2).1, (putL n cs (c.put n ls).2).2)

def PT.get (n : Rn) : PT → TV E → Option (List (Lf E))
  | .one c, d => c.get n d
  | .agg cs, .agg ds => CT.getL n cs ds
  | .tup cs, .tuple ds => CT.getL n cs ds
  | _, _ => none
def PT.put (n : Rn) : PT → List (Lf E) → TV E × List (Lf E)
  | .one c, ls => c.put n ls
  | .agg cs, ls => (.agg (CT.putL n cs ls).1, (CT.putL n cs ls).2)
  | .tup cs, ls => (.tuple (CT.putL n cs ls).1, (CT.putL n cs ls).2)

def BT.get (n : Rn) : BT → TBox E → Option (List (Lf E))
  | .cells ty cs, .cells ty' ds => cond (Nat.beq ty ty') (CT.getL n cs ds) none
  | .map kt vt, .map kt' vt' m => if h : Ty.lst (.pair kt' vt') = .lst (.pair kt vt) then some [⟨.lst (.pair kt vt), (h ▸ (show (Ty.lst (.pair kt' vt')).den E.D from m) : (Ty.lst (.pair kt vt)).den E.D)⟩] else none
  | .iter, .iter s pos => some [⟨.str, s⟩, ⟨.int .i64, (pos : Int)⟩]
  | _, _ => none
def BT.put (n : Rn) : BT → List (Lf E) → TBox E × List (Lf E)
  | .cells ty cs, ls => (.cells ty (CT.putL n cs ls).1, (CT.putL n cs ls).2)
  | .map _ _, l :: ls => (match l with | ⟨.lst (.pair kt vt), m⟩ => .map kt vt m | _ => .iter [] 0, ls)
  | .iter, l :: l' :: ls => (match l, l' with | ⟨.str, s⟩, ⟨.int _, p⟩ => .iter s (Int.toNat p) | _, _ => .iter [] 0, ls)
  | _, ls => (.iter [] 0, ls)

/-- The same boxes and rows, seen in two numberings. -/
structure Link (w : World) (G : Ghost) (n : Rn) (G2 : Ghost) (n2 : Rn) : Prop where
  pr : ∀ b o, G.pr b o → G2.pr b o
  i : ∀ (r r' b : Nat), n.b[r]? = some r' → G.i[r']? = some b → ∃ r2, n2.b[r]? = some r2 ∧ G2.i[r2]? = some b
  g : ∀ (j j' v : Nat) x h, n.g[j]? = some j' → n.v[j]? = some v → G.g[j']? = some (x, h) → x.ver = v ∧ ∃ j2 v2 x2, n2.g[j]? = some j2 ∧ n2.v[j]? = some v2 ∧ G2.g[j2]? = some (x2, h) ∧ x2.ver = v2

theorem nat2_ok {a b c d : Nat} (h : nat2 a b c d = true) : a = b ∧ c = d := by
  unfold nat2 at h
  rw [Bool.and_eq_true] at h
  exact ⟨Nat.eq_of_beq_eq_true h.1, Nat.eq_of_beq_eq_true h.2⟩

section
variable {w : World} {G G2 : Ghost} {n n2 : Rn}

theorem VT.dat_pr {t : Ty} {x : t.den E.D} {v : Value} (h : VT E w G (.dat t x) v) (hp : ∀ b o, G.pr b o → G2.pr b o) : VT E w G2 (.dat t x) v := by
  cases ha : t.isAgg
  · exact .of_atom ha ((h.atom ha).mono hp (fun _ _ _ _ h => h))
  · obtain ⟨vs, rfl, h0⟩ := h.aggr ha
    simp only [VT, ha]
    exact ⟨vs, rfl, h0.mono hp (fun _ _ _ _ h => h)⟩

theorem caps_ok (hL : Link w G n G2 n2) : ∀ (caps : List (Nat × Nat)) {cs : List (TV E)} {vs : List Value}, capsOk n caps cs = true → VTs E w G cs vs → VTs E w G2 (capsPut n2 caps : List (TV E)) vs
  | [], [], vs, _, h => h
  | (r, off) :: caps, d :: ds, vs, hc, h => by
    simp only [capsOk, Bool.and_eq_true] at hc
    obtain ⟨u, us, rfl, h1, h2⟩ := h.cons_inv
    obtain ⟨hc1, hc2⟩ := hc
    split at hc1 <;> try (cases hc1; done)
    rename_i r' r'' off' hr
    obtain ⟨rfl, rfl⟩ := nat2_ok hc1
    simp only [VT] at h1
    obtain ⟨b, rfl, hb⟩ := h1
    obtain ⟨r2, hr2, hb2⟩ := hL.i r r' b hr hb
    simp only [capsPut, hr2]
    refine .cons ?_ (caps_ok hL caps hc2 h2)
    simp only [VT]
    exact ⟨b, rfl, hb2⟩
  | [], _ :: _, _, hc, _ => by cases hc
  | (_, _) :: _, [], _, hc, _ => by cases hc

theorem CT.sound (hL : Link w G n G2 n2) {c : CT} {d : TV E} {ls rest : List (Lf E)} {v : Value} (h : c.get n d = some ls) (hv : VT E w G d v) :
    (c.put n2 (ls ++ rest)).2 = rest ∧ VT E w G2 (c.put n2 (ls ++ rest)).1 v := by
  unfold CT.get at h
  split at h <;> try (cases h; done)
  · split at h <;> try (cases h; done)
    rename_i t x hx
    cases h
    exact ⟨rfl, (TV.get_vt hx hv).dat_pr hL.pr⟩
  · cases h
    simp only [CT.put, List.nil_append, true_and, VT]
  · rename_i r off r' off'
    split at h <;> try (cases h; done)
    rename_i r'' hr
    cases hb : nat2 r'' r' off off' <;> rw [hb] at h <;> simp only [cond_true, cond_false] at h
    · cases h
    cases h
    obtain ⟨rfl, rfl⟩ := nat2_ok hb
    simp only [VT] at hv
    obtain ⟨b, rfl, hb⟩ := hv
    obtain ⟨r2, hr2, hb2⟩ := hL.i r r'' b hr hb
    simp only [CT.put, hr2, List.nil_append, true_and, VT]
    exact ⟨b, rfl, hb2⟩
  · rename_i r off bb r' off'
    split at h <;> try (cases h; done)
    rename_i r'' hr
    cases hb : nat2 r'' r' off off' <;> rw [hb] at h <;> simp only [cond_true, cond_false] at h
    · cases h
    cases h
    obtain ⟨rfl, rfl⟩ := nat2_ok hb
    cases bb <;> simp only [VT] at hv
    · subst hv
      simp only [CT.put, List.cons_append, List.nil_append, true_and]
      cases hr2 : n2.b[r]? with
      | none => simp only [VT]
      | some r2 => simp only [VT]
    · obtain ⟨b, rfl, hb⟩ := hv
      obtain ⟨r2, hr2, hb2⟩ := hL.i r r'' b hr hb
      simp only [CT.put, hr2, List.cons_append, List.nil_append, true_and, VT]
      exact ⟨b, rfl, hb2⟩
  · rename_i r off r' off'
    split at h <;> try (cases h; done)
    rename_i r'' hr
    cases hb : nat2 r'' r' off off' <;> rw [hb] at h <;> simp only [cond_true, cond_false] at h
    · cases h
    cases h
    obtain ⟨rfl, rfl⟩ := nat2_ok hb
    simp only [VT] at hv
    obtain ⟨b, rfl, hb⟩ := hv
    obtain ⟨r2, hr2, hb2⟩ := hL.i r r'' b hr hb
    simp only [CT.put, hr2, List.cons_append, List.nil_append, true_and, VT]
    exact ⟨b, rfl, hb2⟩
  · rename_i r off
    cases h
    simp only [VT] at hv
    subst hv
    simp only [CT.put, List.cons_append, List.nil_append, true_and]
    cases hr2 : n2.b[r]? with
    | none => simp only [VT]
    | some r2 => simp only [VT]
  · rename_i r r'
    split at h <;> try (cases h; done)
    rename_i r'' hr
    cases hb : Nat.beq r'' r' <;> rw [hb] at h <;> simp only [cond_true, cond_false] at h
    · cases h
    cases h
    obtain rfl := Nat.eq_of_beq_eq_true hb
    simp only [VT] at hv
    obtain ⟨b, rfl, hb⟩ := hv
    obtain ⟨r2, hr2, hb2⟩ := hL.i r r'' b hr hb
    simp only [CT.put, hr2, List.nil_append, true_and, VT]
    exact ⟨b, rfl, hb2⟩
  · rename_i j t j' ver t' xs
    split at h <;> try (cases h; done)
    rename_i j'' vv hj hvj
    split at h <;> try (cases h; done)
    rename_i ht
    subst ht
    cases hb : nat2 j'' j' vv ver <;> rw [hb] at h <;> simp only [cond_true, cond_false] at h
    · cases h
    cases h
    obtain ⟨rfl, rfl⟩ := nat2_ok hb
    simp only [VT] at hv
    obtain ⟨hvd, x, hh, hg, hle, heq⟩ := hv
    obtain ⟨hxv, j2, v2, x2, q1, q2, q3, q4⟩ := hL.g j j'' vv x hh hj hvj hg
    simp only [CT.put, q1, q2, List.cons_append, List.nil_append, true_and, VT]
    refine ⟨hvd.mono hL.pr (fun _ _ _ _ h => h), x2, hh, q3, by omega, fun _ => heq hxv.symm⟩
  · rename_i f caps f' cs
    cases hb : (Nat.beq f f' && capsOk n caps cs) <;> rw [hb] at h <;> simp only [cond_true, cond_false] at h
    · cases h
    cases h
    rw [Bool.and_eq_true] at hb
    obtain rfl := Nat.eq_of_beq_eq_true hb.1
    simp only [VT] at hv
    obtain ⟨vs, rfl, hvs⟩ := hv
    simp only [CT.put, List.nil_append, true_and, VT]
    exact ⟨vs, rfl, caps_ok hL caps hb.2 hvs⟩
  · rename_i k u
    split at h <;> try (cases h; done)
    rename_i k' hk
    cases hb : decide (k = k') <;> rw [hb] at h <;> simp only [cond_true, cond_false] at h
    · cases h
    cases h
    simp only [decide_eq_true_eq] at hb
    subst hb
    simp only [VT] at hv
    subst hv
    simp only [CT.put, List.nil_append, true_and, VT]
    exact nilK_ok hk
  · rename_i t off t' y off'
    split at h <;> try (cases h; done)
    rename_i ht
    subst ht
    cases hb : Nat.beq off off' <;> rw [hb] at h <;> simp only [cond_true, cond_false] at h
    · cases h
    cases h
    obtain rfl := Nat.eq_of_beq_eq_true hb
    simp only [VT] at hv
    obtain ⟨b, o, c, rfl, h1, h2⟩ := hv
    simp only [CT.put, List.cons_append, List.nil_append, true_and, VT]
    exact ⟨b, o, c, rfl, h1.mono hL.pr (fun _ _ _ _ h => h), fun l u hl => ⟨hL.pr _ _ (h2 l u hl).1, (h2 l u hl).2⟩⟩
  · rename_i ty t ty' d'
    split at h <;> try (cases h; done)
    rename_i x hx
    cases hb : Nat.beq ty ty' <;> rw [hb] at h <;> simp only [cond_true, cond_false] at h
    · cases h
    cases h
    obtain rfl := Nat.eq_of_beq_eq_true hb
    simp only [VT] at hv
    obtain ⟨u, rfl, hu⟩ := hv
    simp only [CT.put, List.cons_append, List.nil_append, true_and, VT]
    exact ⟨u, rfl, (TV.get_vt hx hu).dat_pr hL.pr⟩

theorem CT.soundL (hL : Link w G n G2 n2) : ∀ {cs : List CT} {ds : List (TV E)} {ls rest : List (Lf E)} {vs : List Value}, CT.getL n cs ds = some ls → VTs E w G ds vs →
    (CT.putL n2 cs (ls ++ rest)).2 = rest ∧ VTs E w G2 (CT.putL n2 cs (ls ++ rest)).1 vs
  | [], [], ls, rest, vs, h, hv => by cases h; simp only [VTs] at hv; subst hv; exact ⟨rfl, VTs.nil⟩
  | c :: cs, d :: ds, ls, rest, vs, h, hv => by
    simp only [CT.getL] at h
    split at h <;> try (cases h; done)
    rename_i l ls' h1 h2
    cases h
    obtain ⟨u, us, rfl, q1, q2⟩ := hv.cons_inv
    obtain ⟨e1, e2⟩ := CT.sound hL (rest := ls' ++ rest) h1 q1
    obtain ⟨e3, e4⟩ := CT.soundL hL (rest := rest) h2 q2
    simp only [CT.putL, List.append_assoc, e1]
    exact ⟨e3, .cons e2 e4⟩
  | [], _ :: _, _, _, _, h, _ => by cases h
  | _ :: _, [], _, _, _, h, _ => by cases h

theorem PT.sound (hL : Link w G n G2 n2) {p : PT} {d : TV E} {ls rest : List (Lf E)} {v : Value} (h : p.get n d = some ls) (hv : VT E w G d v) :
    (p.put n2 (ls ++ rest)).2 = rest ∧ VT E w G2 (p.put n2 (ls ++ rest)).1 v := by
  unfold PT.get at h
  split at h <;> try (cases h; done)
  · exact CT.sound hL h hv
  · simp only [VT] at hv
    obtain ⟨vs, rfl, h1, h2⟩ := hv
    obtain ⟨e1, e2⟩ := CT.soundL hL (rest := rest) h h2
    refine ⟨e1, ?_⟩
    simp only [PT.put, VT]
    exact ⟨vs, rfl, h1, e2⟩
  · simp only [VT] at hv
    obtain ⟨vs, rfl, h2⟩ := hv
    obtain ⟨e1, e2⟩ := CT.soundL hL (rest := rest) h h2
    refine ⟨e1, ?_⟩
    simp only [PT.put, VT]
    exact ⟨vs, rfl, e2⟩

theorem MapRel.pr {kt vt : Ty} (hp : ∀ b o, G.pr b o → G2.pr b o) : ∀ {es : List MapEntry} {m : List (kt.den E.D × vt.den E.D)}, MapRel E w G kt vt es m → MapRel E w G2 kt vt es m
  | [], [], _ => trivial
  | _ :: _, _ :: _, h => ⟨h.1.dat_pr hp, h.2.1.dat_pr hp, MapRel.pr hp h.2.2⟩
  | [], _ :: _, h => h.elim
  | _ :: _, [], h => h.elim

theorem BT.sound (hL : Link w G n G2 n2) {t : BT} {x : TBox E} {ls rest : List (Lf E)} {b : Nat} (h : t.get n x = some ls) (hv : BoxOk E w G b x) :
    (t.put n2 (ls ++ rest)).2 = rest ∧ BoxOk E w G2 b (t.put n2 (ls ++ rest)).1 := by
  unfold BT.get at h
  split at h <;> try (cases h; done)
  · rename_i ty cs ty' ds
    cases hb : Nat.beq ty ty' <;> rw [hb] at h <;> simp only [cond_true, cond_false] at h
    · cases h
    obtain rfl := Nat.eq_of_beq_eq_true hb
    obtain ⟨vs, h1, h2, h3⟩ := hv
    obtain ⟨e1, e2⟩ := CT.soundL hL (rest := rest) h h3
    exact ⟨e1, vs, h1, h2, e2⟩
  · rename_i kt vt kt' vt' m
    split at h <;> try (cases h; done)
    rename_i he
    have he' := he
    simp only [Ty.lst.injEq, Ty.pair.injEq] at he'
    obtain ⟨rfl, rfl⟩ := he'
    cases h
    obtain ⟨es, clock, h1, h2, h3⟩ := hv
    refine ⟨rfl, ?_⟩
    exact ⟨es, clock, h1, h2, h3.pr hL.pr⟩
  · rename_i s pos
    cases h
    exact ⟨rfl, hv⟩
end

end Go.RT
