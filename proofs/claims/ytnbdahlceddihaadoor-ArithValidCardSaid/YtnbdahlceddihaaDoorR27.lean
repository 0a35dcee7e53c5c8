/-
  RT, part 27: contracts; shapes seen in two numberings.
-/
import Derived.Test.YtnbdahlceddihaaDoorR26
namespace Go.RT
set_option linter.unusedVariables false

variable {E : TEnv}

def Invokes (P : Program) (f : FuncId) (args : Array Value) (w : World) (R : Ending → World → Prop) : Prop :=
  match (callFunc f args).run P w with
  | .ok (.enter f' args') w' => Calls P f' args' w' R
  | .ok (.value v) w' => R (.returned v) w'
  | _ => False

def endOf (ok : Bool) (v : Value) : Ending := cond ok (.returned v) (.panicked [{ v := v, recovered := false }])

/-- What a call comes to: a value or a panic, boxes, rows; the boxes that may have been written. -/
structure ARes (E : TEnv) where
  ok : Bool
  d : TV E
  H : List (TBox E)
  g : List TGrow
  D : List Nat

def ACalls (P : Program) (f : FuncId) (ds : List (TV E)) (H : List (TBox E)) (gs : List TGrow) (r : ARes E) : Prop :=
  ∀ (w : World) (G : Ghost) (args : Array Value), Pins E w G → Boxes E w G H gs → VTs E w G ds args.toList → Invokes P f args w fun e w' =>
    ∃ v G', e = endOf r.ok v ∧ Evol w G w' G' ∧ Boxes E w' G' r.H r.g ∧ VT E w' G' r.d v ∧ ∀ (q b : Nat), G.i[q]? = some b → q ∉ r.D → w'.heap[b]? = w.heap[b]?

/-- What a call's end looks like. -/
structure Outs where
  res : PT
  boxes : List (Option BT)
  rows : List (Option (TypeId × Nat))
def Outs.tys (o : Outs) : List Ty := o.res.tys ++ boxesTys o.boxes

/-- The shape of a contract. -/
structure Shp where
  f : FuncId
  args : List PT
  boxes : List BT
  rows : List (TypeId × Nat)
  out : Outs
  pan : Option Outs

def ptsTys : List PT → List Ty
  | [] => []
  | p :: ps => p.tys ++ ptsTys ps
def btsTys : List BT → List Ty
  | [] => []
  | b :: bs => b.tys ++ btsTys bs
def Shp.tys (s : Shp) : List Ty := ptsTys s.args ++ btsTys s.boxes
@[reducible] def OutP (E : TEnv) (o : Outs) : Option Outs → Type
  | none => dens E o.tys
  | some q => dens E o.tys ⊕ dens E q.tys
structure Ctr (E : TEnv) where
  s : Shp
  m : dens E s.tys → Option (OutP E s.out s.pan)

def ptsGet (n : Rn) : List PT → List (TV E) → Option (List (Lf E))
  | [], [] => some []
  | p :: ps, d :: ds => match p.get n d, ptsGet n ps ds with
    | some l, some ls => some (l ++ ls)
    | _, _ => none
  | _, _ => none
def ptsPut (n : Rn) : List PT → List (Lf E) → List (TV E) × List (Lf E)
  | [], ls => ([], ls)
  | p :: ps, ls => ((p.put n ls).1 :: (ptsPut n ps (p.put n ls).2).1, (ptsPut n ps (p.put n ls).2).2)
def btsGet (n : Rn) : List BT → List (TBox E) → Option (List (Lf E))
  | [], [] => some []
  | t :: ts, x :: xs => match t.get n x, btsGet n ts xs with
    | some l, some ls => some (l ++ ls)
    | _, _ => none
  | _, _ => none
def btsPut (n : Rn) : List BT → List (Lf E) → List (TBox E) × List (Lf E)
  | [], ls => ([], ls)
  | t :: ts, ls => ((t.put n ls).1 :: (btsPut n ts (t.put n ls).2).1, (btsPut n ts (t.put n ls).2).2)

def Shp.g0 (s : Shp) : List TGrow := s.rows.map fun p => ⟨0, p.1, p.2⟩
def Shp.n0 (s : Shp) : Rn := ⟨List.range s.boxes.length, List.range s.rows.length, s.g0.map (·.ver)⟩
def Shp.ds (s : Shp) (ls : List (Lf E)) : List (TV E) := (ptsPut s.n0 s.args ls).1
def Shp.H (s : Shp) (ls : List (Lf E)) : List (TBox E) := (btsPut s.n0 s.boxes (ptsPut s.n0 s.args ls).2).1
/-- The numbering at a call's end. -/
def Outs.n1 (o : Outs) (g : List TGrow) : Rn := ⟨List.range o.boxes.length, List.range o.rows.length, (newRows o.rows g).map (·.ver)⟩
def Outs.ares (o : Outs) (ok : Bool) (H0 : List (TBox E)) (g : List TGrow) (ls : List (Lf E)) : ARes E :=
  ⟨ok, (o.res.put (o.n1 g) ls).1, boxesPut (o.n1 g) o.boxes H0 (o.res.put (o.n1 g) ls).2, newRows o.rows g, chg 0 o.boxes⟩
def outP (s : Shp) (H0 : List (TBox E)) : (p : Option Outs) → OutP E s.out p → ARes E
  | none, y => s.out.ares true H0 s.g0 (putAll s.out.tys y)
  | some _, .inl y => s.out.ares true H0 s.g0 (putAll s.out.tys y)
  | some q, .inr y => q.ares false H0 s.g0 (putAll q.tys y)
def Ctr.Ok (P : Program) (C : Ctr E) : Prop :=
  ∀ x y, C.m x = some y → ACalls P C.s.f (C.s.ds (putAll C.s.tys x)) (C.s.H (putAll C.s.tys x)) C.s.g0 (outP C.s (C.s.H (putAll C.s.tys x)) C.s.pan y)

/-- Two numberings of one shape. -/
structure Link2 (w : World) (G : Ghost) (n : Rn) (G2 : Ghost) (n2 : Rn) : Prop extends Link w G n G2 n2 where
  lb : n2.b.length ≤ n.b.length
  lg : n2.g.length ≤ n.g.length
  lv : n2.v.length ≤ n.v.length

theorem CT.put_rest (n n2 : Rn) (c : CT) (ls : List (Lf E)) : (c.put n ls).2 = (c.put n2 ls).2 := by
  cases c <;> cases ls <;> rfl
theorem CT.putL_rest (n n2 : Rn) : ∀ (cs : List CT) (ls : List (Lf E)), (CT.putL n cs ls).2 = (CT.putL n2 cs ls).2
  | [], ls => rfl
  | c :: cs, ls => by simp only [CT.putL]; rw [CT.put_rest n n2 c ls]; exact CT.putL_rest n n2 cs _
theorem PT.put_rest (n n2 : Rn) (p : PT) (ls : List (Lf E)) : (p.put n ls).2 = (p.put n2 ls).2 := by
  cases p with
  | one c => exact CT.put_rest n n2 c ls
  | agg cs => exact CT.putL_rest n n2 cs ls
  | tup cs => exact CT.putL_rest n n2 cs ls
theorem BT.put_rest (n n2 : Rn) (t : BT) (ls : List (Lf E)) : (t.put n ls).2 = (t.put n2 ls).2 := by
  cases t with
  | cells ty cs => exact CT.putL_rest n n2 cs ls
  | map kt vt => cases ls <;> rfl
  | iter => cases ls with | nil => rfl | cons l ls => cases ls <;> rfl

section
variable {w : World} {G G2 : Ghost} {n n2 : Rn}

theorem getElem?_none_of {α β : Type} {l : List α} {m : List β} {r : Nat} (h : l[r]? = none) (hl : m.length ≤ l.length) : m[r]? = none := by
  rw [List.getElem?_eq_none_iff] at h ⊢
  omega

theorem caps_move (hL : Link2 w G n G2 n2) : ∀ (caps : List (Nat × Nat)) {vs : List Value}, VTs E w G (capsPut n caps : List (TV E)) vs → VTs E w G2 (capsPut n2 caps : List (TV E)) vs
  | [], vs, h => by simp only [capsPut, VTs] at h ⊢; exact h
  | (r, off) :: caps, vs, h => by
    simp only [capsPut] at h ⊢
    obtain ⟨u, us, rfl, h1, h2⟩ := h.cons_inv
    refine .cons ?_ (caps_move hL caps h2)
    cases hr : n.b[r]? with
    | none => rw [getElem?_none_of hr hL.lb]; simp only [VT]
    | some r' =>
      rw [hr] at h1
      simp only [VT] at h1
      obtain ⟨b, rfl, hb⟩ := h1
      obtain ⟨r2, hr2, hb2⟩ := hL.i r r' b hr hb
      rw [hr2]
      simp only [VT]
      exact ⟨b, rfl, hb2⟩

theorem CT.move (hL : Link2 w G n G2 n2) (c : CT) (ls : List (Lf E)) {v : Value} (h : VT E w G (c.put n ls).1 v) : VT E w G2 (c.put n2 ls).1 v := by
  cases c with
  | dat t => cases ls with
    | nil => simp only [CT.put, VT]
    | cons l ls => exact VT.dat_pr h hL.pr
  | any => simp only [CT.put, VT]
  | ptr r off =>
    simp only [CT.put] at h ⊢
    cases hr : n.b[r]? with
    | none => rw [getElem?_none_of hr hL.lb]; simp only [VT]
    | some r' =>
      rw [hr] at h
      simp only [VT] at h
      obtain ⟨b, rfl, hb⟩ := h
      obtain ⟨r2, hr2, hb2⟩ := hL.i r r' b hr hb
      rw [hr2]
      simp only [VT]
      exact ⟨b, rfl, hb2⟩
  | optr r off =>
    cases ls with
    | nil => simp only [CT.put, VT]
    | cons l ls =>
      simp only [CT.put] at h ⊢
      cases hr : n.b[r]? with
      | none => rw [getElem?_none_of hr hL.lb]; simp only [VT]
      | some r' =>
        rw [hr] at h
        obtain ⟨t, x⟩ := l
        cases hn : n2.b[r]? with
        | none => simp only [VT]
        | some r2' =>
          cases t <;> try (simp only [VT]; done)
          cases x <;> simp only [VT] at h ⊢
          · exact h
          · obtain ⟨b, rfl, hb⟩ := h
            obtain ⟨r2, hr2, hb2⟩ := hL.i r r' b hr hb
            rw [hn] at hr2
            cases hr2
            exact ⟨b, rfl, hb2⟩
  | mref r =>
    simp only [CT.put] at h ⊢
    cases hr : n.b[r]? with
    | none => rw [getElem?_none_of hr hL.lb]; simp only [VT]
    | some r' =>
      rw [hr] at h
      simp only [VT] at h
      obtain ⟨b, rfl, hb⟩ := h
      obtain ⟨r2, hr2, hb2⟩ := hL.i r r' b hr hb
      rw [hr2]
      simp only [VT]
      exact ⟨b, rfl, hb2⟩
  | gsl j t =>
    cases ls with
    | nil => simp only [CT.put, VT]
    | cons l ls =>
      simp only [CT.put] at h ⊢
      cases hj : n.g[j]? with
      | none => rw [getElem?_none_of hj hL.lg]; simp only [VT]
      | some j' =>
        cases hvj : n.v[j]? with
        | none =>
          rw [getElem?_none_of hvj hL.lv]
          cases n2.g[j]? <;> simp only [VT]
        | some vv =>
          rw [hj, hvj] at h
          obtain ⟨t', x⟩ := l
          cases t' with
          | lst t' =>
            simp only [VT] at h
            obtain ⟨hvd, x1, h1, hg, hle, heq⟩ := h
            obtain ⟨hxv, j2, v2, x2, q1, q2, q3, q4⟩ := hL.g j j' vv x1 h1 hj hvj hg
            rw [q1, q2]
            simp only [VT]
            exact ⟨hvd.mono hL.pr (fun _ _ _ _ h => h), x2, h1, q3, by omega, fun _ => heq hxv.symm⟩
          | _ => cases n2.g[j]? <;> cases n2.v[j]? <;> simp only [VT]
  | func f caps =>
    simp only [CT.put, VT] at h ⊢
    obtain ⟨vs, rfl, h⟩ := h
    exact ⟨vs, rfl, caps_move hL caps h⟩
  | nil k => simpa only [CT.put, VT] using h
  | cel t off => cases ls with
    | nil => simp only [CT.put, VT]
    | cons l ls =>
      simp only [CT.put, VT] at h ⊢
      obtain ⟨b, o, c, rfl, h1, h2⟩ := h
      exact ⟨b, o, c, rfl, h1.mono hL.pr (fun _ _ _ _ h => h), fun l u hl => ⟨hL.pr _ _ (h2 l u hl).1, (h2 l u hl).2⟩⟩
  | iface ty t => cases ls with
    | nil => simp only [CT.put, VT]
    | cons l ls =>
      simp only [CT.put] at h ⊢
      rw [VT.eq_def] at h ⊢
      obtain ⟨u, rfl, h⟩ := h
      exact ⟨u, rfl, VT.dat_pr h hL.pr⟩
theorem CT.moveL (hL : Link2 w G n G2 n2) : ∀ (cs : List CT) (ls : List (Lf E)) {vs : List Value}, VTs E w G (CT.putL n cs ls).1 vs → VTs E w G2 (CT.putL n2 cs ls).1 vs
  | [], ls, vs, h => by simp only [CT.putL, VTs] at h ⊢; exact h
  | c :: cs, ls, vs, h => by
    simp only [CT.putL] at h ⊢
    obtain ⟨u, us, rfl, h1, h2⟩ := h.cons_inv
    refine .cons (CT.move hL c ls h1) ?_
    rw [CT.put_rest n2 n]
    exact CT.moveL hL cs _ h2
theorem PT.move (hL : Link2 w G n G2 n2) (p : PT) (ls : List (Lf E)) {v : Value} (h : VT E w G (p.put n ls).1 v) : VT E w G2 (p.put n2 ls).1 v := by
  cases p with
  | one c => exact CT.move hL c ls h
  | agg cs =>
    simp only [PT.put, VT] at h ⊢
    obtain ⟨vs, rfl, h1, h⟩ := h
    exact ⟨vs, rfl, h1, CT.moveL hL cs ls h⟩
  | tup cs =>
    simp only [PT.put, VT] at h ⊢
    obtain ⟨vs, rfl, h⟩ := h
    exact ⟨vs, rfl, CT.moveL hL cs ls h⟩
theorem BT.move (hL : Link2 w G n G2 n2) (t : BT) (ls : List (Lf E)) {b : Nat} (h : BoxOk E w G b (t.put n ls).1) : BoxOk E w G2 b (t.put n2 ls).1 := by
  cases t with
  | cells ty cs =>
    obtain ⟨vs, h1, h2, h3⟩ := h
    exact ⟨vs, h1, h2, CT.moveL hL cs ls h3⟩
  | map kt vt => cases ls with
    | nil => exact h
    | cons l ls =>
      obtain ⟨t, x⟩ := l
      simp only [BT.put] at h ⊢
      split at h
      · rename_i kt' vt' m heq
        obtain ⟨es, clock, h1, h2, h3⟩ := h
        cases heq
        exact ⟨es, clock, h1, h2, h3.pr hL.pr⟩
      · exact h
  | iter => cases ls with
    | nil => exact h
    | cons l ls => cases ls with
      | nil => exact h
      | cons l' ls =>
        simp only [BT.put] at h ⊢
        split at h <;> exact h
end

end Go.RT
