/-
  RT: parts 25 to 30.
-/
import Derived.Test.YtamjncikmfpihaaGreatDoorRd
/-
  RT, part 25: cuts: what of a state goes on; the state behind a cut.
-/
namespace Go.RT
set_option linter.unusedVariables false

variable {E : TEnv}

structure Cut where
  vars : List (Nat × PT)
  boxes : List (Option BT)
  rows : List (Option (TypeId × Nat))

def varsTys : List (Nat × PT) → List Ty
  | [] => []
  | v :: vs => v.2.tys ++ varsTys vs
def boxesTys : List (Option BT) → List Ty
  | [] => []
  | some b :: bs => b.tys ++ boxesTys bs
  | none :: bs => boxesTys bs
def Cut.tys (c : Cut) : List Ty := varsTys c.vars ++ boxesTys c.boxes

def rowsOk : List (Option (TypeId × Nat)) → List TGrow → List TGrow → Bool
  | [], _, _ => true
  | none :: rs, x :: g0, y :: g => (Nat.beq x.ver y.ver && (Nat.beq x.e y.e && Nat.beq x.k y.k)) && rowsOk rs g0 g
  | some p :: rs, x :: g0, y :: g => (Nat.beq p.1 y.e && Nat.beq p.2 y.k) && rowsOk rs g0 g
  | some p :: rs, [], y :: g => (Nat.beq p.1 y.e && Nat.beq p.2 y.k) && rowsOk rs [] g
  | _, _, _ => false
def newRows : List (Option (TypeId × Nat)) → List TGrow → List TGrow
  | [], _ => []
  | none :: rs, x :: g0 => x :: newRows rs g0
  | some p :: rs, x :: g0 => ⟨x.ver + 1, p.1, p.2⟩ :: newRows rs g0
  | some p :: rs, [] => ⟨0, p.1, p.2⟩ :: newRows rs []
  | none :: rs, [] => ⟨0, 0, 0⟩ :: newRows rs []
def newG : List (Option (TypeId × Nat)) → List TGrow → List (TGrow × Value) → List (TGrow × Value)
  | none :: rs, _ :: g0, y :: gs => y :: newG rs g0 gs
  | some _ :: rs, x :: g0, y :: gs => ({ y.1 with ver := x.ver + 1 }, y.2) :: newG rs g0 gs
  | some _ :: rs, [], y :: gs => ({ y.1 with ver := 0 }, y.2) :: newG rs [] gs
  | _, _, _ => []

theorem newG_spec : ∀ (rows : List (Option (TypeId × Nat))) (g0 : List TGrow) (gs : List (TGrow × Value)), rowsOk rows g0 (gs.map (·.1)) = true →
    (newG rows g0 gs).map (·.1) = newRows rows g0 ∧ (newG rows g0 gs).length = rows.length ∧ rows.length ≤ gs.length ∧
    ∀ (j : Nat) y, gs[j]? = some y → j < rows.length → ∃ y2, (newG rows g0 gs)[j]? = some y2 ∧ y2.2 = y.2 ∧ y2.1.e = y.1.e ∧ y2.1.k = y.1.k ∧ ∀ x0, g0[j]? = some x0 → y2.1.ver = y.1.ver ∨ x0.ver < y2.1.ver
  | [], g0, gs, h => by
    refine ⟨by unfold newG newRows; simp, by unfold newG; simp, by simp, fun j y _ hj => by simp at hj⟩
  | none :: rs, x :: g0, y :: gs, h => by
    simp only [List.map_cons, rowsOk, Bool.and_eq_true] at h
    obtain ⟨⟨h1, h2, h3⟩, h4⟩ := h
    obtain ⟨i1, i2, i3, i4⟩ := newG_spec rs g0 gs h4
    have hxy : y.1 = x := by
      have e1 := Nat.eq_of_beq_eq_true h1; have e2 := Nat.eq_of_beq_eq_true h2; have e3 := Nat.eq_of_beq_eq_true h3
      obtain ⟨⟨a, b, c⟩, v⟩ := y
      obtain ⟨a', b', c'⟩ := x
      simp only at e1 e2 e3
      simp [e1, e2, e3]
    refine ⟨by simp [newG, newRows, i1, hxy], by simp [newG, i2], by simpa using i3, fun j z hz hj => ?_⟩
    cases j with
    | zero => simp at hz; subst hz; exact ⟨y, rfl, rfl, rfl, rfl, fun _ _ => .inl rfl⟩
    | succ j => simpa [newG] using i4 j z (by simpa using hz) (by simpa using hj)
  | some p :: rs, x :: g0, y :: gs, h => by
    simp only [List.map_cons, rowsOk, Bool.and_eq_true] at h
    obtain ⟨⟨h1, h2⟩, h4⟩ := h
    obtain ⟨i1, i2, i3, i4⟩ := newG_spec rs g0 gs h4
    have e1 := Nat.eq_of_beq_eq_true h1; have e2 := Nat.eq_of_beq_eq_true h2
    refine ⟨by simp [newG, newRows, i1, e1, e2], by simp [newG, i2], by simpa using i3, fun j z hz hj => ?_⟩
    cases j with
    | zero => simp at hz; subst hz; exact ⟨_, rfl, rfl, rfl, rfl, fun x0 hx => by simp at hx; subst hx; exact .inr (Nat.lt_succ_self _)⟩
    | succ j => simpa [newG] using i4 j z (by simpa using hz) (by simpa using hj)
  | some p :: rs, [], y :: gs, h => by
    simp only [List.map_cons, rowsOk, Bool.and_eq_true] at h
    obtain ⟨⟨h1, h2⟩, h4⟩ := h
    obtain ⟨i1, i2, i3, i4⟩ := newG_spec rs [] gs h4
    have e1 := Nat.eq_of_beq_eq_true h1; have e2 := Nat.eq_of_beq_eq_true h2
    refine ⟨by simp [newG, newRows, i1, e1, e2], by simp [newG, i2], by simpa using i3, fun j z hz hj => ?_⟩
    cases j with
    | zero => simp at hz; subst hz; exact ⟨_, rfl, rfl, rfl, rfl, fun x0 hx => by simp at hx⟩
    | succ j => simpa [newG] using i4 j z (by simpa using hz) (by simpa using hj)
  | none :: rs, [], gs, h => by cases gs <;> cases h
  | none :: rs, _ :: _, [], h => by cases h
  | some _ :: rs, [], [], h => by cases h
  | some _ :: rs, _ :: _, [], h => by cases h

def varsGet (n : Rn) (st : TS E) : List (Nat × PT) → Option (List (Lf E))
  | [] => some []
  | (i, p) :: vs => match p.get n (st.at i), varsGet n st vs with
    | some l, some ls => some (l ++ ls)
    | _, _ => none
def boxesGet (n : Rn) (d : List Nat) (nb : Nat) : Nat → List (Option BT) → List (TBox E) → Option (List (Lf E))
  | _, [], _ => some []
  | r, none :: bs, _ :: H => cond (d.elem r || !(Nat.blt r nb)) none (boxesGet n d nb (r + 1) bs H)
  | r, some t :: bs, x :: H => match t.get n x, boxesGet n d nb (r + 1) bs H with
    | some l, some ls => some (l ++ ls)
    | _, _ => none
  | _, _ :: _, [] => none

/-- The boxes written since. -/
def since (d0 d : List Nat) : List Nat := d.take (d.length - d0.length)
theorem since_app (n d0 : List Nat) : since d0 (n ++ d0) = n := by simp [since]

def Cut.leaves (c : Cut) (st0 st : TS E) : Option (List (Lf E)) :=
  cond (Nat.ble st0.H.length c.boxes.length && (Nat.ble st0.g.length c.rows.length && rowsOk c.rows st0.g st.g))
    (match varsGet ⟨List.range c.boxes.length, List.range c.rows.length, st.g.map (·.ver)⟩ st c.vars, boxesGet ⟨List.range c.boxes.length, List.range c.rows.length, st.g.map (·.ver)⟩ (since st0.d st.d) st0.H.length 0 c.boxes st.H with
      | some a, some b => some (a ++ b)
      | _, _ => none) none

def dropT (W : List Nat) : Nat → List (TV E) → List (TV E)
  | _, [] => []
  | i, d :: ds => cond (W.elem i) .any d :: dropT W (i + 1) ds
def placeV (n : Rn) : List (Nat × PT) → List (TV E) → List (Lf E) → List (TV E) × List (Lf E)
  | [], t, ls => (t, ls)
  | (i, p) :: vs, t, ls => placeV n vs (t.set i (p.put n ls).1) (p.put n ls).2
def boxesPut (n : Rn) : List (Option BT) → List (TBox E) → List (Lf E) → List (TBox E)
  | [], _, _ => []
  | none :: bs, H, ls => (match H with | x :: _ => x | [] => default) :: boxesPut n bs H.tail ls
  | some t :: bs, H, ls => (t.put n ls).1 :: boxesPut n bs H.tail (t.put n ls).2
def chg : Nat → List (Option BT) → List Nat
  | _, [] => []
  | r, none :: bs => chg (r + 1) bs
  | r, some _ :: bs => r :: chg (r + 1) bs
def Cut.unpack (c : Cut) (W : List Nat) (st0 : TS E) (ls : List (Lf E)) : TS E :=
  let n : Rn := ⟨List.range c.boxes.length, List.range c.rows.length, (newRows c.rows st0.g).map (·.ver)⟩
  { t := (placeV n c.vars (dropT W 0 st0.t) ls).1
    H := boxesPut n c.boxes st0.H (placeV n c.vars (dropT W 0 st0.t) ls).2
    g := newRows c.rows st0.g
    d := chg 0 c.boxes ++ st0.d
    df := st0.df }

mutual
def TV.Bd (nb : Nat) (g : List TGrow) : TV E → Prop
  | .ptr r _ => r < nb
  | .optr b r _ => b = true → r < nb
  | .mref r => r < nb
  | .gsl j ver _ _ => ∃ x, g[j]? = some x ∧ ver ≤ x.ver
  | .sdp j ver _ => ∃ x, g[j]? = some x ∧ ver ≤ x.ver
  | .func _ caps => TV.Bds nb g caps
  | .iface _ d => TV.Bd nb g d
  | .agg cs => TV.Bds nb g cs
  | .tuple ds => TV.Bds nb g ds
  | .any => True
  | .dat _ _ => True
  | .cel _ _ _ => True
  | .val _ => True
def TV.Bds (nb : Nat) (g : List TGrow) : List (TV E) → Prop
  | [] => True
  | d :: ds => TV.Bd nb g d ∧ TV.Bds nb g ds
end

section
variable {w : World} {G G2 : Ghost}

mutual
theorem VT.bd : ∀ {d : TV E} {v : Value}, VT E w G d v → TV.Bd G.i.length (G.g.map (·.1)) d
  | .any, _, _ => by simp only [TV.Bd]
  | .dat _ _, _, _ => by simp only [TV.Bd]
  | .cel _ _ _, _, _ => by simp only [TV.Bd]
  | .val _, _, _ => by simp only [TV.Bd]
  | .ptr r off, v, h => by
    simp only [VT] at h; simp only [TV.Bd]
    obtain ⟨b, -, h⟩ := h
    exact (List.getElem?_eq_some_iff.1 h).1
  | .optr c r off, v, h => by
    simp only [TV.Bd]
    intro hc; subst hc
    simp only [VT] at h
    obtain ⟨b, -, h⟩ := h
    exact (List.getElem?_eq_some_iff.1 h).1
  | .mref r, v, h => by
    simp only [VT] at h; simp only [TV.Bd]
    obtain ⟨b, -, h⟩ := h
    exact (List.getElem?_eq_some_iff.1 h).1
  | .gsl j ver t xs, v, h => by
    simp only [VT] at h; simp only [TV.Bd]
    obtain ⟨-, x, g, hg, hle, -⟩ := h
    exact ⟨x, by simp [hg], hle⟩
  | .sdp j ver l, v, h => by
    simp only [VT] at h; simp only [TV.Bd]
    obtain ⟨x, g, u, hg, hle, -⟩ := h
    exact ⟨x, by simp [hg], hle⟩
  | .func fn caps, v, h => by
    simp only [VT] at h; simp only [TV.Bd]
    obtain ⟨vs, -, h⟩ := h
    exact VTs.bd h
  | .iface ty d, v, h => by
    simp only [VT] at h; simp only [TV.Bd]
    obtain ⟨u, -, h⟩ := h
    exact VT.bd h
  | .agg cs, v, h => by
    simp only [VT] at h; simp only [TV.Bd]
    obtain ⟨vs, -, -, h⟩ := h
    exact VTs.bd h
  | .tuple ds, v, h => by
    simp only [VT] at h; simp only [TV.Bd]
    obtain ⟨vs, -, h⟩ := h
    exact VTs.bd h
theorem VTs.bd : ∀ {ds : List (TV E)} {vs : List Value}, VTs E w G ds vs → TV.Bds G.i.length (G.g.map (·.1)) ds
  | [], _, _ => by simp only [TV.Bds]
  | d :: ds, vs, h => by
    simp only [VTs] at h; simp only [TV.Bds]
    obtain ⟨u, us, -, h1, h2⟩ := h
    exact ⟨VT.bd h1, VTs.bd h2⟩
end

/-- The boxes and rows up to some numbers, kept or with later versions. -/
structure Reb (G G2 : Ghost) (nb : Nat) (g0 : List TGrow) : Prop where
  pr : ∀ b o, G.pr b o → G2.pr b o
  i : ∀ r b, r < nb → G.i[r]? = some b → G2.i[r]? = some b
  g : ∀ (j : Nat) x0 x h, g0[j]? = some x0 → G.g[j]? = some (x, h) → ∃ x2, G2.g[j]? = some (x2, h) ∧ (x2.ver = x.ver ∨ x0.ver < x2.ver)

mutual
theorem VT.reb {nb : Nat} {g0 : List TGrow} (hR : Reb G G2 nb g0) : ∀ {d : TV E} {v : Value}, VT E w G d v → TV.Bd nb g0 d → VT E w G2 d v
  | .any, _, _, _ => by simp only [VT]
  | .dat t x, v, h, _ => h.dat_pr hR.pr
  | .cel t x off, v, h, _ => by
    simp only [VT] at h ⊢
    obtain ⟨b, o, c, rfl, h1, h2⟩ := h
    exact ⟨b, o, c, rfl, h1.mono hR.pr (fun _ _ _ _ h => h), fun l u hl => ⟨hR.pr _ _ (h2 l u hl).1, (h2 l u hl).2⟩⟩
  | .val _, _, h, _ => by simpa only [VT] using h
  | .ptr r off, v, h, hb => by
    simp only [VT] at h ⊢; simp only [TV.Bd] at hb
    obtain ⟨b, rfl, h⟩ := h
    exact ⟨b, rfl, hR.i r b hb h⟩
  | .optr c r off, v, h, hb => by
    simp only [TV.Bd] at hb
    cases c <;> simp only [VT] at h ⊢
    · exact h
    · obtain ⟨b, rfl, h⟩ := h
      exact ⟨b, rfl, hR.i r b (hb rfl) h⟩
  | .mref r, v, h, hb => by
    simp only [VT] at h ⊢; simp only [TV.Bd] at hb
    obtain ⟨b, rfl, h⟩ := h
    exact ⟨b, rfl, hR.i r b hb h⟩
  | .gsl j ver t xs, v, h, hb => by
    simp only [VT] at h ⊢; simp only [TV.Bd] at hb
    obtain ⟨hvd, x, g, hg, hle, heq⟩ := h
    obtain ⟨x0, hx0, hle0⟩ := hb
    obtain ⟨x2, h2, hc⟩ := hR.g j x0 x g hx0 hg
    refine ⟨hvd.mono hR.pr (fun _ _ _ _ h => h), x2, g, h2, ?_, fun e => ?_⟩
    · rcases hc with hc | hc <;> omega
    · rcases hc with hc | hc
      · exact heq (by omega)
      · omega
  | .sdp j ver l, v, h, hb => by
    simp only [VT] at h ⊢; simp only [TV.Bd] at hb
    obtain ⟨x, g, u, hg, hle, hvd, heq⟩ := h
    obtain ⟨x0, hx0, hle0⟩ := hb
    obtain ⟨x2, h2, hc⟩ := hR.g j x0 x g hx0 hg
    refine ⟨x2, g, u, h2, ?_, hvd.mono hR.pr (fun _ _ _ _ h => h), fun e => ?_⟩
    · rcases hc with hc | hc <;> omega
    · rcases hc with hc | hc
      · exact heq (by omega)
      · omega
  | .func fn caps, v, h, hb => by
    simp only [VT] at h ⊢; simp only [TV.Bd] at hb
    obtain ⟨vs, rfl, h⟩ := h
    exact ⟨vs, rfl, VTs.reb hR h hb⟩
  | .iface ty d, v, h, hb => by
    simp only [VT] at h ⊢; simp only [TV.Bd] at hb
    obtain ⟨u, rfl, h⟩ := h
    exact ⟨u, rfl, VT.reb hR h hb⟩
  | .agg cs, v, h, hb => by
    simp only [VT] at h ⊢; simp only [TV.Bd] at hb
    obtain ⟨vs, rfl, h1, h⟩ := h
    exact ⟨vs, rfl, h1, VTs.reb hR h hb⟩
  | .tuple ds, v, h, hb => by
    simp only [VT] at h ⊢; simp only [TV.Bd] at hb
    obtain ⟨vs, rfl, h⟩ := h
    exact ⟨vs, rfl, VTs.reb hR h hb⟩
theorem VTs.reb {nb : Nat} {g0 : List TGrow} (hR : Reb G G2 nb g0) : ∀ {ds : List (TV E)} {vs : List Value}, VTs E w G ds vs → TV.Bds nb g0 ds → VTs E w G2 ds vs
  | [], _, h, _ => by simp only [VTs] at h ⊢; exact h
  | d :: ds, vs, h, hb => by
    simp only [VTs] at h ⊢; simp only [TV.Bds] at hb
    obtain ⟨u, us, rfl, h1, h2⟩ := h
    exact ⟨u, us, rfl, VT.reb hR h1 hb.1, VTs.reb hR h2 hb.2⟩
end

def TBox.Bd (nb : Nat) (g : List TGrow) : TBox E → Prop
  | .cells _ cs => TV.Bds nb g cs
  | _ => True
theorem BoxOk.bd {b : Nat} {x : TBox E} (h : BoxOk E w G b x) : x.Bd G.i.length (G.g.map (·.1)) := by
  cases x with
  | cells t cs => obtain ⟨vs, -, -, h⟩ := h; exact h.bd
  | _ => trivial
theorem BoxOk.reb {nb : Nat} {g0 : List TGrow} (hR : Reb G G2 nb g0) {b : Nat} {x : TBox E} (h : BoxOk E w G b x) (hb : x.Bd nb g0) : BoxOk E w G2 b x := by
  cases x with
  | cells t cs => obtain ⟨vs, h1, h2, h3⟩ := h; exact ⟨vs, h1, h2, VTs.reb hR h3 hb⟩
  | iter s pos => exact h
  | map kt vt m => obtain ⟨es, clock, h1, h2, h3⟩ := h; exact ⟨es, clock, h1, h2, h3.pr hR.pr⟩
def DBd (nb : Nat) (g : List TGrow) : List (FuncId × List (TV E)) → Prop
  | [] => True
  | x :: xs => TV.Bds nb g x.2 ∧ DBd nb g xs
theorem DRel.bd : ∀ {ds : List Deferred} {xs : List (FuncId × List (TV E))}, DRel E w G ds xs → DBd G.i.length (G.g.map (·.1)) xs
  | [], [], _ => trivial
  | _ :: _, _ :: _, h => ⟨by obtain ⟨cap, -, h2⟩ := h.1; exact h2.bd, DRel.bd h.2⟩
  | [], _ :: _, h => h.elim
  | _ :: _, [], h => h.elim
theorem DRel.reb {nb : Nat} {g0 : List TGrow} (hR : Reb G G2 nb g0) : ∀ {ds : List Deferred} {xs : List (FuncId × List (TV E))}, DRel E w G ds xs → DBd nb g0 xs → DRel E w G2 ds xs
  | [], [], _, _ => trivial
  | _ :: _, _ :: _, h, hb => ⟨by obtain ⟨cap, h1, h2⟩ := h.1; exact ⟨cap, h1, VTs.reb hR h2 hb.1⟩, DRel.reb hR h.2 hb.2⟩
  | [], _ :: _, h, _ => h.elim
  | _ :: _, [], h, _ => h.elim
end

/-- What is known of a state whenever it is met, whatever the world. -/
structure Pre (G0 : Ghost) (st : TS E) : Prop where
  nb : G0.i.length ≤ st.H.length
  rows : ∀ (j : Nat) x0 h0, G0.g[j]? = some (x0, h0) → ∃ x, st.g[j]? = some x ∧ x0.ver ≤ x.ver
  slots : ∀ (i : Nat) d, st.t[i]? = some d → d.Bd st.H.length st.g
  boxes : ∀ (r : Nat) x, st.H[r]? = some x → x.Bd st.H.length st.g
  defs : DBd st.H.length st.g st.df

section
variable {w0 w : World} {G0 G : Ghost} {st0 st : TS E} {a : Act}

theorem Goes.len {w1 w2 : World} {G1 G2 : Ghost} (h : Goes w1 G1 w2 G2) : G1.i.length ≤ G2.i.length := by
  by_cases h0 : G1.i.length = 0
  · omega
  · have hl : G1.i.length - 1 < G1.i.length := by omega
    have := (List.getElem?_eq_some_iff.1 (h.i _ _ (List.getElem?_eq_getElem hl))).1
    omega

theorem Rel.pre (h : Rel E w0 G0 st a w G) : Pre G0 st := by
  have hl := h.boxes.len
  have hg := h.boxes.gs
  refine ⟨by rw [← hl]; exact h.evol.goes.len, fun j x0 h0 hj => ?_, fun i d hi => ?_, fun r x hr => ?_, ?_⟩
  · obtain ⟨x', h', h1, h2, -⟩ := h.evol.goes.g j x0 h0 hj
    exact ⟨x', by rw [← hg]; simp [h1], h2⟩
  · have := (h.tmps i d hi).bd
    rw [hl, hg] at this
    exact this
  · have hlt : r < G.i.length := by rw [hl]; exact (List.getElem?_eq_some_iff.1 hr).1
    have := (h.boxes.box r _ x (List.getElem?_eq_getElem hlt) hr).bd
    rw [hl, hg] at this
    exact this
  · have := h.defers.bd
    rw [hl, hg] at this
    exact this

theorem dropT_length (W : List Nat) : ∀ (i : Nat) (l : List (TV E)), (dropT W i l).length = l.length
  | _, [] => rfl
  | i, d :: ds => by simp [dropT, dropT_length W (i + 1) ds]
theorem dropT_get (W : List Nat) : ∀ (i : Nat) (l : List (TV E)) (j : Nat) (d : TV E), (dropT W i l)[j]? = some d → d = .any ∨ ((i + j) ∉ W ∧ l[j]? = some d)
  | _, [], j, d, h => by simp [dropT] at h
  | i, x :: ds, 0, d, h => by
    simp only [dropT, List.getElem?_cons_zero, Option.some.injEq] at h
    cases hw : W.elem i <;> rw [hw] at h <;> simp only [cond_true, cond_false] at h
    · refine .inr ⟨fun hm => ?_, by simp [h]⟩
      rw [Nat.add_zero] at hm
      rw [List.elem_eq_true_of_mem hm] at hw; cases hw
    · exact .inl h.symm
  | i, x :: ds, j + 1, d, h => by
    have := dropT_get W (i + 1) ds j d (by simpa [dropT] using h)
    rw [Nat.add_right_comm, Nat.add_assoc] at this
    simpa using this

theorem placeV_ok {G2 : Ghost} {n n2 : Rn} (hL : Link w G n G2 n2) (ha : ∀ i, VT E w G (st.at i) (a.tmps.getD i undef)) : ∀ (vs : List (Nat × PT)) (t : List (TV E)) (ls rest : List (Lf E)), varsGet n st vs = some ls →
    (∀ (j : Nat) d, t[j]? = some d → VT E w G2 d (a.tmps.getD j undef)) →
    (placeV n2 vs t (ls ++ rest)).2 = rest ∧ (placeV n2 vs t (ls ++ rest)).1.length = t.length ∧ ∀ (j : Nat) d, (placeV n2 vs t (ls ++ rest)).1[j]? = some d → VT E w G2 d (a.tmps.getD j undef)
  | [], t, ls, rest, h, ht => by cases h; exact ⟨rfl, rfl, ht⟩
  | (i, p) :: vs, t, ls, rest, h, ht => by
    simp only [varsGet] at h
    split at h <;> try (cases h; done)
    rename_i l ls' h1 h2
    cases h
    obtain ⟨e1, e2⟩ := PT.sound hL (rest := ls' ++ rest) h1 (ha i)
    simp only [placeV, List.append_assoc, e1]
    obtain ⟨q1, q2, q3⟩ := placeV_ok hL ha vs (t.set i (p.put n2 (l ++ (ls' ++ rest))).1) ls' rest h2 (fun j d hj => by
      rw [List.getElem?_set] at hj
      by_cases hij : i = j
      · subst hij
        by_cases hlt : i < t.length
        · simp [hlt] at hj; subst hj; exact e2
        · simp [hlt] at hj
      · rw [if_neg hij] at hj; exact ht j d hj)
    exact ⟨q1, by simpa using q2, q3⟩

theorem boxesPut_ok {G2 : Ghost} {n n2 : Rn} (hL : Link w G n G2 n2) {D : List Nat} {nb : Nat} : ∀ (bs : List (Option BT)) (r : Nat) (H H0 : List (TBox E)) (is : List Nat) (ls rest : List (Lf E)), boxesGet n D nb r bs H = some ls →
    (∀ (q b : Nat) x, is[q]? = some b → H[q]? = some x → BoxOk E w G b x) → (∀ (q b : Nat) x, is[q]? = some b → r + q < nb → r + q ∉ D → H0[q]? = some x → BoxOk E w G2 b x) → nb ≤ r + H0.length →
    (boxesPut n2 bs H0 (ls ++ rest)).length = bs.length ∧ bs.length ≤ H.length ∧ ∀ (q b : Nat) x, is[q]? = some b → (boxesPut n2 bs H0 (ls ++ rest))[q]? = some x → BoxOk E w G2 b x
  | [], r, H, H0, is, ls, rest, h, hb, h0, hn => by
    simp [boxesPut]
  | none :: bs, r, x :: H, H0, is, ls, rest, h, hb, h0, hn => by
    simp only [boxesGet] at h
    cases hc : (D.elem r || !(Nat.blt r nb)) <;> rw [hc] at h <;> simp only [cond_true, cond_false] at h
    · rw [Bool.or_eq_false_iff] at hc
      have hlt : r < nb := by simpa using hc.2
      have hnd : r ∉ D := fun hm => by rw [List.elem_eq_true_of_mem hm] at hc; cases hc.1
      obtain ⟨y, H0', rfl⟩ : ∃ y H0', H0 = y :: H0' := by
        cases H0 with
        | nil => simp at hn; omega
        | cons y H0' => exact ⟨y, H0', rfl⟩
      obtain ⟨q1, q2, q3⟩ := boxesPut_ok hL bs (r + 1) H H0' is.tail ls rest h (fun q b z hq hz => hb (q + 1) b z (by cases is <;> simp_all) (by simpa using hz))
        (fun q b z hq h1 h2 hz => h0 (q + 1) b z (by cases is <;> simp_all) (by omega) (by rw [show r + (q + 1) = r + 1 + q by omega]; exact h2) (by simpa using hz)) (by simp at hn; omega)
      refine ⟨by simp [boxesPut, q1], by simpa using q2, fun q b z hq hz => ?_⟩
      cases q with
      | zero => simp [boxesPut] at hz; subst hz; exact h0 0 b y hq (by omega) (by simpa using hnd) (by simp)
      | succ q => exact q3 q b z (by cases is <;> simp_all) (by simpa [boxesPut] using hz)
    · cases h
  | some t :: bs, r, x :: H, H0, is, ls, rest, h, hb, h0, hn => by
    simp only [boxesGet] at h
    split at h <;> try (cases h; done)
    rename_i l ls' h1 h2
    cases h
    have hkey : ∀ b, is[0]? = some b → (t.put n2 (l ++ (ls' ++ rest))).2 = ls' ++ rest ∧ BoxOk E w G2 b (t.put n2 (l ++ (ls' ++ rest))).1 := fun b hb0 => BT.sound hL h1 (hb 0 b x hb0 (by simp))
    have hrest : (t.put n2 (l ++ (ls' ++ rest))).2 = ls' ++ rest := by
      -- what is left does not depend on the world
      have aux : ∀ (t : BT) (x : TBox E) (l rest : List (Lf E)), t.get n x = some l → (t.put n2 (l ++ rest)).2 = rest := by
        have auxC : ∀ (c : CT) (d : TV E) (l rest : List (Lf E)), c.get n d = some l → (c.put n2 (l ++ rest)).2 = rest := by
          intro c d l rest h
          unfold CT.get at h
          split at h <;> try (cases h; done)
          · split at h <;> cases h; rfl
          · cases h; rfl
          · split at h <;> try (cases h; done)
            rename_i r off r' off' _ r'' _
            cases hb : nat2 r'' r' off off' <;> rw [hb] at h <;> cases h; rfl
          · split at h <;> try (cases h; done)
            rename_i r off bb r' off' _ r'' _
            cases hb : nat2 r'' r' off off' <;> rw [hb] at h <;> cases h; rfl
          · split at h <;> try (cases h; done)
            rename_i r off r' off' _ r'' _
            cases hb : nat2 r'' r' off off' <;> rw [hb] at h <;> cases h; rfl
          · cases h; rfl
          · split at h <;> try (cases h; done)
            rename_i r r' _ r'' _
            cases hb : Nat.beq r'' r' <;> rw [hb] at h <;> cases h; rfl
          · split at h <;> try (cases h; done)
            split at h <;> try (cases h; done)
            rename_i j t j' ver t' xs _ _ j'' vv _ _ ht
            cases hb : nat2 j'' j' vv ver <;> rw [hb] at h <;> cases h; rfl
          · rename_i f caps f' cs
            cases hb : (Nat.beq f f' && capsOk n caps cs) <;> rw [hb] at h <;> cases h; rfl
          · split at h <;> try (cases h; done)
            rename_i k u _ k' _
            cases hb : decide (k = k') <;> rw [hb] at h <;> cases h; rfl
          · split at h <;> try (cases h; done)
            rename_i t off t' y off' ht
            cases hb : Nat.beq off off' <;> rw [hb] at h <;> cases h; rfl
          · split at h <;> try (cases h; done)
            rename_i ty t ty' d' _ x _
            cases hb : Nat.beq ty ty' <;> rw [hb] at h <;> cases h; rfl
        have auxL : ∀ (cs : List CT) (ds : List (TV E)) (l rest : List (Lf E)), CT.getL n cs ds = some l → (CT.putL n2 cs (l ++ rest)).2 = rest := by
          intro cs
          induction cs with
          | nil => intro ds l rest h; cases ds <;> cases h; rfl
          | cons c cs ih =>
            intro ds l rest h
            cases ds with
            | nil => cases h
            | cons d ds =>
              simp only [CT.getL] at h
              split at h <;> try (cases h; done)
              rename_i l1 l2 h1 h2
              cases h
              simp only [CT.putL, List.append_assoc, auxC c d l1 (l2 ++ rest) h1, ih ds l2 rest h2]
        intro t x l rest h
        unfold BT.get at h
        split at h <;> try (cases h; done)
        · rename_i ty cs ty' ds
          cases hb : Nat.beq ty ty' <;> rw [hb] at h <;> simp only [cond_true, cond_false] at h
          · cases h
          exact auxL cs ds l rest h
        · split at h <;> cases h; rfl
        · cases h; rfl
      exact aux t x l (ls' ++ rest) h1
    obtain ⟨q1, q2, q3⟩ := boxesPut_ok hL bs (r + 1) H H0.tail is.tail ls' rest h2 (fun q b z hq hz => hb (q + 1) b z (by cases is <;> simp_all) (by simpa using hz))
      (fun q b z hq h1 h2 hz => h0 (q + 1) b z (by cases is <;> simp_all) (by omega) (by rw [show r + (q + 1) = r + 1 + q by omega]; exact h2) (by cases H0 <;> simp_all)) (by cases H0 <;> simp_all <;> omega)
    refine ⟨by simp only [boxesPut, List.append_assoc, hrest, List.length_cons, q1], by simpa using q2, fun q b z hq hz => ?_⟩
    cases q with
    | zero =>
      simp only [boxesPut, List.append_assoc, List.getElem?_cons_zero, Option.some.injEq] at hz
      subst hz
      exact (hkey b hq).2
    | succ q =>
      refine q3 q b z (by cases is <;> simp_all) ?_
      simpa only [boxesPut, List.append_assoc, hrest, List.getElem?_cons_succ] using hz
  | none :: bs, r, [], H0, is, ls, rest, h, hb, h0, hn => by cases h
  | some _ :: bs, r, [], H0, is, ls, rest, h, hb, h0, hn => by cases h

theorem boxesGet_none {n : Rn} {D : List Nat} {nb : Nat} : ∀ (bs : List (Option BT)) (r : Nat) (H : List (TBox E)) (ls : List (Lf E)), boxesGet n D nb r bs H = some ls → ∀ q, q < bs.length → r + q ∉ chg r bs → r + q ∉ D
  | [], r, H, ls, _, q, hq, _ => by simp at hq
  | none :: bs, r, x :: H, ls, h, q, hq, hc => by
    simp only [boxesGet] at h
    cases hb : (D.elem r || !(Nat.blt r nb)) <;> rw [hb] at h <;> simp only [cond_true, cond_false] at h
    · rw [Bool.or_eq_false_iff] at hb
      cases q with
      | zero => intro hm; rw [Nat.add_zero] at hm; rw [List.elem_eq_true_of_mem hm] at hb; cases hb.1
      | succ q =>
        have := boxesGet_none bs (r + 1) H ls h q (by simpa using hq) (by rw [show r + 1 + q = r + (q + 1) by omega]; exact hc)
        rw [show r + 1 + q = r + (q + 1) by omega] at this
        exact this
    · cases h
  | some t :: bs, r, x :: H, ls, h, q, hq, hc => by
    simp only [boxesGet] at h
    split at h <;> try (cases h; done)
    rename_i l ls' h1 h2
    cases q with
    | zero => exact (hc (by simp [chg])).elim
    | succ q =>
      have := boxesGet_none bs (r + 1) H ls' h2 q (by simpa using hq) (by rw [show r + 1 + q = r + (q + 1) by omega]; exact fun hm => hc (by simp [chg, hm]))
      rw [show r + 1 + q = r + (q + 1) by omega] at this
      exact this
  | none :: bs, r, [], ls, h, _, _, _ => by cases h
  | some _ :: bs, r, [], ls, h, _, _, _ => by cases h
end

end Go.RT
/-
  RT, part 26: a state behind a cut.
-/
namespace Go.RT
set_option linter.unusedVariables false

variable {E : TEnv}
section
variable {w0 w : World} {G0 G : Ghost} {st0 st : TS E} {a : Act}

theorem range_get {n r r' : Nat} (h : (List.range n)[r]? = some r') : r' = r ∧ r < n := by
  obtain ⟨h1, h2⟩ := List.getElem?_eq_some_iff.1 h
  simp at h1 h2
  exact ⟨h2.symm, h1⟩

theorem Rel.at (h : Rel E w0 G0 st a w G) (i : Nat) : VT E w G (st.at i) (a.tmps.getD i undef) := h.ev (.tmp i)

theorem Rel.cut {c : Cut} {W : List Nat} {ls : List (Lf E)} (hp : Pre G0 st0) (hr : Rel E w0 G0 st a w G) (ht : st.t.length = st0.t.length) (hk : ∀ i, i ∉ W → st.t[i]? = st0.t[i]?)
    {D : List Nat} (hD : st.d = D ++ st0.d) (hH : ∀ r, r < st0.H.length → r ∉ D → st.H[r]? = st0.H[r]?) (hdf : st.df = st0.df) (h : c.leaves st0 st = some ls) :
    ∃ G2, Rel E w0 G0 (c.unpack W st0 ls) a w G2 ∧ Link w G ⟨List.range c.boxes.length, List.range c.rows.length, st.g.map (·.ver)⟩ G2 ⟨List.range c.boxes.length, List.range c.rows.length, (newRows c.rows st0.g).map (·.ver)⟩ := by
  unfold Cut.leaves at h
  cases hc : (Nat.ble st0.H.length c.boxes.length && (Nat.ble st0.g.length c.rows.length && rowsOk c.rows st0.g st.g)) <;> rw [hc] at h <;> simp only [cond_true, cond_false] at h
  · cases h
  simp only [Bool.and_eq_true] at hc
  obtain ⟨hb1, hg1, hro⟩ := hc
  have hb1 := Nat.le_of_ble_eq_true hb1
  have hg1 := Nat.le_of_ble_eq_true hg1
  rw [hD, since_app] at h
  split at h <;> try (cases h; done)
  rename_i la lb hla hlb
  cases h
  have hgs := hr.boxes.gs
  rw [← hgs] at hro
  obtain ⟨n1, n2, n3, n4⟩ := newG_spec c.rows st0.g G.g hro
  let G2 : Ghost := ⟨G.i.take c.boxes.length, newG c.rows st0.g G.g, G.pr⟩
  have hlen := hr.boxes.len
  -- rows behind the cut
  have hback : ∀ (j : Nat) y2, (newG c.rows st0.g G.g)[j]? = some y2 → ∃ y, G.g[j]? = some y ∧ y2.2 = y.2 ∧ y2.1.e = y.1.e ∧ y2.1.k = y.1.k ∧ ∀ x0, st0.g[j]? = some x0 → y2.1.ver = y.1.ver ∨ x0.ver < y2.1.ver := by
    intro j y2 hj
    have hjl : j < c.rows.length := by rw [← n2]; exact (List.getElem?_eq_some_iff.1 hj).1
    have hjg : j < G.g.length := by omega
    obtain ⟨z, hz, e1, e2, e3, e4⟩ := n4 j G.g[j] (List.getElem?_eq_getElem hjg) hjl
    rw [hj] at hz
    cases hz
    exact ⟨_, List.getElem?_eq_getElem hjg, e1, e2, e3, e4⟩
  have hReb : Reb G G2 st0.H.length st0.g := by
    refine ⟨fun _ _ h => h, fun r b hr' hb => ?_, fun j x0 x hd hx0 hj => ?_⟩
    · show (G.i.take c.boxes.length)[r]? = some b
      rw [List.getElem?_take, if_pos (by omega)]; exact hb
    · have hjl : j < c.rows.length := by
        have := (List.getElem?_eq_some_iff.1 hx0).1; omega
      obtain ⟨y2, hy, e1, -, -, e4⟩ := n4 j (x, hd) hj hjl
      refine ⟨y2.1, ?_, e4 x0 hx0⟩
      show (newG c.rows st0.g G.g)[j]? = _
      rw [hy]; simp only at e1; rw [← e1]
  have hvers : ∀ (j v : Nat), ((newRows c.rows st0.g).map (·.ver))[j]? = some v ↔ ∃ y2, (newG c.rows st0.g G.g)[j]? = some y2 ∧ y2.1.ver = v := by
    intro j v
    rw [← n1]
    simp [List.getElem?_map]
  have hLink : Link w G ⟨List.range c.boxes.length, List.range c.rows.length, st.g.map (·.ver)⟩ G2 ⟨List.range c.boxes.length, List.range c.rows.length, (newRows c.rows st0.g).map (·.ver)⟩ := by
    refine ⟨fun _ _ h => h, fun r r' b h1 h2 => ?_, fun j j' v x hd h1 h2 h3 => ?_⟩
    · obtain ⟨rfl, hlt⟩ := range_get h1
      refine ⟨r', h1, ?_⟩
      show (G.i.take c.boxes.length)[r']? = some b
      rw [List.getElem?_take, if_pos hlt]; exact h2
    · obtain ⟨rfl, hlt⟩ := range_get h1
      have hxv : x.ver = v := by
        have h2' : (st.g.map (·.ver))[j']? = some v := h2
        rw [← hgs, List.map_map, List.getElem?_map, h3] at h2'
        simpa using h2'
      obtain ⟨y2, hy, e1, -, -, -⟩ := n4 j' (x, hd) h3 hlt
      refine ⟨hxv, j', y2.1.ver, y2.1, h1, (hvers j' _).2 ⟨y2, hy, rfl⟩, ?_, rfl⟩
      show (newG c.rows st0.g G.g)[j']? = _
      rw [hy]; simp only at e1; rw [← e1]
  -- slots
  have hslots : ∀ (j : Nat) d, (dropT W 0 st0.t)[j]? = some d → VT E w G2 d (a.tmps.getD j undef) := by
    intro j d hj
    rcases dropT_get W 0 st0.t j d hj with rfl | ⟨hnw, hj'⟩
    · simp only [VT]
    · rw [Nat.zero_add] at hnw
      have := hr.tmps j d (by rw [hk j hnw]; exact hj')
      exact VT.reb hReb this (hp.slots j d hj')
  obtain ⟨p1, p2, p3⟩ := placeV_ok hLink hr.at c.vars (dropT W 0 st0.t) la lb hla hslots
  obtain ⟨q1, q2, q3⟩ := boxesPut_ok hLink c.boxes 0 st.H st0.H G.i lb [] hlb (fun q b x hq hx => hr.boxes.box q b x hq hx) (fun q b x hq h1 h2 hx => by
    rw [Nat.zero_add] at h1 h2
    have hx' : st.H[q]? = some x := by rw [hH q h1 h2]; exact hx
    exact BoxOk.reb hReb (hr.boxes.box q b x hq hx') (hp.boxes q x hx)) (by simp)
  rw [List.append_nil] at q1 q3
  have ev := hr.evol
  have hG0 : ∀ (r b : Nat), (G.i.take c.boxes.length)[r]? = some b → G.i[r]? = some b := fun r b hb => by
    have hlt := (List.getElem?_eq_some_iff.1 hb).1
    rw [List.length_take] at hlt
    rw [List.getElem?_take, if_pos (by omega)] at hb
    exact hb
  have hmem : ∀ b, b ∈ G.i.take c.boxes.length → b ∈ G.i := fun b hb => List.mem_of_mem_take hb
  refine ⟨G2, ⟨⟨ev.os, ev.tape, ev.output, ev.size, ev.old, ⟨ev.goes.pr, ev.goes.cells, fun r b hb => ?_, fun j x0 hd hj => ?_⟩, ev.prold, fun r b h1 h2 => ev.newB r b h1 (hG0 r b h2), fun j x hd b hj hb => ?_⟩, ?_, ?_, ?_, ?_, fun r b hb hd => ?_, hr.pins⟩, hLink⟩
  · show (G.i.take c.boxes.length)[r]? = some b
    have hlt := (List.getElem?_eq_some_iff.1 hb).1
    have := hp.nb
    rw [List.getElem?_take, if_pos (by omega)]
    exact ev.goes.i r b hb
  · obtain ⟨x', hd', h1, h2, h3⟩ := ev.goes.g j x0 hd hj
    obtain ⟨xp, hxp, hle⟩ := hp.rows j x0 hd hj
    obtain ⟨x2, h4, h5⟩ := hReb.g j xp x' hd' hxp h1
    refine ⟨x2, hd', h4, ?_, fun e => ?_⟩
    · rcases h5 with h5 | h5 <;> omega
    · rcases h5 with h5 | h5
      · exact h3 (by omega)
      · omega
  · obtain ⟨y, hy, e1, -⟩ := hback j (x, hd) hj
    simp only at e1
    subst e1
    exact ev.newG j y.1 y.2 b hy hb
  · show a.tmps.size = ((placeV _ c.vars (dropT W 0 st0.t) (la ++ lb)).1).length
    rw [p2, dropT_length, ← ht]; exact hr.size
  · exact p3
  · show DRel E w G2 a.defers st0.df
    rw [← hdf]
    exact DRel.reb hReb hr.defers (by rw [hdf]; exact hp.defs)
  · refine ⟨?_, n1, fun r b x hb hx => ?_, fun b hb => hr.boxes.lt b (hmem b hb), (List.take_sublist _ _).nodup hr.boxes.nodup, fun b o hpr => ⟨(hr.boxes.prok b o hpr).1, fun hm => (hr.boxes.prok b o hpr).2 (hmem b hm)⟩, fun j x hd hj => ?_,
      fun j j' x hd x' hd' b hj hj' hb hb' => ?_, hr.boxes.glob⟩
    · show (G.i.take c.boxes.length).length = (boxesPut _ c.boxes st0.H (placeV _ c.vars (dropT W 0 st0.t) (la ++ lb)).2).length
      rw [p1, q1, List.length_take, hlen]; omega
    · have hx : (boxesPut _ c.boxes st0.H (placeV _ c.vars (dropT W 0 st0.t) (la ++ lb)).2)[r]? = some x := hx
      rw [p1] at hx
      exact q3 r b x (hG0 r b hb) hx
    · obtain ⟨y, hy, e1, e2, e3, -⟩ := hback j (x, hd) hj
      simp only at e1 e2 e3
      subst e1
      obtain ⟨n, xs, g1, g2, g3⟩ := hr.boxes.grow j y.1 y.2 hy
      refine ⟨n, xs, by rw [e2, e3]; exact g1, g2, fun b hb => ?_⟩
      obtain ⟨k1, k2, k3⟩ := g3 b hb
      exact ⟨k1, fun hm => k2 (hmem b hm), by rw [e3]; exact k3⟩
    · obtain ⟨y, hy, e1, -⟩ := hback j (x, hd) hj
      obtain ⟨y', hy', e1', -⟩ := hback j' (x', hd') hj'
      simp only at e1 e1'
      subst e1; subst e1'
      exact hr.boxes.apart j j' y.1 y.2 y'.1 y'.2 b hy hy' hb hb'
  · refine hr.fix r b hb ?_
    have hd : r ∉ chg 0 c.boxes ++ st0.d := hd
    rw [List.mem_append, not_or] at hd
    rw [hD, List.mem_append, not_or]
    refine ⟨?_, hd.2⟩
    have hlt := (List.getElem?_eq_some_iff.1 hb).1
    have := hp.nb
    have := boxesGet_none c.boxes 0 st.H lb hlb r (by omega) (by rw [Nat.zero_add]; exact hd.1)
    rwa [Nat.zero_add] at this
end

end Go.RT
/-
  RT, part 27: contracts; shapes seen in two numberings.
-/
namespace Go.RT
set_option linter.unusedVariables false

variable {E : TEnv}

def Invokes (P : Program) (f : FuncId) (args : Array Value) (w : World) (R : Ending → World → Prop) : Prop :=
  match (callFunc f args).run P w with
  | .ok (.enter f' args') w' => Calls P f' args' w' R
  | .ok (.value v) w' => R (.returned v) w'
  | _ => False

def endOf (ok : Bool) (v : Value) : Ending := cond ok (.returned v) (.panicked [{ v := v, recovered := false }])

/-- What a call comes to: a value or a panic, boxes, rows; the boxes that may have been written. -/
structure ARes (E : TEnv) where
  ok : Bool
  d : TV E
  H : List (TBox E)
  g : List TGrow
  D : List Nat

def ACalls (P : Program) (f : FuncId) (ds : List (TV E)) (H : List (TBox E)) (gs : List TGrow) (r : ARes E) : Prop :=
  ∀ (w : World) (G : Ghost) (args : Array Value), Pins E w G → Boxes E w G H gs → VTs E w G ds args.toList → Invokes P f args w fun e w' =>
    ∃ v G', e = endOf r.ok v ∧ Evol w G w' G' ∧ Boxes E w' G' r.H r.g ∧ VT E w' G' r.d v ∧ ∀ (q b : Nat), G.i[q]? = some b → q ∉ r.D → w'.heap[b]? = w.heap[b]?

/-- What a call's end looks like. -/
structure Outs where
  res : PT
  boxes : List (Option BT)
  rows : List (Option (TypeId × Nat))
def Outs.tys (o : Outs) : List Ty := o.res.tys ++ boxesTys o.boxes

/-- The shape of a contract. -/
structure Shp where
  f : FuncId
  args : List PT
  boxes : List BT
  rows : List (TypeId × Nat)
  out : Outs
  pan : Option Outs

def ptsTys : List PT → List Ty
  | [] => []
  | p :: ps => p.tys ++ ptsTys ps
def btsTys : List BT → List Ty
  | [] => []
  | b :: bs => b.tys ++ btsTys bs
def Shp.tys (s : Shp) : List Ty := ptsTys s.args ++ btsTys s.boxes
@[reducible] def OutP (E : TEnv) (o : Outs) : Option Outs → Type
  | none => dens E o.tys
  | some q => dens E o.tys ⊕ dens E q.tys
structure Ctr (E : TEnv) where
  s : Shp
  m : dens E s.tys → Option (OutP E s.out s.pan)

def ptsGet (n : Rn) : List PT → List (TV E) → Option (List (Lf E))
  | [], [] => some []
  | p :: ps, d :: ds => match p.get n d, ptsGet n ps ds with
    | some l, some ls => some (l ++ ls)
    | _, _ => none
  | _, _ => none
def ptsPut (n : Rn) : List PT → List (Lf E) → List (TV E) × List (Lf E)
  | [], ls => ([], ls)
  | p :: ps, ls => ((p.put n ls).1 :: (ptsPut n ps (p.put n ls).2).1, (ptsPut n ps (p.put n ls).2).2)
def btsGet (n : Rn) : List BT → List (TBox E) → Option (List (Lf E))
  | [], [] => some []
  | t :: ts, x :: xs => match t.get n x, btsGet n ts xs with
    | some l, some ls => some (l ++ ls)
    | _, _ => none
  | _, _ => none
def btsPut (n : Rn) : List BT → List (Lf E) → List (TBox E) × List (Lf E)
  | [], ls => ([], ls)
  | t :: ts, ls => ((t.put n ls).1 :: (btsPut n ts (t.put n ls).2).1, (btsPut n ts (t.put n ls).2).2)

def Shp.g0 (s : Shp) : List TGrow := s.rows.map fun p => ⟨0, p.1, p.2⟩
def Shp.n0 (s : Shp) : Rn := ⟨List.range s.boxes.length, List.range s.rows.length, s.g0.map (·.ver)⟩
def Shp.ds (s : Shp) (ls : List (Lf E)) : List (TV E) := (ptsPut s.n0 s.args ls).1
def Shp.H (s : Shp) (ls : List (Lf E)) : List (TBox E) := (btsPut s.n0 s.boxes (ptsPut s.n0 s.args ls).2).1
/-- The numbering at a call's end. -/
def Outs.n1 (o : Outs) (g : List TGrow) : Rn := ⟨List.range o.boxes.length, List.range o.rows.length, (newRows o.rows g).map (·.ver)⟩
def Outs.ares (o : Outs) (ok : Bool) (H0 : List (TBox E)) (g : List TGrow) (ls : List (Lf E)) : ARes E :=
  ⟨ok, (o.res.put (o.n1 g) ls).1, boxesPut (o.n1 g) o.boxes H0 (o.res.put (o.n1 g) ls).2, newRows o.rows g, chg 0 o.boxes⟩
def outP (s : Shp) (H0 : List (TBox E)) : (p : Option Outs) → OutP E s.out p → ARes E
  | none, y => s.out.ares true H0 s.g0 (putAll s.out.tys y)
  | some _, .inl y => s.out.ares true H0 s.g0 (putAll s.out.tys y)
  | some q, .inr y => q.ares false H0 s.g0 (putAll q.tys y)
def Ctr.Ok (P : Program) (C : Ctr E) : Prop :=
  ∀ x y, C.m x = some y → ACalls P C.s.f (C.s.ds (putAll C.s.tys x)) (C.s.H (putAll C.s.tys x)) C.s.g0 (outP C.s (C.s.H (putAll C.s.tys x)) C.s.pan y)

/-- Two numberings of one shape. -/
structure Link2 (w : World) (G : Ghost) (n : Rn) (G2 : Ghost) (n2 : Rn) : Prop extends Link w G n G2 n2 where
  lb : n2.b.length ≤ n.b.length
  lg : n2.g.length ≤ n.g.length
  lv : n2.v.length ≤ n.v.length

theorem CT.put_rest (n n2 : Rn) (c : CT) (ls : List (Lf E)) : (c.put n ls).2 = (c.put n2 ls).2 := by
  cases c <;> cases ls <;> rfl
theorem CT.putL_rest (n n2 : Rn) : ∀ (cs : List CT) (ls : List (Lf E)), (CT.putL n cs ls).2 = (CT.putL n2 cs ls).2
  | [], ls => rfl
  | c :: cs, ls => by simp only [CT.putL]; rw [CT.put_rest n n2 c ls]; exact CT.putL_rest n n2 cs _
theorem PT.put_rest (n n2 : Rn) (p : PT) (ls : List (Lf E)) : (p.put n ls).2 = (p.put n2 ls).2 := by
  cases p with
  | one c => exact CT.put_rest n n2 c ls
  | agg cs => exact CT.putL_rest n n2 cs ls
  | tup cs => exact CT.putL_rest n n2 cs ls
theorem BT.put_rest (n n2 : Rn) (t : BT) (ls : List (Lf E)) : (t.put n ls).2 = (t.put n2 ls).2 := by
  cases t with
  | cells ty cs => exact CT.putL_rest n n2 cs ls
  | map kt vt => cases ls <;> rfl
  | iter => cases ls with | nil => rfl | cons l ls => cases ls <;> rfl

section
variable {w : World} {G G2 : Ghost} {n n2 : Rn}

theorem getElem?_none_of {α β : Type} {l : List α} {m : List β} {r : Nat} (h : l[r]? = none) (hl : m.length ≤ l.length) : m[r]? = none := by
  rw [List.getElem?_eq_none_iff] at h ⊢
  omega

theorem caps_move (hL : Link2 w G n G2 n2) : ∀ (caps : List (Nat × Nat)) {vs : List Value}, VTs E w G (capsPut n caps : List (TV E)) vs → VTs E w G2 (capsPut n2 caps : List (TV E)) vs
  | [], vs, h => by simp only [capsPut, VTs] at h ⊢; exact h
  | (r, off) :: caps, vs, h => by
    simp only [capsPut] at h ⊢
    obtain ⟨u, us, rfl, h1, h2⟩ := h.cons_inv
    refine .cons ?_ (caps_move hL caps h2)
    cases hr : n.b[r]? with
    | none => rw [getElem?_none_of hr hL.lb]; simp only [VT]
    | some r' =>
      rw [hr] at h1
      simp only [VT] at h1
      obtain ⟨b, rfl, hb⟩ := h1
      obtain ⟨r2, hr2, hb2⟩ := hL.i r r' b hr hb
      rw [hr2]
      simp only [VT]
      exact ⟨b, rfl, hb2⟩

theorem CT.move (hL : Link2 w G n G2 n2) (c : CT) (ls : List (Lf E)) {v : Value} (h : VT E w G (c.put n ls).1 v) : VT E w G2 (c.put n2 ls).1 v := by
  cases c with
  | dat t => cases ls with
    | nil => simp only [CT.put, VT]
    | cons l ls => exact VT.dat_pr h hL.pr
  | any => simp only [CT.put, VT]
  | ptr r off =>
    simp only [CT.put] at h ⊢
    cases hr : n.b[r]? with
    | none => rw [getElem?_none_of hr hL.lb]; simp only [VT]
    | some r' =>
      rw [hr] at h
      simp only [VT] at h
      obtain ⟨b, rfl, hb⟩ := h
      obtain ⟨r2, hr2, hb2⟩ := hL.i r r' b hr hb
      rw [hr2]
      simp only [VT]
      exact ⟨b, rfl, hb2⟩
  | optr r off =>
    cases ls with
    | nil => simp only [CT.put, VT]
    | cons l ls =>
      simp only [CT.put] at h ⊢
      cases hr : n.b[r]? with
      | none => rw [getElem?_none_of hr hL.lb]; simp only [VT]
      | some r' =>
        rw [hr] at h
        obtain ⟨t, x⟩ := l
        cases hn : n2.b[r]? with
        | none => simp only [VT]
        | some r2' =>
          cases t <;> try (simp only [VT]; done)
          cases x <;> simp only [VT] at h ⊢
          · exact h
          · obtain ⟨b, rfl, hb⟩ := h
            obtain ⟨r2, hr2, hb2⟩ := hL.i r r' b hr hb
            rw [hn] at hr2
            cases hr2
            exact ⟨b, rfl, hb2⟩
  | mref r =>
    simp only [CT.put] at h ⊢
    cases hr : n.b[r]? with
    | none => rw [getElem?_none_of hr hL.lb]; simp only [VT]
    | some r' =>
      rw [hr] at h
      simp only [VT] at h
      obtain ⟨b, rfl, hb⟩ := h
      obtain ⟨r2, hr2, hb2⟩ := hL.i r r' b hr hb
      rw [hr2]
      simp only [VT]
      exact ⟨b, rfl, hb2⟩
  | gsl j t =>
    cases ls with
    | nil => simp only [CT.put, VT]
    | cons l ls =>
      simp only [CT.put] at h ⊢
      cases hj : n.g[j]? with
      | none => rw [getElem?_none_of hj hL.lg]; simp only [VT]
      | some j' =>
        cases hvj : n.v[j]? with
        | none =>
          rw [getElem?_none_of hvj hL.lv]
          cases n2.g[j]? <;> simp only [VT]
        | some vv =>
          rw [hj, hvj] at h
          obtain ⟨t', x⟩ := l
          cases t' with
          | lst t' =>
            simp only [VT] at h
            obtain ⟨hvd, x1, h1, hg, hle, heq⟩ := h
            obtain ⟨hxv, j2, v2, x2, q1, q2, q3, q4⟩ := hL.g j j' vv x1 h1 hj hvj hg
            rw [q1, q2]
            simp only [VT]
            exact ⟨hvd.mono hL.pr (fun _ _ _ _ h => h), x2, h1, q3, by omega, fun _ => heq hxv.symm⟩
          | _ => cases n2.g[j]? <;> cases n2.v[j]? <;> simp only [VT]
  | func f caps =>
    simp only [CT.put, VT] at h ⊢
    obtain ⟨vs, rfl, h⟩ := h
    exact ⟨vs, rfl, caps_move hL caps h⟩
  | nil k => simpa only [CT.put, VT] using h
  | cel t off => cases ls with
    | nil => simp only [CT.put, VT]
    | cons l ls =>
      simp only [CT.put, VT] at h ⊢
      obtain ⟨b, o, c, rfl, h1, h2⟩ := h
      exact ⟨b, o, c, rfl, h1.mono hL.pr (fun _ _ _ _ h => h), fun l u hl => ⟨hL.pr _ _ (h2 l u hl).1, (h2 l u hl).2⟩⟩
  | iface ty t => cases ls with
    | nil => simp only [CT.put, VT]
    | cons l ls =>
      simp only [CT.put] at h ⊢
      rw [VT.eq_def] at h ⊢
      obtain ⟨u, rfl, h⟩ := h
      exact ⟨u, rfl, VT.dat_pr h hL.pr⟩
theorem CT.moveL (hL : Link2 w G n G2 n2) : ∀ (cs : List CT) (ls : List (Lf E)) {vs : List Value}, VTs E w G (CT.putL n cs ls).1 vs → VTs E w G2 (CT.putL n2 cs ls).1 vs
  | [], ls, vs, h => by simp only [CT.putL, VTs] at h ⊢; exact h
  | c :: cs, ls, vs, h => by
    simp only [CT.putL] at h ⊢
    obtain ⟨u, us, rfl, h1, h2⟩ := h.cons_inv
    refine .cons (CT.move hL c ls h1) ?_
    rw [CT.put_rest n2 n]
    exact CT.moveL hL cs _ h2
theorem PT.move (hL : Link2 w G n G2 n2) (p : PT) (ls : List (Lf E)) {v : Value} (h : VT E w G (p.put n ls).1 v) : VT E w G2 (p.put n2 ls).1 v := by
  cases p with
  | one c => exact CT.move hL c ls h
  | agg cs =>
    simp only [PT.put, VT] at h ⊢
    obtain ⟨vs, rfl, h1, h⟩ := h
    exact ⟨vs, rfl, h1, CT.moveL hL cs ls h⟩
  | tup cs =>
    simp only [PT.put, VT] at h ⊢
    obtain ⟨vs, rfl, h⟩ := h
    exact ⟨vs, rfl, CT.moveL hL cs ls h⟩
theorem BT.move (hL : Link2 w G n G2 n2) (t : BT) (ls : List (Lf E)) {b : Nat} (h : BoxOk E w G b (t.put n ls).1) : BoxOk E w G2 b (t.put n2 ls).1 := by
  cases t with
  | cells ty cs =>
    obtain ⟨vs, h1, h2, h3⟩ := h
    exact ⟨vs, h1, h2, CT.moveL hL cs ls h3⟩
  | map kt vt => cases ls with
    | nil => exact h
    | cons l ls =>
      obtain ⟨t, x⟩ := l
      simp only [BT.put] at h ⊢
      split at h
      · rename_i kt' vt' m heq
        obtain ⟨es, clock, h1, h2, h3⟩ := h
        cases heq
        exact ⟨es, clock, h1, h2, h3.pr hL.pr⟩
      · exact h
  | iter => cases ls with
    | nil => exact h
    | cons l ls => cases ls with
      | nil => exact h
      | cons l' ls =>
        simp only [BT.put] at h ⊢
        split at h <;> exact h
end

end Go.RT
/-
  RT, part 28: a call seen from the caller: what the callee sees, and the state behind the call.
-/
namespace Go.RT
set_option linter.unusedVariables false

variable {E : TEnv}

def nodupN : List Nat → Bool
  | [] => true
  | x :: xs => !(xs.elem x) && nodupN xs
theorem nodupN_ok : ∀ {l : List Nat}, nodupN l = true → l.Nodup
  | [], _ => List.nodup_nil
  | x :: xs, h => by
    simp only [nodupN, Bool.and_eq_true, Bool.not_eq_true'] at h
    refine List.nodup_cons.2 ⟨fun hm => ?_, nodupN_ok h.2⟩
    rw [List.elem_eq_true_of_mem hm] at h; cases h.1

def pick {α : Type} (l : List α) : List Nat → Option (List α)
  | [] => some []
  | i :: is => match l[i]?, pick l is with
    | some x, some xs => some (x :: xs)
    | _, _ => none
theorem pick_get {α : Type} {l : List α} : ∀ {is : List Nat} {xs : List α}, pick l is = some xs → xs.length = is.length ∧ ∀ (r i : Nat), is[r]? = some i → ∃ x, xs[r]? = some x ∧ l[i]? = some x
  | [], xs, h => by cases h; exact ⟨rfl, fun r i hr => by simp at hr⟩
  | i :: is, xs, h => by
    simp only [pick] at h
    split at h <;> try (cases h; done)
    rename_i x ys h1 h2
    cases h
    obtain ⟨q1, q2⟩ := pick_get h2
    refine ⟨by simp [q1], fun r k hr => ?_⟩
    cases r with
    | zero => simp at hr; subst hr; exact ⟨x, rfl, h1⟩
    | succ r => simpa using q2 r k (by simpa using hr)
theorem pick_of {α β : Type} {l : List α} {m : List β} (hl : l.length = m.length) : ∀ {is : List Nat} {xs : List α}, pick l is = some xs → ∃ ys, pick m is = some ys
  | [], xs, h => ⟨[], rfl⟩
  | i :: is, xs, h => by
    simp only [pick] at h
    split at h <;> try (cases h; done)
    rename_i x ys h1 h2
    obtain ⟨zs, hz⟩ := pick_of hl h2
    have hi : i < m.length := by rw [← hl]; exact (List.getElem?_eq_some_iff.1 h1).1
    exact ⟨m[i] :: zs, by simp only [pick, hz, List.getElem?_eq_getElem hi]⟩

def rowsSame : List (TypeId × Nat) → List TGrow → Bool
  | [], [] => true
  | p :: ps, x :: xs => (Nat.beq p.1 x.e && Nat.beq p.2 x.k) && rowsSame ps xs
  | _, _ => false
theorem rowsSame_ok : ∀ {ps : List (TypeId × Nat)} {xs : List TGrow}, rowsSame ps xs = true → ps.length = xs.length ∧ ∀ (j : Nat) p x, ps[j]? = some p → xs[j]? = some x → p.1 = x.e ∧ p.2 = x.k
  | [], [], _ => ⟨rfl, fun j p x h => by simp at h⟩
  | p :: ps, x :: xs, h => by
    simp only [rowsSame, Bool.and_eq_true] at h
    obtain ⟨q1, q2⟩ := rowsSame_ok h.2
    refine ⟨by simp [q1], fun j p' x' hp hx => ?_⟩
    cases j with
    | zero => simp at hp hx; subst hp; subst hx; exact ⟨Nat.eq_of_beq_eq_true h.1.1, Nat.eq_of_beq_eq_true h.1.2⟩
    | succ j => exact q2 j p' x' (by simpa using hp) (by simpa using hx)
  | [], _ :: _, h => by cases h
  | _ :: _, [], h => by cases h

/-- What the callee is given: the leaves. -/
def Shp.enter (s : Shp) (bs gs : List Nat) (st : TS E) (ds : List (TV E)) : Option (List (Lf E)) :=
  match pick st.H bs, pick st.g gs with
  | some H, some g => cond (nodupN bs && (nodupN gs && (Nat.beq bs.length s.boxes.length && rowsSame s.rows g)))
      (match ptsGet ⟨bs, gs, g.map (·.ver)⟩ s.args ds, btsGet ⟨bs, gs, g.map (·.ver)⟩ s.boxes H with
        | some a, some b => some (a ++ b)
        | _, _ => none) none
  | _, _ => none

section
variable {w : World} {G G2 : Ghost} {n n2 : Rn}
theorem ptsSound (hL : Link w G n G2 n2) : ∀ {ps : List PT} {ds : List (TV E)} {ls rest : List (Lf E)} {vs : List Value}, ptsGet n ps ds = some ls → VTs E w G ds vs →
    (ptsPut n2 ps (ls ++ rest)).2 = rest ∧ VTs E w G2 (ptsPut n2 ps (ls ++ rest)).1 vs
  | [], [], ls, rest, vs, h, hv => by cases h; simp only [VTs] at hv; subst hv; exact ⟨rfl, VTs.nil⟩
  | p :: ps, d :: ds, ls, rest, vs, h, hv => by
    simp only [ptsGet] at h
    split at h <;> try (cases h; done)
    rename_i l ls' h1 h2
    cases h
    obtain ⟨u, us, rfl, q1, q2⟩ := hv.cons_inv
    obtain ⟨e1, e2⟩ := PT.sound hL (rest := ls' ++ rest) h1 q1
    obtain ⟨e3, e4⟩ := ptsSound hL (rest := rest) h2 q2
    simp only [ptsPut, List.append_assoc, e1]
    exact ⟨e3, .cons e2 e4⟩
  | [], _ :: _, _, _, _, h, _ => by cases h
  | _ :: _, [], _, _, _, h, _ => by cases h
theorem btsSound (hL : Link w G n G2 n2) : ∀ {ts : List BT} {xs : List (TBox E)} {ls rest : List (Lf E)} {is : List Nat}, btsGet n ts xs = some ls → is.length = xs.length → (∀ (q b : Nat) x, is[q]? = some b → xs[q]? = some x → BoxOk E w G b x) →
    (btsPut n2 ts (ls ++ rest)).1.length = ts.length ∧ ∀ (q b : Nat) x, is[q]? = some b → (btsPut n2 ts (ls ++ rest)).1[q]? = some x → BoxOk E w G2 b x
  | [], [], ls, rest, is, h, _, hv => by cases h; exact ⟨rfl, fun q b x _ hx => by simp [btsPut] at hx⟩
  | t :: ts, x :: xs, ls, rest, is, h, hil, hv => by
    simp only [btsGet] at h
    split at h <;> try (cases h; done)
    rename_i l ls' h1 h2
    cases h
    cases is with
    | nil => simp at hil
    | cons i is =>
      obtain ⟨e1, e2⟩ := BT.sound hL (rest := ls' ++ rest) h1 (hv 0 i x (by simp) (by simp))
      obtain ⟨e3, e4⟩ := btsSound hL (rest := rest) (is := is) h2 (by simpa using hil) (fun q b y hq hy => hv (q + 1) b y (by simpa using hq) (by simpa using hy))
      simp only [btsPut, List.append_assoc, e1]
      refine ⟨by simp [e3], fun q b y hq hy => ?_⟩
      cases q with
      | zero => simp at hq hy; subst hq; subst hy; exact e2
      | succ q => exact e4 q b y (by simpa using hq) (by simpa using hy)
  | [], _ :: _, _, _, _, h, _, _ => by cases h
  | _ :: _, [], _, _, _, h, _, _ => by cases h
end

/-- The ghost that the callee sees. -/
def Ghost.sel (G : Ghost) (is : List Nat) (gs : List (TGrow × Value)) : Ghost := ⟨is, gs.map fun x => ({ x.1 with ver := 0 }, x.2), G.pr⟩

section
variable {P : Program} {w0 w w' : World} {G0 G G' : Ghost} {st : TS E} {a : Act}

theorem Rel.enter (hr : Rel E w0 G0 st a w G) {s : Shp} {bs gs : List Nat} {ds : List (TV E)} {ls : List (Lf E)} {vs : List Value} (h : s.enter bs gs st ds = some ls) (hv : VTs E w G ds vs) :
    ∃ is gg, pick G.i bs = some is ∧ pick G.g gs = some gg ∧ Boxes E w (G.sel is gg) (s.H ls) s.g0 ∧ VTs E w (G.sel is gg) (s.ds ls) vs := by
  unfold Shp.enter at h
  split at h <;> try (cases h; done)
  rename_i H g hH hg
  cases hc : (nodupN bs && (nodupN gs && (Nat.beq bs.length s.boxes.length && rowsSame s.rows g))) <;> rw [hc] at h <;> simp only [cond_true, cond_false] at h
  · cases h
  simp only [Bool.and_eq_true] at hc
  obtain ⟨hn1, hn2, hbl, hrs⟩ := hc
  have hbl := Nat.eq_of_beq_eq_true hbl
  obtain ⟨hrl, hrs⟩ := rowsSame_ok hrs
  split at h <;> try (cases h; done)
  rename_i la lb hla hlb
  cases h
  have hgs := hr.boxes.gs
  obtain ⟨is, hi⟩ := pick_of (m := G.i) hr.boxes.len.symm hH
  obtain ⟨gg, hgg⟩ := pick_of (m := G.g) (by rw [← hgs]; simp) hg
  obtain ⟨hHl, hHg⟩ := pick_get hH
  obtain ⟨hgl, hgg'⟩ := pick_get hg
  obtain ⟨hil, hig⟩ := pick_get hi
  obtain ⟨hggl, hggg⟩ := pick_get hgg
  have hgr : ∀ (j : Nat) x y, gg[j]? = some x → g[j]? = some y → x.1 = y := fun j x y hx hy => by
    have hj : j < gs.length := by rw [← hggl]; exact (List.getElem?_eq_some_iff.1 hx).1
    obtain ⟨x', h1, h2⟩ := hggg j _ (List.getElem?_eq_getElem hj)
    obtain ⟨y', h3, h4⟩ := hgg' j _ (List.getElem?_eq_getElem hj)
    rw [hx] at h1; cases h1
    rw [hy] at h3; cases h3
    rw [← hgs, List.getElem?_map, h2] at h4
    simpa using h4
  have hg0 : (gg.map fun x => ({ x.1 with ver := 0 } : TGrow)) = s.g0 := by
    unfold Shp.g0
    apply List.ext_getElem?
    intro j
    rw [List.getElem?_map, List.getElem?_map]
    by_cases hj : j < gs.length
    · have h1 : j < gg.length := by omega
      have h2 : j < g.length := by omega
      have h3 : j < s.rows.length := by omega
      rw [List.getElem?_eq_getElem h1, List.getElem?_eq_getElem h3]
      have e1 := hgr j _ _ (List.getElem?_eq_getElem h1) (List.getElem?_eq_getElem h2)
      obtain ⟨e2, e3⟩ := hrs j _ _ (List.getElem?_eq_getElem h3) (List.getElem?_eq_getElem h2)
      simp [e1, e2, e3]
    · rw [List.getElem?_eq_none (by omega), List.getElem?_eq_none (by omega)]; rfl
  have hLink : Link w G ⟨bs, gs, g.map (·.ver)⟩ (G.sel is gg) s.n0 := by
    refine ⟨fun _ _ h => h, fun r r' b h1 h2 => ?_, fun j j' v x hd h1 h2 h3 => ?_⟩
    · obtain ⟨b', h3, h4⟩ := hig r r' h1
      rw [h2] at h4; cases h4
      have hrl : r < s.boxes.length := by rw [← hbl]; exact (List.getElem?_eq_some_iff.1 h1).1
      exact ⟨r, by simp [Shp.n0, hrl], h3⟩
    · obtain ⟨x', h4, h5⟩ := hggg j j' h1
      rw [h3] at h5; cases h5
      have hjl : j < gs.length := (List.getElem?_eq_some_iff.1 h1).1
      have h6 : j < g.length := by omega
      have e1 := hgr j _ _ h4 (List.getElem?_eq_getElem h6)
      have h2 : (g.map (·.ver))[j]? = some v := h2
      rw [List.getElem?_map, List.getElem?_eq_getElem h6] at h2
      have h2 : g[j].ver = v := by simpa using h2
      have h7 : j < s.rows.length := by omega
      refine ⟨by simp only at e1; rw [e1]; exact h2, j, 0, { x with ver := 0 }, by simp [Shp.n0, h7], ?_, by simp [Ghost.sel, h4], rfl⟩
      simp [Shp.n0, Shp.g0, h7]
  obtain ⟨p1, p2⟩ := ptsSound hLink (rest := lb) hla hv
  obtain ⟨q1, q2⟩ := btsSound hLink (rest := []) (is := is) hlb (by omega) (fun q b x hq hx => by
    have hql : q < bs.length := by rw [← hil]; exact (List.getElem?_eq_some_iff.1 hq).1
    obtain ⟨b', h1, h2⟩ := hig q _ (List.getElem?_eq_getElem hql)
    obtain ⟨x', h3, h4⟩ := hHg q _ (List.getElem?_eq_getElem hql)
    rw [hq] at h1; cases h1
    rw [hx] at h3; cases h3
    exact hr.boxes.box _ b x h2 h4)
  rw [List.append_nil] at q1 q2
  have hmem : ∀ b, b ∈ is → b ∈ G.i := fun b hb => by
    obtain ⟨q, hq, rfl⟩ := List.getElem_of_mem hb
    obtain ⟨b', h1, h2⟩ := hig q _ (List.getElem?_eq_getElem (by omega))
    rw [List.getElem?_eq_getElem hq] at h1; cases h1
    exact List.mem_of_getElem? h2
  have hrow : ∀ (j : Nat) x hd, ((G.sel is gg).g)[j]? = some (x, hd) → ∃ j' y, gs[j]? = some j' ∧ G.g[j']? = some (y, hd) ∧ x = { y with ver := 0 } := fun j x hd hj => by
    simp only [Ghost.sel, List.getElem?_map, Option.map_eq_some_iff] at hj
    obtain ⟨y, hy, he⟩ := hj
    have hjl : j < gs.length := by rw [← hggl]; exact (List.getElem?_eq_some_iff.1 hy).1
    obtain ⟨x', h4, h5⟩ := hggg j _ (List.getElem?_eq_getElem hjl)
    rw [hy] at h4; cases h4
    simp only [Prod.mk.injEq] at he
    refine ⟨_, y.1, List.getElem?_eq_getElem hjl, ?_, he.1.symm⟩
    rw [h5, ← he.2]
  have hnd := nodupN_ok hn1
  have hnd2 := nodupN_ok hn2
  refine ⟨is, gg, hi, hgg, ⟨?_, ?_, fun r b x hb hx => ?_, fun b hb => hr.boxes.lt b (hmem b hb), ?_, fun b o hp => ⟨(hr.boxes.prok b o hp).1, fun hm => (hr.boxes.prok b o hp).2 (hmem b hm)⟩, fun j x hd hj => ?_, fun j j' x hd x' hd' b hj hj' hb hb' => ?_, hr.boxes.glob⟩, p2⟩
  · show is.length = (s.H (la ++ lb)).length
    unfold Shp.H
    rw [p1, q1]; omega
  · rw [← hg0]; simp [Ghost.sel, List.map_map, Function.comp_def]
  · unfold Shp.H at hx
    rw [p1] at hx
    exact q2 r b x hb hx
  · show is.Nodup
    refine List.pairwise_iff_getElem.2 fun p q hp hq hpq he => ?_
    obtain ⟨b1, h1, h2⟩ := hig p _ (List.getElem?_eq_getElem (by omega))
    obtain ⟨b2, h3, h4⟩ := hig q _ (List.getElem?_eq_getElem (by omega))
    rw [List.getElem?_eq_getElem hp] at h1
    rw [List.getElem?_eq_getElem hq] at h3
    have : b1 = b2 := by rw [← Option.some.inj h1, ← Option.some.inj h3]; exact he
    subst this
    have e1 := List.getElem?_eq_some_iff.1 h2
    have e2 := List.getElem?_eq_some_iff.1 h4
    have : bs[p] = bs[q] := (List.getElem_inj hr.boxes.nodup).1 (e1.2.trans e2.2.symm)
    have := (List.getElem_inj hnd).1 this
    omega
  · obtain ⟨j', y, h1, h2, rfl⟩ := hrow j x hd hj
    obtain ⟨n, xs, g1, g2, g3⟩ := hr.boxes.grow j' y hd h2
    exact ⟨n, xs, g1, g2, fun b hb => ⟨(g3 b hb).1, fun hm => (g3 b hb).2.1 (hmem b hm), (g3 b hb).2.2⟩⟩
  · obtain ⟨i1, y, h1, h2, rfl⟩ := hrow j x hd hj
    obtain ⟨i2, y', h3, h4, rfl⟩ := hrow j' x' hd' hj'
    have := hr.boxes.apart i1 i2 y hd y' hd' b h2 h4 hb hb'
    subst this
    have e1 := List.getElem?_eq_some_iff.1 h1
    have e2 := List.getElem?_eq_some_iff.1 h3
    exact (List.getElem_inj hnd2).1 (e1.2.trans e2.2.symm)
end

end Go.RT
/-
  RT, part 29: the state behind a call.
-/
namespace Go.RT
set_option linter.unusedVariables false

variable {E : TEnv}

def setAll {α : Type} : List (Nat × α) → List α → List α
  | [], l => l
  | (i, x) :: ps, l => setAll ps (l.set i x)
theorem setAll_length {α : Type} : ∀ (ps : List (Nat × α)) (l : List α), (setAll ps l).length = l.length
  | [], l => rfl
  | (i, x) :: ps, l => by simp [setAll, setAll_length ps]
theorem setAll_out {α : Type} : ∀ (ps : List (Nat × α)) (l : List α) (q : Nat), q ∉ ps.map (·.1) → (setAll ps l)[q]? = l[q]?
  | [], l, q, _ => rfl
  | (i, x) :: ps, l, q, h => by
    simp only [List.map_cons, List.mem_cons, not_or] at h
    rw [setAll, setAll_out ps _ q h.2, List.getElem?_set_ne (fun e => h.1 e.symm)]
theorem setAll_in {α : Type} : ∀ (ps : List (Nat × α)) (l : List α) (q : Nat) (x : α), (ps.map (·.1)).Nodup → (q, x) ∈ ps → q < l.length → (setAll ps l)[q]? = some x
  | (i, y) :: ps, l, q, x, hn, hm, hq => by
    simp only [List.map_cons, List.nodup_cons] at hn
    rcases List.mem_cons.1 hm with he | hm
    · simp only [Prod.mk.injEq] at he
      obtain ⟨rfl, rfl⟩ := he
      rw [setAll, setAll_out ps _ _ hn.1, List.getElem?_set_self hq]
    · rw [setAll]
      exact setAll_in ps _ q x hn.2 hm (by simpa using hq)

def pairsB {α : Type} : List (Option BT) → List Nat → List α → List (Nat × α)
  | some _ :: os, i :: is, x :: xs => (i, x) :: pairsB os is xs
  | none :: os, _ :: is, _ :: xs => pairsB os is xs
  | _, _, _ => []
theorem pairsB_mem {α : Type} : ∀ {os : List (Option BT)} {is : List Nat} {xs : List α} {i : Nat} {x : α}, (i, x) ∈ pairsB os is xs → ∃ (r : Nat) (t : BT), os[r]? = some (some t) ∧ is[r]? = some i ∧ xs[r]? = some x
  | some t :: os, j :: is, y :: xs, i, x, h => by
    rcases List.mem_cons.1 h with he | h
    · cases he; exact ⟨0, t, rfl, rfl, rfl⟩
    · obtain ⟨r, t', h1, h2, h3⟩ := pairsB_mem h
      exact ⟨r + 1, t', by simpa using h1, by simpa using h2, by simpa using h3⟩
  | none :: os, j :: is, y :: xs, i, x, h => by
    obtain ⟨r, t', h1, h2, h3⟩ := pairsB_mem (os := os) (is := is) (xs := xs) h
    exact ⟨r + 1, t', by simpa using h1, by simpa using h2, by simpa using h3⟩
  | [], _, _, _, _, h => by cases h
  | some _ :: _, [], _, _, _, h => by cases h
  | none :: _, [], _, _, _, h => by cases h
  | some _ :: _, _ :: _, [], _, _, h => by cases h
  | none :: _, _ :: _, [], _, _, h => by cases h
theorem mem_pairsB {α : Type} : ∀ {os : List (Option BT)} {is : List Nat} {xs : List α} (r : Nat) {t : BT} {i : Nat} {x : α}, os[r]? = some (some t) → is[r]? = some i → xs[r]? = some x → (i, x) ∈ pairsB os is xs
  | o :: os, j :: is, y :: xs, 0, t, i, x, h1, h2, h3 => by
    simp at h1 h2 h3; subst h1; subst h2; subst h3
    simp [pairsB]
  | o :: os, j :: is, y :: xs, r + 1, t, i, x, h1, h2, h3 => by
    have := mem_pairsB (os := os) (is := is) (xs := xs) r (by simpa using h1) (by simpa using h2) (by simpa using h3)
    cases o <;> simp [pairsB, this]
  | [], _, _, _, _, _, _, h, _, _ => by simp at h
  | _ :: _, [], _, _, _, _, _, _, h, _ => by simp at h
  | _ :: _, _ :: _, [], _, _, _, _, _, _, h => by simp at h
theorem pairsB_nodup {α : Type} : ∀ {os : List (Option BT)} {is : List Nat} {xs : List α}, is.Nodup → ((pairsB os is xs).map (·.1)).Nodup
  | some t :: os, j :: is, y :: xs, h => by
    rw [List.nodup_cons] at h
    simp only [pairsB, List.map_cons, List.nodup_cons]
    refine ⟨fun hm => ?_, pairsB_nodup h.2⟩
    obtain ⟨p, hp, he⟩ := List.mem_map.1 hm
    obtain ⟨i, x⟩ := p
    obtain ⟨r, t', -, h2, -⟩ := pairsB_mem hp
    exact h.1 (by rw [← show i = j from he]; exact List.mem_of_getElem? h2)
  | none :: os, j :: is, y :: xs, h => pairsB_nodup (os := os) (xs := xs) (List.nodup_cons.1 h).2
  | [], _, _, _ => List.nodup_nil
  | some _ :: _, [], _, _ => List.nodup_nil
  | none :: _, [], _, _ => List.nodup_nil
  | some _ :: _, _ :: _, [], _ => List.nodup_nil
  | none :: _, _ :: _, [], _ => List.nodup_nil

theorem chg_mem : ∀ {bs : List (Option BT)} {r q : Nat}, r + q ∈ chg r bs → ∃ t, bs[q]? = some (some t)
  | [], _, _, h => by cases h
  | none :: bs, r, q, h => by
    simp only [chg] at h
    cases q with
    | zero =>
      have key : ∀ (bs : List (Option BT)) (r x : Nat), x ∈ chg r bs → r ≤ x := by
        intro bs
        induction bs with
        | nil => intro r x h; cases h
        | cons o bs ih =>
          intro r x h
          cases o with
          | none => have := ih (r + 1) x h; omega
          | some t => rcases List.mem_cons.1 h with rfl | h; exact Nat.le_refl _; have := ih (r + 1) x h; omega
      have := key bs (r + 1) _ h; omega
    | succ q =>
      obtain ⟨t, ht⟩ := chg_mem (bs := bs) (r := r + 1) (q := q) (by rw [show r + 1 + q = r + (q + 1) by omega]; exact h)
      exact ⟨t, by simpa using ht⟩
  | some t :: bs, r, q, h => by
    cases q with
    | zero => exact ⟨t, rfl⟩
    | succ q =>
      simp only [chg] at h
      rcases List.mem_cons.1 h with he | h
      · omega
      · obtain ⟨t, ht⟩ := chg_mem (bs := bs) (r := r + 1) (q := q) (by rw [show r + 1 + q = r + (q + 1) by omega]; exact h)
        exact ⟨t, by simpa using ht⟩

def rowAt : Option (TypeId × Nat) → Option TGrow → TGrow
  | none, some x => x
  | some p, some x => ⟨x.ver + 1, p.1, p.2⟩
  | some p, none => ⟨0, p.1, p.2⟩
  | none, none => ⟨0, 0, 0⟩
theorem newRows_length : ∀ (rs : List (Option (TypeId × Nat))) (g : List TGrow), (newRows rs g).length = rs.length
  | [], _ => rfl
  | none :: rs, _ :: g => by simp [newRows, newRows_length rs g]
  | some _ :: rs, _ :: g => by simp [newRows, newRows_length rs g]
  | some _ :: rs, [] => by simp [newRows, newRows_length rs []]
  | none :: rs, [] => by simp [newRows, newRows_length rs []]
theorem newRows_get : ∀ (rs : List (Option (TypeId × Nat))) (g : List TGrow) (j : Nat) (o : Option (TypeId × Nat)), rs[j]? = some o → (newRows rs g)[j]? = some (rowAt o g[j]?)
  | [], _, _, _, h => by simp at h
  | r :: rs, x :: g, 0, o, h => by simp at h; subst h; cases r <;> simp [newRows, rowAt]
  | r :: rs, [], 0, o, h => by simp at h; subst h; cases r <;> simp [newRows, rowAt]
  | r :: rs, x :: g, j + 1, o, h => by
    have := newRows_get rs g j o (by simpa using h)
    cases r <;> simpa [newRows] using this
  | r :: rs, [], j + 1, o, h => by
    have := newRows_get rs [] j o (by simpa using h)
    cases r <;> simpa [newRows] using this

theorem boxesPut_length (n : Rn) : ∀ (bs : List (Option BT)) (H : List (TBox E)) (ls : List (Lf E)), (boxesPut n bs H ls).length = bs.length
  | [], _, _ => rfl
  | none :: bs, H, ls => by simp [boxesPut, boxesPut_length n bs]
  | some t :: bs, H, ls => by simp [boxesPut, boxesPut_length n bs]
theorem boxesPut_move {w : World} {G G2 : Ghost} {n n2 : Rn} (hL : Link2 w G n G2 n2) : ∀ (bs : List (Option BT)) (H H' : List (TBox E)) (ls : List (Lf E)) (r : Nat) {t : BT} {b : Nat} {x y : TBox E}, bs[r]? = some (some t) →
    (boxesPut n bs H ls)[r]? = some x → (boxesPut n2 bs H' ls)[r]? = some y → BoxOk E w G b x → BoxOk E w G2 b y
  | [], _, _, _, _, _, _, _, _, h, _, _, _ => by simp at h
  | none :: bs, H, H', ls, r + 1, t, b, x, y, h, hx, hy, hb => boxesPut_move hL bs H.tail H'.tail ls r (by simpa using h) (by simpa [boxesPut] using hx) (by simpa [boxesPut] using hy) hb
  | none :: bs, H, H', ls, 0, t, b, x, y, h, hx, hy, hb => by simp at h
  | some t' :: bs, H, H', ls, 0, t, b, x, y, h, hx, hy, hb => by
    simp [boxesPut] at hx hy
    subst hx; subst hy
    exact BT.move hL t' ls hb
  | some t' :: bs, H, H', ls, r + 1, t, b, x, y, h, hx, hy, hb => by
    simp only [boxesPut, List.getElem?_cons_succ] at hx hy
    rw [BT.put_rest n2 n] at hy
    exact boxesPut_move hL bs H.tail H'.tail _ r (by simpa using h) hx hy hb

/-- New boxes are described. -/
def someFrom : Nat → List (Option BT) → Bool
  | 0, [] => true
  | 0, some _ :: bs => someFrom 0 bs
  | 0, none :: _ => false
  | _ + 1, [] => false
  | n + 1, _ :: bs => someFrom n bs
theorem someFrom_ok : ∀ {n : Nat} {bs : List (Option BT)}, someFrom n bs = true → n ≤ bs.length ∧ ∀ r, n ≤ r → r < bs.length → ∃ t, bs[r]? = some (some t)
  | 0, [], _ => ⟨Nat.le_refl _, fun r _ h => by simp at h⟩
  | 0, some t :: bs, h => by
    obtain ⟨_, q⟩ := someFrom_ok (n := 0) (bs := bs) h
    refine ⟨Nat.zero_le _, fun r _ hr => ?_⟩
    cases r with
    | zero => exact ⟨t, rfl⟩
    | succ r => simpa using q r (Nat.zero_le _) (by simpa using hr)
  | 0, none :: _, h => by cases h
  | _ + 1, [], h => by cases h
  | n + 1, o :: bs, h => by
    obtain ⟨q1, q2⟩ := someFrom_ok (n := n) (bs := bs) h
    refine ⟨by simpa using q1, fun r h1 h2 => ?_⟩
    cases r with
    | zero => omega
    | succ r => simpa using q2 r (by omega) (by simpa using h2)

def Outs.n2 (o : Outs) (bs gs : List Nat) (st : TS E) : Rn :=
  ⟨bs ++ List.range' st.H.length (o.boxes.length - bs.length), gs ++ List.range' st.g.length (o.rows.length - gs.length), (newRows o.rows ((pick st.g gs).getD [])).map (·.ver)⟩
def Outs.val (o : Outs) (bs gs : List Nat) (st : TS E) (ls : List (Lf E)) : TV E := (o.res.put (o.n2 bs gs st) ls).1
def Outs.hc (o : Outs) (bs gs : List Nat) (st : TS E) (ls : List (Lf E)) : List (TBox E) := boxesPut (o.n2 bs gs st) o.boxes [] (o.res.put (o.n2 bs gs st) ls).2
def Outs.after (o : Outs) (bs gs : List Nat) (st : TS E) (ls : List (Lf E)) : TS E :=
  { st with
    H := setAll (pairsB o.boxes bs (o.hc bs gs st ls)) st.H ++ (o.hc bs gs st ls).drop bs.length
    g := setAll (gs.zip (newRows o.rows ((pick st.g gs).getD []))) st.g ++ (newRows o.rows ((pick st.g gs).getD [])).drop gs.length
    d := (pairsB o.boxes bs (o.hc bs gs st ls)).map (·.1) ++ st.d }

theorem zip_nodup {α : Type} : ∀ {l : List Nat} {m : List α}, l.Nodup → ((l.zip m).map (·.1)).Nodup
  | [], _, _ => List.nodup_nil
  | _ :: _, [], _ => List.nodup_nil
  | x :: l, y :: m, h => by
    rw [List.nodup_cons] at h
    simp only [List.zip_cons_cons, List.map_cons, List.nodup_cons]
    refine ⟨fun hm => h.1 ?_, zip_nodup h.2⟩
    obtain ⟨p, hp, he⟩ := List.mem_map.1 hm
    rw [← he]
    exact (List.of_mem_zip hp).1
theorem mem_zip_get {α : Type} : ∀ {l : List Nat} {m : List α} (j : Nat) {i : Nat} {x : α}, l[j]? = some i → m[j]? = some x → (i, x) ∈ l.zip m
  | y :: l, z :: m, 0, i, x, h1, h2 => by simp at h1 h2; subst h1; subst h2; simp
  | y :: l, z :: m, j + 1, i, x, h1, h2 => by
    have := mem_zip_get (l := l) (m := m) j (by simpa using h1) (by simpa using h2)
    simp [this]
  | [], _, _, _, _, h, _ => by simp at h
  | _ :: _, [], _, _, _, _, h => by simp at h
theorem zip_mem_get {α : Type} : ∀ {l : List Nat} {m : List α} {i : Nat} {x : α}, (i, x) ∈ l.zip m → ∃ j : Nat, l[j]? = some i ∧ m[j]? = some x
  | y :: l, z :: m, i, x, h => by
    simp only [List.zip_cons_cons] at h
    rcases List.mem_cons.1 h with he | h
    · cases he; exact ⟨0, rfl, rfl⟩
    · obtain ⟨j, h1, h2⟩ := zip_mem_get h
      exact ⟨j + 1, by simpa using h1, by simpa using h2⟩
  | [], _, _, _, h => by simp at h
  | _ :: _, [], _, _, h => by simp at h

end Go.RT
/-
  RT, part 30: the state behind a call, related.
-/
namespace Go.RT
set_option linter.unusedVariables false

variable {E : TEnv}
section
variable {P : Program} {w0 w w' : World} {G0 G G' : Ghost} {st : TS E} {a : Act}

theorem Rel.leave (hr : Rel E w0 G0 st a w G) {bs gs is : List Nat} {gg : List (TGrow × Value)} (hi : pick G.i bs = some is) (hg : pick G.g gs = some gg) (hn1 : bs.Nodup) (hn2 : gs.Nodup) (o : Outs)
    (hb : someFrom bs.length o.boxes = true) (hgl : gs.length ≤ o.rows.length) {H0 : List (TBox E)} {ls : List (Lf E)} {v : Value} (hE : Evol w (G.sel is gg) w' G')
    (hB : Boxes E w' G' (boxesPut (o.n1 ((G.sel is gg).g.map (·.1))) o.boxes H0 (o.res.put (o.n1 ((G.sel is gg).g.map (·.1))) ls).2) (newRows o.rows ((G.sel is gg).g.map (·.1))))
    (hv : VT E w' G' (o.res.put (o.n1 ((G.sel is gg).g.map (·.1))) ls).1 v) (hfix : ∀ (q b : Nat), is[q]? = some b → q ∉ chg 0 o.boxes → w'.heap[b]? = w.heap[b]?) :
    ∃ Gn, Rel E w0 G0 (o.after bs gs st ls) a w' Gn ∧ VT E w' Gn (o.val bs gs st ls) v := by
  obtain ⟨hbl, hsome⟩ := someFrom_ok hb
  obtain ⟨hil, hig⟩ := pick_get hi
  obtain ⟨hggl, hggg⟩ := pick_get hg
  have hlen := hr.boxes.len
  have hgs := hr.boxes.gs
  have hgl0 : G.g.length = st.g.length := hr.rows_len
  have hpick : pick st.g gs = some (gg.map (·.1)) := by
    have key : ∀ (l : List Nat) (ys : List (TGrow × Value)), pick G.g l = some ys → pick st.g l = some (ys.map (·.1)) := by
      intro l
      induction l with
      | nil => intro ys h; cases h; rfl
      | cons i l ih =>
        intro ys h
        simp only [pick] at h
        split at h <;> try (cases h; done)
        rename_i x xs h1 h2
        cases h
        have : st.g[i]? = some x.1 := by rw [← hgs, List.getElem?_map, h1]; rfl
        simp only [pick, this, ih xs h2, List.map_cons]
    exact key gs gg hg
  have hpg : (pick st.g gs).getD [] = gg.map (·.1) := by rw [hpick]; rfl
  -- the callee's numbering of rows
  let g0 : List TGrow := (G.sel is gg).g.map (·.1)
  have hg0l : g0.length = gs.length := by simp [g0, Ghost.sel, hggl]
  let nc := newRows o.rows g0
  let ng := newRows o.rows (gg.map (·.1))
  have hncl : nc.length = o.rows.length := newRows_length _ _
  have hngl : ng.length = o.rows.length := newRows_length _ _
  have hG'i : G'.i.length = o.boxes.length := by rw [hB.len, boxesPut_length]
  have hG'g : G'.g.map (·.1) = nc := hB.gs
  have hG'gl : G'.g.length = o.rows.length := by rw [← hncl, ← hG'g]; simp
  have hG'is : ∀ (r b : Nat), is[r]? = some b → G'.i[r]? = some b := fun r b h => hE.goes.i r b h
  let ngg : List (TGrow × Value) := ng.zip (G'.g.map (·.2))
  have hnggl : ngg.length = o.rows.length := by simp [ngg, hngl, hG'gl]
  have hngg1 : ngg.map (·.1) = ng := by
    simp only [ngg]
    rw [List.map_fst_zip]
    simp [hngl, hG'gl]
  let Gn : Ghost := ⟨G.i ++ G'.i.drop bs.length, setAll (gs.zip ngg) G.g ++ ngg.drop gs.length, G'.pr⟩
  -- entries of ngg
  have hent : ∀ (j : Nat) y, ngg[j]? = some y → ∃ ro x' , o.rows[j]? = some ro ∧ G'.g[j]? = some (x', y.2) ∧ x' = rowAt ro g0[j]? ∧ y.1 = rowAt ro (gg.map (·.1))[j]? := by
    intro j y hj
    have hjl : j < o.rows.length := by rw [← hnggl]; exact (List.getElem?_eq_some_iff.1 hj).1
    have hro := List.getElem?_eq_getElem hjl
    have h1 := newRows_get o.rows (gg.map (·.1)) j _ hro
    have h2 := newRows_get o.rows g0 j _ hro
    have hjg : j < G'.g.length := by omega
    have e1 : y.1 = rowAt o.rows[j] (gg.map (·.1))[j]? := by
      have : (ngg.map (·.1))[j]? = some y.1 := by simp [hj]
      rw [hngg1] at this
      rw [show ng[j]? = _ from h1] at this
      exact (Option.some.inj this).symm
    have e2 : y.2 = G'.g[j].2 := by
      obtain ⟨hjn, he⟩ := List.getElem?_eq_some_iff.1 hj
      rw [← he]
      simp [ngg]
    have e3 : G'.g[j].1 = rowAt o.rows[j] g0[j]? := by
      have : (G'.g.map (·.1))[j]? = some G'.g[j].1 := by simp [hjg]
      rw [hG'g, show nc[j]? = _ from h2] at this
      exact (Option.some.inj this).symm
    refine ⟨o.rows[j], G'.g[j].1, hro, ?_, e3, e1⟩
    rw [List.getElem?_eq_getElem hjg, e2]
  have hold : ∀ (j j' : Nat) x h, gs[j]? = some j' → G.g[j']? = some (x, h) → gg[j]? = some (x, h) ∧ g0[j]? = some { x with ver := 0 } ∧ (gg.map (·.1))[j]? = some x := by
    intro j j' x h h1 h2
    obtain ⟨y, h3, h4⟩ := hggg j j' h1
    rw [h2] at h4; cases h4
    refine ⟨h3, ?_, by simp [h3]⟩
    simp [g0, Ghost.sel, h3]
  -- an entry of the caller's row gs[j]
  have hrow1 : ∀ (j j' : Nat) x h, gs[j]? = some j' → G.g[j']? = some (x, h) → ∃ y, ngg[j]? = some y ∧ x.ver ≤ y.1.ver ∧ (x.ver = y.1.ver → y.2 = h) := by
    intro j j' x h h1 h2
    have hjl : j < gs.length := (List.getElem?_eq_some_iff.1 h1).1
    have hjn : j < ngg.length := by omega
    obtain ⟨ro, x', q1, q2, q3, q4⟩ := hent j _ (List.getElem?_eq_getElem hjn)
    obtain ⟨o1, o2, o3⟩ := hold j j' x h h1 h2
    rw [o2] at q3
    rw [o3] at q4
    refine ⟨_, List.getElem?_eq_getElem hjn, ?_, fun e => ?_⟩
    · rw [q4]; cases ro <;> simp [rowAt]
    · rw [q4] at e
      cases ro with
      | some p => simp [rowAt] at e
      | none =>
        simp only [rowAt] at q3
        have hsel : ((G.sel is gg).g)[j]? = some ({ x with ver := 0 }, h) := by simp [Ghost.sel, o1]
        obtain ⟨x2, h3, r1, r2, r3⟩ := hE.goes.g j _ h hsel
        rw [q2] at r1
        cases r1
        exact r3 (by rw [q3])
  have hgn : ∀ (q : Nat) y, Gn.g[q]? = some y → (q ∉ gs ∧ G.g[q]? = some y) ∨ ∃ j, ngg[j]? = some y ∧ ((gs[j]? = some q ∧ q < G.g.length) ∨ (gs.length ≤ j ∧ q = G.g.length + (j - gs.length))) := by
    intro q y hq
    have hq : (setAll (gs.zip ngg) G.g ++ ngg.drop gs.length)[q]? = some y := hq
    by_cases hql : q < G.g.length
    · rw [List.getElem?_append_left (by rw [setAll_length]; exact hql)] at hq
      by_cases hm : q ∈ gs
      · obtain ⟨j, hj, rfl⟩ := List.getElem_of_mem hm
        have hjn : j < ngg.length := by omega
        rw [setAll_in (gs.zip ngg) G.g gs[j] ngg[j] (zip_nodup hn2) (mem_zip_get j (List.getElem?_eq_getElem hj) (List.getElem?_eq_getElem hjn)) hql] at hq
        cases hq
        exact .inr ⟨j, List.getElem?_eq_getElem hjn, .inl ⟨List.getElem?_eq_getElem hj, hql⟩⟩
      · rw [setAll_out _ _ q (fun hmm => hm (by obtain ⟨p, hp, he⟩ := List.mem_map.1 hmm; rw [← he]; exact (List.of_mem_zip hp).1))] at hq
        exact .inl ⟨hm, hq⟩
    · rw [List.getElem?_append_right (by rw [setAll_length]; omega), setAll_length, List.getElem?_drop] at hq
      exact .inr ⟨gs.length + (q - G.g.length), hq, .inr ⟨by omega, by omega⟩⟩
  have hgn_in : ∀ (j q : Nat) y, gs[j]? = some q → q < G.g.length → ngg[j]? = some y → Gn.g[q]? = some y := by
    intro j q y h1 h2 h3
    show (setAll (gs.zip ngg) G.g ++ ngg.drop gs.length)[q]? = some y
    rw [List.getElem?_append_left (by rw [setAll_length]; exact h2)]
    exact setAll_in (gs.zip ngg) G.g q y (zip_nodup hn2) (mem_zip_get j h1 h3) h2
  have hgn_out : ∀ (q : Nat) y, q ∉ gs → G.g[q]? = some y → Gn.g[q]? = some y := by
    intro q y h1 h2
    have hql := (List.getElem?_eq_some_iff.1 h2).1
    show (setAll (gs.zip ngg) G.g ++ ngg.drop gs.length)[q]? = some y
    rw [List.getElem?_append_left (by rw [setAll_length]; exact hql), setAll_out _ _ q (fun hmm => h1 (by obtain ⟨p, hp, he⟩ := List.mem_map.1 hmm; rw [← he]; exact (List.of_mem_zip hp).1))]
    exact h2
  have hgn_new : ∀ (j : Nat) y, gs.length ≤ j → ngg[j]? = some y → Gn.g[G.g.length + (j - gs.length)]? = some y := by
    intro j y h1 h2
    show (setAll (gs.zip ngg) G.g ++ ngg.drop gs.length)[G.g.length + (j - gs.length)]? = some y
    rw [List.getElem?_append_right (by rw [setAll_length]; omega), setAll_length, List.getElem?_drop]
    rw [show gs.length + (G.g.length + (j - gs.length) - G.g.length) = j by omega]
    exact h2
  have hGoes : Goes w G w' Gn := by
    refine ⟨hE.goes.pr, hE.goes.cells, fun r b h => ?_, fun q x h hq => ?_⟩
    · show (G.i ++ G'.i.drop bs.length)[r]? = some b
      rw [List.getElem?_append_left (List.getElem?_eq_some_iff.1 h).1]; exact h
    · by_cases hm : q ∈ gs
      · obtain ⟨j, hj, rfl⟩ := List.getElem_of_mem hm
        obtain ⟨y, h1, h2, h3⟩ := hrow1 j _ x h (List.getElem?_eq_getElem hj) hq
        exact ⟨y.1, y.2, hgn_in j _ y (List.getElem?_eq_getElem hj) (List.getElem?_eq_some_iff.1 hq).1 h1, h2, h3⟩
      · exact ⟨x, h, hgn_out q _ hm hq, Nat.le_refl _, fun _ => rfl⟩
  have ev := hr.evol
  -- what the callee may touch
  have hfooti : ∀ b, b ∈ is → b ∈ G.i := fun b hb => by
    obtain ⟨q, hq, rfl⟩ := List.getElem_of_mem hb
    obtain ⟨b', h1, h2⟩ := hig q _ (List.getElem?_eq_getElem (by omega))
    rw [List.getElem?_eq_getElem hq] at h1; cases h1
    exact List.mem_of_getElem? h2
  have hselrow : ∀ b, (G.sel is gg).rows b → ∃ (j j' : Nat) (x : TGrow) (h : Value), gs[j]? = some j' ∧ G.g[j']? = some (x, h) ∧ h.ownBlock = some b := by
    rintro b ⟨x, h, hm, hbk⟩
    obtain ⟨j, hj, he⟩ := List.getElem_of_mem hm
    have hj2 : j < gg.length := by simpa [Ghost.sel] using hj
    obtain ⟨y, h1, h2⟩ := hggg j _ (List.getElem?_eq_getElem (by omega))
    rw [List.getElem?_eq_getElem hj2] at h1
    have h1 := Option.some.inj h1
    have he2 : gg[j].2 = h := by
      have := congrArg Prod.snd he
      simpa [Ghost.sel] using this
    refine ⟨j, _, y.1, y.2, List.getElem?_eq_getElem (by omega), h2, ?_⟩
    rw [← h1, he2]; exact hbk
  have hrowbox : ∀ (j : Nat) x h b, G.g[j]? = some (x, h) → h.ownBlock = some b → b < w.heap.size ∧ b ∉ G.i := fun j x h b hj hb => by
    obtain ⟨n, xs, -, -, q⟩ := hr.boxes.grow j x h hj
    exact ⟨(q b hb).1, (q b hb).2.1⟩
  have hsame : ∀ (q b : Nat), G.i[q]? = some b → q ∉ bs → w'.heap[b]? = w.heap[b]? := by
    intro q b hq hnb
    refine hE.old b (hr.boxes.lt b (List.mem_of_getElem? hq)) (fun hf => ?_)
    rcases hf with hf | hf
    · obtain ⟨r, hrl, he⟩ := List.getElem_of_mem hf
      have hrl' : r < bs.length := by
        have : r < is.length := hrl
        omega
      obtain ⟨b', h1, h2⟩ := hig r _ (List.getElem?_eq_getElem hrl')
      have h1' : is[r]? = some b := by rw [← he]; exact List.getElem?_eq_getElem hrl
      rw [h1'] at h1; cases h1
      have e1 := List.getElem?_eq_some_iff.1 hq
      have e2 := List.getElem?_eq_some_iff.1 h2
      have : q = bs[r] := (List.getElem_inj hr.boxes.nodup).1 (e1.2.trans e2.2.symm)
      exact hnb (by rw [this]; exact List.getElem_mem hrl')
    · obtain ⟨j, j', x, h, -, h2, h3⟩ := hselrow b hf
      exact (hrowbox j' x h b h2 h3).2 (List.mem_of_getElem? hq)
  have hnewi : ∀ (q b : Nat), Gn.i[q]? = some b → G.i[q]? = some b ∨ (G.i.length ≤ q ∧ G'.i[bs.length + (q - G.i.length)]? = some b ∧ w.heap.size ≤ b) := by
    intro q b hq
    have hq : (G.i ++ G'.i.drop bs.length)[q]? = some b := hq
    by_cases hql : q < G.i.length
    · rw [List.getElem?_append_left hql] at hq; exact .inl hq
    · rw [List.getElem?_append_right (by omega), List.getElem?_drop] at hq
      exact .inr ⟨by omega, hq, hE.newB _ b (by show is.length ≤ _; omega) hq⟩
  have hmemn : ∀ b, b ∈ Gn.i → b ∈ G.i ∨ (b ∈ G'.i ∧ w.heap.size ≤ b) := fun b hb => by
    obtain ⟨q, hq, he⟩ := List.getElem_of_mem hb
    rcases hnewi q b (by rw [← he]; exact List.getElem?_eq_getElem hq) with h | ⟨-, h1, h2⟩
    · exact .inl (List.mem_of_getElem? h)
    · exact .inr ⟨List.mem_of_getElem? h1, h2⟩
  -- the callee's row j: its block
  have hblk : ∀ (j : Nat) x h b, G'.g[j]? = some (x, h) → h.ownBlock = some b → w.heap.size ≤ b ∨ ∃ (j' : Nat) (x0 : TGrow) (h0 : Value), gs[j]? = some j' ∧ G.g[j']? = some (x0, h0) ∧ h0.ownBlock = some b := by
    intro j x h b hj hbk
    rcases hE.newG j x h b hj hbk with q | ⟨x0, h0, q1, q2⟩
    · exact .inl q
    · have hjg : j < gg.length := by
        have := (List.getElem?_eq_some_iff.1 q1).1
        simpa [Ghost.sel] using this
      obtain ⟨y, h1, h2⟩ := hggg j _ (List.getElem?_eq_getElem (by omega))
      rw [List.getElem?_eq_getElem hjg] at h1
      have h1 := Option.some.inj h1
      have : h0 = gg[j].2 := by
        simp [Ghost.sel, hjg] at q1
        exact q1.2.symm
      refine .inr ⟨_, y.1, y.2, List.getElem?_eq_getElem (by omega), h2, ?_⟩
      rw [← h1, ← this]; exact q2
  have hLink : Link2 w' G' (o.n1 g0) Gn (o.n2 bs gs st) := by
    refine ⟨⟨fun _ _ h => h, fun r r' b h1 h2 => ?_, fun j j' vv x h h1 h2 h3 => ?_⟩, ?_, ?_, ?_⟩
    · obtain ⟨rfl, hlt⟩ := range_get h1
      by_cases hrb : r' < bs.length
      · refine ⟨bs[r'], by simp [Outs.n2, List.getElem?_append_left hrb, hrb], ?_⟩
        obtain ⟨b', q1, q2⟩ := hig r' _ (List.getElem?_eq_getElem hrb)
        have := hG'is r' b' q1
        rw [h2] at this; cases this
        show (G.i ++ G'.i.drop bs.length)[bs[r']]? = some b
        rw [List.getElem?_append_left (List.getElem?_eq_some_iff.1 q2).1]; exact q2
      · refine ⟨st.H.length + (r' - bs.length), ?_, ?_⟩
        · simp only [Outs.n2]
          rw [List.getElem?_append_right (by omega)]
          rw [List.getElem?_range' (by omega)]
          simp
        · show (G.i ++ G'.i.drop bs.length)[st.H.length + (r' - bs.length)]? = some b
          rw [← hlen, List.getElem?_append_right (by omega), List.getElem?_drop, show bs.length + (G.i.length + (r' - bs.length) - G.i.length) = r' by omega]
          exact h2
    · obtain ⟨rfl, hlt⟩ := range_get h1
      have hjn : j' < ngg.length := by omega
      obtain ⟨ro, x', q1, q2, q3, q4⟩ := hent j' _ (List.getElem?_eq_getElem hjn)
      rw [h3] at q2
      have q2 := Option.some.inj q2
      simp only [Prod.mk.injEq] at q2
      have hxv : x.ver = vv := by
        have h2 : (nc.map (·.ver))[j']? = some vv := h2
        rw [← hG'g, List.map_map, List.getElem?_map, h3] at h2
        simpa using h2
      refine ⟨hxv, ?_⟩
      have hv2 : ((newRows o.rows ((pick st.g gs).getD [])).map (·.ver))[j']? = some ngg[j'].1.ver := by
        rw [hpg, show newRows o.rows (gg.map (·.1)) = ng from rfl, ← hngg1]
        simp [hjn]
      by_cases hjg : j' < gs.length
      · obtain ⟨y, r1, r2⟩ := hggg j' _ (List.getElem?_eq_getElem hjg)
        refine ⟨gs[j'], ngg[j'].1.ver, ngg[j'].1, by simp [Outs.n2, List.getElem?_append_left hjg, hjg], hv2, ?_, rfl⟩
        rw [hgn_in j' _ _ (List.getElem?_eq_getElem hjg) (List.getElem?_eq_some_iff.1 r2).1 (List.getElem?_eq_getElem hjn), q2.2]
      · refine ⟨st.g.length + (j' - gs.length), ngg[j'].1.ver, ngg[j'].1, ?_, hv2, ?_, rfl⟩
        · simp only [Outs.n2]
          rw [List.getElem?_append_right (by omega), List.getElem?_range' (by omega)]
          simp
        · rw [← hgl0, hgn_new j' _ (by omega) (List.getElem?_eq_getElem hjn), q2.2]
    · simp [Outs.n1, Outs.n2]; omega
    · simp [Outs.n1, Outs.n2]; omega
    · simp [Outs.n1, Outs.n2, newRows_length]
  have hval : VT E w' Gn (o.val bs gs st ls) v := PT.move hLink o.res ls hv
  have hrest : (o.res.put (o.n2 bs gs st) ls).2 = (o.res.put (o.n1 g0) ls).2 := PT.put_rest _ _ _ _
  have hhcl : (o.hc bs gs st ls).length = o.boxes.length := boxesPut_length _ _ _ _
  have hboxm : ∀ (r b : Nat) t y, o.boxes[r]? = some (some t) → G'.i[r]? = some b → (o.hc bs gs st ls)[r]? = some y → BoxOk E w' Gn b y := by
    intro r b t y h1 h2 h3
    have hrl : r < o.boxes.length := (List.getElem?_eq_some_iff.1 h1).1
    have hx : r < (boxesPut (o.n1 g0) o.boxes H0 (o.res.put (o.n1 g0) ls).2).length := by rw [boxesPut_length]; exact hrl
    have hbx := hB.box r b _ h2 (List.getElem?_eq_getElem hx)
    unfold Outs.hc at h3
    rw [hrest] at h3
    exact boxesPut_move hLink o.boxes H0 [] _ r h1 (List.getElem?_eq_getElem hx) h3 hbx
  refine ⟨Gn, ⟨⟨hE.os.trans ev.os, hE.tape.trans ev.tape, hE.output.trans ev.output, Nat.le_trans ev.size hE.size, fun b hb hnf => ?_, ev.goes.trans hGoes, fun b oo hb hp => ?_, fun q b h1 h2 => ?_, fun q x h b hq hbk => ?_⟩, hr.size, fun j d hj => (hr.tmps j d hj).mono hGoes, hr.defers.mono hGoes, ?_, fun r b hb hd => ?_, hr.pins⟩, hval⟩
  · refine (hE.old b (Nat.lt_of_lt_of_le hb ev.size) (fun hf => ?_)).trans (ev.old b hb hnf)
    rcases hf with hf | hf
    · have hbi := hfooti b hf
      obtain ⟨q, hq, he⟩ := List.getElem_of_mem hbi
      have hqb : G.i[q]? = some b := by rw [← he]; exact List.getElem?_eq_getElem hq
      by_cases hql : q < G0.i.length
      · have e1 := ev.goes.i q _ (List.getElem?_eq_getElem hql)
        rw [hqb] at e1
        exact hnf (.inl (by rw [Option.some.inj e1]; exact List.getElem_mem hql))
      · have := ev.newB q b (by omega) hqb; omega
    · obtain ⟨j, j', x, h, -, h2, h3⟩ := hselrow b hf
      rcases ev.newG j' x h b h2 h3 with q | ⟨x0, h0, q1, q2⟩
      · omega
      · exact hnf (.inr ⟨x0, h0, List.mem_of_getElem? q1, q2⟩)
  · rcases hE.prold b oo (Nat.lt_of_lt_of_le hb ev.size) hp with q | q
    · exact ev.prold b oo hb q
    · obtain ⟨j, j', x, h, -, h2, h3⟩ := hselrow b q
      rcases ev.newG j' x h b h2 h3 with q | ⟨x0, h0, q1, q2⟩
      · omega
      · exact .inr ⟨x0, h0, List.mem_of_getElem? q1, q2⟩
  · rcases hnewi q b h2 with h | ⟨-, -, h⟩
    · exact ev.newB q b h1 h
    · exact Nat.le_trans ev.size h
  · rcases hgn q (x, h) hq with ⟨-, h1⟩ | ⟨j, h1, h2⟩
    · exact ev.newG q x h b h1 hbk
    · obtain ⟨ro, x', q1, q2, -, -⟩ := hent j _ h1
      rcases hblk j x' h b q2 hbk with q | ⟨j', x0, h0, q3, q4, q5⟩
      · exact .inl (Nat.le_trans ev.size q)
      · rcases h2 with ⟨h2, -⟩ | ⟨h2, -⟩
        · rw [h2] at q3; cases q3
          exact ev.newG q x0 h0 b q4 q5
        · have := (List.getElem?_eq_some_iff.1 q3).1; omega
  · refine ⟨?_, ?_, fun q b y hq hy => ?_, fun b hb => ?_, ?_, fun b oo hp => ?_, fun q x h hq => ?_, fun q q' x h x' h' b hq hq' hb1 hb2 => ?_, glob_mono hGoes hr.boxes.glob⟩
    · show (G.i ++ G'.i.drop bs.length).length = (setAll (pairsB o.boxes bs (o.hc bs gs st ls)) st.H ++ (o.hc bs gs st ls).drop bs.length).length
      simp only [List.length_append, List.length_drop, setAll_length, hhcl, hG'i, hlen]
    · show (setAll (gs.zip ngg) G.g ++ ngg.drop gs.length).map (·.1) = setAll (gs.zip (newRows o.rows ((pick st.g gs).getD []))) st.g ++ (newRows o.rows ((pick st.g gs).getD [])).drop gs.length
      rw [hpg, List.map_append, List.map_drop, hngg1]
      congr 1
      have key : ∀ (l : List Nat) (m : List (TGrow × Value)) (g : List (TGrow × Value)), (setAll (l.zip m) g).map (·.1) = setAll (l.zip (m.map (·.1))) (g.map (·.1)) := by
        intro l
        induction l with
        | nil => intro m g; rfl
        | cons i l ih =>
          intro m g
          cases m with
          | nil => rfl
          | cons y m =>
            simp only [List.zip_cons_cons, List.map_cons, setAll]
            rw [ih, List.map_set]
      rw [key, hngg1, hgs]
    · have hy : (setAll (pairsB o.boxes bs (o.hc bs gs st ls)) st.H ++ (o.hc bs gs st ls).drop bs.length)[q]? = some y := hy
      rcases hnewi q b hq with h | ⟨h1, h2, h3⟩
      · have hql : q < st.H.length := by rw [← hlen]; exact (List.getElem?_eq_some_iff.1 h).1
        rw [List.getElem?_append_left (by rw [setAll_length]; exact hql)] at hy
        by_cases hm : q ∈ bs
        · obtain ⟨r, hrl, rfl⟩ := List.getElem_of_mem hm
          obtain ⟨b', q1, q2⟩ := hig r _ (List.getElem?_eq_getElem hrl)
          rw [h] at q2; cases q2
          cases hbr : o.boxes[r]? with
          | none => rw [List.getElem?_eq_none_iff] at hbr; omega
          | some ob =>
            cases ob with
            | some t =>
              have hrc : r < (o.hc bs gs st ls).length := by omega
              rw [setAll_in _ _ _ _ (pairsB_nodup hn1) (mem_pairsB r hbr (List.getElem?_eq_getElem hrl) (List.getElem?_eq_getElem hrc)) hql] at hy
              cases hy
              exact hboxm r b t _ hbr (hG'is r b q1) (List.getElem?_eq_getElem hrc)
            | none =>
              rw [setAll_out _ _ _ (fun hmm => by
                obtain ⟨p, hp, he⟩ := List.mem_map.1 hmm
                obtain ⟨i, x⟩ := p
                obtain ⟨r', t', e1, e2, -⟩ := pairsB_mem hp
                have e2' := List.getElem?_eq_some_iff.1 e2
                have : r' = r := (List.getElem_inj hn1).1 (e2'.2.trans he)
                subst this
                rw [hbr] at e1; cases e1)] at hy
              refine (hr.boxes.box _ b y h hy).mono hGoes (hfix r b q1 (fun hc => ?_))
              rw [← Nat.zero_add r] at hc
              obtain ⟨t, ht⟩ := chg_mem hc
              rw [hbr] at ht; cases ht
        · rw [setAll_out _ _ _ (fun hmm => by
            obtain ⟨p, hp, he⟩ := List.mem_map.1 hmm
            obtain ⟨i, x⟩ := p
            obtain ⟨r', t', -, e2, -⟩ := pairsB_mem hp
            exact hm (by rw [← show i = q from he]; exact List.mem_of_getElem? e2))] at hy
          exact (hr.boxes.box q b y h hy).mono hGoes (hsame q b h hm)
      · rw [List.getElem?_append_right (by rw [setAll_length, ← hlen]; omega), setAll_length, List.getElem?_drop, ← hlen] at hy
        have hrl : bs.length + (q - G.i.length) < o.boxes.length := by rw [← hG'i]; exact (List.getElem?_eq_some_iff.1 h2).1
        obtain ⟨t, ht⟩ := hsome _ (Nat.le_add_right _ _) hrl
        exact hboxm _ b t y ht h2 hy
    · rcases hmemn b hb with h | ⟨h, -⟩
      · exact Nat.lt_of_lt_of_le (hr.boxes.lt b h) hE.size
      · exact hB.lt b h
    · show (G.i ++ G'.i.drop bs.length).Nodup
      refine List.nodup_append.2 ⟨hr.boxes.nodup, (List.drop_sublist _ _).nodup hB.nodup, fun x hx y hy e => ?_⟩
      subst e
      obtain ⟨q, hq, he⟩ := List.getElem_of_mem hy
      have h1 : (G'.i.drop bs.length)[q]? = some x := by rw [← he]; exact List.getElem?_eq_getElem hq
      rw [List.getElem?_drop] at h1
      have := hE.newB _ x (by show is.length ≤ _; omega) h1
      have := hr.boxes.lt x hx
      omega
    · refine ⟨(hB.prok b oo hp).1, fun hm => ?_⟩
      rcases hmemn b hm with h | ⟨h, -⟩
      · rcases hE.prold b oo (hr.boxes.lt b h) hp with q | q
        · exact (hr.boxes.prok b oo q).2 h
        · obtain ⟨j, j', x, hh, -, h2, h3⟩ := hselrow b q
          exact (hrowbox j' x hh b h2 h3).2 h
      · exact (hB.prok b oo hp).2 h
    · rcases hgn q (x, h) hq with ⟨h0, h1⟩ | ⟨j, h1, h2⟩
      · obtain ⟨n, xs, g1, g2, g3⟩ := hr.boxes.grow q x h h1
        have hun : ∀ b, h.ownBlock = some b → w'.heap[b]? = w.heap[b]? := fun b hbk => by
          refine hE.old b (g3 b hbk).1 (fun hf => ?_)
          rcases hf with hf | hf
          · exact (g3 b hbk).2.1 (hfooti b hf)
          · obtain ⟨j, j', x', h', e1, e2, e3⟩ := hselrow b hf
            have := hr.boxes.apart q j' x h x' h' b h1 e2 hbk e3
            exact h0 (by rw [this]; exact List.mem_of_getElem? e1)
        refine ⟨n, xs, ⟨g1.1, ?_⟩, g2, fun b hbk => ?_⟩
        · rcases g1.2 with q2 | ⟨gb, cap, cur, q2, q3, q4, q5⟩
          · exact .inl q2
          · exact .inr ⟨gb, cap, cur, q2, q3, by rw [hun gb (by rw [q2]; rfl)]; exact q4, q5⟩
        · obtain ⟨k1, k2, k3⟩ := g3 b hbk
          refine ⟨Nat.lt_of_lt_of_le k1 hE.size, fun hm => ?_, fun oo ho hp => ?_⟩
          · rcases hmemn b hm with h' | ⟨-, h'⟩
            · exact k2 h'
            · omega
          · rcases hE.prold b oo k1 hp with q' | q'
            · exact k3 oo ho q'
            · obtain ⟨j, j', x', h', e1, e2, e3⟩ := hselrow b q'
              have := hr.boxes.apart q j' x h x' h' b h1 e2 hbk e3
              exact h0 (by rw [this]; exact List.mem_of_getElem? e1)
      · obtain ⟨ro, x', q1, q2, q3, q4⟩ := hent j _ h1
        obtain ⟨n, xs, g1, g2, g3⟩ := hB.grow j x' h q2
        have hek : x.e = x'.e ∧ x.k = x'.k := by
          have q4 : x = rowAt ro (gg.map (·.1))[j]? := q4
          rw [q3, q4]
          by_cases hjg : j < gg.length
          · have e1 : g0[j]? = some { gg[j].1 with ver := 0 } := by simp [g0, Ghost.sel, hjg]
            have e2 : (gg.map (·.1))[j]? = some gg[j].1 := by simp [hjg]
            rw [e1, e2]
            cases ro <;> simp [rowAt]
          · have e1 : g0[j]? = none := List.getElem?_eq_none (by omega)
            have e2 : (gg.map (·.1))[j]? = none := List.getElem?_eq_none (by simp; omega)
            rw [e1, e2]
            exact ⟨rfl, rfl⟩
        refine ⟨n, xs, by rw [hek.1, hek.2]; exact g1, g2, fun b hbk => ?_⟩
        obtain ⟨k1, k2, k3⟩ := g3 b hbk
        refine ⟨k1, fun hm => ?_, by rw [hek.2]; exact k3⟩
        rcases hmemn b hm with h' | ⟨h', -⟩
        · rcases hblk j x' h b q2 hbk with q' | ⟨j', x0, h0, q5, q6, q7⟩
          · have := hr.boxes.lt b h'; omega
          · exact (hrowbox j' x0 h0 b q6 q7).2 h'
        · exact k2 h'
    · rcases hgn q (x, h) hq with ⟨n0, h1⟩ | ⟨j, h1, h2⟩ <;> rcases hgn q' (x', h') hq' with ⟨n0', h1'⟩ | ⟨j', h1', h2'⟩
      · exact hr.boxes.apart q q' x h x' h' b h1 h1' hb1 hb2
      · exfalso
        obtain ⟨ro, y, e1, e2, -, -⟩ := hent j' _ h1'
        rcases hblk j' y h' b e2 hb2 with q5 | ⟨j2, x0, h0, q5, q6, q7⟩
        · have := (hrowbox q x h b h1 hb1).1; omega
        · have := hr.boxes.apart q j2 x h x0 h0 b h1 q6 hb1 q7
          exact n0 (by rw [this]; exact List.mem_of_getElem? q5)
      · exfalso
        obtain ⟨ro, y, e1, e2, -, -⟩ := hent j _ h1
        rcases hblk j y h b e2 hb1 with q5 | ⟨j2, x0, h0, q5, q6, q7⟩
        · have := (hrowbox q' x' h' b h1' hb2).1; omega
        · have := hr.boxes.apart q' j2 x' h' x0 h0 b h1' q6 hb2 q7
          exact n0' (by rw [this]; exact List.mem_of_getElem? q5)
      · obtain ⟨ro, y, e1, e2, -, -⟩ := hent j _ h1
        obtain ⟨ro', y', e1', e2', -, -⟩ := hent j' _ h1'
        have := hB.apart j j' y h y' h' b e2 e2' hb1 hb2
        subst this
        rcases h2 with ⟨h2, -⟩ | ⟨h2, h3⟩ <;> rcases h2' with ⟨h2', -⟩ | ⟨h2', h3'⟩
        · rw [h2] at h2'; exact Option.some.inj h2'
        · have := (List.getElem?_eq_some_iff.1 h2).1; omega
        · have := (List.getElem?_eq_some_iff.1 h2').1; omega
        · omega
  · have hd : r ∉ (pairsB o.boxes bs (o.hc bs gs st ls)).map (·.1) ++ st.d := hd
    rw [List.mem_append, not_or] at hd
    have hgi := ev.goes.i r b hb
    refine Eq.trans ?_ (hr.fix r b hb hd.2)
    by_cases hm : r ∈ bs
    · obtain ⟨q, hql, rfl⟩ := List.getElem_of_mem hm
      obtain ⟨b', q1, q2⟩ := hig q _ (List.getElem?_eq_getElem hql)
      rw [hgi] at q2; cases q2
      refine hfix q b q1 (fun hc => hd.1 ?_)
      rw [← Nat.zero_add q] at hc
      obtain ⟨t, ht⟩ := chg_mem hc
      have hrc : q < (o.hc bs gs st ls).length := by omega
      exact List.mem_map.2 ⟨_, mem_pairsB q ht (List.getElem?_eq_getElem hql) (List.getElem?_eq_getElem hrc), rfl⟩
    · exact hsame r b hgi hm
end

end Go.RT
