/-
  RT, part 25: cuts: what of a state goes on; the state behind a cut.
-/
import Derived.Test.YtnbdahlceddihaaDoorR24
namespace Go.RT
set_option linter.unusedVariables false

variable {E : TEnv}

structure Cut where
  vars : List (Nat × PT)
  boxes : List (Option BT)
  rows : List (Option (TypeId × Nat))

def varsTys : List (Nat × PT) → List Ty
  | [] => []
  | v :: vs => v.2.tys ++ varsTys vs
def boxesTys : List (Option BT) → List Ty
  | [] => []
  | some b :: bs => b.tys ++ boxesTys bs
  | none :: bs => boxesTys bs
def Cut.tys (c : Cut) : List Ty := varsTys c.vars ++ boxesTys c.boxes

def rowsOk : List (Option (TypeId × Nat)) → List TGrow → List TGrow → Bool
  | [], _, _ => true
  | none :: rs, x :: g0, y :: g => (Nat.beq x.ver y.ver && (Nat.beq x.e y.e && Nat.beq x.k y.k)) && rowsOk rs g0 g
  | some p :: rs, x :: g0, y :: g => (Nat.beq p.1 y.e && Nat.beq p.2 y.k) && rowsOk rs g0 g
  | some p :: rs, [], y :: g => (Nat.beq p.1 y.e && Nat.beq p.2 y.k) && rowsOk rs [] g
  | _, _, _ => false
def newRows : List (Option (TypeId × Nat)) → List TGrow → List TGrow
  | [], _ => []
  | none :: rs, x :: g0 => x :: newRows rs g0
  | some p :: rs, x :: g0 => ⟨x.ver + 1, p.1, p.2⟩ :: newRows rs g0
  | some p :: rs, [] => ⟨0, p.1, p.2⟩ :: newRows rs []
  | none :: rs, [] => ⟨0, 0, 0⟩ :: newRows rs []
def newG : List (Option (TypeId × Nat)) → List TGrow → List (TGrow × Value) → List (TGrow × Value)
  | none :: rs, _ :: g0, y :: gs => y :: newG rs g0 gs
  | some _ :: rs, x :: g0, y :: gs => ({ y.1 with ver := x.ver + 1 }, y.2) :: newG rs g0 gs
  | some _ :: rs, [], y :: gs => ({ y.1 with ver := 0 }, y.2) :: newG rs [] gs
  | _, _, _ => []

theorem newG_spec : ∀ (rows : List (Option (TypeId × Nat))) (g0 : List TGrow) (gs : List (TGrow × Value)), rowsOk rows g0 (gs.map (·.1)) = true →
    (newG rows g0 gs).map (·.1) = newRows rows g0 ∧ (newG rows g0 gs).length = rows.length ∧ rows.length ≤ gs.length ∧
    ∀ (j : Nat) y, gs[j]? = some y → j < rows.length → ∃ y2, (newG rows g0 gs)[j]? = some y2 ∧ y2.2 = y.2 ∧ y2.1.e = y.1.e ∧ y2.1.k = y.1.k ∧ ∀ x0, g0[j]? = some x0 → y2.1.ver = y.1.ver ∨ x0.ver < y2.1.ver
  | [], g0, gs, h => by
    refine ⟨by unfold newG newRows; simp, by unfold newG; simp, by simp, fun j y _ hj => by simp at hj⟩
  | none :: rs, x :: g0, y :: gs, h => by
    simp only [List.map_cons, rowsOk, Bool.and_eq_true] at h
    obtain ⟨⟨h1, h2, h3⟩, h4⟩ := h
    obtain ⟨i1, i2, i3, i4⟩ := newG_spec rs g0 gs h4
    have hxy : y.1 = x := by
      have e1 := Nat.eq_of_beq_eq_true h1; have e2 := Nat.eq_of_beq_eq_true h2; have e3 := Nat.eq_of_beq_eq_true h3
      obtain ⟨⟨a, b, c⟩, v⟩ := y
      obtain ⟨a', b', c'⟩ := x
      simp only at e1 e2 e3
      simp [e1, e2, e3]
    refine ⟨by simp [newG, newRows, i1, hxy], by simp [newG, i2], by simpa using i3, fun j z hz hj => ?_⟩
    cases j with
    | zero => simp at hz; subst hz; exact ⟨y, rfl, rfl, rfl, rfl, fun _ _ => .inl rfl⟩
    | succ j => simpa [newG] using i4 j z (by simpa using hz) (by simpa using hj)
  | some p :: rs, x :: g0, y :: gs, h => by
    simp only [List.map_cons, rowsOk, Bool.and_eq_true] at h
    obtain ⟨⟨h1, h2⟩, h4⟩ := h
    obtain ⟨i1, i2, i3, i4⟩ := newG_spec rs g0 gs h4
    have e1 := Nat.eq_of_beq_eq_true h1; have e2 := Nat.eq_of_beq_eq_true h2
    refine ⟨by simp [newG, newRows, i1, e1, e2], by simp [newG, i2], by simpa using i3, fun j z hz hj => ?_⟩
    cases j with
    | zero => simp at hz; subst hz; exact ⟨_, rfl, rfl, rfl, rfl, fun x0 hx => by simp at hx; subst hx; exact .inr (Nat.lt_succ_self _)⟩
    | succ j => simpa [newG] using i4 j z (by simpa using hz) (by simpa using hj)
  | some p :: rs, [], y :: gs, h => by
    simp only [List.map_cons, rowsOk, Bool.and_eq_true] at h
    obtain ⟨⟨h1, h2⟩, h4⟩ := h
    obtain ⟨i1, i2, i3, i4⟩ := newG_spec rs [] gs h4
    have e1 := Nat.eq_of_beq_eq_true h1; have e2 := Nat.eq_of_beq_eq_true h2
    refine ⟨by simp [newG, newRows, i1, e1, e2], by simp [newG, i2], by simpa using i3, fun j z hz hj => ?_⟩
    cases j with
    | zero => simp at hz; subst hz; exact ⟨_, rfl, rfl, rfl, rfl, fun x0 hx => by simp at hx⟩
    | succ j => simpa [newG] using i4 j z (by simpa using hz) (by simpa using hj)
  | none :: rs, [], gs, h => by cases gs <;> cases h
  | none :: rs, _ :: _, [], h => by cases h
  | some _ :: rs, [], [], h => by cases h
  | some _ :: rs, _ :: _, [], h => by cases h

def varsGet (n : Rn) (st : TS E) : List (Nat × PT) → Option (List (Lf E))
  | [] => some []
  | (i, p) :: vs => match p.get n (st.at i), varsGet n st vs with
    | some l, some ls => some (l ++ ls)
    | _, _ => none
def boxesGet (n : Rn) (d : List Nat) (nb : Nat) : Nat → List (Option BT) → List (TBox E) → Option (List (Lf E))
  | _, [], _ => some []
  | r, none :: bs, _ :: H => cond (d.elem r || !(Nat.blt r nb)) none (boxesGet n d nb (r + 1) bs H)
  | r, some t :: bs, x :: H => match t.get n x, boxesGet n d nb (r + 1) bs H with
    | some l, some ls => some (l ++ ls)
    | _, _ => none
  | _, _ :: _, [] => none

/-- The boxes written since. -/
def since (d0 d : List Nat) : List Nat := d.take (d.length - d0.length)
theorem since_app (n d0 : List Nat) : since d0 (n ++ d0) = n := by simp [since]

def Cut.leaves (c : Cut) (st0 st : TS E) : Option (List (Lf E)) :=
  cond (Nat.ble st0.H.length c.boxes.length && (Nat.ble st0.g.length c.rows.length && rowsOk c.rows st0.g st.g))
    (match varsGet ⟨List.range c.boxes.length, List.range c.rows.length, st.g.map (·.ver)⟩ st c.vars, boxesGet ⟨List.range c.boxes.length, List.range c.rows.length, st.g.map (·.ver)⟩ (since st0.d st.d) st0.H.length 0 c.boxes st.H with
      | some a, some b => some (a ++ b)
      | _, _ => none) none

def dropT (W : List Nat) : Nat → List (TV E) → List (TV E)
  | _, [] => []
  | i, d :: ds => cond (W.elem i) .any d :: dropT W (i + 1) ds
def placeV (n : Rn) : List (Nat × PT) → List (TV E) → List (Lf E) → List (TV E) × List (Lf E)
  | [], t, ls => (t, ls)
  | (i, p) :: vs, t, ls => placeV n vs (t.set i (p.put n ls).1) (p.put n ls).2
def boxesPut (n : Rn) : List (Option BT) → List (TBox E) → List (Lf E) → List (TBox E)
  | [], _, _ => []
  | none :: bs, H, ls => (match H with | x :: _ => x | [] => default) :: boxesPut n bs H.tail ls
  | some t :: bs, H, ls => (t.put n ls).1 :: boxesPut n bs H.tail (t.put n ls).2
def chg : Nat → List (Option BT) → List Nat
  | _, [] => []
  | r, none :: bs => chg (r + 1) bs
  | r, some _ :: bs => r :: chg (r + 1) bs
def Cut.unpack (c : Cut) (W : List Nat) (st0 : TS E) (ls : List (Lf E)) : TS E :=
  let n : Rn := ⟨List.range c.boxes.length, List.range c.rows.length, (newRows c.rows st0.g).map (·.ver)⟩
  { t := (placeV n c.vars (dropT W 0 st0.t) ls).1
    H := boxesPut n c.boxes st0.H (placeV n c.vars (dropT W 0 st0.t) ls).2
    g := newRows c.rows st0.g
    d := chg 0 c.boxes ++ st0.d
    df := st0.df }

mutual
def TV.Bd (nb : Nat) (g : List TGrow) : TV E → Prop
  | .ptr r _ => r < nb
  | .optr b r _ => b = true → r < nb
  | .mref r => r < nb
  | .gsl j ver _ _ => ∃ x, g[j]? = some x ∧ ver ≤ x.ver
  | .sdp j ver _ => ∃ x, g[j]? = some x ∧ ver ≤ x.ver
  | .func _ caps => TV.Bds nb g caps
  | .iface _ d => TV.Bd nb g d
  | .agg cs => TV.Bds nb g cs
  | .tuple ds => TV.Bds nb g ds
  | .any => True
  | .dat _ _ => True
  | .cel _ _ _ => True
  | .val _ => True
def TV.Bds (nb : Nat) (g : List TGrow) : List (TV E) → Prop
  | [] => True
  | d :: ds => TV.Bd nb g d ∧ TV.Bds nb g ds
end

section
variable {w : World} {G G2 : Ghost}

mutual
theorem VT.bd : ∀ {d : TV E} {v : Value}, VT E w G d v → TV.Bd G.i.length (G.g.map (·.1)) d
  | .any, _, _ => by simp only [TV.Bd]
  | .dat _ _, _, _ => by simp only [TV.Bd]
  | .cel _ _ _, _, _ => by simp only [TV.Bd]
  | .val _, _, _ => by simp only [TV.Bd]
  | .ptr r off, v, h => by
    simp only [VT] at h; simp only [TV.Bd]
    obtain ⟨b, -, h⟩ := h
    exact (List.getElem?_eq_some_iff.1 h).1
  | .optr c r off, v, h => by
    simp only [TV.Bd]
    intro hc; subst hc
    simp only [VT] at h
    obtain ⟨b, -, h⟩ := h
    exact (List.getElem?_eq_some_iff.1 h).1
  | .mref r, v, h => by
    simp only [VT] at h; simp only [TV.Bd]
    obtain ⟨b, -, h⟩ := h
    exact (List.getElem?_eq_some_iff.1 h).1
  | .gsl j ver t xs, v, h => by
    simp only [VT] at h; simp only [TV.Bd]
    obtain ⟨-, x, g, hg, hle, -⟩ := h
    exact ⟨x, by simp [hg], hle⟩
  | .sdp j ver l, v, h => by
    simp only [VT] at h; simp only [TV.Bd]
    obtain ⟨x, g, u, hg, hle, -⟩ := h
    exact ⟨x, by simp [hg], hle⟩
  | .func fn caps, v, h => by
    simp only [VT] at h; simp only [TV.Bd]
    obtain ⟨vs, -, h⟩ := h
    exact VTs.bd h
  | .iface ty d, v, h => by
    simp only [VT] at h; simp only [TV.Bd]
    obtain ⟨u, -, h⟩ := h
    exact VT.bd h
  | .agg cs, v, h => by
    simp only [VT] at h; simp only [TV.Bd]
    obtain ⟨vs, -, -, h⟩ := h
    exact VTs.bd h
  | .tuple ds, v, h => by
    simp only [VT] at h; simp only [TV.Bd]
    obtain ⟨vs, -, h⟩ := h
    exact VTs.bd h
theorem VTs.bd : ∀ {ds : List (TV E)} {vs : List Value}, VTs E w G ds vs → TV.Bds G.i.length (G.g.map (·.1)) ds
  | [], _, _ => by simp only [TV.Bds]
  | d :: ds, vs, h => by
    simp only [VTs] at h; simp only [TV.Bds]
    obtain ⟨u, us, -, h1, h2⟩ := h
    exact ⟨VT.bd h1, VTs.bd h2⟩
end

/-- The boxes and rows up to some numbers, kept or with later versions. -/
structure Reb (G G2 : Ghost) (nb : Nat) (g0 : List TGrow) : Prop where
  pr : ∀ b o, G.pr b o → G2.pr b o
  i : ∀ r b, r < nb → G.i[r]? = some b → G2.i[r]? = some b
  g : ∀ (j : Nat) x0 x h, g0[j]? = some x0 → G.g[j]? = some (x, h) → ∃ x2, G2.g[j]? = some (x2, h) ∧ (x2.ver = x.ver ∨ x0.ver < x2.ver)

mutual
theorem VT.reb {nb : Nat} {g0 : List TGrow} (hR : Reb G G2 nb g0) : ∀ {d : TV E} {v : Value}, VT E w G d v → TV.Bd nb g0 d → VT E w G2 d v
  | .any, _, _, _ => by simp only [VT]
  | .dat t x, v, h, _ => h.dat_pr hR.pr
  | .cel t x off, v, h, _ => by
    simp only [VT] at h ⊢
    obtain ⟨b, o, c, rfl, h1, h2⟩ := h
    exact ⟨b, o, c, rfl, h1.mono hR.pr (fun _ _ _ _ h => h), fun l u hl => ⟨hR.pr _ _ (h2 l u hl).1, (h2 l u hl).2⟩⟩
  | .val _, _, h, _ => by simpa only [VT] using h
  | .ptr r off, v, h, hb => by
    simp only [VT] at h ⊢; simp only [TV.Bd] at hb
    obtain ⟨b, rfl, h⟩ := h
    exact ⟨b, rfl, hR.i r b hb h⟩
  | .optr c r off, v, h, hb => by
    simp only [TV.Bd] at hb
    cases c <;> simp only [VT] at h ⊢
    · exact h
    · obtain ⟨b, rfl, h⟩ := h
      exact ⟨b, rfl, hR.i r b (hb rfl) h⟩
  | .mref r, v, h, hb => by
    simp only [VT] at h ⊢; simp only [TV.Bd] at hb
    obtain ⟨b, rfl, h⟩ := h
    exact ⟨b, rfl, hR.i r b hb h⟩
  | .gsl j ver t xs, v, h, hb => by
    simp only [VT] at h ⊢; simp only [TV.Bd] at hb
    obtain ⟨hvd, x, g, hg, hle, heq⟩ := h
    obtain ⟨x0, hx0, hle0⟩ := hb
    obtain ⟨x2, h2, hc⟩ := hR.g j x0 x g hx0 hg
    refine ⟨hvd.mono hR.pr (fun _ _ _ _ h => h), x2, g, h2, ?_, fun e => ?_⟩
    · rcases hc with hc | hc <;> omega
    · rcases hc with hc | hc
      · exact heq (by omega)
      · omega
  | .sdp j ver l, v, h, hb => by
    simp only [VT] at h ⊢; simp only [TV.Bd] at hb
    obtain ⟨x, g, u, hg, hle, hvd, heq⟩ := h
    obtain ⟨x0, hx0, hle0⟩ := hb
    obtain ⟨x2, h2, hc⟩ := hR.g j x0 x g hx0 hg
    refine ⟨x2, g, u, h2, ?_, hvd.mono hR.pr (fun _ _ _ _ h => h), fun e => ?_⟩
    · rcases hc with hc | hc <;> omega
    · rcases hc with hc | hc
      · exact heq (by omega)
      · omega
  | .func fn caps, v, h, hb => by
    simp only [VT] at h ⊢; simp only [TV.Bd] at hb
    obtain ⟨vs, rfl, h⟩ := h
    exact ⟨vs, rfl, VTs.reb hR h hb⟩
  | .iface ty d, v, h, hb => by
    simp only [VT] at h ⊢; simp only [TV.Bd] at hb
    obtain ⟨u, rfl, h⟩ := h
    exact ⟨u, rfl, VT.reb hR h hb⟩
  | .agg cs, v, h, hb => by
    simp only [VT] at h ⊢; simp only [TV.Bd] at hb
    obtain ⟨vs, rfl, h1, h⟩ := h
    exact ⟨vs, rfl, h1, VTs.reb hR h hb⟩
  | .tuple ds, v, h, hb => by
    simp only [VT] at h ⊢; simp only [TV.Bd] at hb
    obtain ⟨vs, rfl, h⟩ := h
    exact ⟨vs, rfl, VTs.reb hR h hb⟩
theorem VTs.reb {nb : Nat} {g0 : List TGrow} (hR : Reb G G2 nb g0) : ∀ {ds : List (TV E)} {vs : List Value}, VTs E w G ds vs → TV.Bds nb g0 ds → VTs E w G2 ds vs
  | [], _, h, _ => by simp only [VTs] at h ⊢; exact h
  | d :: ds, vs, h, hb => by
    simp only [VTs] at h ⊢; simp only [TV.Bds] at hb
    obtain ⟨u, us, rfl, h1, h2⟩ := h
    exact ⟨u, us, rfl, VT.reb hR h1 hb.1, VTs.reb hR h2 hb.2⟩
end

def TBox.Bd (nb : Nat) (g : List TGrow) : TBox E → Prop
  | .cells _ cs => TV.Bds nb g cs
  | _ => True
theorem BoxOk.bd {b : Nat} {x : TBox E} (h : BoxOk E w G b x) : x.Bd G.i.length (G.g.map (·.1)) := by
  cases x with
  | cells t cs => obtain ⟨vs, -, -, h⟩ := h; exact h.bd
  | _ => trivial
theorem BoxOk.reb {nb : Nat} {g0 : List TGrow} (hR : Reb G G2 nb g0) {b : Nat} {x : TBox E} (h : BoxOk E w G b x) (hb : x.Bd nb g0) : BoxOk E w G2 b x := by
  cases x with
  | cells t cs => obtain ⟨vs, h1, h2, h3⟩ := h; exact ⟨vs, h1, h2, VTs.reb hR h3 hb⟩
  | iter s pos => exact h
  | map kt vt m => obtain ⟨es, clock, h1, h2, h3⟩ := h; exact ⟨es, clock, h1, h2, h3.pr hR.pr⟩
def DBd (nb : Nat) (g : List TGrow) : List (FuncId × List (TV E)) → Prop
  | [] => True
  | x :: xs => TV.Bds nb g x.2 ∧ DBd nb g xs
theorem DRel.bd : ∀ {ds : List Deferred} {xs : List (FuncId × List (TV E))}, DRel E w G ds xs → DBd G.i.length (G.g.map (·.1)) xs
  | [], [], _ => trivial
  | _ :: _, _ :: _, h => ⟨by obtain ⟨cap, -, h2⟩ := h.1; exact h2.bd, DRel.bd h.2⟩
  | [], _ :: _, h => h.elim
  | _ :: _, [], h => h.elim
theorem DRel.reb {nb : Nat} {g0 : List TGrow} (hR : Reb G G2 nb g0) : ∀ {ds : List Deferred} {xs : List (FuncId × List (TV E))}, DRel E w G ds xs → DBd nb g0 xs → DRel E w G2 ds xs
  | [], [], _, _ => trivial
  | _ :: _, _ :: _, h, hb => ⟨by obtain ⟨cap, h1, h2⟩ := h.1; exact ⟨cap, h1, VTs.reb hR h2 hb.1⟩, DRel.reb hR h.2 hb.2⟩
  | [], _ :: _, h, _ => h.elim
  | _ :: _, [], h, _ => h.elim
end

/-- What is known of a state whenever it is met, whatever the world. -/
structure Pre (G0 : Ghost) (st : TS E) : Prop where
  nb : G0.i.length ≤ st.H.length
  rows : ∀ (j : Nat) x0 h0, G0.g[j]? = some (x0, h0) → ∃ x, st.g[j]? = some x ∧ x0.ver ≤ x.ver
  slots : ∀ (i : Nat) d, st.t[i]? = some d → d.Bd st.H.length st.g
  boxes : ∀ (r : Nat) x, st.H[r]? = some x → x.Bd st.H.length st.g
  defs : DBd st.H.length st.g st.df

section
variable {w0 w : World} {G0 G : Ghost} {st0 st : TS E} {a : Act}

theorem Goes.len {w1 w2 : World} {G1 G2 : Ghost} (h : Goes w1 G1 w2 G2) : G1.i.length ≤ G2.i.length := by
  by_cases h0 : G1.i.length = 0
  · omega
  · have hl : G1.i.length - 1 < G1.i.length := by omega
    have := (List.getElem?_eq_some_iff.1 (h.i _ _ (List.getElem?_eq_getElem hl))).1
    omega

theorem Rel.pre (h : Rel E w0 G0 st a w G) : Pre G0 st := by
  have hl := h.boxes.len
  have hg := h.boxes.gs
  refine ⟨by rw [← hl]; exact h.evol.goes.len, fun j x0 h0 hj => ?_, fun i d hi => ?_, fun r x hr => ?_, ?_⟩
  · obtain ⟨x', h', h1, h2, -⟩ := h.evol.goes.g j x0 h0 hj
    exact ⟨x', by rw [← hg]; simp [h1], h2⟩
  · have := (h.tmps i d hi).bd
    rw [hl, hg] at this
    exact this
  · have hlt : r < G.i.length := by rw [hl]; exact (List.getElem?_eq_some_iff.1 hr).1
    have := (h.boxes.box r _ x (List.getElem?_eq_getElem hlt) hr).bd
    rw [hl, hg] at this
    exact this
  · have := h.defers.bd
    rw [hl, hg] at this
    exact this

theorem dropT_length (W : List Nat) : ∀ (i : Nat) (l : List (TV E)), (dropT W i l).length = l.length
  | _, [] => rfl
  | i, d :: ds => by simp [dropT, dropT_length W (i + 1) ds]
theorem dropT_get (W : List Nat) : ∀ (i : Nat) (l : List (TV E)) (j : Nat) (d : TV E), (dropT W i l)[j]? = some d → d = .any ∨ ((i + j) ∉ W ∧ l[j]? = some d)
  | _, [], j, d, h => by simp [dropT] at h
  | i, x :: ds, 0, d, h => by
    simp only [dropT, List.getElem?_cons_zero, Option.some.injEq] at h
    cases hw : W.elem i <;> rw [hw] at h <;> simp only [cond_true, cond_false] at h
    · refine .inr ⟨fun hm => ?_, by simp [h]⟩
      rw [Nat.add_zero] at hm
      rw [List.elem_eq_true_of_mem hm] at hw; cases hw
    · exact .inl h.symm
  | i, x :: ds, j + 1, d, h => by
    have := dropT_get W (i + 1) ds j d (by simpa [dropT] using h)
    rw [Nat.add_right_comm, Nat.add_assoc] at this
    simpa using this

theorem placeV_ok {G2 : Ghost} {n n2 : Rn} (hL : Link w G n G2 n2) (ha : ∀ i, VT E w G (st.at i) (a.tmps.getD i undef)) : ∀ (vs : List (Nat × PT)) (t : List (TV E)) (ls rest : List (Lf E)), varsGet n st vs = some ls →
    (∀ (j : Nat) d, t[j]? = some d → VT E w G2 d (a.tmps.getD j undef)) →
    (placeV n2 vs t (ls ++ rest)).2 = rest ∧ (placeV n2 vs t (ls ++ rest)).1.length = t.length ∧ ∀ (j : Nat) d, (placeV n2 vs t (ls ++ rest)).1[j]? = some d → VT E w G2 d (a.tmps.getD j undef)
  | [], t, ls, rest, h, ht => by cases h; exact ⟨rfl, rfl, ht⟩
  | (i, p) :: vs, t, ls, rest, h, ht => by
    simp only [varsGet] at h
    split at h <;> try (cases h; done)
    rename_i l ls' h1 h2
    cases h
    obtain ⟨e1, e2⟩ := PT.sound hL (rest := ls' ++ rest) h1 (ha i)
    simp only [placeV, List.append_assoc, e1]
    obtain ⟨q1, q2, q3⟩ := placeV_ok hL ha vs (t.set i (p.put n2 (l ++ (ls' ++ rest))).1) ls' rest h2 (fun j d hj => by
      rw [List.getElem?_set] at hj
      by_cases hij : i = j
      · subst hij
        by_cases hlt : i < t.length
        · simp [hlt] at hj; subst hj; exact e2
        · simp [hlt] at hj
      · rw [if_neg hij] at hj; exact ht j d hj)
    exact ⟨q1, by simpa using q2, q3⟩

theorem boxesPut_ok {G2 : Ghost} {n n2 : Rn} (hL : Link w G n G2 n2) {D : List Nat} {nb : Nat} : ∀ (bs : List (Option BT)) (r : Nat) (H H0 : List (TBox E)) (is : List Nat) (ls rest : List (Lf E)), boxesGet n D nb r bs H = some ls →
    (∀ (q b : Nat) x, is[q]? = some b → H[q]? = some x → BoxOk E w G b x) → (∀ (q b : Nat) x, is[q]? = some b → r + q < nb → r + q ∉ D → H0[q]? = some x → BoxOk E w G2 b x) → nb ≤ r + H0.length →
    (boxesPut n2 bs H0 (ls ++ rest)).length = bs.length ∧ bs.length ≤ H.length ∧ ∀ (q b : Nat) x, is[q]? = some b → (boxesPut n2 bs H0 (ls ++ rest))[q]? = some x → BoxOk E w G2 b x
  | [], r, H, H0, is, ls, rest, h, hb, h0, hn => by
    simp [boxesPut]
  | none :: bs, r, x :: H, H0, is, ls, rest, h, hb, h0, hn => by
    simp only [boxesGet] at h
    cases hc : (D.elem r || !(Nat.blt r nb)) <;> rw [hc] at h <;> simp only [cond_true, cond_false] at h
    · rw [Bool.or_eq_false_iff] at hc
      have hlt : r < nb := by simpa using hc.2
      have hnd : r ∉ D := fun hm => by rw [List.elem_eq_true_of_mem hm] at hc; cases hc.1
      obtain ⟨y, H0', rfl⟩ : ∃ y H0', H0 = y :: H0' := by
        cases H0 with
        | nil => simp at hn; omega
        | cons y H0' => exact ⟨y, H0', rfl⟩
      obtain ⟨q1, q2, q3⟩ := boxesPut_ok hL bs (r + 1) H H0' is.tail ls rest h (fun q b z hq hz => hb (q + 1) b z (by cases is <;> simp_all) (by simpa using hz))
        (fun q b z hq h1 h2 hz => h0 (q + 1) b z (by cases is <;> simp_all) (by omega) (by rw [show r + (q + 1) = r + 1 + q by omega]; exact h2) (by simpa using hz)) (by simp at hn; omega)
      refine ⟨by simp [boxesPut, q1], by simpa using q2, fun q b z hq hz => ?_⟩
      cases q with
      | zero => simp [boxesPut] at hz; subst hz; exact h0 0 b y hq (by omega) (by simpa using hnd) (by simp)
      | succ q => exact q3 q b z (by cases is <;> simp_all) (by simpa [boxesPut] using hz)
    · cases h
  | some t :: bs, r, x :: H, H0, is, ls, rest, h, hb, h0, hn => by
    simp only [boxesGet] at h
    split at h <;> try (cases h; done)
    rename_i l ls' h1 h2
    cases h
    have hkey : ∀ b, is[0]? = some b → (t.put n2 (l ++ (ls' ++ rest))).2 = ls' ++ rest ∧ BoxOk E w G2 b (t.put n2 (l ++ (ls' ++ rest))).1 := fun b hb0 => BT.sound hL h1 (hb 0 b x hb0 (by simp))
    have hrest : (t.put n2 (l ++ (ls' ++ rest))).2 = ls' ++ rest := by
      -- what is left does not depend on the world
      have aux : ∀ (t : BT) (x : TBox E) (l rest : List (Lf E)), t.get n x = some l → (t.put n2 (l ++ rest)).2 = rest := by
        have auxC : ∀ (c : CT) (d : TV E) (l rest : List (Lf E)), c.get n d = some l → (c.put n2 (l ++ rest)).2 = rest := by
          intro c d l rest h
          unfold CT.get at h
          split at h <;> try (cases h; done)
          · split at h <;> cases h; rfl
          · cases h; rfl
          · split at h <;> try (cases h; done)
            rename_i r off r' off' _ r'' _
            cases hb : nat2 r'' r' off off' <;> rw [hb] at h <;> cases h; rfl
          · split at h <;> try (cases h; done)
            rename_i r off bb r' off' _ r'' _
            cases hb : nat2 r'' r' off off' <;> rw [hb] at h <;> cases h; rfl
          · split at h <;> try (cases h; done)
            rename_i r off r' off' _ r'' _
            cases hb : nat2 r'' r' off off' <;> rw [hb] at h <;> cases h; rfl
          · cases h; rfl
          · split at h <;> try (cases h; done)
            rename_i r r' _ r'' _
            cases hb : Nat.beq r'' r' <;> rw [hb] at h <;> cases h; rfl
          · split at h <;> try (cases h; done)
            split at h <;> try (cases h; done)
            rename_i j t j' ver t' xs _ _ j'' vv _ _ ht
            cases hb : nat2 j'' j' vv ver <;> rw [hb] at h <;> cases h; rfl
          · rename_i f caps f' cs
            cases hb : (Nat.beq f f' && capsOk n caps cs) <;> rw [hb] at h <;> cases h; rfl
          · split at h <;> try (cases h; done)
            rename_i k u _ k' _
            cases hb : decide (k = k') <;> rw [hb] at h <;> cases h; rfl
          · split at h <;> try (cases h; done)
            rename_i t off t' y off' ht
            cases hb : Nat.beq off off' <;> rw [hb] at h <;> cases h; rfl
          · split at h <;> try (cases h; done)
            rename_i ty t ty' d' _ x _
            cases hb : Nat.beq ty ty' <;> rw [hb] at h <;> cases h; rfl
        have auxL : ∀ (cs : List CT) (ds : List (TV E)) (l rest : List (Lf E)), CT.getL n cs ds = some l → (CT.putL n2 cs (l ++ rest)).2 = rest := by
          intro cs
          induction cs with
          | nil => intro ds l rest h; cases ds <;> cases h; rfl
          | cons c cs ih =>
            intro ds l rest h
            cases ds with
            | nil => cases h
            | cons d ds =>
              simp only [CT.getL] at h
              split at h <;> try (cases h; done)
              rename_i l1 l2 h1 h2
              cases h
              simp only [CT.putL, List.append_assoc, auxC c d l1 (l2 ++ rest) h1, ih ds l2 rest h2]
        intro t x l rest h
        unfold BT.get at h
        split at h <;> try (cases h; done)
        · rename_i ty cs ty' ds
          cases hb : Nat.beq ty ty' <;> rw [hb] at h <;> simp only [cond_true, cond_false] at h
          · cases h
          exact auxL cs ds l rest h
        · split at h <;> cases h; rfl
        · cases h; rfl
      exact aux t x l (ls' ++ rest) h1
    obtain ⟨q1, q2, q3⟩ := boxesPut_ok hL bs (r + 1) H H0.tail is.tail ls' rest h2 (fun q b z hq hz => hb (q + 1) b z (by cases is <;> simp_all) (by simpa using hz))
      (fun q b z hq h1 h2 hz => h0 (q + 1) b z (by cases is <;> simp_all) (by omega) (by rw [show r + (q + 1) = r + 1 + q by omega]; exact h2) (by cases H0 <;> simp_all)) (by cases H0 <;> simp_all <;> omega)
    refine ⟨by simp only [boxesPut, List.append_assoc, hrest, List.length_cons, q1], by simpa using q2, fun q b z hq hz => ?_⟩
    cases q with
    | zero =>
      simp only [boxesPut, List.append_assoc, List.getElem?_cons_zero, Option.some.injEq] at hz
      subst hz
      exact (hkey b hq).2
    | succ q =>
      refine q3 q b z (by cases is <;> simp_all) ?_
      simpa only [boxesPut, List.append_assoc, hrest, List.getElem?_cons_succ] using hz
  | none :: bs, r, [], H0, is, ls, rest, h, hb, h0, hn => by cases h
  | some _ :: bs, r, [], H0, is, ls, rest, h, hb, h0, hn => by cases h

theorem boxesGet_none {n : Rn} {D : List Nat} {nb : Nat} : ∀ (bs : List (Option BT)) (r : Nat) (H : List (TBox E)) (ls : List (Lf E)), boxesGet n D nb r bs H = some ls → ∀ q, q < bs.length → r + q ∉ chg r bs → r + q ∉ D
  | [], r, H, ls, _, q, hq, _ => by simp at hq
  | none :: bs, r, x :: H, ls, h, q, hq, hc => by
    simp only [boxesGet] at h
    cases hb : (D.elem r || !(Nat.blt r nb)) <;> rw [hb] at h <;> simp only [cond_true, cond_false] at h
    · rw [Bool.or_eq_false_iff] at hb
      cases q with
      | zero => intro hm; rw [Nat.add_zero] at hm; rw [List.elem_eq_true_of_mem hm] at hb; cases hb.1
      | succ q =>
        have := boxesGet_none bs (r + 1) H ls h q (by simpa using hq) (by rw [show r + 1 + q = r + (q + 1) by omega]; exact hc)
        rw [show r + 1 + q = r + (q + 1) by omega] at this
        exact this
    · cases h
  | some t :: bs, r, x :: H, ls, h, q, hq, hc => by
    simp only [boxesGet] at h
    split at h <;> try (cases h; done)
    rename_i l ls' h1 h2
    cases q with
    | zero => exact (hc (by simp [chg])).elim
    | succ q =>
      have := boxesGet_none bs (r + 1) H ls' h2 q (by simpa using hq) (by rw [show r + 1 + q = r + (q + 1) by omega]; exact fun hm => hc (by simp [chg, hm]))
      rw [show r + 1 + q = r + (q + 1) by omega] at this
      exact this
  | none :: bs, r, [], ls, h, _, _, _ => by cases h
  | some _ :: bs, r, [], ls, h, _, _, _ => by cases h
end

end Go.RT
