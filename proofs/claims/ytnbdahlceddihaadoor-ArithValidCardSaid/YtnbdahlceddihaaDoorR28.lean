/-
  RT, part 28: a call seen from the caller: what the callee sees, and the state behind the call.
-/
import Derived.Test.YtnbdahlceddihaaDoorR27
namespace Go.RT
set_option linter.unusedVariables false

variable {E : TEnv}

def nodupN : List Nat → Bool
  | [] => true
  | x :: xs => !(xs.elem x) && nodupN xs
theorem nodupN_ok : ∀ {l : List Nat}, nodupN l = true → l.Nodup
  | [], _ => List.nodup_nil
  | x :: xs, h => by
    simp only [nodupN, Bool.and_eq_true, Bool.not_eq_true'] at h
    refine List.nodup_cons.2 ⟨fun hm => ?_, nodupN_ok h.2⟩
    rw [List.elem_eq_true_of_mem hm] at h; cases h.1

def pick {α : Type} (l : List α) : List Nat → Option (List α)
  | [] => some []
  | i :: is => match l[i]?, pick l is with
    | some x, some xs => some (x :: xs)
    | _, _ => none
theorem pick_get {α : Type} {l : List α} : ∀ {is : List Nat} {xs : List α}, pick l is = some xs → xs.length = is.length ∧ ∀ (r i : Nat), is[r]? = some i → ∃ x, xs[r]? = some x ∧ l[i]? = some x
  | [], xs, h => by cases h; exact ⟨rfl, fun r i hr => by simp at hr⟩
  | i :: is, xs, h => by
    simp only [pick] at h
    split at h <;> try (cases h; done)
    rename_i x ys h1 h2
    cases h
    obtain ⟨q1, q2⟩ := pick_get h2
    refine ⟨by simp [q1], fun r k hr => ?_⟩
    cases r with
    | zero => simp at hr; subst hr; exact ⟨x, rfl, h1⟩
    | succ r => simpa using q2 r k (by simpa using hr)
theorem pick_of {α β : Type} {l : List α} {m : List β} (hl : l.length = m.length) : ∀ {is : List Nat} {xs : List α}, pick l is = some xs → ∃ ys, pick m is = some ys
  | [], xs, h => ⟨[], rfl⟩
  | i :: is, xs, h => by
    simp only [pick] at h
    split at h <;> try (cases h; done)
    rename_i x ys h1 h2
    obtain ⟨zs, hz⟩ := pick_of hl h2
    have hi : i < m.length := by rw [← hl]; exact (List.getElem?_eq_some_iff.1 h1).1
    exact ⟨m[i] :: zs, by simp only [pick, hz, List.getElem?_eq_getElem hi]⟩

def rowsSame : List (TypeId × Nat) → List TGrow → Bool
  | [], [] => true
  | p :: ps, x :: xs => (Nat.beq p.1 x.e && Nat.beq p.2 x.k) && rowsSame ps xs
  | _, _ => false
theorem rowsSame_ok : ∀ {ps : List (TypeId × Nat)} {xs : List TGrow}, rowsSame ps xs = true → ps.length = xs.length ∧ ∀ (j : Nat) p x, ps[j]? = some p → xs[j]? = some x → p.1 = x.e ∧ p.2 = x.k
  | [], [], _ => ⟨rfl, fun j p x h => by simp at h⟩
  | p :: ps, x :: xs, h => by
    simp only [rowsSame, Bool.and_eq_true] at h
    obtain ⟨q1, q2⟩ := rowsSame_ok h.2
    refine ⟨by simp [q1], fun j p' x' hp hx => ?_⟩
    cases j with
    | zero => simp at hp hx; subst hp; subst hx; exact ⟨Nat.eq_of_beq_eq_true h.1.1, Nat.eq_of_beq_eq_true h.1.2⟩
    | succ j => exact q2 j p' x' (by simpa using hp) (by simpa using hx)
  | [], _ :: _, h => by cases h
  | _ :: _, [], h => by cases h

/-- What the callee is given: the leaves. -/
def Shp.enter (s : Shp) (bs gs : List Nat) (st : TS E) (ds : List (TV E)) : Option (List (Lf E)) :=
  match pick st.H bs, pick st.g gs with
  | some H, some g => cond (nodupN bs && (nodupN gs && (Nat.beq bs.length s.boxes.length && rowsSame s.rows g)))
      (match ptsGet ⟨bs, gs, g.map (·.ver)⟩ s.args ds, btsGet ⟨bs, gs, g.map (·.ver)⟩ s.boxes H with
        | some a, some b => some (a ++ b)
        | _, _ => none) none
  | _, _ => none

section
variable {w : World} {G G2 : Ghost} {n n2 : Rn}
theorem ptsSound (hL : Link w G n G2 n2) : ∀ {ps : List PT} {ds : List (TV E)} {ls rest : List (Lf E)} {vs : List Value}, ptsGet n ps ds = some ls → VTs E w G ds vs →
    (ptsPut n2 ps (ls ++ rest)).2 = rest ∧ VTs E w G2 (ptsPut n2 ps (ls ++ rest)).1 vs
  | [], [], ls, rest, vs, h, hv => by cases h; simp only [VTs] at hv; subst hv; exact ⟨rfl, VTs.nil⟩
  | p :: ps, d :: ds, ls, rest, vs, h, hv => by
    simp only [ptsGet] at h
    split at h <;> try (cases h; done)
    rename_i l ls' h1 h2
    cases h
    obtain ⟨u, us, rfl, q1, q2⟩ := hv.cons_inv
    obtain ⟨e1, e2⟩ := PT.sound hL (rest := ls' ++ rest) h1 q1
    obtain ⟨e3, e4⟩ := ptsSound hL (rest := rest) h2 q2
    simp only [ptsPut, List.append_assoc, e1]
    exact ⟨e3, .cons e2 e4⟩
  | [], _ :: _, _, _, _, h, _ => by cases h
  | _ :: _, [], _, _, _, h, _ => by cases h
theorem btsSound (hL : Link w G n G2 n2) : ∀ {ts : List BT} {xs : List (TBox E)} {ls rest : List (Lf E)} {is : List Nat}, btsGet n ts xs = some ls → is.length = xs.length → (∀ (q b : Nat) x, is[q]? = some b → xs[q]? = some x → BoxOk E w G b x) →
    (btsPut n2 ts (ls ++ rest)).1.length = ts.length ∧ ∀ (q b : Nat) x, is[q]? = some b → (btsPut n2 ts (ls ++ rest)).1[q]? = some x → BoxOk E w G2 b x
  | [], [], ls, rest, is, h, _, hv => by cases h; exact ⟨rfl, fun q b x _ hx => by simp [btsPut] at hx⟩
  | t :: ts, x :: xs, ls, rest, is, h, hil, hv => by
    simp only [btsGet] at h
    split at h <;> try (cases h; done)
    rename_i l ls' h1 h2
    cases h
    cases is with
    | nil => simp at hil
    | cons i is =>
      obtain ⟨e1, e2⟩ := BT.sound hL (rest := ls' ++ rest) h1 (hv 0 i x (by simp) (by simp))
      obtain ⟨e3, e4⟩ := btsSound hL (rest := rest) (is := is) h2 (by simpa using hil) (fun q b y hq hy => hv (q + 1) b y (by simpa using hq) (by simpa using hy))
      simp only [btsPut, List.append_assoc, e1]
      refine ⟨by simp [e3], fun q b y hq hy => ?_⟩
      cases q with
      | zero => simp at hq hy; subst hq; subst hy; exact e2
      | succ q => exact e4 q b y (by simpa using hq) (by simpa using hy)
  | [], _ :: _, _, _, _, h, _, _ => by cases h
  | _ :: _, [], _, _, _, h, _, _ => by cases h
end

/-- The ghost that the callee sees. -/
def Ghost.sel (G : Ghost) (is : List Nat) (gs : List (TGrow × Value)) : Ghost := ⟨is, gs.map fun x => ({ x.1 with ver := 0 }, x.2), G.pr⟩

section
variable {P : Program} {w0 w w' : World} {G0 G G' : Ghost} {st : TS E} {a : Act}

theorem Rel.enter (hr : Rel E w0 G0 st a w G) {s : Shp} {bs gs : List Nat} {ds : List (TV E)} {ls : List (Lf E)} {vs : List Value} (h : s.enter bs gs st ds = some ls) (hv : VTs E w G ds vs) :
    ∃ is gg, pick G.i bs = some is ∧ pick G.g gs = some gg ∧ Boxes E w (G.sel is gg) (s.H ls) s.g0 ∧ VTs E w (G.sel is gg) (s.ds ls) vs := by
  unfold Shp.enter at h
  split at h <;> try (cases h; done)
  rename_i H g hH hg
  cases hc : (nodupN bs && (nodupN gs && (Nat.beq bs.length s.boxes.length && rowsSame s.rows g))) <;> rw [hc] at h <;> simp only [cond_true, cond_false] at h
  · cases h
  simp only [Bool.and_eq_true] at hc
  obtain ⟨hn1, hn2, hbl, hrs⟩ := hc
  have hbl := Nat.eq_of_beq_eq_true hbl
  obtain ⟨hrl, hrs⟩ := rowsSame_ok hrs
  split at h <;> try (cases h; done)
  rename_i la lb hla hlb
  cases h
  have hgs := hr.boxes.gs
  obtain ⟨is, hi⟩ := pick_of (m := G.i) hr.boxes.len.symm hH
  obtain ⟨gg, hgg⟩ := pick_of (m := G.g) (by rw [← hgs]; simp) hg
  obtain ⟨hHl, hHg⟩ := pick_get hH
  obtain ⟨hgl, hgg'⟩ := pick_get hg
  obtain ⟨hil, hig⟩ := pick_get hi
  obtain ⟨hggl, hggg⟩ := pick_get hgg
  have hgr : ∀ (j : Nat) x y, gg[j]? = some x → g[j]? = some y → x.1 = y := fun j x y hx hy => by
    have hj : j < gs.length := by rw [← hggl]; exact (List.getElem?_eq_some_iff.1 hx).1
    obtain ⟨x', h1, h2⟩ := hggg j _ (List.getElem?_eq_getElem hj)
    obtain ⟨y', h3, h4⟩ := hgg' j _ (List.getElem?_eq_getElem hj)
    rw [hx] at h1; cases h1
    rw [hy] at h3; cases h3
    rw [← hgs, List.getElem?_map, h2] at h4
    simpa using h4
  have hg0 : (gg.map fun x => ({ x.1 with ver := 0 } : TGrow)) = s.g0 := by
    unfold Shp.g0
    apply List.ext_getElem?
    intro j
    rw [List.getElem?_map, List.getElem?_map]
    by_cases hj : j < gs.length
    · have h1 : j < gg.length := by omega
      have h2 : j < g.length := by omega
      have h3 : j < s.rows.length := by omega
      rw [List.getElem?_eq_getElem h1, List.getElem?_eq_getElem h3]
      have e1 := hgr j _ _ (List.getElem?_eq_getElem h1) (List.getElem?_eq_getElem h2)
      obtain ⟨e2, e3⟩ := hrs j _ _ (List.getElem?_eq_getElem h3) (List.getElem?_eq_getElem h2)
      simp [e1, e2, e3]
    · rw [List.getElem?_eq_none (by omega), List.getElem?_eq_none (by omega)]; rfl
  have hLink : Link w G ⟨bs, gs, g.map (·.ver)⟩ (G.sel is gg) s.n0 := by
    refine ⟨fun _ _ h => h, fun r r' b h1 h2 => ?_, fun j j' v x hd h1 h2 h3 => ?_⟩
    · obtain ⟨b', h3, h4⟩ := hig r r' h1
      rw [h2] at h4; cases h4
      have hrl : r < s.boxes.length := by rw [← hbl]; exact (List.getElem?_eq_some_iff.1 h1).1
      exact ⟨r, by simp [Shp.n0, hrl], h3⟩
    · obtain ⟨x', h4, h5⟩ := hggg j j' h1
      rw [h3] at h5; cases h5
      have hjl : j < gs.length := (List.getElem?_eq_some_iff.1 h1).1
      have h6 : j < g.length := by omega
      have e1 := hgr j _ _ h4 (List.getElem?_eq_getElem h6)
      have h2 : (g.map (·.ver))[j]? = some v := h2
      rw [List.getElem?_map, List.getElem?_eq_getElem h6] at h2
      have h2 : g[j].ver = v := by simpa using h2
      have h7 : j < s.rows.length := by omega
      refine ⟨by simp only at e1; rw [e1]; exact h2, j, 0, { x with ver := 0 }, by simp [Shp.n0, h7], ?_, by simp [Ghost.sel, h4], rfl⟩
      simp [Shp.n0, Shp.g0, h7]
  obtain ⟨p1, p2⟩ := ptsSound hLink (rest := lb) hla hv
  obtain ⟨q1, q2⟩ := btsSound hLink (rest := []) (is := is) hlb (by omega) (fun q b x hq hx => by
    have hql : q < bs.length := by rw [← hil]; exact (List.getElem?_eq_some_iff.1 hq).1
    obtain ⟨b', h1, h2⟩ := hig q _ (List.getElem?_eq_getElem hql)
    obtain ⟨x', h3, h4⟩ := hHg q _ (List.getElem?_eq_getElem hql)
    rw [hq] at h1; cases h1
    rw [hx] at h3; cases h3
    exact hr.boxes.box _ b x h2 h4)
  rw [List.append_nil] at q1 q2
  have hmem : ∀ b, b ∈ is → b ∈ G.i := fun b hb => by
    obtain ⟨q, hq, rfl⟩ := List.getElem_of_mem hb
    obtain ⟨b', h1, h2⟩ := hig q _ (List.getElem?_eq_getElem (by omega))
    rw [List.getElem?_eq_getElem hq] at h1; cases h1
    exact List.mem_of_getElem? h2
  have hrow : ∀ (j : Nat) x hd, ((G.sel is gg).g)[j]? = some (x, hd) → ∃ j' y, gs[j]? = some j' ∧ G.g[j']? = some (y, hd) ∧ x = { y with ver := 0 } := fun j x hd hj => by
    simp only [Ghost.sel, List.getElem?_map, Option.map_eq_some_iff] at hj
    obtain ⟨y, hy, he⟩ := hj
    have hjl : j < gs.length := by rw [← hggl]; exact (List.getElem?_eq_some_iff.1 hy).1
    obtain ⟨x', h4, h5⟩ := hggg j _ (List.getElem?_eq_getElem hjl)
    rw [hy] at h4; cases h4
    simp only [Prod.mk.injEq] at he
    refine ⟨_, y.1, List.getElem?_eq_getElem hjl, ?_, he.1.symm⟩
    rw [h5, ← he.2]
  have hnd := nodupN_ok hn1
  have hnd2 := nodupN_ok hn2
  refine ⟨is, gg, hi, hgg, ⟨?_, ?_, fun r b x hb hx => ?_, fun b hb => hr.boxes.lt b (hmem b hb), ?_, fun b o hp => ⟨(hr.boxes.prok b o hp).1, fun hm => (hr.boxes.prok b o hp).2 (hmem b hm)⟩, fun j x hd hj => ?_, fun j j' x hd x' hd' b hj hj' hb hb' => ?_, hr.boxes.glob⟩, p2⟩
  · show is.length = (s.H (la ++ lb)).length
    unfold Shp.H
    rw [p1, q1]; omega
  · rw [← hg0]; simp [Ghost.sel, List.map_map, Function.comp_def]
  · unfold Shp.H at hx
    rw [p1] at hx
    exact q2 r b x hb hx
  · show is.Nodup
    refine List.pairwise_iff_getElem.2 fun p q hp hq hpq he => ?_
    obtain ⟨b1, h1, h2⟩ := hig p _ (List.getElem?_eq_getElem (by omega))
    obtain ⟨b2, h3, h4⟩ := hig q _ (List.getElem?_eq_getElem (by omega))
    rw [List.getElem?_eq_getElem hp] at h1
    rw [List.getElem?_eq_getElem hq] at h3
    have : b1 = b2 := by rw [← Option.some.inj h1, ← Option.some.inj h3]; exact he
    subst this
    have e1 := List.getElem?_eq_some_iff.1 h2
    have e2 := List.getElem?_eq_some_iff.1 h4
    have : bs[p] = bs[q] := (List.getElem_inj hr.boxes.nodup).1 (e1.2.trans e2.2.symm)
    have := (List.getElem_inj hnd).1 this
    omega
  · obtain ⟨j', y, h1, h2, rfl⟩ := hrow j x hd hj
    obtain ⟨n, xs, g1, g2, g3⟩ := hr.boxes.grow j' y hd h2
    exact ⟨n, xs, g1, g2, fun b hb => ⟨(g3 b hb).1, fun hm => (g3 b hb).2.1 (hmem b hm), (g3 b hb).2.2⟩⟩
  · obtain ⟨i1, y, h1, h2, rfl⟩ := hrow j x hd hj
    obtain ⟨i2, y', h3, h4, rfl⟩ := hrow j' x' hd' hj'
    have := hr.boxes.apart i1 i2 y hd y' hd' b h2 h4 hb hb'
    subst this
    have e1 := List.getElem?_eq_some_iff.1 h1
    have e2 := List.getElem?_eq_some_iff.1 h3
    exact (List.getElem_inj hnd2).1 (e1.2.trans e2.2.symm)
end

end Go.RT
