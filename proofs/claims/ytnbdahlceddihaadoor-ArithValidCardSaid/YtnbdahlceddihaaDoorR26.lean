/-
  RT, part 26: a state behind a cut.
-/
import Derived.Test.YtnbdahlceddihaaDoorR25
namespace Go.RT
set_option linter.unusedVariables false

variable {E : TEnv}
section
variable {w0 w : World} {G0 G : Ghost} {st0 st : TS E} {a : Act}

theorem range_get {n r r' : Nat} (h : (List.range n)[r]? = some r') : r' = r ∧ r < n := by
  obtain ⟨h1, h2⟩ := List.getElem?_eq_some_iff.1 h
  simp at h1 h2
  exact ⟨h2.symm, h1⟩

theorem Rel.at (h : Rel E w0 G0 st a w G) (i : Nat) : VT E w G (st.at i) (a.tmps.getD i undef) := h.ev (.tmp i)

theorem Rel.cut {c : Cut} {W : List Nat} {ls : List (Lf E)} (hp : Pre G0 st0) (hr : Rel E w0 G0 st a w G) (ht : st.t.length = st0.t.length) (hk : ∀ i, i ∉ W → st.t[i]? = st0.t[i]?)
    {D : List Nat} (hD : st.d = D ++ st0.d) (hH : ∀ r, r < st0.H.length → r ∉ D → st.H[r]? = st0.H[r]?) (hdf : st.df = st0.df) (h : c.leaves st0 st = some ls) :
    ∃ G2, Rel E w0 G0 (c.unpack W st0 ls) a w G2 ∧ Link w G ⟨List.range c.boxes.length, List.range c.rows.length, st.g.map (·.ver)⟩ G2 ⟨List.range c.boxes.length, List.range c.rows.length, (newRows c.rows st0.g).map (·.ver)⟩ := by
  unfold Cut.leaves at h
  cases hc : (Nat.ble st0.H.length c.boxes.length && (Nat.ble st0.g.length c.rows.length && rowsOk c.rows st0.g st.g)) <;> rw [hc] at h <;> simp only [cond_true, cond_false] at h
  · cases h
  simp only [Bool.and_eq_true] at hc
  obtain ⟨hb1, hg1, hro⟩ := hc
  have hb1 := Nat.le_of_ble_eq_true hb1
  have hg1 := Nat.le_of_ble_eq_true hg1
  rw [hD, since_app] at h
  split at h <;> try (cases h; done)
  rename_i la lb hla hlb
  cases h
  have hgs := hr.boxes.gs
  rw [← hgs] at hro
  obtain ⟨n1, n2, n3, n4⟩ := newG_spec c.rows st0.g G.g hro
  let G2 : Ghost := ⟨G.i.take c.boxes.length, newG c.rows st0.g G.g, G.pr⟩
  have hlen := hr.boxes.len
  -- rows behind the cut
  have hback : ∀ (j : Nat) y2, (newG c.rows st0.g G.g)[j]? = some y2 → ∃ y, G.g[j]? = some y ∧ y2.2 = y.2 ∧ y2.1.e = y.1.e ∧ y2.1.k = y.1.k ∧ ∀ x0, st0.g[j]? = some x0 → y2.1.ver = y.1.ver ∨ x0.ver < y2.1.ver := by
    intro j y2 hj
    have hjl : j < c.rows.length := by rw [← n2]; exact (List.getElem?_eq_some_iff.1 hj).1
    have hjg : j < G.g.length := by omega
    obtain ⟨z, hz, e1, e2, e3, e4⟩ := n4 j G.g[j] (List.getElem?_eq_getElem hjg) hjl
    rw [hj] at hz
    cases hz
    exact ⟨_, List.getElem?_eq_getElem hjg, e1, e2, e3, e4⟩
  have hReb : Reb G G2 st0.H.length st0.g := by
    refine ⟨fun _ _ h => h, fun r b hr' hb => ?_, fun j x0 x hd hx0 hj => ?_⟩
    · show (G.i.take c.boxes.length)[r]? = some b
      rw [List.getElem?_take, if_pos (by omega)]; exact hb
    · have hjl : j < c.rows.length := by
        have := (List.getElem?_eq_some_iff.1 hx0).1; omega
      obtain ⟨y2, hy, e1, -, -, e4⟩ := n4 j (x, hd) hj hjl
      refine ⟨y2.1, ?_, e4 x0 hx0⟩
      show (newG c.rows st0.g G.g)[j]? = _
      rw [hy]; simp only at e1; rw [← e1]
  have hvers : ∀ (j v : Nat), ((newRows c.rows st0.g).map (·.ver))[j]? = some v ↔ ∃ y2, (newG c.rows st0.g G.g)[j]? = some y2 ∧ y2.1.ver = v := by
    intro j v
    rw [← n1]
    simp [List.getElem?_map]
  have hLink : Link w G ⟨List.range c.boxes.length, List.range c.rows.length, st.g.map (·.ver)⟩ G2 ⟨List.range c.boxes.length, List.range c.rows.length, (newRows c.rows st0.g).map (·.ver)⟩ := by
    refine ⟨fun _ _ h => h, fun r r' b h1 h2 => ?_, fun j j' v x hd h1 h2 h3 => ?_⟩
    · obtain ⟨rfl, hlt⟩ := range_get h1
      refine ⟨r', h1, ?_⟩
      show (G.i.take c.boxes.length)[r']? = some b
      rw [List.getElem?_take, if_pos hlt]; exact h2
    · obtain ⟨rfl, hlt⟩ := range_get h1
      have hxv : x.ver = v := by
        have h2' : (st.g.map (·.ver))[j']? = some v := h2
        rw [← hgs, List.map_map, List.getElem?_map, h3] at h2'
        simpa using h2'
      obtain ⟨y2, hy, e1, -, -, -⟩ := n4 j' (x, hd) h3 hlt
      refine ⟨hxv, j', y2.1.ver, y2.1, h1, (hvers j' _).2 ⟨y2, hy, rfl⟩, ?_, rfl⟩
      show (newG c.rows st0.g G.g)[j']? = _
      rw [hy]; simp only at e1; rw [← e1]
  -- slots
  have hslots : ∀ (j : Nat) d, (dropT W 0 st0.t)[j]? = some d → VT E w G2 d (a.tmps.getD j undef) := by
    intro j d hj
    rcases dropT_get W 0 st0.t j d hj with rfl | ⟨hnw, hj'⟩
    · simp only [VT]
    · rw [Nat.zero_add] at hnw
      have := hr.tmps j d (by rw [hk j hnw]; exact hj')
      exact VT.reb hReb this (hp.slots j d hj')
  obtain ⟨p1, p2, p3⟩ := placeV_ok hLink hr.at c.vars (dropT W 0 st0.t) la lb hla hslots
  obtain ⟨q1, q2, q3⟩ := boxesPut_ok hLink c.boxes 0 st.H st0.H G.i lb [] hlb (fun q b x hq hx => hr.boxes.box q b x hq hx) (fun q b x hq h1 h2 hx => by
    rw [Nat.zero_add] at h1 h2
    have hx' : st.H[q]? = some x := by rw [hH q h1 h2]; exact hx
    exact BoxOk.reb hReb (hr.boxes.box q b x hq hx') (hp.boxes q x hx)) (by simp)
  rw [List.append_nil] at q1 q3
  have ev := hr.evol
  have hG0 : ∀ (r b : Nat), (G.i.take c.boxes.length)[r]? = some b → G.i[r]? = some b := fun r b hb => by
    have hlt := (List.getElem?_eq_some_iff.1 hb).1
    rw [List.length_take] at hlt
    rw [List.getElem?_take, if_pos (by omega)] at hb
    exact hb
  have hmem : ∀ b, b ∈ G.i.take c.boxes.length → b ∈ G.i := fun b hb => List.mem_of_mem_take hb
  refine ⟨G2, ⟨⟨ev.os, ev.tape, ev.output, ev.size, ev.old, ⟨ev.goes.pr, ev.goes.cells, fun r b hb => ?_, fun j x0 hd hj => ?_⟩, ev.prold, fun r b h1 h2 => ev.newB r b h1 (hG0 r b h2), fun j x hd b hj hb => ?_⟩, ?_, ?_, ?_, ?_, fun r b hb hd => ?_, hr.pins⟩, hLink⟩
  · show (G.i.take c.boxes.length)[r]? = some b
    have hlt := (List.getElem?_eq_some_iff.1 hb).1
    have := hp.nb
    rw [List.getElem?_take, if_pos (by omega)]
    exact ev.goes.i r b hb
  · obtain ⟨x', hd', h1, h2, h3⟩ := ev.goes.g j x0 hd hj
    obtain ⟨xp, hxp, hle⟩ := hp.rows j x0 hd hj
    obtain ⟨x2, h4, h5⟩ := hReb.g j xp x' hd' hxp h1
    refine ⟨x2, hd', h4, ?_, fun e => ?_⟩
    · rcases h5 with h5 | h5 <;> omega
    · rcases h5 with h5 | h5
      · exact h3 (by omega)
      · omega
  · obtain ⟨y, hy, e1, -⟩ := hback j (x, hd) hj
    simp only at e1
    subst e1
    exact ev.newG j y.1 y.2 b hy hb
  · show a.tmps.size = ((placeV _ c.vars (dropT W 0 st0.t) (la ++ lb)).1).length
    rw [p2, dropT_length, ← ht]; exact hr.size
  · exact p3
  · show DRel E w G2 a.defers st0.df
    rw [← hdf]
    exact DRel.reb hReb hr.defers (by rw [hdf]; exact hp.defs)
  · refine ⟨?_, n1, fun r b x hb hx => ?_, fun b hb => hr.boxes.lt b (hmem b hb), (List.take_sublist _ _).nodup hr.boxes.nodup, fun b o hpr => ⟨(hr.boxes.prok b o hpr).1, fun hm => (hr.boxes.prok b o hpr).2 (hmem b hm)⟩, fun j x hd hj => ?_,
      fun j j' x hd x' hd' b hj hj' hb hb' => ?_, hr.boxes.glob⟩
    · show (G.i.take c.boxes.length).length = (boxesPut _ c.boxes st0.H (placeV _ c.vars (dropT W 0 st0.t) (la ++ lb)).2).length
      rw [p1, q1, List.length_take, hlen]; omega
    · have hx : (boxesPut _ c.boxes st0.H (placeV _ c.vars (dropT W 0 st0.t) (la ++ lb)).2)[r]? = some x := hx
      rw [p1] at hx
      exact q3 r b x (hG0 r b hb) hx
    · obtain ⟨y, hy, e1, e2, e3, -⟩ := hback j (x, hd) hj
      simp only at e1 e2 e3
      subst e1
      obtain ⟨n, xs, g1, g2, g3⟩ := hr.boxes.grow j y.1 y.2 hy
      refine ⟨n, xs, by rw [e2, e3]; exact g1, g2, fun b hb => ?_⟩
      obtain ⟨k1, k2, k3⟩ := g3 b hb
      exact ⟨k1, fun hm => k2 (hmem b hm), by rw [e3]; exact k3⟩
    · obtain ⟨y, hy, e1, -⟩ := hback j (x, hd) hj
      obtain ⟨y', hy', e1', -⟩ := hback j' (x', hd') hj'
      simp only at e1 e1'
      subst e1; subst e1'
      exact hr.boxes.apart j j' y.1 y.2 y'.1 y'.2 b hy hy' hb hb'
  · refine hr.fix r b hb ?_
    have hd : r ∉ chg 0 c.boxes ++ st0.d := hd
    rw [List.mem_append, not_or] at hd
    rw [hD, List.mem_append, not_or]
    refine ⟨?_, hd.2⟩
    have hlt := (List.getElem?_eq_some_iff.1 hb).1
    have := hp.nb
    have := boxesGet_none c.boxes 0 st.H lb hlb r (by omega) (by rw [Nat.zero_add]; exact hd.1)
    rwa [Nat.zero_add] at this
end

end Go.RT
