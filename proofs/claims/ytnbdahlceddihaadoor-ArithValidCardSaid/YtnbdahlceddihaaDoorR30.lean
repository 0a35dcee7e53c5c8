/-
  RT, part 30: the state behind a call, related.
-/
import Derived.Test.YtnbdahlceddihaaDoorR29
namespace Go.RT
set_option linter.unusedVariables false

variable {E : TEnv}
section
variable {P : Program} {w0 w w' : World} {G0 G G' : Ghost} {st : TS E} {a : Act}

theorem Rel.leave (hr : Rel E w0 G0 st a w G) {bs gs is : List Nat} {gg : List (TGrow × Value)} (hi : pick G.i bs = some is) (hg : pick G.g gs = some gg) (hn1 : bs.Nodup) (hn2 : gs.Nodup) (o : Outs)
    (hb : someFrom bs.length o.boxes = true) (hgl : gs.length ≤ o.rows.length) {H0 : List (TBox E)} {ls : List (Lf E)} {v : Value} (hE : Evol w (G.sel is gg) w' G')
    (hB : Boxes E w' G' (boxesPut (o.n1 ((G.sel is gg).g.map (·.1))) o.boxes H0 (o.res.put (o.n1 ((G.sel is gg).g.map (·.1))) ls).2) (newRows o.rows ((G.sel is gg).g.map (·.1))))
    (hv : VT E w' G' (o.res.put (o.n1 ((G.sel is gg).g.map (·.1))) ls).1 v) (hfix : ∀ (q b : Nat), is[q]? = some b → q ∉ chg 0 o.boxes → w'.heap[b]? = w.heap[b]?) :
    ∃ Gn, Rel E w0 G0 (o.after bs gs st ls) a w' Gn ∧ VT E w' Gn (o.val bs gs st ls) v := by
  obtain ⟨hbl, hsome⟩ := someFrom_ok hb
  obtain ⟨hil, hig⟩ := pick_get hi
  obtain ⟨hggl, hggg⟩ := pick_get hg
  have hlen := hr.boxes.len
  have hgs := hr.boxes.gs
  have hgl0 : G.g.length = st.g.length := hr.rows_len
  have hpick : pick st.g gs = some (gg.map (·.1)) := by
    have key : ∀ (l : List Nat) (ys : List (TGrow × Value)), pick G.g l = some ys → pick st.g l = some (ys.map (·.1)) := by
      intro l
      induction l with
      | nil => intro ys h; cases h; rfl
      | cons i l ih =>
        intro ys h
        simp only [pick] at h
        split at h <;> try (cases h; done)
        rename_i x xs h1 h2
        cases h
        have : st.g[i]? = some x.1 := by rw [← hgs, List.getElem?_map, h1]; rfl
        simp only [pick, this, ih xs h2, List.map_cons]
    exact key gs gg hg
  have hpg : (pick st.g gs).getD [] = gg.map (·.1) := by rw [hpick]; rfl
  -- the callee's numbering of rows
  let g0 : List TGrow := (G.sel is gg).g.map (·.1)
  have hg0l : g0.length = gs.length := by simp [g0, Ghost.sel, hggl]
  let nc := newRows o.rows g0
  let ng := newRows o.rows (gg.map (·.1))
  have hncl : nc.length = o.rows.length := newRows_length _ _
  have hngl : ng.length = o.rows.length := newRows_length _ _
  have hG'i : G'.i.length = o.boxes.length := by rw [hB.len, boxesPut_length]
  have hG'g : G'.g.map (·.1) = nc := hB.gs
  have hG'gl : G'.g.length = o.rows.length := by rw [← hncl, ← hG'g]; simp
  have hG'is : ∀ (r b : Nat), is[r]? = some b → G'.i[r]? = some b := fun r b h => hE.goes.i r b h
  let ngg : List (TGrow × Value) := ng.zip (G'.g.map (·.2))
  have hnggl : ngg.length = o.rows.length := by simp [ngg, hngl, hG'gl]
  have hngg1 : ngg.map (·.1) = ng := by
    simp only [ngg]
    rw [List.map_fst_zip]
    simp [hngl, hG'gl]
  let Gn : Ghost := ⟨G.i ++ G'.i.drop bs.length, setAll (gs.zip ngg) G.g ++ ngg.drop gs.length, G'.pr⟩
  -- entries of ngg
  have hent : ∀ (j : Nat) y, ngg[j]? = some y → ∃ ro x' , o.rows[j]? = some ro ∧ G'.g[j]? = some (x', y.2) ∧ x' = rowAt ro g0[j]? ∧ y.1 = rowAt ro (gg.map (·.1))[j]? := by
    intro j y hj
    have hjl : j < o.rows.length := by rw [← hnggl]; exact (List.getElem?_eq_some_iff.1 hj).1
    have hro := List.getElem?_eq_getElem hjl
    have h1 := newRows_get o.rows (gg.map (·.1)) j _ hro
    have h2 := newRows_get o.rows g0 j _ hro
    have hjg : j < G'.g.length := by omega
    have e1 : y.1 = rowAt o.rows[j] (gg.map (·.1))[j]? := by
      have : (ngg.map (·.1))[j]? = some y.1 := by simp [hj]
      rw [hngg1] at this
      rw [show ng[j]? = _ from h1] at this
      exact (Option.some.inj this).symm
    have e2 : y.2 = G'.g[j].2 := by
      obtain ⟨hjn, he⟩ := List.getElem?_eq_some_iff.1 hj
      rw [← he]
      simp [ngg]
    have e3 : G'.g[j].1 = rowAt o.rows[j] g0[j]? := by
      have : (G'.g.map (·.1))[j]? = some G'.g[j].1 := by simp [hjg]
      rw [hG'g, show nc[j]? = _ from h2] at this
      exact (Option.some.inj this).symm
    refine ⟨o.rows[j], G'.g[j].1, hro, ?_, e3, e1⟩
    rw [List.getElem?_eq_getElem hjg, e2]
  have hold : ∀ (j j' : Nat) x h, gs[j]? = some j' → G.g[j']? = some (x, h) → gg[j]? = some (x, h) ∧ g0[j]? = some { x with ver := 0 } ∧ (gg.map (·.1))[j]? = some x := by
    intro j j' x h h1 h2
    obtain ⟨y, h3, h4⟩ := hggg j j' h1
    rw [h2] at h4; cases h4
    refine ⟨h3, ?_, by simp [h3]⟩
    simp [g0, Ghost.sel, h3]
  -- an entry of the caller's row gs[j]
  have hrow1 : ∀ (j j' : Nat) x h, gs[j]? = some j' → G.g[j']? = some (x, h) → ∃ y, ngg[j]? = some y ∧ x.ver ≤ y.1.ver ∧ (x.ver = y.1.ver → y.2 = h) := by
    intro j j' x h h1 h2
    have hjl : j < gs.length := (List.getElem?_eq_some_iff.1 h1).1
    have hjn : j < ngg.length := by omega
    obtain ⟨ro, x', q1, q2, q3, q4⟩ := hent j _ (List.getElem?_eq_getElem hjn)
    obtain ⟨o1, o2, o3⟩ := hold j j' x h h1 h2
    rw [o2] at q3
    rw [o3] at q4
    refine ⟨_, List.getElem?_eq_getElem hjn, ?_, fun e => ?_⟩
    · rw [q4]; cases ro <;> simp [rowAt]
    · rw [q4] at e
      cases ro with
      | some p => simp [rowAt] at e
      | none =>
        simp only [rowAt] at q3
        have hsel : ((G.sel is gg).g)[j]? = some ({ x with ver := 0 }, h) := by simp [Ghost.sel, o1]
        obtain ⟨x2, h3, r1, r2, r3⟩ := hE.goes.g j _ h hsel
        rw [q2] at r1
        cases r1
        exact r3 (by rw [q3])
  have hgn : ∀ (q : Nat) y, Gn.g[q]? = some y → (q ∉ gs ∧ G.g[q]? = some y) ∨ ∃ j, ngg[j]? = some y ∧ ((gs[j]? = some q ∧ q < G.g.length) ∨ (gs.length ≤ j ∧ q = G.g.length + (j - gs.length))) := by
    intro q y hq
    have hq : (setAll (gs.zip ngg) G.g ++ ngg.drop gs.length)[q]? = some y := hq
    by_cases hql : q < G.g.length
    · rw [List.getElem?_append_left (by rw [setAll_length]; exact hql)] at hq
      by_cases hm : q ∈ gs
      · obtain ⟨j, hj, rfl⟩ := List.getElem_of_mem hm
        have hjn : j < ngg.length := by omega
        rw [setAll_in (gs.zip ngg) G.g gs[j] ngg[j] (zip_nodup hn2) (mem_zip_get j (List.getElem?_eq_getElem hj) (List.getElem?_eq_getElem hjn)) hql] at hq
        cases hq
        exact .inr ⟨j, List.getElem?_eq_getElem hjn, .inl ⟨List.getElem?_eq_getElem hj, hql⟩⟩
      · rw [setAll_out _ _ q (fun hmm => hm (by obtain ⟨p, hp, he⟩ := List.mem_map.1 hmm; rw [← he]; exact (List.of_mem_zip hp).1))] at hq
        exact .inl ⟨hm, hq⟩
    · rw [List.getElem?_append_right (by rw [setAll_length]; omega), setAll_length, List.getElem?_drop] at hq
      exact .inr ⟨gs.length + (q - G.g.length), hq, .inr ⟨by omega, by omega⟩⟩
  have hgn_in : ∀ (j q : Nat) y, gs[j]? = some q → q < G.g.length → ngg[j]? = some y → Gn.g[q]? = some y := by
    intro j q y h1 h2 h3
    show (setAll (gs.zip ngg) G.g ++ ngg.drop gs.length)[q]? = some y
    rw [List.getElem?_append_left (by rw [setAll_length]; exact h2)]
    exact setAll_in (gs.zip ngg) G.g q y (zip_nodup hn2) (mem_zip_get j h1 h3) h2
  have hgn_out : ∀ (q : Nat) y, q ∉ gs → G.g[q]? = some y → Gn.g[q]? = some y := by
    intro q y h1 h2
    have hql := (List.getElem?_eq_some_iff.1 h2).1
    show (setAll (gs.zip ngg) G.g ++ ngg.drop gs.length)[q]? = some y
    rw [List.getElem?_append_left (by rw [setAll_length]; exact hql), setAll_out _ _ q (fun hmm => h1 (by obtain ⟨p, hp, he⟩ := List.mem_map.1 hmm; rw [← he]; exact (List.of_mem_zip hp).1))]
    exact h2
  have hgn_new : ∀ (j : Nat) y, gs.length ≤ j → ngg[j]? = some y → Gn.g[G.g.length + (j - gs.length)]? = some y := by
    intro j y h1 h2
    show (setAll (gs.zip ngg) G.g ++ ngg.drop gs.length)[G.g.length + (j - gs.length)]? = some y
    rw [List.getElem?_append_right (by rw [setAll_length]; omega), setAll_length, List.getElem?_drop]
    rw [show gs.length + (G.g.length + (j - gs.length) - G.g.length) = j by omega]
    exact h2
  have hGoes : Goes w G w' Gn := by
    refine ⟨hE.goes.pr, hE.goes.cells, fun r b h => ?_, fun q x h hq => ?_⟩
    · show (G.i ++ G'.i.drop bs.length)[r]? = some b
      rw [List.getElem?_append_left (List.getElem?_eq_some_iff.1 h).1]; exact h
    · by_cases hm : q ∈ gs
      · obtain ⟨j, hj, rfl⟩ := List.getElem_of_mem hm
        obtain ⟨y, h1, h2, h3⟩ := hrow1 j _ x h (List.getElem?_eq_getElem hj) hq
        exact ⟨y.1, y.2, hgn_in j _ y (List.getElem?_eq_getElem hj) (List.getElem?_eq_some_iff.1 hq).1 h1, h2, h3⟩
      · exact ⟨x, h, hgn_out q _ hm hq, Nat.le_refl _, fun _ => rfl⟩
  have ev := hr.evol
  -- what the callee may touch
  have hfooti : ∀ b, b ∈ is → b ∈ G.i := fun b hb => by
    obtain ⟨q, hq, rfl⟩ := List.getElem_of_mem hb
    obtain ⟨b', h1, h2⟩ := hig q _ (List.getElem?_eq_getElem (by omega))
    rw [List.getElem?_eq_getElem hq] at h1; cases h1
    exact List.mem_of_getElem? h2
  have hselrow : ∀ b, (G.sel is gg).rows b → ∃ (j j' : Nat) (x : TGrow) (h : Value), gs[j]? = some j' ∧ G.g[j']? = some (x, h) ∧ h.ownBlock = some b := by
    rintro b ⟨x, h, hm, hbk⟩
    obtain ⟨j, hj, he⟩ := List.getElem_of_mem hm
    have hj2 : j < gg.length := by simpa [Ghost.sel] using hj
    obtain ⟨y, h1, h2⟩ := hggg j _ (List.getElem?_eq_getElem (by omega))
    rw [List.getElem?_eq_getElem hj2] at h1
    have h1 := Option.some.inj h1
    have he2 : gg[j].2 = h := by
      have := congrArg Prod.snd he
      simpa [Ghost.sel] using this
    refine ⟨j, _, y.1, y.2, List.getElem?_eq_getElem (by omega), h2, ?_⟩
    rw [← h1, he2]; exact hbk
  have hrowbox : ∀ (j : Nat) x h b, G.g[j]? = some (x, h) → h.ownBlock = some b → b < w.heap.size ∧ b ∉ G.i := fun j x h b hj hb => by
    obtain ⟨n, xs, -, -, q⟩ := hr.boxes.grow j x h hj
    exact ⟨(q b hb).1, (q b hb).2.1⟩
  have hsame : ∀ (q b : Nat), G.i[q]? = some b → q ∉ bs → w'.heap[b]? = w.heap[b]? := by
    intro q b hq hnb
    refine hE.old b (hr.boxes.lt b (List.mem_of_getElem? hq)) (fun hf => ?_)
    rcases hf with hf | hf
    · obtain ⟨r, hrl, he⟩ := List.getElem_of_mem hf
      have hrl' : r < bs.length := by
        have : r < is.length := hrl
        omega
      obtain ⟨b', h1, h2⟩ := hig r _ (List.getElem?_eq_getElem hrl')
      have h1' : is[r]? = some b := by rw [← he]; exact List.getElem?_eq_getElem hrl
      rw [h1'] at h1; cases h1
      have e1 := List.getElem?_eq_some_iff.1 hq
      have e2 := List.getElem?_eq_some_iff.1 h2
      have : q = bs[r] := (List.getElem_inj hr.boxes.nodup).1 (e1.2.trans e2.2.symm)
      exact hnb (by rw [this]; exact List.getElem_mem hrl')
    · obtain ⟨j, j', x, h, -, h2, h3⟩ := hselrow b hf
      exact (hrowbox j' x h b h2 h3).2 (List.mem_of_getElem? hq)
  have hnewi : ∀ (q b : Nat), Gn.i[q]? = some b → G.i[q]? = some b ∨ (G.i.length ≤ q ∧ G'.i[bs.length + (q - G.i.length)]? = some b ∧ w.heap.size ≤ b) := by
    intro q b hq
    have hq : (G.i ++ G'.i.drop bs.length)[q]? = some b := hq
    by_cases hql : q < G.i.length
    · rw [List.getElem?_append_left hql] at hq; exact .inl hq
    · rw [List.getElem?_append_right (by omega), List.getElem?_drop] at hq
      exact .inr ⟨by omega, hq, hE.newB _ b (by show is.length ≤ _; omega) hq⟩
  have hmemn : ∀ b, b ∈ Gn.i → b ∈ G.i ∨ (b ∈ G'.i ∧ w.heap.size ≤ b) := fun b hb => by
    obtain ⟨q, hq, he⟩ := List.getElem_of_mem hb
    rcases hnewi q b (by rw [← he]; exact List.getElem?_eq_getElem hq) with h | ⟨-, h1, h2⟩
    · exact .inl (List.mem_of_getElem? h)
    · exact .inr ⟨List.mem_of_getElem? h1, h2⟩
  -- the callee's row j: its block
  have hblk : ∀ (j : Nat) x h b, G'.g[j]? = some (x, h) → h.ownBlock = some b → w.heap.size ≤ b ∨ ∃ (j' : Nat) (x0 : TGrow) (h0 : Value), gs[j]? = some j' ∧ G.g[j']? = some (x0, h0) ∧ h0.ownBlock = some b := by
    intro j x h b hj hbk
    rcases hE.newG j x h b hj hbk with q | ⟨x0, h0, q1, q2⟩
    · exact .inl q
    · have hjg : j < gg.length := by
        have := (List.getElem?_eq_some_iff.1 q1).1
        simpa [Ghost.sel] using this
      obtain ⟨y, h1, h2⟩ := hggg j _ (List.getElem?_eq_getElem (by omega))
      rw [List.getElem?_eq_getElem hjg] at h1
      have h1 := Option.some.inj h1
      have : h0 = gg[j].2 := by
        simp [Ghost.sel, hjg] at q1
        exact q1.2.symm
      refine .inr ⟨_, y.1, y.2, List.getElem?_eq_getElem (by omega), h2, ?_⟩
      rw [← h1, ← this]; exact q2
  have hLink : Link2 w' G' (o.n1 g0) Gn (o.n2 bs gs st) := by
    refine ⟨⟨fun _ _ h => h, fun r r' b h1 h2 => ?_, fun j j' vv x h h1 h2 h3 => ?_⟩, ?_, ?_, ?_⟩
    · obtain ⟨rfl, hlt⟩ := range_get h1
      by_cases hrb : r' < bs.length
      · refine ⟨bs[r'], by simp [Outs.n2, List.getElem?_append_left hrb, hrb], ?_⟩
        obtain ⟨b', q1, q2⟩ := hig r' _ (List.getElem?_eq_getElem hrb)
        have := hG'is r' b' q1
        rw [h2] at this; cases this
        show (G.i ++ G'.i.drop bs.length)[bs[r']]? = some b
        rw [List.getElem?_append_left (List.getElem?_eq_some_iff.1 q2).1]; exact q2
      · refine ⟨st.H.length + (r' - bs.length), ?_, ?_⟩
        · simp only [Outs.n2]
          rw [List.getElem?_append_right (by omega)]
          rw [List.getElem?_range' (by omega)]
          simp
        · show (G.i ++ G'.i.drop bs.length)[st.H.length + (r' - bs.length)]? = some b
          rw [← hlen, List.getElem?_append_right (by omega), List.getElem?_drop, show bs.length + (G.i.length + (r' - bs.length) - G.i.length) = r' by omega]
          exact h2
    · obtain ⟨rfl, hlt⟩ := range_get h1
      have hjn : j' < ngg.length := by omega
      obtain ⟨ro, x', q1, q2, q3, q4⟩ := hent j' _ (List.getElem?_eq_getElem hjn)
      rw [h3] at q2
      have q2 := Option.some.inj q2
      simp only [Prod.mk.injEq] at q2
      have hxv : x.ver = vv := by
        have h2 : (nc.map (·.ver))[j']? = some vv := h2
        rw [← hG'g, List.map_map, List.getElem?_map, h3] at h2
        simpa using h2
      refine ⟨hxv, ?_⟩
      have hv2 : ((newRows o.rows ((pick st.g gs).getD [])).map (·.ver))[j']? = some ngg[j'].1.ver := by
        rw [hpg, show newRows o.rows (gg.map (·.1)) = ng from rfl, ← hngg1]
        simp [hjn]
      by_cases hjg : j' < gs.length
      · obtain ⟨y, r1, r2⟩ := hggg j' _ (List.getElem?_eq_getElem hjg)
        refine ⟨gs[j'], ngg[j'].1.ver, ngg[j'].1, by simp [Outs.n2, List.getElem?_append_left hjg, hjg], hv2, ?_, rfl⟩
        rw [hgn_in j' _ _ (List.getElem?_eq_getElem hjg) (List.getElem?_eq_some_iff.1 r2).1 (List.getElem?_eq_getElem hjn), q2.2]
      · refine ⟨st.g.length + (j' - gs.length), ngg[j'].1.ver, ngg[j'].1, ?_, hv2, ?_, rfl⟩
        · simp only [Outs.n2]
          rw [List.getElem?_append_right (by omega), List.getElem?_range' (by omega)]
          simp
        · rw [← hgl0, hgn_new j' _ (by omega) (List.getElem?_eq_getElem hjn), q2.2]
    · simp [Outs.n1, Outs.n2]; omega
    · simp [Outs.n1, Outs.n2]; omega
    · simp [Outs.n1, Outs.n2, newRows_length]
  have hval : VT E w' Gn (o.val bs gs st ls) v := PT.move hLink o.res ls hv
  have hrest : (o.res.put (o.n2 bs gs st) ls).2 = (o.res.put (o.n1 g0) ls).2 := PT.put_rest _ _ _ _
  have hhcl : (o.hc bs gs st ls).length = o.boxes.length := boxesPut_length _ _ _ _
  have hboxm : ∀ (r b : Nat) t y, o.boxes[r]? = some (some t) → G'.i[r]? = some b → (o.hc bs gs st ls)[r]? = some y → BoxOk E w' Gn b y := by
    intro r b t y h1 h2 h3
    have hrl : r < o.boxes.length := (List.getElem?_eq_some_iff.1 h1).1
    have hx : r < (boxesPut (o.n1 g0) o.boxes H0 (o.res.put (o.n1 g0) ls).2).length := by rw [boxesPut_length]; exact hrl
    have hbx := hB.box r b _ h2 (List.getElem?_eq_getElem hx)
    unfold Outs.hc at h3
    rw [hrest] at h3
    exact boxesPut_move hLink o.boxes H0 [] _ r h1 (List.getElem?_eq_getElem hx) h3 hbx
  refine ⟨Gn, ⟨⟨hE.os.trans ev.os, hE.tape.trans ev.tape, hE.output.trans ev.output, Nat.le_trans ev.size hE.size, fun b hb hnf => ?_, ev.goes.trans hGoes, fun b oo hb hp => ?_, fun q b h1 h2 => ?_, fun q x h b hq hbk => ?_⟩, hr.size, fun j d hj => (hr.tmps j d hj).mono hGoes, hr.defers.mono hGoes, ?_, fun r b hb hd => ?_, hr.pins⟩, hval⟩
  · refine (hE.old b (Nat.lt_of_lt_of_le hb ev.size) (fun hf => ?_)).trans (ev.old b hb hnf)
    rcases hf with hf | hf
    · have hbi := hfooti b hf
      obtain ⟨q, hq, he⟩ := List.getElem_of_mem hbi
      have hqb : G.i[q]? = some b := by rw [← he]; exact List.getElem?_eq_getElem hq
      by_cases hql : q < G0.i.length
      · have e1 := ev.goes.i q _ (List.getElem?_eq_getElem hql)
        rw [hqb] at e1
        exact hnf (.inl (by rw [Option.some.inj e1]; exact List.getElem_mem hql))
      · have := ev.newB q b (by omega) hqb; omega
    · obtain ⟨j, j', x, h, -, h2, h3⟩ := hselrow b hf
      rcases ev.newG j' x h b h2 h3 with q | ⟨x0, h0, q1, q2⟩
      · omega
      · exact hnf (.inr ⟨x0, h0, List.mem_of_getElem? q1, q2⟩)
  · rcases hE.prold b oo (Nat.lt_of_lt_of_le hb ev.size) hp with q | q
    · exact ev.prold b oo hb q
    · obtain ⟨j, j', x, h, -, h2, h3⟩ := hselrow b q
      rcases ev.newG j' x h b h2 h3 with q | ⟨x0, h0, q1, q2⟩
      · omega
      · exact .inr ⟨x0, h0, List.mem_of_getElem? q1, q2⟩
  · rcases hnewi q b h2 with h | ⟨-, -, h⟩
    · exact ev.newB q b h1 h
    · exact Nat.le_trans ev.size h
  · rcases hgn q (x, h) hq with ⟨-, h1⟩ | ⟨j, h1, h2⟩
    · exact ev.newG q x h b h1 hbk
    · obtain ⟨ro, x', q1, q2, -, -⟩ := hent j _ h1
      rcases hblk j x' h b q2 hbk with q | ⟨j', x0, h0, q3, q4, q5⟩
      · exact .inl (Nat.le_trans ev.size q)
      · rcases h2 with ⟨h2, -⟩ | ⟨h2, -⟩
        · rw [h2] at q3; cases q3
          exact ev.newG q x0 h0 b q4 q5
        · have := (List.getElem?_eq_some_iff.1 q3).1; omega
  · refine ⟨?_, ?_, fun q b y hq hy => ?_, fun b hb => ?_, ?_, fun b oo hp => ?_, fun q x h hq => ?_, fun q q' x h x' h' b hq hq' hb1 hb2 => ?_, glob_mono hGoes hr.boxes.glob⟩
    · show (G.i ++ G'.i.drop bs.length).length = (setAll (pairsB o.boxes bs (o.hc bs gs st ls)) st.H ++ (o.hc bs gs st ls).drop bs.length).length
      simp only [List.length_append, List.length_drop, setAll_length, hhcl, hG'i, hlen]
    · show (setAll (gs.zip ngg) G.g ++ ngg.drop gs.length).map (·.1) = setAll (gs.zip (newRows o.rows ((pick st.g gs).getD []))) st.g ++ (newRows o.rows ((pick st.g gs).getD [])).drop gs.length
      rw [hpg, List.map_append, List.map_drop, hngg1]
      congr 1
      have key : ∀ (l : List Nat) (m : List (TGrow × Value)) (g : List (TGrow × Value)), (setAll (l.zip m) g).map (·.1) = setAll (l.zip (m.map (·.1))) (g.map (·.1)) := by
        intro l
        induction l with
        | nil => intro m g; rfl
        | cons i l ih =>
          intro m g
          cases m with
          | nil => rfl
          | cons y m =>
            simp only [List.zip_cons_cons, List.map_cons, setAll]
            rw [ih, List.map_set]
      rw [key, hngg1, hgs]
    · have hy : (setAll (pairsB o.boxes bs (o.hc bs gs st ls)) st.H ++ (o.hc bs gs st ls).drop bs.length)[q]? = some y := hy
      rcases hnewi q b hq with h | ⟨h1, h2, h3⟩
      · have hql : q < st.H.length := by rw [← hlen]; exact (List.getElem?_eq_some_iff.1 h).1
        rw [List.getElem?_append_left (by rw [setAll_length]; exact hql)] at hy
        by_cases hm : q ∈ bs
        · obtain ⟨r, hrl, rfl⟩ := List.getElem_of_mem hm
          obtain ⟨b', q1, q2⟩ := hig r _ (List.getElem?_eq_getElem hrl)
          rw [h] at q2; cases q2
          cases hbr : o.boxes[r]? with
          | none => rw [List.getElem?_eq_none_iff] at hbr; omega
          | some ob =>
            cases ob with
            | some t =>
              have hrc : r < (o.hc bs gs st ls).length := by omega
              rw [setAll_in _ _ _ _ (pairsB_nodup hn1) (mem_pairsB r hbr (List.getElem?_eq_getElem hrl) (List.getElem?_eq_getElem hrc)) hql] at hy
              cases hy
              exact hboxm r b t _ hbr (hG'is r b q1) (List.getElem?_eq_getElem hrc)
            | none =>
              rw [setAll_out _ _ _ (fun hmm => by
                obtain ⟨p, hp, he⟩ := List.mem_map.1 hmm
                obtain ⟨i, x⟩ := p
                obtain ⟨r', t', e1, e2, -⟩ := pairsB_mem hp
                have e2' := List.getElem?_eq_some_iff.1 e2
                have : r' = r := (List.getElem_inj hn1).1 (e2'.2.trans he)
                subst this
                rw [hbr] at e1; cases e1)] at hy
              refine (hr.boxes.box _ b y h hy).mono hGoes (hfix r b q1 (fun hc => ?_))
              rw [← Nat.zero_add r] at hc
              obtain ⟨t, ht⟩ := chg_mem hc
              rw [hbr] at ht; cases ht
        · rw [setAll_out _ _ _ (fun hmm => by
            obtain ⟨p, hp, he⟩ := List.mem_map.1 hmm
            obtain ⟨i, x⟩ := p
            obtain ⟨r', t', -, e2, -⟩ := pairsB_mem hp
            exact hm (by rw [← show i = q from he]; exact List.mem_of_getElem? e2))] at hy
          exact (hr.boxes.box q b y h hy).mono hGoes (hsame q b h hm)
      · rw [List.getElem?_append_right (by rw [setAll_length, ← hlen]; omega), setAll_length, List.getElem?_drop, ← hlen] at hy
        have hrl : bs.length + (q - G.i.length) < o.boxes.length := by rw [← hG'i]; exact (List.getElem?_eq_some_iff.1 h2).1
        obtain ⟨t, ht⟩ := hsome _ (Nat.le_add_right _ _) hrl
        exact hboxm _ b t y ht h2 hy
    · rcases hmemn b hb with h | ⟨h, -⟩
      · exact Nat.lt_of_lt_of_le (hr.boxes.lt b h) hE.size
      · exact hB.lt b h
    · show (G.i ++ G'.i.drop bs.length).Nodup
      refine List.nodup_append.2 ⟨hr.boxes.nodup, (List.drop_sublist _ _).nodup hB.nodup, fun x hx y hy e => ?_⟩
      subst e
      obtain ⟨q, hq, he⟩ := List.getElem_of_mem hy
      have h1 : (G'.i.drop bs.length)[q]? = some x := by rw [← he]; exact List.getElem?_eq_getElem hq
      rw [List.getElem?_drop] at h1
      have := hE.newB _ x (by show is.length ≤ _; omega) h1
      have := hr.boxes.lt x hx
      omega
    · refine ⟨(hB.prok b oo hp).1, fun hm => ?_⟩
      rcases hmemn b hm with h | ⟨h, -⟩
      · rcases hE.prold b oo (hr.boxes.lt b h) hp with q | q
        · exact (hr.boxes.prok b oo q).2 h
        · obtain ⟨j, j', x, hh, -, h2, h3⟩ := hselrow b q
          exact (hrowbox j' x hh b h2 h3).2 h
      · exact (hB.prok b oo hp).2 h
    · rcases hgn q (x, h) hq with ⟨h0, h1⟩ | ⟨j, h1, h2⟩
      · obtain ⟨n, xs, g1, g2, g3⟩ := hr.boxes.grow q x h h1
        have hun : ∀ b, h.ownBlock = some b → w'.heap[b]? = w.heap[b]? := fun b hbk => by
          refine hE.old b (g3 b hbk).1 (fun hf => ?_)
          rcases hf with hf | hf
          · exact (g3 b hbk).2.1 (hfooti b hf)
          · obtain ⟨j, j', x', h', e1, e2, e3⟩ := hselrow b hf
            have := hr.boxes.apart q j' x h x' h' b h1 e2 hbk e3
            exact h0 (by rw [this]; exact List.mem_of_getElem? e1)
        refine ⟨n, xs, ⟨g1.1, ?_⟩, g2, fun b hbk => ?_⟩
        · rcases g1.2 with q2 | ⟨gb, cap, cur, q2, q3, q4, q5⟩
          · exact .inl q2
          · exact .inr ⟨gb, cap, cur, q2, q3, by rw [hun gb (by rw [q2]; rfl)]; exact q4, q5⟩
        · obtain ⟨k1, k2, k3⟩ := g3 b hbk
          refine ⟨Nat.lt_of_lt_of_le k1 hE.size, fun hm => ?_, fun oo ho hp => ?_⟩
          · rcases hmemn b hm with h' | ⟨-, h'⟩
            · exact k2 h'
            · omega
          · rcases hE.prold b oo k1 hp with q' | q'
            · exact k3 oo ho q'
            · obtain ⟨j, j', x', h', e1, e2, e3⟩ := hselrow b q'
              have := hr.boxes.apart q j' x h x' h' b h1 e2 hbk e3
              exact h0 (by rw [this]; exact List.mem_of_getElem? e1)
      · obtain ⟨ro, x', q1, q2, q3, q4⟩ := hent j _ h1
        obtain ⟨n, xs, g1, g2, g3⟩ := hB.grow j x' h q2
        have hek : x.e = x'.e ∧ x.k = x'.k := by
          have q4 : x = rowAt ro (gg.map (·.1))[j]? := q4
          rw [q3, q4]
          by_cases hjg : j < gg.length
          · have e1 : g0[j]? = some { gg[j].1 with ver := 0 } := by simp [g0, Ghost.sel, hjg]
            have e2 : (gg.map (·.1))[j]? = some gg[j].1 := by simp [hjg]
            rw [e1, e2]
            cases ro <;> simp [rowAt]
          · have e1 : g0[j]? = none := List.getElem?_eq_none (by omega)
            have e2 : (gg.map (·.1))[j]? = none := List.getElem?_eq_none (by simp; omega)
            rw [e1, e2]
            exact ⟨rfl, rfl⟩
        refine ⟨n, xs, by rw [hek.1, hek.2]; exact g1, g2, fun b hbk => ?_⟩
        obtain ⟨k1, k2, k3⟩ := g3 b hbk
        refine ⟨k1, fun hm => ?_, by rw [hek.2]; exact k3⟩
        rcases hmemn b hm with h' | ⟨h', -⟩
        · rcases hblk j x' h b q2 hbk with q' | ⟨j', x0, h0, q5, q6, q7⟩
          · have := hr.boxes.lt b h'; omega
          · exact (hrowbox j' x0 h0 b q6 q7).2 h'
        · exact k2 h'
    · rcases hgn q (x, h) hq with ⟨n0, h1⟩ | ⟨j, h1, h2⟩ <;> rcases hgn q' (x', h') hq' with ⟨n0', h1'⟩ | ⟨j', h1', h2'⟩
      · exact hr.boxes.apart q q' x h x' h' b h1 h1' hb1 hb2
      · exfalso
        obtain ⟨ro, y, e1, e2, -, -⟩ := hent j' _ h1'
        rcases hblk j' y h' b e2 hb2 with q5 | ⟨j2, x0, h0, q5, q6, q7⟩
        · have := (hrowbox q x h b h1 hb1).1; omega
        · have := hr.boxes.apart q j2 x h x0 h0 b h1 q6 hb1 q7
          exact n0 (by rw [this]; exact List.mem_of_getElem? q5)
      · exfalso
        obtain ⟨ro, y, e1, e2, -, -⟩ := hent j _ h1
        rcases hblk j y h b e2 hb1 with q5 | ⟨j2, x0, h0, q5, q6, q7⟩
        · have := (hrowbox q' x' h' b h1' hb2).1; omega
        · have := hr.boxes.apart q' j2 x' h' x0 h0 b h1' q6 hb2 q7
          exact n0' (by rw [this]; exact List.mem_of_getElem? q5)
      · obtain ⟨ro, y, e1, e2, -, -⟩ := hent j _ h1
        obtain ⟨ro', y', e1', e2', -, -⟩ := hent j' _ h1'
        have := hB.apart j j' y h y' h' b e2 e2' hb1 hb2
        subst this
        rcases h2 with ⟨h2, -⟩ | ⟨h2, h3⟩ <;> rcases h2' with ⟨h2', -⟩ | ⟨h2', h3'⟩
        · rw [h2] at h2'; exact Option.some.inj h2'
        · have := (List.getElem?_eq_some_iff.1 h2).1; omega
        · have := (List.getElem?_eq_some_iff.1 h2').1; omega
        · omega
  · have hd : r ∉ (pairsB o.boxes bs (o.hc bs gs st ls)).map (·.1) ++ st.d := hd
    rw [List.mem_append, not_or] at hd
    have hgi := ev.goes.i r b hb
    refine Eq.trans ?_ (hr.fix r b hb hd.2)
    by_cases hm : r ∈ bs
    · obtain ⟨q, hql, rfl⟩ := List.getElem_of_mem hm
      obtain ⟨b', q1, q2⟩ := hig q _ (List.getElem?_eq_getElem hql)
      rw [hgi] at q2; cases q2
      refine hfix q b q1 (fun hc => hd.1 ?_)
      rw [← Nat.zero_add q] at hc
      obtain ⟨t, ht⟩ := chg_mem hc
      have hrc : q < (o.hc bs gs st ls).length := by omega
      exact List.mem_map.2 ⟨_, mem_pairsB q ht (List.getElem?_eq_getElem hql) (List.getElem?_eq_getElem hrc), rfl⟩
    · exact hsame r b hgi hm
end

end Go.RT
