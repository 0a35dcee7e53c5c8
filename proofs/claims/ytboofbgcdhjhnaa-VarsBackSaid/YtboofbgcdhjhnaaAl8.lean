/-
  AL, part 8: append to an owned row.
-/
import Derived.Test.YtboofbgcdhjhnaaAl7
namespace Go.AL
set_option linter.unusedVariables false

theorem apart_symm {v u : Value} (h : apart v u) : apart u v := fun g hu hv => h g hv hu

theorem pairwise_of {α : Type} {R : α → α → Prop} (hs : ∀ x y, R x y → R y x) : ∀ {l : List α}, l.Pairwise R → ∀ x, x ∈ l → ∀ y, y ∈ l → x ≠ y → R x y
  | [], _, x, hx, _, _, _ => by cases hx
  | z :: l, h, x, hx, y, hy, hne => by
    rcases List.mem_cons.1 hx with rfl | hx' <;> rcases List.mem_cons.1 hy with rfl | hy'
    · exact (hne rfl).elim
    · exact (List.pairwise_cons.1 h).1 y hy'
    · exact hs _ _ ((List.pairwise_cons.1 h).1 x hx')
    · exact pairwise_of hs (List.pairwise_cons.1 h).2 x hx' y hy' hne

theorem idx_lt {j l n k : Nat} (hj : j < n) (hl : l < k) : j * k + l < n * k := by
  have : (j + 1) * k ≤ n * k := Nat.mul_le_mul_right k hj
  rw [Nat.add_mul, Nat.one_mul] at this
  omega

/-- The elements of a list that the flat cells read as. -/
def Flat (w : World) (pr : Nat → Nat → Prop) (k : Nat) (xs : List Value) (es : List (List DV)) : Prop :=
  xs.length = es.length * k ∧ (∀ j, j < es.length → (es.getD j []).length = k) ∧
  ∀ j l, j < es.length → l < k → (xs.getD (j * k + l) undef).oneCell' = true ∧ V w pr noPlaces (xs.getD (j * k + l) undef) ((es.getD j []).getD l .any)

theorem Flat.append {w : World} {pr : Nat → Nat → Prop} {k : Nat} {xs ys : List Value} {es fs : List (List DV)} (h : Flat w pr k xs es) (h' : Flat w pr k ys fs) : Flat w pr k (xs ++ ys) (es ++ fs) := by
  have e1 : ∀ j, j < es.length → (es ++ fs).getD j [] = es.getD j [] := fun j hj => by simp [List.getD, List.getElem?_append_left hj]
  have e2 : ∀ j, ¬ j < es.length → (es ++ fs).getD j [] = fs.getD (j - es.length) [] := fun j hj => by simp [List.getD, List.getElem?_append_right (Nat.le_of_not_lt hj)]
  refine ⟨by simp [h.1, h'.1, Nat.add_mul], fun j hj => ?_, fun j l hj hl => ?_⟩
  · by_cases hlt : j < es.length
    · rw [e1 j hlt]; exact h.2.1 j hlt
    · rw [e2 j hlt]; exact h'.2.1 _ (by simp at hj; omega)
  · by_cases hlt : j < es.length
    · have hq : j * k + l < xs.length := by rw [h.1]; exact idx_lt hlt hl
      have : (xs ++ ys).getD (j * k + l) undef = xs.getD (j * k + l) undef := by simp [List.getD, List.getElem?_append_left hq]
      rw [this, e1 j hlt]
      exact h.2.2 j l hlt hl
    · have hge : es.length ≤ j := Nat.le_of_not_lt hlt
      have hq : es.length * k ≤ j * k + l := Nat.le_trans (Nat.mul_le_mul_right k hge) (Nat.le_add_right _ _)
      have hsub : j * k + l - es.length * k = (j - es.length) * k + l := by
        rw [Nat.sub_mul]
        have := Nat.mul_le_mul_right k hge
        omega
      have : (xs ++ ys).getD (j * k + l) undef = ys.getD ((j - es.length) * k + l) undef := by
        simp only [List.getD]
        rw [List.getElem?_append_right (by rw [h.1]; exact hq), h.1, hsub]
      rw [this, e2 j hlt]
      exact h'.2.2 (j - es.length) l (by simp at hj; omega) hl

theorem Flat.mono {w w' : World} {pr pr' : Nat → Nat → Prop} {k : Nat} {xs : List Value} {es : List (List DV)} (h : Flat w pr k xs es) (hp : ∀ b o, pr b o → pr' b o)
    (hc : ∀ b o v, pr b o → w.cell? ⟨b, o, none⟩ = some v → w'.cell? ⟨b, o, none⟩ = some v) : Flat w' pr' k xs es :=
  ⟨h.1, h.2.1, fun j l hj hl => ⟨(h.2.2 j l hj hl).1, (h.2.2 j l hj hl).2.mono hp hc _ (fun _ _ _ h => h)⟩⟩

theorem Flat.nil {w : World} {pr : Nat → Nat → Prop} {k : Nat} : Flat w pr k [] [] := ⟨by simp, fun j hj => by simp at hj, fun j l hj => by simp at hj⟩

theorem setCells_row (g : Nat) (t : TypeId) : ∀ (vs : List Value) (o : Nat) (cur : Array Value) (w : World), w.heap[g]? = some (.cells cur t (0, 0)) → o + vs.length ≤ cur.size →
    w.setCells g o vs = w.setRow g (cur.toList.take o ++ vs ++ cur.toList.drop (o + vs.length)).toArray
  | [], o, cur, w, hg, _ => by
    simp only [World.setCells, List.append_nil, List.length_nil, Nat.add_zero, List.take_append_drop, Array.toArray_toList]
    rw [setRow_self w g cur t (0, 0) hg]
  | v :: rest, o, cur, w, hg, hl => by
    simp only [World.setCells]
    rw [setCell_eq_setRow w g o cur t (0, 0) v hg]
    have ih := setCells_row g t rest (o + 1) (cur.setIfInBounds o v) (w.setRow g (cur.setIfInBounds o v)) (setRow_heap w g cur _ t _ hg) (by simp at hl ⊢; omega)
    rw [ih, setRow_setRow]
    congr 2
    have e := list_seg_step cur.toList o v rest (by simp at hl ⊢; omega)
    simpa [Array.toList_setIfInBounds, Nat.add_assoc, Nat.add_comm] using e

section
variable {P : Program} {B : Nat} {st : St} {a : Act} {w w' : World} {G : Ghost}

/-- A row that one slot owns is written behind its end: whoever else owns another row, and every reading, stays. -/
theorem Rel.rowSet (h : Rel B st a w G) {g : Nat} (hsz : w'.heap.size = w.heap.size) (hother : ∀ b', b' ≠ g → w'.heap[b']? = w.heap[b']?) (hS : g ∉ G.iS) (hL : g ∉ G.iL)
    (hgc : ∀ o v, G.pr g o → w.cell? ⟨g, o, none⟩ = some v → w'.cell? ⟨g, o, none⟩ = some v) (hg : g < w.heap.size) (m : Nat)
    (keep : Own → Bool) (hk : ∀ x v, x ∈ st.own → keep x = true → valAt a w G x.loc = some v → v.ownBlock ≠ some g) :
    Rel B { st with own := st.own.filter keep } a w' { G with pr := fun b o => G.pr b o ∨ (b = g ∧ o < m) } := by
  have hp : ∀ b o, G.pr b o → (G.pr b o ∨ (b = g ∧ o < m)) := fun b o hp => .inl hp
  have hc : ∀ b' o v, G.pr b' o → w.cell? ⟨b', o, none⟩ = some v → w'.cell? ⟨b', o, none⟩ = some v := by
    intro b' o v hpr hv
    by_cases he : b' = g
    · subst he; exact hgc o v hpr hv
    · rw [World.cell?_of_block (w := w) (w' := w') (hother b' he)]; exact hv
  have hval : ∀ x, x ∈ st.own → valAt a w' { G with pr := fun b o => G.pr b o ∨ (b = g ∧ o < m) } x.loc = valAt a w G x.loc := by
    intro x hx
    cases hl : x.loc with
    | slot i => rfl
    | tup i j => rfl
    | cell r off =>
      simp only [valAt]
      cases hr : G.iL[r]? with
      | none => rfl
      | some b =>
        have : b ≠ g := fun e => by subst e; exact hL (List.mem_of_getElem? hr)
        exact World.cell?_of_block (hother b this)
  refine ⟨h.size, fun j hj => (h.tmps j hj).mono hp hc _ (fun _ _ _ h => h), h.defers, ?_, h.newL, ?_, ?_⟩
  · refine ⟨h.boxes.lenS, h.boxes.lenL, fun r b x hb hx => ?_, fun r b x hb hx => ?_, h.boxes.nodup, ?_⟩
    · have : b ≠ g := fun e => by subst e; exact hS (List.mem_of_getElem? hb)
      exact (h.boxes.boxS r b x hb hx).mono (hother b this) hp hc (fun _ _ _ h => h)
    · have : b ≠ g := fun e => by subst e; exact hL (List.mem_of_getElem? hb)
      exact (h.boxes.boxL r b x hb hx).mono (hother b this) hp hc (fun _ _ _ h => h)
    · rintro b o (hp | ⟨rfl, -⟩)
      · rw [hsz]; exact h.boxes.prok b o hp
      · exact ⟨by omega, hS, hL⟩
  · intro x hx
    obtain ⟨hx1, hx2⟩ := List.mem_filter.1 hx
    obtain ⟨v, hv, n, xs, ho, hgv⟩ := h.own x hx1
    have hne := hk x v hx1 hx2 hv
    refine ⟨v, by rw [hval x hx1]; exact hv, n, xs, ⟨ho.1, ?_⟩, fun g' hg' => ?_⟩
    · rcases ho.2 with h2 | ⟨g', cap, cur, h2, h3, h4, h5⟩
      · exact .inl h2
      · have : g' ≠ g := fun e => by subst e; exact hne (by rw [h2]; rfl)
        exact .inr ⟨g', cap, cur, h2, h3, by rw [hother g' this]; exact h4, h5⟩
    · obtain ⟨g1, g2, g3⟩ := hgv g' hg'
      refine ⟨g1, g2, fun o ho' hpr => ?_⟩
      rcases hpr with hpr | ⟨rfl, -⟩
      · exact g3 o ho' hpr
      · exact hne hg'
  · refine (h.dist.filter keep).imp_of_mem fun {x y} hx hy hxy v u hv hu => ?_
    rw [hval _ (List.mem_filter.1 hx).1] at hv
    rw [hval _ (List.mem_filter.1 hy).1] at hu
    exact hxy v u hv hu

/-- The flat cells of a slice's reading. -/
theorem V.flat {pr : Nat → Nat → Prop} {i : Places} {v : Value} {k : Nat} {es : List (List DV)} (hk : 0 < k) (h : V w pr i v (.slice k es)) :
    ∃ xs : List Value, Flat w pr k xs es ∧ ((∃ a, v = .slice a 0 0 ∧ es = []) ∨ ∃ b off cap, v = .slice (some ⟨b, off, none⟩) es.length cap ∧ es.length ≤ cap ∧
      ∀ q, q < es.length * k → pr b (off + q) ∧ w.cell? ⟨b, off + q, none⟩ = some (xs.getD q undef)) := by
  rcases h.slice_inv with ⟨ad, rfl, rfl⟩ | ⟨b, off, cap, c, rfl, hcap, hkk, h0, h1, hv⟩
  · exact ⟨[], Flat.nil, .inl ⟨ad, rfl, rfl⟩⟩
  · have hg : ∀ q, q < es.length * k → ((List.range (es.length * k)).map fun q => c (q / k) (q % k)).getD q undef = c (q / k) (q % k) := fun q hq => by simp [List.getD, hq]
    have hdm : ∀ q, q < es.length * k → q / k < es.length ∧ q % k < k := fun q hq => ⟨(Nat.div_lt_iff_lt_mul hk).2 hq, Nat.mod_lt q hk⟩
    refine ⟨(List.range (es.length * k)).map fun q => c (q / k) (q % k), ⟨by simp, hkk, fun j l hj hl => ?_⟩, .inr ⟨b, off, cap, rfl, hcap, fun q hq => ?_⟩⟩
    · have hlt := idx_lt hj hl
      have e1 : (j * k + l) / k = j := by rw [Nat.mul_comm, Nat.mul_add_div hk, Nat.div_eq_of_lt hl, Nat.add_zero]
      have e2 : (j * k + l) % k = l := by rw [Nat.mul_comm, Nat.mul_add_mod, Nat.mod_eq_of_lt hl]
      rw [hg _ hlt, e1, e2]
      exact ⟨h1 j l hj hl, hv j l hj hl⟩
    · obtain ⟨d1, d2⟩ := hdm q hq
      have := h0 (q / k) (q % k) d1 d2
      rw [hg q hq]
      have e : off + q / k * k + q % k = off + q := by
        have := Nat.div_add_mod q k
        rw [Nat.mul_comm] at this
        omega
      rw [e] at this
      exact this

theorem Rel.ownOnly (h : Rel B st a w G) (keep : Own → Bool) : Rel B { st with own := st.own.filter keep } a w G :=
  ⟨h.size, h.tmps, h.defers, h.boxes, h.newL, fun x hx => h.own x (List.mem_filter.1 hx).1, h.dist.filter keep⟩

def notSlot (s : Nat) (x : Own) : Bool := x.loc != .slot s

theorem Rel.append (h : Rel B st a w G) (hB : B ≤ w.heap.size) {t tx ty e : TypeId} {i : TI} {j1 j2 : Nat} {z : Value} (ht : tinfo P t = some ⟨.slice e, j1, j2, z⟩) (hi : tinfo P e = some i)
    (hk0 : 0 < i.size) (hzs : i.zero.cells.size = i.size) {s : Nat} (hown : ⟨.slot s, e, i.size⟩ ∈ st.own) {es fs : List (List DV)}
    (hv : V w G.pr G.at (a.tmps.getD s undef) (.slice i.size es)) {x : Value} {news : List Value} (hsrc : Src P i.size tx x fs.length news w) (hf : Flat w G.pr i.size news fs)
    (h63 : es.length + fs.length ≤ maxLen) (hbytes : (es.length + fs.length) * i.bytes ≤ 140737488355328) :
    ∃ v' w' G', (Builtin.append_ #[t, tx] ty #[a.tmps.getD s undef, x]).run P w = .ok v' w' ∧ Rel B { st with own := st.own.filter (notSlot s) } a w' G' ∧
      (∀ w0 G0, w0.heap.size = B → Evol w0 G0 w G → Evol w0 G0 w' G') ∧ V w' G'.pr G'.at v' (.slice i.size (es ++ fs)) ∧ OwnVal B w' G' e i.size v' ∧
      (∀ x u, x ∈ st.own.filter (notSlot s) → valAt a w' G' x.loc = some u → apart u v') := by
  obtain ⟨xt, hxt, hut, -⟩ := tinfo_some ht
  obtain ⟨xe, hxe, hue, hsz, hby, hz⟩ := tinfo_some hi
  obtain ⟨v, hva, n, xs, ho, hg⟩ := h.own _ hown
  simp only [valAt, Option.some.injEq] at hva
  dsimp only at ho hg
  rw [hva] at hv ⊢
  obtain ⟨xs', hfl, hcase⟩ := hv.flat hk0
  have hapart : ∀ x u, x ∈ st.own.filter (notSlot s) → valAt a w G x.loc = some u → apart u v := by
    intro x u hx hu
    obtain ⟨hx1, hx2⟩ := List.mem_filter.1 hx
    refine pairwise_of (R := fun x y : Own => ∀ v u, valAt a w G x.loc = some v → valAt a w G y.loc = some u → apart v u) (fun x y hxy v u hv hu => apart_symm (hxy u v hu hv)) h.dist x hx1 _ hown (fun e => ?_) u v hu (by simp [valAt, hva])
    subst e
    simp [notSlot] at hx2
  have hmaxI : maxLen = 9223372036854775807 := rfl
  by_cases hm : fs.length = 0
  · have hfs : fs = [] := List.eq_nil_of_length_eq_zero hm
    subst hfs
    have hnn : news = [] := List.eq_nil_of_length_eq_zero (by simpa using hf.1)
    subst hnn
    refine ⟨v, w, G, ?_, h.ownOnly _, fun _ _ _ hE => hE, by rw [List.append_nil]; exact hv, ⟨n, xs, ho, hg⟩, hapart⟩
    have hsrc' : Src P xe.size tx x 0 [] w := by rw [hsz]; exact hsrc
    rcases hcase with ⟨ad, rfl, -⟩ | ⟨b, off, cap, rfl, hcap, -⟩
    · exact run_append_nothing w t tx ty e xe hut hxe ad 0 0 (Nat.le_refl _) x hsrc'
    · exact run_append_nothing w t tx ty e xe hut hxe _ _ _ hcap x hsrc'
  have hsrc' : Src P xe.size tx x fs.length news w := by rw [hsz]; exact hsrc
  have hzl : ∀ c, (Builtin.zeroCells i.zero.cells c).size = c * i.size := fun c => by rw [size_zeroCells, hzs]
  -- a new row
  have grow : ∀ (base : Option Addr) (old : Nat), v = .slice base es.length old → old < es.length + fs.length →
      (Builtin.firstCells xe.size es.length (.slice base es.length old)).run P w.drew = .ok xs'.toArray w.drew →
      ∃ v' w' G', (Builtin.append_ #[t, tx] ty #[v, x]).run P w = .ok v' w' ∧ Rel B { st with own := st.own.filter (notSlot s) } a w' G' ∧
      (∀ w0 G0, w0.heap.size = B → Evol w0 G0 w G → Evol w0 G0 w' G') ∧ V w' G'.pr G'.at v' (.slice i.size (es ++ fs)) ∧ OwnVal B w' G' e i.size v' ∧
      (∀ x u, x ∈ st.own.filter (notSlot s) → valAt a w' G' x.loc = some u → apart u v') := by
    intro base old hv0 hlt hfc
    have hfit := growslice_fits (need := es.length + fs.length) (old := old) (bytes := xe.bytes) hlt (by rw [hby]; exact hbytes)
    have hr := run_append_grow_src (P := P) w t tx ty e xe i.zero hut hxe hz base es.length old xs' hfc x fs.length news hsrc' hlt (by simp only [hmaxI] at h63; omega) hfit
    have hge := grownCap_ge w (es.length + fs.length) old e
    have hcm := grownCap_le_maxLen w (es.length + fs.length) old e h63
    have hff := hfl.append hf
    have hlen : (es ++ fs).length = es.length + fs.length := by simp
    have hN := (h.ownOnly (notSlot s)).newRow hB (e := e) (k := i.size) (cap := grownCap w (es.length + fs.length) old e) (es := es ++ fs)
      (cs := (xs' ++ news).toArray ++ Builtin.zeroCells i.zero.cells (grownCap w (es.length + fs.length) old e - (es.length + fs.length))) hff.2.1 (by rw [hlen]; exact hge) hcm
      (by
        rw [Array.size_append, List.size_toArray, hff.1, hzl, hlen, ← Nat.add_mul]
        congr 1
        omega)
      (fun j l hj hl => by
        have hq : j * i.size + l < (xs' ++ news).length := by rw [hff.1]; exact idx_lt hj hl
        have : ((xs' ++ news).toArray ++ Builtin.zeroCells i.zero.cells (grownCap w (es.length + fs.length) old e - (es.length + fs.length))).toList.getD (j * i.size + l) undef = (xs' ++ news).getD (j * i.size + l) undef := by
          simp only [Array.toList_append, List.getD]
          rw [List.getElem?_append_left hq]
        rw [this]
        exact hff.2.2 j l hj hl)
      (.inr rfl)
    obtain ⟨G', r1, r2, r3, r4, r5⟩ := hN
    rw [hlen] at r3 r4 r5
    rw [hv0]
    exact ⟨_, _, G', hr, r1, fun w0 G0 _ hE => r2 w0 G0 hE, r3, r4, r5⟩
  rcases hcase with ⟨ad, hv0, hes⟩ | ⟨b, off, cap, hv0, hcap, hcells⟩
  · subst hes
    cases ad with
    | some ad =>
      refine grow (some ad) 0 hv0 (by simp; omega) ?_
      have hx' : xs' = [] := List.eq_nil_of_length_eq_zero (by simpa using hfl.1)
      rw [hx', hsz]
      exact run_firstCells_some w.drew i.size 0 ad 0 0 [] (by simp) (fun j u hu => by simp at hu)
    | none =>
    have hx' : xs' = [] := List.eq_nil_of_length_eq_zero (by simpa using hfl.1)
    refine grow none 0 hv0 (by simp; omega) ?_
    rw [hx']
    simp [Builtin.firstCells]
  · rcases ho.2 with ⟨hvn, -⟩ | ⟨g, cap', cur, hvg, hBg, hgg, hncap, hcm, hcs, htake⟩
    · rw [hv0] at hvn; cases hvn
    have hvg' := hvg
    rw [hv0] at hvg'
    simp only [Value.slice.injEq, Option.some.injEq, Addr.mk.injEq] at hvg'
    obtain ⟨⟨rfl, rfl, -⟩, hn, rfl⟩ := hvg'
    by_cases hroom : es.length + fs.length ≤ cap
    · -- in place
      have hfitc : es.length * i.size + news.length ≤ cur.size := by
        rw [hf.1, hcs, ← Nat.add_mul]; exact Nat.mul_le_mul_right _ hroom
      have hr := run_append_room_src (P := P) w t tx ty e xe hut hxe b 0 es.length cap x fs.length news hsrc' hroom
        (fun j hj => by
          rw [cell_of_row w b _ cur e (0, 0) hgg, hsz]
          have : 0 + es.length * i.size + j < cur.size := by omega
          rw [Array.getElem?_eq_getElem this]; rfl)
        (fun j hj => frozen_of_row w b _ cur e hgg)
      rw [hsz, Nat.zero_add, setCells_row b e news (es.length * i.size) cur w hgg hfitc] at hr
      obtain ⟨g1, g2, g3⟩ := hg b (by rw [hv0]; rfl)
      have hbl : b < w.heap.size := (Array.getElem?_eq_some_iff.1 hgg).1
      have hnk : n * i.size = es.length * i.size := by rw [hn]
      let cur' := (cur.toList.take (es.length * i.size) ++ news ++ cur.toList.drop (es.length * i.size + news.length)).toArray
      have hcur' : cur'.size = cur.size := by
        simp only [cur', List.size_toArray, List.length_append, List.length_take, List.length_drop, Array.length_toList]; omega
      have hhb : (w.setRow b cur').heap[b]? = some (.cells cur' e (0, 0)) := setRow_heap w b cur _ e _ hgg
      have hoth : ∀ b', b' ≠ b → (w.setRow b cur').heap[b']? = w.heap[b']? := fun b' hb' => setRow_other w b b' _ hb'
      have hxs' : xs' = cur.toList.take (es.length * i.size) := by
        have hl1 : xs'.length = (cur.toList.take (es.length * i.size)).length := by
          rw [hfl.1, List.length_take, show cur.toList.length = cur.size from Array.length_toList, hcs]
          exact (Nat.min_eq_left (Nat.mul_le_mul_right _ hcap)).symm
        refine List.ext_getElem hl1 fun q h1 h2 => ?_
        have hq : q < es.length * i.size := by rw [← hfl.1]; exact h1
        have hc := (hcells q hq).2
        rw [Nat.zero_add, cell_of_row w b q cur e (0, 0) hgg] at hc
        have hqc : q < cur.size := by
          rw [hcs]; exact Nat.lt_of_lt_of_le hq (Nat.mul_le_mul_right _ hcap)
        simp [hqc, List.getD, h1] at hc
        simp [hc]
      have hcurl : cur'.toList = (xs' ++ news) ++ cur.toList.drop (es.length * i.size + news.length) := by
        simp only [cur', hxs', List.append_assoc]
      have hff := hfl.append hf
      have hlen : (es ++ fs).length = es.length + fs.length := by simp
      have hgc : ∀ o u, G.pr b o → w.cell? ⟨b, o, none⟩ = some u → (w.setRow b cur').cell? ⟨b, o, none⟩ = some u := by
        intro o u hp hu
        have hlt : o < es.length * i.size := by
          rcases Nat.lt_or_ge o (es.length * i.size) with h | h
          · exact h
          · exact (g3 o (by rw [hnk]; exact h) hp).elim
        rw [cell_of_row w b o cur e (0, 0) hgg] at hu
        rw [cell_of_row _ b o cur' e (0, 0) hhb]
        have hoc : o < cur.size := by rw [hcs]; exact Nat.lt_of_lt_of_le hlt (Nat.mul_le_mul_right _ hcap)
        simp [hoc] at hu
        have : cur'[o]? = cur'.toList[o]? := by simp
        rw [this, hcurl, List.append_assoc, List.getElem?_append_left (by rw [hfl.1]; exact hlt), hxs', List.getElem?_take, if_pos hlt]
        simp [hoc, hu]
      have hR := h.rowSet (w' := w.setRow b cur') (g := b) (by simp) hoth g1 g2 hgc hbl ((es ++ fs).length * i.size) (notSlot s) (fun x u hx hkx hu e' => by
        have := hapart x u (List.mem_filter.2 ⟨hx, hkx⟩) hu b e'
        exact this (by rw [hv0]; rfl))
      have hcellq : ∀ q, q < (es ++ fs).length * i.size → (w.setRow b cur').cell? ⟨b, q, none⟩ = some ((xs' ++ news).getD q undef) := by
        intro q hq
        rw [cell_of_row _ b q cur' e (0, 0) hhb]
        have h1 : q < (xs' ++ news).length := by rw [hff.1]; exact hq
        have : cur'[q]? = cur'.toList[q]? := by simp
        rw [this, hcurl, List.getElem?_append_left h1]
        simp only [List.getD, List.getElem?_eq_getElem h1, Option.getD_some]
      refine ⟨_, _, _, by rw [hv0]; exact hr, hR, fun w0 G0 hw0 hE => ?_, ?_, ?_, ?_⟩
      · refine ⟨hE.os, hE.tape, hE.output, by simpa using hE.size, fun b' hb' hn' => ?_, hE.iS, fun b' o hp => .inl (hE.pr b' o hp), fun b' o hb' hp => ?_⟩
        · rw [hoth b' (by omega)]; exact hE.old b' hb' hn'
        · rcases hp with hp | ⟨rfl, -⟩
          · exact hE.prold b' o hb' hp
          · omega
      · rw [show es.length + fs.length = (es ++ fs).length from hlen.symm]
        have hm := hff.mono (w' := w.setRow b cur') (pr' := fun b' o => G.pr b' o ∨ (b' = b ∧ o < (es ++ fs).length * i.size)) (fun _ _ hp => .inl hp) (fun b' o u hp hu => by
          by_cases he : b' = b
          · subst he; exact hgc o u hp hu
          · rw [World.cell?_of_block (hoth b' he)]; exact hu)
        exact V_row (xs := xs' ++ news) hm.2.1 (by rw [hlen]; exact hroom) (fun q hq => ⟨.inr ⟨rfl, hq⟩, hcellq q hq⟩) hm.2.2
      · refine ⟨es.length + fs.length, xs' ++ news, ⟨by rw [hff.1, hlen], .inr ⟨b, cap, cur', rfl, hBg, hhb, hroom, hcm, by rw [hcur']; exact hcs, ?_⟩⟩, fun g' hg' => ?_⟩
        · rw [hcurl, ← hlen, ← hff.1, List.take_left]
        · simp [Value.ownBlock] at hg'
          subst hg'
          refine ⟨g1, g2, fun o ho' hp => ?_⟩
          rcases hp with hp | ⟨-, hp⟩
          · refine g3 o ?_ hp
            rw [hnk]
            exact Nat.le_trans (Nat.mul_le_mul_right _ (Nat.le_add_right _ _)) ho'
          · rw [hlen] at hp; omega
      · intro x u hx hu g' hg' hg''
        simp [Value.ownBlock] at hg''
        subst hg''
        have hval : valAt a (w.setRow b cur') { G with pr := fun b' o => G.pr b' o ∨ (b' = b ∧ o < (es ++ fs).length * i.size) } x.loc = valAt a w G x.loc := by
          cases hl : x.loc with
          | slot i => rfl
          | tup i j => rfl
          | cell r off =>
            simp only [valAt]
            cases hrl : G.iL[r]? with
            | none => rfl
            | some b' => exact World.cell?_of_block (hoth b' fun e' => g2 (by rw [← e']; exact List.mem_of_getElem? hrl))
        rw [hval] at hu
        exact hapart x u hx hu b hg' (by rw [hv0]; rfl)
    · refine grow _ cap hv0 (by omega) ?_
      rw [hsz]
      refine run_firstCells_some w.drew i.size es.length ⟨b, 0, none⟩ es.length cap xs' hfl.1 (fun j u hu => ?_)
      have hj : j < xs'.length := (List.getElem?_eq_some_iff.1 hu).1
      have := (hcells j (by rw [← hfl.1]; exact hj)).2
      rw [add_lit]
      simp [List.getD, hu] at this ⊢
      exact this

end
end Go.AL
