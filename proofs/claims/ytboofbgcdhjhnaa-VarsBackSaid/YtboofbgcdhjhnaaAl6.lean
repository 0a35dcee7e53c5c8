/-
  AL, part 6: how abstract states follow the changes of a world: a slot written, a box made or written, a row made, an owned row appended to.
-/
import Derived.Test.YtboofbgcdhjhnaaAl5
namespace Go.AL
set_option linter.unusedVariables false

def setO (l : List DV) (dst : Option Nat) (d : DV) : List DV :=
  match dst with
  | some i => l.set i d
  | none => l

def renOwn (ren : OLoc → Option OLoc) (x : Own) : Option Own :=
  match ren x.loc with
  | some l => some { x with loc := l }
  | none => none

section
variable {P : Program} {B : Nat} {st : St} {a : Act} {w w' : World} {G : Ghost}

theorem put_size (a : Act) (dst : Option Nat) (v : Value) : (a.put dst v).tmps.size = a.tmps.size := by cases dst <;> simp [Act.put]
theorem put_defers (a : Act) (dst : Option Nat) (v : Value) : (a.put dst v).defers = a.defers := by cases dst <;> simp [Act.put]
theorem setO_length (l : List DV) (dst : Option Nat) (d : DV) : (setO l dst d).length = l.length := by cases dst <;> simp [setO]
theorem put_getD (a : Act) (dst : Option Nat) (v : Value) (j : Nat) : (a.put dst v).tmps.getD j undef = if dst = some j ∧ j < a.tmps.size then v else a.tmps.getD j undef := by
  cases dst with
  | none => simp [Act.put]
  | some i =>
    simp only [Act.put, Option.some.injEq, Array.getD_eq_getD_getElem?, Array.getElem?_setIfInBounds]
    by_cases hij : i = j
    · subst hij
      by_cases hi : i < a.tmps.size <;> simp [hi]
    · simp [hij]
theorem setO_getD (l : List DV) (dst : Option Nat) (d : DV) (j : Nat) : (setO l dst d).getD j .any = if dst = some j ∧ j < l.length then d else l.getD j .any := by
  cases dst with
  | none => simp [setO]
  | some i =>
    simp only [setO, Option.some.injEq, List.getD, List.getElem?_set]
    by_cases hij : i = j
    · subst hij
      by_cases hi : i < l.length <;> simp [hi]
    · simp [hij]

theorem Rel.put (h : Rel B st a w G) {v : Value} {d : DV} (hv : V w G.pr G.at v d) (dst : Option Nat) (ren : OLoc → Option OLoc)
    (hren : ∀ x, x ∈ st.own → ∀ l, ren x.loc = some l → valAt (a.put dst v) w G l = valAt a w G x.loc) :
    Rel B { st with t := setO st.t dst d, own := st.own.filterMap (renOwn ren) } (a.put dst v) w G := by
  refine ⟨?_, ?_, ?_, h.boxes, h.newL, ?_, ?_⟩
  · simp [put_size, setO_length, h.size]
  · intro j hj
    simp only [setO_length] at hj
    rw [put_getD, setO_getD, h.size]
    by_cases hc : dst = some j ∧ j < st.t.length
    · rw [if_pos hc, if_pos hc]; exact hv
    · rw [if_neg hc, if_neg hc]; exact h.tmps j hj
  · rw [put_defers]; exact h.defers
  · intro y hy
    obtain ⟨x, hx, hxy⟩ := List.mem_filterMap.1 hy
    obtain ⟨u, hu, ho⟩ := h.own x hx
    unfold renOwn at hxy
    split at hxy
    · rename_i l hl
      cases hxy
      exact ⟨u, by rw [hren x hx l hl]; exact hu, ho⟩
    · cases hxy
  · refine List.pairwise_filterMap.2 (h.dist.imp_of_mem ?_)
    intro x y hx hy hxy x' hx' y' hy' v u hv hu
    unfold renOwn at hx' hy'
    split at hx' <;> try (cases hx'; done)
    rename_i l hl
    split at hy' <;> try (cases hy'; done)
    rename_i m hm
    cases hx'; cases hy'
    rw [hren x hx l hl] at hv
    rw [hren y hy m hm] at hu
    exact hxy v u hv hu

theorem V.world {pr : Nat → Nat → Prop} {i : Places} {v : Value} {d : DV} (h : V w pr i v d)
    (hc : ∀ b o v, pr b o → w.cell? ⟨b, o, none⟩ = some v → w'.cell? ⟨b, o, none⟩ = some v) : V w' pr i v d :=
  h.mono (fun _ _ h => h) hc i (fun _ _ _ h => h)

theorem BoxOk.mono {pr pr' : Nat → Nat → Prop} {i i' : Places} {b : Nat} {x : Box} (h : BoxOk w pr i b x) (hb : w'.heap[b]? = w.heap[b]?)
    (hp : ∀ b o, pr b o → pr' b o) (hc : ∀ b o v, pr b o → w.cell? ⟨b, o, none⟩ = some v → w'.cell? ⟨b, o, none⟩ = some v)
    (hi : ∀ l r b, i l r = some b → i' l r = some b) : BoxOk w' pr' i' b x := by
  cases x with
  | cells t cs =>
    obtain ⟨vs, h1, h2, h3, h4⟩ := h
    exact ⟨vs, by rw [hb]; exact h1, h2, h3, fun j hj => (h4 j hj).mono hp hc i' hi⟩
  | iter s pos => show _ = _; rw [hb]; exact h
  | obj p => obtain ⟨o, h1, h2⟩ := h; exact ⟨o, by rw [hb]; exact h1, h2⟩

theorem BoxOk.lt {pr : Nat → Nat → Prop} {i : Places} {b : Nat} {x : Box} (h : BoxOk w pr i b x) : b < w.heap.size := by
  cases x with
  | cells t cs => obtain ⟨vs, h1, -⟩ := h; exact (Array.getElem?_eq_some_iff.1 h1).1
  | iter s pos => exact (Array.getElem?_eq_some_iff.1 h).1
  | obj p => obtain ⟨o, h1, -⟩ := h; exact (Array.getElem?_eq_some_iff.1 h1).1

theorem Boxes.ltS {S L : List Box} (h : Boxes w G S L) {b : Nat} (hb : b ∈ G.iS) : b < w.heap.size := by
  obtain ⟨r, hr, he⟩ := List.getElem_of_mem hb
  have hr' : r < S.length := by rw [← h.lenS]; exact hr
  exact (h.boxS r b _ (by rw [List.getElem?_eq_getElem hr, he]) (List.getElem?_eq_getElem hr')).lt
theorem Boxes.ltL {S L : List Box} (h : Boxes w G S L) {b : Nat} (hb : b ∈ G.iL) : b < w.heap.size := by
  obtain ⟨r, hr, he⟩ := List.getElem_of_mem hb
  have hr' : r < L.length := by rw [← h.lenL]; exact hr
  exact (h.boxL r b _ (by rw [List.getElem?_eq_getElem hr, he]) (List.getElem?_eq_getElem hr')).lt

/-- The blocks that the state speaks of are kept: rows may be added, more cells of new blocks protected. -/
theorem Rel.grow (h : Rel B st a w G) (hs : Same w w') (pr' : Nat → Nat → Prop) (hp : ∀ b o, G.pr b o → pr' b o)
    (hpo : ∀ b o, b < w.heap.size → pr' b o → G.pr b o) (hpn : ∀ b o, pr' b o → b < w'.heap.size) : Rel B st a w' { G with pr := pr' } := by
  have hc : ∀ b o v, G.pr b o → w.cell? ⟨b, o, none⟩ = some v → w'.cell? ⟨b, o, none⟩ = some v := fun b o v _ hv => hs.cell hv
  have hval : ∀ x, x ∈ st.own → valAt a w' { G with pr := pr' } x.loc = valAt a w G x.loc := by
    intro x hx
    obtain ⟨v, hv, -⟩ := h.own x hx
    cases hl : x.loc with
    | slot i => rfl
    | tup i j => rfl
    | cell r off =>
      rw [hl] at hv
      simp only [valAt] at hv ⊢
      cases hr : G.iL[r]? with
      | none => rfl
      | some b =>
        have hb := h.boxes.ltL (List.mem_of_getElem? hr)
        exact World.cell?_of_block (hs.2 b hb)
  refine ⟨h.size, fun j hj => (h.tmps j hj).mono hp hc _ (fun _ _ _ h => h), h.defers, ?_, h.newL, ?_, ?_⟩
  · refine ⟨h.boxes.lenS, h.boxes.lenL, fun r b x hb hx => ?_, fun r b x hb hx => ?_, h.boxes.nodup, fun b o hpr => ⟨hpn b o hpr, fun hm => ?_, fun hm => ?_⟩⟩
    · have := h.boxes.boxS r b x hb hx
      exact this.mono (hs.2 b this.lt) hp hc (fun _ _ _ h => h)
    · have := h.boxes.boxL r b x hb hx
      exact this.mono (hs.2 b this.lt) hp hc (fun _ _ _ h => h)
    · exact (h.boxes.prok b o (hpo b o (h.boxes.ltS hm) hpr)).2.1 hm
    · exact (h.boxes.prok b o (hpo b o (h.boxes.ltL hm) hpr)).2.2 hm
  · intro x hx
    obtain ⟨v, hv, n, xs, ho, hg⟩ := h.own x hx
    refine ⟨v, by rw [hval x hx]; exact hv, n, xs, ?_, fun g hgv => ?_⟩
    · refine ⟨ho.1, ?_⟩
      rcases ho.2 with h2 | ⟨g, cap, cur, h2, h3, h4, h5⟩
      · exact .inl h2
      · exact .inr ⟨g, cap, cur, h2, h3, by rw [hs.2 g (Array.getElem?_eq_some_iff.1 h4).1]; exact h4, h5⟩
    · obtain ⟨h1, h2, h3⟩ := hg g hgv
      exact ⟨h1, h2, fun o hno hpr => h3 o hno (hpo g o (ho.lt g hgv).2 hpr)⟩
  · exact h.dist.imp_of_mem fun hx hy hxy v u hv hu => hxy v u (by rw [← hval _ hx]; exact hv) (by rw [← hval _ hy]; exact hu)

theorem Evol.refl (w : World) (G : Ghost) : Evol w G w G := ⟨rfl, rfl, rfl, Nat.le_refl _, fun _ _ _ => rfl, rfl, fun _ _ h => h, fun _ _ _ h => h⟩

theorem Evol.grow {w0 : World} {G0 : Ghost} (h : Evol w0 G0 w G) (hs : Same w w') (h1 : w'.os = w.os) (h2 : w'.tape = w.tape) (h3 : w'.output = w.output) {G' : Ghost}
    (hi : G'.iS = G.iS) (hp : ∀ b o, G.pr b o → G'.pr b o) (hpo : ∀ b o, b < w.heap.size → G'.pr b o → G.pr b o) : Evol w0 G0 w' G' :=
  ⟨h1.trans h.os, h2.trans h.tape, h3.trans h.output, Nat.le_trans h.size hs.1, fun b hb hn => (hs.2 b (Nat.lt_of_lt_of_le hb h.size)).trans (h.old b hb hn), hi.trans h.iS,
    fun b o hb => hp b o (h.pr b o hb), fun b o hb hpr => h.prold b o hb (hpo b o (Nat.lt_of_lt_of_le hb h.size) hpr)⟩

theorem Same.alloc (w : World) (o : Obj) : Same w (w.alloc o) := ⟨by simp, fun b hb => heap_alloc_old w o b hb⟩
theorem Same.trans {w1 w2 w3 : World} (h : Same w1 w2) (h' : Same w2 w3) : Same w1 w3 := ⟨Nat.le_trans h.1 h'.1, fun b hb => (h'.2 b (Nat.lt_of_lt_of_le hb h.1)).trans (h.2 b hb)⟩

/-- A new box. -/
theorem Rel.newBox (h : Rel B st a w G) (hB : B ≤ w.heap.size) (o : Obj) (x : Box)
    (hx : BoxOk (w.alloc o) G.pr G.at w.heap.size x) : Rel B { st with L := st.L ++ [x] } a (w.alloc o) { G with iL := G.iL ++ [w.heap.size] } := by
  have h' := h.grow (Same.alloc w o) G.pr (fun _ _ h => h) (fun _ _ _ h => h) (fun b o' hp => Nat.lt_of_lt_of_le (h.boxes.prok b o' hp).1 (by simp))
  have hi : ∀ l r b, G.at l r = some b → ({ G with iL := G.iL ++ [w.heap.size] } : Ghost).at l r = some b := by
    intro l r b hb
    cases l with
    | false => exact hb
    | true =>
      have hb' : G.iL[r]? = some b := hb
      show (G.iL ++ [w.heap.size])[r]? = some b
      rw [List.getElem?_append_left (List.getElem?_eq_some_iff.1 hb').1]
      exact hb'
  have hn : ∀ b, b ∈ G.iL → b < w.heap.size := fun b hb => h.boxes.ltL hb
  have hnS : ∀ b, b ∈ G.iS → b < w.heap.size := fun b hb => h.boxes.ltS hb
  have hval : ∀ l u, valAt a (w.alloc o) G l = some u → valAt a (w.alloc o) { G with iL := G.iL ++ [w.heap.size] } l = some u := by
    intro l u hu
    cases l with
    | slot i => exact hu
    | tup i j => exact hu
    | cell r off =>
      simp only [valAt] at hu ⊢
      cases hr : G.iL[r]? with
      | none => simp [hr] at hu
      | some b =>
        rw [hr] at hu
        rw [List.getElem?_append_left (List.getElem?_eq_some_iff.1 hr).1, hr]
        exact hu
  refine ⟨h'.size, fun j hj => (h'.tmps j hj).mono (fun _ _ h => h) (fun _ _ _ _ h => h) _ hi, h'.defers, ?_, ?_, ?_, ?_⟩
  · refine ⟨h'.boxes.lenS, by simp [h.boxes.lenL], fun r b y hb hy => ?_, fun r b y hb hy => ?_, ?_, ?_⟩
    · exact (h'.boxes.boxS r b y hb hy).mono rfl (fun _ _ h => h) (fun _ _ _ _ h => h) (fun _ _ _ h => h)
    · by_cases hr : r < G.iL.length
      · have hb' : G.iL[r]? = some b := by simpa [List.getElem?_append_left hr] using hb
        have hy' : st.L[r]? = some y := by
          rw [h.boxes.lenL] at hr
          simpa [List.getElem?_append_left hr] using hy
        exact (h'.boxes.boxL r b y hb' hy').mono rfl (fun _ _ h => h) (fun _ _ _ _ h => h) hi
      · have hre : r = G.iL.length := by
          have := (List.getElem?_eq_some_iff.1 hb).1
          simp at this; omega
        subst hre
        simp at hb
        rw [h.boxes.lenL] at hy
        simp at hy
        subst hb; subst hy
        exact hx.mono rfl (fun _ _ h => h) (fun _ _ _ _ h => h) hi
    · rw [← List.append_assoc]
      refine List.nodup_append.2 ⟨h.boxes.nodup, by simp, fun b hb c hc => ?_⟩
      simp at hc
      subst hc
      rcases List.mem_append.1 hb with hb | hb
      · exact Nat.ne_of_lt (hnS b hb)
      · exact Nat.ne_of_lt (hn b hb)
    · intro b o' hp
      obtain ⟨p1, p2, p3⟩ := h.boxes.prok b o' hp
      refine ⟨Nat.lt_of_lt_of_le p1 (by simp), p2, fun hm => ?_⟩
      rcases List.mem_append.1 hm with hm | hm
      · exact p3 hm
      · simp at hm; omega
  · intro b hb
    rcases List.mem_append.1 hb with hb | hb
    · exact h.newL b hb
    · simp at hb; omega
  · intro x hx
    obtain ⟨v, hv, n, xs, ho, hg⟩ := h'.own x hx
    refine ⟨v, hval _ _ hv, n, xs, ho, fun g hgv => ?_⟩
    obtain ⟨h1, h2, h3⟩ := hg g hgv
    refine ⟨h1, fun hm => ?_, h3⟩
    rcases List.mem_append.1 hm with hm | hm
    · exact h2 hm
    · simp at hm
      obtain ⟨v0, hv0, n0, xs0, ho0, -⟩ := h.own x hx
      have e : valAt a (w.alloc o) { G with pr := G.pr } x.loc = valAt a w G x.loc := by
        cases hl : x.loc with
        | slot i => rfl
        | tup i j => rfl
        | cell r off =>
          simp only [valAt]
          cases hr : G.iL[r]? with
          | none => rfl
          | some b => exact World.cell?_of_block (heap_alloc_old w o b (hn b (List.mem_of_getElem? hr)))
      rw [e, hv0] at hv
      cases hv
      have := (ho0.lt g hgv).2
      omega
  · refine h'.dist.imp_of_mem fun {x y} hx hy hxy v u hv hu => ?_
    obtain ⟨v', hv', -⟩ := h'.own x hx
    obtain ⟨u', hu', -⟩ := h'.own y hy
    rw [hval _ _ hv'] at hv
    rw [hval _ _ hu'] at hu
    cases hv; cases hu
    exact hxy _ _ hv' hu'

end
end Go.AL
