/-
  AL, part 5: struct literals; the evaluation of memory-free operations is sound.
-/
import Derived.Test.YtboofbgcdhjhnaaAl4
namespace Go.AL
set_option linter.unusedVariables false

/-- A list of one-cell values that reads as a list of data values. -/
def LV (w : World) (pr : Nat → Nat → Prop) (i : Places) (vs : List Value) (ds : List DV) : Prop :=
  vs.length = ds.length ∧ ∀ j, j < ds.length → (vs.getD j undef).oneCell' = true ∧ V w pr i (vs.getD j undef) (ds.getD j .any)

section
variable {w : World} {pr : Nat → Nat → Prop} {i : Places}

theorem LV.nil : LV w pr i [] [] := ⟨rfl, fun j hj => by simp at hj⟩
theorem LV.append {vs us : List Value} {ds es : List DV} (h : LV w pr i vs ds) (h' : LV w pr i us es) : LV w pr i (vs ++ us) (ds ++ es) := by
  refine ⟨by simp [h.1, h'.1], fun j hj => ?_⟩
  by_cases hlt : j < ds.length
  · have := h.2 j hlt
    simpa [List.getD, List.getElem?_append_left (show j < vs.length by rw [h.1]; exact hlt), List.getElem?_append_left hlt] using this
  · have hge : ds.length ≤ j := by omega
    have := h'.2 (j - ds.length) (by simp at hj; omega)
    simpa [List.getD, List.getElem?_append_right (show vs.length ≤ j by rw [h.1]; exact hge), List.getElem?_append_right hge, h.1] using this
theorem LV.take {vs : List Value} {ds : List DV} (h : LV w pr i vs ds) (n : Nat) : LV w pr i (vs.take n) (ds.take n) := by
  refine ⟨by simp [h.1], fun j hj => ?_⟩
  simp at hj
  have := h.2 j (by omega)
  simpa [List.getD, List.getElem?_take, show j < n by omega] using this
theorem LV.drop {vs : List Value} {ds : List DV} (h : LV w pr i vs ds) (n : Nat) : LV w pr i (vs.drop n) (ds.drop n) := by
  refine ⟨by simp [h.1], fun j hj => ?_⟩
  simp at hj
  have := h.2 (n + j) (by omega)
  simpa [List.getD] using this
theorem LV.cons {v : Value} {d : DV} {vs : List Value} {ds : List DV} (h1 : v.oneCell' = true) (hv : V w pr i v d) (h : LV w pr i vs ds) : LV w pr i (v :: vs) (d :: ds) := by
  refine ⟨by simp [h.1], fun j hj => ?_⟩
  cases j with
  | zero => exact ⟨h1, hv⟩
  | succ j => have := h.2 j (by simpa using hj); simpa [List.getD] using this

/-- The cells of a value that reads as d. -/
theorem LV.cells {v : Value} {d : DV} (h : V w pr i v d) (ho : ∀ c, c ∈ cellsD d → oneD c = true) : LV w pr i v.cells.toList (cellsD d) := by
  by_cases hag : ∃ cs, d = .agg cs
  · obtain ⟨cs, rfl⟩ := hag
    obtain ⟨vs, rfl, hs, h1, hv⟩ := h.agg_inv
    refine ⟨by simpa [Value.cells, cellsD] using hs, fun j hj => ?_⟩
    have e : vs.toList.getD j undef = vs.getD j undef := by simp [List.getD, Array.getD_eq_getD_getElem?]
    have e2 : Value.cells (.agg vs) = vs := rfl
    rw [e2, e]
    exact ⟨h1 j hj, hv j hj⟩
  · have hc : cellsD d = [d] := by
      cases d <;> first | rfl | exact (hag ⟨_, rfl⟩).elim
    rw [hc] at ho ⊢
    have h1 := oneD_ok h (ho d (by simp))
    have : v.cells = #[v] := by cases v <;> first | rfl | simp [Value.oneCell'] at h1
    rw [this]
    exact LV.cons h1 h LV.nil

theorem LV.ofValues {vs : List Value} (h : ∀ v, v ∈ vs → v.oneCell' = true) : LV w pr i vs (vs.map ofV) := by
  induction vs with
  | nil => exact LV.nil
  | cons v vs ih => exact LV.cons (h v (by simp)) (V_ofV _ _ _ _) (ih fun u hu => h u (by simp [hu]))
end

theorem fold_fill (off : Nat) : ∀ (new : List Value) (i : Nat) (cs : Array Value), off + i + new.length ≤ cs.size →
    ((new.zipIdx i).foldl (fun (cs : Array Value) (p : Value × Nat) => cs.setIfInBounds (off + p.2) p.1) cs).toList = cs.toList.take (off + i) ++ new ++ cs.toList.drop (off + i + new.length)
  | [], i, cs, _ => by simp
  | v :: rest, i, cs, h => by
    simp only [List.zipIdx_cons, List.foldl_cons]
    rw [fold_fill off rest (i + 1) _ (by simp at h ⊢; omega)]
    have e := list_seg_step cs.toList (off + i) v rest (by simp at h ⊢; omega)
    simpa [Array.toList_setIfInBounds, Nat.add_assoc] using e

/-- Parts laid at their places. -/
theorem fill_step {place : Nat → Option (Nat × Nat)} {cells : Array Value} {j off size : Nat} {v : Value} {rest : List (Nat × Value)} (hp : place j = some (off, size))
    (hs : v.cells.size = size) (ho : off + size ≤ cells.size) :
    Instr.fill place cells ((j, v) :: rest) = Instr.fill place (cells.toList.take off ++ v.cells.toList ++ cells.toList.drop (off + v.cells.size)).toArray rest := by
  have hf := fold_fill off v.cells.toList 0 cells (by simp; omega)
  simp only [Nat.add_zero, Array.length_toList] at hf
  rw [Instr.fill, hp]
  have hc : ¬ ((v.cells.size ≠ size || off + v.cells.size > cells.size) = true) := by simp; omega
  simp only
  rw [if_neg hc]
  congr 1
  apply Array.ext'
  rw [← hf, ← Array.foldl_toList, Array.toList_zipIdx]

theorem fillD_length (fs : Array Field) : ∀ (parts : List (Nat × DV)) (ds : List DV) (n : Nat), ds.length = n →
    (∀ p, p ∈ parts → ∃ fd, fs[p.1]? = some fd ∧ fd.offset + (cellsD p.2).length ≤ n) → (fillD fs ds parts).length = n
  | [], ds, n, h, _ => h
  | (j, d) :: rest, ds, n, h, hp => by
    obtain ⟨fd, hf, ho⟩ := hp (j, d) (by simp)
    simp only [fillD, hf]
    refine fillD_length fs rest _ n ?_ (fun p hp' => hp p (by simp [hp']))
    simp at ho ⊢
    omega

section
variable {P : Program} {B : Nat} {st : St} {a : Act} {w : World} {G : Ghost} {o : Oper}

theorem mapM_places (fs : List Field) (h : ∀ fd, fd ∈ fs → ∃ i, tinfo P fd.type = some i) :
    ∃ places : List (Nat × Nat), fs.mapM (fun f => (P.info? f.type).map fun i => (f.offset, i.size)) = some places ∧
      ∀ (j : Nat) fd i, fs[j]? = some fd → tinfo P fd.type = some i → places[j]? = some (fd.offset, i.size) := by
  induction fs with
  | nil => exact ⟨[], by simp, fun j fd i hj => by simp at hj⟩
  | cons f fs ih =>
    obtain ⟨places, hp, hq⟩ := ih fun fd hfd => h fd (by simp [hfd])
    obtain ⟨i, hi⟩ := h f (by simp)
    obtain ⟨x, hx, -, hs, -⟩ := tinfo_some hi
    refine ⟨(f.offset, i.size) :: places, by simp [List.mapM_cons, hx, hp, hs], fun j fd i' hj hi' => ?_⟩
    cases j with
    | zero => simp at hj; subst hj; rw [hi] at hi'; cases hi'; rfl
    | succ j => simp at hj ⊢; exact hq j fd i' hj hi'

theorem fill_parts (hr : Rel B st a w G) {fs : Array Field} {place : Nat → Option (Nat × Nat)} {n : Nat} :
    ∀ (parts : List (Nat × Operand)) (cells : Array Value) (ds : List DV), LV w G.pr G.at cells.toList ds → cells.size = n →
    (∀ p, p ∈ parts → stripOb (st.ev p.2) ∧ (∀ c, c ∈ cellsD (strip (st.ev p.2)) → oneD c = true) ∧
      ∃ fd, fs[p.1]? = some fd ∧ place p.1 = some (fd.offset, (cellsD (strip (st.ev p.2))).length) ∧ fd.offset + (cellsD (strip (st.ev p.2))).length ≤ n) →
    ∃ cells' : Array Value, Instr.fill place cells (parts.map fun p => (p.1, a.eval p.2)) = some cells' ∧
      LV w G.pr G.at cells'.toList (fillD fs ds (parts.map fun p => (p.1, strip (st.ev p.2))))
  | [], cells, ds, h, _, _ => ⟨cells, rfl, h⟩
  | (j, x) :: rest, cells, ds, h, hn, hp => by
    obtain ⟨hob, hone, fd, hf, hpl, hle⟩ := hp (j, x) (by simp)
    dsimp only at hob hone hf hpl hle
    have hl := LV.cells (hr.arg x hob) hone
    have hsz : (a.eval x).cells.size = (cellsD (strip (st.ev x))).length := by simpa using hl.1
    simp only [List.map_cons, fillD, hf]
    rw [fill_step hpl hsz (by rw [hn]; exact hle), hsz]
    refine fill_parts hr rest _ _ ?_ ?_ (fun p hp' => hp p (by simp [hp']))
    · simp only []
      exact ((h.take _).append hl).append (h.drop _)
    · simp only [List.size_toArray, List.length_append, List.length_take, List.length_drop, Array.length_toList, hn, hsz]
      omega

theorem gives_build (hr : Rel B st a w G) {t : TypeId} {parts : Array (Nat × Operand)} {fs : Array Field} {j1 j2 : Nat} {z : Array Value} (ho : o.op = .build t parts)
    (ht : tinfo P t = some ⟨.struct fs, j1, j2, .agg z⟩)
    (h1 : ∀ p, p ∈ parts.toList → stripOb (st.ev p.2) ∧ (∀ c, c ∈ cellsD (strip (st.ev p.2)) → oneD c = true) ∧
      ∃ fd i, fs[p.1]? = some fd ∧ tinfo P fd.type = some i ∧ (cellsD (strip (st.ev p.2))).length = i.size ∧ fd.offset + i.size ≤ z.size)
    (h2 : ∀ v, v ∈ z.toList → v.oneCell' = true) (h3 : ∀ fd, fd ∈ fs.toList → ∃ i, tinfo P fd.type = some i) :
    Gives P a w G o (.agg (fillD fs (z.toList.map ofV) (parts.toList.map fun p => (p.1, strip (st.ev p.2))))) := by
  obtain ⟨places, hpl, hpq⟩ := mapM_places (P := P) fs.toList h3
  obtain ⟨xt, hxt, hut, hsz, hby, hz⟩ := tinfo_some ht
  obtain ⟨cells, hc, hl⟩ := fill_parts hr (fs := fs) (place := (places.toArray[·]?)) (n := z.size) parts.toList z (z.toList.map ofV) (LV.ofValues h2) rfl (fun p hp => by
    obtain ⟨ha, hb, fd, i, hf, hi, hlen, hle⟩ := h1 p hp
    refine ⟨ha, hb, fd, hf, ?_, by rw [hlen]; exact hle⟩
    have := hpq p.1 fd i (by simpa using hf) hi
    simp [this, hlen])
  refine gives_v (f := fun ρ => Instr.build t (parts.map fun (i, x) => (i, ρ x))) (by simp [execOp, ho]) ⟨.agg cells, ?_, fun w' hs => ?_⟩
  · have e : ∀ j, cells.getD j undef = cells.toList.getD j undef := fun j => by simp [List.getD, Array.getD_eq_getD_getElem?]
    exact .agg _ _ _ (by simpa using hl.1) (fun j hj => by rw [e]; exact (hl.2 j hj).1) (fun j hj => by rw [e]; exact (hl.2 j hj).2)
  · refine run_build w' t _ cells ?_
    unfold Program.built
    simp only [hxt, hut, hz, hpl]
    rw [show (parts.map fun (i, x) => (i, a.eval x)).toList = parts.toList.map fun p => (p.1, a.eval p.2) by simp]
    exact hc

theorem optOb_ok {lo : Option Operand} (h : optOb st lo) : ∀ y, lo = some y → stripOb (st.ev y) := by
  intro y hy
  subst hy
  exact h

theorem evalOp_sound (hr : Rel B st a w G) {d : DV} {ob : Prop} (h : evalOp P st o.op = some (d, ob)) (hob : ob) : Gives P a w G o d := by
  cases ho : o.op <;> rw [ho] at h <;> simp only [evalOp] at h
  case move x => cases h; exact gives_ev hr x (.inl ho)
  case assign x => cases h; exact gives_ev hr x (.inr ho)
  case pick c x y =>
    split at h <;> try (cases h; done)
    rename_i b p q hc hx hy
    cases h
    obtain ⟨o1, o2, o3⟩ := hob
    have hvc := hr.arg c o1
    rw [hc] at hvc
    refine ⟨.bool (cond b p q), .bool _ _, fun w' hs => ?_⟩
    cases b
    · have hv := hr.arg y (o3 rfl)
      rw [hy] at hv
      simp [execOp, ho, hvc.bool_inv, hv.bool_inv, asBool]
    · have hv := hr.arg x (o2 rfl)
      rw [hx] at hv
      simp [execOp, ho, hvc.bool_inv, hv.bool_inv, asBool]
  case load t x =>
    split at h <;> try (cases h; done)
    · rename_i i cs off hi hd
      cases h
      exact gives_load hr ho hi hob.1 hd hob.2
    · rename_i i l r off hi hd
      split at h <;> try (cases h; done)
      rename_i t' cs hb
      cases h
      exact gives_load_box hr ho hi hob.1 hd hb hob.2
  case nilCheck x =>
    split at h <;> try (cases h; done)
    · rename_i l r off hd
      cases h
      have hv := hr.arg x hob
      rw [hd] at hv
      obtain ⟨b, he, hat⟩ := hv.ptr_inv
      exact ⟨_, hv, fun w' hs => by simp [execOp, ho, he]⟩
    · rename_i cs off hd
      cases h
      have hv := hr.arg x hob
      rw [hd] at hv
      obtain ⟨b, o', c, he, -⟩ := hv.cptr_inv
      exact ⟨_, hv, fun w' hs => by simp [execOp, ho, he]⟩
    · rename_i f cap hd
      cases h
      have hv := hr.arg x hob
      rw [hd] at hv
      obtain ⟨vs, he, -⟩ := hv.func_inv
      exact ⟨_, hv, fun w' hs => by simp [execOp, ho, he]⟩
  case binOp op t x y ty =>
    split at h
    rotate_left
    · split at h <;> try (cases h; done)
      rename_i d' he
      cases h
      exact gives_eq hr ho hob.1 hob.2.1 he hob.2.2
    rename_i d' ob' hb
    cases h
    obtain ⟨r, hv, hrun⟩ := binD_sound (P := P) (op := op) (t := t) (x := x) (y := y) (hr.arg x hob.1) (hr.arg y hob.2.1) hb hob.2.2
    exact gives_v (f := fun ρ => do eqGuard op t x y (ρ x) (ρ y); binOp op t (ρ x) (ρ y)) (by simp [execOp, ho]) ⟨r, hv, fun w' _ => hrun w'⟩
  case unOp op t x =>
    split at h <;> try (cases h; done)
    · rename_i b hd
      cases h
      have hv := hr.arg x hob
      rw [hd] at hv
      exact ⟨_, .bool _ _, fun w' hs => by simp [execOp, ho, hv.bool_inv, Op.unary]⟩
    · rename_i k n hd
      cases h
      have hv := hr.arg x hob
      rw [hd] at hv
      exact ⟨_, .int _ _ _, fun w' hs => by simp [execOp, ho, hv.int_inv, Op.unary, Op.intArith]⟩
    · rename_i k n hd
      cases h
      have hv := hr.arg x hob
      rw [hd] at hv
      exact ⟨_, .int _ _ _, fun w' hs => by
        simp only [execOp, ho, hv.int_inv, Op.unary]
        rfl⟩
  case convert src dst x =>
    split at h <;> try (cases h; done)
    rename_i d' ob' hb
    cases h
    have hv := hr.arg x hob.1
    unfold convD at hb
    split at hb <;> try (cases hb; done)
    · rename_i k n _ kk j1 j2 z hd hs hdst
      cases hb
      rw [hd] at hv
      obtain ⟨xs, hxs, hus, -⟩ := tinfo_some hs
      obtain ⟨xd, hxd, hud, -⟩ := tinfo_some hdst
      refine gives_v (f := fun ρ => convert src dst (ρ x)) (by simp [execOp, ho]) ⟨_, .int _ _ _, fun w' _ => ?_⟩
      rw [hv.int_inv]
      unfold convert
      simp only [Sem.run_bind, run_underlying' hus, run_underlying' hud, Result.andThen_ok]
      rfl
    · rename_i l _ j1 j2 z hd hs hdst
      cases hb
      rw [hd] at hv
      obtain ⟨xs, hxs, hus, -⟩ := tinfo_some hs
      obtain ⟨xd, hxd, hud, -⟩ := tinfo_some hdst
      refine gives_v (f := fun ρ => convert src dst (ρ x)) (by simp [execOp, ho]) ⟨_, .str _ _, fun w' _ => ?_⟩
      rw [hv.str_inv]
      unfold convert mkStr
      simp only [Sem.run_bind, run_underlying' hus, run_underlying' hud, Result.andThen_ok]
      rfl
  case makeFunc fn first cap =>
    split at h <;> try (cases h; done)
    rename_i hf
    cases h
    have hf' : first = #[] := by rw [← Array.toArray_toList (xs := first), hf]
    refine gives_v (f := fun ρ => Instr.makeFunc fn (first.map ρ) (cap.map ρ)) (by simp [execOp, ho]) ⟨.func fn #[] (cap.map a.eval), ?_, fun w' _ => by simp [Instr.makeFunc, hf']⟩
    refine .func _ _ _ _ (by simp) (fun j hj => ?_)
    have hj' : j < cap.size := by simpa using hj
    have := hr.ev cap[j]
    simpa [Array.getD, List.getD, hj'] using this
  case fieldAddr s x f =>
    split at h <;> try (cases h; done)
    · rename_i fs j1 j2 z cs off hs hd
      split at h <;> try (cases h; done)
      rename_i fd hf
      split at h <;> try (cases h; done)
      rename_i i hi
      cases h
      exact gives_field_cptr hr ho hs hf hi hob.2 hob.1 hd
    · rename_i fs j1 j2 z l r off hs hd
      split at h <;> try (cases h; done)
      rename_i fd hf
      split at h <;> try (cases h; done)
      rename_i i hi
      cases h
      exact gives_field_ptr hr ho hs hf hi hob.2 hob.1 hd
  case field s x f =>
    split at h <;> try (cases h; done)
    rename_i fs j1 j2 z cs hs hd
    split at h <;> try (cases h; done)
    rename_i fd hf
    split at h <;> try (cases h; done)
    rename_i i hi
    cases h
    exact gives_field hr ho hs hf hi hob.1 hd hob.2
  case indexAddr t x ix =>
    split at h <;> try (cases h; done)
    · rename_i e j1 j2 z k es kd n ht hd hdi
      split at h <;> try (cases h; done)
      rename_i i hi
      cases h
      obtain ⟨o1, o2, o3, o4, o5⟩ := hob
      exact gives_index hr ho ht hi o1 o2 hd hdi o3 o4 o5
    · rename_i len e j1 j2 z l r off kd n ht hd hdi
      split at h <;> try (cases h; done)
      rename_i i hi
      cases h
      obtain ⟨o1, o2, o3, o4⟩ := hob
      exact gives_index_arr hr ho ht hi o1 o2 hd hdi o3 o4
    · rename_i len e j1 j2 z cs off kd n ht hd hdi
      split at h <;> try (cases h; done)
      rename_i i hi
      cases h
      obtain ⟨o1, o2, o3, o4⟩ := hob
      exact gives_index_carr hr ho ht hi o1 o2 hd hdi o3 o4
  case index t x ix =>
    split at h <;> try (cases h; done)
    rename_i j1 j2 z l kd n ht hd hdi
    cases h
    obtain ⟨o1, o2, o3, o4⟩ := hob
    exact gives_str_index hr ho ht o1 o2 hd hdi o3 o4
  case slice t x lo hi mx =>
    cases mx with
    | some m => simp at h
    | none =>
      simp only at h
      split at h <;> try (cases h; done)
      rename_i d' ob' hb
      unfold sliceD at hb
      split at hb <;> try (cases hb; done)
      · rename_i l hd
        split at hb <;> try (cases hb; done)
        rename_i p q j1 j2 z hp hq ht
        cases hb
        cases h
        obtain ⟨o1, o2, o3, o4, o5, o6⟩ := hob
        exact gives_slice_str hr ho ht o1 (optOb_ok o2) (optOb_ok o3) hd hp hq o4 o5 o6
      · rename_i k es hd
        split at hb <;> try (cases hb; done)
        rename_i p q e j1 j2 z hp hq ht
        split at hb <;> try (cases hb; done)
        rename_i i hi'
        cases hb
        cases h
        obtain ⟨o1, o2, o3, o4, o5, o6, o7⟩ := hob
        exact gives_slice_slice hr ho ht hi' o1 (optOb_ok o2) (optOb_ok o3) hd hp hq o4 o5 o6 o7
      · rename_i hd
        split at hb <;> try (cases hb; done)
        rename_i p q e j1 j2 z hp hq ht
        split at hb <;> try (cases hb; done)
        rename_i i hi'
        cases hb
        cases h
        obtain ⟨o1, o2, o3, rfl, rfl⟩ := hob
        have hv := hr.arg x o1
        rw [hd] at hv
        obtain ⟨xt, hxt, hut, -⟩ := tinfo_some ht
        obtain ⟨xe, hxe, hue, hsz, -⟩ := tinfo_some hi'
        refine gives_v (f := fun ρ => Instr.sliceAt t (ρ x) (lo.map ρ) (hi.map ρ) none) (by simp [execOp, ho]) ⟨_, .val _ _, fun w' hs => ?_⟩
        have hbs := run_bounds (P := P) (isS := true) (Nat.le_refl 0) (bound_inv hr (optOb_ok o2) hp) (bound_inv hr (optOb_ok o3) hq) (Int.le_refl _) (Int.le_refl _) (Int.le_refl _) w'
        rw [hv.val_inv]
        unfold Instr.sliceAt
        simp only [Sem.run_bind, run_underlying' hut, Result.andThen_ok]
        unfold Instr.slice
        simp only [Sem.run_bind, run_underlying' hut, Result.andThen_ok, hbs, run_sizeOf' hxe, Sem.run_pure]
        rfl
  case extract x j =>
    split at h <;> try (cases h; done)
    rename_i ds hd
    cases h
    exact gives_extract hr ho hob.1 hd hob.2
  case build t parts =>
    split at h <;> try (cases h; done)
    rename_i fs j1 j2 z ht
    cases h
    exact gives_build hr ho ht (buildOb_ok hob).1 (buildOb_ok hob).2.1 (buildOb_ok hob).2.2
  case makeInterface t x =>
    split at h <;> try (cases h; done)
    rename_i ti hne ht
    cases h
    obtain ⟨xt, hxt, hut, -⟩ := tinfo_some ht
    refine gives_v (f := fun ρ => Instr.makeInterface t (ρ x)) (by simp [execOp, ho]) ⟨_, .iface _ t _ _ (hr.arg x hob), fun w' _ => ?_⟩
    unfold Instr.makeInterface
    simp only [Sem.run_bind, run_underlying' hut, Result.andThen_ok]
    split
    · rename_i ms hk
      exact (hne ms _ _ _ (by rw [← hk])).elim
    · rfl
  case call c =>
    split at h <;> try (cases h; done)
    rename_i x t hc ha hat
    split at h <;> try (cases h; done)
    · rename_i d' ob' j1 j2 z hl ht
      split at h <;> try (cases h; done)
      rename_i l hd
      cases h
      rw [hd] at hl
      simp [lenD] at hl
      obtain ⟨rfl, _⟩ := hl
      exact gives_len_str hr ho hc ha hat ht hob.1 hd
    · rename_i d' ob' e j1 j2 z hl ht
      split at h <;> try (cases h; done)
      rename_i hns
      cases h
      unfold lenD at hl
      split at hl <;> try (cases hl; done)
      · rename_i l hd; exact (hns l hd).elim
      · rename_i k es hd
        cases hl
        exact gives_len_slice hr ho hc ha hat ht hob.1 (.inl ⟨k, es, hd, rfl⟩)
      · rename_i hd
        cases hl
        exact gives_len_slice (n := 0) hr ho hc ha hat ht hob.1 (.inr ⟨hd, rfl⟩)
  all_goals cases h

end
end Go.AL
