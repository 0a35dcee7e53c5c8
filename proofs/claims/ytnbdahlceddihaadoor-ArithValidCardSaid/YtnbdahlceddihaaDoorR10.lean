/-
  RT, part 10: structs built.
-/
import Derived.Test.YtnbdahlceddihaaDoorR9
namespace Go.RT
set_option linter.unusedVariables false

variable {E : TEnv}

def fillT (P : Program) (fs : Array Field) : List (TV E) → List (Nat × TV E) → Option (List (TV E))
  | cs, [] => some cs
  | cs, (j, d) :: rest => match fs[j]?, d.cellsT with
    | some fd, some l => match tinfo P fd.type with
      | some i => cond (Nat.ble (fd.offset + l.length) cs.length && Nat.beq l.length i.size) (fillT P fs (cs.take fd.offset ++ l ++ cs.drop (fd.offset + l.length)) rest) none
      | none => none
    | _, _ => none

theorem fold_fill (off : Nat) : ∀ (new : List Value) (i : Nat) (cs : Array Value), off + i + new.length ≤ cs.size →
    ((new.zipIdx i).foldl (fun (cs : Array Value) (p : Value × Nat) => cs.setIfInBounds (off + p.2) p.1) cs).toList = cs.toList.take (off + i) ++ new ++ cs.toList.drop (off + i + new.length)
  | [], i, cs, _ => by simp
  | v :: rest, i, cs, h => by
    simp only [List.zipIdx_cons, List.foldl_cons]
    rw [fold_fill off rest (i + 1) _ (by simp at h ⊢; omega)]
    have e := list_seg_step cs.toList (off + i) v rest (by simp at h ⊢; omega)
    simpa [Array.toList_setIfInBounds, Nat.add_assoc] using e

/-- Parts laid at their places. -/
theorem fill_step {place : Nat → Option (Nat × Nat)} {cells : Array Value} {j off size : Nat} {v : Value} {rest : List (Nat × Value)} (hp : place j = some (off, size))
    (hs : v.cells.size = size) (ho : off + size ≤ cells.size) :
    Instr.fill place cells ((j, v) :: rest) = Instr.fill place (cells.toList.take off ++ v.cells.toList ++ cells.toList.drop (off + v.cells.size)).toArray rest := by
  have hf := fold_fill off v.cells.toList 0 cells (by simp; omega)
  simp only [Nat.add_zero, Array.length_toList] at hf
  rw [Instr.fill, hp]
  have hc : ¬ ((v.cells.size ≠ size || off + v.cells.size > cells.size) = true) := by simp; omega
  simp only
  rw [if_neg hc]
  congr 1
  apply Array.ext'
  rw [← hf, ← Array.foldl_toList, Array.toList_zipIdx]

section
variable {P : Program} {w0 : World} {G0 : Ghost} {st : TS E} {a : Act} {w : World} {G : Ghost} {o : Oper}

theorem mapM_places (fs : List Field) (h : ∀ fd, fd ∈ fs → ∃ i, tinfo P fd.type = some i) :
    ∃ places : List (Nat × Nat), fs.mapM (fun f => (P.info? f.type).map fun i => (f.offset, i.size)) = some places ∧
      ∀ (j : Nat) fd i, fs[j]? = some fd → tinfo P fd.type = some i → places[j]? = some (fd.offset, i.size) := by
  induction fs with
  | nil => exact ⟨[], by simp, fun j fd i hj => by simp at hj⟩
  | cons f fs ih =>
    obtain ⟨places, hp, hq⟩ := ih fun fd hfd => h fd (by simp [hfd])
    obtain ⟨i, hi⟩ := h f (by simp)
    obtain ⟨x, hx, -, hs, -⟩ := tinfo_some hi
    refine ⟨(f.offset, i.size) :: places, by simp [List.mapM_cons, hx, hp, hs], fun j fd i' hj hi' => ?_⟩
    cases j with
    | zero => simp at hj; subst hj; rw [hi] at hi'; cases hi'; rfl
    | succ j => simp at hj ⊢; exact hq j fd i' hj hi'

theorem fill_parts (hE : E.Ok) (hr : Rel E w0 G0 st a w G) {fs : Array Field} {place : Nat → Option (Nat × Nat)}
    (hpl : ∀ (j : Nat) fd i, fs[j]? = some fd → tinfo P fd.type = some i → place j = some (fd.offset, i.size)) :
    ∀ (parts : List (Nat × Operand)) (cells : Array Value) (ds : List (TV E)) {ds' : List (TV E)}, VTs E w G ds cells.toList → (∀ u, u ∈ cells.toList → u.oneCell' = true) →
    fillT P fs ds (parts.map fun p => (p.1, st.ev p.2)) = some ds' →
    ∃ cells' : Array Value, Instr.fill place cells (parts.map fun p => (p.1, a.eval p.2)) = some cells' ∧ VTs E w G ds' cells'.toList ∧ ∀ u, u ∈ cells'.toList → u.oneCell' = true
  | [], cells, ds, ds', h, h1, hf => by cases hf; exact ⟨cells, rfl, h, h1⟩
  | (j, x) :: rest, cells, ds, ds', h, h1, hf => by
    simp only [List.map_cons, fillT] at hf
    split at hf <;> try (cases hf; done)
    rename_i fd l hfd hl
    split at hf <;> try (cases hf; done)
    rename_i i hi
    cases hb : (Nat.ble (fd.offset + l.length) ds.length && Nat.beq l.length i.size) <;> rw [hb] at hf <;> simp only [cond_true, cond_false] at hf
    · cases hf
    rw [Bool.and_eq_true] at hb
    have hle := Nat.le_of_ble_eq_true hb.1
    have hsz := Nat.eq_of_beq_eq_true hb.2
    obtain ⟨hx, hx1⟩ := cellsT_sound hE (hr.ev x) hl
    have hlen : (a.eval x).cells.size = l.length := by simpa using hx.length
    have hcl : cells.size = ds.length := by simpa using h.length
    simp only [List.map_cons]
    rw [fill_step (hpl j fd i hfd hi) (by rw [hlen, hsz]) (by rw [← hsz, hcl]; exact hle), hlen]
    refine fill_parts hE hr hpl rest _ _ ?_ ?_ hf
    · simp only []
      exact ((h.take _).append hx).append (h.drop _)
    · intro u hu
      simp only [List.mem_append] at hu
      rcases hu with (hu | hu) | hu
      · exact h1 u (List.mem_of_mem_take hu)
      · exact hx1 u (by simpa using hu)
      · exact h1 u (List.mem_of_mem_drop hu)

theorem VTs.ofValues : ∀ {vs : List Value}, VTs E w G (vs.map TV.ofV) vs
  | [] => .nil
  | v :: vs => .cons (VT_ofV w G v) VTs.ofValues

/-- A struct out of its cells: data, if the type has a code and all cells are data. -/
def packT (E : TEnv) (ty : Option Ty) (cs : List (TV E)) : TV E :=
  match ty with
  | none => .agg cs
  | some t => match rebN E 4 t cs with
    | some (x, []) => cond t.isAgg (.dat t x) (.agg cs)
    | _ => .agg cs
theorem packT_sound (hE : E.Ok) {ty : Option Ty} {cs : List (TV E)} {vs : Array Value} (h : VTs E w G cs vs.toList) (h1 : ∀ u, u ∈ vs.toList → u.oneCell' = true) : VT E w G (packT E ty cs) (.agg vs) := by
  have hagg : VT E w G (.agg cs) (.agg vs) := by
    simp only [VT]
    exact ⟨vs, rfl, fun u hu => h1 u (by simpa using hu), h⟩
  unfold packT
  split
  · exact hagg
  · rename_i t
    split
    · rename_i x hx
      cases ha : t.isAgg <;> simp only [cond_true, cond_false]
      · exact hagg
      · obtain ⟨us, ts, e, h2, h3⟩ := rebN_sound hE 4 t h hx
        simp only [VTs] at h3
        subst h3
        simp only [VT, ha]
        refine ⟨vs, rfl, ?_⟩
        rw [e, List.append_nil]
        exact h2
    · exact hagg

theorem gives_build (hE : E.Ok) (hr : Rel E w0 G0 st a w G) {t : TypeId} {parts : Array (Nat × Operand)} {fs : Array Field} {j1 j2 : Nat} {z : Array Value} (ho : o.op = .build t parts)
    (ht : tinfo P t = some ⟨.struct fs, j1, j2, .agg z⟩) (h2 : (z.toList.all (·.oneCell') && fs.toList.all fun fd => (tinfo P fd.type).isSome) = true) {ds : List (TV E)}
    (hf : fillT P fs (z.toList.map TV.ofV) (parts.toList.map fun p => (p.1, st.ev p.2)) = some ds) (ty : Option Ty) : Gives P a w G o (packT E ty ds) := by
  rw [Bool.and_eq_true] at h2
  obtain ⟨places, hpl, hpq⟩ := mapM_places (P := P) fs.toList (fun fd hfd => Option.isSome_iff_exists.1 (List.all_eq_true.1 h2.2 fd hfd))
  obtain ⟨xt, hxt, hut, hsz, hby, hz⟩ := tinfo_some ht
  obtain ⟨cells, hc, hl, hl1⟩ := fill_parts (P := P) hE hr (fs := fs) (place := (places.toArray[·]?)) (fun j fd i hj hi => by
    have := hpq j fd i (by simpa using hj) hi
    simpa using this) parts.toList z (z.toList.map TV.ofV) VTs.ofValues (fun u hu => List.all_eq_true.1 h2.1 u hu) hf
  refine gives_v (f := fun ρ => Instr.build t (parts.map fun (i, x) => (i, ρ x))) (by simp [execOp, ho]) ⟨.agg cells, packT_sound hE hl hl1, fun w' hs => ?_⟩
  refine run_build w' t _ cells ?_
  unfold Program.built
  simp only [hxt, hut, hz, hpl]
  rw [show (parts.map fun (i, x) => (i, a.eval x)).toList = parts.toList.map fun p => (p.1, a.eval p.2) by simp]
  exact hc
end

end Go.RT
