/-
  RT, part 14: what one operation does to a state; new boxes; stores.
-/
import Derived.Test.YtnbdahlceddihaaDoorR13
namespace Go.RT
set_option linter.unusedVariables false

variable {E : TEnv}
section
variable {P : Program} {w0 w w' : World} {G0 G G' : Ghost} {st : TS E} {a : Act} {o : Oper}

/-- What one operation does. -/
def Does (P : Program) (w0 : World) (G0 : Ghost) (a : Act) (w : World) (o : Oper) (st' : TS E) : Prop :=
  ∃ nx v w' G', (execOp a.eval o).run P w = .ok nx w' ∧ (nx = .value v ∨ (nx = .skip ∧ v = undef)) ∧ Rel E w0 G0 st' (a.put o.dst v) w' G'

theorem Gives.does (hr : Rel E w0 G0 st a w G) {d : TV E} (h : Gives P a w G o d) : Does P w0 G0 a w o { st with t := setT st.t o.dst d } := by
  obtain ⟨v, hv, hrun⟩ := h
  exact ⟨_, v, w, G, hrun w (SameL.refl _ w), .inl rfl, hr.put hv o.dst⟩

/-- A new box and a pointer to it in a slot. -/
theorem does_newBox (hr : Rel E w0 G0 st a w G) {ob : Obj} {x : TBox E} (hx : BoxOk E (w.alloc ob) G w.heap.size x)
    (hrun : (execOp a.eval o).run P w = .ok (.value (.pointer (some ⟨w.heap.size, 0, none⟩))) (w.alloc ob)) :
    Does P w0 G0 a w o { st with t := setT st.t o.dst (.ptr st.H.length 0), H := st.H ++ [x] } := by
  have hN := hr.newBox ob x hx
  refine ⟨_, _, _, _, hrun, .inl rfl, hN.put (d := .ptr st.H.length 0) ?_ o.dst⟩
  simp only [VT]
  refine ⟨_, rfl, ?_⟩
  rw [← hr.boxes.len]; simp

theorem does_store (hE : E.Ok) (hr : Rel E w0 G0 st a w G) {t : TypeId} {x y : Operand} {i : TI} (ho : o.op = .store t x y) (ht : tinfo P t = some i) {r off : Nat} (hd : st.ev x = .ptr r off)
    {t' : TypeId} {cs ds : List (TV E)} (hb : st.H[r]? = some (.cells t' cs)) (hy : (st.ev y).cellsT = some ds) (h4 : ds.length = i.size) (h5 : off + i.size ≤ cs.length) :
    Does P w0 G0 a w o { st with t := setT st.t o.dst .any, H := st.H.set r (.cells t' (cs.take off ++ ds ++ cs.drop (off + ds.length))), d := r :: st.d } := by
  have hvx := hr.ev x
  rw [hd] at hvx
  simp only [VT] at hvx
  obtain ⟨b, he, hat⟩ := hvx
  obtain ⟨vs, hh, hone, hvs⟩ := hr.box hat hb
  obtain ⟨hl, hl1⟩ := cellsT_sound hE (hr.ev y) hy
  have hlen : (a.eval y).cells.toList.length = i.size := by rw [hl.length, h4]
  have hlen' : (a.eval y).cells.size = i.size := by simpa using hlen
  have hsz : vs.size = cs.length := by simpa using hvs.length
  obtain ⟨xt, hxt, -, hxs, -⟩ := tinfo_some ht
  have hfit : off + 0 + (a.eval y).cells.toList.length ≤ vs.size := by rw [hlen, hsz]; omega
  have hstore := run_storeCells_at (P := P) b off t' (a.eval y).cells.toList 0 vs w hh hfit (fun v hv => hl1 v (by simpa using hv))
  simp only [Nat.add_zero] at hstore
  let new := (vs.toList.take off ++ (a.eval y).cells.toList ++ vs.toList.drop (off + (a.eval y).cells.toList.length)).toArray
  have hrun : (execOp a.eval o).run P w = .ok .skip (w.setRow b new) := by
    simp only [execOp, ho, Instr.storeAt, Instr.sureAddr, he, storeVar, Sem.run_bind, Sem.run_pure, Result.andThen_ok, run_sizeOf' hxt, hxs, hlen']
    simp only [ne_eq, not_true, if_false, hstore, Result.andThen_ok]
    rfl
  have hnew : (w.setRow b new).heap[b]? = some (.cells new t' (0, 0)) := setRow_heap w b vs _ t' _ hh
  have hoth : ∀ b', b' ≠ b → (w.setRow b new).heap[b']? = w.heap[b']? := fun b' hb' => setRow_other w b b' _ hb'
  have hR := hr.setBox (w' := w.setRow b new) hat (by simp) rfl rfl rfl hoth (x := .cells t' (cs.take off ++ ds ++ cs.drop (off + ds.length))) (fun hg => by
    refine ⟨new, hnew, fun u hu => ?_, ?_⟩
    · have hu : u ∈ vs.toList.take off ++ (a.eval y).cells.toList ++ vs.toList.drop (off + (a.eval y).cells.toList.length) := by simpa [new] using hu
      simp only [List.mem_append] at hu
      rcases hu with (hu | hu) | hu
      · exact hone u (by simpa using List.mem_of_mem_take hu)
      · exact hl1 u (by simpa using hu)
      · exact hone u (by simpa using List.mem_of_mem_drop hu)
    · have := (((hvs.mono hg).take off).append (hl.mono hg)).append ((hvs.mono hg).drop (off + ds.length))
      simpa only [new, List.toList_toArray, hl.length] using this)
  refine ⟨_, undef, _, G, hrun, .inr ⟨rfl, rfl⟩, hR.put (v := undef) (by simp only [VT]) o.dst⟩
end

end Go.RT
