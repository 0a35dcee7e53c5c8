/-
  RT, part 13: a box written.
-/
import Derived.Test.YtnbdahlceddihaaDoorR12
import Derived.Deep.Upon
namespace Go.RT
set_option linter.unusedVariables false

variable {E : TEnv}
section
variable {P : Program} {w0 w w' w'' : World} {G0 G G' G'' : Ghost} {st : TS E} {a : Act} {o : Oper}

/-- A box is written: no other block is touched. -/
theorem Rel.setBox (h : Rel E w0 G0 st a w G) {r b : Nat} (hat : G.i[r]? = some b) (hsz : w'.heap.size = w.heap.size) (h1 : w'.os = w.os) (h2 : w'.tape = w.tape) (h3 : w'.output = w.output)
    (hother : ∀ b', b' ≠ b → w'.heap[b']? = w.heap[b']?) {x : TBox E} (hx : Goes w G w' G → BoxOk E w' G b x) : Rel E w0 G0 { st with H := st.H.set r x, d := r :: st.d } a w' G := by
  have hin : b ∈ G.i := List.mem_of_getElem? hat
  have hprb : ∀ o, ¬ G.pr b o := fun o hp => (h.boxes.prok b o hp).2 hin
  have hg : Goes w G w' G := ⟨fun _ _ h => h, fun b' o v hp hv => by
    have : b' ≠ b := fun e => by subst e; exact hprb o hp
    rw [World.cell?_of_block (w := w) (w' := w') (hother b' this)]
    exact hv, fun _ _ h => h, fun j x y hj => ⟨x, y, hj, Nat.le_refl _, fun _ => rfl⟩⟩
  have ev := h.evol
  refine ⟨⟨h1.trans ev.os, h2.trans ev.tape, h3.trans ev.output, by rw [hsz]; exact ev.size, fun b' hb' hn => ?_, ev.goes.trans hg, ev.prold, ev.newB, ev.newG⟩, h.size, fun j d hj => (h.tmps j d hj).mono hg, h.defers.mono hg, ?_, fun r' b' hb' hd => ?_, h.pins⟩
  · rw [hother b' (fun e => ?_)]
    · exact ev.old b' hb' hn
    · subst e
      by_cases hr : r < G0.i.length
      · have e1 := ev.goes.i r _ (List.getElem?_eq_getElem hr)
        rw [hat] at e1
        exact hn (.inl (by rw [Option.some.inj e1]; exact List.getElem_mem hr))
      · have := ev.newB r b' (by omega) hat
        omega
  rotate_left
  · simp only [List.mem_cons, not_or] at hd
    have q0 := ev.goes.i r' b' hb'
    rw [hother b' (fun e => ?_)]
    · exact h.fix r' b' hb' hd.2
    · subst e
      have q1 := List.getElem?_eq_some_iff.1 hat
      have q2 := List.getElem?_eq_some_iff.1 q0
      exact hd.1 ((List.getElem_inj h.boxes.nodup).1 (q2.2.trans q1.2.symm))
  refine ⟨by simp [h.boxes.len], h.boxes.gs, fun r' b' y hb' hy => ?_, fun b' hb' => by rw [hsz]; exact h.boxes.lt b' hb', h.boxes.nodup, fun b' o hp => by rw [hsz]; exact h.boxes.prok b' o hp, fun j y z hj => ?_, h.boxes.apart, glob_mono hg h.boxes.glob⟩
  · by_cases hr : r = r'
    · subst hr
      rw [hat] at hb'
      cases hb'
      have hl : r < st.H.length := by rw [← h.boxes.len]; exact (List.getElem?_eq_some_iff.1 hat).1
      simp [hl] at hy
      subst hy
      exact hx hg
    · have hne : b' ≠ b := fun e => by
        subst e
        have q1 := List.getElem?_eq_some_iff.1 hat
        have q2 := List.getElem?_eq_some_iff.1 hb'
        exact hr ((List.getElem_inj h.boxes.nodup).1 (q1.2.trans q2.2.symm))
      rw [List.getElem?_set_ne hr] at hy
      exact (h.boxes.box r' b' y hb' hy).mono hg (hother b' hne)
  · obtain ⟨n, xs, ho, hz, hb⟩ := h.boxes.grow j y z hj
    refine ⟨n, xs, ⟨ho.1, ?_⟩, hz, fun c hcl => ?_⟩
    · rcases ho.2 with h2 | ⟨g, cap, cur, h2, h3, h4, h5⟩
      · exact .inl h2
      · refine .inr ⟨g, cap, cur, h2, h3, ?_, h5⟩
        rw [hother g (fun e => ?_)]
        · exact h4
        · subst e
          exact (hb g (by rw [h2]; rfl)).2.1 hin
    · rw [hsz]; exact hb c hcl
end

end Go.RT
