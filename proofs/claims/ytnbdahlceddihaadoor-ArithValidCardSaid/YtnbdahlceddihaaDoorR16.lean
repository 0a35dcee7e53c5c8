/-
  RT, part 16: a growable row changes.
-/
import Derived.Test.YtnbdahlceddihaaDoorR15
namespace Go.RT
set_option linter.unusedVariables false

variable {E : TEnv}
section
variable {P : Program} {w0 w w' : World} {G0 G G' : Ghost} {st : TS E} {a : Act} {o : Oper}

/-- The growable row j gets a new header; only its own block is written, behind what is protected. -/
theorem Rel.setGrow (h : Rel E w0 G0 st a w G) {j : Nat} {x : TGrow} {hd hd' : Value} (hj : G.g[j]? = some (x, hd)) (hsz : w.heap.size ≤ w'.heap.size) (h1 : w'.os = w.os) (h2 : w'.tape = w.tape) (h3 : w'.output = w.output)
    (hother : ∀ b, b < w.heap.size → hd.ownBlock ≠ some b → w'.heap[b]? = w.heap[b]?) (hcells : ∀ b o v, G.pr b o → w.cell? ⟨b, o, none⟩ = some v → w'.cell? ⟨b, o, none⟩ = some v)
    (pr' : Nat → Nat → Prop) (hp : ∀ b o, G.pr b o → pr' b o) (hpo : ∀ b o, pr' b o → G.pr b o ∨ hd'.ownBlock = some b)
    (hok : GrowOk w' { G with pr := pr' } { x with ver := x.ver + 1 } hd') (hblk : ∀ b, hd'.ownBlock = some b → w.heap.size ≤ b ∨ hd.ownBlock = some b) :
    Rel E w0 G0 { st with g := st.g.set j { x with ver := x.ver + 1 } } a w' { G with g := G.g.set j ({ x with ver := x.ver + 1 }, hd'), pr := pr' } := by
  have hjl : j < G.g.length := (List.getElem?_eq_some_iff.1 hj).1
  obtain ⟨n0, xs0, -, -, hhd⟩ := h.boxes.grow j x hd hj
  have at' : ∀ (m : Nat) y z, (G.g.set j ({ x with ver := x.ver + 1 }, hd'))[m]? = some (y, z) → (m = j ∧ y = { x with ver := x.ver + 1 } ∧ z = hd') ∨ (m ≠ j ∧ G.g[m]? = some (y, z)) := by
    intro m y z hm
    by_cases e : m = j
    · subst e
      simp [hjl] at hm
      exact .inl ⟨rfl, hm.1.symm, hm.2.symm⟩
    · rw [List.getElem?_set_ne (fun q => e q.symm)] at hm
      exact .inr ⟨e, hm⟩
  have hg : Goes w G w' { G with g := G.g.set j ({ x with ver := x.ver + 1 }, hd'), pr := pr' } := by
    refine ⟨hp, hcells, fun _ _ h => h, fun m y z hm => ?_⟩
    by_cases e : m = j
    · subst e
      rw [hj] at hm
      cases hm
      exact ⟨_, _, by simp [hjl]; exact ⟨rfl, rfl⟩, Nat.le_succ _, fun q => by simp at q⟩
    · exact ⟨y, z, by
        show (G.g.set j _)[m]? = _
        rw [List.getElem?_set_ne (fun q => e q.symm)]; exact hm, Nat.le_refl _, fun _ => rfl⟩
  have hbox : ∀ b, b ∈ G.i → hd.ownBlock ≠ some b := fun b hb e => (hhd b e).2.1 hb
  have ev := h.evol
  have hrow : ∀ b, b < w0.heap.size → hd.ownBlock = some b → G0.rows b := fun b hb e => by
    rcases ev.newG j x hd b hj e with q | ⟨y, z, q1, q2⟩
    · omega
    · exact ⟨y, z, List.mem_of_getElem? q1, q2⟩
  refine ⟨⟨h1.trans ev.os, h2.trans ev.tape, h3.trans ev.output, Nat.le_trans ev.size hsz, fun b hb hn => ?_, ev.goes.trans hg, fun b o hb hpr => ?_, ev.newB, fun m y z b hm hb => ?_⟩, h.size,
    fun m d hm => (h.tmps m d hm).mono hg, h.defers.mono hg, ?_, fun r b hb hd => (hother b (h.boxes.lt b (List.mem_of_getElem? (ev.goes.i r b hb))) (hbox b (List.mem_of_getElem? (ev.goes.i r b hb)))).trans (h.fix r b hb hd), h.pins⟩
  · rw [hother b (Nat.lt_of_lt_of_le hb ev.size) (fun e => hn (.inr (hrow b hb e)))]
    exact ev.old b hb hn
  · rcases hpo b o hpr with q | q
    · exact ev.prold b o hb q
    · rcases hblk b q with q' | q'
      · have := ev.size; omega
      · exact .inr (hrow b hb q')
  · rcases at' m y z hm with ⟨rfl, -, rfl⟩ | ⟨-, q⟩
    · rcases hblk b hb with q | q
      · exact .inl (Nat.le_trans ev.size q)
      · exact ev.newG m x hd b hj q
    · exact ev.newG m y z b q hb
  refine ⟨h.boxes.len, ?_, fun r b y hb hy => ?_, fun b hb => Nat.lt_of_lt_of_le (h.boxes.lt b hb) hsz, h.boxes.nodup, fun b o hpr => ?_, fun m y z hm => ?_, fun m m' y z y' z' b hm hm' hb hb' => ?_, glob_mono hg h.boxes.glob⟩
  · simp only []
    rw [← h.boxes.gs, List.map_set]
  · have hm := List.mem_of_getElem? hb
    exact (h.boxes.box r b y hb hy).mono hg (hother b (h.boxes.lt b hm) (hbox b hm))
  · rcases hpo b o hpr with q | q
    · exact ⟨Nat.lt_of_lt_of_le (h.boxes.prok b o q).1 hsz, (h.boxes.prok b o q).2⟩
    · obtain ⟨n, xs, -, -, hq⟩ := hok
      exact ⟨(hq b q).1, (hq b q).2.1⟩
  · rcases at' m y z hm with ⟨-, rfl, rfl⟩ | ⟨hne, q⟩
    · exact hok
    · obtain ⟨n, xs, ho, hz, hq⟩ := h.boxes.grow m y z q
      refine ⟨n, xs, ⟨ho.1, ?_⟩, hz, fun b hb => ?_⟩
      · rcases ho.2 with q2 | ⟨g, cap, cur, q2, q3, q4, q5⟩
        · exact .inl q2
        · have hgb : z.ownBlock = some g := by rw [q2]; rfl
          refine .inr ⟨g, cap, cur, q2, q3, ?_, q5⟩
          rw [hother g (hq g hgb).1 (fun e => hne (h.boxes.apart m j y z x hd g q hj hgb e))]
          exact q4
      · obtain ⟨p1, p2, p3⟩ := hq b hb
        refine ⟨Nat.lt_of_lt_of_le p1 hsz, p2, fun o ho' hpr => ?_⟩
        rcases hpo b o hpr with q' | q'
        · exact p3 o ho' q'
        · rcases hblk b q' with q'' | q''
          · omega
          · exact hne (h.boxes.apart m j y z x hd b q hj hb q'')
  · have key : ∀ (m : Nat) y z, m ≠ j → G.g[m]? = some (y, z) → z.ownBlock = some b → hd'.ownBlock = some b → False := by
      intro m y z hne q hb hb'
      obtain ⟨n, xs, -, -, hq⟩ := h.boxes.grow m y z q
      rcases hblk b hb' with q'' | q''
      · have := (hq b hb).1; omega
      · exact hne (h.boxes.apart m j y z x hd b q hj hb q'')
    rcases at' m y z hm with ⟨e1, -, e2⟩ | ⟨hne, q⟩ <;> rcases at' m' y' z' hm' with ⟨e1', -, e2'⟩ | ⟨hne', q'⟩
    · rw [e1, e1']
    · rw [e2] at hb
      exact (key m' y' z' hne' q' hb' hb).elim
    · rw [e2'] at hb'
      exact (key m y z hne q hb hb').elim
    · exact h.boxes.apart m m' y z y' z' b q q' hb hb'
end

end Go.RT
