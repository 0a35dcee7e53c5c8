/-
  RT, part 15: a new growable row.
-/
import Derived.Test.YtnbdahlceddihaaDoorR14
namespace Go.RT
set_option linter.unusedVariables false

variable {E : TEnv}
section
variable {P : Program} {w0 w w' : World} {G0 G G' : Ghost} {st : TS E} {a : Act} {o : Oper}

/-- One more growable row; its block is new. -/
theorem Rel.addGrow (h : Rel E w0 G0 st a w G) (x : TGrow) (hd : Value) (hok : GrowOk w G x hd) (hnew : ∀ b, hd.ownBlock = some b → w0.heap.size ≤ b)
    (hap : ∀ (j : Nat) y z b, G.g[j]? = some (y, z) → z.ownBlock = some b → hd.ownBlock ≠ some b) :
    Rel E w0 G0 { st with g := st.g ++ [x] } a w { G with g := G.g ++ [(x, hd)] } := by
  have hg : Goes w G w { G with g := G.g ++ [(x, hd)] } := ⟨fun _ _ h => h, fun _ _ _ _ h => h, fun _ _ h => h, fun j y z hj => ⟨y, z, by
    show (G.g ++ [(x, hd)])[j]? = _
    rw [List.getElem?_append_left (List.getElem?_eq_some_iff.1 hj).1]; exact hj, Nat.le_refl _, fun _ => rfl⟩⟩
  have last : ∀ (j : Nat) y z, (G.g ++ [(x, hd)])[j]? = some (y, z) → G.g[j]? = some (y, z) ∨ (j = G.g.length ∧ y = x ∧ z = hd) := by
    intro j y z hj
    by_cases hl : j < G.g.length
    · rw [List.getElem?_append_left hl] at hj
      exact .inl hj
    · have := (List.getElem?_eq_some_iff.1 hj).1
      simp at this
      have e : j = G.g.length := by omega
      subst e
      simp at hj
      exact .inr ⟨rfl, hj.1.symm, hj.2.symm⟩
  have ev := h.evol
  refine ⟨⟨ev.os, ev.tape, ev.output, ev.size, ev.old, ev.goes.trans hg, ev.prold, ev.newB, fun j y z b hj hb => ?_⟩, h.size, fun j d hj => (h.tmps j d hj).mono hg, h.defers.mono hg, ?_, h.fix, h.pins⟩
  · rcases last j y z hj with hj | ⟨-, -, rfl⟩
    · exact ev.newG j y z b hj hb
    · exact .inl (hnew b hb)
  refine ⟨h.boxes.len, by simp [h.boxes.gs], fun r b y hb hy => (h.boxes.box r b y hb hy).mono hg rfl, h.boxes.lt, h.boxes.nodup, h.boxes.prok, fun j y z hj => ?_, fun j j' y z y' z' b hj hj' hb hb' => ?_, glob_mono hg h.boxes.glob⟩
  · rcases last j y z hj with hj | ⟨-, rfl, rfl⟩
    · exact h.boxes.grow j y z hj
    · exact hok
  · rcases last j y z hj with q | ⟨q1, -, q3⟩ <;> rcases last j' y' z' hj' with q' | ⟨q1', -, q3'⟩
    · exact h.boxes.apart j j' y z y' z' b q q' hb hb'
    · rw [q3'] at hb'
      exact (hap j y z b q hb hb').elim
    · rw [q3] at hb
      exact (hap j' y' z' b q' hb' hb).elim
    · rw [q1, q1']

theorem Rel.newRow (h : Rel E w0 G0 st a w G) {e : TypeId} {k n cap : Nat} {cur : Array Value} (hsz : cur.size = cap * k) (hn : n ≤ cap) (hc0 : 0 < cap) (hcap : cap ≤ maxLen) :
    Rel E w0 G0 { st with g := st.g ++ [⟨0, e, k⟩] } a (w.alloc (.cells cur e))
      { G with g := G.g ++ [(⟨0, e, k⟩, .slice (some ⟨w.heap.size, 0, none⟩) n cap)], pr := fun b o => G.pr b o ∨ (b = w.heap.size ∧ o < n * k) } := by
  have hG := h.grow (Same.alloc w (.cells cur e)) rfl rfl rfl (fun b o => G.pr b o ∨ (b = w.heap.size ∧ o < n * k)) (fun _ _ h => .inl h)
    (fun b o hb hp => hp.elim id fun q => absurd hb (by rw [q.1]; omega)) (fun b o hp => by
      rcases hp with hp | ⟨rfl, -⟩
      · exact Nat.lt_of_lt_of_le (h.boxes.prok b o hp).1 (by simp)
      · simp)
  refine hG.addGrow ⟨0, e, k⟩ (.slice (some ⟨w.heap.size, 0, none⟩) n cap) ?_ (fun b hb => ?_) (fun j y z b hj hz hb => ?_)
  · refine ⟨n, cur.toList.take (n * k), ⟨?_, .inr ⟨w.heap.size, cap, cur, rfl, Nat.zero_le _, heap_alloc_new w _, hn, hcap, hsz, rfl⟩⟩, fun a m e => by simp at e; omega, fun b hb => ?_⟩
    · rw [List.length_take, Array.length_toList, hsz]
      exact Nat.min_eq_left (Nat.mul_le_mul_right k hn)
    · cases hb
      refine ⟨by simp, fun hm => ?_, fun o ho hp => ?_⟩
      · exact absurd (h.boxes.lt _ hm) (Nat.lt_irrefl _)
      · rcases hp with hp | ⟨-, hlt⟩
        · exact absurd (h.boxes.prok _ _ hp).1 (Nat.lt_irrefl _)
        · have ho : n * k ≤ o := ho
          omega
  · cases hb; exact h.evol.size
  · cases hb
    obtain ⟨n', xs', -, -, hb'⟩ := h.boxes.grow j y z hj
    exact absurd (hb' _ hz).1 (Nat.lt_irrefl _)
end

end Go.RT
