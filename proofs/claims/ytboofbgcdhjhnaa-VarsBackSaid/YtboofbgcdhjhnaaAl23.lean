/-
  AL, part 23: arguments of struct and array types that came in, read as data values.
-/
import Derived.Test.YtboofbgcdhjhnaaAl22
import Derived.WideShapes
namespace Go.AL
set_option linter.unusedVariables false

section
variable {w : World} {pr : Nat → Nat → Prop} {i : Places}
theorem LV.cat {cs : List Value} {o k : Nat} {a b : List DV} (h1 : LV w pr i ((cs.drop o).take k) a) (h2 : LV w pr i (cs.drop (o + k)) b) : LV w pr i (cs.drop o) (a ++ b) := by
  have : cs.drop o = (cs.drop o).take k ++ cs.drop (o + k) := by
    rw [← List.drop_drop, List.take_append_drop]
  rw [this]
  exact h1.append h2
theorem LV.fin {cs : List Value} {n : Nat} (h : cs.length = n) : LV w pr i (cs.drop n) [] := by
  rw [List.drop_of_length_le (by omega)]
  exact LV.nil
end

section
variable {H : Type} {henc : TypeId × Value → H} {P : Program} {W : World}

theorem field_at {fs : Array Field} {fuel : Nat} {cs : List Value} {α : Type} {enc : α → List DV} {ok : α → Prop} (j : Nat) {f : Field} (hf : fs[j]? = some f) {k : Nat} (hk : P.cellsOf f.type = k)
    (ho : OpensF henc P W fuel f.type enc ok) (h : ∀ f, f ∈ fs.toList → ∃ y, DataW.trod henc P W 0 (fun _ => true) true fuel f.type ((cs.drop f.offset).take (P.cellsOf f.type)) = some y) :
    ∃ x, ok x ∧ LV W (fun b _ => b < W.heap.size) noPlaces ((cs.drop f.offset).take k) (enc x) :=
  field_open (t := 0) (by simpa using Array.mem_of_getElem? hf) hk ho h

theorem trod_array_elems {t e : TypeId} {n fuel : Nat} {cs : List Value} {d : DataW H} {ps : List MemPlace} (ht : P.underlying t = some (.array n e)) (h : DataW.trod henc P W 0 (fun _ => true) true (fuel + 1) t cs = some (d, ps)) :
    cs.length = P.cellsOf t ∧ ∀ j, j < n → ∃ y, DataW.trod henc P W 0 (fun _ => true) true fuel e ((cs.drop (j * P.cellsOf e)).take (P.cellsOf e)) = some y := by
  simp only [DataW.trod, ht] at h
  split at h <;> try (cases h; done)
  rename_i hl
  obtain ⟨xs, hxs, -⟩ := Option.map_eq_some_iff.1 h
  refine ⟨hl, fun j hj => ?_⟩
  obtain ⟨b, -, hb⟩ := (mapM_opt hxs).2 j j (by simp [hj])
  exact ⟨b, hb⟩
theorem elem_at {e : TypeId} {n fuel : Nat} {cs : List Value} {α : Type} {enc : α → List DV} {ok : α → Prop} (j : Nat) (hj : j < n) {k : Nat} (hk : P.cellsOf e = k)
    (ho : OpensF henc P W fuel e enc ok) (h : ∀ j, j < n → ∃ y, DataW.trod henc P W 0 (fun _ => true) true fuel e ((cs.drop (j * P.cellsOf e)).take (P.cellsOf e)) = some y) :
    ∃ x, ok x ∧ LV W (fun b _ => b < W.heap.size) noPlaces ((cs.drop (j * k)).take k) (enc x) := by
  obtain ⟨y, hy⟩ := h j hj
  rw [hk] at hy
  exact ho _ y.1 y.2 hy
theorem okWide_array {t e : TypeId} {n : Nat} {r : Reach} {base : Nat} {v : Value} (ht : P.underlying t = some (.array n e)) (h : Value.okWide P W r base t v) : ∃ cs, v = .agg cs := by
  unfold Value.okWide at h
  rw [ht] at h
  obtain ⟨cs, rfl, -⟩ := h
  exact ⟨cs, rfl⟩

end
end Go.AL
