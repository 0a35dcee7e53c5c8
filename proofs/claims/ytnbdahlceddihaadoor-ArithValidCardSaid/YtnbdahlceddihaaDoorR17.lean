/-
  RT, part 17: flat cells of lists; append to a growable row.
-/
import Derived.Test.YtnbdahlceddihaaDoorR16
namespace Go.RT
set_option linter.unusedVariables false

variable {E : TEnv}

theorem idx_lt {j l n k : Nat} (hj : j < n) (hl : l < k) : j * k + l < n * k := by
  have : (j + 1) * k ≤ n * k := Nat.mul_le_mul_right k hj
  rw [Nat.add_mul, Nat.one_mul] at this
  omega

/-- The elements of a list that the flat cells read as. -/
def Flat (w : World) (pr : Nat → Nat → Prop) (k : Nat) (xs : List Value) (es : List (List DV)) : Prop :=
  xs.length = es.length * k ∧ (∀ j, j < es.length → (es.getD j []).length = k) ∧
  ∀ j l, j < es.length → l < k → VD w pr (xs.getD (j * k + l) undef) ((es.getD j []).getD l default)

theorem Flat.append {w : World} {pr : Nat → Nat → Prop} {k : Nat} {xs ys : List Value} {es fs : List (List DV)} (h : Flat w pr k xs es) (h' : Flat w pr k ys fs) : Flat w pr k (xs ++ ys) (es ++ fs) := by
  have e1 : ∀ j, j < es.length → (es ++ fs).getD j [] = es.getD j [] := fun j hj => by simp [List.getD, List.getElem?_append_left hj]
  have e2 : ∀ j, ¬ j < es.length → (es ++ fs).getD j [] = fs.getD (j - es.length) [] := fun j hj => by simp [List.getD, List.getElem?_append_right (Nat.le_of_not_lt hj)]
  refine ⟨by simp [h.1, h'.1, Nat.add_mul], fun j hj => ?_, fun j l hj hl => ?_⟩
  · by_cases hlt : j < es.length
    · rw [e1 j hlt]; exact h.2.1 j hlt
    · rw [e2 j hlt]; exact h'.2.1 _ (by simp at hj; omega)
  · by_cases hlt : j < es.length
    · have hq : j * k + l < xs.length := by rw [h.1]; exact idx_lt hlt hl
      have : (xs ++ ys).getD (j * k + l) undef = xs.getD (j * k + l) undef := by simp [List.getD, List.getElem?_append_left hq]
      rw [this, e1 j hlt]
      exact h.2.2 j l hlt hl
    · have hge : es.length ≤ j := Nat.le_of_not_lt hlt
      have hq : es.length * k ≤ j * k + l := Nat.le_trans (Nat.mul_le_mul_right k hge) (Nat.le_add_right _ _)
      have hsub : j * k + l - es.length * k = (j - es.length) * k + l := by
        rw [Nat.sub_mul]
        have := Nat.mul_le_mul_right k hge
        omega
      have : (xs ++ ys).getD (j * k + l) undef = ys.getD ((j - es.length) * k + l) undef := by
        simp only [List.getD]
        rw [List.getElem?_append_right (by rw [h.1]; exact hq), h.1, hsub]
      rw [this, e2 j hlt]
      exact h'.2.2 (j - es.length) l (by simp at hj; omega) hl

theorem Flat.mono {w w' : World} {pr pr' : Nat → Nat → Prop} {k : Nat} {xs : List Value} {es : List (List DV)} (h : Flat w pr k xs es) (hp : ∀ b o, pr b o → pr' b o)
    (hc : ∀ b o v, pr b o → w.cell? ⟨b, o, none⟩ = some v → w'.cell? ⟨b, o, none⟩ = some v) : Flat w' pr' k xs es :=
  ⟨h.1, h.2.1, fun j l hj hl => (h.2.2 j l hj hl).mono hp hc⟩

theorem Flat.nil {w : World} {pr : Nat → Nat → Prop} {k : Nat} : Flat w pr k [] [] := ⟨by simp, fun j hj => by simp at hj, fun j l hj => by simp at hj⟩

theorem Flat.one {w : World} {pr : Nat → Nat → Prop} {k : Nat} (hk0 : 0 < k) {xs : List Value} {es : List (List DV)} (h : Flat w pr k xs es) : ∀ u, u ∈ xs → u.oneCell' = true := by
  intro u hu
  obtain ⟨q, hq, rfl⟩ := List.getElem_of_mem hu
  have hq' : q < es.length * k := by rw [← h.1]; exact hq
  have := (h.2.2 (q / k) (q % k) ((Nat.div_lt_iff_lt_mul hk0).2 hq') (Nat.mod_lt _ hk0)).one
  rw [show q / k * k + q % k = q by have := Nat.div_add_mod q k; rw [Nat.mul_comm] at this; exact this] at this
  simpa [List.getD, hq] using this

/-- A row reads as a slice. -/
theorem VD_row {w : World} {pr : Nat → Nat → Prop} {b k cap : Nat} {es : List (List DV)} {xs : List Value} (hcap : es.length ≤ cap)
    (hx : ∀ q, q < es.length * k → pr b q ∧ w.cell? ⟨b, q, none⟩ = some (xs.getD q undef)) (h : Flat w pr k xs es) :
    VD w pr (.slice (some ⟨b, 0, none⟩) es.length cap) (.slice k es) := by
  refine .slice b 0 cap k es (fun j l => xs.getD (j * k + l) undef) hcap h.2.1 (fun j l hj hl => ?_) (fun j l hj hl => h.2.2 j l hj hl)
  rw [Nat.zero_add]
  exact hx _ (idx_lt hj hl)

theorem setCells_row (g : Nat) (t : TypeId) : ∀ (vs : List Value) (o : Nat) (cur : Array Value) (w : World), w.heap[g]? = some (.cells cur t (0, 0)) → o + vs.length ≤ cur.size →
    w.setCells g o vs = w.setRow g (cur.toList.take o ++ vs ++ cur.toList.drop (o + vs.length)).toArray
  | [], o, cur, w, hg, _ => by
    simp only [World.setCells, List.append_nil, List.length_nil, Nat.add_zero, List.take_append_drop, Array.toArray_toList]
    rw [setRow_self w g cur t (0, 0) hg]
  | v :: rest, o, cur, w, hg, hl => by
    simp only [World.setCells]
    rw [setCell_eq_setRow w g o cur t (0, 0) v hg]
    have ih := setCells_row g t rest (o + 1) (cur.setIfInBounds o v) (w.setRow g (cur.setIfInBounds o v)) (setRow_heap w g cur _ t _ hg) (by simp at hl ⊢; omega)
    rw [ih, setRow_setRow]
    congr 2
    have e := list_seg_step cur.toList o v rest (by simp at hl ⊢; omega)
    simpa [Array.toList_setIfInBounds, Nat.add_assoc, Nat.add_comm] using e

/-- The flat cells of a slice's reading. -/
theorem VD.flat {w : World} {pr : Nat → Nat → Prop} {v : Value} {k : Nat} {es : List (List DV)} (hk : 0 < k) (h : VD w pr v (.slice k es)) :
    ∃ xs : List Value, Flat w pr k xs es ∧ ((∃ a, v = .slice a 0 0 ∧ es = []) ∨ ∃ b off cap, v = .slice (some ⟨b, off, none⟩) es.length cap ∧ es.length ≤ cap ∧
      ∀ q, q < es.length * k → pr b (off + q) ∧ w.cell? ⟨b, off + q, none⟩ = some (xs.getD q undef)) := by
  rcases h.slice_inv with ⟨ad, rfl, rfl⟩ | ⟨b, off, cap, c, rfl, hcap, hkk, h0, hv⟩
  · exact ⟨[], Flat.nil, .inl ⟨ad, rfl, rfl⟩⟩
  · have hg : ∀ q, q < es.length * k → ((List.range (es.length * k)).map fun q => c (q / k) (q % k)).getD q undef = c (q / k) (q % k) := fun q hq => by simp [List.getD, hq]
    have hdm : ∀ q, q < es.length * k → q / k < es.length ∧ q % k < k := fun q hq => ⟨(Nat.div_lt_iff_lt_mul hk).2 hq, Nat.mod_lt q hk⟩
    refine ⟨(List.range (es.length * k)).map fun q => c (q / k) (q % k), ⟨by simp, hkk, fun j l hj hl => ?_⟩, .inr ⟨b, off, cap, rfl, hcap, fun q hq => ?_⟩⟩
    · have hlt := idx_lt hj hl
      have e1 : (j * k + l) / k = j := by rw [Nat.mul_comm, Nat.mul_add_div hk, Nat.div_eq_of_lt hl, Nat.add_zero]
      have e2 : (j * k + l) % k = l := by rw [Nat.mul_comm, Nat.mul_add_mod, Nat.mod_eq_of_lt hl]
      rw [hg _ hlt, e1, e2]
      exact hv j l hj hl
    · obtain ⟨d1, d2⟩ := hdm q hq
      have := h0 (q / k) (q % k) d1 d2
      rw [hg q hq]
      have e : off + q / k * k + q % k = off + q := by
        have := Nat.div_add_mod q k
        rw [Nat.mul_comm] at this
        omega
      rw [e] at this
      exact this

end Go.RT
