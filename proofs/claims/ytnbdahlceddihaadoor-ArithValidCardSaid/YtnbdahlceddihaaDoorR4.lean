/-
  RT, part 4: parts of data by offset; data rebuilt out of cells.
-/
import Derived.Test.YtnbdahlceddihaaDoorR3
namespace Go.RT
set_option linter.unusedVariables false

variable {E : TEnv}

/-- The part of a row of cells that a load of a type with this size takes. -/
def Part (E : TEnv) (w : World) (G : Ghost) (vs : List Value) (agg : Bool) (size off : Nat) (d : TV E) : Prop :=
  cond agg (off + size ≤ vs.length ∧ VT E w G d (.agg ((vs.drop off).take size).toArray)) (∃ u, vs[off]? = some u ∧ VT E w G d u)

def subP (E : TEnv) (f : (i : Nat) → E.D i → Bool → Nat → Nat → Option (TV E)) : (t : Ty) → t.den E.D → Bool → Nat → Nat → Option (TV E)
  | .pair a b, x, agg, size, off => cond (Nat.blt off (a.size E))
      (cond (Nat.beq off 0 && Nat.beq size (a.size E) && (agg == a.isAgg)) (some (.dat a x.1)) (subP E f a x.1 agg size off))
      (subP E f b x.2 agg size (off - a.size E))
  | .ext i, x, agg, size, off => f i x agg size off
  | _, _, _, _, _ => none
def subN (E : TEnv) : Nat → (t : Ty) → t.den E.D → Bool → Nat → Nat → Option (TV E)
  | 0 => subP E fun _ _ _ _ _ => none
  | n + 1 => subP E fun i x => subN E n (E.df i) (E.unf i x)
/-- The part at an offset: the whole, or a field (of a field ..). -/
def TV.part (t : Ty) (x : t.den E.D) (agg : Bool) (size off : Nat) : Option (TV E) :=
  cond (Nat.beq off 0 && Nat.beq size (t.size E) && (agg == t.isAgg)) (some (.dat t x)) (subN E 4 t x agg size off)

section
variable {w : World} {G : Ghost}

theorem Ty.size_atom {t : Ty} (h : t.isAgg = false) : t.size E = 1 := by
  cases t <;> first | rfl | cases h

theorem Part.whole (hE : E.Ok) {vs : List Value} {t : Ty} {x : t.den E.D} (h : LD w G.pr vs (t.cells E x)) : Part E w G vs t.isAgg (t.size E) 0 (.dat t x) := by
  have hl := h.length
  rw [Ty.cells_length E hE] at hl
  unfold Part
  cases ha : t.isAgg
  · rw [Ty.size_atom ha] at hl
    obtain ⟨u, rfl⟩ := List.length_eq_one_iff.1 hl
    refine ⟨u, rfl, ?_⟩
    simp only [VT, ha]
    exact h
  · refine ⟨by omega, ?_⟩
    simp only [VT, ha]
    refine ⟨_, rfl, ?_⟩
    rw [← hl]
    simpa using h

theorem Part.left {us ts : List Value} {agg : Bool} {size off : Nat} {d : TV E} (h : Part E w G us agg size off d) : Part E w G (us ++ ts) agg size off d := by
  unfold Part at h ⊢
  cases agg
  · obtain ⟨u, hu, h⟩ := h
    refine ⟨u, ?_, h⟩
    have := (List.getElem?_eq_some_iff.1 hu).1
    rw [List.getElem?_append_left this]; exact hu
  · obtain ⟨hl, h⟩ := h
    refine ⟨by simp; omega, ?_⟩
    rw [List.drop_append_of_le_length (by omega), List.take_append_of_le_length (by simp; omega)]
    exact h
theorem Part.right {us ts : List Value} {agg : Bool} {size off n : Nat} {d : TV E} (hn : us.length = n) (ho : n ≤ off) (h : Part E w G ts agg size (off - n) d) : Part E w G (us ++ ts) agg size off d := by
  subst hn
  unfold Part at h ⊢
  cases agg
  · obtain ⟨u, hu, h⟩ := h
    exact ⟨u, by rw [List.getElem?_append_right ho]; exact hu, h⟩
  · obtain ⟨hl, h⟩ := h
    refine ⟨by simp; omega, ?_⟩
    rw [List.drop_append, List.drop_eq_nil_of_le ho, List.nil_append]
    exact h

theorem subP_sound (hE : E.Ok) {f : (i : Nat) → E.D i → Bool → Nat → Nat → Option (TV E)}
    (hf : ∀ i x agg size off d vs, LD w G.pr vs (E.enc i x) → f i x agg size off = some d → Part E w G vs agg size off d) :
    ∀ (t : Ty) (x : t.den E.D) {agg : Bool} {size off : Nat} {d : TV E} {vs : List Value}, LD w G.pr vs (t.cells E x) → subP E f t x agg size off = some d → Part E w G vs agg size off d := by
  intro t
  induction t with
  | int k => intro x _ _ _ _ _ _ h; cases h
  | bool => intro x _ _ _ _ _ _ h; cases h
  | str => intro x _ _ _ _ _ _ h; cases h
  | lst t _ => intro x _ _ _ _ _ _ h; cases h
  | unit => intro x _ _ _ _ _ _ h; cases h
  | ext i => intro x agg size off d vs hv h; exact hf i x agg size off d vs hv h
  | pair a b iha ihb =>
    intro x agg size off d vs hv h
    simp only [Ty.cells] at hv
    obtain ⟨us, ts, rfl, h1, h2⟩ := hv.split
    have hl := h1.length
    rw [Ty.cells_length E hE] at hl
    simp only [subP] at h
    cases hb : Nat.blt off (a.size E) <;> rw [hb] at h <;> simp only [cond_true, cond_false] at h
    · have ho : a.size E ≤ off := by
        have : ¬ off < a.size E := fun hc => by rw [← Nat.blt_eq] at hc; rw [hc] at hb; cases hb
        omega
      exact (ihb x.2 h2 h).right hl ho
    · cases hc : (Nat.beq off 0 && Nat.beq size (a.size E) && (agg == a.isAgg)) <;> rw [hc] at h <;> simp only [cond_true, cond_false] at h
      · exact (iha x.1 h1 h).left
      · cases h
        simp only [Bool.and_eq_true, beq_iff_eq] at hc
        obtain ⟨⟨e1, e2⟩, rfl⟩ := hc
        rw [Nat.eq_of_beq_eq_true e1, Nat.eq_of_beq_eq_true e2]
        exact (Part.whole hE h1).left

theorem subN_sound (hE : E.Ok) : ∀ (n : Nat) (t : Ty) (x : t.den E.D) {agg : Bool} {size off : Nat} {d : TV E} {vs : List Value},
    LD w G.pr vs (t.cells E x) → subN E n t x agg size off = some d → Part E w G vs agg size off d
  | 0, t, x, _, _, _, _, _, hv, h => subP_sound hE (fun _ _ _ _ _ _ _ _ h => by cases h) t x hv h
  | n + 1, t, x, _, _, _, _, _, hv, h => subP_sound hE (fun i x agg size off d vs hv h => by
      rw [hE.enc] at hv
      exact subN_sound hE n (E.df i) (E.unf i x) hv h) t x hv h

theorem part_sound (hE : E.Ok) {t : Ty} {x : t.den E.D} {agg : Bool} {size off : Nat} {d : TV E} {vs : List Value}
    (hv : LD w G.pr vs (t.cells E x)) (h : TV.part t x agg size off = some d) : Part E w G vs agg size off d := by
  unfold TV.part at h
  cases hc : (Nat.beq off 0 && Nat.beq size (t.size E) && (agg == t.isAgg)) <;> rw [hc] at h <;> simp only [cond_true, cond_false] at h
  · exact subN_sound hE 4 t x hv h
  · cases h
    simp only [Bool.and_eq_true, beq_iff_eq] at hc
    obtain ⟨⟨e1, e2⟩, rfl⟩ := hc
    rw [Nat.eq_of_beq_eq_true e1, Nat.eq_of_beq_eq_true e2]
    exact Part.whole hE hv
end

end Go.RT
