/-
  RT, part 5: data rebuilt out of cells, and values taken apart into cells.
-/
import Derived.Test.YtnbdahlceddihaaDoorR4
namespace Go.RT
set_option linter.unusedVariables false

variable {E : TEnv}

/-- A value as data of a type; nil and growable slices are lists. -/
def TV.get (t : Ty) : TV E → Option (t.den E.D)
  | .dat t' x => if h : t' = t then some (h ▸ x) else none
  | .gsl _ _ t' xs => if h : Ty.lst t' = t then some (h ▸ xs) else none
  | .val (.slice none 0 0) => match t with
    | .lst _ => some []
    | _ => none
  | _ => none
theorem TV.get_vt {t : Ty} {d : TV E} {x : t.den E.D} (h : d.get t = some x) {w : World} {G : Ghost} {v : Value} (hv : VT E w G d v) : VT E w G (.dat t x) v := by
  unfold TV.get at h
  split at h
  · rename_i t' y
    split at h
    · rename_i e
      subst e
      cases h
      exact hv
    · cases h
  · rename_i j ver t' xs
    split at h
    · rename_i e
      subst e
      cases h
      simp only [VT] at hv
      simp only [VT, Ty.isAgg, Ty.cells]
      exact .single hv.1
    · cases h
  · split at h
    · cases h
      simp only [VT] at hv
      subst hv
      simp only [VT, Ty.isAgg, Ty.cells]
      exact .single (.nils _ _)
    · cases h
  · cases h

/-- Data of a type out of the first of some cells; the rest. -/
def rebP (E : TEnv) (f : (i : Nat) → List (TV E) → Option (E.D i × List (TV E))) : (t : Ty) → List (TV E) → Option (t.den E.D × List (TV E))
  | .unit, cs => some ((), cs)
  | .pair a b, cs => (rebP E f a cs).bind fun p => (rebP E f b p.2).bind fun q => some ((p.1, q.1), q.2)
  | .ext i, cs => f i cs
  | .int k, cs => match cs with | c :: r => (c.get (.int k)).bind fun x => some (x, r) | [] => none
  | .bool, cs => match cs with | c :: r => (c.get .bool).bind fun x => some (x, r) | [] => none
  | .str, cs => match cs with | c :: r => (c.get .str).bind fun x => some (x, r) | [] => none
  | .lst t, cs => match cs with | c :: r => (c.get (.lst t)).bind fun x => some (x, r) | [] => none
def rebN (E : TEnv) : Nat → (t : Ty) → List (TV E) → Option (t.den E.D × List (TV E))
  | 0 => rebP E fun _ _ => none
  | n + 1 => rebP E fun i cs => (rebN E n (E.df i) cs).bind fun p => some (E.fold i p.1, p.2)

section
variable {w : World} {G : Ghost}

theorem VTs.nil : VTs E w G [] [] := by simp only [VTs]
theorem VTs.cons {d : TV E} {ds : List (TV E)} {v : Value} {vs : List Value} (h : VT E w G d v) (h' : VTs E w G ds vs) : VTs E w G (d :: ds) (v :: vs) := by
  simp only [VTs]
  exact ⟨v, vs, rfl, h, h'⟩
theorem VTs.cons_inv {d : TV E} {ds : List (TV E)} {vs : List Value} (h : VTs E w G (d :: ds) vs) : ∃ u us, vs = u :: us ∧ VT E w G d u ∧ VTs E w G ds us := by
  simpa only [VTs] using h
theorem VTs.length : ∀ {ds : List (TV E)} {vs : List Value}, VTs E w G ds vs → vs.length = ds.length
  | [], _, h => by simp only [VTs] at h; subst h; rfl
  | d :: ds, vs, h => by
    obtain ⟨u, us, rfl, -, h⟩ := h.cons_inv
    simp [h.length]
theorem VTs.append : ∀ {ds es : List (TV E)} {vs us : List Value}, VTs E w G ds vs → VTs E w G es us → VTs E w G (ds ++ es) (vs ++ us)
  | [], es, vs, us, h, h' => by simp only [VTs] at h; subst h; exact h'
  | d :: ds, es, vs, us, h, h' => by
    obtain ⟨u, us', rfl, h1, h2⟩ := h.cons_inv
    exact .cons h1 (h2.append h')
theorem VTs.get : ∀ {ds : List (TV E)} {vs : List Value} (j : Nat) {d : TV E}, VTs E w G ds vs → ds[j]? = some d → ∃ u, vs[j]? = some u ∧ VT E w G d u
  | [], _, _, _, _, h => by simp at h
  | d :: ds, vs, 0, d', h, hj => by
    obtain ⟨u, us, rfl, h1, -⟩ := h.cons_inv
    simp at hj; subst hj
    exact ⟨u, rfl, h1⟩
  | d :: ds, vs, j + 1, d', h, hj => by
    obtain ⟨u, us, rfl, -, h2⟩ := h.cons_inv
    exact VTs.get j h2 (by simpa using hj)
theorem VTs.drop : ∀ (n : Nat) {ds : List (TV E)} {vs : List Value}, VTs E w G ds vs → VTs E w G (ds.drop n) (vs.drop n)
  | 0, _, _, h => h
  | n + 1, [], _, h => by simp only [VTs] at h; subst h; exact VTs.nil
  | n + 1, d :: ds, vs, h => by
    obtain ⟨u, us, rfl, -, h2⟩ := h.cons_inv
    exact VTs.drop n h2
theorem VTs.take : ∀ (n : Nat) {ds : List (TV E)} {vs : List Value}, VTs E w G ds vs → VTs E w G (ds.take n) (vs.take n)
  | 0, _, _, h => VTs.nil
  | n + 1, [], _, h => by simp only [VTs] at h; subst h; exact VTs.nil
  | n + 1, d :: ds, vs, h => by
    obtain ⟨u, us, rfl, h1, h2⟩ := h.cons_inv
    exact .cons h1 (VTs.take n h2)

theorem VT.atom {t : Ty} {x : t.den E.D} {v : Value} (ha : t.isAgg = false) (h : VT E w G (.dat t x) v) : LD w G.pr [v] (t.cells E x) := by
  simp only [VT, ha] at h
  exact h
theorem VT.of_atom {t : Ty} {x : t.den E.D} {v : Value} (ha : t.isAgg = false) (h : LD w G.pr [v] (t.cells E x)) : VT E w G (.dat t x) v := by
  simp only [VT, ha]
  exact h
theorem VT.aggr {t : Ty} {x : t.den E.D} {v : Value} (ha : t.isAgg = true) (h : VT E w G (.dat t x) v) : ∃ vs : Array Value, v = .agg vs ∧ LD w G.pr vs.toList (t.cells E x) := by
  simp only [VT, ha] at h
  exact h

theorem rebP_sound {f : (i : Nat) → List (TV E) → Option (E.D i × List (TV E))}
    (hf : ∀ i cs x r vs, VTs E w G cs vs → f i cs = some (x, r) → ∃ us ts, vs = us ++ ts ∧ LD w G.pr us (E.enc i x) ∧ VTs E w G r ts) :
    ∀ (t : Ty) {cs : List (TV E)} {x : t.den E.D} {r : List (TV E)} {vs : List Value}, VTs E w G cs vs → rebP E f t cs = some (x, r) →
      ∃ us ts, vs = us ++ ts ∧ LD w G.pr us (t.cells E x) ∧ VTs E w G r ts := by
  have atom : ∀ (t : Ty) (ha : t.isAgg = false) {cs : List (TV E)} {x : t.den E.D} {r : List (TV E)} {vs : List Value}, VTs E w G cs vs →
      (match cs with | c :: r => (c.get t).bind fun x => some (x, r) | [] => none) = some (x, r) → ∃ us ts, vs = us ++ ts ∧ LD w G.pr us (t.cells E x) ∧ VTs E w G r ts := by
    intro t ha cs x r vs hv h
    cases cs with
    | nil => cases h
    | cons c cs =>
      obtain ⟨u, us, rfl, h1, h2⟩ := hv.cons_inv
      dsimp only at h
      cases hc : c.get t with
      | none => rw [hc] at h; cases h
      | some y =>
        rw [hc] at h
        cases h
        exact ⟨[u], us, rfl, (TV.get_vt hc h1).atom ha, h2⟩
  intro t
  induction t with
  | int k => intro cs x r vs hv h; exact atom (.int k) rfl hv h
  | bool => intro cs x r vs hv h; exact atom .bool rfl hv h
  | str => intro cs x r vs hv h; exact atom .str rfl hv h
  | lst t _ => intro cs x r vs hv h; exact atom (.lst t) rfl hv h
  | unit => intro cs x r vs hv h; cases h; exact ⟨[], vs, rfl, trivial, hv⟩
  | ext i => intro cs x r vs hv h; exact hf i cs x r vs hv h
  | pair a b iha ihb =>
    intro cs x r vs hv h
    simp only [rebP] at h
    cases h1 : rebP E f a cs with
    | none => rw [h1] at h; cases h
    | some p =>
      obtain ⟨y, r1⟩ := p
      rw [h1] at h
      dsimp only [Option.bind] at h
      cases h2 : rebP E f b r1 with
      | none => rw [h2] at h; cases h
      | some q =>
        obtain ⟨z, r2⟩ := q
        rw [h2] at h
        dsimp only [Option.bind] at h
        cases h
        obtain ⟨us, ts, rfl, hu, ht⟩ := iha hv h1
        obtain ⟨us', ts', rfl, hu', ht'⟩ := ihb ht h2
        exact ⟨us ++ us', ts', by simp, hu.append hu', ht'⟩

theorem rebN_sound (hE : E.Ok) : ∀ (n : Nat) (t : Ty) {cs : List (TV E)} {x : t.den E.D} {r : List (TV E)} {vs : List Value}, VTs E w G cs vs → rebN E n t cs = some (x, r) →
      ∃ us ts, vs = us ++ ts ∧ LD w G.pr us (t.cells E x) ∧ VTs E w G r ts
  | 0, t, _, _, _, _, hv, h => rebP_sound (fun _ _ _ _ _ _ h => by cases h) t hv h
  | n + 1, t, _, _, _, _, hv, h => rebP_sound (fun i cs x r vs hv h => by
      cases h1 : rebN E n (E.df i) cs with
      | none => rw [h1] at h; cases h
      | some p =>
        obtain ⟨y, r1⟩ := p
        rw [h1] at h
        cases h
        obtain ⟨us, ts, e, h2, h3⟩ := rebN_sound hE n (E.df i) hv h1
        refine ⟨us, ts, e, ?_, h3⟩
        rw [hE.enc, hE.fold]
        exact h2) t hv h
end

end Go.RT
