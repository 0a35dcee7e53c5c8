/-
  Plain lemmas: loops over lists with an invariant; loops that go backwards. No program is named here.
-/
import Derived.Test.YteagcbkkonabbaaGreatDoorEv
namespace Go.RT
set_option linter.all false

theorem loopF_lrunI_from {α τ σ R : Type} {body : (σ → Option R) → σ → Option R} {l : List α} {st : Nat → τ → σ} {f : τ → α → Option (τ ⊕ R)} {fin : τ → Option R} {Inv : Nat → τ → Prop}
    (hs : ∀ (i : Nat) (h : i < l.length) t rc, Inv i t → body rc (st i t) = (f t l[i]).bind (sm (fun t' => rc (st (i + 1) t')) fun r => some r))
    (hi : ∀ (i : Nat) (h : i < l.length) t t', Inv i t → f t l[i] = some (.inl t') → Inv (i + 1) t')
    (he : ∀ t rc, Inv l.length t → body rc (st l.length t) = fin t) : ∀ (k i F : Nat) (t : τ), Inv i t → i + k = l.length → k < F → loopF body F (st i t) = lrun f fin (l.drop i) t
  | 0, i, F, t, hI, h, hF => by
    cases F with
    | zero => omega
    | succ F =>
      obtain rfl : i = l.length := by omega
      rw [List.drop_length]
      exact he t _ hI
  | k + 1, i, F, t, hI, h, hF => by
    cases F with
    | zero => omega
    | succ F =>
      rw [List.drop_eq_getElem_cons (by omega)]
      show body (loopF body F) (st i t) = (f t l[i]).bind _
      rw [hs i (by omega) t _ hI]
      cases hf : f t l[i] with
      | none => rfl
      | some x =>
        cases x with
        | inl t' => exact loopF_lrunI_from hs hi he k (i + 1) F t' (hi i (by omega) t t' hI hf) (by omega) (by omega)
        | inr r => rfl

theorem loopF_lrunI {α τ σ R : Type} {body : (σ → Option R) → σ → Option R} (l : List α) (st : Nat → τ → σ) (f : τ → α → Option (τ ⊕ R)) (fin : τ → Option R) (Inv : Nat → τ → Prop) {F : Nat} {t : τ} {s : σ}
    (hF : l.length < F) (h0 : s = st 0 t) (hI : Inv 0 t)
    (hs : ∀ (i : Nat) (h : i < l.length) t rc, Inv i t → body rc (st i t) = (f t l[i]).bind (sm (fun t' => rc (st (i + 1) t')) fun r => some r))
    (hi : ∀ (i : Nat) (h : i < l.length) t t', Inv i t → f t l[i] = some (.inl t') → Inv (i + 1) t')
    (he : ∀ t rc, Inv l.length t → body rc (st l.length t) = fin t) : loopF body F s = lrun f fin l t := by
  rw [h0, loopF_lrunI_from hs hi he l.length 0 F t hI (by omega) hF, List.drop_zero]

/-- A loop that folds a list. -/
theorem loopF_foldI {α τ σ R : Type} {body : (σ → Option R) → σ → Option R} (l : List α) (st : Nat → τ → σ) (g : τ → α → τ) (Inv : Nat → τ → Prop) {z : Option R} {F : Nat} {t : τ} {s : σ}
    (hF : l.length < F) (h0 : s = st 0 t) (hI : Inv 0 t)
    (hs : ∀ (i : Nat) (h : i < l.length) t rc, Inv i t → body rc (st i t) = rc (st (i + 1) (g t l[i])))
    (hi : ∀ (i : Nat) (h : i < l.length) t, Inv i t → Inv (i + 1) (g t l[i]))
    (he : ∀ rc, Inv l.length (l.foldl g t) → body rc (st l.length (l.foldl g t)) = z) : loopF body F s = z := by
  subst h0
  have key : ∀ (k i F : Nat) (t' : τ), Inv i t' → i + k = l.length → k < F → (l.drop i).foldl g t' = l.foldl g t → loopF body F (st i t') = z := by
    intro k
    induction k with
    | zero =>
      intro i F t' hI' h hF h2
      cases F with
      | zero => omega
      | succ F =>
        obtain rfl : i = l.length := by omega
        rw [List.drop_length] at h2
        simp only [List.foldl_nil] at h2
        subst h2
        exact he _ hI'
    | succ k ih =>
      intro i F t' hI' h hF h2
      cases F with
      | zero => omega
      | succ F =>
        show body (loopF body F) (st i t') = z
        rw [hs i (by omega) t' _ hI']
        rw [List.drop_eq_getElem_cons (by omega)] at h2
        exact ih (i + 1) F _ (hi i (by omega) t' hI') (by omega) (by omega) h2
  exact key l.length 0 F t hI (by omega) hF (by rw [List.drop_zero])

theorem Evt.up {p : Nat → Nat → Prop} (h : Evt p) : Evt fun F n => p F (n + 1) := by
  obtain ⟨N, h⟩ := h
  exact ⟨N, fun F n a b => h F (n + 1) a (by omega)⟩
theorem capk {n k : Nat} (h : n ≤ 1000000000) (hk : k ≤ 100000) : (decide (n ≤ 9223372036854775807) && decide (n * k ≤ 140737488355328)) = true := by
  have : n * k ≤ 1000000000 * 100000 := Nat.mul_le_mul h hk
  rw [decide_eq_true (by omega), decide_eq_true (by omega)]; rfl
theorem rq_cap {R : Type} {n k : Nat} (h : n ≤ 1000000000) (hk : k ≤ 100000) (x : Option R) : rq (decide (n ≤ 9223372036854775807) && decide (n * k ≤ 140737488355328)) x = x := rq_true (capk h hk)
theorem rq_str {R : Type} {n : Nat} (h : n ≤ 1000000000) (x : Option R) : rq (decide (n ≤ 9223372036854775807)) x = x := rq_true (decide_eq_true (by omega))
theorem rq_ix {R : Type} {i n : Nat} (h : i < n) (x : Option R) : rq (decide (0 ≤ (i : Int)) && decide ((i : Int) < (n : Int))) x = x := rq_true (by rw [decide_eq_true (by omega), decide_eq_true (by omega)]; rfl)
end Go.RT
