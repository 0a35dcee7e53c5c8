/-
  Plain lemmas for printed models: choices of truth values, searching loops, collecting loops. No program is named here.
-/
import Derived.Test.YteagcbkkonabbaaGreatDoorEw
namespace Go.RT
set_option linter.all false

theorem cond_som {α : Type} (c : Bool) (x y : α) : cond c (some x) (some y) = some (cond c x y) := by cases c <;> rfl
theorem cT (c b : Bool) : cond c true b = (c || b) := by cases c <;> rfl
theorem cF (c b : Bool) : cond c b false = (c && b) := by cases c <;> rfl
theorem cN (c : Bool) : cond c false true = !c := by cases c <;> rfl
theorem cI (c : Bool) : cond c true false = c := by cases c <;> rfl
theorem bsome {α : Type} (x : Option α) : (x.bind fun y => some y) = x := by cases x <;> rfl
theorem cond_not {α : Type} (c : Bool) (x y : α) : cond (!c) x y = cond c y x := by cases c <;> rfl
theorem cond_same {α : Type} (c : Bool) (x : α) : cond c x x = x := by cases c <;> rfl
theorem u8lit (b : UInt8) (k : Nat) (hk : k < 256) : (((b.toNat : Int)) == (no_index (OfNat.ofNat k : Int))) = (b == (OfNat.ofNat k : UInt8)) := by
  rw [Bool.eq_iff_iff]
  simp only [beq_iff_eq]
  constructor
  · intro h
    have h' : (b.toNat : Int) = (k : Int) := h
    have h : b.toNat = k := by omega
    show b = UInt8.ofNat k
    rw [← h]; simp
  · intro h
    have h' : b = UInt8.ofNat k := h
    subst h'
    show (((UInt8.ofNat k).toNat : Nat) : Int) = (k : Int)
    rw [UInt8.toNat_ofNat', Nat.mod_eq_of_lt hk]
theorem u8litn (b : UInt8) (k : Nat) (hk : k < 256) : (((b.toNat : Int)) != (no_index (OfNat.ofNat k : Int))) = !(b == (OfNat.ofNat k : UInt8)) := by
  rw [bne, u8lit b k hk]
theorem w64s {i : Nat} (h : i < 9223372036854775807) : w64 ((i : Int) + 1) = ((i + 1 : Nat) : Int) := w64_nat h
theorem w64p {i : Nat} (h : i < 9223372036854775807) (h0 : 0 < i) : w64 ((i : Int) - 1) = ((i - 1 : Nat) : Int) := by rw [w64_in (by omega)]; omega
theorem ixok {i n : Nat} (h : i < n) : (decide (0 ≤ (i : Int)) && decide ((i : Int) < (n : Int))) = true := by rw [decide_eq_true (by omega), decide_eq_true (by omega)]; rfl
theorem dle {i n : Nat} {inst : Decidable ((i : Int) ≤ (n : Int))} (h : i ≤ n) : @decide ((i : Int) ≤ (n : Int)) inst = true := decide_eq_true (by omega)

theorem rq1 {R : Type} {p : Prop} {i : Decidable p} {k : Option R} (h : p) : rq (@decide p i) k = k := rq_true (decide_eq_true h)
theorem rq2 {R : Type} {p q : Prop} {i : Decidable p} {j : Decidable q} {k : Option R} (h : p) (h' : q) : rq (@decide p i && @decide q j) k = k := rq_true (by rw [decide_eq_true h, decide_eq_true h']; rfl)
theorem rq3 {R : Type} {p q r : Prop} {i : Decidable p} {j : Decidable q} {l : Decidable r} {k : Option R} (h : p) (h' : q) (h2 : r) : rq (@decide p i && (@decide q j && @decide r l)) k = k := rq_true (by rw [decide_eq_true h, decide_eq_true h', decide_eq_true h2]; rfl)
theorem dT {p : Prop} {i : Decidable p} (h : p) : @decide p i = true := decide_eq_true h
theorem dF {p : Prop} {i : Decidable p} (h : ¬ p) : @decide p i = false := decide_eq_false h
theorem ct {α : Type} {p : Prop} {i : Decidable p} {x y : α} (h : p) : cond (@decide p i) x y = x := by rw [decide_eq_true h]; rfl
theorem cf {α : Type} {p : Prop} {i : Decidable p} {x y : α} (h : ¬ p) : cond (@decide p i) x y = y := by rw [decide_eq_false h]; rfl
theorem blt_t {i n : Nat} (h : i < n) : Nat.blt i n = true := Nat.ble_eq_true_of_le h
theorem blt_f {i n : Nat} (h : ¬ i < n) : Nat.blt i n = false := by
  cases e : Nat.blt i n with
  | false => rfl
  | true => exact absurd (Nat.le_of_ble_eq_true e) h
/-- A search: the first element of which p holds. -/
def srch {α R : Type} (p : α → Bool) (r : Nat → α → Option R) (fin : Option R) : List α → Nat → Option R
  | [], _ => fin
  | a :: l, i => cond (p a) (r i a) (srch p r fin l (i + 1))
theorem loopF_srch {α σ R : Type} {body : (σ → Option R) → σ → Option R} (l : List α) (st : Nat → σ) (p : α → Bool) (r : Nat → α → Option R) (fin : Option R) {F : Nat} {s : σ}
    (hF : l.length < F) (h0 : s = st 0)
    (hs : ∀ (i : Nat) (h : i < l.length) rc, body rc (st i) = cond (p l[i]) (r i l[i]) (rc (st (i + 1))))
    (he : ∀ rc, body rc (st l.length) = fin) : loopF body F s = srch p r fin l 0 := by
  subst h0
  have key : ∀ (k i F : Nat), i + k = l.length → k < F → loopF body F (st i) = srch p r fin (l.drop i) i := by
    intro k
    induction k with
    | zero =>
      intro i F h hF
      cases F with
      | zero => omega
      | succ F =>
        obtain rfl : i = l.length := by omega
        rw [List.drop_length]
        exact he _
    | succ k ih =>
      intro i F h hF
      cases F with
      | zero => omega
      | succ F =>
        rw [List.drop_eq_getElem_cons (by omega)]
        show body (loopF body F) (st i) = cond (p l[i]) (r i l[i]) _
        rw [hs i (by omega), ih (i + 1) F (by omega) (by omega)]
  have := key l.length 0 F (by omega) hF
  rwa [List.drop_zero] at this
theorem srch_any {α R : Type} (p : α → Bool) (r fin : Option R) : ∀ (l : List α) (i : Nat), srch p (fun _ _ => r) fin l i = cond (l.any p) r fin
  | [], i => rfl
  | a :: l, i => by
    simp only [srch, List.any_cons]
    rw [srch_any p r fin l]
    cases p a <;> rfl
theorem srch_find {α R : Type} (p : α → Bool) (g : α → Option R) (fin : Option R) : ∀ (l : List α) (i : Nat), srch p (fun _ a => g a) fin l i = (l.find? p).elim fin g
  | [], i => rfl
  | a :: l, i => by
    simp only [srch, List.find?_cons]
    rw [srch_find p g fin l]
    cases p a <;> rfl
theorem srch_idx {α R : Type} (p : α → Bool) (r : Nat → α → Option R) (fin : Option R) (d : α) : ∀ (l : List α) (i : Nat), srch p r fin l i = (l.findIdx? p).elim fin fun j => r (i + j) (l.getD j d)
  | [], i => rfl
  | a :: l, i => by
    simp only [srch, List.findIdx?_cons]
    rw [srch_idx p r fin d l]
    cases h : p a with
    | true => simp
    | false =>
      simp only [cond_false, Bool.false_eq_true, if_false]
      cases l.findIdx? p with
      | none => rfl
      | some j => simp [Nat.add_assoc, Nat.add_comm 1 j]

/-- A loop over a list that knows the element's number and may end early. -/
def lri {α τ R : Type} (f : Nat → τ → α → Option (τ ⊕ R)) (fin : τ → Option R) : List α → Nat → τ → Option R
  | [], _, t => fin t
  | a :: l, i, t => (f i t a).bind (sm (fun t' => lri f fin l (i + 1) t') fun r => some r)
theorem loopF_lri {α τ σ R : Type} {body : (σ → Option R) → σ → Option R} (l : List α) (st : Nat → τ → σ) (f : Nat → τ → α → Option (τ ⊕ R)) (fin : τ → Option R) (Inv : Nat → τ → Prop) {F : Nat} {t : τ} {s : σ}
    (hF : l.length < F) (h0 : s = st 0 t) (hI : Inv 0 t)
    (hs : ∀ (i : Nat) (h : i < l.length) t rc, Inv i t → body rc (st i t) = (f i t l[i]).bind (sm (fun t' => rc (st (i + 1) t')) fun r => some r))
    (hi : ∀ (i : Nat) (h : i < l.length) t t', Inv i t → f i t l[i] = some (.inl t') → Inv (i + 1) t')
    (he : ∀ t rc, Inv l.length t → body rc (st l.length t) = fin t) : loopF body F s = lri f fin l 0 t := by
  subst h0
  have key : ∀ (k i F : Nat) (t : τ), Inv i t → i + k = l.length → k < F → loopF body F (st i t) = lri f fin (l.drop i) i t := by
    intro k
    induction k with
    | zero =>
      intro i F t hI h hF
      cases F with
      | zero => omega
      | succ F =>
        obtain rfl : i = l.length := by omega
        rw [List.drop_length]
        exact he t _ hI
    | succ k ih =>
      intro i F t hI h hF
      cases F with
      | zero => omega
      | succ F =>
        rw [List.drop_eq_getElem_cons (by omega)]
        show body (loopF body F) (st i t) = (f i t l[i]).bind _
        rw [hs i (by omega) t _ hI]
        cases hf : f i t l[i] with
        | none => rfl
        | some x =>
          cases x with
          | inl t' => exact ih (i + 1) F t' (hi i (by omega) t t' hI hf) (by omega) (by omega)
          | inr r => rfl
  have := key l.length 0 F t hI (by omega) hF
  rwa [List.drop_zero] at this

/-- A loop that collects. -/
theorem take_flat {α β : Type} (f : α → List β) (l : List α) (i : Nat) (h : i < l.length) : (l.take (i + 1)).flatMap f = (l.take i).flatMap f ++ f l[i] := by
  rw [List.take_succ_eq_append_getElem h, List.flatMap_append]
  simp
theorem flat_le {α β : Type} (f : α → List β) (k : Nat) (hk : ∀ a, (f a).length ≤ k) : ∀ (l : List α), (l.flatMap f).length ≤ k * l.length
  | [] => by simp
  | a :: l => by
    have := flat_le f k hk l
    have := hk a
    simp only [List.flatMap_cons, List.length_append, List.length_cons, Nat.mul_add, Nat.mul_one]
    omega
theorem loopF_flat {α β σ R : Type} {body : (σ → Option R) → σ → Option R} (l : List α) (st : Nat → List β → σ) (f : α → List β) {z : Option R} {F : Nat} {s : σ}
    (hF : l.length < F) (h0 : s = st 0 [])
    (hs : ∀ (i : Nat) (h : i < l.length) rc (o : List β), o = (l.take i).flatMap f → body rc (st i o) = rc (st (i + 1) (o ++ f l[i])))
    (he : ∀ rc, body rc (st l.length (l.flatMap f)) = z) : loopF body F s = z := by
  refine loopF_seq (fun i => st i ((l.take i).flatMap f)) l.length hF (by simpa using h0) (fun i rc h => ?_) (fun rc => ?_)
  · rw [hs i h rc _ rfl, take_flat f l i h]
  · rw [List.take_length]; exact he rc
theorem flat_filter {α β : Type} (p : α → Bool) (g : α → β) : ∀ (l : List α), (l.flatMap fun a => cond (p a) [g a] []) = (l.filter p).map g
  | [] => rfl
  | a :: l => by
    rw [List.flatMap_cons, flat_filter p g l, List.filter_cons]
    cases p a <;> simp
/-- A loop by an invariant: each round goes on within it, and less remains, or ends with the answer. -/
theorem loopF_hoare {σ R : Type} {body : (σ → Option R) → σ → Option R} {z : Option R} (P : σ → Prop) (m : σ → Nat)
    (hs : ∀ s, P s → (∃ s', P s' ∧ m s' < m s ∧ ∀ rc, body rc s = rc s') ∨ ∀ rc, body rc s = z) : ∀ (F : Nat) (s : σ), P s → m s < F → loopF body F s = z
  | 0, s, _, h => by omega
  | F + 1, s, hP, h => by
    show body (loopF body F) s = z
    rcases hs s hP with ⟨s', h1, h2, h3⟩ | h3
    · rw [h3]; exact loopF_hoare P m hs F s' h1 (by omega)
    · exact h3 _
theorem loopF_post {σ R : Type} {body : (σ → Option R) → σ → Option R} (Q : R → Prop) (P : σ → Prop) (m : σ → Nat)
    (hs : ∀ s, P s → (∃ s', P s' ∧ m s' < m s ∧ ∀ rc, body rc s = rc s') ∨ ∃ r, Q r ∧ ∀ rc, body rc s = some r) : ∀ (F : Nat) (s : σ), P s → m s < F → ∃ r, Q r ∧ loopF body F s = some r
  | 0, s, _, h => by omega
  | F + 1, s, hP, h => by
    show ∃ r, Q r ∧ body (loopF body F) s = some r
    rcases hs s hP with ⟨s', h1, h2, h3⟩ | ⟨r, h1, h3⟩
    · rw [h3]; exact loopF_post Q P m hs F s' h1 (by omega)
    · exact ⟨r, h1, h3 _⟩
theorem any_congr' {α : Type} {p q : α → Bool} {l : List α} (h : ∀ a ∈ l, p a = q a) : l.any p = l.any q := by
  induction l with
  | nil => rfl
  | cons a l ih => simp only [List.any_cons]; rw [h a (by simp), ih fun b hb => h b (by simp [hb])]
end Go.RT
