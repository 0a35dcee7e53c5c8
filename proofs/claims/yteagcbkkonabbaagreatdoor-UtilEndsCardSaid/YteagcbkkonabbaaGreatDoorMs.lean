import Derived.Test.YteagcbkkonabbaaGreatDoorEw
namespace Go.RT
set_option linter.all false
theorem cond_som {α : Type} (c : Bool) (x y : α) : cond c (some x) (some y) = some (cond c x y) := by cases c <;> rfl
theorem bsome {α : Type} (x : Option α) : (x.bind fun y => some y) = x := by cases x <;> rfl
theorem u8lit (b : UInt8) (k : Nat) (hk : k < 256) : (((b.toNat : Int)) == (no_index (OfNat.ofNat k : Int))) = (b == (OfNat.ofNat k : UInt8)) := by
  rw [Bool.eq_iff_iff]
  simp only [beq_iff_eq]
  constructor
  · intro h
    have h' : (b.toNat : Int) = (k : Int) := h
    have h : b.toNat = k := by omega
    show b = UInt8.ofNat k
    rw [← h]; simp
  · intro h
    have h' : b = UInt8.ofNat k := h
    subst h'
    show (((UInt8.ofNat k).toNat : Nat) : Int) = (k : Int)
    rw [UInt8.toNat_ofNat', Nat.mod_eq_of_lt hk]
theorem u8litn (b : UInt8) (k : Nat) (hk : k < 256) : (((b.toNat : Int)) != (no_index (OfNat.ofNat k : Int))) = !(b == (OfNat.ofNat k : UInt8)) := by
  rw [bne, u8lit b k hk]
theorem w64s {i : Nat} (h : i < 9223372036854775807) : w64 ((i : Int) + 1) = ((i + 1 : Nat) : Int) := w64_nat h
theorem w64p {i : Nat} (h : i < 9223372036854775807) (h0 : 0 < i) : w64 ((i : Int) - 1) = ((i - 1 : Nat) : Int) := by rw [w64_in (by omega)]; omega
theorem rq1 {R : Type} {p : Prop} {i : Decidable p} {k : Option R} (h : p) : rq (@decide p i) k = k := rq_true (decide_eq_true h)
theorem rq2 {R : Type} {p q : Prop} {i : Decidable p} {j : Decidable q} {k : Option R} (h : p) (h' : q) : rq (@decide p i && @decide q j) k = k := rq_true (by rw [decide_eq_true h, decide_eq_true h']; rfl)
theorem rq3 {R : Type} {p q r : Prop} {i : Decidable p} {j : Decidable q} {l : Decidable r} {k : Option R} (h : p) (h' : q) (h2 : r) : rq (@decide p i && (@decide q j && @decide r l)) k = k := rq_true (by rw [decide_eq_true h, decide_eq_true h', decide_eq_true h2]; rfl)
theorem dT {p : Prop} {i : Decidable p} (h : p) : @decide p i = true := decide_eq_true h
theorem dF {p : Prop} {i : Decidable p} (h : ¬ p) : @decide p i = false := decide_eq_false h
theorem ct {α : Type} {p : Prop} {i : Decidable p} {x y : α} (h : p) : cond (@decide p i) x y = x := by rw [decide_eq_true h]; rfl
theorem cf {α : Type} {p : Prop} {i : Decidable p} {x y : α} (h : ¬ p) : cond (@decide p i) x y = y := by rw [decide_eq_false h]; rfl
theorem blt_t {i n : Nat} (h : i < n) : Nat.blt i n = true := Nat.ble_eq_true_of_le h
theorem blt_f {i n : Nat} (h : ¬ i < n) : Nat.blt i n = false := by
  cases e : Nat.blt i n with
  | false => rfl
  | true => exact absurd (Nat.le_of_ble_eq_true e) h
def srch {α R : Type} (p : α → Bool) (r : Nat → α → Option R) (fin : Option R) : List α → Nat → Option R
  | [], _ => fin
  | a :: l, i => cond (p a) (r i a) (srch p r fin l (i + 1))
theorem loopF_srch {α σ R : Type} {body : (σ → Option R) → σ → Option R} (l : List α) (st : Nat → σ) (p : α → Bool) (r : Nat → α → Option R) (fin : Option R) {F : Nat} {s : σ}
    (hF : l.length < F) (h0 : s = st 0)
    (hs : ∀ (i : Nat) (h : i < l.length) rc, body rc (st i) = cond (p l[i]) (r i l[i]) (rc (st (i + 1))))
    (he : ∀ rc, body rc (st l.length) = fin) : loopF body F s = srch p r fin l 0 := by
  subst h0
  have key : ∀ (k i F : Nat), i + k = l.length → k < F → loopF body F (st i) = srch p r fin (l.drop i) i := by
    intro k
    induction k with
    | zero =>
      intro i F h hF
      cases F with
      | zero => omega
      | succ F =>
        obtain rfl : i = l.length := by omega
        rw [List.drop_length]
        exact he _
    | succ k ih =>
      intro i F h hF
      cases F with
      | zero => omega
      | succ F =>
        rw [List.drop_eq_getElem_cons (by omega)]
        show body (loopF body F) (st i) = cond (p l[i]) (r i l[i]) _
        rw [hs i (by omega), ih (i + 1) F (by omega) (by omega)]
  have := key l.length 0 F (by omega) hF
  rwa [List.drop_zero] at this
theorem loopF_hoare {σ R : Type} {body : (σ → Option R) → σ → Option R} {z : Option R} (P : σ → Prop) (m : σ → Nat)
    (hs : ∀ s, P s → (∃ s', P s' ∧ m s' < m s ∧ ∀ rc, body rc s = rc s') ∨ ∀ rc, body rc s = z) : ∀ (F : Nat) (s : σ), P s → m s < F → loopF body F s = z
  | 0, s, _, h => by omega
  | F + 1, s, hP, h => by
    show body (loopF body F) s = z
    rcases hs s hP with ⟨s', h1, h2, h3⟩ | h3
    · rw [h3]; exact loopF_hoare P m hs F s' h1 (by omega)
    · exact h3 _
end Go.RT
