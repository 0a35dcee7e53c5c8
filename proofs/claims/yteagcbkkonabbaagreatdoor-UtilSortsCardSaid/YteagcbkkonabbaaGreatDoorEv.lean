/-
  Plain lemmas for the printed models: loops over lists as recursion on the list; what holds once the fuel is great enough. No program is named here.
-/
import Derived.Test.YteagcbkkonabbaaGreatDoorPu
namespace Go.RT
set_option linter.unusedVariables false
set_option linter.unusedSimpArgs false
set_option linter.all false

/-- A loop over a list, without fuel: f t a is the round at the element a; it goes on with a new state or ends with an answer. -/
def lrun {α τ R : Type} (f : τ → α → Option (τ ⊕ R)) (fin : τ → Option R) : List α → τ → Option R
  | [], t => fin t
  | a :: l, t => (f t a).bind (sm (fun t' => lrun f fin l t') fun r => some r)

theorem loopF_lrun_from {α τ σ R : Type} {body : (σ → Option R) → σ → Option R} {l : List α} {st : Nat → τ → σ} {f : τ → α → Option (τ ⊕ R)} {fin : τ → Option R}
    (hs : ∀ (i : Nat) (h : i < l.length) t rc, body rc (st i t) = (f t l[i]).bind (sm (fun t' => rc (st (i + 1) t')) fun r => some r))
    (he : ∀ t rc, body rc (st l.length t) = fin t) : ∀ (k i F : Nat) (t : τ), i + k = l.length → k < F → loopF body F (st i t) = lrun f fin (l.drop i) t
  | 0, i, F, t, h, hF => by
    cases F with
    | zero => omega
    | succ F =>
      obtain rfl : i = l.length := by omega
      rw [List.drop_length]
      exact he t _
  | k + 1, i, F, t, h, hF => by
    cases F with
    | zero => omega
    | succ F =>
      rw [List.drop_eq_getElem_cons (by omega)]
      show body (loopF body F) (st i t) = (f t l[i]).bind _
      rw [hs i (by omega)]
      congr 1
      funext x
      cases x with
      | inl t' => exact loopF_lrun_from hs he k (i + 1) F t' (by omega) (by omega)
      | inr r => rfl

theorem loopF_lrun {α τ σ R : Type} {body : (σ → Option R) → σ → Option R} (l : List α) (st : Nat → τ → σ) (f : τ → α → Option (τ ⊕ R)) (fin : τ → Option R) {F : Nat} {t : τ} {s : σ}
    (hF : l.length < F) (h0 : s = st 0 t)
    (hs : ∀ (i : Nat) (h : i < l.length) t rc, body rc (st i t) = (f t l[i]).bind (sm (fun t' => rc (st (i + 1) t')) fun r => some r))
    (he : ∀ t rc, body rc (st l.length t) = fin t) : loopF body F s = lrun f fin l t := by
  rw [h0, loopF_lrun_from hs he l.length 0 F t (by omega) hF, List.drop_zero]

/-- A loop whose states are known. -/
theorem loopF_seq_from {σ R : Type} {body : (σ → Option R) → σ → Option R} {z : Option R} (st : Nat → σ) {n : Nat} (hs : ∀ (i : Nat) rc, i < n → body rc (st i) = rc (st (i + 1))) (he : ∀ rc, body rc (st n) = z) :
    ∀ (k i F : Nat), i + k = n → k < F → loopF body F (st i) = z
  | 0, i, F, h, hF => by
    cases F with
    | zero => omega
    | succ F =>
      obtain rfl : i = n := by omega
      exact he _
  | k + 1, i, F, h, hF => by
    cases F with
    | zero => omega
    | succ F =>
      show body (loopF body F) (st i) = z
      rw [hs i _ (by omega)]
      exact loopF_seq_from st hs he k (i + 1) F (by omega) (by omega)
theorem loopF_seq {σ R : Type} {body : (σ → Option R) → σ → Option R} {z : Option R} {s : σ} {F : Nat} (st : Nat → σ) (n : Nat) (hF : n < F) (h0 : s = st 0) (hs : ∀ (i : Nat) rc, i < n → body rc (st i) = rc (st (i + 1))) (he : ∀ rc, body rc (st n) = z) :
    loopF body F s = z := by
  rw [h0]; exact loopF_seq_from st hs he n 0 F (by omega) hF

/-! ### Maps -/
theorem find_set_same {α β : Type} [BEq α] [LawfulBEq α] (k : α) (v : β) : ∀ (m : List (α × β)), m.any (fun p => p.1 == k) = true → (m.map fun p => bif p.1 == k then (k, v) else p).find? (fun p => p.1 == k) = some (k, v)
  | [], h => by simp at h
  | p :: m, h => by
    simp only [List.map_cons, List.find?_cons]
    cases hp : (p.1 == k) with
    | true => simp
    | false =>
      simp only [cond_false, hp]
      exact find_set_same k v m (by simpa [hp] using h)
theorem find_set_other {α β : Type} [BEq α] [LawfulBEq α] (k x : α) (v : β) (hx : (k == x) = false) : ∀ (m : List (α × β)), (m.map fun p => bif p.1 == k then (k, v) else p).find? (fun p => p.1 == x) = m.find? fun p => p.1 == x
  | [] => rfl
  | p :: m => by
    simp only [List.map_cons, List.find?_cons]
    cases hp : (p.1 == k) with
    | true =>
      obtain rfl := eq_of_beq hp
      simp only [cond_true, hx]
      exact find_set_other _ x v hx m
    | false =>
      simp only [cond_false]
      cases (p.1 == x)
      · exact find_set_other k x v hx m
      · rfl
theorem mget_mset {α β : Type} [BEq α] [LawfulBEq α] (m : List (α × β)) (k x : α) (v z : β) : mget keq (mset keq m k v) x z = cond (k == x) v (mget keq m x z) := by
  unfold mget mset keq
  cases h : m.any (fun p => p.1 == k) with
  | true =>
    simp only [cond_true]
    cases hx : (k == x) with
    | true =>
      obtain rfl := eq_of_beq hx
      rw [find_set_same k v m h]
      rfl
    | false => rw [find_set_other k x v hx m]; rfl
  | false =>
    simp only [cond_false, List.find?_append]
    cases hx : (k == x) with
    | true =>
      obtain rfl := eq_of_beq hx
      have : m.find? (fun p => p.1 == k) = none := by
        rw [List.find?_eq_none]
        intro p hp hh
        have : m.any (fun p => p.1 == k) = true := List.any_eq_true.2 ⟨p, hp, hh⟩
        rw [h] at this; cases this
      rw [this]
      simp
    | false =>
      have : [(k, v)].find? (fun p => p.1 == x) = none := by simp [hx]
      rw [this]
      cases m.find? (fun p => p.1 == x) <;> rfl

/-- What holds once both fuels are great enough. -/
def Evt (p : Nat → Nat → Prop) : Prop := ∃ N, ∀ F n, N ≤ F → N ≤ n → p F n
theorem Evt.of {p : Nat → Nat → Prop} (h : ∀ F n, p F n) : Evt p := ⟨0, fun F n _ _ => h F n⟩
theorem Evt.ge {p : Nat → Nat → Prop} (k : Nat) (h : ∀ F n, k ≤ F → k ≤ n → p F n) : Evt p := ⟨k, h⟩
theorem Evt.mono {p q : Nat → Nat → Prop} (h : Evt p) (f : ∀ F n, p F n → q F n) : Evt q := by
  obtain ⟨N, h⟩ := h; exact ⟨N, fun F n a b => f F n (h F n a b)⟩
theorem Evt.and {p q : Nat → Nat → Prop} (h : Evt p) (g : Evt q) : Evt fun F n => p F n ∧ q F n := by
  obtain ⟨N, h⟩ := h; obtain ⟨M, g⟩ := g
  exact ⟨N + M, fun F n a b => ⟨h F n (by omega) (by omega), g F n (by omega) (by omega)⟩⟩
theorem Evt.map2 {p q r : Nat → Nat → Prop} (h : Evt p) (g : Evt q) (f : ∀ F n, p F n → q F n → r F n) : Evt r :=
  (h.and g).mono fun F n x => f F n x.1 x.2
theorem Evt.map3 {p q r s : Nat → Nat → Prop} (h : Evt p) (g : Evt q) (k : Evt r) (f : ∀ F n, p F n → q F n → r F n → s F n) : Evt s :=
  ((h.and g).and k).mono fun F n x => f F n x.1.1 x.1.2 x.2
theorem Evt.succ {p : Nat → Nat → Prop} (h : Evt fun F n => p F (n + 1)) : Evt p := by
  obtain ⟨N, h⟩ := h
  refine ⟨N + 1, fun F n a b => ?_⟩
  cases n with
  | zero => omega
  | succ n => exact h F n (by omega) (by omega)
theorem Evt.fst {p : Nat → Nat → Prop} (h : Evt p) : Evt fun F _ => p F F := by
  obtain ⟨N, h⟩ := h; exact ⟨N, fun F n a b => h F F a a⟩
theorem Evt.diag {p : Nat → Nat → Prop} (h : Evt p) : ∃ F, p F F := by
  obtain ⟨N, h⟩ := h; exact ⟨N, h N N (Nat.le_refl _) (Nat.le_refl _)⟩
theorem Evt.all {α : Type} {p : α → Nat → Nat → Prop} : ∀ {l : List α}, (∀ a, a ∈ l → Evt (p a)) → Evt fun F n => ∀ a, a ∈ l → p a F n
  | [], _ => Evt.of fun F n a h => by cases h
  | x :: l, h => (h x (by simp)).map2 (Evt.all (l := l) fun a ha => h a (List.mem_cons_of_mem _ ha)) fun F n h1 h2 a ha => by
      rcases List.mem_cons.1 ha with rfl | ha
      · exact h1
      · exact h2 a ha

theorem dlt {i n : Nat} {inst : Decidable ((i : Int) < (n : Int))} (h : i < n) : @decide ((i : Int) < (n : Int)) inst = true := decide_eq_true (by omega)
theorem dltn {n : Nat} {inst : Decidable ((n : Int) < (n : Int))} : @decide ((n : Int) < (n : Int)) inst = false := decide_eq_false (by omega)
theorem dnn {i : Nat} {inst : Decidable (0 ≤ (i : Int))} : @decide (0 ≤ (i : Int)) inst = true := decide_eq_true (by omega)
theorem gd {α : Type} {l : List α} {i : Nat} {d : α} (h : i < l.length) : l.getD i d = l[i] := by simp [List.getD, h]
theorem rq_tt {R : Type} (k : Option R) : rq true k = k := rfl
theorem rq_true {R : Type} {c : Bool} {k : Option R} (h : c = true) : rq c k = k := by subst h; rfl

end Go.RT
