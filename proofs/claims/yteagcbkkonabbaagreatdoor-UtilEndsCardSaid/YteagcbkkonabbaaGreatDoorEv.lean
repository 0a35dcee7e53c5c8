import Derived.Test.YteagcbkkonabbaaGreatDoorPu
namespace Go.RT
set_option linter.unusedVariables false
set_option linter.unusedSimpArgs false
set_option linter.all false
theorem loopF_seq_from {σ R : Type} {body : (σ → Option R) → σ → Option R} {z : Option R} (st : Nat → σ) {n : Nat} (hs : ∀ (i : Nat) rc, i < n → body rc (st i) = rc (st (i + 1))) (he : ∀ rc, body rc (st n) = z) :
    ∀ (k i F : Nat), i + k = n → k < F → loopF body F (st i) = z
  | 0, i, F, h, hF => by
    cases F with
    | zero => omega
    | succ F =>
      obtain rfl : i = n := by omega
      exact he _
  | k + 1, i, F, h, hF => by
    cases F with
    | zero => omega
    | succ F =>
      show body (loopF body F) (st i) = z
      rw [hs i _ (by omega)]
      exact loopF_seq_from st hs he k (i + 1) F (by omega) (by omega)
theorem loopF_seq {σ R : Type} {body : (σ → Option R) → σ → Option R} {z : Option R} {s : σ} {F : Nat} (st : Nat → σ) (n : Nat) (hF : n < F) (h0 : s = st 0) (hs : ∀ (i : Nat) rc, i < n → body rc (st i) = rc (st (i + 1))) (he : ∀ rc, body rc (st n) = z) :
    loopF body F s = z := by
  rw [h0]; exact loopF_seq_from st hs he n 0 F (by omega) hF
def Evt (p : Nat → Nat → Prop) : Prop := ∃ N, ∀ F n, N ≤ F → N ≤ n → p F n
theorem Evt.of {p : Nat → Nat → Prop} (h : ∀ F n, p F n) : Evt p := ⟨0, fun F n _ _ => h F n⟩
theorem Evt.mono {p q : Nat → Nat → Prop} (h : Evt p) (f : ∀ F n, p F n → q F n) : Evt q := by
  obtain ⟨N, h⟩ := h; exact ⟨N, fun F n a b => f F n (h F n a b)⟩
theorem Evt.and {p q : Nat → Nat → Prop} (h : Evt p) (g : Evt q) : Evt fun F n => p F n ∧ q F n := by
  obtain ⟨N, h⟩ := h; obtain ⟨M, g⟩ := g
  exact ⟨N + M, fun F n a b => ⟨h F n (by omega) (by omega), g F n (by omega) (by omega)⟩⟩
theorem Evt.map2 {p q r : Nat → Nat → Prop} (h : Evt p) (g : Evt q) (f : ∀ F n, p F n → q F n → r F n) : Evt r :=
  (h.and g).mono fun F n x => f F n x.1 x.2
theorem Evt.succ {p : Nat → Nat → Prop} (h : Evt fun F n => p F (n + 1)) : Evt p := by
  obtain ⟨N, h⟩ := h
  refine ⟨N + 1, fun F n a b => ?_⟩
  cases n with
  | zero => omega
  | succ n => exact h F n (by omega) (by omega)
theorem Evt.all {α : Type} {p : α → Nat → Nat → Prop} : ∀ {l : List α}, (∀ a, a ∈ l → Evt (p a)) → Evt fun F n => ∀ a, a ∈ l → p a F n
  | [], _ => Evt.of fun F n a h => by cases h
  | x :: l, h => (h x (by simp)).map2 (Evt.all (l := l) fun a ha => h a (List.mem_cons_of_mem _ ha)) fun F n h1 h2 a ha => by
      rcases List.mem_cons.1 ha with rfl | ha
      · exact h1
      · exact h2 a ha
theorem gd {α : Type} {l : List α} {i : Nat} {d : α} (h : i < l.length) : l.getD i d = l[i] := by simp [List.getD, h]
theorem rq_true {R : Type} {c : Bool} {k : Option R} (h : c = true) : rq c k = k := by subst h; rfl
end Go.RT
