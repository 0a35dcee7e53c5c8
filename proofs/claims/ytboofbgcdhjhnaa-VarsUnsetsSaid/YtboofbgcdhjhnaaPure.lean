/-
  Plain lemmas for the printed models: numbers that do not wrap, loops that count. No program is named here.
-/
import Derived.Test.YtboofbgcdhjhnaaAl22
import Derived.IntWalk
import Derived.Sort.Walk0
namespace Go.AL
set_option linter.unusedVariables false

theorem w64 {x : Int} (h : -9223372036854775808 ≤ x ∧ x ≤ 9223372036854775807) : IntKind.i64.wrap x = x := IntWalk.i64_in _ (by omega)

/-- The first index at which something is found. -/
def scan {β : Type} (step : Nat → Option β) : Nat → Nat → Option β
  | 0, _ => none
  | k + 1, i => match step i with | some b => some b | none => scan step k (i + 1)

/-- A loop that looks for something. -/
theorem scan_loop {β : Type} (f : Nat → Int → Option (J Unit β)) (len : Nat) (step : Nat → Option β)
    (hs : ∀ n i, i < len → f (n + 1) (i : Int) = match step i with | some b => some (.ret b) | none => f n ((i + 1 : Nat) : Int)) (he : ∀ n, f (n + 1) (len : Int) = some (.go ())) :
    ∀ n i, i ≤ len → len - i < n → f n (i : Int) = some (match scan step (len - i) i with | some b => .ret b | none => .go ()) := by
  intro n
  induction n with
  | zero => intro i _ h; omega
  | succ n ih =>
    intro i hi hn
    by_cases hl : i < len
    · rw [hs n i hl]
      obtain ⟨k, hk⟩ : ∃ k, len - i = k + 1 := ⟨len - i - 1, by omega⟩
      rw [hk]
      simp only [scan]
      cases hst : step i with
      | some b => simp
      | none =>
        simp only
        rw [ih (i + 1) hl (by omega), show len - (i + 1) = k by omega]
    · have : i = len := by omega
      subst this
      rw [he n, Nat.sub_self]
      simp [scan]

theorem scan_none {β : Type} {step : Nat → Option β} : ∀ {k i : Nat}, scan step k i = none ↔ ∀ j, i ≤ j → j < i + k → step j = none
  | 0, i => by simp [scan]; intro j h1 h2; omega
  | k + 1, i => by
    unfold scan
    constructor
    · intro h j h1 h2
      cases hs : step i with
      | some b => rw [hs] at h; cases h
      | none =>
        rw [hs] at h
        rcases Nat.eq_or_lt_of_le h1 with rfl | h1
        · exact hs
        · exact scan_none.1 h j (by omega) (by omega)
    · intro h
      rw [h i (Nat.le_refl _) (by omega)]
      exact scan_none.2 fun j h1 h2 => h j (by omega) (by omega)
theorem scan_some {β : Type} {step : Nat → Option β} {b : β} : ∀ {k i : Nat}, scan step k i = some b → ∃ j, i ≤ j ∧ j < i + k ∧ step j = some b ∧ ∀ q, i ≤ q → q < j → step q = none
  | 0, i, h => by simp [scan] at h
  | k + 1, i, h => by
    unfold scan at h
    cases hs : step i with
    | some b' =>
      rw [hs] at h
      cases h
      exact ⟨i, Nat.le_refl _, by omega, hs, fun q h1 h2 => by omega⟩
    | none =>
      rw [hs] at h
      obtain ⟨j, h1, h2, h3, h4⟩ := scan_some (k := k) (i := i + 1) h
      refine ⟨j, by omega, by omega, h3, fun q h5 h6 => ?_⟩
      rcases Nat.eq_or_lt_of_le h5 with rfl | h5
      · exact hs
      · exact h4 q (by omega) h6
theorem scan_congr {β : Type} {step step' : Nat → Option β} : ∀ {k i : Nat}, (∀ j, i ≤ j → j < i + k → step j = step' j) → scan step k i = scan step' k i
  | 0, i, _ => rfl
  | k + 1, i, h => by
    unfold scan
    rw [h i (Nat.le_refl _) (by omega), scan_congr (k := k) (i := i + 1) fun j h1 h2 => h j (by omega) (by omega)]
theorem scan_list {α β : Type} [Inhabited α] (g : α → Option β) (l : List α) : ∀ k i, i + k = l.length → scan (fun i => g (l.getD i default)) k i = (l.drop i).findSome? g
  | 0, i, h => by
    rw [List.drop_of_length_le (by omega)]; rfl
  | k + 1, i, h => by
    have hi : i < l.length := by omega
    unfold scan
    rw [List.drop_eq_getElem_cons hi, List.findSome?_cons]
    have hg : l.getD i default = l[i] := by simp [List.getD, hi]
    simp only [hg]
    cases g l[i] with
    | some b => rfl
    | none => simp only; exact scan_list g l k (i + 1) (by omega)

/-- What a loop over indexes gathers. -/
def iter {σ : Type} (g : Nat → σ → σ) : Nat → Nat → σ → σ
  | 0, _, s => s
  | k + 1, i, s => iter g k (i + 1) (g i s)

/-- A loop that gathers. -/
theorem iter_loop {σ ρ : Type} (f : Nat → σ → Int → Option ρ) (len : Nat) (g : Nat → σ → σ) (Inv : Nat → σ → Prop) (out : σ → ρ)
    (hs : ∀ n i s, i < len → Inv i s → f (n + 1) s (i : Int) = f n (g i s) ((i + 1 : Nat) : Int) ∧ Inv (i + 1) (g i s)) (he : ∀ n s, Inv len s → f (n + 1) s (len : Int) = some (out s)) :
    ∀ n i s, i ≤ len → len - i < n → Inv i s → f n s (i : Int) = some (out (iter g (len - i) i s)) ∧ Inv len (iter g (len - i) i s) := by
  intro n
  induction n with
  | zero => intro i s _ h; omega
  | succ n ih =>
    intro i s hi hn hI
    by_cases hl : i < len
    · obtain ⟨h1, h2⟩ := hs n i s hl hI
      obtain ⟨k, hk⟩ : ∃ k, len - i = k + 1 := ⟨len - i - 1, by omega⟩
      have := ih (i + 1) (g i s) hl (by omega) h2
      rw [show len - (i + 1) = k by omega] at this
      rw [h1, hk]
      exact this
    · have : i = len := by omega
      subst this
      rw [he n s hI, Nat.sub_self]
      exact ⟨rfl, hI⟩
theorem iter_list {α σ : Type} [Inhabited α] (g : α → σ → σ) (l : List α) : ∀ k i s, i + k = l.length → iter (fun i => g (l.getD i default)) k i s = (l.drop i).foldl (fun s x => g x s) s
  | 0, i, s, h => by rw [List.drop_of_length_le (by omega)]; rfl
  | k + 1, i, s, h => by
    have hi : i < l.length := by omega
    unfold iter
    rw [List.drop_eq_getElem_cons hi, List.foldl_cons]
    have hg : l.getD i default = l[i] := by simp [List.getD, hi]
    rw [hg]
    exact iter_list g l k (i + 1) _ (by omega)

theorem toNat_cast (i : Nat) : ((i : Int)).toNat = i := by omega

/-! ### the order of strings -/
theorem bl_lt (a b : List UInt8) : Op.bytesLess a b = true ↔ a < b := by rw [Go.Proofs.bytesLess_eq]; simp
theorem lt_irrefl' (a : List UInt8) : ¬ a < a := List.lt_irrefl a
theorem lt_trans' {a b c : List UInt8} (h : a < b) (h' : b < c) : a < c := List.lt_trans h h'
theorem lt_tri (a b : List UInt8) : a < b ∨ a = b ∨ b < a := by
  by_cases h : a < b
  · exact .inl h
  · by_cases h' : b < a
    · exact .inr (.inr h')
    · exact .inr (.inl (List.le_antisymm (List.not_lt.1 h') (List.not_lt.1 h)))
theorem bl_not (a b : List UInt8) : Op.bytesLess a b = false ↔ ¬ a < b := by rw [← bl_lt]; simp
theorem bl_le (a b : List UInt8) : (!(Op.bytesLess a b)) = (Op.bytesLess b a || b == a) := by
  rcases lt_tri a b with h | h | h
  · have h1 := (bl_lt a b).2 h
    have h2 : Op.bytesLess b a = false := (bl_not _ _).2 fun h' => lt_irrefl' _ (lt_trans' h h')
    have h3 : (b == a) = false := by simp; rintro rfl; exact lt_irrefl' _ h
    simp [h1, h2, h3]
  · subst h
    have h1 : Op.bytesLess a a = false := (bl_not _ _).2 (lt_irrefl' _)
    simp [h1]
  · have h1 := (bl_lt b a).2 h
    have h2 : Op.bytesLess a b = false := (bl_not _ _).2 fun h' => lt_irrefl' _ (lt_trans' h h')
    simp [h1, h2]

end Go.AL
