/-
  Plain lemmas: the order of strings, sorted keys of a map. No program is named here.
-/
import Derived.Test.YteagcbkkonabbaaGreatDoorEv
import Derived.Test.YteagcbkkonabbaaGreatDoorRi
import Derived.Sort.Walk0
namespace Go.RT
set_option linter.all false

theorem bl_lt (a b : List UInt8) : Op.bytesLess a b = true ↔ a < b := by rw [Go.Proofs.bytesLess_eq]; simp
theorem lt_irrefl' (a : List UInt8) : ¬ a < a := List.lt_irrefl a
theorem lt_trans' {a b c : List UInt8} (h : a < b) (h' : b < c) : a < c := List.lt_trans h h'
theorem lt_tri (a b : List UInt8) : a < b ∨ a = b ∨ b < a := by
  by_cases h : a < b
  · exact .inl h
  · by_cases h' : b < a
    · exact .inr (.inr h')
    · exact .inr (.inl (List.le_antisymm (List.not_lt.1 h') (List.not_lt.1 h)))
theorem bl_not (a b : List UInt8) : Op.bytesLess a b = false ↔ ¬ a < b := by rw [← bl_lt]; simp
theorem bl_le (a b : List UInt8) : (!(Op.bytesLess a b)) = (Op.bytesLess b a || b == a) := by
  rcases lt_tri a b with h | h | h
  · have h1 := (bl_lt a b).2 h
    have h2 : Op.bytesLess b a = false := (bl_not _ _).2 fun h' => lt_irrefl' _ (lt_trans' h h')
    have h3 : (b == a) = false := by simp; rintro rfl; exact lt_irrefl' _ h
    simp [h1, h2, h3]
  · subst h
    have h1 : Op.bytesLess a a = false := (bl_not _ _).2 (lt_irrefl' _)
    simp [h1]
  · have h1 := (bl_lt b a).2 h
    have h2 : Op.bytesLess a b = false := (bl_not _ _).2 fun h' => lt_irrefl' _ (lt_trans' h h')
    simp [h1, h2]
theorem sortK_perm (l : List (List UInt8)) : (sortK l).Perm l := sortK_perm0 l
theorem sortK_srt {l : List (List UInt8)} (h : l.Nodup) : (sortK l).Pairwise (· < ·) := by
  have tr : ∀ a b c : List UInt8, (decide (a ≤ b)) = true → (decide (b ≤ c)) = true → (decide (a ≤ c)) = true := fun a b c h1 h2 => by simp only [decide_eq_true_eq] at *; exact List.le_trans h1 h2
  have to : ∀ a b : List UInt8, ((decide (a ≤ b)) || (decide (b ≤ a))) = true := fun a b => by simp only [Bool.or_eq_true, decide_eq_true_eq]; exact List.le_total a b
  have h1 : (sortK l).Pairwise (fun a b => decide (a ≤ b) = true) := sortK_asc0 l
  have h2 : (sortK l).Nodup := (sortK_perm l).nodup_iff.2 h
  refine (h1.and h2).imp fun {a b} hab => ?_
  obtain ⟨h3, h4⟩ := hab
  have h5 : a ≤ b := of_decide_eq_true h3
  rcases lt_tri a b with h | h | h
  · exact h
  · exact absurd h h4
  · exact absurd h (List.not_lt.2 h5)

/-- Two lists, ascending by a key, with the same members are the same. -/
theorem asc_ext {α : Type} {f : α → List UInt8} : ∀ {a b : List α}, a.Pairwise (fun x y => f x < f y) → b.Pairwise (fun x y => f x < f y) → (∀ x, x ∈ a ↔ x ∈ b) → a = b
  | [], [], _, _, _ => rfl
  | [], y :: b, _, _, h => by have := (h y).2 (by simp); cases this
  | x :: a, [], _, _, h => by have := (h x).1 (by simp); cases this
  | x :: a, y :: b, ha, hb, h => by
    rw [List.pairwise_cons] at ha hb
    have hxy : x = y := by
      have h1 := (h x).1 (by simp)
      have h2 := (h y).2 (by simp)
      rcases List.mem_cons.1 h1 with h1 | h1
      · exact h1
      · rcases List.mem_cons.1 h2 with h2 | h2
        · exact h2.symm
        · exact absurd (lt_trans' (ha.1 y h2) (hb.1 x h1)) (lt_irrefl' _)
    subst hxy
    rw [asc_ext ha.2 hb.2 fun z => ?_]
    constructor
    · intro hz
      rcases List.mem_cons.1 ((h z).1 (List.mem_cons_of_mem _ hz)) with e | e
      · subst e; exact absurd (ha.1 z hz) (lt_irrefl' _)
      · exact e
    · intro hz
      rcases List.mem_cons.1 ((h z).2 (List.mem_cons_of_mem _ hz)) with e | e
      · subst e; exact absurd (hb.1 z hz) (lt_irrefl' _)
      · exact e

theorem mset_keys_iff {α β : Type} [BEq α] [LawfulBEq α] (m : List (α × β)) (k : α) (v : β) (x : α) : x ∈ (mset keq m k v).map (·.1) ↔ x = k ∨ x ∈ m.map (·.1) := by
  unfold mset keq
  cases h : m.any (fun p => p.1 == k) with
  | true =>
    simp only [cond_true, List.map_map]
    have e : ((fun x : α × β => x.1) ∘ fun p : α × β => bif p.1 == k then (k, v) else p) = fun p => p.1 := by
      funext p
      simp only [Function.comp]
      cases hp : (p.1 == k)
      · rfl
      · exact (eq_of_beq hp).symm
    rw [e]
    constructor
    · exact .inr
    · rintro (rfl | h')
      · obtain ⟨p, hp, hk⟩ := List.any_eq_true.1 h
        exact List.mem_map.2 ⟨p, hp, eq_of_beq hk⟩
      · exact h'
  | false =>
    simp only [cond_false, List.map_append, List.mem_append, List.map_cons, List.map_nil, List.mem_singleton]
    exact Or.comm
theorem mset_nodup {α β : Type} [BEq α] [LawfulBEq α] {m : List (α × β)} (hm : (m.map (·.1)).Nodup) (k : α) (v : β) : ((mset keq m k v).map (·.1)).Nodup := by
  unfold mset keq
  cases h : m.any (fun p => p.1 == k) with
  | true =>
    simp only [cond_true, List.map_map]
    have e : ((fun x : α × β => x.1) ∘ fun p : α × β => bif p.1 == k then (k, v) else p) = fun p => p.1 := by
      funext p
      simp only [Function.comp]
      cases hp : (p.1 == k)
      · rfl
      · exact (eq_of_beq hp).symm
    rw [e]
    exact hm
  | false =>
    simp only [cond_false, List.map_append, List.map_cons, List.map_nil]
    rw [List.nodup_append]
    refine ⟨hm, by simp, ?_⟩
    intro a ha b hb e
    simp only [List.mem_singleton] at hb
    subst hb
    subst e
    obtain ⟨p, hp, rfl⟩ := List.mem_map.1 ha
    have : m.any (fun q => q.1 == p.1) = true := List.any_eq_true.2 ⟨p, hp, by simp⟩
    rw [h] at this
    cases this
theorem mset_len {α β : Type} [BEq α] (m : List (α × β)) (k : α) (v : β) : (mset keq m k v).length ≤ m.length + 1 := by
  unfold mset
  cases m.any (fun p => keq p.1 k) <;> simp
theorem mset_mem {α β : Type} [BEq α] {m : List (α × β)} {k : α} {v : β} {p : α × β} (h : p ∈ mset keq m k v) : p = (k, v) ∨ p ∈ m := by
  unfold mset at h
  cases hh : m.any (fun p => keq p.1 k) with
  | true =>
    rw [hh] at h
    simp only [cond_true, List.mem_map] at h
    obtain ⟨q, hq, e⟩ := h
    cases hk : keq q.1 k <;> rw [hk] at e
    · exact .inr (e ▸ hq)
    · exact .inl e.symm
  | false =>
    rw [hh] at h
    simp only [cond_false, List.mem_append, List.mem_singleton] at h
    exact h.symm
theorem mget_mem {α β : Type} [BEq α] [LawfulBEq α] (m : List (α × β)) (k : α) (z : β) : (∃ p, p ∈ m ∧ p.1 = k ∧ p.2 = mget keq m k z) ∨ (k ∉ m.map (·.1) ∧ mget keq m k z = z) := by
  unfold mget keq
  cases h : m.find? (fun p => p.1 == k) with
  | some p =>
    have h2 := List.find?_some h
    exact .inl ⟨p, List.mem_of_find?_eq_some h, eq_of_beq h2, rfl⟩
  | none =>
    refine .inr ⟨fun hk => ?_, rfl⟩
    obtain ⟨p, hp, rfl⟩ := List.mem_map.1 hk
    exact absurd (beq_self_eq_true p.1) (by simpa using List.find?_eq_none.1 h p hp)
end Go.RT
