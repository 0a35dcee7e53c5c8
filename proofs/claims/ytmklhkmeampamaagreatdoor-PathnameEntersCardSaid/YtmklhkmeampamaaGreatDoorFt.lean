/-
  Files: valid lists as trees (what Pathname needs of it).
-/
import Derived.Test.YtmklhkmeampamaaGreatDoorFd
namespace Go.Proofs.YtmklhkmeampamaaGreatDoor
open Go.RT
set_option linter.all false
def tailP (n : List (List UInt8)) : List UInt8 := n.flatMap fun c => 47 :: c
theorem tailP_app (a b : List (List UInt8)) : tailP (a ++ b) = tailP a ++ tailP b := by simp [tailP]
theorem tailP_join : ∀ (n : List (List UInt8)), n ≠ [] → tailP n = 47 :: joinR n
  | [], h => absurd rfl h
  | [x], _ => by simp [tailP, joinR]
  | x :: y :: l, _ => by
    have ih := tailP_join (y :: l) (by simp)
    rw [show tailP (x :: y :: l) = (47 :: x) ++ tailP (y :: l) from rfl, ih, joinR]
    simp
theorem pathOf_tail {n : List (List UInt8)} (h : n ≠ []) : pathOf n = tailP n := by rw [tailP_join n h]; rfl
theorem Names.app {a b : List (List UInt8)} (ha : Names a) (hb : Names b) : Names (a ++ b) := fun c hc => by
  rcases List.mem_append.1 hc with h | h
  · exact ha c h
  · exact hb c h
theorem Names.left {a b : List (List UInt8)} (h : Names (a ++ b)) : Names a := fun c hc => h c (by simp [hc])
theorem parts_joinApp : ∀ (m : List (List UInt8)) (x : List UInt8), m ≠ [] → Names m → partsS (joinR m ++ 47 :: x) = m ++ partsS x
  | [], x, h, _ => absurd rfl h
  | [a], x, _, h => by rw [joinR, parts_app a x (name_noSl (h a (by simp)))]; rfl
  | a :: b :: m, x, _, h => by
    rw [joinR, List.append_assoc, List.cons_append, parts_app a _ (name_noSl (h a (by simp))), parts_joinApp (b :: m) x (by simp) fun c hc => h c (by simp [hc])]
    rfl
theorem path_ex {s : List UInt8} (h : pathS s = true) : ∃ n, Names n ∧ s = pathOf n ∧ (pathOf n).length ≤ 128 := by
  cases hr : (s == [47]) with
  | true => exact ⟨[], fun c hc => (by cases hc), eq_of_beq hr, by decide⟩
  | false =>
    obtain ⟨h1, h2, h3, h4⟩ := path_names h hr
    exact ⟨_, h1, h2.symm, by rw [h2]; exact h3⟩
theorem pathOf_nil_iff {n : List (List UInt8)} (h : Names n) : pathOf n = [47] ↔ n = [] := by
  have := pathOf_root h
  rw [Bool.eq_iff_iff] at this
  simpa using this
theorem above_names {m n : List (List UInt8)} (hm : Names m) (hn : Names n) : aboveS (pathOf m) (pathOf n) = true ↔ ∃ c r, n = m ++ c :: r := by
  unfold aboveS
  by_cases h0 : m = []
  · subst h0
    rw [show (pathOf [] == [47]) = true from rfl, cond_true, pathOf_root hn]
    cases n with
    | nil => simp
    | cons c r => simp
  · have e0 : (pathOf m == [47]) = false := by
      rw [pathOf_root hm]; cases m with
      | nil => exact absurd rfl h0
      | cons a b => rfl
    rw [e0, cond_false]
    simp only [Bool.and_eq_true, decide_eq_true_eq, beq_iff_eq]
    constructor
    · rintro ⟨h1, h2⟩
      have hx : pathOf n = (pathOf m ++ [47]) ++ (pathOf n).drop ((pathOf m).length + 1) := by
        rw [← h2, List.take_append_drop]
      generalize (pathOf n).drop ((pathOf m).length + 1) = x at hx
      have hj : joinR n = joinR m ++ 47 :: x := by
        simp only [pathOf, List.append_assoc, List.cons_append, List.nil_append, List.cons.injEq, true_and] at hx
        exact hx
      have hne : n ≠ [] := by
        rintro rfl
        have : ([] : List UInt8) = joinR m ++ 47 :: x := hj
        simp at this
      have := parts_join n hne fun c hc => name_noSl (hn c hc)
      rw [hj, parts_joinApp m x h0 hm] at this
      cases hp : partsS x with
      | nil => exact absurd hp (parts_ne x)
      | cons c r => exact ⟨c, r, by rw [← this, hp]⟩
    · rintro ⟨c, r, rfl⟩
      have e : pathOf (m ++ c :: r) = pathOf m ++ 47 :: (c ++ tailP r) := by
        rw [pathOf_tail (by simp), tailP_app, pathOf_tail h0]
        rfl
      rw [e]
      refine ⟨by simp, ?_⟩
      rw [show pathOf m ++ 47 :: (c ++ tailP r) = (pathOf m ++ [47]) ++ (c ++ tailP r) by simp]
      exact List.take_left' (by simp)
structure VT (l : List TFile) : Prop where
  len : l.length ≤ 128
  root : ∃ f ∈ l, f.fPath = [47]
  path : ∀ f ∈ l, pathS f.fPath = true
  dir : ∀ f ∈ l, f.fDir = true → f.fData = []
  rdir : ∀ f ∈ l, f.fPath = [47] → f.fDir = true
  data : ∀ f ∈ l, f.fData.length ≤ 8192
  asc : Asc l
  par : ∀ f ∈ l, f.fPath ≠ [47] → ∃ p ∈ l, p.fPath = parentS f.fPath ∧ p.fDir = true
theorem VT.up {l : List TFile} (h : VT l) : ∀ (r : List (List UInt8)) (m : List (List UInt8)) (c : List UInt8), Names (m ++ c :: r) → (∃ f ∈ l, f.fPath = pathOf (m ++ c :: r)) → ∃ f ∈ l, f.fPath = pathOf (m ++ [c]) := by
  intro r
  induction hn : r.length generalizing r with
  | zero =>
    intro m c _ hf
    obtain rfl : r = [] := List.eq_nil_of_length_eq_zero hn
    exact hf
  | succ k ih =>
    intro m c hN ⟨f, hf, e⟩
    have hr : r ≠ [] := by intro e; subst e; simp at hn
    have hne : f.fPath ≠ [47] := by
      rw [e]; intro e'; have := (pathOf_nil_iff hN).1 e'; simp at this
    obtain ⟨p, hp, e1, -⟩ := h.par f hf hne
    rw [e, parent_names hN] at e1
    have e2 : (m ++ c :: r).dropLast = m ++ c :: r.dropLast := by
      rw [List.dropLast_append_of_ne_nil (by simp), List.dropLast_cons_of_ne_nil hr]
    rw [e2] at e1
    exact ih r.dropLast (by simp [hn]) m c (by rw [← e2]; exact hN.dropLast) ⟨p, hp, e1⟩
/-- Whatever lies above an element is a directory of the list. -/
theorem VT.above {l : List TFile} (h : VT l) {a : List UInt8} (ha : pathS a = true) {f : TFile} (hf : f ∈ l) (hab : aboveS a f.fPath = true) : ∃ p ∈ l, p.fPath = a ∧ p.fDir = true ∧ ∃ k ∈ l, kidS a k = true := by
  obtain ⟨m, hm, rfl, -⟩ := path_ex ha
  obtain ⟨n, hn, e, -⟩ := path_ex (h.path f hf)
  rw [e] at hab
  obtain ⟨c, r, rfl⟩ := (above_names hm hn).1 hab
  obtain ⟨k, hk, ek⟩ := h.up r m c hn ⟨f, hf, e⟩
  have hN : Names (m ++ [c]) := Names.app hm fun x hx => hn x (by simp at hx; simp [hx])
  have hkne : k.fPath ≠ [47] := by
    rw [ek]; intro e'; have := (pathOf_nil_iff hN).1 e'; simp at this
  obtain ⟨p, hp, e1, e2⟩ := h.par k hk hkne
  have e3 : parentS k.fPath = pathOf m := by
    rw [ek, parent_names hN]; simp
  refine ⟨p, hp, by rw [e1, e3], e2, k, hk, ?_⟩
  unfold kidS
  rw [e3]
  simp [hkne]
theorem parent_above {p : List UInt8} (h : pathS p = true) (hr : p ≠ [47]) : aboveS (parentS p) p = true ∧ pathS (parentS p) = true := by
  obtain ⟨n, hn, rfl, hl⟩ := path_ex h
  rcases List.eq_nil_or_concat n with rfl | ⟨m, c, rfl⟩
  · exact absurd rfl hr
  · rw [List.concat_eq_append] at *
    have hm : Names m := hn.left
    have hc : nameS c = true := hn c (by simp)
    rw [parent_snoc hm hc]
    refine ⟨(above_names hm hn).2 ⟨c, [], rfl⟩, pathS_of hm ?_⟩
    have : (pathOf m).length ≤ (pathOf (m ++ [c])).length := by
      cases m with
      | nil => simp [pathOf, joinR]
      | cons a b =>
        have e : pathOf ((a :: b) ++ [c]) = pathOf (a :: b) ++ 47 :: c := by
          rw [pathOf, joinR_snoc _ _ (by simp), pathOf]; simp
        rw [e]; simp
    omega
theorem perr_zero {l : List TFile} {p : List UInt8} : perrS l p = 0 ↔ (∀ f ∈ l, aboveS f.fPath p = true → f.fDir = true) ∧ hasS l (parentS p) = true := by
  unfold perrS
  cases h1 : (l.any fun f => !f.fDir && aboveS f.fPath p) with
  | true =>
    rw [cond_true]
    refine ⟨fun h => (by cases h), fun h => ?_⟩
    obtain ⟨f, hf, e⟩ := List.any_eq_true.1 h1
    simp only [Bool.and_eq_true, Bool.not_eq_true'] at e
    have := h.1 f hf e.2
    rw [e.1] at this; cases this
  | false =>
    rw [cond_false]
    have h2 : ∀ f ∈ l, aboveS f.fPath p = true → f.fDir = true := fun f hf e => by
      have := List.any_eq_false.1 h1 f hf
      rw [e] at this
      simpa using this
    cases hasS l (parentS p) with
    | true => exact ⟨fun _ => ⟨h2, rfl⟩, fun _ => rfl⟩
    | false => exact ⟨fun h => (by cases h), fun h => by cases h.2⟩
theorem VL.tree {l : List TFile} (h : VL l) : VT l := by
  refine ⟨h.len, ⟨l.getD 0 dTFile, by rw [gd h.pos]; exact List.getElem_mem _, h.root⟩, h.path, h.dir, h.rdir, h.data, h.asc, fun f hf hne => ?_⟩
  obtain ⟨k, hk, e⟩ := List.getElem_of_mem hf
  have ek : l.getD k dTFile = f := by rw [gd hk]; exact e
  have h0 : 0 < k := by
    rcases Nat.eq_zero_or_pos k with h0 | h0
    · subst h0; rw [h.root.symm, ek] at hne; exact absurd rfl hne
    · exact h0
  have hp := perr_zero.1 (h.perr k h0 hk)
  rw [ek] at hp
  obtain ⟨g, hg, eg⟩ := (has_iff _ _).1 hp.2
  have := (parent_above (h.path f hf) hne).1
  rw [← eg] at this
  exact ⟨g, List.mem_of_mem_take hg, eg, hp.1 g hg this⟩

end Go.Proofs.YtmklhkmeampamaaGreatDoor
