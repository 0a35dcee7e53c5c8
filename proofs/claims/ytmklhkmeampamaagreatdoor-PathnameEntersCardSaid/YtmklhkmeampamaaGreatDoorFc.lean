/-
  Files, plain part 3: Clean.
-/
import Derived.Test.YtmklhkmeampamaaGreatDoorFb
import Derived.Lib.Join
namespace Go.Proofs.YtmklhkmeampamaaGreatDoor
open Go.RT
set_option linter.all false

/-! ### Names joined -/
def joinR : List (List UInt8) → List UInt8
  | [] => []
  | [x] => x
  | x :: y :: l => x ++ 47 :: joinR (y :: l)
theorem join_eq : ∀ (l : List (List UInt8)), Lib.join l [47] = joinR l
  | [] => rfl
  | [x] => by simp [Lib.join, List.intercalate, joinR]
  | x :: y :: l => by
    have ih := join_eq (y :: l)
    simp only [Lib.join, List.intercalate] at ih ⊢
    rw [joinR, ← ih]
    simp
theorem joinR_cons (x : List UInt8) {l : List (List UInt8)} (h : l ≠ []) : joinR (x :: l) = x ++ 47 :: joinR l := by
  cases l with
  | nil => exact absurd rfl h
  | cons y l => rfl
theorem joinR_snoc : ∀ (l : List (List UInt8)) (c : List UInt8), l ≠ [] → joinR (l ++ [c]) = joinR l ++ 47 :: c
  | [], c, h => absurd rfl h
  | [x], c, _ => rfl
  | x :: y :: l, c, _ => by
    have ih := joinR_snoc (y :: l) c (by simp)
    rw [List.cons_append, joinR_cons x (by simp), ih, joinR]
    simp
theorem join_parts : ∀ (s : List UInt8), joinR (partsS s) = s
  | [] => rfl
  | b :: l => by
    have ih := join_parts l
    rw [partsS]
    cases hb : (b == 47) with
    | true =>
      rw [cond_true, joinR_cons _ (parts_ne l), ih]
      rw [eq_of_beq hb]; rfl
    | false =>
      rw [cond_false]
      cases hp : partsS l with
      | nil => exact absurd hp (parts_ne l)
      | cons p ps =>
        dsimp only
        rw [hp] at ih
        cases ps with
        | nil => rw [joinR] at ih ⊢; rw [ih]
        | cons q qs => rw [joinR] at ih ⊢; rw [List.cons_append, ih]
def noSl (c : List UInt8) : Prop := ∀ b ∈ c, b ≠ 47
theorem parts_noSl : ∀ (c : List UInt8), noSl c → partsS c = [c]
  | [], _ => rfl
  | b :: c, h => by
    have hb : (b == 47) = false := by simpa using h b (by simp)
    rw [partsS, hb, cond_false, parts_noSl c fun x hx => h x (by simp [hx])]
theorem parts_app : ∀ (c r : List UInt8), noSl c → partsS (c ++ 47 :: r) = c :: partsS r
  | [], r, _ => by rw [List.nil_append, partsS]; rfl
  | b :: c, r, h => by
    have hb : (b == 47) = false := by simpa using h b (by simp)
    rw [List.cons_append, partsS, hb, cond_false, parts_app c r fun x hx => h x (by simp [hx])]
theorem parts_join : ∀ (l : List (List UInt8)), l ≠ [] → (∀ c ∈ l, noSl c) → partsS (joinR l) = l
  | [], h, _ => absurd rfl h
  | [x], _, h => parts_noSl x (h x (by simp))
  | x :: y :: l, _, h => by
    rw [joinR, parts_app x _ (h x (by simp)), parts_join (y :: l) (by simp) fun c hc => h c (by simp [hc])]
theorem name_noSl {c : List UInt8} (h : nameS c = true) : noSl c := by
  intro b hb e
  unfold nameS at h
  simp only [Bool.and_eq_true, Bool.not_eq_true'] at h
  have := List.any_eq_false.1 h.2.2.2 b hb
  subst e
  exact this rfl
theorem name_len {c : List UInt8} (h : nameS c = true) : 1 ≤ c.length ∧ c.length ≤ 32 := by
  unfold nameS at h
  simp only [Bool.and_eq_true, decide_eq_true_eq] at h
  exact h.1
theorem name_dots {c : List UInt8} (h : nameS c = true) : (c == []) = false ∧ (c == [46]) = false ∧ (c == [46, 46]) = false := by
  have h1 := name_len h
  unfold nameS at h
  simp only [Bool.and_eq_true, Bool.not_eq_true'] at h
  refine ⟨?_, h.2.1, h.2.2.1⟩
  cases c with
  | nil => simp at h1
  | cons b c => rfl
theorem join_le : ∀ (l : List (List UInt8)), (∀ c ∈ l, nameS c = true) → (joinR l).length ≤ 33 * l.length
  | [], _ => by simp [joinR]
  | [x], h => by
    have := name_len (h x (by simp))
    simp [joinR]; omega
  | x :: y :: l, h => by
    have h1 := name_len (h x (by simp))
    have h2 := join_le (y :: l) fun c hc => h c (by simp [hc])
    rw [joinR]
    simp at h2 ⊢
    omega
def pathOf (l : List (List UInt8)) : List UInt8 := [47] ++ joinR l
def Names (l : List (List UInt8)) : Prop := ∀ c ∈ l, nameS c = true
theorem Names.snoc {l : List (List UInt8)} (h : Names l) {c : List UInt8} (hc : nameS c = true) : Names (l ++ [c]) := by
  intro x hx
  rcases List.mem_append.1 hx with hx | hx
  · exact h x hx
  · simp only [List.mem_singleton] at hx; subst hx; exact hc
theorem Names.dropLast {l : List (List UInt8)} (h : Names l) : Names l.dropLast := fun c hc => h c (List.dropLast_subset l hc)
theorem join_ne {l : List (List UInt8)} (h : Names l) (hl : l ≠ []) : joinR l ≠ [] := by
  match l, hl with
  | [x], _ =>
    have := name_len (h x (by simp))
    intro e; rw [joinR] at e; rw [e] at this; simp at this
  | x :: y :: l, _ => intro e; rw [joinR] at e; simp at e
theorem pathOf_root {l : List (List UInt8)} (h : Names l) : (pathOf l == [47]) = (l == []) := by
  cases l with
  | nil => rfl
  | cons x l =>
    have := join_ne h (by simp)
    rw [show ((x :: l) == []) = false from rfl]
    simp only [pathOf, List.cons_append, List.nil_append, beq_eq_false_iff_ne, ne_eq, List.cons.injEq, true_and]
    exact this
theorem pathOf_snoc {l : List (List UInt8)} (h : Names l) (c : List UInt8) : pathOf (l ++ [c]) = (cond (pathOf l == [47]) [] (pathOf l) ++ [47]) ++ c := by
  rw [pathOf_root h]
  cases l with
  | nil => rfl
  | cons x l =>
    rw [show ((x :: l) == []) = false from rfl, cond_false, pathOf, joinR_snoc _ _ (by simp), pathOf]
    simp
theorem cut_of_app (a c : List UInt8) (hc : noSl c) : cutS (a ++ 47 :: c) = a.length := by
  refine cut_unique _ _ (.inl ⟨by simp, by simp [List.getD]⟩) fun j hj hl => ?_
  have e : (a ++ 47 :: c).getD j 0 = c.getD (j - a.length - 1) 0 := by
    rw [List.getD, List.getElem?_append_right (by omega), show j - a.length = (j - a.length - 1) + 1 by omega, List.getElem?_cons_succ]
    rfl
  simp at hl
  rw [e, gd (by omega)]
  exact hc _ (List.getElem_mem _)
theorem parent_snoc {l : List (List UInt8)} (h : Names l) {c : List UInt8} (hc : nameS c = true) : parentS (pathOf (l ++ [c])) = pathOf l := by
  have h47 := name_noSl hc
  cases l with
  | nil =>
    have : cutS (pathOf ([] ++ [c])) = 0 := cut_of_app [] c h47
    unfold parentS
    rw [this]
    rfl
  | cons x l =>
    have e : pathOf ((x :: l) ++ [c]) = pathOf (x :: l) ++ 47 :: c := by
      rw [pathOf, joinR_snoc _ _ (by simp), pathOf]; simp
    have : cutS (pathOf ((x :: l) ++ [c])) = (pathOf (x :: l)).length := by rw [e]; exact cut_of_app _ c h47
    unfold parentS
    rw [this]
    have h0 : ((pathOf (x :: l)).length == 0) = false := by simp [pathOf]
    rw [h0, cond_false, e]
    simp
theorem parent_names {l : List (List UInt8)} (h : Names l) : parentS (pathOf l) = pathOf l.dropLast := by
  rcases List.eq_nil_or_concat l with rfl | ⟨l', c, rfl⟩
  · rfl
  · rw [List.concat_eq_append] at h ⊢
    have hc : nameS c = true := h c (by simp)
    have hl : Names l' := fun x hx => h x (by simp [hx])
    rw [parent_snoc hl hc]
    simp

theorem path_names {s : List UInt8} (h : pathS s = true) (hr : (s == [47]) = false) : Names (partsS (s.drop 1)) ∧ pathOf (partsS (s.drop 1)) = s ∧ s.length ≤ 128 ∧ partsS (s.drop 1) ≠ [] := by
  unfold pathS at h
  rw [hr, Bool.false_or] at h
  simp only [Bool.and_eq_true, decide_eq_true_eq, List.all_eq_true] at h
  obtain ⟨⟨h1, h2⟩, h3, h4⟩ := h
  refine ⟨h4, ?_, h2, parts_ne _⟩
  rw [pathOf, join_parts]
  cases s with
  | nil => simp at h1
  | cons b s =>
    have : b = 47 := by simpa using h3
    subst this
    rfl
theorem pathS_of {l : List (List UInt8)} (h : Names l) (hl : (pathOf l).length ≤ 128) : pathS (pathOf l) = true := by
  unfold pathS
  cases l with
  | nil => rfl
  | cons x l =>
    have hne := join_ne h (by simp)
    have hp := parts_join (x :: l) (by simp) fun c hc => name_noSl (h c hc)
    have hlen : 1 ≤ (joinR (x :: l)).length := by
      cases hj : joinR (x :: l) with
      | nil => exact absurd hj hne
      | cons a b => simp
    have e1 : (pathOf (x :: l)).drop 1 = joinR (x :: l) := rfl
    have e2 : (pathOf (x :: l)).getD 0 0 = 47 := rfl
    have e3 : 2 ≤ (pathOf (x :: l)).length := by simp [pathOf]; omega
    rw [e1, hp, e2, dT e3, dT hl]
    have : (x :: l).all nameS = true := List.all_eq_true.2 h
    rw [this]
    simp

/-! ### Clean -/
def clS : List (List UInt8) → List (List UInt8) → Option (List (List UInt8))
  | [], n => some n
  | c :: cs, n => cond (c == [] || c == [46]) (clS cs n) (cond (c == [46, 46]) (clS cs n.dropLast) (cond (nameS c) (clS cs (n ++ [c])) none))
def clF : Option (List (List UInt8)) → List UInt8 × Int
  | none => ([], 10)
  | some n => cond (decide (128 < (pathOf n).length)) ([], 3) (pathOf n, 0)
def startS (cwd path : List UInt8) : List (List UInt8) := cond (!(path.getD 0 0 == 47) && !(cwd == [47])) (partsS (cwd.drop 1)) []
def cleanS (cwd path : List UInt8) : List UInt8 × Int := cond (!pathS cwd) ([], 10) (cond (path == []) ([], 8) (clF (clS (partsS path) (startS cwd path))))
theorem start_names {cwd path : List UInt8} (h : pathS cwd = true) : Names (startS cwd path) ∧ (startS cwd path).length ≤ 200 := by
  unfold startS
  cases hr : (cwd == [47]) with
  | true => rw [Bool.not_true, Bool.and_false]; exact ⟨fun c hc => (by cases hc), by simp⟩
  | false =>
    obtain ⟨h1, h2, h3, -⟩ := path_names h hr
    have := parts_len (cwd.drop 1)
    simp only [List.length_drop] at this
    cases (path.getD 0 0 == 47)
    · exact ⟨h1, by show (partsS (cwd.drop 1)).length ≤ 200; omega⟩
    · exact ⟨fun c hc => (by cases hc), by simp⟩
theorem dropLast_take (n : List (List UInt8)) (h : n.length < 1000000000) : n.take (Int.toNat (cond (decide (w64 ((n.length : Int) - 1) < 0)) 0 (w64 ((n.length : Int) - 1)))) = n.dropLast := by
  rw [List.dropLast_eq_take]
  congr 1
  by_cases h0 : n.length = 0
  · rw [h0]; rfl
  · rw [w64p (by omega) (by omega), cf (by omega), Int.toNat_natCast]
theorem dropLast_rq (n : List (List UInt8)) (h : n.length < 1000000000) : (decide (0 ≤ cond (decide (w64 ((n.length : Int) - 1) < 0)) 0 (w64 ((n.length : Int) - 1))) && (decide (cond (decide (w64 ((n.length : Int) - 1) < 0)) 0 (w64 ((n.length : Int) - 1)) ≤ (n.length : Int)))) = true := by
  by_cases h0 : n.length = 0
  · rw [h0]; rfl
  · rw [w64p (by omega) (by omega), cf (by omega), dT (by omega), dT (by omega)]; rfl
theorem clean_eq (F : Nat) (cwd path : List UInt8) (hF : 1000 ≤ F) (hp : path.length ≤ 600) : files_Clean F cwd path = some (cleanS cwd path) := by
  unfold files_Clean cleanS
  rw [path_eq F cwd (by omega), Option.bind_some]
  cases hc : pathS cwd with
  | false => rfl
  | true =>
    rw [Bool.not_true, cond_false, cond_false]
    cases hpe : (path == []) with
    | true => rfl
    | false =>
      have hpl : 0 < path.length := by
        cases path with
        | nil => cases hpe
        | cons b l => simp
      obtain ⟨hn, hnl⟩ := start_names (path := path) hc
      have hcl : 1 ≤ cwd.length ∧ cwd.length ≤ 128 := by
        cases hr : (cwd == [47]) with
        | true => rw [eq_of_beq hr]; exact ⟨by decide, by decide⟩
        | false =>
          obtain ⟨h1, h2, h3, h4⟩ := path_names hc hr
          refine ⟨?_, h3⟩
          rw [← h2]; simp [pathOf]
      rw [cond_false, cond_false, rq1 (by omega), rq2 (by omega) (by omega), sl_one, split_eq F _ (by simp; omega), split_eq F _ (by omega), u8litn _ 47 (by omega)]
      simp only [Option.bind_some, cond_som, cF]
      show loopF _ F (0, startS cwd path) = _
      have hpl2 := parts_len path
      refine loopF_hoare (fun x => ∃ k : Nat, x.1 = (k : Int) ∧ k ≤ (partsS path).length ∧ x.2.length ≤ 200 + k ∧ Names x.2 ∧ clS ((partsS path).drop k) x.2 = clS (partsS path) (startS cwd path)) (fun x => (partsS path).length - x.1.toNat) ?_ F _ ⟨0, rfl, by omega, by omega, hn, by simp⟩ (by simp; omega)
      rintro ⟨ii, ns⟩ ⟨k, h0, h1, h2, h3, h4⟩
      dsimp only at h0 h2 h3 h4 ⊢
      subst h0
      by_cases hk : k < (partsS path).length
      · have hg : (partsS path).getD k [] = (partsS path)[k] := gd hk
        rw [List.drop_eq_getElem_cons hk] at h4
        simp only [ct (show (k : Int) < ((partsS path).length : Int) by omega), rq2 (show 0 ≤ (k : Int) by omega) (show (k : Int) < ((partsS path).length : Int) by omega), Int.toNat_natCast, hg, cond_som, Option.bind_some]
        generalize (partsS path)[k] = c at h4
        rw [clS] at h4
        cases h5 : (c == [] || c == [46]) with
        | true =>
          left
          rw [h5, cond_true] at h4
          refine ⟨(((k + 1 : Nat) : Int), ns), ⟨k + 1, rfl, by omega, by dsimp only; omega, h3, h4⟩, by simp; omega, fun rc => ?_⟩
          rw [show (cond (c == []) (true, ns) (c == [46], ns)) = ((c == [] || c == [46]), ns) by cases (c == []) <;> rfl, h5]
          dsimp only
          rw [cond_true, w64s (by omega)]
        | false =>
          rw [h5, cond_false] at h4
          simp only [show (cond (c == []) (true, ns) (c == [46], ns)) = (false, ns) by rw [← h5]; cases (c == []) <;> rfl, cond_false]
          cases h6 : (c == [46, 46]) with
          | true =>
            left
            rw [h6, cond_true] at h4
            refine ⟨(((k + 1 : Nat) : Int), ns.dropLast), ⟨k + 1, rfl, by omega, by simp; omega, h3.dropLast, h4⟩, by simp; omega, fun rc => ?_⟩
            rw [cond_true, rq_true (dropLast_rq ns (by omega)), dropLast_take ns (by omega), w64s (by omega)]
          | false =>
            rw [h6, cond_false] at h4
            simp only [cond_false, name_eq F c (by omega), Option.bind_some]
            cases h7 : nameS c with
            | true =>
              left
              rw [h7, cond_true] at h4
              refine ⟨(((k + 1 : Nat) : Int), ns ++ [c]), ⟨k + 1, rfl, by omega, by simp; omega, h3.snoc h7, h4⟩, by simp; omega, fun rc => ?_⟩
              rw [cond_true, rq2 (by simp; omega) (by simp; omega), w64s (by omega)]
            | false =>
              right
              rw [h7, cond_false] at h4
              intro rc
              rw [cond_false, ← h4]
              rfl
      · obtain rfl : k = (partsS path).length := by omega
        right
        intro rc
        rw [List.drop_length, clS] at h4
        have hj := join_le ns h3
        first
        | rw [cf (by omega), joinF, join_eq, rq2 (by omega) (by omega), Option.bind_some, rq1 (by simp; omega), ← h4]
        | rw [cf (by omega), joinSF, joinF, join_eq, rq2 (by omega) (by omega), Option.bind_some, Option.bind_some, rq1 (by simp; omega), ← h4]
        show some (cond (decide (128 < (((pathOf ns).length : Nat) : Int))) ([], 3) (pathOf ns, 0)) = _
        rw [show decide (128 < (((pathOf ns).length : Nat) : Int)) = decide (128 < (pathOf ns).length) from dbig _ 128]
        rfl
/-! ### Closed -/
theorem clS_names : ∀ (cs n : List (List UInt8)) {m : List (List UInt8)}, Names n → clS cs n = some m → Names m
  | [], n, m, h, e => by rw [clS] at e; cases e; exact h
  | c :: cs, n, m, h, e => by
    rw [clS] at e
    cases h1 : (c == [] || c == [46]) <;> rw [h1] at e
    · cases h2 : (c == [46, 46]) <;> rw [h2] at e
      · cases h3 : nameS c <;> rw [h3] at e
        · cases e
        · exact clS_names cs _ (h.snoc h3) e
      · exact clS_names cs _ h.dropLast e
    · exact clS_names cs _ h e
theorem clS_id : ∀ (cs n : List (List UInt8)), Names cs → clS cs n = some (n ++ cs)
  | [], n, _ => by rw [clS, List.append_nil]
  | c :: cs, n, h => by
    have hc := h c (by simp)
    obtain ⟨h1, h2, h3⟩ := name_dots hc
    rw [clS, h1, h2, h3, hc, Bool.or_self, cond_false, cond_false, cond_true, clS_id cs _ fun x hx => h x (by simp [hx])]
    simp
theorem clean_path {cwd path s : List UInt8} {e : Int} (h : cleanS cwd path = (s, e)) : (e ≠ 0 ∧ s = []) ∨ (e = 0 ∧ ∃ n, Names n ∧ s = pathOf n ∧ s.length ≤ 128) := by
  unfold cleanS at h
  cases hc : pathS cwd with
  | false => rw [hc] at h; cases h; exact .inl ⟨by decide, rfl⟩
  | true =>
    rw [hc] at h
    cases hp : (path == []) with
    | true => rw [hp] at h; cases h; exact .inl ⟨by decide, rfl⟩
    | false =>
      rw [hp] at h
      simp only [Bool.not_true, cond_false] at h
      cases hcl : clS (partsS path) (startS cwd path) with
      | none => rw [hcl] at h; cases h; exact .inl ⟨by decide, rfl⟩
      | some n =>
        rw [hcl, clF] at h
        have hn := clS_names _ _ (start_names hc).1 hcl
        by_cases hl : 128 < (pathOf n).length
        · rw [ct hl] at h; cases h; exact .inl ⟨by decide, rfl⟩
        · rw [cf hl] at h; cases h; exact .inr ⟨rfl, n, hn, rfl, by omega⟩
theorem clean_again {other : List UInt8} (ho : pathS other = true) {n : List (List UInt8)} (hn : Names n) (hl : (pathOf n).length ≤ 128) : cleanS other (pathOf n) = (pathOf n, 0) := by
  have h0 : (pathOf n == []) = false := rfl
  have hs : startS other (pathOf n) = [] := rfl
  have hc : clS (partsS (pathOf n)) [] = some n := by
    cases n with
    | nil => rfl
    | cons x n =>
      have e : partsS (pathOf (x :: n)) = [] :: (x :: n) := by
        rw [pathOf, List.cons_append, List.nil_append, partsS]
        rw [show ((47 : UInt8) == 47) = true from rfl, cond_true, parts_join (x :: n) (by simp) fun c hc => name_noSl (hn c hc)]
      rw [e, clS]
      rw [show (([] : List UInt8) == [] || ([] : List UInt8) == [46]) = true from rfl, cond_true, clS_id _ _ hn]
      rfl
  unfold cleanS
  rw [ho, h0, hs, hc, clF, cf (by omega)]
  rfl
end Go.Proofs.YtmklhkmeampamaaGreatDoor
