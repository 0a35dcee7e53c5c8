import Derived.Test.YtmklhkmeampamaaGreatDoorFb
import Derived.Lib.Join
namespace Go.Proofs.YtmklhkmeampamaaGreatDoor
open Go.RT
set_option linter.all false
def joinR : List (List UInt8) → List UInt8
  | [] => []
  | [x] => x
  | x :: y :: l => x ++ 47 :: joinR (y :: l)
theorem join_eq : ∀ (l : List (List UInt8)), Lib.join l [47] = joinR l
  | [] => rfl
  | [x] => by simp [Lib.join, List.intercalate, joinR]
  | x :: y :: l => by
    have ih := join_eq (y :: l)
    simp only [Lib.join, List.intercalate] at ih ⊢
    rw [joinR, ← ih]
    simp
theorem joinR_cons (x : List UInt8) {l : List (List UInt8)} (h : l ≠ []) : joinR (x :: l) = x ++ 47 :: joinR l := by
  cases l with
  | nil => exact absurd rfl h
  | cons y l => rfl
theorem joinR_snoc : ∀ (l : List (List UInt8)) (c : List UInt8), l ≠ [] → joinR (l ++ [c]) = joinR l ++ 47 :: c
  | [], c, h => absurd rfl h
  | [x], c, _ => rfl
  | x :: y :: l, c, _ => by
    have ih := joinR_snoc (y :: l) c (by simp)
    rw [List.cons_append, joinR_cons x (by simp), ih, joinR]
    simp
theorem join_parts : ∀ (s : List UInt8), joinR (partsS s) = s
  | [] => rfl
  | b :: l => by
    have ih := join_parts l
    rw [partsS]
    cases hb : (b == 47) with
    | true =>
      rw [cond_true, joinR_cons _ (parts_ne l), ih]
      rw [eq_of_beq hb]; rfl
    | false =>
      rw [cond_false]
      cases hp : partsS l with
      | nil => exact absurd hp (parts_ne l)
      | cons p ps =>
        dsimp only
        rw [hp] at ih
        cases ps with
        | nil => rw [joinR] at ih ⊢; rw [ih]
        | cons q qs => rw [joinR] at ih ⊢; rw [List.cons_append, ih]
def noSl (c : List UInt8) : Prop := ∀ b ∈ c, b ≠ 47
theorem parts_noSl : ∀ (c : List UInt8), noSl c → partsS c = [c]
  | [], _ => rfl
  | b :: c, h => by
    have hb : (b == 47) = false := by simpa using h b (by simp)
    rw [partsS, hb, cond_false, parts_noSl c fun x hx => h x (by simp [hx])]
theorem parts_app : ∀ (c r : List UInt8), noSl c → partsS (c ++ 47 :: r) = c :: partsS r
  | [], r, _ => by rw [List.nil_append, partsS]; rfl
  | b :: c, r, h => by
    have hb : (b == 47) = false := by simpa using h b (by simp)
    rw [List.cons_append, partsS, hb, cond_false, parts_app c r fun x hx => h x (by simp [hx])]
theorem parts_join : ∀ (l : List (List UInt8)), l ≠ [] → (∀ c ∈ l, noSl c) → partsS (joinR l) = l
  | [], h, _ => absurd rfl h
  | [x], _, h => parts_noSl x (h x (by simp))
  | x :: y :: l, _, h => by
    rw [joinR, parts_app x _ (h x (by simp)), parts_join (y :: l) (by simp) fun c hc => h c (by simp [hc])]
theorem name_noSl {c : List UInt8} (h : nameS c = true) : noSl c := by
  intro b hb e
  unfold nameS at h
  simp only [Bool.and_eq_true, Bool.not_eq_true'] at h
  have := List.any_eq_false.1 h.2.2.2 b hb
  subst e
  exact this rfl
theorem name_len {c : List UInt8} (h : nameS c = true) : 1 ≤ c.length ∧ c.length ≤ 32 := by
  unfold nameS at h
  simp only [Bool.and_eq_true, decide_eq_true_eq] at h
  exact h.1
theorem name_dots {c : List UInt8} (h : nameS c = true) : (c == []) = false ∧ (c == [46]) = false ∧ (c == [46, 46]) = false := by
  have h1 := name_len h
  unfold nameS at h
  simp only [Bool.and_eq_true, Bool.not_eq_true'] at h
  refine ⟨?_, h.2.1, h.2.2.1⟩
  cases c with
  | nil => simp at h1
  | cons b c => rfl
theorem join_le : ∀ (l : List (List UInt8)), (∀ c ∈ l, nameS c = true) → (joinR l).length ≤ 33 * l.length
  | [], _ => by simp [joinR]
  | [x], h => by
    have := name_len (h x (by simp))
    simp [joinR]; omega
  | x :: y :: l, h => by
    have h1 := name_len (h x (by simp))
    have h2 := join_le (y :: l) fun c hc => h c (by simp [hc])
    rw [joinR]
    simp at h2 ⊢
    omega
def pathOf (l : List (List UInt8)) : List UInt8 := [47] ++ joinR l
def Names (l : List (List UInt8)) : Prop := ∀ c ∈ l, nameS c = true
theorem Names.snoc {l : List (List UInt8)} (h : Names l) {c : List UInt8} (hc : nameS c = true) : Names (l ++ [c]) := by
  intro x hx
  rcases List.mem_append.1 hx with hx | hx
  · exact h x hx
  · simp only [List.mem_singleton] at hx; subst hx; exact hc
theorem Names.dropLast {l : List (List UInt8)} (h : Names l) : Names l.dropLast := fun c hc => h c (List.dropLast_subset l hc)
theorem join_ne {l : List (List UInt8)} (h : Names l) (hl : l ≠ []) : joinR l ≠ [] := by
  match l, hl with
  | [x], _ =>
    have := name_len (h x (by simp))
    intro e; rw [joinR] at e; rw [e] at this; simp at this
  | x :: y :: l, _ => intro e; rw [joinR] at e; simp at e
theorem pathOf_root {l : List (List UInt8)} (h : Names l) : (pathOf l == [47]) = (l == []) := by
  cases l with
  | nil => rfl
  | cons x l =>
    have := join_ne h (by simp)
    rw [show ((x :: l) == []) = false from rfl]
    simp only [pathOf, List.cons_append, List.nil_append, beq_eq_false_iff_ne, ne_eq, List.cons.injEq, true_and]
    exact this
theorem pathOf_snoc {l : List (List UInt8)} (h : Names l) (c : List UInt8) : pathOf (l ++ [c]) = (cond (pathOf l == [47]) [] (pathOf l) ++ [47]) ++ c := by
  rw [pathOf_root h]
  cases l with
  | nil => rfl
  | cons x l =>
    rw [show ((x :: l) == []) = false from rfl, cond_false, pathOf, joinR_snoc _ _ (by simp), pathOf]
    simp
theorem cut_of_app (a c : List UInt8) (hc : noSl c) : cutS (a ++ 47 :: c) = a.length := by
  refine cut_unique _ _ (.inl ⟨by simp, by simp [List.getD]⟩) fun j hj hl => ?_
  have e : (a ++ 47 :: c).getD j 0 = c.getD (j - a.length - 1) 0 := by
    rw [List.getD, List.getElem?_append_right (by omega), show j - a.length = (j - a.length - 1) + 1 by omega, List.getElem?_cons_succ]
    rfl
  simp at hl
  rw [e, gd (by omega)]
  exact hc _ (List.getElem_mem _)
theorem parent_snoc {l : List (List UInt8)} (h : Names l) {c : List UInt8} (hc : nameS c = true) : parentS (pathOf (l ++ [c])) = pathOf l := by
  have h47 := name_noSl hc
  cases l with
  | nil =>
    have : cutS (pathOf ([] ++ [c])) = 0 := cut_of_app [] c h47
    unfold parentS
    rw [this]
    rfl
  | cons x l =>
    have e : pathOf ((x :: l) ++ [c]) = pathOf (x :: l) ++ 47 :: c := by
      rw [pathOf, joinR_snoc _ _ (by simp), pathOf]; simp
    have : cutS (pathOf ((x :: l) ++ [c])) = (pathOf (x :: l)).length := by rw [e]; exact cut_of_app _ c h47
    unfold parentS
    rw [this]
    have h0 : ((pathOf (x :: l)).length == 0) = false := by simp [pathOf]
    rw [h0, cond_false, e]
    simp
theorem parent_names {l : List (List UInt8)} (h : Names l) : parentS (pathOf l) = pathOf l.dropLast := by
  rcases List.eq_nil_or_concat l with rfl | ⟨l', c, rfl⟩
  · rfl
  · rw [List.concat_eq_append] at h ⊢
    have hc : nameS c = true := h c (by simp)
    have hl : Names l' := fun x hx => h x (by simp [hx])
    rw [parent_snoc hl hc]
    simp
theorem path_names {s : List UInt8} (h : pathS s = true) (hr : (s == [47]) = false) : Names (partsS (s.drop 1)) ∧ pathOf (partsS (s.drop 1)) = s ∧ s.length ≤ 128 ∧ partsS (s.drop 1) ≠ [] := by
  unfold pathS at h
  rw [hr, Bool.false_or] at h
  simp only [Bool.and_eq_true, decide_eq_true_eq, List.all_eq_true] at h
  obtain ⟨⟨h1, h2⟩, h3, h4⟩ := h
  refine ⟨h4, ?_, h2, parts_ne _⟩
  rw [pathOf, join_parts]
  cases s with
  | nil => simp at h1
  | cons b s =>
    have : b = 47 := by simpa using h3
    subst this
    rfl
theorem pathS_of {l : List (List UInt8)} (h : Names l) (hl : (pathOf l).length ≤ 128) : pathS (pathOf l) = true := by
  unfold pathS
  cases l with
  | nil => rfl
  | cons x l =>
    have hne := join_ne h (by simp)
    have hp := parts_join (x :: l) (by simp) fun c hc => name_noSl (h c hc)
    have hlen : 1 ≤ (joinR (x :: l)).length := by
      cases hj : joinR (x :: l) with
      | nil => exact absurd hj hne
      | cons a b => simp
    have e1 : (pathOf (x :: l)).drop 1 = joinR (x :: l) := rfl
    have e2 : (pathOf (x :: l)).getD 0 0 = 47 := rfl
    have e3 : 2 ≤ (pathOf (x :: l)).length := by simp [pathOf]; omega
    rw [e1, hp, e2, dT e3, dT hl]
    have : (x :: l).all nameS = true := List.all_eq_true.2 h
    rw [this]
    simp
def clS : List (List UInt8) → List (List UInt8) → Option (List (List UInt8))
  | [], n => some n
  | c :: cs, n => cond (c == [] || c == [46]) (clS cs n) (cond (c == [46, 46]) (clS cs n.dropLast) (cond (nameS c) (clS cs (n ++ [c])) none))
def clF : Option (List (List UInt8)) → List UInt8 × Int
  | none => ([], 10)
  | some n => cond (decide (128 < (pathOf n).length)) ([], 3) (pathOf n, 0)
def startS (cwd path : List UInt8) : List (List UInt8) := cond (!(path.getD 0 0 == 47) && !(cwd == [47])) (partsS (cwd.drop 1)) []
def cleanS (cwd path : List UInt8) : List UInt8 × Int := cond (!pathS cwd) ([], 10) (cond (path == []) ([], 8) (clF (clS (partsS path) (startS cwd path))))
theorem start_names {cwd path : List UInt8} (h : pathS cwd = true) : Names (startS cwd path) ∧ (startS cwd path).length ≤ 200 := by
  unfold startS
  cases hr : (cwd == [47]) with
  | true => rw [Bool.not_true, Bool.and_false]; exact ⟨fun c hc => (by cases hc), by simp⟩
  | false =>
    obtain ⟨h1, h2, h3, -⟩ := path_names h hr
    have := parts_len (cwd.drop 1)
    simp only [List.length_drop] at this
    cases (path.getD 0 0 == 47)
    · exact ⟨h1, by show (partsS (cwd.drop 1)).length ≤ 200; omega⟩
    · exact ⟨fun c hc => (by cases hc), by simp⟩
theorem dropLast_take (n : List (List UInt8)) (h : n.length < 1000000000) : n.take (Int.toNat (cond (decide (w64 ((n.length : Int) - 1) < 0)) 0 (w64 ((n.length : Int) - 1)))) = n.dropLast := by
  rw [List.dropLast_eq_take]
  congr 1
  by_cases h0 : n.length = 0
  · rw [h0]; rfl
  · rw [w64p (by omega) (by omega), cf (by omega), Int.toNat_natCast]
theorem dropLast_rq (n : List (List UInt8)) (h : n.length < 1000000000) : (decide (0 ≤ cond (decide (w64 ((n.length : Int) - 1) < 0)) 0 (w64 ((n.length : Int) - 1))) && (decide (cond (decide (w64 ((n.length : Int) - 1) < 0)) 0 (w64 ((n.length : Int) - 1)) ≤ (n.length : Int)))) = true := by
  by_cases h0 : n.length = 0
  · rw [h0]; rfl
  · rw [w64p (by omega) (by omega), cf (by omega), dT (by omega), dT (by omega)]; rfl
theorem clean_eq (F : Nat) (cwd path : List UInt8) (hF : 1000 ≤ F) (hp : path.length ≤ 600) : files_Clean F cwd path = some (cleanS cwd path) := by
  unfold files_Clean cleanS
  rw [path_eq F cwd (by omega), Option.bind_some]
  cases hc : pathS cwd with
  | false => rfl
  | true =>
    rw [Bool.not_true, cond_false, cond_false]
    cases hpe : (path == []) with
    | true => rfl
    | false =>
      have hpl : 0 < path.length := by
        cases path with
        | nil => cases hpe
        | cons b l => simp
      obtain ⟨hn, hnl⟩ := start_names (path := path) hc
      have hcl : 1 ≤ cwd.length ∧ cwd.length ≤ 128 := by
        cases hr : (cwd == [47]) with
        | true => rw [eq_of_beq hr]; exact ⟨by decide, by decide⟩
        | false =>
          obtain ⟨h1, h2, h3, h4⟩ := path_names hc hr
          refine ⟨?_, h3⟩
          rw [← h2]; simp [pathOf]
      rw [cond_false, cond_false, rq1 (by omega), rq2 (by omega) (by omega), sl_one, split_eq F _ (by simp; omega), split_eq F _ (by omega), u8litn _ 47 (by omega)]
      simp only [Option.bind_some, cond_som, cF]
      show loopF _ F (0, startS cwd path) = _
      have hpl2 := parts_len path
      refine loopF_hoare (fun x => ∃ k : Nat, x.1 = (k : Int) ∧ k ≤ (partsS path).length ∧ x.2.length ≤ 200 + k ∧ Names x.2 ∧ clS ((partsS path).drop k) x.2 = clS (partsS path) (startS cwd path)) (fun x => (partsS path).length - x.1.toNat) ?_ F _ ⟨0, rfl, by omega, by omega, hn, by simp⟩ (by simp; omega)
      rintro ⟨ii, ns⟩ ⟨k, h0, h1, h2, h3, h4⟩
      dsimp only at h0 h2 h3 h4 ⊢
      subst h0
      by_cases hk : k < (partsS path).length
      · have hg : (partsS path).getD k [] = (partsS path)[k] := gd hk
        rw [List.drop_eq_getElem_cons hk] at h4
        simp only [ct (show (k : Int) < ((partsS path).length : Int) by omega), rq2 (show 0 ≤ (k : Int) by omega) (show (k : Int) < ((partsS path).length : Int) by omega), Int.toNat_natCast, hg, cond_som, Option.bind_some]
        generalize (partsS path)[k] = c at h4
        rw [clS] at h4
        cases h5 : (c == [] || c == [46]) with
        | true =>
          left
          rw [h5, cond_true] at h4
          refine ⟨(((k + 1 : Nat) : Int), ns), ⟨k + 1, rfl, by omega, by dsimp only; omega, h3, h4⟩, by simp; omega, fun rc => ?_⟩
          rw [show (cond (c == []) (true, ns) (c == [46], ns)) = ((c == [] || c == [46]), ns) by cases (c == []) <;> rfl, h5]
          dsimp only
          rw [cond_true, w64s (by omega)]
        | false =>
          rw [h5, cond_false] at h4
          simp only [show (cond (c == []) (true, ns) (c == [46], ns)) = (false, ns) by rw [← h5]; cases (c == []) <;> rfl, cond_false]
          cases h6 : (c == [46, 46]) with
          | true =>
            left
            rw [h6, cond_true] at h4
            refine ⟨(((k + 1 : Nat) : Int), ns.dropLast), ⟨k + 1, rfl, by omega, by simp; omega, h3.dropLast, h4⟩, by simp; omega, fun rc => ?_⟩
            rw [cond_true, rq_true (dropLast_rq ns (by omega)), dropLast_take ns (by omega), w64s (by omega)]
          | false =>
            rw [h6, cond_false] at h4
            simp only [cond_false, name_eq F c (by omega), Option.bind_some]
            cases h7 : nameS c with
            | true =>
              left
              rw [h7, cond_true] at h4
              refine ⟨(((k + 1 : Nat) : Int), ns ++ [c]), ⟨k + 1, rfl, by omega, by simp; omega, h3.snoc h7, h4⟩, by simp; omega, fun rc => ?_⟩
              rw [cond_true, rq2 (by simp; omega) (by simp; omega), w64s (by omega)]
            | false =>
              right
              rw [h7, cond_false] at h4
              intro rc
              rw [cond_false, ← h4]
              rfl
      · obtain rfl : k = (partsS path).length := by omega
        right
        intro rc
        rw [List.drop_length, clS] at h4
        have hj := join_le ns h3
        first
        | rw [cf (by omega), joinF, join_eq, rq2 (by omega) (by omega), Option.bind_some, rq1 (by simp; omega), ← h4]
        | rw [cf (by omega), joinSF, joinF, join_eq, rq2 (by omega) (by omega), Option.bind_some, Option.bind_some, rq1 (by simp; omega), ← h4]
        show some (cond (decide (128 < (((pathOf ns).length : Nat) : Int))) ([], 3) (pathOf ns, 0)) = _
        rw [show decide (128 < (((pathOf ns).length : Nat) : Int)) = decide (128 < (pathOf ns).length) from dbig _ 128]
        rfl
end Go.Proofs.YtmklhkmeampamaaGreatDoor
namespace Go.Proofs.YtmklhkmeampamaaGreatDoor
open Go.RT
set_option linter.all false
def Asc (l : List TFile) : Prop := l.Pairwise fun x y => x.fPath < y.fPath
structure VL (l : List TFile) : Prop where
  len : l.length ≤ 128
  pos : 0 < l.length
  root : (l.getD 0 dTFile).fPath = [47]
  path : ∀ f ∈ l, pathS f.fPath = true
  dir : ∀ f ∈ l, f.fDir = true → f.fData = []
  rdir : ∀ f ∈ l, f.fPath = [47] → f.fDir = true
  data : ∀ f ∈ l, f.fData.length ≤ 8192
  asc : Asc l
  perr : ∀ k, 0 < k → k < l.length → perrS (l.take k) (l.getD k dTFile).fPath = 0
theorem vgo_zero (l : List TFile) : ∀ (n k : Nat), vgo l n k = 0 ↔ ∀ j, k ≤ j → j < k + n → vst l j = 0
  | 0, k => ⟨fun _ j h h' => by omega, fun _ => rfl⟩
  | n + 1, k => by
    rw [vgo]
    cases h : (vst l k == 0) with
    | true =>
      rw [cond_true, vgo_zero l n (k + 1)]
      constructor
      · intro h1 j h2 h3
        by_cases e : j = k
        · subst e; simpa using h
        · exact h1 j (by omega) (by omega)
      · intro h1 j h2 h3
        exact h1 j (by omega) (by omega)
    | false =>
      rw [cond_false]
      constructor
      · intro h1; rw [h1] at h; cases h
      · intro h1
        have := h1 k (by omega) (by omega)
        rw [this] at h; cases h
theorem asc_of_adj : ∀ {l : List TFile}, (∀ k, 0 < k → k < l.length → (l.getD (k - 1) dTFile).fPath < (l.getD k dTFile).fPath) → Asc l
  | [], _ => List.Pairwise.nil
  | [x], _ => List.pairwise_singleton _ _
  | x :: y :: l, h => by
    have ih : Asc (y :: l) := asc_of_adj fun k h1 h2 => by
      have := h (k + 1) (by omega) (by simpa using h2)
      rw [show k + 1 - 1 = (k - 1) + 1 by omega] at this
      simpa using this
    have hxy : x.fPath < y.fPath := by
      have := h 1 (by omega) (by simp)
      simpa using this
    refine List.pairwise_cons.2 ⟨fun z hz => ?_, ih⟩
    rcases List.mem_cons.1 hz with rfl | hz
    · exact hxy
    · exact lt_trans' hxy ((List.pairwise_cons.1 ih).1 z hz)
theorem asc_adj {l : List TFile} (h : Asc l) (i j : Nat) (hij : i < j) (hj : j < l.length) : (l.getD i dTFile).fPath < (l.getD j dTFile).fPath := by
  rw [gd (show i < l.length by omega), gd hj]
  exact List.pairwise_iff_getElem.1 h i j (by omega) hj hij
theorem vst_zero (l : List TFile) (k : Nat) : vst l k = 0 ↔ pathS (l.getD k dTFile).fPath = true ∧ ((l.getD k dTFile).fDir = true → (l.getD k dTFile).fData = []) ∧ ((l.getD k dTFile).fPath = [47] → (l.getD k dTFile).fDir = true) ∧
    (l.getD k dTFile).fData.length ≤ 8192 ∧ (0 < k → (l.getD (k - 1) dTFile).fPath < (l.getD k dTFile).fPath) ∧ (0 < k → perrS (l.take k) (l.getD k dTFile).fPath = 0) := by
  unfold vst
  generalize l.getD k dTFile = f
  generalize l.getD (k - 1) dTFile = g
  generalize perrS (l.take k) f.fPath = e
  cases h1 : pathS f.fPath with
  | false => simp
  | true =>
    rw [Bool.not_true, cond_false]
    cases h2 : ((f.fDir && !(f.fData == [])) || (f.fPath == [47] && !f.fDir)) with
    | true =>
      rw [cond_true]
      simp only [Bool.or_eq_true, Bool.and_eq_true, Bool.not_eq_true', beq_eq_false_iff_ne, beq_iff_eq] at h2
      constructor
      · intro h; cases h
      · rintro ⟨-, h3, h4, -⟩
        rcases h2 with ⟨a, b⟩ | ⟨a, b⟩
        · exact absurd (h3 a) b
        · rw [h4 a] at b; cases b
    | false =>
      rw [cond_false]
      simp only [Bool.or_eq_false_iff, Bool.and_eq_false_iff, Bool.not_eq_false', beq_iff_eq, beq_eq_false_iff_ne] at h2
      have h3 : f.fDir = true → f.fData = [] := fun h => by
        rcases h2.1 with h' | h'
        · rw [h] at h'; cases h'
        · exact h'
      have h4 : f.fPath = [47] → f.fDir = true := fun h => by
        rcases h2.2 with h' | h'
        · exact absurd h h'
        · exact h'
      by_cases h5 : 8192 < f.fData.length
      · rw [ct h5]
        constructor
        · intro h; cases h
        · rintro ⟨-, -, -, h, -⟩; omega
      · rw [cf h5]
        have h5' : f.fData.length ≤ 8192 := by omega
        by_cases h6 : 0 < k
        · rw [dT h6, Bool.true_and, cond_true]
          rw [← bl_le g.fPath f.fPath]
          cases h7 : Op.bytesLess g.fPath f.fPath with
          | true =>
            have := (bl_lt _ _).1 h7
            rw [Bool.not_true, cond_false]
            exact ⟨fun h => ⟨rfl, h3, h4, h5', fun _ => this, fun _ => h⟩, fun h => h.2.2.2.2.2 h6⟩
          | false =>
            have := (bl_not _ _).1 h7
            rw [Bool.not_false, cond_true]
            exact ⟨fun h => (by cases h), fun h => absurd (h.2.2.2.2.1 h6) this⟩
        · rw [dF h6, Bool.false_and, cond_false, cond_false]
          exact ⟨fun _ => ⟨rfl, h3, h4, h5', fun h => absurd h h6, fun h => absurd h h6⟩, fun _ => rfl⟩
theorem valid_iff (l : List TFile) : validS l = 0 ↔ VL l := by
  unfold validS
  by_cases h1 : 128 < l.length
  · rw [ct h1]
    exact ⟨fun h => (by cases h), fun h => by have := h.len; omega⟩
  · rw [cf h1]
    cases h2 : (l.length == 0 || !((l.getD 0 dTFile).fPath == [47])) with
    | true =>
      rw [cond_true]
      refine ⟨fun h => (by cases h), fun h => ?_⟩
      have a := h.pos
      have b := h.root
      rw [b] at h2
      simp at h2
      subst h2
      simp at a
    | false =>
      rw [cond_false]
      simp only [Bool.or_eq_false_iff, beq_eq_false_iff_ne, ne_eq, Bool.not_eq_false', beq_iff_eq] at h2
      rw [vgo_zero]
      simp only [vst_zero]
      constructor
      · intro h
        have hm : ∀ f ∈ l, ∃ k, k < l.length ∧ l.getD k dTFile = f := fun f hf => by
          obtain ⟨k, hk, e⟩ := List.getElem_of_mem hf
          exact ⟨k, hk, by rw [gd hk]; exact e⟩
        refine ⟨by omega, by omega, h2.2, ?_, ?_, ?_, ?_, asc_of_adj fun k h3 h4 => (h k (by omega) (by omega)).2.2.2.2.1 h3, fun k h3 h4 => (h k (by omega) (by omega)).2.2.2.2.2 h3⟩
        · intro f hf; obtain ⟨k, hk, rfl⟩ := hm f hf; exact (h k (by omega) (by omega)).1
        · intro f hf; obtain ⟨k, hk, rfl⟩ := hm f hf; exact (h k (by omega) (by omega)).2.1
        · intro f hf; obtain ⟨k, hk, rfl⟩ := hm f hf; exact (h k (by omega) (by omega)).2.2.1
        · intro f hf; obtain ⟨k, hk, rfl⟩ := hm f hf; exact (h k (by omega) (by omega)).2.2.2.1
      · intro h j hj hj'
        have hj' : j < l.length := by omega
        have hm : l.getD j dTFile ∈ l := by rw [gd hj']; exact List.getElem_mem hj'
        exact ⟨h.path _ hm, h.dir _ hm, h.rdir _ hm, h.data _ hm, fun h0 => asc_adj h.asc (j - 1) j (by omega) hj', fun h0 => h.perr j h0 hj'⟩
theorem VL.small {l : List TFile} (h : VL l) : ∀ f ∈ l, f.fPath.length ≤ 128 := by
  intro f hf
  have := h.path f hf
  cases hr : (f.fPath == [47]) with
  | true => rw [eq_of_beq hr]; decide
  | false => exact (path_names this hr).2.2.1
def baseS (s : List UInt8) : List UInt8 := s.drop (cutS s + 1)
def preS (p : List UInt8) : List UInt8 := cond (p == [47]) [] p ++ [47]
theorem path_snoc {s : List UInt8} (h : pathS s = true) (hr : (s == [47]) = false) : ∃ n c, Names n ∧ nameS c = true ∧ s = pathOf (n ++ [c]) ∧ parentS s = pathOf n ∧ baseS s = c ∧ s = preS (parentS s) ++ c ∧ cutS s < s.length := by
  obtain ⟨h1, h2, h3, h4⟩ := path_names h hr
  rcases List.eq_nil_or_concat (partsS (s.drop 1)) with e | ⟨n, c, e⟩
  · exact absurd e h4
  · rw [List.concat_eq_append] at e
    rw [e] at h1 h2
    have hn : Names n := fun x hx => h1 x (by simp [hx])
    have hc : nameS c = true := h1 c (by simp)
    have hs := pathOf_snoc hn c
    have hp := parent_snoc hn hc
    rw [h2] at hs hp
    have hcut : cutS s = (cond (pathOf n == [47]) [] (pathOf n)).length := by
      rw [hs, List.append_assoc]
      exact cut_of_app _ c (name_noSl hc)
    refine ⟨n, c, hn, hc, h2.symm, hp, ?_, ?_, ?_⟩
    · unfold baseS
      rw [hcut, hs, List.drop_left' (by simp)]
    · rw [hp]; exact hs
    · rw [hcut, hs]; simp
theorem app_lt (p u v : List UInt8) : p ++ u < p ++ v ↔ u < v := by
  induction p with
  | nil => exact Iff.rfl
  | cons b p ih =>
    rw [List.cons_append, List.cons_append, List.cons_lt_cons_iff]
    constructor
    · rintro (h | ⟨-, h⟩)
      · exact absurd h (by simp)
      · exact ih.1 h
    · intro h; exact .inr ⟨rfl, ih.2 h⟩
def kidS (p : List UInt8) (f : TFile) : Bool := !(f.fPath == [47]) && parentS f.fPath == p
def kidsL (l : List TFile) (p : List UInt8) : List (List UInt8) := (l.filter (kidS p)).map fun f => baseS f.fPath
theorem kids_asc {l : List TFile} (h : VL l) (p : List UInt8) : (kidsL l p).Pairwise (· < ·) := by
  unfold kidsL
  rw [List.pairwise_map]
  have h1 : (l.filter (kidS p)).Pairwise fun x y => x.fPath < y.fPath := h.asc.filter _
  refine List.Pairwise.imp_of_mem (fun {x y} hx hy hxy => ?_) h1
  rw [List.mem_filter] at hx hy
  unfold kidS at hx hy
  simp only [Bool.and_eq_true, Bool.not_eq_true', beq_iff_eq] at hx hy
  obtain ⟨-, c, -, -, -, -, e1, e2, -⟩ := path_snoc (h.path x hx.1) hx.2.1
  obtain ⟨-, d, -, -, -, -, e3, e4, -⟩ := path_snoc (h.path y hy.1) hy.2.1
  rw [e1, e3]
  rw [e2, e4, hx.2.2, hy.2.2] at hxy
  exact (app_lt _ _ _).1 hxy
theorem kids_flat (l : List TFile) (p : List UInt8) : (l.flatMap fun f => cond (kidS p f) [baseS f.fPath] []) = kidsL l p := flat_filter _ _ l
theorem kids_len (l : List TFile) (p : List UInt8) (i : Nat) : ((l.take i).flatMap fun f => cond (kidS p f) [baseS f.fPath] []).length ≤ i := by
  have := flat_le (fun f => cond (kidS p f) [baseS f.fPath] ([] : List (List UInt8))) 1 (fun a => by cases kidS p a <;> simp) (l.take i)
  simp only [List.length_take] at this
  omega
def listS (l : List TFile) (p : List UInt8) : List (List UInt8) × Int := cond (!pathS p) ([], 10) ((findS l p).elim ([], 8) fun f => cond (!f.fDir) ([], 18) (kidsL l p, 0))
theorem ref_list (F : Nat) (l : List TFile) (p : List UInt8) (hF : 1000 ≤ F) (h : VL l) : ref19_List F l p = some (listS l p) := by
  have hl := h.len
  unfold ref19_List listS
  rw [ref_path F p (by omega), Option.bind_some]
  cases pathS p with
  | false => rfl
  | true =>
    rw [Bool.not_true, cond_false, cond_false, ref_find F l p (by omega) (by omega), Option.bind_some]
    rcases idx_find l p with ⟨h1, h2, h3⟩ | ⟨j, h0, h1, h2, h3⟩
    · rw [h1, h2]; rfl
    · rw [h1, h2]
      simp only [Option.elim]
      rw [cf (by omega), rq2 (by omega) (by omega), Int.toNat_natCast]
      cases (l.getD j dTFile).fDir with
      | false => rfl
      | true =>
        rw [Bool.not_true, cond_false, cond_false]
        refine loopF_flat l (fun i o => (o, (i : Int))) (fun f => cond (kidS p f) [baseS f.fPath] []) (by omega) (by rfl) (fun i hi rc o ho => ?_) (fun rc => ?_)
        · have hm := h.small _ (List.getElem_mem hi)
          have hlen : o.length ≤ i := by rw [ho]; exact kids_len l p i
          dsimp only
          rw [ct (by omega)]
          simp only [rq2 (show 0 ≤ (i : Int) by omega) (show (i : Int) < (l.length : Int) by omega), Int.toNat_natCast, gd hi, ref_parent F l[i].fPath (by omega) (by omega), Option.bind_some, cond_som, cF]
          rw [show (!(l[i].fPath == [47]) && parentS l[i].fPath == p) = kidS p l[i] from rfl, w64s (by omega)]
          cases hk : kidS p l[i] with
          | false => simp
          | true =>
            unfold kidS at hk
            simp only [Bool.and_eq_true, Bool.not_eq_true'] at hk
            obtain ⟨-, c, -, -, -, -, -, -, e3⟩ := path_snoc (h.path _ (List.getElem_mem hi)) hk.1
            rw [cond_true, cond_true, ref_base F _ (by omega) (by omega) e3, Option.bind_some, rq2 (by simp; omega) (by simp; omega)]
            rfl
        · dsimp only
          rw [cf (by omega), kids_flat]
theorem list_eq (F : Nat) (l : List TFile) (p : List UInt8) (hF : 1000 ≤ F) (h : VL l) : files_List F l p = some (listS l p) := by
  have hl := h.len
  unfold files_List listS
  rw [path_eq F p (by omega), Option.bind_some]
  cases pathS p with
  | false => rfl
  | true =>
    rw [Bool.not_true, cond_false, cond_false, find_eq F l p (by omega) (by omega), Option.bind_some]
    rcases idx_find l p with ⟨h1, h2, h3⟩ | ⟨j, h0, h1, h2, h3⟩
    · rw [h2]; rfl
    · rw [h2]
      simp only [Option.elim, Bool.not_true, cond_false]
      cases (l.getD j dTFile).fDir with
      | false => rfl
      | true =>
        rw [Bool.not_true, cond_false, cond_false]
        refine loopF_flat l (fun i o => ((i : Int), o)) (fun f => cond (kidS p f) [baseS f.fPath] []) (by omega) (by rfl) (fun i hi rc o ho => ?_) (fun rc => ?_)
        · have hm := h.small _ (List.getElem_mem hi)
          have hlen : o.length ≤ i := by rw [ho]; exact kids_len l p i
          dsimp only
          rw [ct (by omega)]
          simp only [rq2 (show 0 ≤ (i : Int) by omega) (show (i : Int) < (l.length : Int) by omega), Int.toNat_natCast, gd hi, parent_eq F l[i].fPath (show l[i].fPath.length < 1000000000 by omega), Option.bind_some, cond_som]
          rw [show (cond (!(l[i].fPath == [47])) (parentS l[i].fPath == p, o) (false, o)) = (kidS p l[i], o) by unfold kidS; cases (l[i].fPath == [47]) <;> rfl, w64s (by omega)]
          dsimp only
          cases hk : kidS p l[i] with
          | false => simp
          | true =>
            unfold kidS at hk
            simp only [Bool.and_eq_true, Bool.not_eq_true'] at hk
            obtain ⟨-, c, -, -, -, -, -, -, e3⟩ := path_snoc (h.path _ (List.getElem_mem hi)) hk.1
            have hlib : Lib.lastIndexByte ⟨⟨l[i].fPath⟩⟩ 47 = (cutS l[i].fPath : Int) := by
              unfold cutS
              rcases lib_spec l[i].fPath with ⟨e, hh⟩ | ⟨q, hq, e, -⟩
              · exfalso
                have hp := h.path _ (List.getElem_mem hi)
                unfold pathS at hp
                rw [hk.1, Bool.false_or] at hp
                simp only [Bool.and_eq_true, decide_eq_true_eq, beq_iff_eq] at hp
                exact hh 0 (by omega) hp.2.1
              · rw [e]; rfl
            rw [cond_true, cond_true, lib_eq F _ (by omega), Option.bind_some, hlib, w64s (by omega), rq3 (by omega) (by omega) (by omega), rq2 (by simp; omega) (by simp; omega), sl_full]
            rfl
        · dsimp only
          rw [cf (by omega), kids_flat, sortF, sortK_id (kids_asc h p), rq1, Option.bind_some]
          have : (kidsL l p).length ≤ l.length := by
            unfold kidsL; rw [List.length_map]; exact List.length_filter_le _ _
          omega
theorem find_path {l : List TFile} {p : List UInt8} {g : TFile} (h : findS l p = some g) : g ∈ l ∧ g.fPath = p := by
  have h1 := List.find?_some h
  exact ⟨List.mem_of_find?_eq_some h, eq_of_beq h1⟩
theorem has_iff (l : List TFile) (p : List UInt8) : hasS l p = true ↔ ∃ f ∈ l, f.fPath = p := by
  unfold hasS isP
  rw [List.any_eq_true]
  simp
theorem find_of_asc {l : List TFile} (h : Asc l) {f : TFile} (hf : f ∈ l) : findS l f.fPath = some f := by
  rcases idx_find l f.fPath with ⟨h1, h2, h3⟩ | ⟨j, h0, h1, h2, h3⟩
  · have := (has_iff l f.fPath).2 ⟨f, hf, rfl⟩
    rw [h3] at this; cases this
  · obtain ⟨hm, hp⟩ := find_path h2
    rw [h2]
    congr 1
    obtain ⟨i, hi, e⟩ := List.getElem_of_mem hf
    have e : l.getD i dTFile = f := by rw [gd hi]; exact e
    rcases Nat.lt_trichotomy i j with q | q | q
    · have := asc_adj h i j q h0
      rw [e, hp] at this; exact absurd this (lt_irrefl' _)
    · rw [← q, e]
    · have := asc_adj h j i q hi
      rw [e, hp] at this; exact absurd this (lt_irrefl' _)
end Go.Proofs.YtmklhkmeampamaaGreatDoor
namespace Go.Proofs.YtmklhkmeampamaaGreatDoor
open Go.RT
set_option linter.all false
def tailP (n : List (List UInt8)) : List UInt8 := n.flatMap fun c => 47 :: c
theorem tailP_app (a b : List (List UInt8)) : tailP (a ++ b) = tailP a ++ tailP b := by simp [tailP]
theorem tailP_join : ∀ (n : List (List UInt8)), n ≠ [] → tailP n = 47 :: joinR n
  | [], h => absurd rfl h
  | [x], _ => by simp [tailP, joinR]
  | x :: y :: l, _ => by
    have ih := tailP_join (y :: l) (by simp)
    rw [show tailP (x :: y :: l) = (47 :: x) ++ tailP (y :: l) from rfl, ih, joinR]
    simp
theorem pathOf_tail {n : List (List UInt8)} (h : n ≠ []) : pathOf n = tailP n := by rw [tailP_join n h]; rfl
theorem Names.app {a b : List (List UInt8)} (ha : Names a) (hb : Names b) : Names (a ++ b) := fun c hc => by
  rcases List.mem_append.1 hc with h | h
  · exact ha c h
  · exact hb c h
theorem Names.left {a b : List (List UInt8)} (h : Names (a ++ b)) : Names a := fun c hc => h c (by simp [hc])
theorem parts_joinApp : ∀ (m : List (List UInt8)) (x : List UInt8), m ≠ [] → Names m → partsS (joinR m ++ 47 :: x) = m ++ partsS x
  | [], x, h, _ => absurd rfl h
  | [a], x, _, h => by rw [joinR, parts_app a x (name_noSl (h a (by simp)))]; rfl
  | a :: b :: m, x, _, h => by
    rw [joinR, List.append_assoc, List.cons_append, parts_app a _ (name_noSl (h a (by simp))), parts_joinApp (b :: m) x (by simp) fun c hc => h c (by simp [hc])]
    rfl
theorem path_ex {s : List UInt8} (h : pathS s = true) : ∃ n, Names n ∧ s = pathOf n ∧ (pathOf n).length ≤ 128 := by
  cases hr : (s == [47]) with
  | true => exact ⟨[], fun c hc => (by cases hc), eq_of_beq hr, by decide⟩
  | false =>
    obtain ⟨h1, h2, h3, h4⟩ := path_names h hr
    exact ⟨_, h1, h2.symm, by rw [h2]; exact h3⟩
theorem pathOf_nil_iff {n : List (List UInt8)} (h : Names n) : pathOf n = [47] ↔ n = [] := by
  have := pathOf_root h
  rw [Bool.eq_iff_iff] at this
  simpa using this
theorem above_names {m n : List (List UInt8)} (hm : Names m) (hn : Names n) : aboveS (pathOf m) (pathOf n) = true ↔ ∃ c r, n = m ++ c :: r := by
  unfold aboveS
  by_cases h0 : m = []
  · subst h0
    rw [show (pathOf [] == [47]) = true from rfl, cond_true, pathOf_root hn]
    cases n with
    | nil => simp
    | cons c r => simp
  · have e0 : (pathOf m == [47]) = false := by
      rw [pathOf_root hm]; cases m with
      | nil => exact absurd rfl h0
      | cons a b => rfl
    rw [e0, cond_false]
    simp only [Bool.and_eq_true, decide_eq_true_eq, beq_iff_eq]
    constructor
    · rintro ⟨h1, h2⟩
      have hx : pathOf n = (pathOf m ++ [47]) ++ (pathOf n).drop ((pathOf m).length + 1) := by
        rw [← h2, List.take_append_drop]
      generalize (pathOf n).drop ((pathOf m).length + 1) = x at hx
      have hj : joinR n = joinR m ++ 47 :: x := by
        simp only [pathOf, List.append_assoc, List.cons_append, List.nil_append, List.cons.injEq, true_and] at hx
        exact hx
      have hne : n ≠ [] := by
        rintro rfl
        have : ([] : List UInt8) = joinR m ++ 47 :: x := hj
        simp at this
      have := parts_join n hne fun c hc => name_noSl (hn c hc)
      rw [hj, parts_joinApp m x h0 hm] at this
      cases hp : partsS x with
      | nil => exact absurd hp (parts_ne x)
      | cons c r => exact ⟨c, r, by rw [← this, hp]⟩
    · rintro ⟨c, r, rfl⟩
      have e : pathOf (m ++ c :: r) = pathOf m ++ 47 :: (c ++ tailP r) := by
        rw [pathOf_tail (by simp), tailP_app, pathOf_tail h0]
        rfl
      rw [e]
      refine ⟨by simp, ?_⟩
      rw [show pathOf m ++ 47 :: (c ++ tailP r) = (pathOf m ++ [47]) ++ (c ++ tailP r) by simp]
      exact List.take_left' (by simp)
structure VT (l : List TFile) : Prop where
  len : l.length ≤ 128
  root : ∃ f ∈ l, f.fPath = [47]
  path : ∀ f ∈ l, pathS f.fPath = true
  dir : ∀ f ∈ l, f.fDir = true → f.fData = []
  rdir : ∀ f ∈ l, f.fPath = [47] → f.fDir = true
  data : ∀ f ∈ l, f.fData.length ≤ 8192
  asc : Asc l
  par : ∀ f ∈ l, f.fPath ≠ [47] → ∃ p ∈ l, p.fPath = parentS f.fPath ∧ p.fDir = true
theorem VT.up {l : List TFile} (h : VT l) : ∀ (r : List (List UInt8)) (m : List (List UInt8)) (c : List UInt8), Names (m ++ c :: r) → (∃ f ∈ l, f.fPath = pathOf (m ++ c :: r)) → ∃ f ∈ l, f.fPath = pathOf (m ++ [c]) := by
  intro r
  induction hn : r.length generalizing r with
  | zero =>
    intro m c _ hf
    obtain rfl : r = [] := List.eq_nil_of_length_eq_zero hn
    exact hf
  | succ k ih =>
    intro m c hN ⟨f, hf, e⟩
    have hr : r ≠ [] := by intro e; subst e; simp at hn
    have hne : f.fPath ≠ [47] := by
      rw [e]; intro e'; have := (pathOf_nil_iff hN).1 e'; simp at this
    obtain ⟨p, hp, e1, -⟩ := h.par f hf hne
    rw [e, parent_names hN] at e1
    have e2 : (m ++ c :: r).dropLast = m ++ c :: r.dropLast := by
      rw [List.dropLast_append_of_ne_nil (by simp), List.dropLast_cons_of_ne_nil hr]
    rw [e2] at e1
    exact ih r.dropLast (by simp [hn]) m c (by rw [← e2]; exact hN.dropLast) ⟨p, hp, e1⟩
theorem VT.above {l : List TFile} (h : VT l) {a : List UInt8} (ha : pathS a = true) {f : TFile} (hf : f ∈ l) (hab : aboveS a f.fPath = true) : ∃ p ∈ l, p.fPath = a ∧ p.fDir = true ∧ ∃ k ∈ l, kidS a k = true := by
  obtain ⟨m, hm, rfl, -⟩ := path_ex ha
  obtain ⟨n, hn, e, -⟩ := path_ex (h.path f hf)
  rw [e] at hab
  obtain ⟨c, r, rfl⟩ := (above_names hm hn).1 hab
  obtain ⟨k, hk, ek⟩ := h.up r m c hn ⟨f, hf, e⟩
  have hN : Names (m ++ [c]) := Names.app hm fun x hx => hn x (by simp at hx; simp [hx])
  have hkne : k.fPath ≠ [47] := by
    rw [ek]; intro e'; have := (pathOf_nil_iff hN).1 e'; simp at this
  obtain ⟨p, hp, e1, e2⟩ := h.par k hk hkne
  have e3 : parentS k.fPath = pathOf m := by
    rw [ek, parent_names hN]; simp
  refine ⟨p, hp, by rw [e1, e3], e2, k, hk, ?_⟩
  unfold kidS
  rw [e3]
  simp [hkne]
theorem parent_above {p : List UInt8} (h : pathS p = true) (hr : p ≠ [47]) : aboveS (parentS p) p = true ∧ pathS (parentS p) = true := by
  obtain ⟨n, hn, rfl, hl⟩ := path_ex h
  rcases List.eq_nil_or_concat n with rfl | ⟨m, c, rfl⟩
  · exact absurd rfl hr
  · rw [List.concat_eq_append] at *
    have hm : Names m := hn.left
    have hc : nameS c = true := hn c (by simp)
    rw [parent_snoc hm hc]
    refine ⟨(above_names hm hn).2 ⟨c, [], rfl⟩, pathS_of hm ?_⟩
    have : (pathOf m).length ≤ (pathOf (m ++ [c])).length := by
      cases m with
      | nil => simp [pathOf, joinR]
      | cons a b =>
        have e : pathOf ((a :: b) ++ [c]) = pathOf (a :: b) ++ 47 :: c := by
          rw [pathOf, joinR_snoc _ _ (by simp), pathOf]; simp
        rw [e]; simp
    omega
theorem perr_zero {l : List TFile} {p : List UInt8} : perrS l p = 0 ↔ (∀ f ∈ l, aboveS f.fPath p = true → f.fDir = true) ∧ hasS l (parentS p) = true := by
  unfold perrS
  cases h1 : (l.any fun f => !f.fDir && aboveS f.fPath p) with
  | true =>
    rw [cond_true]
    refine ⟨fun h => (by cases h), fun h => ?_⟩
    obtain ⟨f, hf, e⟩ := List.any_eq_true.1 h1
    simp only [Bool.and_eq_true, Bool.not_eq_true'] at e
    have := h.1 f hf e.2
    rw [e.1] at this; cases this
  | false =>
    rw [cond_false]
    have h2 : ∀ f ∈ l, aboveS f.fPath p = true → f.fDir = true := fun f hf e => by
      have := List.any_eq_false.1 h1 f hf
      rw [e] at this
      simpa using this
    cases hasS l (parentS p) with
    | true => exact ⟨fun _ => ⟨h2, rfl⟩, fun _ => rfl⟩
    | false => exact ⟨fun h => (by cases h), fun h => by cases h.2⟩
theorem VL.tree {l : List TFile} (h : VL l) : VT l := by
  refine ⟨h.len, ⟨l.getD 0 dTFile, by rw [gd h.pos]; exact List.getElem_mem _, h.root⟩, h.path, h.dir, h.rdir, h.data, h.asc, fun f hf hne => ?_⟩
  obtain ⟨k, hk, e⟩ := List.getElem_of_mem hf
  have ek : l.getD k dTFile = f := by rw [gd hk]; exact e
  have h0 : 0 < k := by
    rcases Nat.eq_zero_or_pos k with h0 | h0
    · subst h0; rw [h.root.symm, ek] at hne; exact absurd rfl hne
    · exact h0
  have hp := perr_zero.1 (h.perr k h0 hk)
  rw [ek] at hp
  obtain ⟨g, hg, eg⟩ := (has_iff _ _).1 hp.2
  have := (parent_above (h.path f hf) hne).1
  rw [← eg] at this
  exact ⟨g, List.mem_of_mem_take hg, eg, hp.1 g hg this⟩
end Go.Proofs.YtmklhkmeampamaaGreatDoor
