import Derived.Test.YteagcbkkonabbaaGreatDoorVb
import Derived.Test.YteagcbkkonabbaaGreatDoorUk
import Derived.Test.YteagcbkkonabbaaGreatDoorUt
import Derived.Test.YteagcbkkonabbaaGreatDoorPt
namespace Go.Proofs.YteagcbkkonabbaaGreatDoor
open Go.RT
set_option linter.all false
set_option maxRecDepth 100000
structure NW (p : List UInt8) : Prop where
  len : p.length ≤ 30
  ne : ∀ b t, p = b :: t → ¬ (49 ≤ b.toNat ∧ b.toNat ≤ 57) ∧ b ≠ 37 ∧ b ≠ 45
theorem NW.nil : NW [] := ⟨by simp, fun b t h => by cases h⟩
def NWL (l : List (List UInt8)) : Prop := ∀ p ∈ l, NW p
theorem nw_dash {p t : List UInt8} (h : NW p) : (p == (45 :: t : List UInt8)) = false := by
  cases hb : p == (45 :: t : List UInt8) with
  | false => rfl
  | true => rw [beq_iff_eq] at hb; exact absurd rfl (h.ne 45 t hb).2.2
theorem NWL.getD {l : List (List UInt8)} (h : NWL l) (i : Nat) : NW (l.getD i []) := by
  by_cases hi : i < l.length
  · rw [gd hi]; exact h _ (List.getElem_mem hi)
  · rw [List.getD_eq_getElem?_getD, List.getElem?_eq_none (by omega)]; exact NW.nil
theorem NWL.drop {l : List (List UInt8)} (h : NWL l) (i : Nat) : NWL (l.drop i) := fun p hp => h p (List.mem_of_mem_drop hp)
theorem el_nw {l : List (List UInt8)} (h : NWL l) (i : Nat) : ∃ p, util_element KB l (i : Int) = some p ∧ NW p := by
  by_cases hi : i < l.length
  · exact ⟨_, el_in hi KB, h.getD i⟩
  · exact ⟨[], el_out (by omega) KB, NW.nil⟩
theorem el_nw0 {l : List (List UInt8)} (h : NWL l) : ∃ p, util_element KB l 0 = some p ∧ NW p := el_nw h 0
theorem loopF_succ {σ R : Type} (body : (σ → Option R) → σ → Option R) (n : Nat) (s : σ) : loopF body (n + 1) s = body (loopF body n) s := rfl
theorem digits_nw {p : List UInt8} (h : NW p) : chars_Digits KB p = some (0, p == [48]) := by
  unfold chars_Digits
  cases h0 : p == ([48] : List UInt8) with
  | true => rfl
  | false =>
    rw [cond_false]
    cases p with
    | nil => rfl
    | cons b t =>
      have hne : ((b :: t : List UInt8) == []) = false := rfl
      have hl : (0 : Int) < ((b :: t).length : Int) := by rw [List.length_cons]; omega
      rw [hne, cond_false, rq1 hl, Option.bind_some]
      show cond ((b.toNat : Int) == 48) _ _ = _
      by_cases h48 : b.toNat = 48
      · rw [h48]; rfl
      · have e : (((b.toNat : Nat) : Int) == 48) = false := beq_false_of_ne (by omega)
        rw [e, cond_false]
        obtain ⟨G, hG⟩ : ∃ G, KB = G + 1 := ⟨11999, rfl⟩
        rw [hG]
        rw [loopF_succ]
        dsimp only
        have e1 : Nat.blt (Int.toNat ((0 : Nat) : Int)) (b :: t).length = true := rfl
        rw [e1, cond_true]
        have hd : (dec (b :: t) 0).1 < 48 ∨ 57 < (dec (b :: t) 0).1 := by
          by_cases ha : ((b :: t).getD 0 0).toNat < 128
          · rw [dec_ascii ha]
            show b.toNat < 48 ∨ 57 < b.toNat
            have := (h.ne b t rfl).1
            omega
          · have := (dec_span ha).1
            omega
        have e2 : chars_digit (G + 1) ((dec (b :: t) 0).1 : Int) = some false := by
          unfold chars_digit
          rcases hd with hd | hd
          · rw [cf (by omega)]; rfl
          · by_cases h2 : (48 : Int) ≤ ((dec (b :: t) 0).1 : Int)
            · rw [ct h2, dF (by omega)]; rfl
            · rw [cf h2]; rfl
        have e3 : Int.toNat ((0 : Nat) : Int) = 0 := rfl
        rw [e3, e2]
        rfl
theorem hasPre_nw {p t : List UInt8} (h : NW p) : strings_HasPrefix KB p (45 :: t) = some false := by
  unfold strings_HasPrefix stringslite_HasPrefix
  by_cases hl : (((45 :: t : List UInt8).length : Int) ≤ (p.length : Int))
  · rw [ct hl, rq2 (by omega) hl]
    have : (sl p 0 ((45 :: t : List UInt8).length : Int) == (45 :: t : List UInt8)) = false := by
      cases hb : (sl p 0 ((45 :: t : List UInt8).length : Int) == (45 :: t : List UInt8)) with
      | false => rfl
      | true =>
        rw [beq_iff_eq] at hb
        cases p with
        | nil => simp [sl] at hb
        | cons b u =>
          have hb' : sl (b :: u) 0 ((45 :: t : List UInt8).length : Int) = b :: u.take t.length := by
            unfold sl
            show List.take (Int.toNat (((45 :: t : List UInt8).length : Nat) : Int) - 0) (b :: u) = _
            rw [Int.toNat_natCast]
            rfl
          rw [hb'] at hb
          have : b = 45 := by injection hb
          exact absurd this (h.ne b u rfl).2.2
    rw [this]
    rfl
  · rw [cf hl]; rfl
theorem integer_nw {p : List UInt8} (h : NW p) : util_integer KB p = some (0, p == [48]) := by
  unfold util_integer strings_CutPrefix stringslite_CutPrefix
  have h1 := hasPre_nw (t := []) h
  unfold strings_HasPrefix at h1
  rw [bsome] at h1
  rw [h1, Option.bind_some]
  show ((chars_Digits KB p).bind _) = _
  rw [digits_nw h]
  rfl
theorem has_nil (ops : List (List UInt8)) (c : Int) : util_words_has KB (Twords.mk ops [] 10 false) c = some false := by
  unfold util_words_has strings_IndexByte stringslite_IndexByte indexByteString ibF
  have : Lib.indexByte ([] : List UInt8) c.toNat.toUInt8 = -1 := by rfl
  show (((some (Lib.indexByte ([] : List UInt8) c.toNat.toUInt8) : Option Int).bind _).bind _).bind _ = _
  rw [this]
  rfl
theorem flat_len' (l : List (List UInt8)) (k : Nat) (h : ∀ a ∈ l, a.length ≤ k) : l.flatten.length ≤ k * l.length := by
  induction l with
  | nil => simp
  | cons a l ih =>
    have h1 := h a (by simp)
    have h2 := ih fun b hb => h b (by simp [hb])
    simp only [List.flatten_cons, List.length_append, List.length_cons, Nat.mul_succ]
    omega
theorem join_len' (l : List (List UInt8)) (n : Nat) (h : ∀ a ∈ l, a.length ≤ n) : (Lib.join l [32]).length ≤ (n + 1) * l.length := by
  cases l with
  | nil => simp [Lib.join_nil]
  | cons a r =>
    rw [Lib.join_cons]
    have h1 := h a (by simp)
    have h2 : (Lib.joinTail [32] r).length ≤ (n + 1) * r.length := by
      unfold Lib.joinTail
      have := flat_len' (r.map ([32] ++ ·)) (n + 1) (by
        intro b hb
        obtain ⟨c, hc, rfl⟩ := List.mem_map.1 hb
        have := h c (by simp [hc])
        simp; omega)
      simpa using this
    simp only [List.length_append, List.length_cons, Nat.mul_succ]
    omega
theorem joinF_tot {l : List (List UInt8)} (h : ∀ a ∈ l, a.length ≤ 30) (hl : l.length ≤ 20) : ∃ d, d.length ≤ 620 ∧ joinF KB l [32] = some d := by
  have hj := join_len' l 30 h
  have : (30 + 1) * l.length ≤ 31 * 20 := Nat.mul_le_mul_left 31 hl
  refine ⟨Lib.join l [32], by omega, ?_⟩
  unfold joinF
  rw [rq2 (by omega) (by omega)]
theorem echo_tot {l : List (List UInt8)} (h : NWL l) (hl : l.length ≤ 20) : ∃ d, d.length ≤ 630 ∧ format_Echo KB l = some d := by
  unfold format_Echo
  obtain ⟨d, h1, h2⟩ := joinF_tot (fun a ha => (h a ha).len) hl
  have e : (cond (decide (0 < (l.length : Int))) (rq (decide (0 < (l.length : Int))) (some ((l.getD 0 []) == ([45, 110] : List UInt8)))) (some false) : Option Bool) = some false := by
    by_cases h0 : (0 : Int) < (l.length : Int)
    · rw [ct h0, rq1 h0, nw_dash (h.getD 0)]
    · rw [cf h0]
  rw [e, Option.bind_some, cond_false, h2, Option.bind_some, rq1 (by simp only [List.length_cons, List.length_nil]; omega)]
  exact ⟨_, by simp only [List.length_append, List.length_cons, List.length_nil]; omega, rfl⟩
theorem unary_nw {p : List UInt8} (h : NW p) : testexpr_isUnary KB p = some false := by
  unfold testexpr_isUnary
  simp only [nw_dash h, cond_false]
theorem binary_nw {p : List UInt8} (h : NW p) : ∃ b, testexpr_isBinary KB p = some b ∧ (b = true → p = [61] ∨ p = [33, 61]) := by
  unfold testexpr_isBinary
  simp only [nw_dash h, cond_false]
  by_cases h1 : p = [61]
  · subst h1; exact ⟨true, rfl, fun _ => .inl rfl⟩
  · have e1 : (p == ([61] : List UInt8)) = false := beq_false_of_ne h1
    rw [e1, cond_false]
    by_cases h2 : p = [33, 61]
    · subst h2; exact ⟨true, rfl, fun _ => .inr rfl⟩
    · have e2 : (p == ([33, 61] : List UInt8)) = false := beq_false_of_ne h2
      rw [e2, cond_false]
      exact ⟨false, rfl, fun h => by cases h⟩
theorem bin_tot {a op b : List UInt8} (h : op = [61] ∨ op = [33, 61]) (x : Tparser) : ∃ v, testexpr_parser_binary KB a op b x = some v := by
  rcases h with h | h <;> subst h <;> exact ⟨_, rfl⟩
theorem take_eq {n : Nat} {x : Tparser} (h : n ≤ x.frest.length) : testexpr_parser_take KB (n : Int) x = some (x.frest.take n, { x with frest := x.frest.drop n }) := by
  unfold testexpr_parser_take
  rw [rq2 (by omega) (by omega), rq3 (by omega) (by omega) (by omega)]
  have e1 : sl x.frest 0 (n : Int) = x.frest.take n := by simp [sl]
  have e2 : sl x.frest (n : Int) (x.frest.length : Int) = x.frest.drop n := by simp [sl, List.take_of_length_le]
  rw [e1, e2]
theorem next_dash {t : List UInt8} {x : Tparser} (h : NWL x.frest) : testexpr_parser_next KB (45 :: t) x = some (false, x) := by
  unfold testexpr_parser_next
  by_cases h0 : x.frest.length = 0
  · have e : ((x.frest.length : Int) == 0) = true := by rw [h0]; rfl
    rw [e, cond_true]
    rfl
  · have e : ((x.frest.length : Int) == 0) = false := beq_false_of_ne (by omega)
    rw [e, cond_false, rq1 (by omega), nw_dash (h.getD 0)]
    rfl
theorem next_tot {s : List UInt8} {x : Tparser} (h : NWL x.frest) : ∃ r, (r.2.frest.length ≤ x.frest.length ∧ NWL r.2.frest) ∧ testexpr_parser_next KB s x = some r := by
  unfold testexpr_parser_next
  by_cases h0 : x.frest.length = 0
  · have e : ((x.frest.length : Int) == 0) = true := by rw [h0]; rfl
    rw [e, cond_true]
    exact ⟨_, ⟨Nat.le_refl _, h⟩, rfl⟩
  · have e : ((x.frest.length : Int) == 0) = false := beq_false_of_ne (by omega)
    rw [e, cond_false, rq1 (by omega), Option.bind_some]
    cases (!(x.frest.getD 0 [] == s)) with
    | true => exact ⟨_, ⟨Nat.le_refl _, h⟩, rfl⟩
    | false =>
      rw [cond_false, show (1 : Int) = ((1 : Nat) : Int) from rfl, take_eq (by omega), Option.bind_some]
      exact ⟨_, ⟨by show (x.frest.drop 1).length ≤ _; rw [List.length_drop]; omega, h.drop 1⟩, rfl⟩
theorem not_tot (n : Nat) (ih : ∀ x : Tparser, 3 * x.frest.length + 3 ≤ n → x.frest.length ≤ 20 → NWL x.frest → ∃ r, (r.2.frest.length ≤ x.frest.length ∧ NWL r.2.frest) ∧ testexpr_parser_or_n KB n x = some r)
    (x : Tparser) (hx : 3 * x.frest.length ≤ n) (hl : x.frest.length ≤ 20) (hn : NWL x.frest) : ∃ r, (r.2.frest.length ≤ x.frest.length ∧ NWL r.2.frest) ∧ testexpr_parser_not_n KB (n + 1) x = some r := by
  show ∃ r, _ ∧ testexpr_parser_not_m KB (testexpr_parser_or_G KB n).1 (testexpr_parser_or_G KB n).2.1 (testexpr_parser_or_G KB n).2.2 x = some r
  unfold testexpr_parser_not_m
  refine loopF_tot _ (fun s : Bool × Tparser => s.2.frest.length ≤ x.frest.length ∧ NWL s.2.frest) (fun s => s.2.frest.length) ?_ KB (false, x) ⟨Nat.le_refl _, hn⟩ (by show x.frest.length < 12000; omega)
  rintro ⟨neg, y⟩ ⟨hy, hny⟩ rc hrc
  dsimp only at hy hny hrc ⊢
  by_cases h0 : y.frest.length = 0
  · have e : ((y.frest.length : Int) == 0) = true := by rw [h0]; rfl
    rw [e, cond_true]
    exact ⟨_, ⟨hy, hny⟩, rfl⟩
  have e0 : ((y.frest.length : Int) == 0) = false := beq_false_of_ne (by omega)
  rw [e0, cond_false]
  obtain ⟨b, hb1, hb2⟩ := binary_nw (hny.getD 1)
  have e1 : (cond (decide (3 ≤ (y.frest.length : Int))) (rq (decide (1 < (y.frest.length : Int))) ((testexpr_isBinary KB (y.frest.getD 1 [])).bind fun x4 => some x4)) (some false) : Option Bool) = some (decide (3 ≤ (y.frest.length : Int)) && b) := by
    by_cases h3 : 3 ≤ (y.frest.length : Int)
    · rw [ct h3, rq1 (by omega), hb1, dT h3]; rfl
    · rw [cf h3, dF h3]; rfl
  rw [e1, Option.bind_some]
  cases hc : (decide (3 ≤ (y.frest.length : Int)) && b) with
  | true =>
    rw [Bool.and_eq_true, decide_eq_true_eq] at hc
    have hl3 : (y.frest.take 3).length = 3 := by rw [List.length_take]; omega
    rw [cond_true, show (3 : Int) = ((3 : Nat) : Int) from rfl, take_eq (by omega), Option.bind_some]
    dsimp only
    rw [hl3, rq1 (by omega), rq1 (by omega), rq1 (by omega)]
    have e2 : (y.frest.take 3).getD 1 [] = y.frest.getD 1 [] := by
      rw [List.getD_eq_getElem?_getD, List.getD_eq_getElem?_getD, List.getElem?_take, if_pos (by omega)]
    rw [e2]
    obtain ⟨v, hv⟩ := bin_tot (a := (y.frest.take 3).getD 0 []) (b := (y.frest.take 3).getD 2 []) (hb2 hc.2) { y with frest := y.frest.drop 3 }
    rw [hv, Option.bind_some]
    exact ⟨_, ⟨by show (y.frest.drop 3).length ≤ _; rw [List.length_drop]; omega, hny.drop 3⟩, rfl⟩
  | false =>
    rw [cond_false]
    have e3 : ∃ c, (cond (decide (2 ≤ (y.frest.length : Int))) (rq (decide (0 < (y.frest.length : Int))) (some ((y.frest.getD 0 []) == ([33] : List UInt8)))) (some false) : Option Bool) = some c := by
      by_cases h2 : 2 ≤ (y.frest.length : Int)
      · rw [ct h2, rq1 (by omega)]; exact ⟨_, rfl⟩
      · rw [cf h2]; exact ⟨_, rfl⟩
    obtain ⟨c, hc⟩ := e3
    rw [hc, Option.bind_some]
    cases c with
    | true =>
      rw [cond_true, show (1 : Int) = ((1 : Nat) : Int) from rfl, take_eq (by omega), Option.bind_some]
      refine hrc (!neg, { y with frest := y.frest.drop 1 }) ⟨?_, hny.drop 1⟩ ?_
      · show (y.frest.drop 1).length ≤ _; rw [List.length_drop]; omega
      · show (y.frest.drop 1).length < _; rw [List.length_drop]; omega
    | false =>
      rw [cond_false, rq1 (by omega)]
      cases (y.frest.getD 0 [] == ([40] : List UInt8)) with
      | true =>
        rw [cond_true, show (1 : Int) = ((1 : Nat) : Int) from rfl, take_eq (by omega), Option.bind_some]
        dsimp only
        have hd1 : (y.frest.drop 1).length = y.frest.length - 1 := List.length_drop
        obtain ⟨r, ⟨hr1, hr2⟩, hr⟩ := ih { y with frest := y.frest.drop 1 } (by show 3 * (y.frest.drop 1).length + 3 ≤ n; omega) (by show (y.frest.drop 1).length ≤ 20; omega) (hny.drop 1)
        have hr1 : r.2.frest.length ≤ (y.frest.drop 1).length := hr1
        have hr' : (testexpr_parser_or_G KB n).1 { y with frest := y.frest.drop 1 } = some r := hr
        rw [hr', Option.bind_some]
        obtain ⟨q, ⟨hq1, hq2⟩, hq⟩ := next_tot (s := [41]) hr2
        rw [hq, Option.bind_some]
        cases !q.1 with
        | true => exact ⟨(!(r.1 == neg), { q.2 with fusage := true }), ⟨by show q.2.frest.length ≤ _; omega, hq2⟩, rfl⟩
        | false => exact ⟨(!(r.1 == neg), q.2), ⟨by show q.2.frest.length ≤ _; omega, hq2⟩, rfl⟩
      | false =>
        rw [cond_false]
        have e4 : (cond (decide (2 ≤ (y.frest.length : Int))) (rq (decide (0 < (y.frest.length : Int))) ((testexpr_isUnary KB (y.frest.getD 0 [])).bind fun x14 => some x14)) (some false) : Option Bool) = some false := by
          by_cases h2 : 2 ≤ (y.frest.length : Int)
          · rw [ct h2, rq1 (by omega), unary_nw (hny.getD 0)]; rfl
          · rw [cf h2]
        have hl1 : (y.frest.take 1).length = 1 := by rw [List.length_take]; omega
        rw [e4, Option.bind_some, cond_false, show (1 : Int) = ((1 : Nat) : Int) from rfl, take_eq (by omega), Option.bind_some]
        dsimp only
        rw [hl1, rq1 (by omega)]
        exact ⟨_, ⟨by show (y.frest.drop 1).length ≤ _; rw [List.length_drop]; omega, hny.drop 1⟩, rfl⟩
theorem loop_no {R : Type} {body : (R → Option R) → R → Option R} {s : R} (h : ∀ rc, body rc s = some s) : loopF body KB s = some s := h _
theorem or_tot : ∀ (n : Nat) (x : Tparser), 3 * x.frest.length + 3 ≤ n → x.frest.length ≤ 20 → NWL x.frest → ∃ r, (r.2.frest.length ≤ x.frest.length ∧ NWL r.2.frest) ∧ testexpr_parser_or_n KB n x = some r := by
  intro n
  induction n using Nat.strongRecOn with
  | _ n ih =>
    intro x hx hl hn
    obtain ⟨m, rfl⟩ : ∃ m, n = m + 3 := ⟨n - 3, by omega⟩
    obtain ⟨r, ⟨h1, h2⟩, h3⟩ := not_tot m (fun y hy hyl hny => ih m (by omega) y hy hyl hny) x (by omega) hl hn
    have hand : testexpr_parser_and_n KB (m + 2) x = some r := by
      show testexpr_parser_and_m KB (testexpr_parser_or_G KB (m + 1)).1 (testexpr_parser_or_G KB (m + 1)).2.1 (testexpr_parser_or_G KB (m + 1)).2.2 x = some r
      unfold testexpr_parser_and_m
      have h3' : (testexpr_parser_or_G KB (m + 1)).2.2 x = some r := h3
      rw [h3', Option.bind_some]
      exact loop_no (fun rc => by rw [next_dash h2]; rfl)
    refine ⟨r, ⟨h1, h2⟩, ?_⟩
    show testexpr_parser_or_m KB (testexpr_parser_or_G KB (m + 2)).1 (testexpr_parser_or_G KB (m + 2)).2.1 (testexpr_parser_or_G KB (m + 2)).2.2 x = some r
    unfold testexpr_parser_or_m
    have h4' : (testexpr_parser_or_G KB (m + 2)).2.1 x = some r := hand
    rw [h4', Option.bind_some]
    exact loop_no (fun rc => by rw [next_dash h2]; rfl)
theorem two_tot {l : List (List UInt8)} (h : NWL l) (hl : 2 ≤ l.length) (x : Tparser) : ∃ r, testexpr_parser_two KB l x = some r := by
  unfold testexpr_parser_two
  rw [rq1 (by omega)]
  cases (l.getD 0 [] == ([33] : List UInt8)) with
  | true => rw [cond_true, rq1 (by omega)]; exact ⟨_, rfl⟩
  | false => rw [cond_false, rq1 (by omega), unary_nw (h.getD 0)]; exact ⟨_, rfl⟩
theorem three_tot {l : List (List UInt8)} (h : NWL l) (hl : 3 ≤ l.length) (x : Tparser) : ∃ r, testexpr_parser_three KB l x = some r := by
  unfold testexpr_parser_three
  obtain ⟨b, hb1, hb2⟩ := binary_nw (h.getD 1)
  rw [rq1 (by omega), rq1 (by omega), rq1 (by omega), hb1, Option.bind_some]
  cases b with
  | true =>
    obtain ⟨v, hv⟩ := bin_tot (a := l.getD 0 []) (b := l.getD 2 []) (hb2 rfl) x
    rw [cond_true, hv]
    exact ⟨_, rfl⟩
  | false =>
    rw [cond_false, nw_dash (h.getD 1), nw_dash (h.getD 1), cond_false, cond_false]
    cases (l.getD 0 [] == ([33] : List UInt8)) with
    | true =>
      rw [cond_true, rq2 (by omega) (by omega)]
      have e : sl l 1 (l.length : Int) = l.drop 1 := by simp [sl, List.take_of_length_le]
      obtain ⟨r, hr⟩ := two_tot (h.drop 1) (by rw [List.length_drop]; omega) x
      rw [e, hr]
      exact ⟨_, rfl⟩
    | false =>
      rw [cond_false]
      cases (l.getD 0 [] == ([40] : List UInt8)) with
      | true => rw [cond_true, Option.bind_some]; cases (l.getD 2 [] == ([41] : List UInt8)) <;> exact ⟨_, rfl⟩
      | false => exact ⟨_, rfl⟩
theorem general_tot {l : List (List UInt8)} (h : NWL l) (hl : l.length ≤ 20) (x : Tparser) : ∃ r, testexpr_parser_general KB l x = some r := by
  unfold testexpr_parser_general testexpr_parser_or
  obtain ⟨r, -, hr⟩ := or_tot KB { x with frest := l } (by show 3 * l.length + 3 ≤ 12000; omega) hl h
  rw [hr, Option.bind_some]
  cases decide (0 < (r.2.frest.length : Int)) <;> exact ⟨_, rfl⟩
theorem whole_tot {l : List (List UInt8)} (h : NWL l) (hl : l.length ≤ 20) (x : Tparser) : ∃ r, testexpr_parser_whole KB l x = some r := by
  unfold testexpr_parser_whole
  obtain ⟨g, hg⟩ := general_tot h hl x
  rw [hg]
  by_cases h0 : l.length = 0
  · have e : ((l.length : Int) == 0) = true := by rw [h0]; rfl
    rw [e]; exact ⟨_, rfl⟩
  have e0 : ((l.length : Int) == 0) = false := beq_false_of_ne (by omega)
  rw [e0, cond_false]
  by_cases h1 : l.length = 1
  · have e : ((l.length : Int) == 1) = true := by rw [h1]; rfl
    rw [e, cond_true, rq1 (by omega)]; exact ⟨_, rfl⟩
  have e1 : ((l.length : Int) == 1) = false := beq_false_of_ne (by omega)
  rw [e1, cond_false]
  by_cases h2 : l.length = 2
  · have e : ((l.length : Int) == 2) = true := by rw [h2]; rfl
    obtain ⟨r, hr⟩ := two_tot h (by omega) x
    rw [e, cond_true, hr]; exact ⟨_, rfl⟩
  have e2 : ((l.length : Int) == 2) = false := beq_false_of_ne (by omega)
  rw [e2, cond_false]
  by_cases h3 : l.length = 3
  · have e : ((l.length : Int) == 3) = true := by rw [h3]; rfl
    obtain ⟨r, hr⟩ := three_tot h (by omega) x
    rw [e, cond_true, hr]; exact ⟨_, rfl⟩
  have e3 : ((l.length : Int) == 3) = false := beq_false_of_ne (by omega)
  rw [e3, cond_false]
  by_cases h4 : l.length = 4
  · have e : ((l.length : Int) == 4) = true := by rw [h4]; rfl
    rw [e, cond_true, rq1 (by omega)]
    cases (l.getD 0 [] == ([33] : List UInt8)) with
    | true =>
      rw [cond_true, rq2 (by omega) (by omega)]
      have es : sl l 1 (l.length : Int) = l.drop 1 := by simp [sl, List.take_of_length_le]
      obtain ⟨r, hr⟩ := three_tot (h.drop 1) (by rw [List.length_drop]; omega) x
      rw [es, hr]
      exact ⟨_, rfl⟩
    | false =>
      rw [cond_false, rq1 (by omega)]
      cases (l.getD 0 [] == ([40] : List UInt8)) with
      | false => exact ⟨_, rfl⟩
      | true =>
        rw [cond_true, rq1 (by omega), Option.bind_some]
        cases (l.getD 3 [] == ([41] : List UInt8)) with
        | false => exact ⟨_, rfl⟩
        | true =>
          rw [cond_true, rq1 (by omega)]
          have hs : NWL (sl l 1 3) := fun p hp => h p (by
            have : sl l 1 3 = (l.take 3).drop 1 ∨ sl l 1 3 = (l.drop 1).take 2 := by
              first
                | exact .inr rfl
                | exact .inl rfl
            rcases this with e | e <;> rw [e] at hp
            · exact List.mem_of_mem_take (List.mem_of_mem_drop hp)
            · exact List.mem_of_mem_drop (List.mem_of_mem_take hp))
          have hsl : 2 ≤ (sl l 1 3).length := by
            have : (sl l 1 3).length = 2 := by simp [sl]; omega
            omega
          obtain ⟨r, hr⟩ := two_tot hs hsl x
          rw [hr]
          exact ⟨_, rfl⟩
  have e4 : ((l.length : Int) == 4) = false := beq_false_of_ne (by omega)
  rw [e4, cond_false]
  exact ⟨_, rfl⟩
theorem eval_tot {l : List (List UInt8)} (h : NWL l) (hl : l.length ≤ 20) : ∃ v, testexpr_Eval KB l [] [47] = some v := by
  unfold testexpr_Eval
  obtain ⟨r, hr⟩ := whole_tot h hl (Tparser.mk [] [] [47] false false)
  rw [hr, Option.bind_some]
  cases r.2.fusage <;> cases r.2.finvalid <;> exact ⟨_, rfl⟩
end Go.Proofs.YteagcbkkonabbaaGreatDoor
