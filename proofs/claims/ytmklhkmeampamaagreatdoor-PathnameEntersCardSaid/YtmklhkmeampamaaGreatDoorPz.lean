/-
  Pathname, plain part 9: patterns of the document: every function ends.
-/
import Derived.Test.YtmklhkmeampamaaGreatDoorPw
namespace Go.Proofs.YtmklhkmeampamaaGreatDoor
open Go.RT
set_option linter.all false
set_option maxRecDepth 100000

theorem isR_lt {x : List Telement} {i : Nat} {b : Int} (h : isR x i b = true) : i < x.length := by
  unfold isR at h
  rw [Bool.and_eq_true] at h
  exact of_decide_eq_true h.1
theorem says_tot (F : Nat) (x : List Telement) (i : Nat) (s : List UInt8) (hF : s.length < F) (hi : i ≤ x.length) (hx : x.length < 1000000) (hs : s.length < 1000000) : ∃ b : Bool, (b = true → i + s.length ≤ x.length) ∧ ref04_says F x (i : Int) s = some b := by
  unfold ref04_says
  refine loopF_tot _ (fun k' : Int => ∃ k : Nat, k' = (k : Int) ∧ k ≤ s.length ∧ i + k ≤ x.length) (fun k' => s.length - k'.toNat) ?_ F _ ⟨0, rfl, by omega, by omega⟩ (by simp; omega)
  rintro ii ⟨k, rfl, hk, hik⟩ rc hrc
  by_cases hk : k < s.length
  · have hw : w64 ((i : Int) + (k : Int)) = ((i + k : Nat) : Int) := by rw [w64_in (by omega)]; omega
    rw [ct (by omega), rq_ix hk, hw, is_eq, Option.bind_some, w64s (by omega)]
    cases h : isR x (i + k) (((s.getD (Int.toNat (k : Int)) 0).toNat : Int)) with
    | false => exact ⟨false, (fun h => by cases h), rfl⟩
    | true =>
      have := isR_lt h
      exact hrc _ ⟨k + 1, rfl, by omega, by omega⟩ (by simp; omega)
  · rw [cf (by omega)]
    exact ⟨true, (fun _ => by omega), rfl⟩
def CL : List Tclass := (ref04_classes 0).getD []
theorem CL_eq (F : Nat) : ref04_classes F = some CL := rfl
theorem CL_len : CL.length = 8 := rfl
theorem CL_ok : ∀ c ∈ CL, c.fname.length = 5 ∧ c.fspans.length ≤ 4 := by decide
theorem rmember_tot (F : Nat) (x : List Telement) (i : Nat) (hF : 100 < F) (hi : i < x.length) (hx : x.length < 100000) : ∃ r : List TSpan × Int, (∃ e : Nat, r.2 = (e : Int) ∧ i < e ∧ e ≤ x.length ∧ r.1.length ≤ 4) ∧ ref04_member F x (i : Int) = some r := by
  unfold ref04_member
  rw [CL_eq, Option.bind_some]
  refine loopF_tot _ (fun k' : Int => ∃ k : Nat, k' = (k : Int) ∧ k ≤ 8) (fun k' => 8 - k'.toNat) ?_ F _ ⟨0, rfl, by omega⟩ (by simp; omega)
  rintro ii ⟨k, rfl, hk⟩ rc hrc
  have hw1 : w64 ((i : Int) + 1) = ((i + 1 : Nat) : Int) := w64s (by omega)
  have hw2 : w64 ((i : Int) + 2) = ((i + 2 : Nat) : Int) := by rw [w64_in (by omega)]; omega
  have hw3 : w64 ((i : Int) + 3) = ((i + 3 : Nat) : Int) := by rw [w64_in (by omega)]; omega
  by_cases hk : k < CL.length
  · have hm := CL_ok _ (List.getElem_mem hk)
    rw [ct (by omega), rq_ix hk, Int.toNat_natCast, gd hk, w64s (by omega)]
    generalize CL[k] = c at hm
    rw [rq1 (by simp; omega), rq1 (by simp; omega)]
    have hl : ((([91, 58] : List UInt8) ++ c.fname) ++ ([58, 93] : List UInt8)).length = 9 := by simp; omega
    obtain ⟨b, h1, h2⟩ := says_tot F x i ((([91, 58] : List UInt8) ++ c.fname) ++ ([58, 93] : List UInt8)) (by omega) (by omega) (by omega) (by omega)
    rw [h2, Option.bind_some]
    rw [hl] at h1 ⊢
    cases b with
    | true =>
      have := h1 rfl
      have hw : w64 ((i : Int) + ((9 : Nat) : Int)) = ((i + 9 : Nat) : Int) := by rw [w64_in (by omega)]; omega
      rw [cond_true, rq_ix hk, hw]
      exact ⟨_, ⟨i + 9, rfl, by omega, by omega, hm.2⟩, rfl⟩
    | false =>
      have h8 : k < 8 := by rw [← CL_len]; exact hk
      exact hrc _ ⟨k + 1, rfl, by omega⟩ (by simp; omega)
  · rw [cf (by omega), rq_ix hi, hw1, hw2, hw3, is_eq, Option.bind_some, is_eq, cond_som, Option.bind_some, Option.bind_some, cond_som, Option.bind_some]
    cases h4 : cond (cond (isR x (i + 1) 45) (decide (((i + 2 : Nat) : Int) < (x.length : Int))) false) (!isR x (i + 2) 93) false with
    | false => exact ⟨_, ⟨i + 1, rfl, by omega, by omega, by simp⟩, rfl⟩
    | true =>
      have h5 : i + 2 < x.length := by
        by_cases h : i + 2 < x.length
        · exact h
        · rw [dF (show ¬ ((i + 2 : Nat) : Int) < (x.length : Int) by omega)] at h4
          cases isR x (i + 1) 45 <;> simp at h4
      rw [cond_true, rq_ix h5, cond_som]
      cases decide ((x.getD (Int.toNat (i : Int)) dTelement).fb ≤ (x.getD (Int.toNat ((i + 2 : Nat) : Int)) dTelement).fb)
      · exact ⟨_, ⟨i + 3, rfl, by omega, by omega, by simp⟩, rfl⟩
      · exact ⟨_, ⟨i + 3, rfl, by omega, by omega, by simp⟩, rfl⟩
theorem rin_tot (F : Nat) (l : List TSpan) (b : Int) (hF : l.length < F) (hl : l.length < 1000000) : ∃ r, ref04_in F l b = some r := by
  obtain ⟨r, -, h⟩ : ∃ r : Bool, True ∧ ref04_in F l b = some r := by
    unfold ref04_in
    refine loopF_tot _ (fun k' : Int => ∃ k : Nat, k' = (k : Int) ∧ k ≤ l.length) (fun k' => l.length - k'.toNat) ?_ F _ ⟨0, rfl, by omega⟩ (by simp; omega)
    rintro ii ⟨k, rfl, hk⟩ rc hrc
    by_cases hk : k < l.length
    · rw [ct (by omega), rq_ix hk, rq_ix hk, cond_som, Option.bind_some, w64s (by omega)]
      cases cond (decide ((l.getD (Int.toNat (k : Int)) dTSpan).fLow ≤ b)) (decide (b ≤ (l.getD (Int.toNat (k : Int)) dTSpan).fHigh)) false with
      | true => exact ⟨_, trivial, rfl⟩
      | false => exact hrc _ ⟨k + 1, rfl, by omega⟩ (by simp; omega)
    · rw [cf (by omega)]
      exact ⟨_, trivial, rfl⟩
  exact ⟨r, h⟩
theorem rset_tot (F : Nat) (l : List TSpan) (hF : l.length + 300 < F) (hl : l.length < 1000000) : ∃ r : List TSpan, r.length ≤ 256 ∧ ref04_set F l = some r := by
  unfold ref04_set
  refine loopF_tot _ (fun s : Int × List TSpan => ∃ k : Nat, s.1 = (k : Int) ∧ k ≤ 256 ∧ s.2.length ≤ k) (fun s => 256 - s.1.toNat) ?_ F _ ⟨0, rfl, by omega, by simp⟩ (by simp; omega)
  rintro ⟨ii, o⟩ ⟨k, h0, hk, ho⟩ rc hrc
  dsimp only at h0 ho ⊢
  subst h0
  by_cases hk : k < 256
  · obtain ⟨b, hb⟩ := rin_tot F l (IntKind.wrap .u8 (k : Int)) (by omega) hl
    rw [ct (by omega), hb, Option.bind_some, w64s (by omega)]
    cases b with
    | false => exact hrc _ ⟨k + 1, rfl, by omega, by dsimp only; omega⟩ (by simp; omega)
    | true =>
      rw [Bool.not_true, cond_false]
      by_cases h0 : 0 < o.length
      · have hw : w64 ((o.length : Int) - 1) = ((o.length - 1 : Nat) : Int) := w64p (by omega) h0
        rw [ct (by omega), hw, rq_ix (by omega), Option.bind_some]
        dsimp only
        cases (w64 ((w64 ((o.getD (Int.toNat ((o.length - 1 : Nat) : Int)) dTSpan).fHigh)) + 1)) == (k : Int) with
        | true =>
          rw [cond_true, rq_ix (by omega)]
          exact hrc _ ⟨k + 1, rfl, by omega, by simp; omega⟩ (by simp; omega)
        | false =>
          rw [cond_false, rq_cap (by simp; omega) (by omega)]
          exact hrc _ ⟨k + 1, rfl, by omega, by simp; omega⟩ (by simp; omega)
      · rw [cf (by omega), Option.bind_some]
        dsimp only
        rw [cond_false, rq_cap (by simp; omega) (by omega)]
        exact hrc _ ⟨k + 1, rfl, by omega, by simp; omega⟩ (by simp; omega)
  · rw [cf (by omega)]
    exact ⟨_, by omega, rfl⟩
theorem rbracket_tot (F : Nat) (x : List Telement) (i : Nat) (hF : 4 * x.length + 1000 < F) (hx : x.length < 10000) (hi : i < x.length) :
    ∃ r : TPatItem × Int × Bool, (r.2.2 = true → ItOk r.1 ∧ ∃ e : Nat, r.2.1 = (e : Int) ∧ i < e ∧ e ≤ x.length) ∧ ref04_bracket F x (i : Int) = some r := by
  unfold ref04_bracket
  have hw1 : w64 ((i : Int) + 1) = ((i + 1 : Nat) : Int) := w64s (by omega)
  rw [hw1, is_eq, Option.bind_some, is_eq, Option.bind_some, cond_som, Option.bind_some, w64s (by omega), cond_som, Option.bind_some]
  have h0 : ∃ y : Int × Int × List UInt8 × Bool × List TSpan, cond (cond (isR x (i + 1) 33) true (isR x (i + 1) 94)) (((i + 1 + 1 : Nat) : Int), (TPatItem.mk 4 [] false []).fKind, (TPatItem.mk 4 [] false []).fText, true, (TPatItem.mk 4 [] false []).fSet) (((i + 1 : Nat) : Int), (TPatItem.mk 4 [] false []).fKind, (TPatItem.mk 4 [] false []).fText, (TPatItem.mk 4 [] false []).fNeg, (TPatItem.mk 4 [] false []).fSet) = y ∧ (∃ s0 : Nat, y.1 = (s0 : Int) ∧ i < s0 ∧ s0 ≤ i + 2) ∧ y.2.1 = 4 ∧ y.2.2.1 = [] := by
    cases (cond (isR x (i + 1) 33) true (isR x (i + 1) 94))
    · exact ⟨_, rfl, ⟨i + 1, rfl, by omega, by omega⟩, rfl, rfl⟩
    · exact ⟨_, rfl, ⟨i + 2, rfl, by omega, by omega⟩, rfl, rfl⟩
  obtain ⟨y, hy, ⟨s0, hs0, hs1, hs2⟩, hy2, hy3⟩ := h0
  rw [hy, hs0, hy2, hy3]
  refine loopF_tot _ (fun s : Int × List TSpan × Bool => ∃ k : Nat, s.1 = (k : Int) ∧ i < k ∧ k ≤ x.length + 2 ∧ s.2.1.length ≤ 4 * k) (fun s => x.length + 2 - s.1.toNat) ?_ F _ ⟨s0, rfl, hs1, by omega, by simp⟩ (by simp; omega)
  rintro ⟨ii, sp, fi⟩ ⟨k, h0, hk, hk2, hl⟩ rc hrc
  dsimp only at h0 hl ⊢
  subst h0
  rw [is_eq, Option.bind_some, cond_som, cond_som, Option.bind_some]
  by_cases hk3 : k < x.length
  · rw [ct (show (k : Int) < (x.length : Int) by omega)]
    cases (cond fi true (!isR x k 93)) with
    | true =>
      obtain ⟨r, ⟨e, h1, h2, h3, h4⟩, h5⟩ := rmember_tot F x k (by omega) hk3 (by omega)
      rw [cond_true, h5, Option.bind_some, rq_cap (by omega) (by omega)]
      exact hrc _ ⟨e, h1, by omega, by omega, by dsimp only; rw [List.length_append]; omega⟩ (by dsimp only; rw [h1]; simp; omega)
    | false =>
      obtain ⟨r, h1, h2⟩ := rset_tot F sp (by omega) (by omega)
      rw [cond_false, cf (show ¬ (x.length : Int) ≤ (k : Int) by omega), h2, Option.bind_some, w64s (by omega)]
      exact ⟨_, fun _ => ⟨⟨(fun h => absurd h (show ¬ ((4 : Int) = 1) by decide)), by simp, h1⟩, k + 1, rfl, by omega, by omega⟩, rfl⟩
  · rw [cf (show ¬ (k : Int) < (x.length : Int) by omega), cond_false, ct (show (x.length : Int) ≤ (k : Int) by omega)]
    exact ⟨_, (fun h => by cases h), rfl⟩
theorem rcompile_tot (F : Nat) (l : List TRun) (hF : l.length < F) (hF2 : 4 * szL l + 1000 < F) (h1 : l.length < 1000000000) (h2 : szL l ≤ 5000) : ∃ p : List TPatItem, ((∀ it ∈ p, ItOk it) ∧ p.length ≤ szL l) ∧ ref04_Compile F l = some p := by
  unfold ref04_Compile
  rw [elements_eq F l hF (by omega) h1 (by omega), Option.bind_some]
  have hx : (l.flatMap elR).length ≤ szL l := fl_len _ elR_len _
  generalize (l.flatMap elR) = x at hx
  refine loopF_tot _ (fun s : List TPatItem × Int => ∃ k : Nat, s.2 = (k : Int) ∧ k ≤ x.length ∧ s.1.length ≤ k ∧ ∀ it ∈ s.1, ItOk it) (fun s => x.length - s.2.toNat) ?_ F _ ⟨0, rfl, by omega, by simp, fun it h => by cases h⟩ (by simp; omega)
  rintro ⟨acc, ii⟩ ⟨k, h0, hk, ha, hit⟩ rc hrc
  dsimp only at h0 ha hit ⊢
  subst h0
  have hadd : ∀ (it : TPatItem) (e : Nat), ItOk it → k < e → e ≤ x.length → ∃ p : List TPatItem, ((∀ it ∈ p, ItOk it) ∧ p.length ≤ szL l) ∧ rc (acc ++ [it], (e : Int)) = some p := by
    intro it e h3 h4 h5
    refine hrc _ ⟨e, rfl, h5, by simp; omega, fun y hy => ?_⟩ (by simp; omega)
    rcases List.mem_append.1 hy with hy | hy
    · exact hit y hy
    · obtain rfl := List.mem_singleton.1 hy; exact h3
  by_cases hk3 : k < x.length
  · rw [ct (by omega), is_eq, Option.bind_some, is_eq, Option.bind_some, rq_cap (by simp; omega) (by omega), rq_cap (by simp; omega) (by omega), w64s (by omega)]
    cases isR x k 42 with
    | true => exact hadd _ _ ⟨(fun h => absurd h (show ¬ ((3 : Int) = 1) by decide)), by simp, by simp⟩ (by omega) (by omega)
    | false =>
      rw [cond_false]
      cases isR x k 63 with
      | true => exact hadd _ _ ⟨(fun h => absurd h (show ¬ ((2 : Int) = 1) by decide)), by simp, by simp⟩ (by omega) (by omega)
      | false =>
        rw [cond_false, is_eq, Option.bind_some]
        have hrest : ∃ p : List TPatItem, ((∀ it ∈ p, ItOk it) ∧ p.length ≤ szL l) ∧ (rq ((decide (0 ≤ (k : Int))) && (decide ((k : Int) < (x.length : Int)))) (rq ((decide (acc.length + ([(TPatItem.mk 1 (toBytes ([(x.getD (Int.toNat (k : Int)) dTelement).fb] : List Int)) false [])] : List TPatItem).length ≤ 9223372036854775807)) && (decide ((acc.length + ([(TPatItem.mk 1 (toBytes ([(x.getD (Int.toNat (k : Int)) dTelement).fb] : List Int)) false [])] : List TPatItem).length) * 56 ≤ 140737488355328))) (rc (acc ++ ([(TPatItem.mk 1 (toBytes ([(x.getD (Int.toNat (k : Int)) dTelement).fb] : List Int)) false [])] : List TPatItem), w64 ((k : Int) + 1))))) = some p := by
          rw [rq_ix hk3, rq_cap (by simp; omega) (by omega), w64s (by omega)]
          exact hadd _ _ ⟨(fun _ => by simp [toBytes]), by simp [toBytes], by simp⟩ (by omega) (by omega)
        cases isR x k 91 with
        | false => exact hrest
        | true =>
          obtain ⟨r, h3, h4⟩ := rbracket_tot F x k (by omega) (by omega) hk3
          rw [cond_true, h4, Option.bind_some]
          cases h5 : r.2.2 with
          | false => exact hrest
          | true =>
            obtain ⟨g1, e, g2, g3, g4⟩ := h3 h5
            rw [cond_true, rq_cap (by simp; omega) (by omega), g2]
            obtain ⟨p, hp, hq⟩ := hadd r.1 e g1 g3 g4
            rw [hq]
            exact ⟨p, hp, rfl⟩
  · rw [cf (by omega)]
    exact ⟨_, ⟨hit, by omega⟩, rfl⟩
theorem rascending_tot (F : Nat) (l : List TSpan) (hF : l.length < F) (hl : l.length < 1000000) : ∃ r, ref04_ascending F l = some r := by
  obtain ⟨r, -, h⟩ : ∃ r : Bool, True ∧ ref04_ascending F l = some r := by
    unfold ref04_ascending
    refine loopF_tot _ (fun k' : Int => ∃ k : Nat, k' = (k : Int) ∧ k ≤ l.length) (fun k' => l.length - k'.toNat) ?_ F _ ⟨0, rfl, by omega⟩ (by simp; omega)
    rintro ii ⟨k, rfl, hk⟩ rc hrc
    by_cases hk : k < l.length
    · rw [ct (by omega), rq_ix hk, rq_ix hk]
      have e : ∃ b, (cond (decide ((l.getD (Int.toNat (k : Int)) dTSpan).fHigh < (l.getD (Int.toNat (k : Int)) dTSpan).fLow)) (some true) (cond (decide (0 < (k : Int))) (rq ((decide (0 ≤ (k : Int))) && (decide ((k : Int) < (l.length : Int)))) (rq ((decide (0 ≤ w64 ((k : Int) - 1))) && (decide (w64 ((k : Int) - 1) < (l.length : Int)))) (some (decide (w64 ((l.getD (Int.toNat (k : Int)) dTSpan).fLow) ≤ w64 ((w64 ((l.getD (Int.toNat (w64 ((k : Int) - 1))) dTSpan).fHigh)) + 1)))))) (some false)) : Option Bool) = some b := by
        by_cases h0 : 0 < k
        · rw [rq_ix hk, w64p (by omega) h0, ct (show (0 : Int) < (k : Int) by omega), rq2 (by omega) (by omega), cond_som]; exact ⟨_, rfl⟩
        · rw [cf (show ¬ (0 : Int) < (k : Int) by omega), cond_som]; exact ⟨_, rfl⟩
      obtain ⟨b, hb⟩ := e
      rw [hb, Option.bind_some, w64s (by omega)]
      cases b with
      | true => exact ⟨_, trivial, rfl⟩
      | false => exact hrc _ ⟨k + 1, rfl, by omega⟩ (by simp; omega)
    · rw [cf (by omega)]
      exact ⟨_, trivial, rfl⟩
  exact ⟨r, h⟩
theorem rvalid_tot (F : Nat) (p : List TPatItem) (hF : p.length + 300 < F) (hp : p.length < 100000) (hit : ∀ it ∈ p, ItOk it) : ∃ b, ref04_Valid F p = some b := by
  obtain ⟨b, -, h⟩ : ∃ b : Bool, True ∧ ref04_Valid F p = some b := by
    unfold ref04_Valid
    refine loopF_tot _ (fun s : Int => ∃ k : Nat, s = (k : Int) ∧ k ≤ p.length) (fun s => p.length - s.toNat) ?_ F _ ⟨0, rfl, by omega⟩ (by simp; omega)
    rintro ii ⟨k, rfl, hk⟩ rc hrc
    by_cases hk : k < p.length
    · have hI := hit _ (List.getElem_mem hk)
      rw [ct (by omega), rq_ix hk, Int.toNat_natCast, gd hk]
      generalize p[k] = it at hI
      obtain ⟨c, hc⟩ := rascending_tot F it.fSet (by have := hI.2.2; omega) (by have := hI.2.2; omega)
      simp only [cond_som, Option.bind_some, hc]
      rw [w64s (by omega)]
      cases (cond (cond (cond (cond (decide (it.fKind < 1)) true (decide (4 < it.fKind))) true ((it.fText.length : Int) != cond (it.fKind == 1) 1 0)) true (cond (it.fKind != 4) (cond it.fNeg true (decide (0 < (it.fSet.length : Int)))) false)) true !c) with
      | true => exact ⟨_, trivial, rfl⟩
      | false => exact hrc _ ⟨k + 1, rfl, by omega⟩ (by simp; omega)
    · rw [cf (by omega)]
      exact ⟨_, trivial, rfl⟩
  exact ⟨b, h⟩
theorem rliteral_tot (F : Nat) (p : List TPatItem) (hF : p.length + 300 < F) (hp : p.length < 100000) (hit : ∀ it ∈ p, ItOk it) : ∃ r, ref04_Literal F p = some r := by
  obtain ⟨b, hb⟩ := rvalid_tot F p hF hp hit
  obtain ⟨b, -, h⟩ : ∃ b : List UInt8 × Bool, True ∧ ref04_Literal F p = some b := by
    unfold ref04_Literal
    refine loopF_tot _ (fun s : List UInt8 × Int => ∃ k : Nat, s.2 = (k : Int) ∧ k ≤ p.length ∧ s.1.length ≤ 10 * k) (fun s => p.length - s.2.toNat) ?_ F _ ⟨0, rfl, by omega, by simp⟩ (by simp; omega)
    rintro ⟨acc, ii⟩ ⟨k, h0, hk, ha⟩ rc hrc
    dsimp only at h0 ha ⊢
    subst h0
    by_cases hk : k < p.length
    · have hI := hit _ (List.getElem_mem hk)
      have hl := hI.2.1
      rw [ct (by omega), rq_ix hk, rq_ix hk, Int.toNat_natCast, gd hk]
      cases (p[k].fKind != 1) with
      | true => exact ⟨_, trivial, rfl⟩
      | false =>
        rw [cond_false, rq_str (by omega), w64s (by omega)]
        exact hrc _ ⟨k + 1, rfl, by omega, by dsimp only; rw [List.length_append]; omega⟩ (by simp; omega)
    · rw [cf (by omega), hb, Option.bind_some, cond_som]
      exact ⟨_, trivial, rfl⟩
  exact ⟨b, h⟩
end Go.Proofs.YtmklhkmeampamaaGreatDoor
