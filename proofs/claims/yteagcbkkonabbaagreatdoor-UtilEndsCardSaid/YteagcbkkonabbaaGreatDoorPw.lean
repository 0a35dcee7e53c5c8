import Derived.Test.YteagcbkkonabbaaGreatDoorPt
namespace Go.Proofs.YteagcbkkonabbaaGreatDoor
open Go.RT
set_option linter.all false
set_option maxRecDepth 100000
theorem valid_tot (F : Nat) (p : List TPatItem) (hF : p.length + 300 < F) (hp : p.length < 100000) (hit : ∀ it ∈ p, ItOk it) : ∃ b, pattern_valid F p = some b := by
  obtain ⟨b, -, h⟩ : ∃ b : Bool, True ∧ pattern_valid F p = some b := by
    unfold pattern_valid
    refine loopF_tot _ (fun s : Int => ∃ k : Nat, s = (k : Int) ∧ k ≤ p.length) (fun s => p.length - s.toNat) ?_ F _ ⟨0, rfl, by omega⟩ (by simp; omega)
    rintro ii ⟨k, rfl, hk⟩ rc hrc
    by_cases hk : k < p.length
    · have hI := hit _ (List.getElem_mem hk)
      rw [ct (by omega), rq_ix hk, Int.toNat_natCast, gd hk]
      generalize p[k] = it at hI
      simp only [cond_som, Option.bind_some]
      cases (cond (cond (decide (it.fKind < 1)) true (decide (4 < it.fKind))) true ((it.fText.length : Int) != cond (it.fKind == 1) 1 0)) with
      | true => exact ⟨_, trivial, rfl⟩
      | false =>
        rw [cond_false]
        cases (cond (it.fKind != 4) (cond it.fNeg true (decide (0 < (it.fSet.length : Int)))) false) with
        | true => exact ⟨_, trivial, rfl⟩
        | false =>
          rw [cond_false]
          have hl := hI.2.2
          refine loopF_tot _ (fun s : Int => ∃ j : Nat, s = (j : Int) ∧ j ≤ it.fSet.length) (fun s => it.fSet.length - s.toNat) ?_ F _ ⟨0, rfl, by omega⟩ (by simp; omega)
          rintro jj ⟨j, rfl, hj⟩ rc2 hrc2
          by_cases hj : j < it.fSet.length
          · rw [ct (by omega), rq_ix hj]
            have e : ∃ b, (cond (decide ((it.fSet.getD (Int.toNat (j : Int)) dTSpan).fHigh < (it.fSet.getD (Int.toNat (j : Int)) dTSpan).fLow)) (some true) (cond (decide (0 < (j : Int))) (rq ((decide (0 ≤ w64 ((j : Int) - 1))) && (decide (w64 ((j : Int) - 1) < (it.fSet.length : Int)))) (some (decide (w64 ((it.fSet.getD (Int.toNat (j : Int)) dTSpan).fLow) ≤ w64 ((w64 ((it.fSet.getD (Int.toNat (w64 ((j : Int) - 1))) dTSpan).fHigh)) + 1))))) (some false)) : Option Bool) = some b := by
              by_cases h0 : 0 < j
              · rw [w64p (by omega) h0, ct (show (0 : Int) < (j : Int) by omega), rq2 (by omega) (by omega), cond_som]; exact ⟨_, rfl⟩
              · rw [cf (show ¬ (0 : Int) < (j : Int) by omega), cond_som]; exact ⟨_, rfl⟩
            obtain ⟨b, hb⟩ := e
            rw [hb, Option.bind_some]
            cases b with
            | true => exact ⟨_, trivial, rfl⟩
            | false =>
              rw [cond_false, w64s (by omega)]
              exact hrc2 _ ⟨j + 1, rfl, by omega⟩ (by simp; omega)
          · rw [cf (by omega), w64s (by omega)]
            exact hrc _ ⟨k + 1, rfl, by omega⟩ (by simp; omega)
    · rw [cf (by omega)]
      exact ⟨_, trivial, rfl⟩
  exact ⟨b, h⟩
theorem spread_tot (F : Nat) (p : List TPatItem) (st : List Bool) (hF : p.length < F) (hp : p.length < 100000) (hs : st.length = p.length + 1) : ∃ s2 : List Bool, s2.length = p.length + 1 ∧ pattern_spread F p st = some s2 := by
  unfold pattern_spread
  refine loopF_tot _ (fun s : Int × List Bool => ∃ k : Nat, s.1 = (k : Int) ∧ k ≤ p.length ∧ s.2.length = p.length + 1) (fun s => p.length - s.1.toNat) ?_ F _ ⟨0, rfl, by omega, hs⟩ (by simp; omega)
  rintro ⟨ii, s2⟩ ⟨k, h0, hk, hl⟩ rc hrc
  dsimp only at h0 hl ⊢
  subst h0
  by_cases hk : k < p.length
  · rw [ct (by omega), rq_ix hk, rq2 (by omega) (by omega), cond_som, Option.bind_some, w64s (by omega)]
    have e : cond (s2.getD (Int.toNat (k : Int)) false) ((p.getD (Int.toNat (k : Int)) dTPatItem).fKind == 3, s2) (false, s2) = ((s2.getD (Int.toNat (k : Int)) false && (p.getD (Int.toNat (k : Int)) dTPatItem).fKind == 3), s2) := by cases s2.getD (Int.toNat (k : Int)) false <;> rfl
    rw [e]
    dsimp only
    cases (s2.getD (Int.toNat (k : Int)) false && (p.getD (Int.toNat (k : Int)) dTPatItem).fKind == 3) with
    | true =>
      rw [cond_true, rq2 (by omega) (by omega)]
      exact hrc _ ⟨k + 1, rfl, by omega, by simpa using hl⟩ (by simp; omega)
    | false => exact hrc _ ⟨k + 1, rfl, by omega, hl⟩ (by simp; omega)
  · rw [cf (by omega)]
    exact ⟨_, hl, rfl⟩
theorem contains_tot (F : Nat) (st : List Bool) (hF : st.length < F) (hs : st.length < 1000000) : ∃ b, slices_Contains_2 F st true = some b := by
  unfold slices_Contains_2
  obtain ⟨r, -, h⟩ : ∃ r : Int, True ∧ slices_Index_2 F st true = some r := by
    unfold slices_Index_2
    refine loopF_tot _ (fun s : Int => ∃ k : Nat, s = (k : Int) ∧ k ≤ st.length) (fun s => st.length - s.toNat) ?_ F _ ⟨0, rfl, by omega⟩ (by simp; omega)
    rintro ii ⟨k, rfl, hk⟩ rc hrc
    by_cases hk : k < st.length
    · rw [ct (by omega), rq_ix hk, w64s (by omega)]
      cases (true == st.getD (Int.toNat (k : Int)) false) with
      | true => exact ⟨_, trivial, rfl⟩
      | false => exact hrc _ ⟨k + 1, rfl, by omega⟩ (by simp; omega)
    · rw [cf (by omega)]
      exact ⟨_, trivial, rfl⟩
  rw [h]
  exact ⟨_, rfl⟩
theorem fits_tot (F : Nat) (it : TPatItem) (b : Int) (hF : 300 < F) (h : ItOk it) : ∃ r, pattern_fits F it b = some r := by
  unfold pattern_fits
  cases hk : (it.fKind == 1) with
  | true =>
    have := h.1 (eq_of_beq hk)
    rw [cond_true, rq1 (by omega)]
    exact ⟨_, rfl⟩
  | false =>
    rw [cond_false]
    cases (it.fKind == 4) with
    | false => exact ⟨_, rfl⟩
    | true =>
      rw [cond_true]
      have hl := h.2.2
      have hsw : ∀ x : Option Bool, (∃ r, True ∧ x = some r) → ∃ r, x = some r := fun x ⟨r, _, h⟩ => ⟨r, h⟩
      refine hsw _ (loopF_tot (R := Bool) (fun _ => True) (fun s : Bool × Int => ∃ k : Nat, s.2 = (k : Int) ∧ k ≤ it.fSet.length) (fun s => it.fSet.length - s.2.toNat) ?_ F (false, 0) ⟨0, rfl, by omega⟩ (by simp; omega))
      · rintro ⟨acc, ii⟩ ⟨k, h0, hk2⟩ rc hrc
        dsimp only at h0 ⊢
        subst h0
        by_cases hk2 : k < it.fSet.length
        · rw [ct (by omega), rq_ix hk2, cond_som, cond_som, Option.bind_some, w64s (by omega)]
          exact hrc _ ⟨k + 1, rfl, by omega⟩ (by simp; omega)
        · rw [cf (by omega)]
          exact ⟨_, trivial, rfl⟩
theorem advance_tot (F : Nat) (p : List TPatItem) (st : List Bool) (b : Int) (hF : p.length + 300 < F) (hp : p.length < 100000) (hit : ∀ it ∈ p, ItOk it) (hs : st.length = p.length + 1) : ∃ s2 : List Bool, s2.length = p.length + 1 ∧ pattern_advance_1 F p st b = some s2 := by
  unfold pattern_advance_1
  have hw : w64 ((p.length : Int) + 1) = ((p.length + 1 : Nat) : Int) := w64s (by omega)
  rw [hw, rq_true (by rw [dT (by omega), dT (by omega), dT (by omega), dT (by omega), dT (by omega)]; rfl), Int.toNat_natCast]
  refine loopF_tot _ (fun s : Int × List Bool => ∃ k : Nat, s.1 = (k : Int) ∧ k ≤ p.length ∧ s.2.length = p.length + 1) (fun s => p.length - s.1.toNat) ?_ F _ ⟨0, rfl, by omega, by simp⟩ (by simp; omega)
  rintro ⟨ii, s2⟩ ⟨k, h0, hk, hl⟩ rc hrc
  dsimp only at h0 hl ⊢
  subst h0
  by_cases hk : k < p.length
  · rw [ct (by omega), rq_ix hk, rq2 (by omega) (by omega), Int.toNat_natCast, gd (l := p) hk, w64s (by omega)]
    have hgo : ∀ s3 : List Bool, s3.length = p.length + 1 → ∃ s2 : List Bool, s2.length = p.length + 1 ∧ rc (((k + 1 : Nat) : Int), s3) = some s2 := fun s3 h3 => hrc _ ⟨k + 1, rfl, by omega, h3⟩ (by simp; omega)
    cases st.getD k false with
    | false => exact hgo _ hl
    | true =>
      rw [Bool.not_true, cond_false]
      cases (p[k].fKind == 3) with
      | true =>
        rw [cond_true, rq2 (by omega) (by omega)]
        exact hgo _ (by simpa using hl)
      | false =>
        obtain ⟨r, hr⟩ := fits_tot F p[k] b (by omega) (hit _ (List.getElem_mem hk))
        rw [cond_false, hr, Option.bind_some]
        cases r with
        | false => exact hgo _ hl
        | true =>
          rw [cond_true, rq2 (by omega) (by omega)]
          exact hgo _ (by simpa using hl)
  · rw [cf (by omega)]
    obtain ⟨s3, h3, h4⟩ := spread_tot F p s2 (by omega) hp hl
    rw [h4]
    exact ⟨_, h3, rfl⟩
theorem match_tot (F : Nat) (p : List TPatItem) (n : List UInt8) (hF : p.length + 300 < F) (hF2 : n.length < F) (hn : n.length < 100000) (hp : p.length < 100000) (hit : ∀ it ∈ p, ItOk it) : ∃ b, pattern_Match F p n = some b := by
  unfold pattern_Match pattern_search
  obtain ⟨v, hv⟩ := valid_tot F p hF hp hit
  rw [hv, Option.bind_some]
  cases v with
  | false => exact ⟨_, rfl⟩
  | true =>
    have hw : w64 ((p.length : Int) + 1) = ((p.length + 1 : Nat) : Int) := w64s (by omega)
    rw [hw, Bool.not_true, cond_false, rq_true (by rw [dT (by omega), dT (by omega), dT (by omega), dT (by omega), dT (by omega)]; rfl), Int.toNat_natCast, rq1 (by simp)]
    obtain ⟨s0, h1, h2⟩ := spread_tot F p ((List.replicate (p.length + 1) false).set 0 true) (by omega) hp (by simp)
    rw [h2, Option.bind_some]
    have hsw : ∀ x : Option (Int × Bool), (∃ r, True ∧ x = some r) → ∃ b, ((x.bind fun x3 => some (x3.1, x3.2)).bind fun x1 => some x1.2) = some b := by
      rintro x ⟨r, -, rfl⟩
      exact ⟨_, rfl⟩
    refine hsw _ (loopF_tot (R := Int × Bool) (fun _ => True) (fun s : List Bool × Int × Bool × Int => ∃ k : Nat, s.2.2.2 = (k : Int) ∧ k ≤ n.length ∧ s.1.length = p.length + 1) (fun s => n.length - s.2.2.2.toNat) ?_ F (s0, 0, false, 0) ⟨0, rfl, by omega, h1⟩ (by simp; omega))
    · rintro ⟨st, sz, fd, ii⟩ ⟨k, h0, hk, hl⟩ rc hrc
      dsimp only at h0 hl ⊢
      subst h0
      rw [rq2 (by omega) (by omega), cond_som, Option.bind_some]
      have hrest : ∀ x6 : Int × Bool, ∃ r : Int × Bool, True ∧ (((cond ((k : Int) == (n.length : Int)) (some true) ((slices_Contains_2 F st true).bind fun x9 => some (!x9)) : Option Bool).bind fun x8 =>
          cond x8 (some (x6.1, x6.2)) (rq ((decide (0 ≤ (k : Int))) && (decide ((k : Int) < (n.length : Int)))) ((pattern_advance_1 F p st ((n.getD (Int.toNat (k : Int)) 0).toNat : Int)).bind fun x10 => rc (x10, x6.1, x6.2, w64 ((k : Int) + 1)))))) = some r := by
        intro x6
        obtain ⟨c, hc⟩ := contains_tot F st (by omega) (by omega)
        rw [hc, Option.bind_some]
        by_cases hkn : k < n.length
        · rw [show ((k : Int) == (n.length : Int)) = false by simp; omega, cond_false, Option.bind_some]
          cases c with
          | false => exact ⟨_, trivial, rfl⟩
          | true =>
            obtain ⟨s4, h4, h5⟩ := advance_tot F p st ((n.getD (Int.toNat (k : Int)) 0).toNat : Int) hF hp hit hl
            rw [Bool.not_true, cond_false, rq_ix hkn, h5, Option.bind_some, w64s (by omega)]
            exact hrc _ ⟨k + 1, rfl, by omega, h4⟩ (by simp; omega)
        · rw [show ((k : Int) == (n.length : Int)) = true by simp; omega]
          exact ⟨_, trivial, rfl⟩
      cases (cond (st.getD (Int.toNat (p.length : Int)) false) (decide ((n.length : Int) ≤ (k : Int))) false) with
      | true => exact hrest ((k : Int), true)
      | false => exact hrest (sz, fd)
end Go.Proofs.YteagcbkkonabbaaGreatDoor
