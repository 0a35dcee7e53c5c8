import Derived.Test.YteagcbkkonabbaaGreatDoorPq
namespace Go.Proofs.YteagcbkkonabbaaGreatDoor
open Go.RT
set_option linter.all false
set_option maxRecDepth 100000
theorem loopF_tot {σ R : Type} {body : (σ → Option R) → σ → Option R} (Q : R → Prop) (P : σ → Prop) (m : σ → Nat)
    (hs : ∀ s, P s → ∀ rc, (∀ s', P s' → m s' < m s → ∃ r, Q r ∧ rc s' = some r) → ∃ r, Q r ∧ body rc s = some r) : ∀ (F : Nat) (s : σ), P s → m s < F → ∃ r, Q r ∧ loopF body F s = some r
  | 0, s, _, h => by omega
  | F + 1, s, hP, h => hs s hP (loopF body F) fun s' h1 h2 => loopF_tot Q P m hs F s' h1 (by omega)
def ChOk (x : List Tchar) : Prop := ∀ e ∈ x, 0 ≤ e.fb ∧ e.fb ≤ 255
theorem chars_ok (l : List TRun) : ChOk (l.flatMap chR) := by
  intro e he
  obtain ⟨r, -, he⟩ := List.mem_flatMap.1 he
  unfold chR at he
  cases hc : clsB r.fClass <;> rw [hc] at he
  · obtain ⟨b, -, rfl⟩ := List.mem_map.1 (show e ∈ r.fText.map _ from he)
    have := b.toNat_lt
    dsimp only
    omega
  · cases he
theorem ChOk.at {x : List Tchar} (h : ChOk x) {i : Nat} (hi : i < x.length) : 0 ≤ (x.getD i dTchar).fb ∧ (x.getD i dTchar).fb ≤ 255 := by
  rw [gd hi]; exact h _ (List.getElem_mem hi)
def lowA (e : Tchar) : Bool := e.factive && (decide (97 ≤ e.fb) && decide (e.fb ≤ 122))
def runC (x : List Tchar) (i : Nat) : List Int := ((x.drop i).takeWhile lowA).map fun e => e.fb
def isName (n : List UInt8) : Bool := n == [97, 108, 112, 104, 97] || (n == [100, 105, 103, 105, 116] || (n == [97, 108, 110, 117, 109] || (n == [117, 112, 112, 101, 114] || (n == [108, 111, 119, 101, 114] || (n == [115, 112, 97, 99, 101] || (n == [98, 108, 97, 110, 107] || n == [112, 117, 110, 99, 116]))))))
def classT (x : List Tchar) (i : Nat) : List UInt8 × Int × Bool :=
  cond ((isC x i 91 && isC x (i + 1) 58) && ((isC x (i + 2 + (runC x (i + 2)).length) 58 && isC x (i + 2 + (runC x (i + 2)).length + 1) 93) && isName (toBytes (runC x (i + 2)))))
    (toBytes (runC x (i + 2)), ((i + 2 + (runC x (i + 2)).length + 2 : Nat) : Int), true) ([], 0, false)
theorem run_le (x : List Tchar) (i : Nat) : (runC x i).length ≤ x.length - i := by
  unfold runC
  rw [List.length_map]
  have := (List.takeWhile_sublist lowA (l := x.drop i)).length_le
  rw [List.length_drop] at this
  exact this
theorem tw_in {p : Tchar → Bool} : ∀ (l : List Tchar) (k : Nat) (h : k < (l.takeWhile p).length), ∃ hk : k < l.length, (l.takeWhile p)[k] = l[k] ∧ p l[k] = true
  | [], k, h => by simp at h
  | a :: l, k, h => by
    cases hp : p a with
    | false => simp [List.takeWhile, hp] at h
    | true =>
      cases k with
      | zero => exact ⟨by simp, by simp [List.takeWhile, hp], by simpa using hp⟩
      | succ k =>
        have h' : k < (l.takeWhile p).length := by simpa [List.takeWhile, hp] using h
        obtain ⟨h1, h2, h3⟩ := tw_in l k h'
        exact ⟨by simpa using h1, by simp [List.takeWhile, hp, h2], by simpa using h3⟩
theorem tw_end {p : Tchar → Bool} : ∀ (l : List Tchar) (h : (l.takeWhile p).length < l.length), p l[(l.takeWhile p).length] = false
  | [], h => by simp at h
  | a :: l, h => by
    cases hp : p a with
    | false => simp [List.takeWhile, hp]
    | true =>
      have h' : (l.takeWhile p).length < l.length := by simpa [List.takeWhile, hp] using h
      have := tw_end l h'
      simpa [List.takeWhile, hp] using this
theorem run_at (x : List Tchar) (i k : Nat) (h : k < (runC x i).length) : i + k < x.length ∧ (runC x i).getD k 0 = (x.getD (i + k) dTchar).fb ∧ lowA (x.getD (i + k) dTchar) = true := by
  unfold runC at h ⊢
  rw [List.length_map] at h
  obtain ⟨h1, h2, h3⟩ := tw_in (p := lowA) (x.drop i) k h
  rw [List.length_drop] at h1
  refine ⟨by omega, ?_, ?_⟩
  · rw [gd (by rw [List.length_map]; exact h), List.getElem_map, h2, List.getElem_drop, gd (by omega)]
  · rw [gd (by omega), ← List.getElem_drop (h := by rw [List.length_drop]; omega)]; exact h3
theorem run_end (x : List Tchar) (i : Nat) (h : i + (runC x i).length < x.length) : lowA (x.getD (i + (runC x i).length) dTchar) = false := by
  unfold runC at h ⊢
  rw [List.length_map] at h ⊢
  have := tw_end (p := lowA) (x.drop i) (by rw [List.length_drop]; omega)
  rw [List.getElem_drop] at this
  rw [gd (by omega)]
  exact this
theorem nm_or (a b : Bool) (x : Option Bool) (hb : x = some b) : cond a (some a) x = some (a || b) := by subst hb; cases a <;> rfl
theorem class_eq (F : Nat) (x : List Tchar) (i : Nat) (hF : x.length + 10 < F) (hx : x.length < 1000000) : pattern_class F x (i : Int) = some (classT x i) ∨ 1000000 ≤ i := by
  by_cases hi : 1000000 ≤ i
  · exact .inr hi
  left
  unfold pattern_class classT
  rw [pis_eq, Option.bind_some, show w64 ((i : Int) + 1) = ((i + 1 : Nat) : Int) from w64s (by omega), pis_eq]
  cases h1 : isC x i 91 with
  | false => rfl
  | true =>
    cases h2 : isC x (i + 1) 58 with
    | false => rfl
    | true =>
      simp only [Bool.not_true, cond_false, Option.bind_some, Bool.and_self, Bool.true_and]
      have hw2 : w64 ((i : Int) + 2) = ((i + 2 : Nat) : Int) := by rw [w64_in (by omega)]; omega
      rw [hw2]
      have hrl := run_le x (i + 2)
      generalize hr : runC x (i + 2) = r at hrl
      have hat := run_at x (i + 2)
      have hend := run_end x (i + 2)
      rw [hr] at hat hend
      refine loopF_hoare (fun s : Int × List Int => ∃ k : Nat, s.1 = ((i + 2 + k : Nat) : Int) ∧ k ≤ r.length ∧ s.2 = r.take k) (fun s => (i + 2 + r.length) - s.1.toNat) ?_ F _ ⟨0, rfl, by omega, by simp⟩ (by simp; omega)
      rintro ⟨ii, nm⟩ ⟨k, h0, hk, hn⟩
      dsimp only at h0 hn ⊢
      subst h0
      by_cases hk : k < r.length
      · left
        obtain ⟨g1, g2, g3⟩ := hat k hk
        have hnl : nm.length = k := by rw [hn, List.length_take]; omega
        refine ⟨(((i + 2 + (k + 1) : Nat) : Int), r.take (k + 1)), ⟨k + 1, rfl, by omega, rfl⟩, by simp; omega, fun rc => ?_⟩
        unfold lowA at g3
        simp only [Bool.and_eq_true] at g3
        obtain ⟨g3, g4, g5⟩ := g3
        rw [ct (by omega), rq_ix g1, Int.toNat_natCast, g3, Option.bind_some, cond_true, rq_ix g1, g4, Option.bind_some, cond_true, rq_ix g1, g5, Option.bind_some, cond_true, rq_ix g1, rq_cap (by simp; omega) (by omega), w64s (by omega), ← g2, gd hk, List.take_succ_eq_append_getElem hk, ← hn]
        rfl
      · right
        obtain rfl : k = r.length := by omega
        intro rc
        rw [List.take_length] at hn
        subst hn
        have e1 : (((cond (decide (((i + 2 + nm.length : Nat) : Int) < (x.length : Int))) (rq (decide (0 ≤ ((i + 2 + nm.length : Nat) : Int)) && decide (((i + 2 + nm.length : Nat) : Int) < (x.length : Int))) (some (x.getD (Int.toNat ((i + 2 + nm.length : Nat) : Int)) dTchar).factive)) (some false)) : Option Bool).bind fun x6 =>
            (cond x6 (rq (decide (0 ≤ ((i + 2 + nm.length : Nat) : Int)) && decide (((i + 2 + nm.length : Nat) : Int) < (x.length : Int))) (some (decide (97 ≤ (x.getD (Int.toNat ((i + 2 + nm.length : Nat) : Int)) dTchar).fb)))) (some false) : Option Bool).bind fun x7 =>
            (cond x7 (rq (decide (0 ≤ ((i + 2 + nm.length : Nat) : Int)) && decide (((i + 2 + nm.length : Nat) : Int) < (x.length : Int))) (some (decide ((x.getD (Int.toNat ((i + 2 + nm.length : Nat) : Int)) dTchar).fb ≤ 122)))) (some false) : Option Bool)) = some false := by
          by_cases hl : i + 2 + nm.length < x.length
          · have := hend hl
            unfold lowA at this
            rw [ct (by omega), rq_ix hl, Int.toNat_natCast]
            simp only [rq_ix hl]
            revert this
            cases (x.getD (i + 2 + nm.length) dTchar).factive with
            | false => intro _; rfl
            | true =>
              cases decide (97 ≤ (x.getD (i + 2 + nm.length) dTchar).fb) with
              | false => intro _; rfl
              | true =>
                intro h
                have h : decide ((x.getD (i + 2 + nm.length) dTchar).fb ≤ 122) = false := h
                rw [h]; rfl
          · rw [cf (by omega)]; rfl
        have e2 : ∀ {β : Type} (A : Option Bool) (B : Bool → Option Bool) (C : Bool → Option Bool) (k : Bool → Option β), (A.bind fun x6 => (B x6).bind fun x7 => (C x7).bind k) = ((A.bind fun x6 => (B x6).bind fun x7 => C x7)).bind k := by
          intro β A B C k
          cases A <;> simp [Option.bind_assoc]
        rw [e2, e1, Option.bind_some, cond_false, pis_eq, Option.bind_some, w64s (by omega), pis_eq]
        cases isC x (i + 2 + nm.length) 58 with
        | false => rfl
        | true =>
          cases isC x (i + 2 + nm.length + 1) 93 with
          | false => rfl
          | true =>
            simp only [Bool.not_true, cond_false, Option.bind_some, Bool.and_self, Bool.true_and]
            rw [nm_or _ _ _ (nm_or _ _ _ (nm_or _ _ _ (nm_or _ _ _ (nm_or _ _ _ (nm_or _ _ _ (nm_or _ _ _ rfl)))))), Option.bind_some]
            have hw3 : w64 (((i + 2 + nm.length : Nat) : Int) + 2) = ((i + 2 + nm.length + 2 : Nat) : Int) := by rw [w64_in (by omega)]; omega
            rw [hw3, cond_som]
            rfl
theorem isC_lt {x : List Tchar} {i : Nat} {b : Int} (h : isC x i b = true) : i < x.length := by
  unfold isC at h
  rw [Bool.and_eq_true] at h
  exact of_decide_eq_true h.1
theorem within_tot (F : Nat) (n : List UInt8) (c : Int) : ∃ b, pattern_within F n c = some b := by
  unfold pattern_within
  simp only [cond_som, Option.bind_some]
  exact ⟨_, rfl⟩
theorem member_tot (F : Nat) (x : List Tchar) (i : Nat) (set : List Bool) (hF : x.length + 1000 < F) (hx : x.length < 1000000) (hc : ChOk x) (hi : i < x.length) (hs : set.length = 256) :
    ∃ r : Int × List Bool, (∃ e : Nat, r.1 = (e : Int) ∧ i < e ∧ e ≤ x.length ∧ r.2.length = 256) ∧ pattern_member F x (i : Int) set = some r := by
  unfold pattern_member
  obtain hcl | hcl := class_eq F x i (by omega) hx
  rotate_left
  · omega
  rw [hcl, Option.bind_some]
  cases h1 : (classT x i).2.2 with
  | true =>
    rw [cond_true]
    unfold classT at h1 ⊢
    cases h2 : ((isC x i 91 && isC x (i + 1) 58) && ((isC x (i + 2 + (runC x (i + 2)).length) 58 && isC x (i + 2 + (runC x (i + 2)).length + 1) 93) && isName (toBytes (runC x (i + 2))))) with
    | false => rw [h2] at h1; cases h1
    | true =>
      rw [cond_true]
      simp only [Bool.and_eq_true] at h2
      have h3 := isC_lt h2.2.1.2
      refine loopF_tot _ (fun s : Int × List Bool => ∃ k : Nat, s.1 = (k : Int) ∧ k ≤ 256 ∧ s.2.length = 256) (fun s => 256 - s.1.toNat) ?_ F _ ⟨0, rfl, by omega, hs⟩ (by simp; omega)
      rintro ⟨ii, st⟩ ⟨k, h0, hk, hl⟩ rc hrc
      dsimp only at h0 hl ⊢
      subst h0
      by_cases hk : k < 256
      · obtain ⟨b, hb⟩ := within_tot F (toBytes (runC x (i + 2))) (k : Int)
        rw [ct (by omega), hb, Option.bind_some, w64s (by omega)]
        cases b with
        | false => exact hrc _ ⟨k + 1, rfl, by omega, hl⟩ (by simp; omega)
        | true =>
          rw [cond_true, rq3 (by omega) (by omega) (by omega)]
          exact hrc _ ⟨k + 1, rfl, by omega, by simpa using hl⟩ (by simp; omega)
      · rw [cf (by omega)]
        exact ⟨_, ⟨_, rfl, by omega, by omega, hl⟩, rfl⟩
  | false =>
    have hw1 : w64 ((i : Int) + 1) = ((i + 1 : Nat) : Int) := w64s (by omega)
    have hw2 : w64 ((i : Int) + 2) = ((i + 2 : Nat) : Int) := by rw [w64_in (by omega)]; omega
    have hw3 : w64 ((i : Int) + 3) = ((i + 3 : Nat) : Int) := by rw [w64_in (by omega)]; omega
    rw [cond_false, hw1, hw2, hw3, pis_eq, Option.bind_some, pis_eq, cond_som, Option.bind_some]
    have e1 : cond (isC x (i + 1) 45) (decide (((i + 2 : Nat) : Int) < (x.length : Int)), set) (false, set) = ((isC x (i + 1) 45 && decide (((i + 2 : Nat) : Int) < (x.length : Int))), set) := by cases isC x (i + 1) 45 <;> rfl
    rw [e1]
    dsimp only
    rw [Option.bind_some, cond_som, Option.bind_some]
    have e2 : ∀ a b : Bool, cond a (b, set) (false, set) = ((a && b), set) := by intro a b; cases a <;> rfl
    rw [e2]
    dsimp only
    have hb := hc.at hi
    cases h4 : ((isC x (i + 1) 45 && decide (((i + 2 : Nat) : Int) < (x.length : Int))) && !isC x (i + 2) 93) with
    | false =>
      rw [cond_false, rq_ix hi, Int.toNat_natCast, rq3 (by omega) (by omega) (by omega)]
      exact ⟨_, ⟨_, rfl, by omega, by omega, by simpa using hs⟩, rfl⟩
    | true =>
      simp only [Bool.and_eq_true, decide_eq_true_eq] at h4
      have h5 : i + 2 < x.length := by omega
      have hb2 := hc.at h5
      rw [cond_true, rq_ix hi, Int.toNat_natCast, Int.toNat_natCast, w64_in (x := (x.getD i dTchar).fb) (by omega), w64_in (x := (x.getD (i + 2) dTchar).fb) (by omega)]
      generalize (x.getD i dTchar).fb = lo at hb
      generalize (x.getD (i + 2) dTchar).fb = hi2 at hb2
      refine loopF_tot _ (fun s : Int × List Bool => 0 ≤ s.1 ∧ s.1 ≤ 256 ∧ s.2.length = 256) (fun s => 256 - s.1.toNat) ?_ F _ ⟨hb.1, by omega, hs⟩ (by simp; omega)
      rintro ⟨ii, st⟩ ⟨h6, h7, hl⟩ rc hrc
      dsimp only at h6 h7 hl ⊢
      rw [rq_ix h5]
      by_cases hle : ii ≤ hi2
      · rw [ct hle, rq3 (by omega) (by omega) (by omega), w64_in (by omega)]
        exact hrc _ ⟨by dsimp only; omega, by dsimp only; omega, by simpa using hl⟩ (by dsimp only; omega)
      · rw [cf hle]
        exact ⟨_, ⟨_, rfl, by omega, by omega, hl⟩, rfl⟩
theorem spans_tot (F : Nat) (set : List Bool) (hF : 1000 < F) (hs : set.length = 256) : ∃ l : List TSpan, l.length ≤ 256 ∧ pattern_spans F set = some l := by
  unfold pattern_spans
  rw [rq_true (by rw [hs]; rfl)]
  refine loopF_tot _ (fun s : List TSpan × Int × List Bool => ∃ k : Nat, s.2.1 = (k : Int) ∧ k ≤ 256 ∧ s.1.length ≤ k ∧ s.2.2.length = 256) (fun s => 256 - s.2.1.toNat) ?_ F _ ⟨0, rfl, by omega, by simp, hs⟩ (by simp; omega)
  rintro ⟨acc, ii, st⟩ ⟨k, h0, hk, ha, hl⟩ rc hrc
  dsimp only at h0 ha hl ⊢
  subst h0
  by_cases hk : k < 256
  · rw [ct (by omega), rq3 (by omega) (by omega) (by omega), w64s (by omega)]
    cases hb : (!(st.getD (Int.toNat (k : Int)) false)) with
    | true => exact hrc _ ⟨k + 1, rfl, by omega, by dsimp only; omega, hl⟩ (by simp; omega)
    | false =>
      rw [cond_false]
      refine loopF_tot _ (fun s : Int × List Bool => ∃ j : Nat, s.1 = (j : Int) ∧ k ≤ j ∧ j ≤ 255 ∧ s.2.length = 256) (fun s => 256 - s.1.toNat) ?_ F _ ⟨k, rfl, by omega, by omega, hl⟩ (by simp; omega)
      rintro ⟨jj, st2⟩ ⟨j, h0, hkj, hj, hl2⟩ rc2 hrc2
      dsimp only at h0 hl2 ⊢
      subst h0
      have hend : ∀ st3 : List Bool, st3.length = 256 → ∃ r : List TSpan, r.length ≤ 256 ∧ rq ((decide (acc.length + ([(TSpan.mk (IntKind.wrap .u8 (k : Int)) (IntKind.wrap .u8 (j : Int)))] : List TSpan).length ≤ 9223372036854775807)) && (decide ((acc.length + ([(TSpan.mk (IntKind.wrap .u8 (k : Int)) (IntKind.wrap .u8 (j : Int)))] : List TSpan).length) * 2 ≤ 140737488355328))) (rc (acc ++ ([(TSpan.mk (IntKind.wrap .u8 (k : Int)) (IntKind.wrap .u8 (j : Int)))] : List TSpan), w64 ((j : Int) + 1), st3)) = some r := by
        intro st3 h3
        rw [rq_cap (by simp; omega) (by omega), w64s (by omega)]
        exact hrc _ ⟨j + 1, rfl, by omega, by simp; omega, h3⟩ (by simp; omega)
      by_cases hj2 : j < 255
      · rw [ct (by omega), w64s (by omega), rq3 (by omega) (by omega) (by omega), Option.bind_some]
        dsimp only
        cases st2.getD (Int.toNat ((j + 1 : Nat) : Int)) false with
        | true => exact hrc2 _ ⟨j + 1, rfl, by omega, by omega, hl2⟩ (by simp; omega)
        | false =>
          rw [cond_false]
          have := hend st2 hl2
          rw [w64s (by omega)] at this
          exact this
      · rw [cf (by omega), Option.bind_some]
        exact hend st2 hl2
  · rw [cf (by omega)]
    exact ⟨_, by omega, rfl⟩
def ItOk (p : TPatItem) : Prop := (p.fKind = 1 → 0 < p.fText.length) ∧ p.fText.length ≤ 10 ∧ p.fSet.length ≤ 256
theorem bracket_tot (F : Nat) (x : List Tchar) (i : Nat) (hF : x.length + 1000 < F) (hx : x.length < 100000) (hc : ChOk x) (hi : i < x.length) :
    ∃ r : TPatItem × Int × Bool, (r.2.2 = true → ItOk r.1 ∧ ∃ e : Nat, r.2.1 = (e : Int) ∧ i < e ∧ e ≤ x.length) ∧ pattern_bracket F x (i : Int) = some r := by
  unfold pattern_bracket
  have hw1 : w64 ((i : Int) + 1) = ((i + 1 : Nat) : Int) := w64s (by omega)
  rw [hw1, pis_eq, Option.bind_some, pis_eq, Option.bind_some, cond_som, Option.bind_some, w64s (by omega), cond_som, Option.bind_some]
  obtain ⟨s0, hs0, hs1, hs2⟩ : ∃ s0 : Nat, cond (cond (isC x (i + 1) 33) true (isC x (i + 1) 94)) (((i + 1 + 1 : Nat) : Int)) ((i + 1 : Nat) : Int) = (s0 : Int) ∧ i < s0 ∧ s0 ≤ i + 2 := by
    cases (cond (isC x (i + 1) 33) true (isC x (i + 1) 94))
    · exact ⟨i + 1, rfl, by omega, by omega⟩
    · exact ⟨i + 2, rfl, by omega, by omega⟩
  rw [hs0]
  refine loopF_tot _ (fun s : Int × Bool × List Bool => ∃ k : Nat, s.1 = (k : Int) ∧ i < k ∧ k ≤ x.length + 2 ∧ s.2.2.length = 256) (fun s => x.length + 2 - s.1.toNat) ?_ F _ ⟨s0, rfl, hs1, by omega, by simp⟩ (by simp; omega)
  rintro ⟨ii, fi, st⟩ ⟨k, h0, hk, hk2, hl⟩ rc hrc
  dsimp only at h0 hl ⊢
  subst h0
  by_cases hk3 : k < x.length
  · rw [ct (by omega), pis_eq, Option.bind_some, cond_som, Option.bind_some]
    have e2 : cond (isC x k 93) (!fi, st) (false, st) = ((isC x k 93 && !fi), st) := by cases isC x k 93 <;> rfl
    rw [e2]
    dsimp only
    cases (isC x k 93 && !fi) with
    | true =>
      obtain ⟨l, h1, h2⟩ := spans_tot F st (by omega) hl
      rw [cond_true, rq_true (by rw [hl]; rfl), h2, Option.bind_some, w64s (by omega)]
      exact ⟨_, fun _ => ⟨⟨(fun h => absurd h (show ¬ ((4 : Int) = 1) by decide)), by simp, h1⟩, k + 1, rfl, by omega, by omega⟩, rfl⟩
    | false =>
      obtain ⟨r, ⟨e, h1, h2, h3, h4⟩, h5⟩ := member_tot F x k st (by omega) (by omega) hc hk3 hl
      rw [cond_false, h5, Option.bind_some]
      exact hrc _ ⟨e, h1, by omega, by omega, h4⟩ (by dsimp only; rw [h1]; simp; omega)
  · rw [cf (by omega)]
    exact ⟨_, (fun h => by cases h), rfl⟩
theorem compile_tot (F : Nat) (l : List TRun) (hF : l.length < F) (hF2 : szL l + 1000 < F) (h1 : l.length < 1000000000) (h2 : szL l ≤ 10000) : ∃ p : List TPatItem, ((∀ it ∈ p, ItOk it) ∧ p.length ≤ szL l) ∧ pattern_Compile F l = some p := by
  unfold pattern_Compile
  rw [chars_eq F l hF (by omega) h1 (by omega), Option.bind_some]
  have hx : (l.flatMap chR).length ≤ szL l := fl_len _ chR_len _
  have hc := chars_ok l
  generalize (l.flatMap chR) = x at hx hc
  refine loopF_tot _ (fun s : List TPatItem × Int => ∃ k : Nat, s.2 = (k : Int) ∧ k ≤ x.length ∧ s.1.length ≤ k ∧ ∀ it ∈ s.1, ItOk it) (fun s => x.length - s.2.toNat) ?_ F _ ⟨0, rfl, by omega, by simp, fun it h => by cases h⟩ (by simp; omega)
  rintro ⟨acc, ii⟩ ⟨k, h0, hk, ha, hit⟩ rc hrc
  dsimp only at h0 ha hit ⊢
  subst h0
  have hadd : ∀ (it : TPatItem) (e : Nat), ItOk it → k < e → e ≤ x.length → ∃ p : List TPatItem, ((∀ it ∈ p, ItOk it) ∧ p.length ≤ szL l) ∧ rc (acc ++ [it], (e : Int)) = some p := by
    intro it e h3 h4 h5
    refine hrc _ ⟨e, rfl, h5, by simp; omega, fun y hy => ?_⟩ (by simp; omega)
    rcases List.mem_append.1 hy with hy | hy
    · exact hit y hy
    · obtain rfl := List.mem_singleton.1 hy; exact h3
  by_cases hk3 : k < x.length
  · rw [ct (by omega)]
    have hrest : ∃ p : List TPatItem, ((∀ it ∈ p, ItOk it) ∧ p.length ≤ szL l) ∧ ((pattern_is F x (k : Int) 42).bind fun x7 =>
        cond x7
        (rq ((decide (acc.length + ([(TPatItem.mk 3 [] false [])] : List TPatItem).length ≤ 9223372036854775807)) && (decide ((acc.length + ([(TPatItem.mk 3 [] false [])] : List TPatItem).length) * 56 ≤ 140737488355328))) (rc (acc ++ ([(TPatItem.mk 3 [] false [])] : List TPatItem), w64 ((k : Int) + 1))))
        ((pattern_is F x (k : Int) 63).bind fun x8 =>
        cond x8
        (rq ((decide (acc.length + ([(TPatItem.mk 2 [] false [])] : List TPatItem).length ≤ 9223372036854775807)) && (decide ((acc.length + ([(TPatItem.mk 2 [] false [])] : List TPatItem).length) * 56 ≤ 140737488355328))) (rc (acc ++ ([(TPatItem.mk 2 [] false [])] : List TPatItem), w64 ((k : Int) + 1))))
        (rq ((decide (0 ≤ (k : Int))) && (decide ((k : Int) < (x.length : Int)))) (rq ((decide (acc.length + ([(TPatItem.mk 1 (toBytes ([(x.getD (Int.toNat (k : Int)) dTchar).fb] : List Int)) false [])] : List TPatItem).length ≤ 9223372036854775807)) && (decide ((acc.length + ([(TPatItem.mk 1 (toBytes ([(x.getD (Int.toNat (k : Int)) dTchar).fb] : List Int)) false [])] : List TPatItem).length) * 56 ≤ 140737488355328))) (rc (acc ++ ([(TPatItem.mk 1 (toBytes ([(x.getD (Int.toNat (k : Int)) dTchar).fb] : List Int)) false [])] : List TPatItem), w64 ((k : Int) + 1))))))) = some p := by
      rw [pis_eq, Option.bind_some, pis_eq, Option.bind_some, rq_cap (by simp; omega) (by omega), rq_cap (by simp; omega) (by omega), rq_ix hk3, rq_cap (by simp; omega) (by omega), w64s (by omega)]
      cases isC x k 42 with
      | true => exact hadd _ _ ⟨(fun h => absurd h (by decide)), by simp, by simp⟩ (by omega) (by omega)
      | false =>
        cases isC x k 63 with
        | true => exact hadd _ _ ⟨(fun h => absurd h (by decide)), by simp, by simp⟩ (by omega) (by omega)
        | false => exact hadd _ _ ⟨(fun _ => by simp [toBytes]), by simp [toBytes], by simp⟩ (by omega) (by omega)
    rw [pis_eq, Option.bind_some]
    cases isC x k 91 with
    | false => exact hrest
    | true =>
      obtain ⟨r, h3, h4⟩ := bracket_tot F x k (by omega) (by omega) hc hk3
      rw [cond_true, h4, Option.bind_some]
      cases h5 : r.2.2 with
      | false => exact hrest
      | true =>
        obtain ⟨g1, e, g2, g3, g4⟩ := h3 h5
        rw [cond_true, rq_cap (by simp; omega) (by omega), g2]
        obtain ⟨p, hp, hq⟩ := hadd r.1 e g1 g3 g4
        rw [hq]
        exact ⟨p, hp, rfl⟩
  · rw [cf (by omega)]
    exact ⟨_, ⟨hit, by omega⟩, rfl⟩
end Go.Proofs.YteagcbkkonabbaaGreatDoor
