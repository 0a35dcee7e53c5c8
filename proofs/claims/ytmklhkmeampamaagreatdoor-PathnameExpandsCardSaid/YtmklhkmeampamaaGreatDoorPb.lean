import Derived.Test.YtmklhkmeampamaaGreatDoorPz
import Derived.Test.YtmklhkmeampamaaGreatDoorPe
namespace Go.Proofs.YtmklhkmeampamaaGreatDoor
open Go.RT
set_option linter.all false
set_option maxRecDepth 100000
def toE (e : Tchar) : Telement := Telement.mk e.fb e.factive
theorem elR_chR (r : TRun) : elR r = (chR r).map toE := by
  unfold elR chR
  cases clsB r.fClass
  · rw [cond_false, cond_false, List.map_map]; rfl
  · rfl
theorem el_ch (l : List TRun) : l.flatMap elR = (l.flatMap chR).map toE := by
  induction l with
  | nil => rfl
  | cons r l ih => rw [List.flatMap_cons, List.flatMap_cons, List.map_append, ih, elR_chR]
theorem isR_map (x : List Tchar) (i : Nat) (b : Int) : isR (x.map toE) i b = isC x i b := by
  unfold isR isC
  rw [List.length_map]
  by_cases h : i < x.length
  · rw [gd (l := x.map toE) (by rw [List.length_map]; exact h), List.getElem_map, gd h]; rfl
  · rw [dF h]; rfl
def saysB (x : List Tchar) (i : Nat) (s : List UInt8) : Bool := (List.range s.length).all fun j => isC x (i + j) ((s.getD j 0).toNat : Int)
theorem says_eq (F : Nat) (x : List Tchar) (i : Nat) (s : List UInt8) (hF : s.length < F) (hi : i < 1000000) (hs : s.length < 1000000) : ref04_says F (x.map toE) (i : Int) s = some (saysB x i s) := by
  unfold ref04_says
  refine loopF_hoare (fun k' : Int => ∃ k : Nat, k' = (k : Int) ∧ k ≤ s.length ∧ ∀ j, j < k → isC x (i + j) ((s.getD j 0).toNat : Int) = true) (fun k' => s.length - k'.toNat) ?_ F _ ⟨0, rfl, by omega, fun j h => by omega⟩ (by simp; omega)
  rintro ii ⟨k, rfl, hk, hj⟩
  by_cases hk : k < s.length
  · have hw : w64 ((i : Int) + (k : Int)) = ((i + k : Nat) : Int) := by rw [w64_in (by omega)]; omega
    cases h : isC x (i + k) ((s.getD k 0).toNat : Int) with
    | true =>
      left
      refine ⟨((k + 1 : Nat) : Int), ⟨k + 1, rfl, by omega, fun j hj2 => ?_⟩, by simp; omega, fun rc => ?_⟩
      · by_cases e : j = k
        · subst e; exact h
        · exact hj j (by omega)
      · rw [ct (by omega), rq_ix hk, hw, is_eq, isR_map, Option.bind_some, Int.toNat_natCast, h, w64s (by omega)]; rfl
    | false =>
      right
      intro rc
      rw [ct (by omega), rq_ix hk, hw, is_eq, isR_map, Option.bind_some, Int.toNat_natCast, h]
      have : saysB x i s = false := by
        unfold saysB
        rw [List.all_eq_false]
        exact ⟨k, List.mem_range.2 hk, by rw [h]; simp⟩
      rw [this]; rfl
  · right
    obtain rfl : k = s.length := by omega
    intro rc
    rw [cf (by omega)]
    have : saysB x i s = true := by
      unfold saysB
      rw [List.all_eq_true]
      intro j hj2
      exact hj j (List.mem_range.1 hj2)
    rw [this]
theorem isC_iff {x : List Tchar} {i : Nat} {b : Int} : isC x i b = true ↔ i < x.length ∧ (x.getD i dTchar).factive = true ∧ (x.getD i dTchar).fb = b := by
  unfold isC
  rw [Bool.and_eq_true, Bool.and_eq_true, decide_eq_true_eq, beq_iff_eq]
theorem says_class (x : List Tchar) (i : Nat) (n : List UInt8) (h5 : n.length = 5) (hlow : ∀ b ∈ n, 97 ≤ b.toNat ∧ b.toNat ≤ 122) :
    saysB x i ((([91, 58] : List UInt8) ++ n) ++ ([58, 93] : List UInt8)) = ((isC x i 91 && isC x (i + 1) 58) && ((isC x (i + 2 + (runC x (i + 2)).length) 58 && isC x (i + 2 + (runC x (i + 2)).length + 1) 93) && runC x (i + 2) == toInts n)) := by
  match n, h5 with
  | [a, b, c, d, e], _ =>
    have ha := hlow a (by simp)
    have hb := hlow b (by simp)
    have hc := hlow c (by simp)
    have hd := hlow d (by simp)
    have he := hlow e (by simp)
    rw [Bool.eq_iff_iff]
    unfold saysB
    rw [show ((([91, 58] : List UInt8) ++ [a, b, c, d, e]) ++ ([58, 93] : List UInt8)).length = 9 from rfl]
    have hexp : ((List.range 9).all fun j => isC x (i + j) ((((([91, 58] : List UInt8) ++ [a, b, c, d, e]) ++ ([58, 93] : List UInt8)).getD j 0).toNat : Int)) = true ↔
        (isC x i 91 = true ∧ isC x (i + 1) 58 = true ∧ isC x (i + 2) (a.toNat : Int) = true ∧ isC x (i + 3) (b.toNat : Int) = true ∧ isC x (i + 4) (c.toNat : Int) = true ∧ isC x (i + 5) (d.toNat : Int) = true ∧ isC x (i + 6) (e.toNat : Int) = true ∧ isC x (i + 7) 58 = true ∧ isC x (i + 8) 93 = true) := by
      rw [List.all_eq_true]
      constructor
      · intro h
        exact ⟨h 0 (by simp), h 1 (by simp), h 2 (by simp), h 3 (by simp), h 4 (by simp), h 5 (by simp), h 6 (by simp), h 7 (by simp), h 8 (by simp)⟩
      · rintro ⟨h0, h1, h2, h3, h4, h5, h6, h7, h8⟩ j hj
        have hj := List.mem_range.1 hj
        match j, hj with
        | 0, _ => exact h0
        | 1, _ => exact h1
        | 2, _ => exact h2
        | 3, _ => exact h3
        | 4, _ => exact h4
        | 5, _ => exact h5
        | 6, _ => exact h6
        | 7, _ => exact h7
        | 8, _ => exact h8
    rw [hexp]
    have hat := run_at x (i + 2)
    have hend := run_end x (i + 2)
    simp only [Bool.and_eq_true, beq_iff_eq]
    constructor
    · rintro ⟨h0, h1, h2, h3, h4, h5, h6, h7, h8⟩
      have g2 := isC_iff.1 h2
      have g3 := isC_iff.1 h3
      have g4 := isC_iff.1 h4
      have g5 := isC_iff.1 h5
      have g6 := isC_iff.1 h6
      have g7 := isC_iff.1 h7
      have hl : ∀ (k : Nat) (v : UInt8), 97 ≤ v.toNat ∧ v.toNat ≤ 122 → (x.getD k dTchar).factive = true ∧ (x.getD k dTchar).fb = (v.toNat : Int) → lowA (x.getD k dTchar) = true := by
        intro k v hv hk
        unfold lowA
        rw [hk.1, hk.2, dT (by omega), dT (by omega)]; rfl
      have hdr : x.drop (i + 2) = x.getD (i + 2) dTchar :: x.getD (i + 3) dTchar :: x.getD (i + 4) dTchar :: x.getD (i + 5) dTchar :: x.getD (i + 6) dTchar :: x.getD (i + 7) dTchar :: x.drop (i + 8) := by
        rw [List.drop_eq_getElem_cons (show i + 2 < x.length by omega), List.drop_eq_getElem_cons (show i + 2 + 1 < x.length by omega), List.drop_eq_getElem_cons (show i + 2 + 1 + 1 < x.length by omega), List.drop_eq_getElem_cons (show i + 2 + 1 + 1 + 1 < x.length by omega), List.drop_eq_getElem_cons (show i + 2 + 1 + 1 + 1 + 1 < x.length by omega), List.drop_eq_getElem_cons (show i + 2 + 1 + 1 + 1 + 1 + 1 < x.length by omega)]
        rw [gd (l := x) (i := i + 2) (by omega), gd (l := x) (i := i + 3) (by omega), gd (l := x) (i := i + 4) (by omega), gd (l := x) (i := i + 5) (by omega), gd (l := x) (i := i + 6) (by omega), gd (l := x) (i := i + 7) (by omega)]
      have hnl : lowA (x.getD (i + 7) dTchar) = false := by
        unfold lowA
        rw [g7.2.2]
        cases (x.getD (i + 7) dTchar).factive <;> rfl
      have hrun : runC x (i + 2) = toInts [a, b, c, d, e] := by
        unfold runC
        rw [hdr]
        simp only [List.takeWhile, hl _ a ha g2.2, hl _ b hb g3.2, hl _ c hc g4.2, hl _ d hd g5.2, hl _ e he g6.2, hnl]
        simp only [List.map_cons, List.map_nil, g2.2.2, g3.2.2, g4.2.2, g5.2.2, g6.2.2]
        rfl
      rw [hrun]
      exact ⟨⟨h0, h1⟩, ⟨h7, h8⟩, rfl⟩
    · rintro ⟨⟨h0, h1⟩, ⟨h7, h8⟩, hr⟩
      rw [hr] at hat h7 h8
      have hk : ∀ (k : Nat) (v : UInt8), k < 5 → (toInts [a, b, c, d, e]).getD k 0 = (v.toNat : Int) → isC x (i + 2 + k) (v.toNat : Int) = true := by
        intro k v hk e1
        obtain ⟨q1, q2, q3⟩ := hat k hk
        unfold lowA at q3
        simp only [Bool.and_eq_true] at q3
        exact isC_iff.2 ⟨q1, q3.1, by rw [← q2]; exact e1⟩
      exact ⟨h0, h1, hk 0 a (by omega) rfl, hk 1 b (by omega) rfl, hk 2 c (by omega) rfl, hk 3 d (by omega) rfl, hk 4 e (by omega) rfl, h7, h8⟩
end Go.Proofs.YtmklhkmeampamaaGreatDoor
namespace Go.Proofs.YtmklhkmeampamaaGreatDoor
open Go.RT
set_option linter.all false
set_option maxRecDepth 100000
def exD (l : List TSpan) (b : Nat) : List TSpan := cond (decide (0 < l.length) && (l.getD (l.length - 1) dTSpan).fHigh + 1 == (b : Int)) (l.set (l.length - 1) (TSpan.mk (l.getD (l.length - 1) dTSpan).fLow (b : Int))) (l ++ [TSpan.mk (b : Int) (b : Int)])
def DD (P : Nat → Bool) : Nat → List TSpan
  | 0 => []
  | k + 1 => cond (P k) (exD (DD P k) k) (DD P k)
theorem exD_len (l : List TSpan) (b : Nat) : (exD l b).length ≤ l.length + 1 := by
  unfold exD
  cases (decide (0 < l.length) && (l.getD (l.length - 1) dTSpan).fHigh + 1 == (b : Int)) <;> simp
theorem DD_len (P : Nat → Bool) : ∀ k, (DD P k).length ≤ k
  | 0 => by simp [DD]
  | k + 1 => by
    have ih := DD_len P k
    have := exD_len (DD P k) k
    unfold DD
    cases P k
    · rw [cond_false]; omega
    · rw [cond_true]; omega
theorem DD_high (P : Nat → Bool) : ∀ k, ∀ s ∈ DD P k, ∃ h : Nat, h < k ∧ s.fHigh = (h : Int) ∧ P h = true
  | 0, s, hs => by cases hs
  | k + 1, s, hs => by
    have ih := DD_high P k
    unfold DD at hs
    cases hP : P k with
    | false =>
      rw [hP, cond_false] at hs
      obtain ⟨h, h1, h2, h3⟩ := ih s hs
      exact ⟨h, by omega, h2, h3⟩
    | true =>
      rw [hP, cond_true] at hs
      unfold exD at hs
      cases hb : (decide (0 < (DD P k).length) && ((DD P k).getD ((DD P k).length - 1) dTSpan).fHigh + 1 == (k : Int)) with
      | true =>
        rw [hb, cond_true] at hs
        rcases List.mem_or_eq_of_mem_set hs with hs | rfl
        · obtain ⟨h, h1, h2, h3⟩ := ih s hs
          exact ⟨h, by omega, h2, h3⟩
        · exact ⟨k, by omega, rfl, hP⟩
      | false =>
        rw [hb, cond_false] at hs
        rcases List.mem_append.1 hs with hs | hs
        · obtain ⟨h, h1, h2, h3⟩ := ih s hs
          exact ⟨h, by omega, h2, h3⟩
        · obtain rfl := List.mem_singleton.1 hs
          exact ⟨k, by omega, rfl, hP⟩
theorem DD_new (P : Nat → Bool) (c : Nat) (h : P c = true) (h0 : c = 0 ∨ P (c - 1) = false) : DD P (c + 1) = DD P c ++ [TSpan.mk (c : Int) (c : Int)] := by
  rw [DD, h, cond_true, exD]
  have : (decide (0 < (DD P c).length) && ((DD P c).getD ((DD P c).length - 1) dTSpan).fHigh + 1 == (c : Int)) = false := by
    by_cases hl : 0 < (DD P c).length
    · rw [dT hl, Bool.true_and]
      have hm : (DD P c).getD ((DD P c).length - 1) dTSpan ∈ DD P c := by
        rw [gd (show (DD P c).length - 1 < (DD P c).length by omega)]
        exact List.getElem_mem _
      obtain ⟨q, q1, q2, q3⟩ := DD_high P c _ hm
      rw [q2]
      rcases h0 with rfl | h0
      · omega
      · have : ((q : Int) + 1 == (c : Int)) = false := by
          rw [beq_eq_false_iff_ne]
          intro e
          obtain rfl : q = c - 1 := by omega
          rw [h0] at q3; cases q3
        exact this
    · rw [dF hl]; rfl
  rw [this, cond_false]
theorem DD_run (P : Nat → Bool) (c : Nat) (h0 : c = 0 ∨ P (c - 1) = false) : ∀ (k : Nat), (∀ j, c ≤ j → j ≤ c + k → P j = true) → DD P (c + k + 1) = DD P c ++ [TSpan.mk (c : Int) ((c + k : Nat) : Int)]
  | 0, h => DD_new P c (h c (Nat.le_refl _) (by omega)) h0
  | k + 1, h => by
    have ih := DD_run P c h0 k fun j h1 h2 => h j h1 (by omega)
    rw [show c + (k + 1) + 1 = (c + k + 1) + 1 by omega, DD, h (c + k + 1) (by omega) (by omega), cond_true, ih, exD]
    have hl : (DD P c ++ [TSpan.mk (c : Int) ((c + k : Nat) : Int)]).length - 1 = (DD P c).length := by simp
    have hg : (DD P c ++ [TSpan.mk (c : Int) ((c + k : Nat) : Int)]).getD ((DD P c ++ [TSpan.mk (c : Int) ((c + k : Nat) : Int)]).length - 1) dTSpan = TSpan.mk (c : Int) ((c + k : Nat) : Int) := by
      rw [hl, List.getD_eq_getElem?_getD, List.getElem?_append_right (Nat.le_refl _)]
      simp
    rw [hg, hl, dT (by simp), Bool.true_and]
    have e : ((TSpan.mk (c : Int) ((c + k : Nat) : Int)).fHigh + 1 == ((c + k + 1 : Nat) : Int)) = true := by
      rw [beq_iff_eq]; show ((c + k : Nat) : Int) + 1 = _; omega
    rw [e, cond_true, List.set_append_right _ _ (Nat.le_refl _)]
    simp
    omega
theorem run_ex (P : Nat → Bool) : ∀ (m c : Nat), c + m = 255 → P c = true → ∃ k, c + k ≤ 255 ∧ (∀ j, c ≤ j → j ≤ c + k → P j = true) ∧ (c + k = 255 ∨ P (c + k + 1) = false)
  | 0, c, h, hP => ⟨0, by omega, (fun j h1 h2 => (show j = c by omega) ▸ hP), .inl (by omega)⟩
  | m + 1, c, h, hP => by
    cases h1 : P (c + 1) with
    | false => exact ⟨0, by omega, (fun j h1 h2 => (show j = c by omega) ▸ hP), .inr h1⟩
    | true =>
      obtain ⟨k, g1, g2, g3⟩ := run_ex P m (c + 1) (by omega) h1
      refine ⟨k + 1, by omega, fun j h2 h3 => ?_, ?_⟩
      · by_cases e : j = c
        · subst e; exact hP
        · exact g2 j (by omega) (by omega)
      · rcases g3 with g3 | g3
        · exact .inl (by omega)
        · exact .inr (by rw [show c + (k + 1) + 1 = c + 1 + k + 1 by omega]; exact g3)
theorem wrapU {c : Nat} (h : c < 256) : IntKind.wrap .u8 (c : Int) = (c : Int) := by
  show ((c : Int) % 256) = c
  omega
theorem spans_eq (F : Nat) (set : List Bool) (hF : 1000 < F) (hs : set.length = 256) : pattern_spans F set = some (DD (fun c => set.getD c false) 256) := by
  unfold pattern_spans
  rw [rq_true (by rw [hs]; rfl)]
  generalize hP : (fun c => set.getD c false) = P
  have hPc : ∀ c, set.getD c false = P c := fun c => by rw [← hP]
  refine loopF_hoare (fun s : List TSpan × Int × List Bool => ∃ c : Nat, s = (DD P c, (c : Int), set) ∧ c ≤ 256 ∧ (c < 256 → P c = true → c = 0 ∨ P (c - 1) = false)) (fun s => 256 - s.2.1.toNat) ?_ F _ ⟨0, rfl, by omega, fun _ _ => .inl rfl⟩ (by simp; omega)
  rintro s ⟨c, rfl, hc, hst⟩
  have hdl := DD_len P c
  by_cases hc2 : c < 256
  · left
    cases hb : P c with
    | false =>
      refine ⟨(DD P (c + 1), ((c + 1 : Nat) : Int), set), ⟨c + 1, rfl, by omega, fun _ _ => .inr (by simpa using hb)⟩, by simp; omega, fun rc => ?_⟩
      dsimp only
      rw [ct (by omega), rq3 (by omega) (by omega) (by omega), Int.toNat_natCast, hPc, hb, w64s (by omega)]
      show rc _ = _
      rw [DD, hb, cond_false]
    | true =>
      have h0 := hst hc2 hb
      obtain ⟨k, k1, k2, k3⟩ := run_ex P (255 - c) c (by omega) hb
      have hrun := DD_run P c h0 k k2
      refine ⟨(DD P (c + k + 1), ((c + k + 1 : Nat) : Int), set), ⟨c + k + 1, rfl, by omega, fun h1 h2 => ?_⟩, by simp; omega, fun rc => ?_⟩
      · rcases k3 with k3 | k3
        · omega
        · rw [k3] at h2; cases h2
      · dsimp only
        rw [ct (by omega), rq3 (by omega) (by omega) (by omega), Int.toNat_natCast, hPc, hb, Bool.not_true, cond_false]
        refine loopF_hoare (fun s : Int × List Bool => ∃ j : Nat, s = (((c + j : Nat) : Int), set) ∧ j ≤ k) (fun s => 256 - s.1.toNat) ?_ F _ ⟨0, rfl, by omega⟩ (by simp; omega)
        rintro s ⟨j, rfl, hj⟩
        by_cases hjk : j < k
        · left
          refine ⟨(((c + (j + 1) : Nat) : Int), set), ⟨j + 1, rfl, by omega⟩, by simp; omega, fun rc2 => ?_⟩
          dsimp only
          rw [ct (by omega), w64s (by omega), rq3 (by omega) (by omega) (by omega), Option.bind_some]
          dsimp only
          rw [Int.toNat_natCast, hPc, k2 (c + j + 1) (by omega) (by omega)]
          rfl
        · right
          obtain rfl : j = k := by omega
          intro rc2
          dsimp only
          have e : (cond (decide (((c + j : Nat) : Int) < 255)) (rq ((decide (0 ≤ w64 (((c + j : Nat) : Int) + 1))) && ((decide (w64 (((c + j : Nat) : Int) + 1) < 256)) && (decide (w64 (((c + j : Nat) : Int) + 1) < (set.length : Int))))) (some (set.getD (Int.toNat (w64 (((c + j : Nat) : Int) + 1))) false, set))) (some (false, set)) : Option (Bool × List Bool)) = some (false, set) := by
            by_cases h255 : c + j < 255
            · rw [ct (by omega), w64s (by omega), rq3 (by omega) (by omega) (by omega), Int.toNat_natCast, hPc]
              rcases k3 with k3 | k3
              · omega
              · rw [k3]
            · rw [cf (by omega)]
          rw [e, Option.bind_some]
          dsimp only
          rw [cond_false, wrapU (by omega), wrapU (by omega), rq_cap (by simp; omega) (by omega), w64s (by omega), hrun]
  · right
    obtain rfl : c = 256 := by omega
    intro rc
    dsimp only
    rw [cf (by omega)]
def inB (l : List TSpan) (b : Int) : Bool := l.any fun s => decide (s.fLow ≤ b) && decide (b ≤ s.fHigh)
theorem in_eq (F : Nat) (l : List TSpan) (b : Int) (hF : l.length < F) (hl : l.length < 1000000) : ref04_in F l b = some (inB l b) := by
  unfold ref04_in
  rw [loopF_srch l (fun i => (i : Int)) (fun s => decide (s.fLow ≤ b) && decide (b ≤ s.fHigh)) (fun _ _ => some true) (some false) hF (by rfl) (fun i h rc => ?_) (fun rc => ?_), srch_any]
  · rw [cond_som, cI]; rfl
  · rw [ct (by omega), rq_ix h, rq_ix h, Int.toNat_natCast, gd h, cond_som, Option.bind_some, cF, w64s (by omega)]
  · rw [cf (by omega)]
theorem set_eq (F : Nat) (l : List TSpan) (hF : l.length + 300 < F) (hl : l.length < 1000000) : ref04_set F l = some (DD (fun c => inB l (c : Int)) 256) := by
  unfold ref04_set
  generalize hP : (fun c : Nat => inB l (c : Int)) = P
  have hPc : ∀ c : Nat, inB l (c : Int) = P c := fun c => by rw [← hP]
  refine loopF_hoare (fun s : Int × List TSpan => ∃ c : Nat, s = ((c : Int), DD P c) ∧ c ≤ 256) (fun s => 256 - s.1.toNat) ?_ F _ ⟨0, rfl, by omega⟩ (by simp; omega)
  rintro s ⟨c, rfl, hc⟩
  have hdl := DD_len P c
  by_cases hc2 : c < 256
  · left
    refine ⟨(((c + 1 : Nat) : Int), DD P (c + 1)), ⟨c + 1, rfl, by omega⟩, by simp; omega, fun rc => ?_⟩
    dsimp only
    rw [ct (by omega), wrapU hc2, in_eq F l _ (by omega) hl, Option.bind_some, hPc, w64s (by omega), DD]
    cases hb : P c with
    | false => rfl
    | true =>
      rw [Bool.not_true, cond_false, cond_true, exD]
      by_cases h0 : 0 < (DD P c).length
      · have hm : (DD P c).getD ((DD P c).length - 1) dTSpan ∈ DD P c := by
          rw [gd (show (DD P c).length - 1 < (DD P c).length by omega)]
          exact List.getElem_mem _
        obtain ⟨q, q1, q2, q3⟩ := DD_high P c _ hm
        rw [ct (by omega), w64p (by omega) h0, rq_ix (by omega), Option.bind_some, Int.toNat_natCast, dT h0, Bool.true_and]
        dsimp only
        rw [q2, w64_in (x := (q : Int)) (by omega), w64s (by omega), show ((q : Int) + 1 == (c : Int)) = (((q + 1 : Nat) : Int) == (c : Int)) from rfl]
        cases (((q + 1 : Nat) : Int) == (c : Int)) with
        | true => rw [cond_true, cond_true, rq_ix (by omega)]
        | false => rw [cond_false, cond_false, rq_cap (by simp; omega) (by omega)]
      · rw [cf (by omega), Option.bind_some, dF h0, Bool.false_and]
        dsimp only
        rw [cond_false, cond_false, rq_cap (by simp; omega) (by omega)]
  · right
    obtain rfl : c = 256 := by omega
    intro rc
    dsimp only
    rw [cf (by omega)]
end Go.Proofs.YtmklhkmeampamaaGreatDoor
namespace Go.Proofs.YtmklhkmeampamaaGreatDoor
open Go.RT
set_option linter.all false
set_option maxRecDepth 100000
def RS (set : List Bool) (sp : List TSpan) : Prop := set.length = 256 ∧ ∀ c : Nat, c < 256 → set.getD c false = inB sp (c : Int)
theorem inB_app (a b : List TSpan) (c : Int) : inB (a ++ b) c = (inB a c || inB b c) := by unfold inB; rw [List.any_append]
theorem getD_set {st : List Bool} {k : Nat} (h : k < st.length) (c : Nat) : (st.set k true).getD c false = (st.getD c false || c == k) := by
  by_cases e : k = c
  · subst e
    rw [List.getD_eq_getElem?_getD, List.getElem?_set_self h]
    simp
  · rw [List.getD_eq_getElem?_getD, List.getElem?_set_ne e, ← List.getD_eq_getElem?_getD]
    have : (c == k) = false := by simp; omega
    rw [this, Bool.or_false]
theorem within_CL : ∀ k : Fin 8, ∀ b : Fin 256, pattern_within 0 (CL.getD k.val dTclass).fname (b.val : Int) = some (inB (CL.getD k.val dTclass).fspans (b.val : Int)) := by decide +kernel
theorem within_eq (F : Nat) {c : Tclass} (hc : c ∈ CL) {b : Nat} (hb : b < 256) : pattern_within F c.fname (b : Int) = some (inB c.fspans (b : Int)) := by
  obtain ⟨k, hk, rfl⟩ := List.getElem_of_mem hc
  have := within_CL ⟨k, by rw [← CL_len]; exact hk⟩ ⟨b, hb⟩
  rw [gd (l := CL) hk] at this
  exact this
def clsP (run : List Int) (c : Tclass) : Bool := run == toInts c.fname
theorem isName_find (n : List UInt8) (h : isName n = true) : ∃ c ∈ CL, CL.find? (clsP (toInts n)) = some c ∧ c.fname = n := by
  unfold isName at h
  simp only [Bool.or_eq_true, beq_iff_eq] at h
  rcases h with rfl | rfl | rfl | rfl | rfl | rfl | rfl | rfl
  · exact ⟨CL.getD 0 dTclass, by decide, by decide, by decide⟩
  · exact ⟨CL.getD 1 dTclass, by decide, by decide, by decide⟩
  · exact ⟨CL.getD 2 dTclass, by decide, by decide, by decide⟩
  · exact ⟨CL.getD 3 dTclass, by decide, by decide, by decide⟩
  · exact ⟨CL.getD 4 dTclass, by decide, by decide, by decide⟩
  · exact ⟨CL.getD 5 dTclass, by decide, by decide, by decide⟩
  · exact ⟨CL.getD 6 dTclass, by decide, by decide, by decide⟩
  · exact ⟨CL.getD 7 dTclass, by decide, by decide, by decide⟩
theorem CL_names : ∀ c ∈ CL, isName c.fname = true ∧ c.fname.length = 5 ∧ ∀ b ∈ c.fname, 97 ≤ b.toNat ∧ b.toNat ≤ 122 := by decide
theorem run_bytes (x : List Tchar) (i : Nat) : toInts (toBytes (runC x i)) = runC x i := by
  unfold toInts toBytes
  rw [List.map_map]
  conv => rhs; rw [← List.map_id (runC x i)]
  refine List.map_congr_left fun v hv => ?_
  unfold runC at hv
  obtain ⟨e, he, rfl⟩ := List.mem_map.1 hv
  have hl := List.all_takeWhile (p := lowA) (l := x.drop i)
  have := List.all_eq_true.1 hl e he
  unfold lowA at this
  simp only [Bool.and_eq_true, decide_eq_true_eq] at this
  show ((UInt8.ofNat e.fb.toNat).toNat : Int) = e.fb
  rw [UInt8.toNat_ofNat']
  omega
theorem class_both (x : List Tchar) (i : Nat) : (∃ c ∈ CL, CL.find? (fun c => saysB x i ((([91, 58] : List UInt8) ++ c.fname) ++ ([58, 93] : List UInt8))) = some c ∧ classT x i = (c.fname, ((i + 9 : Nat) : Int), true) ∧ i + 9 ≤ x.length) ∨
    (CL.find? (fun c => saysB x i ((([91, 58] : List UInt8) ++ c.fname) ++ ([58, 93] : List UInt8))) = none ∧ (classT x i).2.2 = false) := by
  have hp : ∀ c ∈ CL, saysB x i ((([91, 58] : List UInt8) ++ c.fname) ++ ([58, 93] : List UInt8)) = ((isC x i 91 && isC x (i + 1) 58) && ((isC x (i + 2 + (runC x (i + 2)).length) 58 && isC x (i + 2 + (runC x (i + 2)).length + 1) 93) && clsP (runC x (i + 2)) c)) := fun c hc => says_class x i c.fname (CL_names c hc).2.1 (CL_names c hc).2.2
  cases hA : (isC x i 91 && isC x (i + 1) 58) with
  | false =>
    right
    refine ⟨?_, by unfold classT; rw [hA]; rfl⟩
    rw [List.find?_eq_none]
    intro c hc
    rw [hp c hc, hA]; simp
  | true =>
    cases hB : (isC x (i + 2 + (runC x (i + 2)).length) 58 && isC x (i + 2 + (runC x (i + 2)).length + 1) 93) with
    | false =>
      right
      refine ⟨?_, by unfold classT; rw [hA, hB]; rfl⟩
      rw [List.find?_eq_none]
      intro c hc
      rw [hp c hc, hB]; simp
    | true =>
      cases hN : isName (toBytes (runC x (i + 2))) with
      | true =>
        left
        obtain ⟨c, h1, h2, h3⟩ := isName_find _ hN
        rw [run_bytes] at h2
        have hlen : (runC x (i + 2)).length = 5 := by
          have := (CL_names c h1).2.1
          rw [h3] at this
          have e : (toInts (toBytes (runC x (i + 2)))).length = (toBytes (runC x (i + 2))).length := List.length_map _
          rw [run_bytes] at e
          omega
        refine ⟨c, h1, ?_, ?_, ?_⟩
        · rw [← h2]
          have : ∀ (L : List Tclass), (∀ c ∈ L, c ∈ CL) → L.find? (fun c => saysB x i ((([91, 58] : List UInt8) ++ c.fname) ++ ([58, 93] : List UInt8))) = L.find? (clsP (runC x (i + 2))) := by
            intro L
            induction L with
            | nil => intro _; rfl
            | cons a L ih =>
              intro hL
              rw [List.find?_cons, List.find?_cons, hp a (hL a (by simp)), hA, hB, ih fun c hc => hL c (by simp [hc])]
              rfl
          exact this CL fun c hc => hc
        · unfold classT
          rw [hA, hB, hN, hlen, h3]
          rfl
        · have h8 := isC_lt (Bool.and_eq_true _ _ ▸ hB : _ ∧ _).2
          omega
      | false =>
        right
        refine ⟨?_, by unfold classT; rw [hA, hB, hN]; rfl⟩
        rw [List.find?_eq_none]
        intro c hc
        rw [hp c hc, hA, hB]
        simp only [Bool.true_and, Bool.not_eq_true]
        cases hq : clsP (runC x (i + 2)) c with
        | false => rfl
        | true =>
          unfold clsP at hq
          have e := eq_of_beq hq
          rw [e, bytes_rt] at hN
          rw [(CL_names c hc).1] at hN
          cases hN
theorem member_eq (F : Nat) (x : List Tchar) (i : Nat) (set : List Bool) (sp : List TSpan) (hF : x.length + 1000 < F) (hx : x.length < 100000) (hc : ChOk x) (hi : i < x.length) (hR : RS set sp) :
    ∃ (e : Nat) (set' : List Bool) (sp' : List TSpan), pattern_member F x (i : Int) set = some ((e : Int), set') ∧ ref04_member F (x.map toE) (i : Int) = some (sp', (e : Int)) ∧ RS set' (sp ++ sp') ∧ i < e ∧ e ≤ x.length ∧ sp'.length ≤ 4 := by
  obtain ⟨hs, hR⟩ := hR
  have hw1 : w64 ((i : Int) + 1) = ((i + 1 : Nat) : Int) := w64s (by omega)
  have hw2 : w64 ((i : Int) + 2) = ((i + 2 : Nat) : Int) := by rw [w64_in (by omega)]; omega
  have hw3 : w64 ((i : Int) + 3) = ((i + 3 : Nat) : Int) := by rw [w64_in (by omega)]; omega
  have hml : (x.map toE).length = x.length := List.length_map _
  have hfb : ∀ k, k < x.length → ((x.map toE).getD k dTelement).fb = (x.getD k dTchar).fb := fun k hk => by
    rw [gd (l := x.map toE) (by rw [hml]; exact hk), List.getElem_map, gd hk]; rfl
  have hdoc : ref04_member F (x.map toE) (i : Int) = (CL.find? (fun c => saysB x i ((([91, 58] : List UInt8) ++ c.fname) ++ ([58, 93] : List UInt8)))).elim
      (cond (cond (cond (isC x (i + 1) 45) (decide (i + 2 < x.length)) false) (!isC x (i + 2) 93) false)
        (cond (decide ((x.getD i dTchar).fb ≤ (x.getD (i + 2) dTchar).fb)) (some ([TSpan.mk (x.getD i dTchar).fb (x.getD (i + 2) dTchar).fb], ((i + 3 : Nat) : Int))) (some ([], ((i + 3 : Nat) : Int))))
        (some ([TSpan.mk (x.getD i dTchar).fb (x.getD i dTchar).fb], ((i + 1 : Nat) : Int)))) fun c => some (c.fspans, ((i + 9 : Nat) : Int)) := by
    unfold ref04_member
    rw [CL_eq, Option.bind_some]
    rw [loopF_srch CL (fun i => (i : Int)) (fun c => saysB x i ((([91, 58] : List UInt8) ++ c.fname) ++ ([58, 93] : List UInt8))) (fun _ c => some (c.fspans, ((i + 9 : Nat) : Int))) (cond (cond (cond (isC x (i + 1) 45) (decide (i + 2 < x.length)) false) (!isC x (i + 2) 93) false)
        (cond (decide ((x.getD i dTchar).fb ≤ (x.getD (i + 2) dTchar).fb)) (some ([TSpan.mk (x.getD i dTchar).fb (x.getD (i + 2) dTchar).fb], ((i + 3 : Nat) : Int))) (some ([], ((i + 3 : Nat) : Int))))
        (some ([TSpan.mk (x.getD i dTchar).fb (x.getD i dTchar).fb], ((i + 1 : Nat) : Int)))) (by rw [CL_len]; omega) (by rfl) (fun k hk rc => ?_) (fun rc => ?_), srch_find]
    · have hm := CL_ok _ (List.getElem_mem hk)
      have hk8 : k < 8 := by rw [← CL_len]; exact hk
      rw [ct (by omega), rq_ix hk, Int.toNat_natCast, gd hk, w64s (by omega)]
      generalize CL[k] = c at hm
      have hl : ((([91, 58] : List UInt8) ++ c.fname) ++ ([58, 93] : List UInt8)).length = 9 := by simp; omega
      have hw : w64 ((i : Int) + ((9 : Nat) : Int)) = ((i + 9 : Nat) : Int) := by rw [w64_in (by omega)]; omega
      rw [rq1 (by simp; omega), rq1 (by simp; omega), says_eq F x i _ (by omega) (by omega) (by omega), Option.bind_some, rq_ix hk, hl, hw]
    · rw [cf (by omega), rq_ix (by omega), hw1, hw2, hw3, is_eq, isR_map, Option.bind_some, is_eq, isR_map, cond_som, Option.bind_some, Option.bind_some, cond_som, Option.bind_some, hml]
      rw [show decide (((i + 2 : Nat) : Int) < (x.length : Int)) = decide (i + 2 < x.length) from decide_eq_decide.2 (by omega)]
      cases h4 : cond (cond (isC x (i + 1) 45) (decide (i + 2 < x.length)) false) (!isC x (i + 2) 93) false with
      | false => rw [cond_false, cond_false, Int.toNat_natCast, hfb i hi]
      | true =>
        have h5 : i + 2 < x.length := by
          by_cases h : i + 2 < x.length
          · exact h
          · rw [dF h] at h4
            cases isC x (i + 1) 45 <;> simp at h4
        rw [cond_true, cond_true, rq2 (by omega) (by omega), Int.toNat_natCast, Int.toNat_natCast, hfb i hi, hfb (i + 2) h5]
  rw [hdoc]
  have hb := hc.at hi
  rcases class_both x i with ⟨c, hcm, hfind, hcl, h9⟩ | ⟨hfind, hcl⟩
  · rw [hfind]
    refine (fun (h : ∃ st : List Bool, st.length = 256 ∧ (∀ b : Nat, b < 256 → st.getD b false = (set.getD b false || inB c.fspans (b : Int))) ∧ pattern_member F x (i : Int) set = some (((i + 9 : Nat) : Int), st)) => ?_) ?_
    · obtain ⟨st, h1, h2, h3⟩ := h
      exact ⟨i + 9, st, c.fspans, h3, rfl, ⟨h1, fun b hb => by rw [h2 b hb, hR b hb, inB_app]⟩, by omega, h9, (CL_ok c hcm).2⟩
    · unfold pattern_member
      rw [(class_eq F x i (by omega) (by omega)).resolve_right (by omega), hcl, Option.bind_some, cond_true]
      obtain ⟨r, ⟨st, h1, h2, rfl⟩, h3⟩ : ∃ r : Int × List Bool, (∃ st : List Bool, st.length = 256 ∧ (∀ b : Nat, b < 256 → st.getD b false = (set.getD b false || inB c.fspans (b : Int))) ∧ r = (((i + 9 : Nat) : Int), st)) ∧ (loopF (σ := Int × (List Bool)) (R := Int × (List Bool)) (fun rc3 x2 =>
         cond (decide (x2.1 < 256))
         ((pattern_within F c.fname x2.1).bind fun x4 =>
         cond x4
         (rq ((decide (0 ≤ x2.1)) && ((decide (x2.1 < 256)) && (decide (x2.1 < (x2.2.length : Int))))) (rc3 (w64 (x2.1 + 1), x2.2.set (Int.toNat x2.1) true)))
         (rc3 (w64 (x2.1 + 1), x2.2)))
         (some (((i + 9 : Nat) : Int), x2.2))) F (0, set)) = some r := by
        refine loopF_tot _ (fun s : Int × List Bool => ∃ k : Nat, s.1 = (k : Int) ∧ k ≤ 256 ∧ s.2.length = 256 ∧ ∀ b : Nat, s.2.getD b false = (set.getD b false || (decide (b < k) && inB c.fspans (b : Int)))) (fun s => 256 - s.1.toNat) ?_ F _ ⟨0, rfl, by omega, hs, fun b => by simp⟩ (by simp; omega)
        rintro ⟨ii, st⟩ ⟨k, h0, hk, hl, hst⟩ rc hrc
        dsimp only at h0 hl hst ⊢
        subst h0
        by_cases hk : k < 256
        · rw [ct (by omega), within_eq F hcm hk, Option.bind_some, w64s (by omega)]
          cases hin : inB c.fspans (k : Int) with
          | true =>
            rw [cond_true, rq3 (by omega) (by omega) (by omega), Int.toNat_natCast]
            refine hrc _ ⟨k + 1, rfl, by omega, by simpa using hl, fun b => ?_⟩ (by simp; omega)
            dsimp only
            rw [getD_set (by omega), hst b]
            by_cases e : b = k
            · subst e; simp [hin]
            · have e1 : (b == k) = false := by simp [e]
              have e2 : decide (b < k + 1) = decide (b < k) := decide_eq_decide.2 (by omega)
              rw [e1, e2, Bool.or_false]
          | false =>
            refine hrc _ ⟨k + 1, rfl, by omega, hl, fun b => ?_⟩ (by simp; omega)
            dsimp only
            rw [hst b]
            by_cases e : b = k
            · subst e; simp [hin]
            · have e2 : decide (b < k + 1) = decide (b < k) := decide_eq_decide.2 (by omega)
              rw [e2]
        · rw [cf (by omega)]
          exact ⟨_, ⟨st, hl, fun b hb => by rw [hst b, dT (by omega), Bool.true_and], rfl⟩, rfl⟩
      exact ⟨st, h1, h2, h3⟩
  · rw [hfind]
    show ∃ (e : Nat) (set' : List Bool) (sp' : List TSpan), _ ∧ (cond _ _ _) = _ ∧ _
    unfold pattern_member
    rw [(class_eq F x i (by omega) (by omega)).resolve_right (by omega), Option.bind_some, hcl, cond_false, hw1, hw2, hw3, pis_eq, Option.bind_some, pis_eq, cond_som, Option.bind_some]
    have e1 : cond (isC x (i + 1) 45) (decide (((i + 2 : Nat) : Int) < (x.length : Int)), set) (false, set) = ((cond (isC x (i + 1) 45) (decide (i + 2 < x.length)) false), set) := by
      rw [show decide (((i + 2 : Nat) : Int) < (x.length : Int)) = decide (i + 2 < x.length) from decide_eq_decide.2 (by omega)]
      cases isC x (i + 1) 45 <;> rfl
    rw [e1]
    dsimp only
    rw [Option.bind_some, cond_som, Option.bind_some]
    have e2 : ∀ a b : Bool, cond a (b, set) (false, set) = (cond a b false, set) := by intro a b; cases a <;> rfl
    rw [e2]
    dsimp only
    cases h4 : cond (cond (isC x (i + 1) 45) (decide (i + 2 < x.length)) false) (!isC x (i + 2) 93) false with
    | false =>
      rw [cond_false, cond_false, rq_ix hi, Int.toNat_natCast, rq3 (by omega) (by omega) (by omega)]
      refine ⟨i + 1, _, _, rfl, rfl, ⟨by simpa using hs, fun b hb2 => ?_⟩, by omega, by omega, by simp⟩
      rw [getD_set (by omega), hR b hb2, inB_app]
      congr 1
      unfold inB
      rw [List.any_cons, List.any_nil, Bool.or_false, Bool.eq_iff_iff]
      simp only [beq_iff_eq, Bool.and_eq_true, decide_eq_true_eq]
      omega
    | true =>
      have h5 : i + 2 < x.length := by
        by_cases h : i + 2 < x.length
        · exact h
        · rw [dF h] at h4
          cases isC x (i + 1) 45 <;> simp at h4
      have hb2 := hc.at h5
      rw [cond_true, cond_true, rq_ix hi, Int.toNat_natCast, Int.toNat_natCast, w64_in (x := (x.getD i dTchar).fb) (by omega), w64_in (x := (x.getD (i + 2) dTchar).fb) (by omega)]
      generalize (x.getD i dTchar).fb = lo at hb
      generalize (x.getD (i + 2) dTchar).fb = hi2 at hb2
      obtain ⟨r, ⟨st, h1, h2, rfl⟩, h3⟩ : ∃ r : Int × List Bool, (∃ st : List Bool, st.length = 256 ∧ (∀ b : Nat, b < 256 → st.getD b false = (set.getD b false || (decide (lo ≤ (b : Int)) && decide ((b : Int) ≤ hi2)))) ∧ r = (((i + 3 : Nat) : Int), st)) ∧ (loopF (σ := Int × (List Bool)) (R := Int × (List Bool)) (fun rc10 x9 =>
         rq ((decide (0 ≤ ((i + 2 : Nat) : Int))) && (decide (((i + 2 : Nat) : Int) < (x.length : Int)))) (cond (decide (x9.1 ≤ hi2))
         (rq ((decide (0 ≤ x9.1)) && ((decide (x9.1 < 256)) && (decide (x9.1 < (x9.2.length : Int))))) (rc10 (w64 (x9.1 + 1), x9.2.set (Int.toNat x9.1) true)))
         (some (((i + 3 : Nat) : Int), x9.2)))) F (lo, set)) = some r := by
        refine loopF_tot _ (fun s : Int × List Bool => lo ≤ s.1 ∧ s.1 ≤ 256 ∧ s.2.length = 256 ∧ (∀ v : Int, lo ≤ v → v < s.1 → v ≤ hi2) ∧ ∀ b : Nat, s.2.getD b false = (set.getD b false || (decide (lo ≤ (b : Int)) && decide ((b : Int) < s.1)))) (fun s => 256 - s.1.toNat) ?_ F _ ⟨Int.le_refl _, by omega, hs, fun v h1 h2 => by omega, fun b => by
          by_cases e : lo ≤ (b : Int)
          · rw [dF (show ¬ (b : Int) < lo by omega)]; simp
          · rw [dF e]; simp⟩ (by simp; omega)
        rintro ⟨ii, st⟩ ⟨h6, h7, hl, hv, hst⟩ rc hrc
        dsimp only at h6 h7 hl hv hst ⊢
        rw [rq_ix h5]
        by_cases hle : ii ≤ hi2
        · rw [ct hle, rq3 (by omega) (by omega) (by omega), w64_in (by omega)]
          refine hrc _ ⟨by dsimp only; omega, by dsimp only; omega, by simpa using hl, fun v h1 h2 => by dsimp only at h2; omega, fun b => ?_⟩ (by dsimp only; omega)
          dsimp only
          rw [getD_set (by omega), hst b, Bool.or_assoc]
          congr 1
          rw [Bool.eq_iff_iff]
          simp only [Bool.or_eq_true, Bool.and_eq_true, decide_eq_true_eq, beq_iff_eq]
          omega
        · rw [cf hle]
          refine ⟨_, ⟨st, hl, fun b hb3 => ?_, rfl⟩, rfl⟩
          rw [hst b]
          congr 1
          rw [Bool.eq_iff_iff]
          simp only [Bool.and_eq_true, decide_eq_true_eq]
          constructor
          · rintro ⟨g1, g2⟩; exact ⟨g1, hv _ g1 g2⟩
          · rintro ⟨g1, g2⟩; exact ⟨g1, by omega⟩
      by_cases hlh : lo ≤ hi2
      · rw [ct hlh]
        refine ⟨i + 3, st, [TSpan.mk lo hi2], h3, rfl, ⟨h1, fun b hb3 => ?_⟩, by omega, by omega, by simp⟩
        rw [h2 b hb3, hR b hb3, inB_app]
        congr 1
        unfold inB
        simp
      · rw [cf hlh]
        refine ⟨i + 3, st, [], h3, rfl, ⟨h1, fun b hb3 => ?_⟩, by omega, by omega, by simp⟩
        rw [h2 b hb3, hR b hb3, inB_app]
        congr 1
        unfold inB
        rw [Bool.eq_iff_iff]
        simp only [Bool.and_eq_true, decide_eq_true_eq, List.any_nil, Bool.false_eq_true, iff_false]
        omega
end Go.Proofs.YtmklhkmeampamaaGreatDoor
namespace Go.Proofs.YtmklhkmeampamaaGreatDoor
open Go.RT
set_option linter.all false
set_option maxRecDepth 100000
theorem loopF_sim {σ τ R : Type} {b1 : (σ → Option R) → σ → Option R} {b2 : (τ → Option R) → τ → Option R} (P : σ → τ → Prop) (m : σ → Nat)
    (hs : ∀ s t, P s t → (∃ s' t', P s' t' ∧ m s' < m s ∧ (∀ rc, b1 rc s = rc s') ∧ ∀ rc, b2 rc t = rc t') ∨ ∃ z, (∀ rc, b1 rc s = some z) ∧ ∀ rc, b2 rc t = some z) :
    ∀ (F1 F2 : Nat) (s : σ) (t : τ), P s t → m s < F1 → m s < F2 → ∃ z, loopF b1 F1 s = some z ∧ loopF b2 F2 t = some z
  | 0, _, s, t, _, h, _ => by omega
  | _ + 1, 0, s, t, _, _, h => by omega
  | F1 + 1, F2 + 1, s, t, hP, h1, h2 => by
    show ∃ z, b1 (loopF b1 F1) s = some z ∧ b2 (loopF b2 F2) t = some z
    rcases hs s t hP with ⟨s', t', g1, g2, g3, g4⟩ | ⟨z, g1, g2⟩
    · rw [g3, g4]; exact loopF_sim P m hs F1 F2 s' t' g1 (by omega) (by omega)
    · exact ⟨z, g1 _, g2 _⟩
theorem DD_congr {P Q : Nat → Bool} : ∀ k, (∀ c, c < k → P c = Q c) → DD P k = DD Q k
  | 0, _ => rfl
  | k + 1, h => by
    unfold DD
    rw [DD_congr k fun c hc => h c (by omega), h k (by omega)]
theorem bracket_eq (F : Nat) (x : List Tchar) (i : Nat) (hF : 4 * x.length + 1000 < F) (hx : x.length < 10000) (hc : ChOk x) (hi : i < x.length) : ∃ z, pattern_bracket F x (i : Int) = some z ∧ ref04_bracket F (x.map toE) (i : Int) = some z := by
  have hml : (x.map toE).length = x.length := List.length_map _
  have hw1 : w64 ((i : Int) + 1) = ((i + 1 : Nat) : Int) := w64s (by omega)
  unfold pattern_bracket ref04_bracket
  rw [hw1, pis_eq, Option.bind_some, pis_eq, Option.bind_some, cond_som, Option.bind_some, w64s (by omega), cond_som, Option.bind_some, is_eq, isR_map, Option.bind_some, is_eq, isR_map, Option.bind_some, cond_som, Option.bind_some, cond_som, Option.bind_some]
  generalize hneg : cond (isC x (i + 1) 33) true (isC x (i + 1) 94) = neg
  obtain ⟨s0, hs0, hs1, hs2, hy⟩ : ∃ s0 : Nat, cond neg (((i + 1 + 1 : Nat) : Int)) ((i + 1 : Nat) : Int) = (s0 : Int) ∧ i < s0 ∧ s0 ≤ i + 2 ∧ cond neg (((i + 1 + 1 : Nat) : Int), (TPatItem.mk 4 [] false []).fKind, (TPatItem.mk 4 [] false []).fText, true, (TPatItem.mk 4 [] false []).fSet) (((i + 1 : Nat) : Int), (TPatItem.mk 4 [] false []).fKind, (TPatItem.mk 4 [] false []).fText, (TPatItem.mk 4 [] false []).fNeg, (TPatItem.mk 4 [] false []).fSet) = ((s0 : Int), 4, [], neg, []) := by
    cases neg
    · exact ⟨i + 1, rfl, by omega, by omega, rfl⟩
    · exact ⟨i + 2, rfl, by omega, by omega, rfl⟩
  rw [hs0, hy]
  refine loopF_sim (fun (s : Int × Bool × List Bool) (t : Int × List TSpan × Bool) => ∃ (k : Nat) (fi : Bool) (set : List Bool) (sp : List TSpan), s = ((k : Int), fi, set) ∧ t = ((k : Int), sp, fi) ∧ i < k ∧ k ≤ x.length + 2 ∧ RS set sp ∧ sp.length ≤ 4 * k) (fun s => x.length + 2 - s.1.toNat) ?_ F F _ _ ⟨s0, true, _, _, rfl, rfl, hs1, by omega, ⟨by simp, fun c h => by
    rw [List.getD_eq_getElem?_getD, List.getElem?_replicate]
    simp [h, inB]⟩, by simp⟩ (by simp; omega) (by simp; omega)
  rintro _ _ ⟨k, fi, set, sp, rfl, rfl, hk, hk2, hR, hl⟩
  dsimp only
  by_cases hk3 : k < x.length
  · have e2 : cond (isC x k 93) (!fi, set) (false, set) = ((isC x k 93 && !fi), set) := by cases isC x k 93 <;> rfl
    cases h4 : (isC x k 93 && !fi) with
    | true =>
      right
      have h5 : cond fi true (!isC x k 93) = false := by
        revert h4; cases isC x k 93 <;> cases fi <;> simp
      refine ⟨(TPatItem.mk 4 [] neg (DD (fun c => set.getD c false) 256), ((k + 1 : Nat) : Int), true), fun rc => ?_, fun rc => ?_⟩
      · rw [ct (by omega), pis_eq, Option.bind_some, cond_som, Option.bind_some, e2, h4]
        dsimp only
        rw [cond_true, rq_true (by rw [hR.1]; rfl), spans_eq F set (by omega) hR.1, Option.bind_some, w64s (by omega)]
      · rw [is_eq, isR_map, Option.bind_some, cond_som, hml, ct (show (k : Int) < (x.length : Int) by omega), Option.bind_some, h5, cond_false, cf (show ¬ (x.length : Int) ≤ (k : Int) by omega), set_eq F sp (by omega) (by omega), Option.bind_some, w64s (by omega)]
        rw [DD_congr 256 fun c hc => (hR.2 c hc).symm]
    | false =>
      left
      have h5 : cond fi true (!isC x k 93) = true := by
        revert h4; cases isC x k 93 <;> cases fi <;> simp
      obtain ⟨e, set', sp', g1, g2, g3, g4, g5, g6⟩ := member_eq F x k set sp (by omega) (by omega) hc hk3 hR
      refine ⟨_, _, ⟨e, false, set', sp ++ sp', rfl, rfl, by omega, by omega, g3, by rw [List.length_append]; omega⟩, by simp; omega, fun rc => ?_, fun rc => ?_⟩
      · rw [ct (by omega), pis_eq, Option.bind_some, cond_som, Option.bind_some, e2, h4]
        dsimp only
        rw [cond_false, g1, Option.bind_some]
      · rw [is_eq, isR_map, Option.bind_some, cond_som, hml, ct (show (k : Int) < (x.length : Int) by omega), Option.bind_some, h5, cond_true, g2, Option.bind_some, rq_cap (by dsimp only; omega) (by omega)]
  · right
    refine ⟨(TPatItem.mk 0 [] false [], 0, false), fun rc => ?_, fun rc => ?_⟩
    · rw [cf (by omega)]
    · rw [is_eq, isR_map, Option.bind_some, cond_som, hml, cf (show ¬ (k : Int) < (x.length : Int) by omega), Option.bind_some, cond_false, ct (show (x.length : Int) ≤ (k : Int) by omega)]
theorem compile_eq (F : Nat) (l : List TRun) (hF : l.length < F) (hF2 : 4 * szL l + 1000 < F) (h1 : l.length < 1000000000) (h2 : szL l ≤ 5000) : ∃ p, pattern_Compile F l = some p ∧ ref04_Compile F l = some p := by
  unfold pattern_Compile ref04_Compile
  rw [chars_eq F l hF (by omega) h1 (by omega), elements_eq F l hF (by omega) h1 (by omega), Option.bind_some, Option.bind_some, el_ch]
  have hx : (l.flatMap chR).length ≤ szL l := fl_len _ chR_len _
  have hc := chars_ok l
  generalize (l.flatMap chR) = x at hx hc
  have hml : (x.map toE).length = x.length := List.length_map _
  refine loopF_sim (fun (s t : List TPatItem × Int) => s = t ∧ ∃ k : Nat, s.2 = (k : Int) ∧ k ≤ x.length ∧ s.1.length ≤ k) (fun s => x.length - s.2.toNat) ?_ F F _ _ ⟨rfl, 0, rfl, by omega, by simp⟩ (by simp; omega) (by simp; omega)
  rintro ⟨acc, ii⟩ _ ⟨rfl, k, h0, hk, ha⟩
  dsimp only at h0 ha ⊢
  subst h0
  have hex : ∀ a b : Int, a ≠ b → isC x k a = true → isC x k b = false := by
    intro a b hab h
    cases hb : isC x k b with
    | false => rfl
    | true => exact absurd ((isC_iff.1 h).2.2.symm.trans (isC_iff.1 hb).2.2) hab
  have hfb : k < x.length → ((x.map toE).getD k dTelement).fb = (x.getD k dTchar).fb := fun hk => by
    rw [gd (l := x.map toE) (by rw [hml]; exact hk), List.getElem_map, gd hk]; rfl
  by_cases hk3 : k < x.length
  · left
    have hc1 : ∀ (it : TPatItem), (decide (acc.length + ([it] : List TPatItem).length ≤ 9223372036854775807) && decide ((acc.length + ([it] : List TPatItem).length) * 56 ≤ 140737488355328)) = true := fun it => capk (by simp; omega) (by omega)
    cases h91 : isC x k 91 with
    | true =>
      have h42 := hex 91 42 (by decide) h91
      have h63 := hex 91 63 (by decide) h91
      obtain ⟨z, z1, z2⟩ := bracket_eq F x k (by omega) (by omega) hc hk3
      obtain ⟨r, r1, r2⟩ := bracket_tot F x k (by omega) (by omega) hc hk3
      have hzr : z = r := Option.some.inj (z1.symm.trans r2)
      subst hzr
      cases hz : z.2.2 with
      | true =>
        obtain ⟨-, e, g2, g3, g4⟩ := r1 hz
        refine ⟨(acc ++ [z.1], (e : Int)), (acc ++ [z.1], (e : Int)), ⟨rfl, e, rfl, g4, by simp; omega⟩, by simp; omega, fun rc => ?_, fun rc => ?_⟩
        · rw [ct (by omega), pis_eq, Option.bind_some, h91, cond_true, z1, Option.bind_some, hz, cond_true, rq_true (hc1 _), g2]
          cases h : rc (acc ++ [z.1], (e : Int)) <;> rfl
        · rw [hml, ct (by omega), is_eq, isR_map, Option.bind_some, h42, cond_false, is_eq, isR_map, Option.bind_some, h63, cond_false, is_eq, isR_map, Option.bind_some, h91, cond_true, z2, Option.bind_some, hz, cond_true, rq_true (hc1 _), g2]
          cases h : rc (acc ++ [z.1], (e : Int)) <;> rfl
      | false =>
        refine ⟨(acc ++ [TPatItem.mk 1 (toBytes [(x.getD k dTchar).fb]) false []], ((k + 1 : Nat) : Int)), _, ⟨rfl, k + 1, rfl, by omega, by simp; omega⟩, by simp; omega, fun rc => ?_, fun rc => ?_⟩
        · rw [ct (by omega), pis_eq, Option.bind_some, h91, cond_true, z1, Option.bind_some, hz, cond_false]
          show ((pattern_is F x (k : Int) 42).bind _) = _
          rw [pis_eq, Option.bind_some, h42, cond_false, pis_eq, Option.bind_some, h63, cond_false, rq_ix hk3, rq_true (hc1 _), w64s (by omega), Int.toNat_natCast]
        · rw [hml, ct (by omega), is_eq, isR_map, Option.bind_some, h42, cond_false, is_eq, isR_map, Option.bind_some, h63, cond_false, is_eq, isR_map, Option.bind_some, h91, cond_true, z2, Option.bind_some, hz, cond_false]
          show rq _ (rq _ (rc _)) = _
          rw [rq_ix hk3, rq_true (hc1 _), w64s (by omega), Int.toNat_natCast, hfb hk3]
    | false =>
      cases h42 : isC x k 42 with
      | true =>
        refine ⟨(acc ++ [TPatItem.mk 3 [] false []], ((k + 1 : Nat) : Int)), _, ⟨rfl, k + 1, rfl, by omega, by simp; omega⟩, by simp; omega, fun rc => ?_, fun rc => ?_⟩
        · rw [ct (by omega), pis_eq, Option.bind_some, h91, cond_false]
          show ((pattern_is F x (k : Int) 42).bind _) = _
          rw [pis_eq, Option.bind_some, h42, cond_true, rq_true (hc1 _), w64s (by omega)]
        · rw [hml, ct (by omega), is_eq, isR_map, Option.bind_some, h42, cond_true, rq_true (hc1 _), w64s (by omega)]
      | false =>
        cases h63 : isC x k 63 with
        | true =>
          refine ⟨(acc ++ [TPatItem.mk 2 [] false []], ((k + 1 : Nat) : Int)), _, ⟨rfl, k + 1, rfl, by omega, by simp; omega⟩, by simp; omega, fun rc => ?_, fun rc => ?_⟩
          · rw [ct (by omega), pis_eq, Option.bind_some, h91, cond_false]
            show ((pattern_is F x (k : Int) 42).bind _) = _
            rw [pis_eq, Option.bind_some, h42, cond_false, pis_eq, Option.bind_some, h63, cond_true, rq_true (hc1 _), w64s (by omega)]
          · rw [hml, ct (by omega), is_eq, isR_map, Option.bind_some, h42, cond_false, is_eq, isR_map, Option.bind_some, h63, cond_true, rq_true (hc1 _), w64s (by omega)]
        | false =>
          refine ⟨(acc ++ [TPatItem.mk 1 (toBytes [(x.getD k dTchar).fb]) false []], ((k + 1 : Nat) : Int)), _, ⟨rfl, k + 1, rfl, by omega, by simp; omega⟩, by simp; omega, fun rc => ?_, fun rc => ?_⟩
          · rw [ct (by omega), pis_eq, Option.bind_some, h91, cond_false]
            show ((pattern_is F x (k : Int) 42).bind _) = _
            rw [pis_eq, Option.bind_some, h42, cond_false, pis_eq, Option.bind_some, h63, cond_false, rq_ix hk3, rq_true (hc1 _), w64s (by omega), Int.toNat_natCast]
          · rw [hml, ct (by omega), is_eq, isR_map, Option.bind_some, h42, cond_false, is_eq, isR_map, Option.bind_some, h63, cond_false, is_eq, isR_map, Option.bind_some, h91, cond_false]
            show rq _ (rq _ (rc _)) = _
            rw [rq_ix hk3, rq_true (hc1 _), w64s (by omega), Int.toNat_natCast, hfb hk3]
  · right
    refine ⟨acc, fun rc => ?_, fun rc => ?_⟩
    · rw [cf (by omega)]
    · rw [hml, cf (by omega)]
end Go.Proofs.YtmklhkmeampamaaGreatDoor
namespace Go.Proofs.YtmklhkmeampamaaGreatDoor
open Go.RT
set_option linter.all false
set_option maxRecDepth 100000
theorem loopF_simQ {σ τ R S : Type} {b1 : (σ → Option R) → σ → Option R} {b2 : (τ → Option S) → τ → Option S} (Q : Option R → Option S → Prop) (P : σ → τ → Prop) (m : σ → Nat)
    (hs : ∀ s t, P s t → ∀ rc1 rc2, (∀ s' t', P s' t' → m s' < m s → Q (rc1 s') (rc2 t')) → Q (b1 rc1 s) (b2 rc2 t)) :
    ∀ (F1 F2 : Nat) (s : σ) (t : τ), P s t → m s < F1 → m s < F2 → Q (loopF b1 F1 s) (loopF b2 F2 t)
  | 0, _, s, t, _, h, _ => by omega
  | _ + 1, 0, s, t, _, _, h => by omega
  | F1 + 1, F2 + 1, s, t, hP, h1, h2 => hs s t hP (loopF b1 F1) (loopF b2 F2) fun s' t' g1 g2 => loopF_simQ Q P m hs F1 F2 s' t' g1 (by omega) (by omega)
theorem valid_eq2 (F : Nat) (p : List TPatItem) (hF : p.length + 300 < F) (hp : p.length < 100000) (hit : ∀ it ∈ p, ItOk it) : pattern_valid F p = ref04_Valid F p := by
  unfold pattern_valid ref04_Valid
  refine loopF_simQ (fun a b => a = b) (fun s t => s = t ∧ ∃ k : Nat, s = (k : Int) ∧ k ≤ p.length) (fun s => p.length - s.toNat) ?_ F F _ _ ⟨rfl, 0, rfl, by omega⟩ (by simp; omega) (by simp; omega)
  rintro _ _ ⟨rfl, k, rfl, hk⟩ rc1 rc2 hrc
  by_cases hk : k < p.length
  · have hI := hit _ (List.getElem_mem hk)
    rw [ct (show (k : Int) < (p.length : Int) by omega), ct (show (k : Int) < (p.length : Int) by omega), rq_ix hk, rq_ix hk, Int.toNat_natCast, gd hk]
    generalize p[k] = it at hI
    have hl := hI.2.2
    obtain ⟨c, hc⟩ := rascending_tot F it.fSet (by omega) (by omega)
    have hnext := hrc ((k + 1 : Nat) : Int) ((k + 1 : Nat) : Int) ⟨rfl, k + 1, rfl, by omega⟩ (by simp; omega)
    simp only [cond_som, Option.bind_some, hc]
    rw [w64s (by omega)]
    cases (cond (cond (decide (it.fKind < 1)) true (decide (4 < it.fKind))) true ((it.fText.length : Int) != cond (it.fKind == 1) 1 0)) with
    | true => rfl
    | false =>
      rw [cond_false, cond_false]
      cases (cond (it.fKind != 4) (cond it.fNeg true (decide (0 < (it.fSet.length : Int)))) false) with
      | true => rfl
      | false =>
        rw [cond_false, cond_false]
        have hin : ∀ A : Option Bool, loopF (σ := Int) (R := Bool) (fun rc8 x7 =>
             cond (decide (x7 < (it.fSet.length : Int)))
             (rq ((decide (0 ≤ x7)) && (decide (x7 < (it.fSet.length : Int)))) ((cond (decide ((it.fSet.getD (Int.toNat x7) dTSpan).fHigh < (it.fSet.getD (Int.toNat x7) dTSpan).fLow))
             (some true)
             (cond (decide (0 < x7))
             (rq ((decide (0 ≤ w64 (x7 - 1))) && (decide (w64 (x7 - 1) < (it.fSet.length : Int)))) (some (decide (w64 ((it.fSet.getD (Int.toNat x7) dTSpan).fLow) ≤ w64 ((w64 ((it.fSet.getD (Int.toNat (w64 (x7 - 1))) dTSpan).fHigh)) + 1)))))
             (some false)) : Option Bool).bind fun x9 =>
             cond x9
             (some false)
             (rc8 (w64 (x7 + 1)))))
             A) F 0 = cond c A (some false) := by
          intro A
          have hc2 := hc
          unfold ref04_ascending at hc2
          have hsw : ∀ (a b : Option Bool), b = some c → (∃ c', b = some c' ∧ a = cond c' A (some false)) → a = cond c A (some false) := by
            rintro a b h1 ⟨c', h2, h3⟩
            rw [h1] at h2
            cases h2
            exact h3
          refine hsw _ _ hc2 (loopF_simQ (fun a b => ∃ c', b = some c' ∧ a = cond c' A (some false)) (fun (s t : Int) => s = t ∧ ∃ j : Nat, s = (j : Int) ∧ j ≤ it.fSet.length) (fun s => it.fSet.length - s.toNat) ?_ F F 0 0 ⟨rfl, 0, rfl, by omega⟩ (by simp; omega) (by simp; omega))
          rintro s t hst rcA rcB hAB
          · obtain ⟨rfl, j, rfl, hj⟩ := hst
            by_cases hj : j < it.fSet.length
            · have e : ∃ b, (cond (decide ((it.fSet.getD (Int.toNat (j : Int)) dTSpan).fHigh < (it.fSet.getD (Int.toNat (j : Int)) dTSpan).fLow)) (some true) (cond (decide (0 < (j : Int))) (rq ((decide (0 ≤ w64 ((j : Int) - 1))) && (decide (w64 ((j : Int) - 1) < (it.fSet.length : Int)))) (some (decide (w64 ((it.fSet.getD (Int.toNat (j : Int)) dTSpan).fLow) ≤ w64 ((w64 ((it.fSet.getD (Int.toNat (w64 ((j : Int) - 1))) dTSpan).fHigh)) + 1))))) (some false)) : Option Bool) = some b := by
                by_cases h0 : 0 < j
                · rw [w64p (by omega) h0, ct (show (0 : Int) < (j : Int) by omega), rq2 (by omega) (by omega), cond_som]; exact ⟨_, rfl⟩
                · rw [cf (show ¬ (0 : Int) < (j : Int) by omega), cond_som]; exact ⟨_, rfl⟩
              obtain ⟨b, hb⟩ := e
              rw [ct (show (j : Int) < (it.fSet.length : Int) by omega), ct (show (j : Int) < (it.fSet.length : Int) by omega), rq_ix hj, rq_ix hj]
              simp only [rq_ix hj]
              rw [hb, Option.bind_some, Option.bind_some, w64s (by omega)]
              cases b with
              | true => exact ⟨false, rfl, rfl⟩
              | false => exact hAB _ _ ⟨rfl, j + 1, rfl, by omega⟩ (by simp; omega)
            · rw [cf (show ¬ (j : Int) < (it.fSet.length : Int) by omega), cf (show ¬ (j : Int) < (it.fSet.length : Int) by omega)]
              exact ⟨true, rfl, rfl⟩
        rw [hin]
        cases c with
        | true => exact hnext
        | false => rfl
  · rw [cf (show ¬ (k : Int) < (p.length : Int) by omega), cf (show ¬ (k : Int) < (p.length : Int) by omega)]
def txP (p : List TPatItem) : List UInt8 := p.flatMap fun it => it.fText
def byP (it : TPatItem) : Bool := it.fKind == 1
def litV (p : List TPatItem) (b : Bool) : List UInt8 × Bool := cond (p.all byP && b) (txP p, true) ([], false)
theorem txP_len : ∀ (p : List TPatItem), (∀ it ∈ p, ItOk it) → (txP p).length ≤ 10 * p.length
  | [], _ => by simp [txP]
  | it :: p, h => by
    have ih := txP_len p fun x hx => h x (by simp [hx])
    have := (h it (by simp)).2.1
    unfold txP at *
    simp only [List.flatMap_cons, List.length_append, List.length_cons]
    omega
theorem txP_take (p : List TPatItem) (k : Nat) (h : k < p.length) : txP (p.take (k + 1)) = txP (p.take k) ++ p[k].fText := by
  unfold txP
  rw [List.take_succ_eq_append_getElem h, List.flatMap_append]
  simp
theorem all_not {p : List TPatItem} {k : Nat} (h : k < p.length) (hb : byP p[k] = false) : p.all byP = false := by
  rw [List.all_eq_false]
  exact ⟨p[k], List.getElem_mem h, by simp [hb]⟩
theorem all_take {p : List TPatItem} (h : ∀ k, ∀ hk : k < p.length, byP p[k] = true) : p.all byP = true := by
  rw [List.all_eq_true]
  intro it hit
  obtain ⟨k, hk, rfl⟩ := List.getElem_of_mem hit
  exact h k hk
theorem rliteral_eq (F : Nat) (p : List TPatItem) (hF : p.length + 300 < F) (hp : p.length < 100000) (hit : ∀ it ∈ p, ItOk it) {b : Bool} (hb : ref04_Valid F p = some b) : ref04_Literal F p = some (litV p b) := by
  unfold ref04_Literal
  refine loopF_hoare (fun s => ∃ k : Nat, s = (txP (p.take k), (k : Int)) ∧ k ≤ p.length ∧ ∀ j, j < k → ∀ hj : j < p.length, byP p[j] = true) (fun s => p.length - s.2.toNat) ?_ F _ ⟨0, rfl, by omega, fun j h => by omega⟩ (by simp; omega)
  rintro s ⟨k, rfl, hk, hj⟩
  dsimp only
  have htl := txP_len (p.take k) fun it h => hit it (List.mem_of_mem_take h)
  have htk : (p.take k).length = k := by rw [List.length_take]; omega
  by_cases hk : k < p.length
  · have hI := (hit _ (List.getElem_mem hk)).2.1
    cases hby : byP p[k] with
    | false =>
      right
      intro rc
      have hne : (p[k].fKind != 1) = true := by unfold byP at hby; simp [bne, hby]
      rw [ct (by omega), rq_ix hk, Int.toNat_natCast, gd hk, hne, cond_true, litV, all_not hk hby]
      rfl
    | true =>
      left
      refine ⟨(txP (p.take (k + 1)), ((k + 1 : Nat) : Int)), ⟨k + 1, rfl, by omega, fun j h1 h2 => ?_⟩, by simp; omega, fun rc => ?_⟩
      · by_cases e : j = k
        · subst e; exact hby
        · exact hj j (by omega) h2
      · have hne : (p[k].fKind != 1) = false := by unfold byP at hby; simp [bne, hby]
        rw [ct (by omega), rq_ix hk, rq_ix hk, Int.toNat_natCast, gd hk, hne, cond_false, rq_str (by omega), w64s (by omega), txP_take p k hk]
  · right
    obtain rfl : k = p.length := by omega
    intro rc
    rw [cf (by omega), hb, Option.bind_some, litV, all_take (fun j h => hj j h h), List.take_length]
    cases b <;> rfl
theorem pliteral_eq (F : Nat) (p : List TPatItem) (hF : p.length + 300 < F) (hp : p.length < 100000) (hit : ∀ it ∈ p, ItOk it) {b : Bool} (hb : pattern_valid F p = some b) : pattern_Literal F p = some (litV p b) := by
  unfold pattern_Literal
  rw [hb, Option.bind_some]
  cases b with
  | false => unfold litV; rw [Bool.and_false]; rfl
  | true =>
    rw [Bool.not_true, cond_false]
    refine loopF_hoare (fun s => ∃ k : Nat, s = (toInts (txP (p.take k)), (k : Int)) ∧ k ≤ p.length ∧ ∀ j, j < k → ∀ hj : j < p.length, byP p[j] = true) (fun s => p.length - s.2.toNat) ?_ F _ ⟨0, rfl, by omega, fun j h => by omega⟩ (by simp; omega)
    rintro s ⟨k, rfl, hk, hj⟩
    dsimp only
    have htl := txP_len (p.take k) fun it h => hit it (List.mem_of_mem_take h)
    have htk : (p.take k).length = k := by rw [List.length_take]; omega
    have hil : ∀ s : List UInt8, (toInts s).length = s.length := fun s => List.length_map _
    by_cases hk : k < p.length
    · have hI := (hit _ (List.getElem_mem hk)).2.1
      cases hby : byP p[k] with
      | false =>
        right
        intro rc
        have hne : (p[k].fKind != 1) = true := by unfold byP at hby; simp [bne, hby]
        rw [ct (by omega), rq_ix hk, Int.toNat_natCast, gd hk, hne, cond_true, litV, all_not hk hby]
        rfl
      | true =>
        left
        refine ⟨(toInts (txP (p.take (k + 1))), ((k + 1 : Nat) : Int)), ⟨k + 1, rfl, by omega, fun j h1 h2 => ?_⟩, by simp; omega, fun rc => ?_⟩
        · by_cases e : j = k
          · subst e; exact hby
          · exact hj j (by omega) h2
        · have hne : (p[k].fKind != 1) = false := by unfold byP at hby; simp [bne, hby]
          rw [ct (by omega), rq_ix hk, Int.toNat_natCast, gd hk, hne, cond_false, rq_cap (by rw [hil, hil]; omega) (by omega), w64s (by omega), txP_take p k hk]
          simp [toInts]
    · right
      obtain rfl : k = p.length := by omega
      intro rc
      rw [cf (by omega), litV, all_take (fun j h => hj j h h), List.take_length, bytes_rt]
      rfl
theorem literal_eq2 (F : Nat) (p : List TPatItem) (hF : p.length + 300 < F) (hp : p.length < 100000) (hit : ∀ it ∈ p, ItOk it) : pattern_Literal F p = ref04_Literal F p := by
  obtain ⟨b, hb⟩ := valid_tot F p hF hp hit
  rw [pliteral_eq F p hF hp hit hb, rliteral_eq F p hF hp hit (by rw [← valid_eq2 F p hF hp hit]; exact hb)]
end Go.Proofs.YtmklhkmeampamaaGreatDoor
namespace Go.Proofs.YtmklhkmeampamaaGreatDoor
open Go.RT
set_option linter.all false
set_option maxRecDepth 100000
def tabB (n : Nat) (f : Nat → Bool) : List Bool := (List.range n).map f
theorem tabB_len (n : Nat) (f : Nat → Bool) : (tabB n f).length = n := by unfold tabB; simp
theorem tabB_at {n i : Nat} (f : Nat → Bool) (h : i < n) : (tabB n f).getD i false = f i := by
  unfold tabB
  rw [List.getD_eq_getElem?_getD, List.getElem?_map, List.getElem?_range h]
  rfl
theorem tabB_congr {n : Nat} {f g : Nat → Bool} (h : ∀ i, i < n → f i = g i) : tabB n f = tabB n g := by
  unfold tabB
  exact List.map_congr_left fun i hi => h i (List.mem_range.1 hi)
theorem tabB_set (n i : Nat) (f : Nat → Bool) (b : Bool) : (tabB n f).set i b = tabB n (fun j => cond (j == i) b (f j)) := by
  unfold tabB
  refine List.ext_getElem (by simp) fun j h1 h2 => ?_
  rw [List.getElem_set]
  simp only [List.getElem_map, List.getElem_range]
  by_cases h : i = j
  · subst h; simp
  · have : (j == i) = false := by simp; omega
    rw [if_neg h, this]
    rfl
theorem tabB_rep (n : Nat) : List.replicate n false = tabB n (fun _ => false) := by
  refine List.ext_getElem (by simp [tabB]) fun j h1 h2 => ?_
  simp [tabB]
section
variable (p : List TPatItem) (s : List UInt8)
def itA (i : Nat) : TPatItem := p.getD i dTPatItem
def stA (i : Nat) : Bool := (itA p i).fKind == 3
def fitS (it : TPatItem) (b : Int) : Bool :=
  cond (it.fKind == 1) (((it.fText.getD 0 0).toNat : Int) == b) (cond (it.fKind == 4) (!((it.fSet.any fun x => decide (x.fLow ≤ b) && decide (b ≤ x.fHigh)) == it.fNeg)) true)
def fiA (i k : Nat) : Bool := fitS (itA p i) ((s.getD k 0).toNat : Int)
def upE (f : Nat → Bool) : Nat → Bool
  | 0 => f 0
  | k + 1 => f (k + 1) || upE f k
def prE (f g : Nat → Bool) : Nat → Bool
  | 0 => false
  | k + 1 => f k && g k
def EE : Nat → Nat → Bool
  | 0, k => k == 0
  | i + 1, k => cond (stA p i) (upE (EE i) k) (prE (EE i) (fiA p s i) k)
def EP (i k : Nat) : Bool := EE p s i k || (stA p i && EE p s (i + 1) k)
theorem stA_end : stA p p.length = false := by
  unfold stA itA
  rw [List.getD_eq_getElem?_getD, List.getElem?_eq_none (Nat.le_refl _)]
  rfl
theorem EE_star {i : Nat} (h : stA p i = true) (k : Nat) : EE p s (i + 1) (k + 1) = (EE p s i (k + 1) || EE p s (i + 1) k) := by
  rw [EE, EE, h]; rfl
theorem EE_star0 {i : Nat} (h : stA p i = true) : EE p s (i + 1) 0 = EE p s i 0 := by rw [EE, h]; rfl
theorem EE_item {i : Nat} (h : stA p i = false) (k : Nat) : EE p s (i + 1) (k + 1) = (EE p s i k && fiA p s i k) := by rw [EE, h]; rfl
theorem EE_item0 {i : Nat} (h : stA p i = false) : EE p s (i + 1) 0 = false := by rw [EE, h]; rfl
theorem EE_up {i : Nat} (h : stA p i = true) : ∀ k, EE p s i k = true → EE p s (i + 1) k = true
  | 0, e => by rw [EE_star0 p s h]; exact e
  | k + 1, e => by rw [EE_star p s h, e]; rfl
def spF (f : Nat → Bool) : Nat → Bool
  | 0 => f 0
  | i + 1 => f (i + 1) || (spF f i && stA p i)
def preA (f : Nat → Bool) (b k : Nat) (j : Nat) : Bool := (decide (j < b) && (f j && stA p j)) || (decide (0 < j) && (decide (j ≤ b) && (f (j - 1) && (!stA p (j - 1) && fiA p s (j - 1) k))))
theorem EP_first : ∀ i, spF p (fun j => j == 0) i = EP p s i 0 := by
  have hE : ∀ i, EP p s i 0 = EE p s i 0 := by
    intro i
    unfold EP
    cases h : stA p i with
    | false => simp
    | true => rw [EE_star0 p s h]; cases EE p s i 0 <;> rfl
  intro i
  rw [hE]
  induction i with
  | zero => rfl
  | succ i ih =>
    rw [spF, ih]
    cases h : stA p i with
    | false => rw [EE_item0 p s h]; simp
    | true => rw [EE_star0 p s h]; simp
theorem EP_next (k : Nat) : ∀ i, i ≤ p.length → spF p (preA p s (fun j => EP p s j k) p.length k) i = EP p s i (k + 1) := by
  have hpre : ∀ i, i ≤ p.length → preA p s (fun j => EP p s j k) p.length k i = ((stA p i && EE p s (i + 1) k) || (decide (0 < i) && (!stA p (i - 1) && EE p s i (k + 1)))) := by
    intro i hi
    unfold preA
    congr 1
    · by_cases h : i < p.length
      · rw [decide_eq_true h, Bool.true_and]
        unfold EP
        dsimp only
        cases hs : stA p i with
        | false => simp
        | true =>
          cases he : EE p s i k with
          | false => simp
          | true => rw [EE_up p s hs k he]; rfl
      · obtain rfl : i = p.length := by omega
        rw [stA_end, decide_eq_false h]; simp
    · cases i with
      | zero => simp
      | succ i =>
        rw [decide_eq_true (show 0 < i + 1 by omega), decide_eq_true hi, Bool.true_and, Bool.true_and, Bool.true_and, Nat.add_sub_cancel]
        unfold EP
        dsimp only
        cases hs : stA p i with
        | true => simp
        | false => rw [EE_item p s hs]; simp
  intro i
  induction i with
  | zero =>
    intro hi
    rw [spF, hpre 0 hi]
    unfold EP
    rw [show EE p s 0 (k + 1) = false from rfl]
    cases hs : stA p 0 with
    | false => simp
    | true => rw [EE_star p s hs, show EE p s 0 (k + 1) = false from rfl]; simp
  | succ i ih =>
    intro hi
    rw [spF, hpre (i + 1) hi, ih (by omega)]
    rw [decide_eq_true (show 0 < i + 1 by omega), Bool.true_and, Nat.add_sub_cancel]
    have e2 : EP p s (i + 1) (k + 1) = (EE p s (i + 1) (k + 1) || (stA p (i + 1) && EE p s (i + 2) k)) := by
      unfold EP
      cases hs : stA p (i + 1) with
      | false => simp
      | true => rw [EE_star p s hs]; cases EE p s (i + 1) (k + 1) <;> simp
    rw [e2]
    unfold EP
    cases hs : stA p i with
    | false => cases EE p s (i + 1) (k + 1) <;> cases (stA p (i + 1) && EE p s (i + 2) k) <;> simp
    | true =>
      have : (EE p s i (k + 1) || (true && EE p s (i + 1) (k + 1))) = EE p s (i + 1) (k + 1) := by
        cases he : EE p s i (k + 1) with
        | false => simp
        | true => rw [EE_up p s hs _ he]; rfl
      rw [this]
      cases EE p s (i + 1) (k + 1) <;> cases (stA p (i + 1) && EE p s (i + 2) k) <;> rfl
theorem spF_none (f : Nat → Bool) (n : Nat) (h : ∀ i, i ≤ n → f i = false) : ∀ i, i ≤ n → spF p f i = false
  | 0, hi => h 0 hi
  | i + 1, hi => by rw [spF, h _ hi, spF_none f n h i (by omega)]; rfl
theorem EP_dead (k : Nat) (h : ∀ i, i ≤ p.length → EP p s i k = false) : ∀ d i, i ≤ p.length → EP p s i (k + d) = false
  | 0, i, hi => h i hi
  | d + 1, i, hi => by
    rw [← Nat.add_assoc, ← EP_next p s (k + d) i hi]
    refine spF_none p _ p.length (fun j hj => ?_) i hi
    unfold preA
    dsimp only
    rw [EP_dead k h d j hj]
    by_cases h0 : 0 < j
    · rw [EP_dead k h d (j - 1) (by omega)]; simp
    · simp [h0]
theorem EP_end (k : Nat) : EP p s p.length k = EE p s p.length k := by unfold EP; rw [stA_end]; simp
end
def inSp (b : Int) (x : TSpan) : Bool := decide (x.fLow ≤ b) && decide (b ≤ x.fHigh)
theorem fits_eq (F : Nat) (it : TPatItem) (b : Int) (hF : 300 < F) (h : ItOk it) : pattern_fits F it b = some (fitS it b) := by
  unfold pattern_fits fitS
  cases hk : (it.fKind == 1) with
  | true =>
    have := h.1 (eq_of_beq hk)
    rw [cond_true, cond_true, rq1 (by omega)]
  | false =>
    rw [cond_false, cond_false]
    cases (it.fKind == 4) with
    | false => rfl
    | true =>
      rw [cond_true, cond_true]
      have hl := h.2.2
      refine loopF_hoare (fun s : Bool × Int => ∃ k : Nat, s = ((it.fSet.take k).any (inSp b), (k : Int)) ∧ k ≤ it.fSet.length) (fun s => it.fSet.length - s.2.toNat) ?_ F _ ⟨0, rfl, by omega⟩ (by simp; omega)
      rintro s ⟨k, rfl, hk2⟩
      dsimp only
      by_cases hk2 : k < it.fSet.length
      · left
        refine ⟨_, ⟨k + 1, rfl, by omega⟩, by simp; omega, fun rc => ?_⟩
        rw [ct (by omega), rq_ix hk2, Int.toNat_natCast, gd hk2, cond_som, cond_som, Option.bind_some, w64s (by omega), List.take_succ_eq_append_getElem hk2, List.any_append]
        unfold inSp
        cases ((it.fSet.take k).any fun x => decide (x.fLow ≤ b) && decide (b ≤ x.fHigh)) <;> cases h1 : decide (it.fSet[k].fLow ≤ b) <;> simp [h1]
      · right
        obtain rfl : k = it.fSet.length := by omega
        intro rc
        rw [cf (by omega), List.take_length]
        rfl
theorem takes_eq (F : Nat) (it : TPatItem) (b : Int) (hF : 300 < F) (h : ItOk it) : ref04_takes F it b = some (fitS it b) := by
  unfold ref04_takes fitS
  cases hk : (it.fKind == 1) with
  | true =>
    have := h.1 (eq_of_beq hk)
    rw [cond_true, cond_true, rq1 (by omega)]
  | false =>
    rw [cond_false, cond_false]
    cases (it.fKind == 4) with
    | false => rfl
    | true =>
      rw [cond_true, cond_true]
      have hl := h.2.2
      have e : ref04_in F it.fSet b = some (it.fSet.any (inSp b)) := by
        unfold ref04_in
        refine loopF_hoare (fun s : Int => ∃ k : Nat, s = (k : Int) ∧ k ≤ it.fSet.length ∧ (it.fSet.take k).any (inSp b) = false) (fun s => it.fSet.length - s.toNat) ?_ F _ ⟨0, rfl, by omega, rfl⟩ (by simp; omega)
        rintro s ⟨k, rfl, hk2, hn⟩
        by_cases hk2 : k < it.fSet.length
        · have hin : (cond (decide (it.fSet[k].fLow ≤ b)) (rq ((decide (0 ≤ (k : Int))) && (decide ((k : Int) < (it.fSet.length : Int)))) (some (decide (b ≤ it.fSet[k].fHigh)))) (some false) : Option Bool) = some (inSp b it.fSet[k]) := by
            rw [rq_ix hk2]
            unfold inSp
            cases decide (it.fSet[k].fLow ≤ b) <;> rfl
          have hsnoc : (it.fSet.take (k + 1)).any (inSp b) = inSp b it.fSet[k] := by
            rw [List.take_succ_eq_append_getElem hk2, List.any_append, hn]; simp
          cases hb : inSp b it.fSet[k] with
          | true =>
            right
            intro rc
            have : it.fSet.any (inSp b) = true := List.any_eq_true.2 ⟨_, List.getElem_mem hk2, hb⟩
            rw [ct (by omega), rq_ix hk2, Int.toNat_natCast, gd hk2, hin, Option.bind_some, hb, this]
            rfl
          | false =>
            left
            refine ⟨_, ⟨k + 1, rfl, by omega, by rw [hsnoc, hb]⟩, by simp; omega, fun rc => ?_⟩
            rw [ct (by omega), rq_ix hk2, Int.toNat_natCast, gd hk2, hin, Option.bind_some, hb, w64s (by omega)]
            rfl
        · right
          obtain rfl : k = it.fSet.length := by omega
          intro rc
          rw [List.take_length] at hn
          rw [cf (by omega), hn]
      rw [e]
      rfl
theorem spread_eq (F : Nat) (p : List TPatItem) (f : Nat → Bool) (hF : p.length < F) (hp : p.length < 100000) : pattern_spread F p (tabB (p.length + 1) f) = some (tabB (p.length + 1) (spF p f)) := by
  unfold pattern_spread
  refine loopF_hoare (fun s : Int × List Bool => ∃ k : Nat, s = ((k : Int), tabB (p.length + 1) (fun j => cond (decide (j ≤ k)) (spF p f j) (f j))) ∧ k ≤ p.length) (fun s => p.length - s.1.toNat) ?_ F _ ⟨0, congrArg (Prod.mk (0 : Int)) (tabB_congr fun i hi => by
      cases i with
      | zero => rfl
      | succ i => rw [dF (show ¬ i + 1 ≤ 0 by omega)]; rfl), by omega⟩ (by simp; omega)
  rintro s ⟨k, rfl, hk⟩
  dsimp only
  have hlen : ∀ g : Nat → Bool, (tabB (p.length + 1) g).length = p.length + 1 := fun g => tabB_len _ g
  by_cases hk : k < p.length
  · left
    refine ⟨_, ⟨k + 1, rfl, by omega⟩, by simp; omega, fun rc => ?_⟩
    rw [ct (by omega), rq_ix hk, rq2 (by omega) (by rw [hlen]; omega), Int.toNat_natCast, tabB_at _ (show k < p.length + 1 by omega), cond_som, Option.bind_some, w64s (by omega), dT (show k ≤ k by omega), cond_true]
    have e : ∀ (A B : Bool) (L : List Bool), cond A (B, L) (false, L) = ((A && B), L) := by intro A B L; cases A <;> rfl
    rw [e]
    dsimp only
    show cond (spF p f k && stA p k) _ _ = _
    have e2 : tabB (p.length + 1) (fun j => cond (decide (j ≤ k + 1)) (spF p f j) (f j)) = cond (spF p f k && stA p k) ((tabB (p.length + 1) (fun j => cond (decide (j ≤ k)) (spF p f j) (f j))).set (k + 1) true) (tabB (p.length + 1) (fun j => cond (decide (j ≤ k)) (spF p f j) (f j))) := by
      cases hc : (spF p f k && stA p k) with
      | true =>
        rw [cond_true, tabB_set]
        refine tabB_congr fun j hj => ?_
        by_cases h1 : j = k + 1
        · subst h1
          rw [beq_self_eq_true, dT (by omega), cond_true, cond_true, spF, hc]; simp
        · have : (j == k + 1) = false := by simpa using h1
          rw [this, cond_false]
          by_cases h2 : j ≤ k
          · rw [dT h2, dT (show j ≤ k + 1 by omega)]
          · rw [dF h2, dF (show ¬ j ≤ k + 1 by omega)]
      | false =>
        rw [cond_false]
        refine tabB_congr fun j hj => ?_
        by_cases h1 : j = k + 1
        · subst h1
          rw [dT (show k + 1 ≤ k + 1 by omega), dF (show ¬ k + 1 ≤ k by omega), cond_true, cond_false, spF, hc]; simp
        · by_cases h2 : j ≤ k
          · rw [dT h2, dT (show j ≤ k + 1 by omega)]
          · rw [dF h2, dF (show ¬ j ≤ k + 1 by omega)]
    rw [e2]
    cases hc : (spF p f k && stA p k) with
    | true => rw [cond_true, cond_true, rq2 (by omega) (by rw [hlen]; omega), Int.toNat_natCast]
    | false => rfl
  · right
    obtain rfl : k = p.length := by omega
    intro rc
    rw [cf (by omega)]
    rw [tabB_congr (g := spF p f) fun j hj => by rw [dT (show j ≤ p.length by omega), cond_true]]
theorem preA_last (p : List TPatItem) (s : List UInt8) (f : Nat → Bool) (k : Nat) (j : Nat) : preA p s f 0 k j = false := by
  unfold preA
  cases j with
  | zero => simp
  | succ j => simp
theorem preA_next (p : List TPatItem) (s : List UInt8) (f : Nat → Bool) (b k : Nat) (j : Nat) :
    preA p s f (b + 1) k j = cond (f b && stA p b) (cond (j == b) true (preA p s f b k j)) (cond (f b && fiA p s b k) (cond (j == b + 1) true (preA p s f b k j)) (preA p s f b k j)) := by
  unfold preA
  by_cases h1 : j = b
  · subst h1
    have : (j == j + 1) = false := by simp
    rw [this, beq_self_eq_true, dT (show j < j + 1 by omega), dF (show ¬ j < j by omega), dT (show j ≤ j + 1 by omega), dT (show j ≤ j by omega)]
    cases f j <;> cases stA p j <;> cases fiA p s j k <;> simp
  · by_cases h2 : j = b + 1
    · subst h2
      have : (b + 1 == b) = false := by simp
      rw [this, beq_self_eq_true, dF (show ¬ b + 1 < b + 1 by omega), dF (show ¬ b + 1 < b by omega), dT (show b + 1 ≤ b + 1 by omega), dF (show ¬ b + 1 ≤ b by omega), dT (show 0 < b + 1 by omega), Nat.add_sub_cancel]
      cases f b <;> cases stA p b <;> cases fiA p s b k <;> simp
    · have e1 : (j == b) = false := by simpa using h1
      have e2 : (j == b + 1) = false := by simpa using h2
      rw [e1, e2]
      have e3 : decide (j < b + 1) = decide (j < b) := decide_eq_decide.2 (by omega)
      have e4 : decide (j ≤ b + 1) = decide (j ≤ b) := decide_eq_decide.2 (by omega)
      rw [e3, e4]
      cases (f b && stA p b) <;> cases (f b && fiA p s b k) <;> rfl
theorem advance_eq (F : Nat) (p : List TPatItem) (s : List UInt8) (f : Nat → Bool) (k : Nat) (hF : p.length + 300 < F) (hp : p.length < 100000) (hit : ∀ it ∈ p, ItOk it) :
    pattern_advance_1 F p (tabB (p.length + 1) f) ((s.getD k 0).toNat : Int) = some (tabB (p.length + 1) (spF p (preA p s f p.length k))) := by
  unfold pattern_advance_1
  have hw : w64 ((p.length : Int) + 1) = ((p.length + 1 : Nat) : Int) := w64s (by omega)
  have hlen : ∀ g : Nat → Bool, (tabB (p.length + 1) g).length = p.length + 1 := fun g => tabB_len _ g
  rw [hw, rq_true (by rw [dT (by omega), dT (by omega), dT (by omega), dT (by omega), dT (by omega)]; rfl), Int.toNat_natCast, tabB_rep]
  refine loopF_hoare (fun x : Int × List Bool => ∃ b : Nat, x = ((b : Int), tabB (p.length + 1) (preA p s f b k)) ∧ b ≤ p.length) (fun x => p.length - x.1.toNat) ?_ F _ ⟨0, by rw [tabB_congr fun j _ => (preA_last p s f k j).symm]; rfl, by omega⟩ (by simp; omega)
  rintro x ⟨b, rfl, hb⟩
  dsimp only
  by_cases hb : b < p.length
  · left
    refine ⟨_, ⟨b + 1, rfl, by omega⟩, by simp; omega, fun rc => ?_⟩
    have hki : (itA p b) = p[b] := by unfold itA; rw [gd hb]
    have hst : (p[b].fKind == 3) = stA p b := by unfold stA; rw [hki]
    have hfi : fitS p[b] ((s.getD k 0).toNat : Int) = fiA p s b k := by unfold fiA; rw [hki]
    rw [ct (by omega), rq_ix hb, rq2 (by omega) (by rw [hlen]; omega), Int.toNat_natCast, gd (l := p) hb, tabB_at _ (show b < p.length + 1 by omega), w64s (by omega), hst, fits_eq F p[b] _ (by omega) (hit _ (List.getElem_mem hb)), hfi, Option.bind_some]
    have e : tabB (p.length + 1) (preA p s f (b + 1) k) = cond (f b && stA p b) ((tabB (p.length + 1) (preA p s f b k)).set b true) (cond (f b && fiA p s b k) ((tabB (p.length + 1) (preA p s f b k)).set (b + 1) true) (tabB (p.length + 1) (preA p s f b k))) := by
      rw [tabB_set, tabB_set]
      cases h1 : (f b && stA p b) <;> cases h2 : (f b && fiA p s b k) <;> exact tabB_congr fun j _ => by rw [preA_next, h1, h2]; rfl
    rw [e]
    cases hf : f b with
    | false => rfl
    | true =>
      cases hs : stA p b with
      | true =>
        simp only [Bool.not_true, cond_false, cond_true, Bool.and_self]
        rw [rq2 (by omega) (by rw [hlen]; omega)]
      | false =>
        cases hx : fiA p s b k with
        | true =>
          simp only [Bool.not_true, cond_false, cond_true, Bool.and_self, Bool.and_false]
          rw [rq2 (by omega) (by rw [hlen]; omega), Int.toNat_natCast]
        | false => rfl
  · right
    obtain rfl : b = p.length := by omega
    intro rc
    rw [cf (by omega), spread_eq F p _ (by omega) hp, Option.bind_some]
theorem contains_no (F : Nat) (st : List Bool) (hF : st.length < F) (hs : st.length < 1000000) : ∃ b, (b = false → ∀ i, i < st.length → st.getD i false = false) ∧ slices_Contains_1 F st true = some b := by
  unfold slices_Contains_1
  obtain ⟨r, hr, h⟩ : ∃ r : Int, (r < 0 → ∀ i, i < st.length → st.getD i false = false) ∧ slices_Index_1 F st true = some r := by
    unfold slices_Index_1
    refine loopF_post _ (fun s : Int => ∃ k : Nat, s = (k : Int) ∧ k ≤ st.length ∧ ∀ i, i < k → st.getD i false = false) (fun s => st.length - s.toNat) ?_ F _ ⟨0, rfl, by omega, fun i hi => by omega⟩ (by simp; omega)
    rintro ii ⟨k, rfl, hk, hn⟩
    by_cases hk : k < st.length
    · cases hv : st.getD k false with
      | true =>
        right
        refine ⟨(k : Int), fun h => by omega, fun rc => ?_⟩
        rw [ct (by omega), rq_ix hk, Int.toNat_natCast, hv]
        rfl
      | false =>
        left
        refine ⟨_, ⟨k + 1, rfl, by omega, fun i hi => ?_⟩, by simp; omega, fun rc => ?_⟩
        · by_cases e : i = k
          · subst e; exact hv
          · exact hn i (by omega)
        · rw [ct (by omega), rq_ix hk, Int.toNat_natCast, hv, w64s (by omega)]
          rfl
    · right
      obtain rfl : k = st.length := by omega
      exact ⟨-1, fun _ => hn, fun rc => by rw [cf (by omega)]⟩
  refine ⟨decide (0 ≤ r), fun e => hr (by have := of_decide_eq_false e; omega), ?_⟩
  rw [h]
  rfl
theorem pmatch_eq (F : Nat) (p : List TPatItem) (n : List UInt8) (hF : p.length + 300 < F) (hF2 : n.length < F) (hn : n.length < 100000) (hp : p.length < 100000) (hit : ∀ it ∈ p, ItOk it) {v : Bool} (hv : pattern_valid F p = some v) :
    pattern_Match F p n = some (v && EE p n p.length n.length) := by
  unfold pattern_Match pattern_search
  rw [hv, Option.bind_some]
  cases v with
  | false => rfl
  | true =>
    have hw : w64 ((p.length : Int) + 1) = ((p.length + 1 : Nat) : Int) := w64s (by omega)
    have hlen : ∀ g : Nat → Bool, (tabB (p.length + 1) g).length = p.length + 1 := fun g => tabB_len _ g
    rw [hw, Bool.not_true, cond_false, rq_true (by rw [dT (by omega), dT (by omega), dT (by omega), dT (by omega), dT (by omega)]; rfl), Int.toNat_natCast, rq1 (by simp), tabB_rep, tabB_set]
    rw [tabB_congr (g := fun j => j == 0) fun j _ => by cases (j == 0) <;> rfl, spread_eq F p _ (by omega) hp, Option.bind_some, tabB_congr fun j _ => EP_first p n j]
    have hsw : ∀ x : Option (Int × Bool), (∃ r, r.2 = EE p n p.length n.length ∧ x = some r) → ((x.bind fun x3 => some (x3.1, x3.2)).bind fun x1 => some x1.2) = some (true && EE p n p.length n.length) := by
      rintro x ⟨r, h, rfl⟩
      rw [Bool.true_and, ← h]
      rfl
    refine hsw _ (loopF_post (R := Int × Bool) _ (fun s : List Bool × Int × Bool × Int => ∃ k : Nat, s = (tabB (p.length + 1) (fun j => EP p n j k), 0, false, (k : Int)) ∧ k ≤ n.length) (fun s => n.length - s.2.2.2.toNat) ?_ F _ ⟨0, rfl, by omega⟩ (by simp; omega))
    rintro s ⟨k, rfl, hk⟩
    dsimp only
    have h1 : ∀ b : Bool, (rq ((decide (0 ≤ (p.length : Int))) && (decide ((p.length : Int) < ((tabB (p.length + 1) (fun j => EP p n j k)).length : Int)))) (cond ((tabB (p.length + 1) (fun j => EP p n j k)).getD (Int.toNat (p.length : Int)) false) (some (decide ((n.length : Int) ≤ (k : Int)))) (some false)) : Option Bool) = some (EE p n p.length k && decide (n.length ≤ k)) := by
      intro _
      rw [rq2 (by omega) (by rw [hlen]; omega), Int.toNat_natCast, tabB_at _ (by omega), EP_end, cond_som]
      have : decide ((n.length : Int) ≤ (k : Int)) = decide (n.length ≤ k) := decide_eq_decide.2 (by omega)
      rw [this]
      cases EE p n p.length k <;> rfl
    by_cases hkn : k < n.length
    · obtain ⟨c, hc1, hc⟩ := contains_no F (tabB (p.length + 1) (fun j => EP p n j k)) (by rw [hlen]; omega) (by rw [hlen]; omega)
      cases c with
      | false =>
        right
        refine ⟨(0, false), ?_, fun rc => ?_⟩
        · have hz := EP_dead p n k (fun i hi => by
            have := hc1 rfl i (by rw [hlen]; omega)
            rwa [tabB_at _ (by omega)] at this) (n.length - k) p.length (Nat.le_refl _)
          rw [show k + (n.length - k) = n.length by omega, EP_end] at hz
          exact hz.symm
        · rw [h1 true, Option.bind_some, dF (show ¬ n.length ≤ k by omega), Bool.and_false]
          show ((cond ((k : Int) == (n.length : Int)) (some true) ((slices_Contains_1 F (tabB (p.length + 1) (fun j => EP p n j k)) true).bind fun x9 => some (!x9)) : Option Bool).bind _) = _
          rw [show ((k : Int) == (n.length : Int)) = false by simp; omega, cond_false, hc]
          rfl
      | true =>
        left
        refine ⟨(tabB (p.length + 1) (fun j => EP p n j (k + 1)), 0, false, ((k + 1 : Nat) : Int)), ⟨k + 1, rfl, by omega⟩, by simp; omega, fun rc => ?_⟩
        rw [h1 true, Option.bind_some, dF (show ¬ n.length ≤ k by omega), Bool.and_false]
        show ((cond ((k : Int) == (n.length : Int)) (some true) ((slices_Contains_1 F (tabB (p.length + 1) (fun j => EP p n j k)) true).bind fun x9 => some (!x9)) : Option Bool).bind _) = _
        rw [show ((k : Int) == (n.length : Int)) = false by simp; omega, cond_false, hc, Option.bind_some, Option.bind_some, Bool.not_true, cond_false, rq_ix hkn, Int.toNat_natCast, advance_eq F p n _ k hF hp hit, Option.bind_some, w64s (by omega)]
        rw [tabB_congr fun j hj => EP_next p n k j (by omega)]
    · right
      obtain rfl : k = n.length := by omega
      refine ⟨cond (EE p n p.length n.length) ((n.length : Int), true) (0, false), by cases EE p n p.length n.length <;> rfl, fun rc => ?_⟩
      rw [h1 true, Option.bind_some, dT (Nat.le_refl _), Bool.and_true]
      have e0 : ((n.length : Int) == (n.length : Int)) = true := by simp
      cases EE p n p.length n.length with
      | true =>
        show ((cond ((n.length : Int) == (n.length : Int)) (some true) _ : Option Bool).bind _) = _
        rw [e0]
        rfl
      | false =>
        show ((cond ((n.length : Int) == (n.length : Int)) (some true) _ : Option Bool).bind _) = _
        rw [e0]
        rfl
theorem ends_eq (F : Nat) (p : List TPatItem) (s : List UInt8) (hF : p.length + 300 < F) (hF2 : s.length + 1 < F) (hs : s.length < 100000) (hp : p.length < 100000) (hit : ∀ it ∈ p, ItOk it) :
    ref04_ends F p s = some (tabB (s.length + 1) (EE p s p.length)) := by
  unfold ref04_ends
  have hw : w64 ((s.length : Int) + 1) = ((s.length + 1 : Nat) : Int) := w64s (by omega)
  have hlen : ∀ g : Nat → Bool, (tabB (s.length + 1) g).length = s.length + 1 := fun g => tabB_len _ g
  have hrq : ∀ {α : Type} (x : Option α), rq ((decide (0 ≤ ((s.length + 1 : Nat) : Int))) && ((decide (((s.length + 1 : Nat) : Int) ≤ ((s.length + 1 : Nat) : Int))) && ((decide (0 < ((s.length + 1 : Nat) : Int))) && ((decide (((s.length + 1 : Nat) : Int) ≤ 9223372036854775807)) && (decide ((1 : Int) * ((s.length + 1 : Nat) : Int) ≤ 140737488355328)))))) x = x := by
    intro α x
    exact rq_true (by rw [dT (by omega), dT (by omega), dT (by omega), dT (by omega), dT (by omega)]; rfl)
  rw [hw, hrq, Int.toNat_natCast, rq1 (by simp), tabB_rep, tabB_set]
  refine loopF_hoare (fun x : List Bool × Int => ∃ i : Nat, x = (tabB (s.length + 1) (EE p s i), (i : Int)) ∧ i ≤ p.length) (fun x => p.length - x.2.toNat) ?_ F _ ⟨0, congrArg (fun y => (y, (0 : Int))) (tabB_congr fun j _ => by
      show cond (j == 0) true false = (j == 0)
      cases (j == 0) <;> rfl), by omega⟩ (by simp; omega)
  rintro x ⟨i, rfl, hi⟩
  dsimp only
  by_cases hi : i < p.length
  · left
    refine ⟨(tabB (s.length + 1) (EE p s (i + 1)), ((i + 1 : Nat) : Int)), ⟨i + 1, rfl, by omega⟩, by simp; omega, fun rc => ?_⟩
    rw [ct (by omega), hrq]
    refine loopF_hoare (fun x : Int × List Bool => ∃ k : Nat, x = ((k : Int), tabB (s.length + 1) (fun j => decide (j < k) && EE p s (i + 1) j)) ∧ k ≤ s.length + 1) (fun x => s.length + 1 - x.1.toNat) ?_ F _ ⟨0, congrArg (Prod.mk (0 : Int)) (tabB_congr fun j _ => by simp), by omega⟩ (by simp; omega)
    rintro x ⟨k, rfl, hk⟩
    dsimp only
    by_cases hk : k ≤ s.length
    · left
      refine ⟨_, ⟨k + 1, rfl, by omega⟩, by simp; omega, fun rc2 => ?_⟩
      have hki : (itA p i) = p[i] := by unfold itA; rw [gd hi]
      have hst : (p[i].fKind == 3) = stA p i := by unfold stA; rw [hki]
      have hset : ∀ b, b = EE p s (i + 1) k → (tabB (s.length + 1) (fun j => decide (j < k) && EE p s (i + 1) j)).set k b = tabB (s.length + 1) (fun j => decide (j < k + 1) && EE p s (i + 1) j) := by
        rintro b rfl
        rw [tabB_set]
        refine tabB_congr fun j _ => ?_
        by_cases h : j = k
        · subst h
          rw [beq_self_eq_true, dT (show j < j + 1 by omega)]
          rfl
        · have e1 : (j == k) = false := by simpa using h
          have e2 : decide (j < k + 1) = decide (j < k) := decide_eq_decide.2 (by omega)
          rw [e1, e2]
          rfl
      rw [ct (by omega), rq_ix hi, Int.toNat_natCast, gd (l := p) hi, hst, w64s (by omega)]
      cases hs3 : stA p i with
      | true =>
        rw [cond_true, rq2 (by omega) (by rw [hlen]; omega), Int.toNat_natCast, tabB_at _ (by omega)]
        have hres : ∀ b, b = EE p s (i + 1) k → ((some ((k : Int), b, tabB (s.length + 1) (fun j => decide (j < k) && EE p s (i + 1) j)) : Option (Int × Bool × (List Bool))).bind fun x5 =>
            rq ((decide (0 ≤ x5.1)) && (decide (x5.1 < (x5.2.2.length : Int)))) (rc2 (((k + 1 : Nat) : Int), x5.2.2.set (Int.toNat x5.1) x5.2.1))) = rc2 (((k + 1 : Nat) : Int), tabB (s.length + 1) (fun j => decide (j < k + 1) && EE p s (i + 1) j)) := by
          intro b hb
          rw [Option.bind_some]
          dsimp only
          rw [rq2 (by omega) (by rw [hlen]; omega), Int.toNat_natCast, hset b hb]
        cases he : EE p s i k with
        | true => exact hres true (EE_up p s hs3 k he).symm
        | false =>
          rw [cond_false]
          cases k with
          | zero =>
            rw [cf (by omega)]
            exact hres false (by rw [EE_star0 p s hs3, he])
          | succ k =>
            rw [ct (by omega), w64p (by omega) (by omega), rq2 (by omega) (by rw [hlen]; omega), Int.toNat_natCast, tabB_at _ (by omega)]
            refine hres _ ?_
            rw [EE_star p s hs3, he, Nat.add_sub_cancel, dT (show k < k + 1 by omega)]
            simp
      | false =>
        rw [cond_false]
        cases k with
        | zero =>
          rw [cf (by omega), rq2 (by omega) (by rw [hlen]; omega), Int.toNat_natCast, hset false (by rw [EE_item0 p s hs3])]
        | succ k =>
          rw [ct (by omega), w64p (by omega) (by omega), rq2 (by omega) (by rw [hlen]; omega), Int.toNat_natCast, Nat.add_sub_cancel, tabB_at _ (by omega)]
          cases he : EE p s i k with
          | false => rw [cond_false, rq2 (by omega) (by rw [hlen]; omega), Int.toNat_natCast, hset false (by rw [EE_item p s hs3, he]; rfl)]
          | true =>
            rw [cond_true, rq_ix hi, rq_ix (show k < s.length by omega), Int.toNat_natCast, takes_eq F p[i] _ (by omega) (hit _ (List.getElem_mem hi)), Option.bind_some, rq2 (by omega) (by rw [hlen]; omega), hset _ (by rw [EE_item p s hs3, he]; unfold fiA; rw [hki]; rfl)]
    · right
      obtain rfl : k = s.length + 1 := by omega
      intro rc2
      rw [cf (by omega), w64s (by omega), tabB_congr (g := EE p s (i + 1)) fun j hj => by rw [dT (show j < s.length + 1 by omega), Bool.true_and]]
  · right
    obtain rfl : i = p.length := by omega
    intro rc
    rw [cf (by omega)]
theorem rmatch_eq (F : Nat) (p : List TPatItem) (n : List UInt8) (hF : p.length + 300 < F) (hF2 : n.length + 1 < F) (hn : n.length < 100000) (hp : p.length < 100000) (hit : ∀ it ∈ p, ItOk it) {v : Bool} (hv : pattern_valid F p = some v) :
    ref04_Match F p n = some (v && EE p n p.length n.length) := by
  unfold ref04_Match
  rw [← valid_eq2 F p hF hp hit, hv, Option.bind_some, ends_eq F p n hF hF2 hn hp hit]
  cases v with
  | false => rfl
  | true =>
    rw [cond_true, Option.bind_some, rq2 (by omega) (by rw [tabB_len]; omega), Int.toNat_natCast, tabB_at _ (by omega)]
    rfl
theorem match_eq2 (F : Nat) (p : List TPatItem) (n : List UInt8) (hF : p.length + 300 < F) (hF2 : n.length + 1 < F) (hn : n.length < 100000) (hp : p.length < 100000) (hit : ∀ it ∈ p, ItOk it) : ref04_Match F p n = pattern_Match F p n := by
  obtain ⟨v, hv⟩ := valid_tot F p hF hp hit
  rw [pmatch_eq F p n hF (by omega) hn hp hit hv, rmatch_eq F p n hF hF2 hn hp hit hv]
end Go.Proofs.YtmklhkmeampamaaGreatDoor
namespace Go.Proofs.YtmklhkmeampamaaGreatDoor
open Go.RT
set_option linter.all false
set_option maxRecDepth 100000
def bits (c : List TRun) : List Telement := c.flatMap elR
def img (o : List (List TRun) × List TRun) : List (List Telement) × List Telement := (o.1.map bits, bits o.2)
def bst (cl : Int) (o : List (List Telement) × List Telement) (b : UInt8) : List (List Telement) × List Telement := cond (b == 47) (o.1 ++ [o.2], []) (o.1, o.2 ++ [Telement.mk (b.toNat : Int) (cl != 1)])
theorem bits_app (a b : List TRun) : bits (a ++ b) = bits a ++ bits b := by unfold bits; rw [List.flatMap_append]
theorem bits_one (t : List UInt8) (cl : Int) (h : clsB cl = false) : bits [TRun.mk t cl] = t.map fun b => Telement.mk (b.toNat : Int) (cl != 1) := by
  unfold bits
  rw [List.flatMap_cons, List.flatMap_nil, List.append_nil]
  unfold elR
  rw [show clsB (TRun.mk t cl).fClass = false from h]
  rfl
theorem img_B (cl : Int) (h : clsB cl = false) (o : List (List TRun) × List TRun) (b : UInt8) : img (stepB cl o b) = bst cl (img o) b := by
  unfold stepB bst img
  cases (b == 47)
  · show (o.1.map bits, bits (o.2 ++ [TRun.mk [b] cl])) = _
    rw [bits_app, bits_one _ _ h]; rfl
  · show ((o.1 ++ [o.2]).map bits, bits []) = _
    rw [List.map_append]; rfl
theorem img_Bs (cl : Int) (h : clsB cl = false) : ∀ (t : List UInt8) (o : List (List TRun) × List TRun), img (t.foldl (stepB cl) o) = t.foldl (bst cl) (img o)
  | [], o => rfl
  | b :: t, o => by rw [List.foldl_cons, List.foldl_cons, img_Bs cl h t, img_B cl h]
theorem img_Q (cl : Int) : ∀ (ps : List (List UInt8)) (o o' : List (List TRun) × List TRun), img o = img o' → img (ps.foldl (pcQ cl) o) = img (ps.foldl (pcQ cl) o')
  | [], o, o', h => h
  | q :: ps, o, o', h => by
    refine img_Q cl ps _ _ ?_
    have h1 : o.1.map bits = o'.1.map bits := congrArg (·.1) h
    have h2 : bits o.2 = bits o'.2 := congrArg (·.2) h
    unfold pcQ img
    rw [List.map_append, List.map_append, h1]
    simp [h2]
theorem img_P (cl : Int) (h : clsB cl = false) : ∀ (t : List UInt8) (o : List (List TRun) × List TRun), img (pcP cl o (partsS t)) = t.foldl (bst cl) (img o)
  | [], o => by
    show img (o.1, o.2 ++ [TRun.mk [] cl]) = img o
    unfold img
    rw [bits_app, bits_one _ _ h]
    simp
  | b :: t, o => by
    have hne := parts_ne t
    rw [List.foldl_cons]
    unfold partsS
    cases hb : (b == 47) with
    | true =>
      rw [cond_true]
      have ih := img_P cl h t (o.1 ++ [o.2 ++ [TRun.mk [] cl]], [])
      have e : img (o.1 ++ [o.2 ++ [TRun.mk [] cl]], []) = bst cl (img o) b := by
        unfold img bst
        rw [hb, cond_true, List.map_append, List.map_cons, List.map_nil, bits_app, bits_one _ _ h]
        simp [bits]
      rw [e] at ih
      rw [← ih]
      cases hp : partsS t with
      | nil => exact absurd hp hne
      | cons p ps => rfl
    | false =>
      rw [cond_false]
      have ih := img_P cl h t (o.1, o.2 ++ [TRun.mk [b] cl])
      have e : img (o.1, o.2 ++ [TRun.mk [b] cl]) = bst cl (img o) b := by
        unfold img bst
        rw [hb, cond_false, bits_app, bits_one _ _ h]
        rfl
      rw [e] at ih
      rw [← ih]
      cases hp : partsS t with
      | nil => exact absurd hp hne
      | cons p ps =>
        show img (ps.foldl (pcQ cl) (o.1, o.2 ++ [TRun.mk (b :: p) cl])) = img (ps.foldl (pcQ cl) (o.1, (o.2 ++ [TRun.mk [b] cl]) ++ [TRun.mk p cl]))
        refine img_Q cl ps _ _ ?_
        unfold img
        rw [bits_app, bits_app, bits_app, bits_one _ _ h, bits_one _ _ h, bits_one _ _ h]
        simp
theorem img_R (r : TRun) (o o' : List (List TRun) × List TRun) (h : img o = img o') : img (stepR o r) = img (pcR o' r) := by
  unfold stepR pcR
  show img (cond (clsB r.fClass) o _) = _
  cases hc : clsB r.fClass with
  | true => exact h
  | false => rw [cond_false, cond_false, img_Bs _ hc, img_P _ hc, h]
theorem img_F : ∀ (l : List TRun) (o o' : List (List TRun) × List TRun), img o = img o' → img (l.foldl stepR o) = img (l.foldl pcR o')
  | [], o, o', h => h
  | r :: l, o, o', h => img_F l _ _ (img_R r o o' h)
theorem comp_pc (l : List TRun) : (compL l).map bits = (pcL l).map bits := by
  have h := img_F l ([], []) ([], []) rfl
  have h1 : (compO l).1.map bits = (pcO l).1.map bits := congrArg (·.1) h
  have h2 : bits (compO l).2 = bits (pcO l).2 := congrArg (·.2) h
  unfold compL pcL
  rw [List.map_append, List.map_append, h1]
  simp [h2]
theorem rcompile_bits (F : Nat) (c t : List TRun) (e : bits c = bits t) (c1 : c.length < F) (c2 : szL c < F) (c3 : c.length < 1000000000) (c4 : szL c ≤ 1000000000) (t1 : t.length < F) (t2 : szL t < F) (t3 : t.length < 1000000000) (t4 : szL t ≤ 1000000000) : ref04_Compile F c = ref04_Compile F t := by
  unfold ref04_Compile
  rw [elements_eq F c c1 c2 c3 c4, elements_eq F t t1 t2 t3 t4, show c.flatMap elR = t.flatMap elR from e]
theorem lit_doc (c t : List TRun) (e : bits c = bits t) (c1 : c.length ≤ 1000) (c2 : szL c ≤ 1000) (t1 : t.length ≤ 1000) (t2 : szL t ≤ 1000) : ∃ x, ref04_Compile 100000 c = some (patF t) ∧ ref04_Literal 100000 (patF t) = some (x, litF t) := by
  obtain ⟨p, h1, h2⟩ := compile_eq 100000 t (by omega) (by omega) (by omega) (by omega)
  obtain ⟨g1, g2, g3⟩ := patF_ok t t1 t2
  have hp : p = patF t := Option.some.inj (h1.symm.trans g1)
  subst hp
  obtain ⟨x, hx⟩ := litF_ok t t1 t2
  exact ⟨x, by rw [rcompile_bits 100000 c t e (by omega) (by omega) (by omega) (by omega) (by omega) (by omega) (by omega) (by omega)]; exact h2, by rw [← literal_eq2 100000 _ (by omega) (by omega) g2]; exact hx⟩
end Go.Proofs.YtmklhkmeampamaaGreatDoor
