import Derived.Test.YteagcbkkonabbaaGreatDoorVc
import Derived.Test.YteagcbkkonabbaaGreatDoorPw
namespace Go.Proofs.YteagcbkkonabbaaGreatDoor
open Go.RT
set_option linter.all false
set_option maxRecDepth 100000
abbrev envP : List (List UInt8) := [[80, 87, 68, 61, 47, 97]]
theorem dec_step (l : List UInt8) (k : Nat) : 1 ≤ (dec l k).2 := by
  by_cases ha : (l.getD k 0).toNat < 128
  · rw [dec_ascii ha]; exact Nat.le_refl _
  · exact (dec_span ha).2.1
theorem letter_tot (c : Int) : ∃ b, chars_letter KB c = some b := by
  unfold chars_letter
  cases decide (65 ≤ c) <;> cases decide (c ≤ 90) <;> cases decide (97 ≤ c) <;> exact ⟨_, rfl⟩
theorem digit_tot (c : Int) : ∃ b, chars_digit KB c = some b := by
  unfold chars_digit
  cases decide (48 ≤ c) <;> exact ⟨_, rfl⟩
theorem name_tot (p : List UInt8) : ∃ b, (b = true → p.length ≤ 32) ∧ chars_Name KB p = some b := by
  unfold chars_Name
  by_cases h1 : (p.length : Int) < 1
  · rw [ct h1]; exact ⟨false, fun h => (by cases h), rfl⟩
  rw [cf h1, Option.bind_some]
  by_cases h2 : (32 : Int) < (p.length : Int)
  · rw [ct h2]; exact ⟨false, fun h => (by cases h), rfl⟩
  rw [cf h2]
  have hl : p.length ≤ 32 := by omega
  refine loopF_tot (fun b => b = true → p.length ≤ 32) (fun s : List UInt8 × Int => s.1 = p ∧ ∃ k : Nat, s.2 = (k : Int)) (fun s => p.length - s.2.toNat) ?_ KB (p, ((0 : Nat) : Int)) ⟨rfl, 0, rfl⟩ (by show p.length - 0 < 12000; omega)
  rintro ⟨q, i⟩ ⟨hq, k, hk⟩ rc hrc
  dsimp only at hq hk hrc ⊢
  subst hq hk
  rw [Int.toNat_natCast] at *
  by_cases hlt : k < q.length
  · rw [blt_t hlt, cond_true]
    obtain ⟨b1, e1⟩ := letter_tot ((dec q k).1 : Int)
    obtain ⟨b2, e2⟩ := digit_tot ((dec q k).1 : Int)
    have hst := dec_step q k
    have hnext : ∃ r, (r = true → q.length ≤ 32) ∧ rc (q, ((k + (dec q k).2 : Nat) : Int)) = some r := hrc _ ⟨rfl, _, rfl⟩ (by show q.length - Int.toNat (((k + (dec q k).2 : Nat)) : Int) < _; rw [Int.toNat_natCast]; omega)
    rw [e1, Option.bind_some]
    have e3 : ∃ b3, (cond b1 (some true) (some (((dec q k).1 : Int) == 95)) : Option Bool) = some b3 := by cases b1 <;> exact ⟨_, rfl⟩
    obtain ⟨b3, e3⟩ := e3
    rw [e3, Option.bind_some]
    have e4 : ∃ b4, (cond b3 (some true) ((chars_digit KB ((dec q k).1 : Int)).bind fun x7 => cond x7 (some (decide (0 < ((k : Nat) : Int)))) (some false)) : Option Bool) = some b4 := by
      rw [e2, Option.bind_some]
      cases b3 <;> cases b2 <;> exact ⟨_, rfl⟩
    obtain ⟨b4, e4⟩ := e4
    rw [e4, Option.bind_some]
    cases b4 with
    | true => exact hnext
    | false => exact ⟨false, fun h => (by cases h), rfl⟩
  · rw [blt_f hlt, cond_false]
    exact ⟨true, fun _ => hl, rfl⟩
theorem hasPre_tot (p t : List UInt8) : ∃ b, strings_HasPrefix KB p t = some b := by
  unfold strings_HasPrefix stringslite_HasPrefix
  by_cases hl : ((t.length : Int) ≤ (p.length : Int))
  · rw [ct hl, rq2 (by omega) hl]; exact ⟨_, rfl⟩
  · rw [cf hl]; exact ⟨_, rfl⟩
theorem find_tot {nm : List UInt8} (hn : nm.length ≤ 32) (l : List (List UInt8)) (hl : l.length ≤ 100) : ∃ r : Int × List (List UInt8), (r.2 = l ∧ (r.1 < 0 ∨ ∃ i : Nat, r.1 = (i : Int) ∧ i < l.length)) ∧ slices_IndexFunc KB nm l = some r := by
  unfold slices_IndexFunc
  refine loopF_tot _ (fun s : Int × List (List UInt8) => s.2 = l ∧ ∃ k : Nat, s.1 = (k : Int) ∧ k ≤ l.length) (fun s => l.length - s.1.toNat) ?_ KB (0, l) ⟨rfl, 0, rfl, Nat.zero_le _⟩ (by show l.length - 0 < 12000; omega)
  rintro ⟨i, q⟩ ⟨hq, k, hk, hk2⟩ rc hrc
  dsimp only at hq hk hrc ⊢
  subst hq hk
  by_cases hlt : k < q.length
  · rw [ct (by omega), rq2 (by omega) (by omega)]
    unfold util_engine_assigned_1
    rw [rq1 (by simp only [List.length_cons, List.length_nil]; omega)]
    obtain ⟨b, hb⟩ := hasPre_tot (q.getD (Int.toNat (k : Int)) []) (nm ++ [61])
    rw [hb, Option.bind_some, Option.bind_some]
    cases b with
    | true => exact ⟨((k : Int), q), ⟨rfl, .inr ⟨k, rfl, hlt⟩⟩, rfl⟩
    | false => rw [cond_false, w64s (by omega)]; exact hrc _ ⟨rfl, _, rfl, hlt⟩ (by show q.length - Int.toNat ((k + 1 : Nat) : Int) < q.length - Int.toNat (k : Int); rw [Int.toNat_natCast, Int.toNat_natCast]; omega)
  · rw [cf (by omega)]
    exact ⟨(-1, q), ⟨rfl, .inl (by show (-1 : Int) < 0; decide)⟩, rfl⟩
theorem assigned_tot {z : TUtil} (hz : z.fEnv = envP) {ops : List (List UInt8)} (h : NWL ops) (hl : ops.length ≤ 20) (r : TAinti648) (o : List Int) :
    ∃ y : List (List UInt8) × List (List UInt8), (y.1.length ≤ 21 ∧ (∀ p ∈ y.1, p.length ≤ 30) ∧ NWL y.2 ∧ y.2.length ≤ 20) ∧ util_engine_assigned KB z (Twords.mk ops [] 10 false) r o = some y := by
  unfold util_engine_assigned
  rw [hz, clone_ok (by show 1 ≤ 1000000; decide), Option.bind_some]
  have key : ∃ y : List (List UInt8) × List (List UInt8), (y.2.length ≤ 21 ∧ (∀ p ∈ y.2, p.length ≤ 30) ∧ NWL y.1 ∧ y.1.length ≤ 20) ∧
      (loopF (σ := (List (List UInt8)) × (List (List UInt8))) (R := (List (List UInt8)) × (List (List UInt8))) (fun rc4 x3 =>
 cond (decide (0 < (x3.1.length : Int)))
 (rq (decide (0 < (x3.1.length : Int))) ((cutF KB (x3.1.getD 0 []) ([61] : List UInt8)).bind fun x5 =>
 (cond (!x5.2.2)
 (some (true, x3.2))
 ((chars_Name KB x5.1).bind fun x7 =>
 some (!x7, x3.2)) : Option (Bool × (List (List UInt8)))).bind fun x6 =>
 cond x6.1
 (some (x3.1, x6.2))
 ((slices_IndexFunc KB x5.1 x6.2).bind fun x8 =>
 cond (decide (x8.1 < 0))
 (rq (decide (0 < (x3.1.length : Int))) (rq ((decide (x8.2.length + ([x3.1.getD 0 []] : List (List UInt8)).length ≤ 9223372036854775807)) && (decide ((x8.2.length + ([x3.1.getD 0 []] : List (List UInt8)).length) * 16 ≤ 140737488355328))) (rq ((decide (1 ≤ (x3.1.length : Int))) && (decide ((x3.1.length : Int) ≤ (x3.1.length : Int)))) (rc4 (sl x3.1 1 (x3.1.length : Int), x8.2 ++ ([x3.1.getD 0 []] : List (List UInt8)))))))
 (rq (decide (0 < (x3.1.length : Int))) (rq ((decide (0 ≤ x8.1)) && (decide (x8.1 < (x8.2.length : Int)))) (rq ((decide (1 ≤ (x3.1.length : Int))) && (decide ((x3.1.length : Int) ≤ (x3.1.length : Int)))) (rc4 (sl x3.1 1 (x3.1.length : Int), x8.2.set (Int.toNat x8.1) (x3.1.getD 0 [])))))))))
 (some (x3.1, x3.2))) KB (ops, envP)) = some y := by
    refine loopF_tot _ (fun s : List (List UInt8) × List (List UInt8) => NWL s.1 ∧ (s.1.length ≤ 20 ∧ s.1.length + s.2.length ≤ 21) ∧ ∀ p ∈ s.2, p.length ≤ 30) (fun s => s.1.length) ?_ KB (ops, envP) ⟨h, ⟨hl, by show ops.length + 1 ≤ 21; omega⟩, by intro p hp; simp at hp; subst hp; decide⟩ (by show ops.length < 12000; omega)
    rintro ⟨q, e⟩ ⟨h1, ⟨h20, h2⟩, h3⟩ rc hrc
    dsimp only at h1 h20 h2 h3 hrc ⊢
    by_cases h0 : 0 < q.length
    · have hq0 := h1.getD 0
      have hsl : sl q 1 (q.length : Int) = q.drop 1 := by simp [sl, List.take_of_length_le]
      have hdl : (q.drop 1).length = q.length - 1 := List.length_drop
      have hcut : cutF KB (q.getD 0 []) [61] = some (Lib.cut (q.getD 0 []) [61]) := by
        unfold cutF
        rw [rq1 (by have := hq0.len; omega)]
      rw [ct (by omega), rq1 (by omega), hcut, Option.bind_some]
      obtain ⟨b, hb1, hb2⟩ := name_tot (Lib.cut (q.getD 0 []) [61]).1
      have e6 : ∃ c, (c = false → (Lib.cut (q.getD 0 []) [61]).1.length ≤ 32) ∧ (cond (!(Lib.cut (q.getD 0 []) [61]).2.2) (some (true, e)) ((chars_Name KB (Lib.cut (q.getD 0 []) [61]).1).bind fun x7 => some (!x7, e)) : Option (Bool × (List (List UInt8)))) = some (c, e) := by
        rw [hb2, Option.bind_some]
        cases (Lib.cut (q.getD 0 []) [61]).2.2 with
        | false => exact ⟨true, fun h => (by cases h), rfl⟩
        | true => exact ⟨!b, fun h => hb1 (by simpa using h), rfl⟩
      obtain ⟨c, hc1, hc2⟩ := e6
      rw [hc2, Option.bind_some]
      cases c with
      | true => exact ⟨(q, e), ⟨by show e.length ≤ 21; omega, h3, h1, h20⟩, rfl⟩
      | false =>
        obtain ⟨⟨x8, e8⟩, ⟨he, hx⟩, hf⟩ := find_tot (hc1 rfl) e (by omega)
        dsimp only at he hx
        subst he
        rw [cond_false, hf, Option.bind_some]
        dsimp only
        by_cases hneg : x8 < 0
        · rw [ct hneg, rq1 (by omega), rq2 (by simp only [List.length_cons, List.length_nil]; omega) (by simp only [List.length_cons, List.length_nil]; omega), rq2 (by omega) (by omega), hsl]
          refine hrc _ ⟨h1.drop 1, ?_, ?_⟩ ?_
          · refine ⟨by show (q.drop 1).length ≤ 20; omega, ?_⟩
            show (q.drop 1).length + (e8 ++ [q.getD 0 []]).length ≤ 21
            simp only [List.length_append, List.length_cons, List.length_nil]; omega
          · intro p hp
            rcases List.mem_append.1 hp with hp | hp
            · exact h3 p hp
            · rw [List.mem_singleton.1 hp]; exact hq0.len
          · show (q.drop 1).length < q.length; omega
        · obtain ⟨i, hi, hi2⟩ := hx.resolve_left hneg
          subst hi
          rw [cf hneg, rq1 (by omega), rq2 (by omega) (by omega), rq2 (by omega) (by omega), hsl]
          refine hrc _ ⟨h1.drop 1, ?_, ?_⟩ ?_
          · refine ⟨by show (q.drop 1).length ≤ 20; omega, ?_⟩
            show (q.drop 1).length + (e8.set _ _).length ≤ 21
            rw [List.length_set]; omega
          · intro p hp
            rcases List.mem_or_eq_of_mem_set hp with hp | hp
            · exact h3 p hp
            · rw [hp]; exact hq0.len
          · show (q.drop 1).length < q.length; omega
    · rw [cf (by omega)]
      exact ⟨(q, e), ⟨by show e.length ≤ 21; omega, h3, h1, h20⟩, rfl⟩
  obtain ⟨⟨y1, y2⟩, ⟨k1, k2, k3, k4⟩, hk⟩ := key
  dsimp only at k1 k2 k3 k4
  refine ⟨(y2, y1), ⟨k1, k2, k3, k4⟩, ?_⟩
  rw [show (Twords.mk ops [] 10 false).foperands = ops from rfl, hk, Option.bind_some]
  dsimp only
  rw [clone_ok (by show y1.length ≤ 1000000; omega)]
  rfl
end Go.Proofs.YteagcbkkonabbaaGreatDoor
