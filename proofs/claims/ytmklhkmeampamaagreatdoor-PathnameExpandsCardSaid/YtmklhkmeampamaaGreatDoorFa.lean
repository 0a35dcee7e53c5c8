import Derived.Test.YtmklhkmeampamaaGreatDoorZ2
import Derived.Test.YtmklhkmeampamaaGreatDoorSo
import Derived.Test.YtmklhkmeampamaaGreatDoorUt
import Derived.Lib.SplitLaws
namespace Go.Proofs.YtmklhkmeampamaaGreatDoor
open Go.RT
set_option linter.all false
def partsS : List UInt8 → List (List UInt8)
  | [] => [[]]
  | b :: l => cond (b == 47) ([] :: partsS l) (match partsS l with
    | [] => [[b]]
    | p :: ps => (b :: p) :: ps)
theorem parts_ne (l : List UInt8) : partsS l ≠ [] := by
  cases l with
  | nil => simp [partsS]
  | cons b l =>
    unfold partsS
    cases (b == 47)
    · simp only [cond_false]; split <;> simp
    · simp
theorem parts_len (l : List UInt8) : (partsS l).length ≤ l.length + 1 := by
  induction l with
  | nil => simp [partsS]
  | cons b l ih =>
    unfold partsS
    cases (b == 47)
    · simp only [cond_false]
      split
      · simp
      · rename_i p ps h
        rw [h] at ih
        simp at ih ⊢
        omega
    · simp only [cond_true, List.length_cons]; omega
theorem parts_mem_len (l : List UInt8) : ∀ p ∈ partsS l, p.length ≤ l.length := by
  induction l with
  | nil => intro p hp; simp [partsS] at hp; subst hp; simp
  | cons b l ih =>
    intro p hp
    unfold partsS at hp
    cases hb : (b == 47) <;> rw [hb] at hp
    · simp only [cond_false] at hp
      split at hp
      · exact absurd ‹_› (parts_ne l)
      · rename_i q qs h
        rcases List.mem_cons.1 hp with rfl | hp
        · have := ih q (by rw [h]; simp)
          simp; omega
        · have := ih p (by rw [h]; simp [hp])
          simp; omega
    · simp only [cond_true] at hp
      rcases List.mem_cons.1 hp with rfl | hp
      · simp
      · have := ih p hp
        simp; omega
theorem splitK_parts : ∀ (l : List UInt8), Lib.splitK [47] 0 (l.count 47) l = partsS l
  | [] => rfl
  | b :: l => by
    have ih := splitK_parts l
    by_cases hb : b = 47
    · subst hb
      have hc : ((47 : UInt8) :: l).count 47 = l.count 47 + 1 := by simp
      have hi : Lib.index ((47 : UInt8) :: l) [47] = 0 := by rw [Lib.index_one]; simp [Lib.indexByte]
      rw [hc, Lib.splitK, hi]
      simp only [show ((0 : Int) == -1) = false from rfl]
      simp [partsS, ih]
    · have hbb : (b == 47) = false := by simpa using hb
      have hc : (b :: l).count 47 = l.count 47 := by simp [List.count_cons, hbb]
      have hi : Lib.index (b :: l) [47] = if Lib.index l [47] == -1 then -1 else Lib.index l [47] + 1 := by
        rw [Lib.index_one, Lib.index_one, Lib.indexByte]
        simp [hb]
      rw [hc]
      unfold partsS
      rw [hbb, cond_false, ← ih]
      cases hk : l.count 47 with
      | zero => simp [Lib.splitK]
      | succ k =>
        rw [Lib.splitK, Lib.splitK, hi]
        by_cases hm : Lib.index l [47] = -1
        · rw [hm]; simp
        · have hge : 0 ≤ Lib.index l [47] := by
            have := Lib.indexByte_ge l 47
            rw [Lib.index_one] at hm ⊢
            omega
          have e1 : (Lib.index l [47] == -1) = false := by simpa using hm
          have e2 : ((Lib.index l [47] + 1) == -1) = false := by simp; omega
          have e3 : (Lib.index l [47] + 1).toNat = (Lib.index l [47]).toNat + 1 := by omega
          rw [e1]
          simp only [Bool.false_eq_true, if_false]
          rw [e2]
          simp only [Bool.false_eq_true, if_false, e3, Nat.add_zero, List.length_singleton]
          rw [List.take_succ_cons, show (Lib.index l [47]).toNat + 1 + 1 = ((Lib.index l [47]).toNat + 1) + 1 from rfl, List.drop_succ_cons]
theorem split_eq (F : Nat) (s : List UInt8) (h : s.length < 4294967281) : splitF F s [47] = some (partsS s) := by
  unfold splitF
  rw [rq_true (by rw [decide_eq_true h]; rfl), Lib.splitB_data]
  congr 1
  rw [← splitK_parts]
  congr 1
  show Lib.countB _ _ = _
  unfold Lib.countB
  exact Lib.count_one 47 s
theorem parts_cut : ∀ (l : List UInt8) (n : Nat), (∀ j, j < n → l.getD j 0 ≠ 47) → n < l.length → l.getD n 0 = 47 → partsS l = l.take n :: partsS (l.drop (n + 1))
  | [], n, _, h, _ => by simp at h
  | b :: l, 0, _, _, h => by
    have hb : b = 47 := by simpa using h
    subst hb
    simp [partsS]
  | b :: l, n + 1, h0, h1, h2 => by
    have hb : (b == 47) = false := by
      have := h0 0 (by omega)
      simpa using this
    have ih := parts_cut l n (fun j hj => by
      have := h0 (j + 1) (by omega)
      simpa using this) (by simpa using h1) (by simpa using h2)
    rw [partsS, hb, cond_false, ih]
    simp
theorem parts_none : ∀ (l : List UInt8), (∀ j, j < l.length → l.getD j 0 ≠ 47) → partsS l = [l]
  | [], _ => rfl
  | b :: l, h0 => by
    have hb : (b == 47) = false := by
      have := h0 0 (by simp)
      simpa using this
    have ih := parts_none l (fun j hj => by
      have := h0 (j + 1) (by simpa using hj)
      simpa using this)
    unfold partsS
    rw [hb, cond_false, ih]
theorem sl_take {α : Type} (l : List α) (f k : Nat) : sl l (f : Int) (k : Int) = (l.take k).drop f := by simp [sl]
theorem sl_full {α : Type} (l : List α) (f : Nat) : sl l (f : Int) (l.length : Int) = l.drop f := by simp [sl]
theorem sl_one {α : Type} (l : List α) : sl l 1 (l.length : Int) = l.drop 1 := sl_full l 1
theorem sl_zero {α : Type} (l : List α) (k : Nat) : sl l 0 (k : Int) = l.take k := by simp [sl]
theorem ref_parts (F : Nat) (s : List UInt8) (hF : s.length < F) (hs : s.length < 1000000000) : ref19_parts F s = some (partsS s) := by
  unfold ref19_parts
  refine loopF_hoare (fun x => ∃ f k : Nat, x.2.1 = (f : Int) ∧ x.2.2 = (k : Int) ∧ f ≤ k ∧ k ≤ s.length ∧ x.1.length ≤ f ∧ x.1 ++ partsS (s.drop f) = partsS s ∧ ∀ j, f ≤ j → j < k → s.getD j 0 ≠ 47) (fun x => s.length - x.2.2.toNat) ?_ F _ ⟨0, 0, rfl, rfl, by omega, by omega, by simp, by simp, fun j _ hj => by omega⟩ (by simpa using hF)
  rintro ⟨o, fr, ii⟩ ⟨f, k, h0, h0', h1, h2, h3, h4, h5⟩
  dsimp only at h0 h0' h3 h4 h5 ⊢
  subst h0 h0'
  by_cases hk : k < s.length
  · left
    have hg : s.getD k 0 = s[k] := gd hk
    cases hb : (s[k] == 47) with
    | true =>
      have hb' : s.getD k 0 = 47 := by rw [hg]; exact eq_of_beq hb
      refine ⟨(o ++ [sl s (f : Int) (k : Int)], ((k + 1 : Nat) : Int), ((k + 1 : Nat) : Int)), ⟨k + 1, k + 1, rfl, rfl, by omega, by omega, by simp; omega, ?_, fun j h h' => by omega⟩, by simp; omega, fun rc => ?_⟩
      · have hc := parts_cut (s.drop f) (k - f) (fun j hj => by
          have := h5 (f + j) (by omega) (by omega)
          simpa [List.getD, List.getElem?_drop] using this) (by simp; omega) (by
          have : f + (k - f) = k := by omega
          simpa [List.getD, List.getElem?_drop, this] using hb')
        rw [← h4, hc, List.drop_drop, sl_take, show f + (k - f + 1) = k + 1 by omega, List.take_drop, show f + (k - f) = k by omega]
        simp
      · rw [ct (by omega), rq2 (by omega) (by omega), Int.toNat_natCast, hg, u8lit _ 47 (by omega), hb, cond_true, rq3 (by omega) (by omega) (by omega), rq2 (by simp; omega) (by simp; omega), w64s (by omega)]
    | false =>
      refine ⟨(o, (f : Int), ((k + 1 : Nat) : Int)), ⟨f, k + 1, rfl, rfl, by omega, by omega, h3, h4, fun j h h' => ?_⟩, by simp; omega, fun rc => ?_⟩
      · by_cases e : j = k
        · subst e
          rw [hg]
          simpa using hb
        · exact h5 j h (by omega)
      · rw [ct (by omega), rq2 (by omega) (by omega), Int.toNat_natCast, hg, u8lit _ 47 (by omega), hb, cond_false, w64s (by omega)]
  · right
    obtain rfl : k = s.length := by omega
    intro rc
    rw [cf (by omega), rq3 (by omega) (by omega) (by omega), rq2 (by simp; omega) (by simp; omega), ← h4, sl_full, parts_none]
    intro j hj
    have := h5 (f + j) (by omega) (by simp at hj; omega)
    simpa [List.getD, List.getElem?_drop] using this
def bad2 (b : UInt8) : Bool := b == 47 || b == 0
def nameS (s : List UInt8) : Bool := (decide (1 ≤ s.length) && decide (s.length ≤ 32)) && (!(s == [46]) && (!(s == [46, 46]) && !(s.any bad2)))
theorem ref_name (F : Nat) (s : List UInt8) (hF : s.length < F) (hs : s.length < 1000000000000) : ref19_name F s = some (nameS s) := by
  unfold ref19_name
  rw [loopF_srch s (fun i => (i : Int)) bad2 (fun _ _ => some false) (some true) hF (by rfl) (fun i h rc => ?_) (fun rc => ?_), srch_any]
  · simp only [cond_som, Option.bind_some, cT, cN]
    have e1 : (decide ((s.length : Int) < 1) || decide (32 < (s.length : Int))) = !(decide (1 ≤ s.length) && decide (s.length ≤ 32)) := by
      rw [Bool.eq_iff_iff]; simp only [Bool.or_eq_true, decide_eq_true_eq, Bool.not_eq_true', Bool.and_eq_false_iff, decide_eq_false_iff_not]; omega
    rw [e1]
    unfold nameS
    cases (decide (1 ≤ s.length) && decide (s.length ≤ 32)) <;> cases (s == [46]) <;> cases (s == [46, 46]) <;> simp
  · rw [ct (by omega), rq2 (by omega) (by omega), rq2 (by omega) (by omega), Int.toNat_natCast, gd h, u8lit _ 47 (by omega), u8lit _ 0 (by omega), cond_som, Option.bind_some, cT, w64s (by omega)]
    rfl
  · rw [cf (by omega)]
set_option maxRecDepth 100000 in
theorem ir_big (F : Nat) (r : Nat) (hr : 128 ≤ r) (hF : 4 ≤ F) : strings_IndexRune F [47, 0] (r : Int) = some (-1) := by
  unfold strings_IndexRune
  rw [dT (by omega), dF (by omega)]
  simp only [cond_true, Option.bind_some, cond_false]
  cases h1 : ((r : Int) == 65533) with
  | true =>
    simp only [cond_true]
    obtain ⟨F, rfl⟩ : ∃ G, F = G + 4 := ⟨F - 4, by omega⟩
    have e0 : dec ([47, 0] : List UInt8) 0 = (47, 1) := by rw [dec_ascii (by decide)]; rfl
    have e1 : dec ([47, 0] : List UInt8) 1 = (0, 1) := by rw [dec_ascii (by decide)]; rfl
    simp [loopF, e0, e1, Nat.blt]
    rw [show Nat.ble 1 2 = true from rfl, show Nat.ble 2 2 = true from rfl, show Nat.ble 3 2 = false from rfl]
    rfl
  | false =>
    simp only [cond_false]
    have hv : utf8_ValidRune F (r : Int) = some true ∨ utf8_ValidRune F (r : Int) = some false := by
      unfold utf8_ValidRune
      cases decide (0 ≤ (r : Int)) <;> cases decide ((r : Int) < 55296) <;> cases decide (57343 < (r : Int)) <;> cases decide ((r : Int) ≤ 1114111) <;> simp
    rcases hv with hv | hv
    · rw [hv]
      simp only [Option.bind_some, Bool.not_true, cond_false]
      obtain ⟨h2, h3, h4⟩ := runeStr_big hr
      have hn : w64 (((runeStr (r : Int)).length : Int) - 1) = (((runeStr (r : Int)).length - 1 : Nat) : Int) := w64p (by omega) (by omega)
      obtain ⟨F, rfl⟩ : ∃ G, F = G + 1 := ⟨F - 1, by omega⟩
      rw [hn]
      simp only [loopF]
      by_cases e : (runeStr (r : Int)).length = 2
      · have hx : ((([47, 0] : List UInt8).getD 1 0).toNat : Int) ≠ ((((runeStr (r : Int)).getD 1 0).toNat : Int)) := by
          rw [e, show 2 - 1 = 1 from rfl] at h4
          have : (([47, 0] : List UInt8).getD 1 0).toNat = 0 := rfl
          omega
        rw [e]
        have hx' : (((([47, 0] : List UInt8).getD (Int.toNat ((2 - 1 : Nat) : Int)) 0).toNat : Int) != (((runeStr (r : Int)).getD (Int.toNat ((2 - 1 : Nat) : Int)) 0).toNat : Int)) = true := by
          simpa using hx
        have hw : w64 (((2 - 1 : Nat) : Int) + 1) = ((2 : Nat) : Int) := by rw [w64_in (by omega)]; rfl
        have hsl : sl ([47, 0] : List UInt8) ((2 : Nat) : Int) ((([47, 0] : List UInt8).length : Nat) : Int) = [] := rfl
        rw [hx', hw, hsl]
        rw [ct (by simp), rq2 (by simp) (by simp), rq2 (by simp) (by simp), cond_true, rq3 (by simp) (by simp) (by simp), rq2 (by simp) (by simp)]
        unfold strings_IndexByte stringslite_IndexByte indexByteString ibF
        simp only [Lib.indexByte, Option.bind_some]
        rw [ct (by decide)]
        rfl
      · rw [cf (by simp only [List.length_cons, List.length_nil]; omega)]
    · rw [hv]
      simp only [Option.bind_some, Bool.not_false, cond_true]
theorem ir_small (F : Nat) (r : Nat) (hr : r < 128) : ∃ x, strings_IndexRune F [47, 0] (r : Int) = some x ∧ decide (0 ≤ x) = bad2 (UInt8.ofNat r) := by
  unfold strings_IndexRune strings_IndexByte stringslite_IndexByte indexByteString ibF
  rw [dT (by omega), dT (by omega)]
  simp only [cond_true, Option.bind_some]
  refine ⟨_, rfl, ?_⟩
  have hw : (IntKind.wrap .u8 (r : Int)).toNat.toUInt8 = UInt8.ofNat r := by
    have : IntKind.wrap .u8 (r : Int) = (r : Int) := by
      show ((r : Int) % 256) = r
      omega
    rw [this]; rfl
  rw [hw]
  generalize UInt8.ofNat r = b
  simp only [Lib.indexByte, bad2]
  by_cases h1 : b = 47
  · subst h1; rfl
  · by_cases h2 : b = 0
    · subst h2; rfl
    · have e1 : (b == 47) = false := by simpa using h1
      have e2 : (b == 0) = false := by simpa using h2
      have e3 : ¬ (47 : UInt8) = b := fun h => h1 h.symm
      have e4 : ¬ (0 : UInt8) = b := fun h => h2 h.symm
      simp [e1, e2, e3, e4]
theorem ia_any (l : List UInt8) : decide (0 ≤ Lib.indexAny l [47, 0]) = l.any bad2 := by
  induction l with
  | nil => rfl
  | cons b l ih =>
    have hge := Lib.indexAny_ge [47, 0] l
    unfold Lib.indexAny
    have hc : ([47, 0] : List UInt8).contains b = bad2 b := by
      simp [bad2, List.contains, List.elem]
      cases (b == 47) <;> cases (b == 0) <;> rfl
    rw [hc, List.any_cons]
    cases hb : bad2 b with
    | true => simp
    | false =>
      simp only [Bool.false_eq_true, if_false, Bool.false_or]
      rw [← ih]
      by_cases h : Lib.indexAny l [47, 0] = -1
      · rw [h]; rfl
      · have : (Lib.indexAny l [47, 0] == -1) = false := by simpa using h
        rw [this]
        simp only [Bool.false_eq_true, if_false]
        rw [Bool.eq_iff_iff]; simp only [decide_eq_true_eq]; omega
theorem ia_short (F : Nat) (s : List UInt8) (hs : s.length ≤ 8) (hF : 10 ≤ F) : ∃ x, strings_IndexAny F s [47, 0] = some x ∧ decide (0 ≤ x) = s.any bad2 := by
  have key : ∀ (n p G : Nat), s.length - p ≤ n → p ≤ s.length → n < G → (∀ j, j < p → bad2 (s.getD j 0) = false) → ∃ x, loopF (σ := (List UInt8) × Int) (R := Int) (fun rc5 x4 =>
 cond (Nat.blt (Int.toNat x4.2) x4.1.length)
 ((strings_IndexRune F [47, 0] ((dec x4.1 (Int.toNat x4.2)).1 : Int)).bind fun x6 =>
 cond (decide (0 ≤ x6))
 (some (((Int.toNat x4.2) : Nat) : Int))
 (rc5 (x4.1, ((((Int.toNat x4.2) + (dec x4.1 (Int.toNat x4.2)).2) : Nat) : Int))))
 (some (-1))) G (s, ((p : Nat) : Int)) = some x ∧ decide (0 ≤ x) = s.any bad2 := by
    intro n
    induction n with
    | zero =>
      intro p G h1 h2 h3 h4
      obtain rfl : p = s.length := by omega
      obtain ⟨G, rfl⟩ : ∃ H, G = H + 1 := ⟨G - 1, by omega⟩
      refine ⟨-1, ?_, ?_⟩
      · simp only [loopF, Int.toNat_natCast]
        rw [blt_f (by omega)]
        rfl
      · have : s.any bad2 = false := by
          rw [List.any_eq_false]
          intro b hb
          obtain ⟨j, hj, rfl⟩ := List.getElem_of_mem hb
          have := h4 j hj
          rw [gd hj] at this
          simp [this]
        rw [this]; rfl
    | succ n ih =>
      intro p G h1 h2 h3 h4
      obtain ⟨G, rfl⟩ : ∃ H, G = H + 1 := ⟨G - 1, by omega⟩
      by_cases hp : p < s.length
      · simp only [loopF, Int.toNat_natCast]
        rw [blt_t hp, cond_true]
        by_cases ha : (s.getD p 0).toNat < 128
        · rw [dec_ascii ha]
          obtain ⟨x, hx, hx2⟩ := ir_small F _ ha
          have hof : UInt8.ofNat (s.getD p 0).toNat = s.getD p 0 := by simp
          rw [hof] at hx2
          rw [show (((s.getD p 0).toNat, 1) : Nat × Nat).1 = (s.getD p 0).toNat from rfl, hx, Option.bind_some, hx2]
          cases hb : bad2 (s.getD p 0) with
          | true =>
            refine ⟨(p : Int), rfl, ?_⟩
            have : s.any bad2 = true := by
              rw [List.any_eq_true]
              exact ⟨s[p], List.getElem_mem hp, by rw [← gd hp]; exact hb⟩
            rw [this, dT (by omega)]
          | false =>
            rw [cond_false]
            exact ih (p + 1) G (by omega) (by omega) (by omega) (fun j hj => by
              by_cases e : j = p
              · subst e; exact hb
              · exact h4 j (by omega))
        · obtain ⟨d1, d2, d3, d4⟩ := dec_span ha
          rw [ir_big F _ d1 (by omega), Option.bind_some]
          rw [cf (by omega)]
          have := d3 hp
          exact ih (p + (dec s p).2) G (by omega) (by omega) (by omega) (fun j hj => by
            by_cases e : j < p
            · exact h4 j e
            · have h := d4 (j - p) (by omega)
              rw [show p + (j - p) = j by omega] at h
              unfold bad2
              have e1 : (s.getD j 0 == 47) = false := by
                simp only [beq_eq_false_iff_ne, ne_eq]
                intro e; rw [e] at h; exact absurd h (by decide)
              have e2 : (s.getD j 0 == 0) = false := by
                simp only [beq_eq_false_iff_ne, ne_eq]
                intro e; rw [e] at h; exact absurd h (by decide)
              rw [e1, e2]; rfl)
      · obtain rfl : p = s.length := by omega
        exact ih s.length (G + 1) (by omega) (by omega) (by omega) h4
  obtain ⟨x, h1, h2⟩ := key s.length 0 F (by omega) (by omega) (by omega) (fun j hj => by omega)
  refine ⟨x, ?_, h2⟩
  unfold strings_IndexAny strings_shouldUseASCIISet
  rw [show (([47, 0] : List UInt8) == []) = false from rfl, cond_false, show (((([47, 0] : List UInt8).length : Nat) : Int) == 1) = false from rfl, cond_false]
  simp only [Option.bind_some]
  rw [cf (by omega)]
  exact h1
theorem ca_eq (F : Nat) (s : List UInt8) (hs : s.length ≤ 32) (hF : 10 ≤ F) : strings_ContainsAny F s [47, 0] = some (s.any bad2) := by
  unfold strings_ContainsAny iaMF
  by_cases h8 : s.length ≤ 8
  · obtain ⟨x, h1, h2⟩ := ia_short F s h8 hF
    rw [Nat.ble_eq_true_of_le h8, cond_true, h1, Option.bind_some, h2]
  · have : Nat.ble s.length 8 = false := by
      cases h : Nat.ble s.length 8
      · rfl
      · exact absurd (Nat.le_of_ble_eq_true h) h8
    rw [this, cond_false, rq_true, Option.bind_some, ia_any]
    rw [dT (by omega)]
    rfl
theorem name_eq (F : Nat) (s : List UInt8) (hF : 10 ≤ F) : files_isName F s = some (nameS s) := by
  unfold files_isName
  simp only [cond_som, Option.bind_some, cF]
  have e1 : (decide (1 ≤ (s.length : Int)) && decide ((s.length : Int) ≤ 32)) = (decide (1 ≤ s.length) && decide (s.length ≤ 32)) := by
    rw [Bool.eq_iff_iff]; simp only [Bool.and_eq_true, decide_eq_true_eq]; omega
  rw [e1]
  unfold nameS
  cases h1 : (decide (1 ≤ s.length) && decide (s.length ≤ 32))
  · rfl
  · simp only [Bool.and_eq_true, decide_eq_true_eq] at h1
    rw [ca_eq F s h1.2 hF]
    cases (s == [46]) <;> cases (s == [46, 46]) <;> rfl
def pathS (s : List UInt8) : Bool := s == [47] || ((decide (2 ≤ s.length) && decide (s.length ≤ 128)) && (s.getD 0 0 == 47 && (partsS (s.drop 1)).all nameS))
theorem names_all (p : List (List UInt8)) : cond (p.any fun n => !nameS n) (some false) (some true) = some (p.all nameS) := by
  rw [cond_som, cN]
  congr 1
  induction p with
  | nil => rfl
  | cons a l ih => rw [List.any_cons, List.all_cons, Bool.not_or, ih, Bool.not_not]
theorem ref_path (F : Nat) (s : List UInt8) (hF : 200 ≤ F) : ref19_IsPath F s = some (pathS s) := by
  unfold ref19_IsPath pathS
  cases h1 : (s == [47]) with
  | true => rfl
  | false =>
    simp only [cond_false, cond_som, Option.bind_some, cT, Bool.false_or]
    by_cases h2 : 2 ≤ s.length ∧ s.length ≤ 128
    · rw [dF (by omega), dF (by omega), Bool.or_self, cond_false, rq1 (by omega), Option.bind_some, u8litn _ 47 (by omega), dT h2.1, dT h2.2]
      cases h3 : (s.getD 0 0 == 47) with
      | false => rfl
      | true =>
        rw [Bool.not_true, cond_false, rq2 (by omega) (by omega), sl_one, ref_parts F _ (by simp; omega) (by simp; omega), Option.bind_some]
        have hl := parts_len (s.drop 1)
        have hm := parts_mem_len (s.drop 1)
        simp only [List.length_drop] at hl hm
        rw [loopF_srch (partsS (s.drop 1)) (fun i => (i : Int)) (fun n => !nameS n) (fun _ _ => some false) (some true) (by omega) (by rfl) (fun i h rc => ?_) (fun rc => ?_), srch_any, names_all]
        · rfl
        · have := hm _ (List.getElem_mem h)
          rw [ct (by omega), rq2 (by omega) (by omega), Int.toNat_natCast, gd h, ref_name F _ (by omega) (by omega), Option.bind_some, w64s (by omega)]
        · rw [cf (by omega)]
    · have : (decide ((s.length : Int) < 2) || decide (128 < (s.length : Int))) = true := by
        simp only [Bool.or_eq_true, decide_eq_true_eq]; omega
      have h3 : (decide (2 ≤ s.length) && decide (s.length ≤ 128)) = false := by
        rw [Bool.and_eq_false_iff]; simp only [decide_eq_false_iff_not]; omega
      rw [this, cond_true, Option.bind_some, cond_true, h3]
      rfl
theorem prefix_eq (F : Nat) (s p : List UInt8) : strings_HasPrefix F s p = some (decide (p.length ≤ s.length) && s.take p.length == p) := by
  unfold strings_HasPrefix stringslite_HasPrefix
  by_cases h : p.length ≤ s.length
  · rw [ct (by omega), rq2 (by omega) (by omega), dT h, sl_zero]
    rfl
  · rw [dF (by omega), dF h]
    rfl
theorem path_eq (F : Nat) (s : List UInt8) (hF : 200 ≤ F) : files_isPath F s = some (pathS s) := by
  unfold files_isPath pathS
  cases h1 : (s == [47]) with
  | true => rfl
  | false =>
    have hne : s ≠ [47] := by simpa using h1
    simp only [cond_false, Bool.false_or]
    rw [prefix_eq]
    simp only [Option.bind_some, cond_som, cT]
    by_cases h2 : 2 ≤ s.length ∧ s.length ≤ 128
    · rw [dF (by omega), Bool.false_or, dT h2.1, dT h2.2]
      have e : (decide (([47] : List UInt8).length ≤ s.length) && s.take ([47] : List UInt8).length == [47]) = (s.getD 0 0 == 47) := by
        rw [dT (by simp; omega)]
        cases s with
        | nil => simp at h2
        | cons b l => simp
      rw [e]
      cases h3 : (s.getD 0 0 == 47) with
      | false => rfl
      | true =>
        rw [Bool.not_true, cond_false, rq2 (by omega) (by omega), sl_one, split_eq F _ (by simp; omega)]
        simp only [Option.bind_some]
        have hl := parts_len (s.drop 1)
        simp only [List.length_drop] at hl
        rw [loopF_srch (partsS (s.drop 1)) (fun i => (i : Int)) (fun n => !nameS n) (fun _ _ => some false) (some true) (by omega) (by rfl) (fun i h rc => ?_) (fun rc => ?_), srch_any, names_all]
        · rfl
        · rw [ct (by omega), rq2 (by omega) (by omega), Int.toNat_natCast, gd h, name_eq F _ (by omega), Option.bind_some, w64s (by omega)]
        · rw [cf (by omega)]
    · have h3 : (decide (2 ≤ s.length) && decide (s.length ≤ 128)) = false := by
        rw [Bool.and_eq_false_iff]; simp only [decide_eq_false_iff_not]; omega
      rw [h3]
      have : (decide (128 < (s.length : Int)) || !(decide (([47] : List UInt8).length ≤ s.length) && s.take ([47] : List UInt8).length == [47])) = true := by
        by_cases h4 : 128 < s.length
        · rw [dT (by omega)]; rfl
        · have h5 : s.length < 2 := by omega
          rw [Bool.or_eq_true, Bool.not_eq_true', Bool.and_eq_false_iff]
          right
          match s, h5 with
          | [], _ => left; rfl
          | [b], _ =>
            right
            simp at hne ⊢
            exact hne
      rw [this]
      rfl
end Go.Proofs.YtmklhkmeampamaaGreatDoor
