/-
  Format: escapes, numbers, specifications, padding, operands of the program, as plain functions.
-/
import Derived.Test.YtmcnemjnkiofdaaGreatDoorIv
namespace Go.Proofs.YtmcnemjnkiofdaaGreatDoor
open Go.RT
set_option linter.all false
set_option maxRecDepth 100000

theorem byte_all {P : UInt8 → Prop} (h : ∀ n : Fin 256, P (UInt8.ofNat n.val)) (b : UInt8) : P b := by
  have := h ⟨b.toNat, b.toNat_lt⟩
  simpa using this
theorem bytes_rt (s : List UInt8) : toBytes (toInts s) = s := by
  unfold toBytes toInts
  rw [List.map_map]
  have : ((fun n : Int => UInt8.ofNat n.toNat) ∘ fun b : UInt8 => (b.toNat : Int)) = id := by funext b; simp
  rw [this, List.map_id]
theorem ti_app (a b : List UInt8) : toInts (a ++ b) = toInts a ++ toInts b := List.map_append
theorem ti_len (a : List UInt8) : (toInts a).length = a.length := List.length_map _
theorem ti_one (b : UInt8) : ([(b.toNat : Int)] : List Int) = toInts [b] := rfl
theorem sl_nat {α : Type} (s : List α) (i j : Nat) : sl s (i : Int) (j : Int) = (s.take j).drop i := by unfold sl; simp
theorem sl_end {α : Type} (s : List α) (i : Nat) : sl s (i : Int) (s.length : Int) = s.drop i := by rw [sl_nat, List.take_length]
theorem sl_1 {α : Type} (s : List α) : sl s 1 (s.length : Int) = s.drop 1 := sl_end s 1
theorem sl_0 {α : Type} (s : List α) (j : Nat) : sl s 0 (j : Int) = s.take j := by
  have := sl_nat s 0 j
  simpa using this
theorem sl_at {s : List UInt8} {i : Nat} (h : i < s.length) : sl s (i : Int) ((i + 1 : Nat) : Int) = [s[i]] := by
  rw [sl_nat, List.drop_take, List.drop_eq_getElem_cons h, Nat.add_sub_cancel_left]
  rfl
theorem ib_eq (F : Nat) (s : List UInt8) (b : UInt8) : strings_IndexByte F s (b.toNat : Int) = some (Lib.indexByte s b) := by
  unfold strings_IndexByte stringslite_IndexByte indexByteString ibF
  simp
theorem ib_eqI (F : Nat) (s : List UInt8) (n : Int) : strings_IndexByte F s n = some (Lib.indexByte s n.toNat.toUInt8) := rfl

/-! ### A scan: as long as p holds, g takes the byte in -/
def scan {τ : Type} (p : UInt8 → Bool) (g : τ → UInt8 → τ) : List UInt8 → τ → τ × Nat
  | [], t => (t, 0)
  | b :: l, t => cond (p b) ((scan p g l (g t b)).1, (scan p g l (g t b)).2 + 1) (t, 0)
theorem scan_le {τ : Type} (p : UInt8 → Bool) (g : τ → UInt8 → τ) : ∀ (l : List UInt8) (t : τ), (scan p g l t).2 ≤ l.length
  | [], t => Nat.le_refl _
  | b :: l, t => by
    simp only [scan]
    cases p b
    · exact Nat.zero_le _
    · have := scan_le p g l (g t b)
      simp only [cond_true, List.length_cons]
      omega
theorem scan_all {τ : Type} (p : UInt8 → Bool) (g : τ → UInt8 → τ) : ∀ (l : List UInt8) (t : τ), (∀ b ∈ l.take (scan p g l t).2, p b = true)
  | [], t => by simp
  | b :: l, t => by
    simp only [scan]
    cases hb : p b
    · simp
    · simp only [cond_true, List.take_succ_cons]
      intro x hx
      rcases List.mem_cons.1 hx with rfl | hx
      · exact hb
      · exact scan_all p g l (g t b) x hx
theorem scan_inv {τ : Type} (p : UInt8 → Bool) (g : τ → UInt8 → τ) (I : τ → Prop) (hi : ∀ t b, I t → p b = true → I (g t b)) : ∀ (l : List UInt8) (t : τ), I t → I (scan p g l t).1
  | [], t, h => h
  | b :: l, t, h => by
    simp only [scan]
    cases hb : p b
    · exact h
    · exact scan_inv p g I hi l (g t b) (hi t b h hb)
theorem loopF_scan {τ R σ : Type} {body : (σ → Option R) → σ → Option R} (s : List UInt8) (st : Nat → τ → σ) (p : UInt8 → Bool) (g : τ → UInt8 → τ) (fin : Nat → τ → Option R) (Inv : Nat → τ → Prop)
    (hs : ∀ (i : Nat) (h : i < s.length) t rc, Inv i t → p s[i] = true → body rc (st i t) = rc (st (i + 1) (g t s[i])))
    (hi : ∀ (i : Nat) (h : i < s.length) t, Inv i t → p s[i] = true → Inv (i + 1) (g t s[i]))
    (hn : ∀ (i : Nat) (h : i < s.length) t rc, Inv i t → p s[i] = false → body rc (st i t) = fin i t)
    (he : ∀ t rc, Inv s.length t → body rc (st s.length t) = fin s.length t) :
    ∀ (k i F : Nat) (t : τ), i + k = s.length → k < F → Inv i t → loopF body F (st i t) = fin (i + (scan p g (s.drop i) t).2) (scan p g (s.drop i) t).1
  | k, i, 0, t, h, hF, _ => by omega
  | 0, i, F + 1, t, h, hF, hI => by
    obtain rfl : i = s.length := by omega
    rw [List.drop_length]
    exact he t _ hI
  | k + 1, i, F + 1, t, h, hF, hI => by
    rw [List.drop_eq_getElem_cons (by omega)]
    show body (loopF body F) (st i t) = _
    simp only [scan]
    cases hb : p s[i]
    · rw [hn i (by omega) t _ hI hb]; rfl
    · rw [hs i (by omega) t _ hI hb, loopF_scan s st p g fin Inv hs hi hn he k (i + 1) F (g t s[i]) (by omega) (by omega) (hi i (by omega) t hI hb)]
      simp only [cond_true]
      rw [show i + ((scan p g (s.drop (i + 1)) (g t s[i])).2 + 1) = i + 1 + (scan p g (s.drop (i + 1)) (g t s[i])).2 by omega]

/-! ### Escapes -/
def esc1 (b : UInt8) : List UInt8 := if b = 92 then [92] else if b = 97 then [7] else if b = 98 then [8] else if b = 102 then [12] else if b = 110 then [10] else if b = 114 then [13] else if b = 116 then [9] else if b = 118 then [11] else []
abbrev escL : List UInt8 := [92, 97, 98, 102, 110, 114, 116, 118]
abbrev escB : List UInt8 := [92, 7, 8, 12, 10, 13, 9, 11]
theorem esc1_ix (b : UInt8) : (0 ≤ Lib.indexByte escL b ∧ Lib.indexByte escL b + 1 ≤ 8 ∧ sl escB (Lib.indexByte escL b) (Lib.indexByte escL b + 1) = esc1 b ∧ esc1 b ≠ []) ∨ (Lib.indexByte escL b < 0 ∧ esc1 b = []) :=
  byte_all (P := fun b => (0 ≤ Lib.indexByte escL b ∧ Lib.indexByte escL b + 1 ≤ 8 ∧ sl escB (Lib.indexByte escL b) (Lib.indexByte escL b + 1) = esc1 b ∧ esc1 b ≠ []) ∨ (Lib.indexByte escL b < 0 ∧ esc1 b = [])) (by decide +kernel) b
theorem esc1_len (b : UInt8) : (esc1 b).length ≤ 1 := byte_all (P := fun b => (esc1 b).length ≤ 1) (by decide +kernel) b
def oct (b : UInt8) : Bool := decide (48 ≤ (b.toNat : Int)) && decide ((b.toNat : Int) ≤ 55)
def octS (s : List UInt8) (first : Nat) : Nat × Nat := scan oct (fun n b => n * 8 + (b.toNat - 48)) ((s.take (first + 3)).drop first) 0
theorem u8w (n : Nat) : toBytes ([IntKind.wrap .u8 (n : Int)] : List Int) = [UInt8.ofNat n] := by
  show [UInt8.ofNat (((n : Int) % 256).toNat)] = _
  have : ((n : Int) % 256).toNat = n % 256 := by omega
  rw [this]
  congr 1
  apply UInt8.toNat.inj
  simp
/-- What an escape sequence gives, and its length; 0: there is none. -/
def escS (s : List UInt8) (first : Nat) : List UInt8 × Nat :=
  cond (decide (s.length < 2)) ([], 0) (cond (!(esc1 (s.getD 1 0) == [])) (esc1 (s.getD 1 0), 2)
    (cond (!(oct (s.getD 1 0)) || (first == 2 && !((s.getD 1 0) == 48))) ([], 0) ([UInt8.ofNat (octS s first).1], first + (octS s first).2)))
theorem oct_digit {b : UInt8} (h : oct b = true) : (48 ≤ (b.toNat : Int) ∧ (b.toNat : Int) ≤ 55) := by
  unfold oct at h
  rw [Bool.and_eq_true, decide_eq_true_eq, decide_eq_true_eq] at h
  exact h
theorem oct_step {n : Nat} {b : UInt8} (hn : n ≤ 100000) (h : 48 ≤ (b.toNat : Int) ∧ (b.toNat : Int) ≤ 57) (c : Int) (hc : 0 ≤ c ∧ c ≤ 10) :
    w64 ((w64 ((n : Int) * c)) + (w64 (IntKind.wrap .u8 ((b.toNat : Int) - 48)))) = (n : Int) * c + ((b.toNat : Int) - 48) := by
  have h1 : 0 ≤ (n : Int) * c := Int.mul_nonneg (by omega) hc.1
  have h2 : (n : Int) * c ≤ 100000 * 10 := Int.mul_le_mul (by omega) hc.2 hc.1 (by omega)
  rw [IntWalk.u8_in ((b.toNat : Int) - 48) (by omega), w64_in (x := (b.toNat : Int) - 48) (by omega), w64_in (x := (n : Int) * c) (by omega), w64_in (by omega)]
theorem pow8 {k : Nat} (h : k ≤ 3) : 8 ^ k ≤ 512 := Nat.le_trans (Nat.pow_le_pow_right (by decide) h) (by decide)
/-- The loop over octal digits. -/
theorem oct_loop {F : Nat} (s : List UInt8) (first : Nat) (hfl : first ≤ s.length) (hl : s.length ≤ 1000000) (hF : 4 ≤ F) :
    loopF (σ := Int × Int) (R := (List UInt8) × Int) (fun rc5 x4 =>
 (cond (decide (x4.2 < (s.length : Int)))
 (some (decide (x4.2 < w64 ((first : Int) + 3))))
 (some false) : Option Bool).bind fun x6 =>
 (cond x6
 (rq ((decide (0 ≤ x4.2)) && (decide (x4.2 < (s.length : Int)))) (some (decide (48 ≤ ((s.getD (Int.toNat x4.2) 0).toNat : Int)))))
 (some false) : Option Bool).bind fun x7 =>
 (cond x7
 (rq ((decide (0 ≤ x4.2)) && (decide (x4.2 < (s.length : Int)))) (some (decide (((s.getD (Int.toNat x4.2) 0).toNat : Int) ≤ 55))))
 (some false) : Option Bool).bind fun x8 =>
 cond x8
 (rq ((decide (0 ≤ x4.2)) && (decide (x4.2 < (s.length : Int)))) (rc5 (w64 ((w64 (x4.1 * 8)) + (w64 (IntKind.wrap .u8 (((s.getD (Int.toNat x4.2) 0).toNat : Int) - 48)))), w64 (x4.2 + 1))))
 (some (toBytes ([IntKind.wrap .u8 x4.1] : List Int), x4.2))) F (0, (first : Int)) = some ([UInt8.ofNat (octS s first).1], ((first + (octS s first).2 : Nat) : Int)) := by
  have hfl3 : w64 ((first : Int) + 3) = ((first + 3 : Nat) : Int) := by rw [w64_in (by omega)]; omega
  have htl : (s.take (first + 3)).length = min (first + 3) s.length := List.length_take
  have key := loopF_scan (τ := Nat) (R := (List UInt8) × Int) (σ := Int × Int) (body := fun rc5 x4 =>
 (cond (decide (x4.2 < (s.length : Int)))
 (some (decide (x4.2 < w64 ((first : Int) + 3))))
 (some false) : Option Bool).bind fun x6 =>
 (cond x6
 (rq ((decide (0 ≤ x4.2)) && (decide (x4.2 < (s.length : Int)))) (some (decide (48 ≤ ((s.getD (Int.toNat x4.2) 0).toNat : Int)))))
 (some false) : Option Bool).bind fun x7 =>
 (cond x7
 (rq ((decide (0 ≤ x4.2)) && (decide (x4.2 < (s.length : Int)))) (some (decide (((s.getD (Int.toNat x4.2) 0).toNat : Int) ≤ 55))))
 (some false) : Option Bool).bind fun x8 =>
 cond x8
 (rq ((decide (0 ≤ x4.2)) && (decide (x4.2 < (s.length : Int)))) (rc5 (w64 ((w64 (x4.1 * 8)) + (w64 (IntKind.wrap .u8 (((s.getD (Int.toNat x4.2) 0).toNat : Int) - 48)))), w64 (x4.2 + 1))))
 (some (toBytes ([IntKind.wrap .u8 x4.1] : List Int), x4.2))) (s.take (first + 3)) (fun i n => ((n : Int), (i : Int))) oct (fun n b => n * 8 + (b.toNat - 48)) (fun i n => some ([UInt8.ofNat n], (i : Int))) (fun i n => first ≤ i ∧ n < 8 ^ (i - first)) ?_ ?_ ?_ ?_ ((s.take (first + 3)).length - first) first F 0 (by rw [htl]; omega) (by rw [htl]; omega) ⟨Nat.le_refl _, by simp⟩
  · exact key
  · intro i h t rc hI hp
    rw [htl] at h
    have hi : i < s.length := by omega
    have e : (s.take (first + 3))[i]'(by rw [htl]; omega) = s[i] := List.getElem_take
    rw [e] at hp ⊢
    obtain ⟨h1, h2⟩ := oct_digit hp
    have h8 := pow8 (k := i - first) (by omega)
    dsimp only
    rw [hfl3, dT (show (i : Int) < (s.length : Int) by omega), dT (show (i : Int) < ((first + 3 : Nat) : Int) by omega)]
    simp only [cond_true, Option.bind_some, Int.toNat_natCast, gd hi, dnn, Bool.true_and, rq_tt]
    rw [dT h1]
    simp only [cond_true, Option.bind_some]
    rw [dT h2]
    simp only [cond_true, Option.bind_some]
    rw [oct_step (by omega) ⟨h1, by omega⟩ 8 (by omega), w64s (by omega)]
    congr 2
    omega
  · intro i h t hI hp
    rw [htl] at h
    have e : (s.take (first + 3))[i]'(by rw [htl]; omega) = s[i] := List.getElem_take
    rw [e] at hp ⊢
    obtain ⟨h1, h2⟩ := oct_digit hp
    refine ⟨by omega, ?_⟩
    rw [show i + 1 - first = (i - first) + 1 by omega, Nat.pow_succ]
    have := hI.2
    omega
  · intro i h t rc hI hp
    rw [htl] at h
    have hi : i < s.length := by omega
    have e : (s.take (first + 3))[i]'(by rw [htl]; omega) = s[i] := List.getElem_take
    rw [e] at hp
    unfold oct at hp
    dsimp only
    rw [hfl3, dT (show (i : Int) < (s.length : Int) by omega), dT (show (i : Int) < ((first + 3 : Nat) : Int) by omega)]
    simp only [cond_true, Option.bind_some, Int.toNat_natCast, gd hi, dnn, Bool.true_and, rq_tt]
    rw [u8w]
    cases h1 : decide (48 ≤ (s[i].toNat : Int)) with
    | false => rfl
    | true =>
      rw [h1, Bool.true_and] at hp
      simp only [cond_true, Option.bind_some]
      rw [hp]
      rfl
  · intro t rc hI
    dsimp only
    rw [htl]
    rw [hfl3]
    by_cases hc : first + 3 ≤ s.length
    · rw [Nat.min_eq_left hc]
      by_cases h2 : first + 3 < s.length
      · rw [dT (show ((first + 3 : Nat) : Int) < (s.length : Int) by omega)]
        simp only [cond_true, Option.bind_some]
        rw [dF (show ¬ ((first + 3 : Nat) : Int) < ((first + 3 : Nat) : Int) by omega)]
        simp only [cond_false, Option.bind_some]
        rw [u8w]
      · rw [dF (show ¬ ((first + 3 : Nat) : Int) < (s.length : Int) by omega)]
        simp only [cond_false, Option.bind_some]
        rw [u8w]
    · rw [Nat.min_eq_right (by omega), dF (show ¬ (s.length : Int) < (s.length : Int) by omega)]
      simp only [cond_false, Option.bind_some]
      rw [u8w]
theorem escape_eq (F : Nat) (s : List UInt8) (first : Nat) (hf : first = 1 ∨ first = 2) (hF : 4 ≤ F) (hl : s.length ≤ 1000000) :
    format_escape F s (first : Int) = some ((escS s first).1, ((escS s first).2 : Int)) := by
  unfold format_escape escS
  by_cases h2 : s.length < 2
  · rw [dT (show (s.length : Int) < 2 by omega), dT h2]; rfl
  rw [dF (show ¬ (s.length : Int) < 2 by omega), dF h2]
  simp only [cond_false]
  rw [dT (show (1 : Int) < (s.length : Int) by omega)]
  simp only [rq_tt]
  rw [ib_eq]
  simp only [Option.bind_some]
  have hix := esc1_ix (s.getD 1 0)
  generalize Lib.indexByte escL (s.getD 1 0) = ix at hix ⊢
  rcases hix with ⟨q1, q2, q3, q4⟩ | ⟨q1, q2⟩
  · rw [dT q1]
    simp only [cond_true]
    rw [w64_in (by omega), dT (show ix ≤ ix + 1 by omega), dT (show ix + 1 ≤ ((escB).length : Int) by simpa using q2)]
    simp only [Bool.and_self, rq_tt]
    rw [q3, show (esc1 (s.getD 1 0) == []) = false by rw [beq_eq_false_iff_ne]; exact q4]
    rfl
  · rw [dF (show ¬ (0 : Int) ≤ ix by omega)]
    simp only [cond_false]
    rw [show (esc1 (s.getD 1 0) == []) = true by rw [beq_iff_eq]; exact q2]
    simp only [Bool.not_true, cond_false]
    have ho : oct (s.getD 1 0) = !(decide (((s.getD 1 0).toNat : Int) < 48) || decide (55 < ((s.getD 1 0).toNat : Int))) := by
      unfold oct
      rw [Bool.eq_iff_iff]
      simp only [Bool.and_eq_true, decide_eq_true_eq, Bool.not_eq_true', Bool.or_eq_false_iff, decide_eq_false_iff_not]
      omega
    have h48 : (((s.getD 1 0).toNat : Int) != 48) = !((s.getD 1 0) == 48) := u8litn (s.getD 1 0) 48 (by decide)
    have hl2 := oct_loop (F := F) s first (by omega) hl hF
    have e1 : ((first : Int) == 2) = (first == 2) := by rcases hf with rfl | rfl <;> rfl
    cases a1 : decide (((s.getD 1 0).toNat : Int) < 48) with
    | true => rw [ho, a1]; rfl
    | false =>
      cases a2 : decide (55 < ((s.getD 1 0).toNat : Int)) with
      | true => rw [ho, a1, a2]; simp only [cond_false, Option.bind_some, cond_true]; rfl
      | false =>
        rw [ho, a1, a2]
        simp only [cond_false, Option.bind_some, e1, h48, Bool.or_self, Bool.not_false, Bool.not_true, Bool.false_or]
        cases a3 : (first == 2) with
        | false => simp only [cond_false, Option.bind_some, Bool.false_and]; exact hl2
        | true =>
          simp only [cond_true, Option.bind_some, Bool.true_and]
          cases a4 : ((s.getD 1 0) == 48) with
          | false => rfl
          | true => simp only [Bool.not_true, cond_false]; exact hl2
theorem escS_facts (s : List UInt8) (first : Nat) (hf : first = 1 ∨ first = 2) : (escS s first).1.length ≤ 1 ∧ (escS s first).2 ≤ s.length ∧ ((escS s first).2 = 0 ∨ 2 ≤ (escS s first).2) := by
  unfold escS
  by_cases h2 : s.length < 2
  · rw [dT h2]; simp
  rw [dF h2]
  simp only [cond_false]
  cases (!(esc1 (s.getD 1 0) == [])) with
  | true => simp only [cond_true]; exact ⟨esc1_len _, by omega, .inr (Nat.le_refl _)⟩
  | false =>
    simp only [cond_false]
    cases hc : (!(oct (s.getD 1 0)) || (first == 2 && !((s.getD 1 0) == 48))) with
    | true => simp
    | false =>
      simp only [cond_false]
      rw [Bool.or_eq_false_iff] at hc
      have ho : oct (s.getD 1 0) = true := by simpa using hc.1
      have hle := scan_le oct (fun n b => n * 8 + (b.toNat - 48)) ((s.take (first + 3)).drop first) 0
      have : ((s.take (first + 3)).drop first).length ≤ s.length - first := by simp; omega
      unfold octS
      refine ⟨by simp, by omega, .inr ?_⟩
      rcases hf with rfl | rfl
      · have h1 : (s.take (1 + 3)).drop 1 = s.getD 1 0 :: (s.take 4).drop 2 := by
          have hlt : 1 < (s.take 4).length := by simp; omega
          rw [List.drop_eq_getElem_cons hlt]
          congr 1
          rw [List.getElem_take]
          simp [List.getD, show 1 < s.length by omega]
        rw [h1]
        simp only [scan, ho, cond_true]
        omega
      · omega

/-! ### Numbers -/
def numG (n : Nat) (b : UInt8) : Nat := min (n * 10 + (b.toNat - 48)) 4097
def num (s : List UInt8) : Nat × Nat := scan dg numG s 0
theorem dg_digit {b : UInt8} (h : dg b = true) : (48 ≤ (b.toNat : Int) ∧ (b.toNat : Int) ≤ 57) := by
  unfold dg digitS at h
  rw [Bool.and_eq_true, decide_eq_true_eq, decide_eq_true_eq] at h
  exact h
theorem dg_two {α : Type} {b : UInt8} {x : Bool → Option α} : ((cond (decide (48 ≤ (b.toNat : Int))) (some (decide ((b.toNat : Int) ≤ 57))) (some false) : Option Bool).bind x) = x (dg b) := by
  unfold dg digitS
  cases decide (48 ≤ (b.toNat : Int)) <;> rfl
theorem number_eq (F : Nat) (s : List UInt8) (hF : s.length < F) (hl : s.length ≤ 1000000) : format_number F s = some (((num s).1 : Int), ((num s).2 : Int)) := by
  unfold format_number
  have key := loopF_scan (τ := Nat) (R := Int × Int) (σ := Int × Int) (body := fun rc2 x1 =>
 (cond (decide (x1.2 < (s.length : Int)))
 (rq ((decide (0 ≤ x1.2)) && (decide (x1.2 < (s.length : Int)))) (some (decide (48 ≤ ((s.getD (Int.toNat x1.2) 0).toNat : Int)))))
 (some false) : Option Bool).bind fun x3 =>
 (cond x3
 (rq ((decide (0 ≤ x1.2)) && (decide (x1.2 < (s.length : Int)))) (some (decide (((s.getD (Int.toNat x1.2) 0).toNat : Int) ≤ 57))))
 (some false) : Option Bool).bind fun x4 =>
 cond x4
 (rq ((decide (0 ≤ x1.2)) && (decide (x1.2 < (s.length : Int)))) (rc2 (cond (decide (4097 < w64 ((w64 (x1.1 * 10)) + (w64 (IntKind.wrap .u8 (((s.getD (Int.toNat x1.2) 0).toNat : Int) - 48)))))) 4097 (w64 ((w64 (x1.1 * 10)) + (w64 (IntKind.wrap .u8 (((s.getD (Int.toNat x1.2) 0).toNat : Int) - 48))))), w64 (x1.2 + 1))))
 (some (x1.1, x1.2))) s (fun i n => ((n : Int), (i : Int))) dg numG (fun i n => some ((n : Int), (i : Int))) (fun i n => n ≤ 4097) ?_ ?_ ?_ ?_ s.length 0 F 0 (by omega) hF (by omega)
  · rw [List.drop_zero, Nat.zero_add] at key
    exact key
  · intro i h t rc hI hp
    have hd := dg_digit hp
    dsimp only
    rw [dT (show (i : Int) < (s.length : Int) by omega)]
    simp only [cond_true, Option.bind_some, Int.toNat_natCast, gd h, dnn, Bool.true_and, rq_tt]
    rw [dT hd.1]
    simp only [cond_true, Option.bind_some]
    rw [dT hd.2]
    simp only [cond_true, Option.bind_some]
    rw [oct_step (by omega) hd 10 (by omega), w64s (by omega)]
    congr 2
    unfold numG
    by_cases hm : 4097 < (t : Int) * 10 + ((s[i].toNat : Int) - 48)
    · rw [ct hm]; omega
    · rw [cf hm]; omega
  · intro i h t hI hp
    unfold numG
    omega
  · intro i h t rc hI hp
    dsimp only
    rw [dT (show (i : Int) < (s.length : Int) by omega)]
    simp only [cond_true, Option.bind_some, Int.toNat_natCast, gd h, dnn, Bool.true_and, rq_tt]
    unfold dg digitS at hp
    cases h1 : decide (48 ≤ (s[i].toNat : Int)) with
    | false => rfl
    | true =>
      rw [h1, Bool.true_and] at hp
      simp only [cond_true, Option.bind_some]
      rw [hp]
      rfl
  · intro t rc hI
    dsimp only
    rw [dF (show ¬ (s.length : Int) < (s.length : Int) by omega)]
    rfl
theorem num_le (s : List UInt8) : (num s).1 ≤ 4097 ∧ (num s).2 ≤ s.length :=
  ⟨scan_inv dg numG (fun n => n ≤ 4097) (fun t b _ _ => by unfold numG; omega) s 0 (by omega), scan_le _ _ _ _⟩

/-! ### Specifications -/
def isF (b : UInt8) : Bool := b == 45 || (b == 48 || b == 43)
def flG (t : Bool × Bool × Bool) (b : UInt8) : Bool × Bool × Bool := (t.1 || b == 45, t.2.1 || b == 48, t.2.2 || b == 43)
def flS (s : List UInt8) : (Bool × Bool × Bool) × Nat := scan isF flG s (false, false, false)
def letOk (b : UInt8) : Bool := decide (0 ≤ Lib.indexByte ([100, 105, 117, 120, 111, 99, 115, 98, 37] : List UInt8) b)
/-- Where the width ends; the precision, and where it ends. -/
def wid (s : List UInt8) : Nat × Nat := ((num (s.drop (1 + (flS (s.drop 1)).2))).1, 1 + (flS (s.drop 1)).2 + (num (s.drop (1 + (flS (s.drop 1)).2))).2)
def prec (s : List UInt8) (a : Nat) : Int × Nat := cond (decide (a < s.length) && (s.getD a 0 == 46)) (((num (s.drop (a + 1))).1 : Int), a + (1 + (num (s.drop (a + 1))).2)) (-1, a)
structure Sp where
  m : Bool
  z : Bool
  p : Bool
  w : Nat
  pr : Int
  l : UInt8
  deriving DecidableEq
/-- A specification and its length, if it is valid. -/
def readS (s : List UInt8) : Option (Sp × Nat) :=
  cond (decide ((prec s (wid s).2).2 < s.length) && (letOk (s.getD (prec s (wid s).2).2 0) && (decide ((wid s).1 ≤ 4096) && decide ((prec s (wid s).2).1 ≤ 4096))))
    (some (⟨(flS (s.drop 1)).1.1, (flS (s.drop 1)).1.2.1, (flS (s.drop 1)).1.2.2, (wid s).1, (prec s (wid s).2).1, s.getD (prec s (wid s).2).2 0⟩, (prec s (wid s).2).2 + 1)) none
theorem fl_le (s : List UInt8) : (flS s).2 ≤ s.length := scan_le _ _ _ _
theorem wid_le {s : List UInt8} (h : 1 ≤ s.length) : 1 ≤ (wid s).2 ∧ (wid s).2 ≤ s.length ∧ (wid s).1 ≤ 4097 := by
  unfold wid
  have h1 := fl_le (s.drop 1)
  have h2 := num_le (s.drop (1 + (flS (s.drop 1)).2))
  simp only [List.length_drop] at h1 h2 ⊢
  omega
theorem prec_le {s : List UInt8} {a : Nat} (h : a ≤ s.length) : a ≤ (prec s a).2 ∧ (prec s a).2 ≤ s.length ∧ -1 ≤ (prec s a).1 ∧ (prec s a).1 ≤ 4097 := by
  unfold prec
  have h2 := num_le (s.drop (a + 1))
  simp only [List.length_drop] at h2
  by_cases hc : a < s.length
  · rw [dT hc, Bool.true_and]
    cases (s.getD a 0 == 46) with
    | false => simp only [cond_false]; omega
    | true => simp only [cond_true]; omega
  · rw [dF hc, Bool.false_and]; simp only [cond_false]; omega
theorem readS_facts {s : List UInt8} (h : 1 ≤ s.length) {x : Sp} {n : Nat} (hr : readS s = some (x, n)) : 2 ≤ n ∧ n ≤ s.length ∧ x.w ≤ 4096 ∧ -1 ≤ x.pr ∧ x.pr ≤ 4096 ∧ letOk x.l = true := by
  unfold readS at hr
  have h1 := wid_le h
  have h2 := prec_le h1.2.1
  cases hc : (decide ((prec s (wid s).2).2 < s.length) && (letOk (s.getD (prec s (wid s).2).2 0) && (decide ((wid s).1 ≤ 4096) && decide ((prec s (wid s).2).1 ≤ 4096)))) with
  | false => rw [hc] at hr; cases hr
  | true =>
    rw [hc] at hr
    cases hr
    simp only [Bool.and_eq_true, decide_eq_true_eq] at hc
    exact ⟨by omega, by omega, hc.2.2.1, h2.2.2.1, hc.2.2.2, hc.2.1⟩

end Go.Proofs.YtmcnemjnkiofdaaGreatDoor
