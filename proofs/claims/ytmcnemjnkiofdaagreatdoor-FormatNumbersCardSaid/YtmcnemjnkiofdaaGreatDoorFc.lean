/-
  Format: numerals of the program, and the integer value of an operand, as plain functions.
-/
import Derived.Test.YtmcnemjnkiofdaaGreatDoorFb
namespace Go.Proofs.YtmcnemjnkiofdaaGreatDoor
open Go.RT
set_option linter.all false
set_option maxRecDepth 100000

/-! ### Numerals -/
abbrev dig36 : List UInt8 := [48, 49, 50, 51, 52, 53, 54, 55, 56, 57, 97, 98, 99, 100, 101, 102, 103, 104, 105, 106, 107, 108, 109, 110, 111, 112, 113, 114, 115, 116, 117, 118, 119, 120, 121, 122]
def dchar (d : Nat) : UInt8 := dig36.getD d 0
def accD (b : Nat) : Nat → Nat → List UInt8 → List UInt8
  | 0, u, acc => dchar u :: acc
  | k + 1, u, acc => cond (decide (u < b)) (dchar u :: acc) (accD b k (u / b) (dchar (u % b) :: acc))
def fmtN (b u : Nat) : List UInt8 := accD b 64 u []
theorem accD_small {b u : Nat} (h : u < b) (k : Nat) (acc : List UInt8) : accD b k u acc = dchar u :: acc := by
  cases k with
  | zero => rfl
  | succ k => unfold accD; rw [ct h]
theorem accD_irrel (b : Nat) (hb : 2 ≤ b) : ∀ (k m u : Nat) (acc : List UInt8), u < b ^ (k + 1) → u < b ^ (m + 1) → accD b k u acc = accD b m u acc
  | 0, m, u, acc, h, _ => by
    rw [Nat.zero_add, Nat.pow_one] at h
    rw [accD_small h, accD_small h]
  | k + 1, 0, u, acc, _, h => by
    rw [Nat.zero_add, Nat.pow_one] at h
    rw [accD_small h, accD_small h]
  | k + 1, m + 1, u, acc, h1, h2 => by
    unfold accD
    have g1 : u / b < b ^ (k + 1) := by rw [Nat.div_lt_iff_lt_mul (by omega), ← Nat.pow_succ]; exact h1
    have g2 : u / b < b ^ (m + 1) := by rw [Nat.div_lt_iff_lt_mul (by omega), ← Nat.pow_succ]; exact h2
    rw [accD_irrel b hb k m (u / b) (dchar (u % b) :: acc) g1 g2]
theorem accD_app (b : Nat) : ∀ (k u : Nat) (acc : List UInt8), accD b k u acc = accD b k u [] ++ acc
  | 0, u, acc => rfl
  | k + 1, u, acc => by
    unfold accD
    by_cases h : u < b
    · rw [ct h, ct h]; rfl
    · rw [cf h, cf h, accD_app b k (u / b) (dchar (u % b) :: acc), accD_app b k (u / b) [dchar (u % b)]]
      simp
theorem accD_len (b : Nat) : ∀ (k u : Nat) (acc : List UInt8), 1 + acc.length ≤ (accD b k u acc).length ∧ (accD b k u acc).length ≤ k + 1 + acc.length
  | 0, u, acc => by simp [accD]; omega
  | k + 1, u, acc => by
    unfold accD
    by_cases h : u < b
    · rw [ct h]; simp; omega
    · rw [cf h]
      have := accD_len b k (u / b) (dchar (u % b) :: acc)
      simp only [List.length_cons] at this
      omega
theorem fmtN_len (b u : Nat) : 1 ≤ (fmtN b u).length ∧ (fmtN b u).length ≤ 65 := by
  have := accD_len b 64 u []
  simpa [fmtN] using this
theorem dchar_ten {d : Nat} (h : d < 10) : dchar d = UInt8.ofNat (48 + d) := by
  have : d = 0 ∨ d = 1 ∨ d = 2 ∨ d = 3 ∨ d = 4 ∨ d = 5 ∨ d = 6 ∨ d = 7 ∨ d = 8 ∨ d = 9 := by omega
  rcases this with rfl | rfl | rfl | rfl | rfl | rfl | rfl | rfl | rfl | rfl <;> rfl
theorem accD_dec : ∀ (k u : Nat) (acc : List UInt8), u < 10 ^ (k + 1) → accD 10 k u acc = Lib.decDigits u ++ acc
  | 0, u, acc, h => by
    rw [Nat.zero_add, Nat.pow_one] at h
    rw [accD_small h, Lib.decDigits_one h, dchar_ten h]
    rfl
  | k + 1, u, acc, h => by
    by_cases h9 : u < 10
    · rw [accD_small h9, Lib.decDigits_one h9, dchar_ten h9]; rfl
    · unfold accD
      rw [cf h9, accD_dec k (u / 10) _ (by rw [Nat.div_lt_iff_lt_mul (by omega), ← Nat.pow_succ]; exact h), Lib.decDigits.eq_1 u, dif_neg h9, dchar_ten (Nat.mod_lt _ (by decide))]
      simp
theorem fmt10 {u : Nat} (h : u < 18446744073709551616) : fmtN 10 u = Lib.decDigits u := by
  unfold fmtN
  rw [accD_dec 64 u [] (Nat.lt_trans h (by decide)), List.append_nil]

theorem small_all : ∀ n : Fin 100, strconv_small 0 ((n.val : Nat) : Int) = some (fmtN 10 n.val) := by decide +kernel
theorem small_eq' (F : Nat) {u : Nat} (h : u < 100) : strconv_small F (u : Int) = some (fmtN 10 u) := small_all ⟨u, h⟩

theorem and_mod (v sh : Nat) (hv : v < 18446744073709551616) (hs : sh ≤ 10) : bAnd .u64 (v : Int) (((2 ^ sh - 1 : Nat)) : Int) = ((v % 2 ^ sh : Nat) : Int) := by
  rw [bAnd_eq]
  have hp : 2 ^ sh ≤ 1024 := Nat.le_trans (Nat.pow_le_pow_right (by decide) hs) (by decide)
  have hp0 : 0 < 2 ^ sh := Nat.two_pow_pos sh
  have h1 : (BitVec.ofInt 64 (v : Int)).toNat = v := by
    rw [BitVec.ofInt_natCast, BitVec.toNat_ofNat]; exact Nat.mod_eq_of_lt (by omega)
  have h2 : (BitVec.ofInt 64 ((2 ^ sh - 1 : Nat) : Int)).toNat = 2 ^ sh - 1 := by
    rw [BitVec.ofInt_natCast, BitVec.toNat_ofNat]; exact Nat.mod_eq_of_lt (by omega)
  show IntKind.u64.wrap ((BitVec.ofInt 64 (v : Int) &&& BitVec.ofInt 64 ((2 ^ sh - 1 : Nat) : Int)).toNat : Int) = _
  rw [BitVec.toNat_and, h1, h2, Nat.and_two_pow_sub_one_eq_mod]
  have := Nat.mod_lt v hp0
  exact IntWalk.u64_in _ (by omega)
theorem shr_div (v sh : Nat) (hs : sh ≤ 10) : bShr .u64 (v : Int) (sh : Int) = ((v / 2 ^ sh : Nat) : Int) := by
  rw [bShr_eq]
  have : min (sh : Int).toNat (IntKind.bits .u64) = sh := by
    show min (sh : Int).toNat 64 = sh
    omega
  rw [this, Int.fdiv_eq_ediv_of_nonneg _ (by exact_mod_cast Nat.zero_le _)]
  push_cast
  rfl

theorem bits_loop (F sh b : Nat) (a1 x5 : Int) (u : Nat) (hu : u < 18446744073709551616) (hsh : 3 ≤ sh ∧ sh ≤ 4) (hb : b = 2 ^ sh) (ha : IntKind.wrap .u64 a1 = (b : Int)) (hx : IntKind.wrap .u64 x5 = (sh : Int)) (hF : 70 ≤ F) :
    ∃ (i : Nat) (arr : List Int), arr.length = 65 ∧ i ≤ 65 ∧ toBytes (arr.drop i) = fmtN b u ∧
 loopF (σ := Int × Int × (List Int)) (R := Int × (List Int)) (fun rc7 x6 =>
 cond (decide (IntKind.wrap .u64 a1 ≤ x6.1))
 (rq ((decide (0 ≤ bAnd .u64 x6.1 (IntKind.wrap .u64 ((IntKind.wrap .u64 a1) - 1)))) && (decide (bAnd .u64 x6.1 (IntKind.wrap .u64 ((IntKind.wrap .u64 a1) - 1)) < ((dig36 : List UInt8).length : Int)))) (rq ((decide (0 ≤ w64 (x6.2.1 - 1))) && ((decide (w64 (x6.2.1 - 1) < 65)) && (decide (w64 (x6.2.1 - 1) < (x6.2.2.length : Int))))) (rq (decide (0 ≤ IntKind.wrap .u64 x5)) (rc7 (bShr .u64 x6.1 (IntKind.wrap .u64 x5), w64 (x6.2.1 - 1), x6.2.2.set (Int.toNat (w64 (x6.2.1 - 1))) (((dig36 : List UInt8).getD (Int.toNat (bAnd .u64 x6.1 (IntKind.wrap .u64 ((IntKind.wrap .u64 a1) - 1)))) 0).toNat : Int))))))
 (rq ((decide (0 ≤ x6.1)) && (decide (x6.1 < ((dig36 : List UInt8).length : Int)))) (rq ((decide (0 ≤ w64 (x6.2.1 - 1))) && ((decide (w64 (x6.2.1 - 1) < 65)) && (decide (w64 (x6.2.1 - 1) < (x6.2.2.length : Int))))) (some (w64 (x6.2.1 - 1), x6.2.2.set (Int.toNat (w64 (x6.2.1 - 1))) (((dig36 : List UInt8).getD (Int.toNat x6.1) 0).toNat : Int)))))) F ((u : Int), 65, List.replicate 65 0) = some ((i : Int), arr) := by
  have hb8 : 8 ≤ b ∧ b ≤ 16 := by
    rcases (show sh = 3 ∨ sh = 4 by omega) with rfl | rfl <;> subst hb <;> decide
  have hset : ∀ (arr : List Int) (i : Nat) (c : UInt8), arr.length = 65 → 1 ≤ i → i ≤ 65 → toBytes ((arr.set (i - 1) (c.toNat : Int)).drop (i - 1)) = c :: toBytes (arr.drop i) := by
    intro arr i c hl h1 h2
    rw [List.drop_eq_getElem_cons (by simp; omega), List.getElem_set_self]
    have : (arr.set (i - 1) (c.toNat : Int)).drop (i - 1 + 1) = arr.drop i := by
      rw [List.drop_set_of_lt (by omega), show i - 1 + 1 = i by omega]
    rw [this]
    simp [toBytes]
  have key := loopF_post (R := Int × List Int) (σ := Int × Int × List Int) (body := fun rc7 x6 =>
 cond (decide (IntKind.wrap .u64 a1 ≤ x6.1))
 (rq ((decide (0 ≤ bAnd .u64 x6.1 (IntKind.wrap .u64 ((IntKind.wrap .u64 a1) - 1)))) && (decide (bAnd .u64 x6.1 (IntKind.wrap .u64 ((IntKind.wrap .u64 a1) - 1)) < ((dig36 : List UInt8).length : Int)))) (rq ((decide (0 ≤ w64 (x6.2.1 - 1))) && ((decide (w64 (x6.2.1 - 1) < 65)) && (decide (w64 (x6.2.1 - 1) < (x6.2.2.length : Int))))) (rq (decide (0 ≤ IntKind.wrap .u64 x5)) (rc7 (bShr .u64 x6.1 (IntKind.wrap .u64 x5), w64 (x6.2.1 - 1), x6.2.2.set (Int.toNat (w64 (x6.2.1 - 1))) (((dig36 : List UInt8).getD (Int.toNat (bAnd .u64 x6.1 (IntKind.wrap .u64 ((IntKind.wrap .u64 a1) - 1)))) 0).toNat : Int))))))
 (rq ((decide (0 ≤ x6.1)) && (decide (x6.1 < ((dig36 : List UInt8).length : Int)))) (rq ((decide (0 ≤ w64 (x6.2.1 - 1))) && ((decide (w64 (x6.2.1 - 1) < 65)) && (decide (w64 (x6.2.1 - 1) < (x6.2.2.length : Int))))) (some (w64 (x6.2.1 - 1), x6.2.2.set (Int.toNat (w64 (x6.2.1 - 1))) (((dig36 : List UInt8).getD (Int.toNat x6.1) 0).toNat : Int))))))
    (fun r => ∃ (i : Nat) (arr : List Int), arr.length = 65 ∧ i ≤ 65 ∧ toBytes (arr.drop i) = fmtN b u ∧ r = ((i : Int), arr))
    (fun st => ∃ (v i k : Nat) (arr : List Int), st = ((v : Int), (i : Int), arr) ∧ v < 18446744073709551616 ∧ 1 ≤ i ∧ i ≤ 65 ∧ v < b ^ (i - 1) ∧ arr.length = 65 ∧ v < b ^ (k + 1) ∧ fmtN b u = accD b k v (toBytes (arr.drop i)))
    (fun st => st.2.1.toNat) ?_ F ((u : Int), 65, List.replicate 65 0)
    ⟨u, 65, 64, List.replicate 65 0, rfl, hu, by decide, by decide, Nat.lt_of_lt_of_le hu (Nat.le_trans (show 18446744073709551616 ≤ 8 ^ 64 by decide) (Nat.pow_le_pow_left hb8.1 64)), by simp,
      Nat.lt_of_lt_of_le hu (Nat.le_trans (show 18446744073709551616 ≤ 8 ^ 65 by decide) (Nat.pow_le_pow_left hb8.1 65)), by
        have : toBytes ((List.replicate 65 (0 : Int)).drop 65) = [] := rfl
        rw [this]; rfl⟩ (by show (65 : Int).toNat < F; omega)
  · obtain ⟨r, ⟨i, arr, q1, q2, q3, rfl⟩, q4⟩ := key
    exact ⟨i, arr, q1, q2, q3, q4⟩
  · rintro st ⟨v, i, k, arr, rfl, hv, hi1, hi2, hvi, hl, hvk, hz⟩
    dsimp only
    have hwi : w64 ((i : Int) - 1) = ((i - 1 : Nat) : Int) := by rw [w64_in (by omega)]; omega
    rw [ha]
    have hb1 : IntKind.wrap .u64 ((b : Int) - 1) = ((2 ^ sh - 1 : Nat) : Int) := by
      rw [IntWalk.u64_in _ (by omega), ← hb]; omega
    have hrq : (decide (0 ≤ ((i - 1 : Nat) : Int)) && (decide (((i - 1 : Nat) : Int) < 65) && decide (((i - 1 : Nat) : Int) < (arr.length : Int)))) = true := by
      rw [hl, dT (by omega), dT (by omega), dT (by omega)]; rfl
    by_cases hvb : v < b
    · refine .inr ⟨(((i - 1 : Nat) : Int), arr.set (i - 1) ((dchar v).toNat : Int)), ⟨i - 1, _, by simpa using hl, by omega, ?_, rfl⟩, fun rc => ?_⟩
      · rw [hset arr i (dchar v) hl hi1 hi2, hz, accD_small hvb]
      · rw [cf (show ¬ (b : Int) ≤ (v : Int) by omega), hwi, rq2 (by omega) (show (v : Int) < ((dig36 : List UInt8).length : Int) by show (v : Int) < 36; omega), hrq]
        simp only [rq_tt, Int.toNat_natCast]
        rfl
    · have hk : ∃ k', k = k' + 1 := by
        cases k with
        | zero => rw [Nat.zero_add, Nat.pow_one] at hvk; omega
        | succ k' => exact ⟨k', rfl⟩
      obtain ⟨k', rfl⟩ := hk
      have hi3 : 2 ≤ i - 1 := by
        rcases Nat.lt_or_ge (i - 1) 2 with h | h
        · have : b ^ (i - 1) ≤ b ^ 1 := Nat.pow_le_pow_right (by omega) (by omega)
          rw [Nat.pow_one] at this
          omega
        · exact h
      refine .inl ⟨((v / 2 ^ sh : Nat), ((i - 1 : Nat) : Int), arr.set (i - 1) ((dchar (v % 2 ^ sh)).toNat : Int)), ⟨v / b, i - 1, k', _, by rw [hb], Nat.lt_of_le_of_lt (Nat.div_le_self _ _) hv, by omega, by omega, ?_, by simpa using hl, ?_, ?_⟩, by show ((i - 1 : Nat) : Int).toNat < (i : Int).toNat; omega, fun rc => ?_⟩
      · rw [Nat.div_lt_iff_lt_mul (by omega), ← Nat.pow_succ, show (i - 1 - 1).succ = i - 1 by omega]; exact hvi
      · rw [Nat.div_lt_iff_lt_mul (by omega), ← Nat.pow_succ]; exact hvk
      · rw [hset arr i _ hl hi1 hi2, hz, ← hb]
        show cond (decide (v < b)) (dchar v :: toBytes (arr.drop i)) (accD b k' (v / b) (dchar (v % b) :: toBytes (arr.drop i))) = _
        rw [cf hvb]
      · rw [ct (show (b : Int) ≤ (v : Int) by omega), hwi, hb1, and_mod v sh hv (by omega), hx, shr_div v sh (by omega)]
        have hm : v % 2 ^ sh < 16 := by have := Nat.mod_lt v (show 0 < b by omega); rw [← hb]; omega
        rw [rq2 (by omega) (show ((v % 2 ^ sh : Nat) : Int) < ((dig36 : List UInt8).length : Int) by show ((v % 2 ^ sh : Nat) : Int) < 36; omega), hrq, rq_tt, rq1 (by omega)]
        simp only [Int.toNat_natCast]
        rfl

theorem bits_eq (F sh b : Nat) (u : Nat) (hu : u < 18446744073709551616) (h : (b = 16 ∧ sh = 4) ∨ (b = 8 ∧ sh = 3)) (hF : 70 ≤ F) : strconv_formatBits F (u : Int) (b : Int) = some (.inl ([], fmtN b u)) := by
  have hfin : ∀ (i : Nat) (arr : List Int), arr.length = 65 → i ≤ 65 → toBytes (arr.drop i) = fmtN b u →
      (rq ((decide (0 ≤ (i : Int))) && ((decide ((i : Int) ≤ 65)) && (decide (65 ≤ (arr.length : Int))))) (some (.inl (([] : List Int), toBytes ((arr.drop (Int.toNat (i : Int))).take (65 - Int.toNat (i : Int)))))) : Option (((List Int) × (List UInt8)) ⊕ (List UInt8))) = some (.inl ([], fmtN b u)) := by
    intro i arr h1 h2 h3
    rw [rq3 (by omega) (by omega) (by omega), Int.toNat_natCast, List.take_of_length_le (by simp; omega), h3]
  rcases h with ⟨rfl, rfl⟩ | ⟨rfl, rfl⟩
  · obtain ⟨i, arr, h1, h2, h3, h4⟩ := bits_loop F 4 16 ((16 : Nat) : Int) 4 u hu (by decide) (by decide) (by decide) (by decide) hF
    unfold strconv_formatBits
    have e1 : strconv_isPowerOfTwo F ((16 : Nat) : Int) = some true := by kernel_rfl
    have e2 : bits_TrailingZeros F (IntKind.wrap .u64 ((16 : Nat) : Int)) = some 4 := by kernel_rfl
    rw [e1, e2]
    show (Option.bind (loopF _ F _) _) = _
    rw [h4]
    exact hfin i arr h1 h2 h3
  · obtain ⟨i, arr, h1, h2, h3, h4⟩ := bits_loop F 3 8 ((8 : Nat) : Int) 3 u hu (by decide) (by decide) (by decide) (by decide) hF
    unfold strconv_formatBits
    have e1 : strconv_isPowerOfTwo F ((8 : Nat) : Int) = some true := by kernel_rfl
    have e2 : bits_TrailingZeros F (IntKind.wrap .u64 ((8 : Nat) : Int)) = some 3 := by kernel_rfl
    rw [e1, e2]
    show (Option.bind (loopF _ F _) _) = _
    rw [h4]
    exact hfin i arr h1 h2 h3

theorem fu_walk10 (F u : Nat) (hu : u < 100) : strconv_FormatUint F (u : Int) 10 = some (.inl (fmtN 10 u)) := by
  unfold strconv_FormatUint strconv_FormatUint_1
  have e10 : ((10 : Int) == 10) = true := rfl
  rw [e10]
  simp only [cond_true]
  rw [ct (show (u : Int) < 100 by omega), w64_in (by omega), small_eq' F (by omega)]
  simp only [Option.bind_some, sm]
theorem fu_walkB (F u : Nat) (b : Nat) (hb : b = 16 ∨ b = 8) (hu : u < 18446744073709551616) (hF : 70 ≤ F) : strconv_FormatUint F (u : Int) (b : Int) = some (.inl (fmtN b u)) := by
  have hne : (((b : Nat) : Int) == 10) = false := by rcases hb with rfl | rfl <;> rfl
  unfold strconv_FormatUint strconv_FormatUint_1
  rw [hne]
  simp only [cond_false]
  rw [bits_eq F (cond (b == 16) 4 3) b u hu (by rcases hb with rfl | rfl; exact .inl ⟨rfl, rfl⟩; exact .inr ⟨rfl, rfl⟩) hF]
  simp only [Option.bind_some, sm]
theorem fu_eq (F b u : Nat) (hu : u < 18446744073709551616) (hb : b = 10 ∨ b = 16 ∨ b = 8) (hF : 70 ≤ F) : fuF F (u : Int) (b : Int) = some (fmtN b u) := by
  unfold fuF
  rcases hb with rfl | hb
  · have e10 : (((10 : Nat) : Int) == 10) = true := rfl
    rw [e10, Bool.true_and]
    by_cases h : 100 ≤ u
    · rw [ct (show (100 : Int) ≤ (u : Int) by omega), rq1 (by omega), Int.toNat_natCast, fmt10 hu]
    · rw [cf (show ¬ (100 : Int) ≤ (u : Int) by omega)]
      have := fu_walk10 F u (by omega)
      have e : ((10 : Nat) : Int) = 10 := rfl
      rw [e, this]
      simp only [Option.bind_some]
  · have hne : (((b : Nat) : Int) == 10) = false := by rcases hb with rfl | rfl <;> rfl
    rw [hne, Bool.false_and]
    simp only [cond_false]
    rw [fu_walkB F u b hb hu hF]
    simp only [Option.bind_some]

/-! ### The integer value of an operand -/
theorem eval_x (G : Nat) (s : List UInt8) : calc_Eval (G + 60) (TExpr.mk 2 0 ([120] : List UInt8) []) ([(TBinding.mk ([120] : List UInt8) s)] : List TBinding) =
    (calc_integer (G + 60) s).bind fun x2 => cond (!x2.2) (some (0, [], 1)) (some (x2.1, [⟨[120], s⟩], 0)) := by
  have h : calc_Eval (G + 60) (TExpr.mk 2 0 ([120] : List UInt8) []) ([(TBinding.mk ([120] : List UInt8) s)] : List TBinding) =
    (((calc_integer (G + 60) s).bind fun x2 => cond (!x2.2) (some ((0 : Int), (1 : Int))) (some (x2.1, 0))).bind fun x1 => some (x1.1, x1.2, ([([120], s)] : List (List UInt8 × List UInt8)))).bind fun x5 =>
      cond (x5.2.1 != 0) (some (0, [], x5.2.1)) ((maps_Keys (G + 60) x5.2.2).bind fun _ => (skF (G + 60) x5.2.2).bind fun x7 =>
 loopF (σ := (List TBinding) × Int) (R := Int × (List TBinding) × Int) (fun rc9 x8 =>
 cond (decide (x8.2 < (x7.length : Int)))
 (rq ((decide (0 ≤ x8.2)) && (decide (x8.2 < (x7.length : Int)))) (rq ((decide (x8.1.length + ([(TBinding.mk (x7.getD (Int.toNat x8.2) []) (mget keq x5.2.2 (x7.getD (Int.toNat x8.2) []) []))] : List TBinding).length ≤ 9223372036854775807)) && (decide ((x8.1.length + ([(TBinding.mk (x7.getD (Int.toNat x8.2) []) (mget keq x5.2.2 (x7.getD (Int.toNat x8.2) []) []))] : List TBinding).length) * 32 ≤ 140737488355328))) (rc9 (x8.1 ++ ([(TBinding.mk (x7.getD (Int.toNat x8.2) []) (mget keq x5.2.2 (x7.getD (Int.toNat x8.2) []) []))] : List TBinding), w64 (x8.2 + 1)))))
 (some (x5.1, x8.1, 0))) (G + 60) (([] : List TBinding), 0)) := by kernel_rfl
  rw [h]
  cases calc_integer (G + 60) s with
  | none => rfl
  | some r =>
    obtain ⟨n, ok⟩ := r
    cases ok with
    | false => rfl
    | true =>
      have hsk : skF (G + 60) ([([120], s)] : List (List UInt8 × List UInt8)) = some [[120]] := by
        unfold skF
        rw [show sortK (([([120], s)] : List (List UInt8 × List UInt8)).map fun p => p.1) = [[120]] by simp [sortK]]
        rfl
      simp only [Option.bind_some, Bool.not_true, cond_false, bne_self_eq_false]
      rw [hsk]
      rfl
def valS (s : List UInt8) : Int × Bool :=
  cond (!(s == []) && (s.getD 0 0 == 39 || s.getD 0 0 == 34)) (cond (s.length == 1) (0, true) (((s.getD 1 0).toNat : Int), true)) (cond (intS s).2 ((intS s).1, true) (0, false))
theorem valS_rng (s : List UInt8) : R64 (valS s).1 := by
  unfold valS
  have h1 := intS_rng s
  have hb := (s.getD 1 0).toNat_lt
  unfold R64 at h1 ⊢
  cases (!(s == []) && (s.getD 0 0 == 39 || s.getD 0 0 == 34)) <;> cases (s.length == 1) <;> cases (intS s).2 <;> simp only [cond_true, cond_false] <;> omega
theorem digits_nat (n : Int) (h : R64 n) : ∃ u : Nat, u < 18446744073709551616 ∧ IntKind.wrap .u64 n = (u : Int) ∧ (u = 0 ↔ n = 0) ∧ (0 ≤ n → (u : Int) = n) ∧ (n < 0 → IntKind.wrap .u64 (0 - IntKind.wrap .u64 n) = ((n.natAbs : Nat) : Int)) := by
  unfold R64 at h
  have e : IntKind.wrap .u64 n = n % (2 ^ 64 : Int) := rfl
  refine ⟨(n % (2 ^ 64 : Int)).toNat, by omega, by rw [e]; omega, by omega, by omega, fun hn => ?_⟩
  rw [e]
  show (0 - n % (2 ^ 64 : Int)) % (2 ^ 64 : Int) = _
  omega

end Go.Proofs.YtmcnemjnkiofdaaGreatDoor
