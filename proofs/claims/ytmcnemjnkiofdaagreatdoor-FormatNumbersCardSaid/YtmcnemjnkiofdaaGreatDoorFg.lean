/-
  Format: the reference's functions are the same plain functions: escapes, numbers, specifications, padding, numerals.
-/
import Derived.Test.YtmcnemjnkiofdaaGreatDoorFe
namespace Go.Proofs.YtmcnemjnkiofdaaGreatDoor
open Go.RT
set_option linter.all false
set_option maxRecDepth 100000

theorem simple_eq (F : Nat) (b : UInt8) (hF : 8 < F) : ref30_simple F (b.toNat : Int) = some (esc1 b) := by
  unfold ref30_simple
  have key := loopF_srch (body := fun rc2 x1 =>
 cond (decide (x1 < ((escL : List UInt8).length : Int)))
 (rq ((decide (0 ≤ x1)) && (decide (x1 < ((escL : List UInt8).length : Int)))) (cond ((((escL : List UInt8).getD (Int.toNat x1) 0).toNat : Int) == (b.toNat : Int))
 (rq ((decide (0 ≤ x1)) && ((decide (x1 ≤ w64 (x1 + 1))) && (decide (w64 (x1 + 1) ≤ ((escB : List UInt8).length : Int))))) (some (sl (escB : List UInt8) x1 (w64 (x1 + 1)))))
 (rc2 (w64 (x1 + 1)))))
 (some [])) escL (fun i => (i : Int)) (fun c => (c.toNat : Int) == (b.toNat : Int)) (fun i _ => some (sl escB (i : Int) ((i + 1 : Nat) : Int))) (some []) (F := F) (s := 0) (show 8 < F from hF) rfl ?_ ?_
  · refine Eq.trans key ?_
    have e : (fun c : UInt8 => (c.toNat : Int) == (b.toNat : Int)) = fun c => c == b := by
      funext c
      rw [Bool.eq_iff_iff, beq_iff_eq, beq_iff_eq]
      exact ⟨fun h => UInt8.toNat.inj (by omega), fun h => by rw [h]⟩
    rw [e, srch_idx (fun c => c == b) _ _ 0]
    exact byte_all (P := fun b => ((escL.findIdx? fun c => c == b).elim (some []) fun j => some (sl escB ((0 + j : Nat) : Int) ((0 + j + 1 : Nat) : Int))) = some (esc1 b)) (by decide +kernel) b
  · intro i h rc
    have h8 : i < 8 := h
    have hl : (escL : List UInt8).length = 8 := rfl
    have hlB : (escB : List UInt8).length = 8 := rfl
    simp only [dT (show (i : Int) < ((escL : List UInt8).length : Int) by rw [hl]; omega), cond_true, dnn, Bool.and_self, rq_tt, Int.toNat_natCast, gd h]
    rw [w64s (by omega), dT (show (i : Int) ≤ ((i + 1 : Nat) : Int) by omega), dT (show ((i + 1 : Nat) : Int) ≤ ((escB : List UInt8).length : Int) by rw [hlB]; omega)]
    rfl
  · intro rc
    rfl

theorem octR_step {n : Nat} {b : UInt8} (hn : n ≤ 100000) (h : 48 ≤ (b.toNat : Int) ∧ (b.toNat : Int) ≤ 57) (c : Int) (hc : 0 ≤ c ∧ c ≤ 10) :
    w64 ((w64 (c * (n : Int))) + (w64 (IntKind.wrap .u8 ((b.toNat : Int) - 48)))) = (n : Int) * c + ((b.toNat : Int) - 48) := by
  rw [Int.mul_comm]
  exact oct_step hn h c hc
theorem u8wR (n : Nat) : toBytes ([IntKind.wrap .u8 (Int.tmod (n : Int) 256)] : List Int) = [UInt8.ofNat n] := by
  have e : Int.tmod (n : Int) 256 = ((n % 256 : Nat) : Int) := by
    rw [Int.tmod_eq_emod_of_nonneg (by omega)]; omega
  rw [e, u8w]
  congr 1
  apply UInt8.toNat.inj
  simp
theorem octal_eq (F : Nat) (s : List UInt8) (first : Nat) (hfl : first ≤ s.length) (hl : s.length ≤ 1000000) (hF : 4 ≤ F) :
    ref30_octal F s (first : Int) 3 = some ([UInt8.ofNat (octS s first).1], ((first + (octS s first).2 : Nat) : Int)) := by
  have hfl3 : w64 ((first : Int) + 3) = ((first + 3 : Nat) : Int) := by rw [w64_in (by omega)]; omega
  have htl : (s.take (first + 3)).length = min (first + 3) s.length := List.length_take
  unfold ref30_octal
  have key := loopF_scan (τ := Nat) (R := (List UInt8) × Int) (σ := Int × Int) (body := fun rc2 x1 =>
 (cond (decide (x1.2 < (s.length : Int)))
 (some (decide (x1.2 < w64 ((first : Int) + 3))))
 (some false) : Option Bool).bind fun x3 =>
 (cond x3
 (rq ((decide (0 ≤ x1.2)) && (decide (x1.2 < (s.length : Int)))) (some (decide (48 ≤ ((s.getD (Int.toNat x1.2) 0).toNat : Int)))))
 (some false) : Option Bool).bind fun x4 =>
 (cond x4
 (rq ((decide (0 ≤ x1.2)) && (decide (x1.2 < (s.length : Int)))) (some (decide (((s.getD (Int.toNat x1.2) 0).toNat : Int) ≤ 55))))
 (some false) : Option Bool).bind fun x5 =>
 cond x5
 (rq ((decide (0 ≤ x1.2)) && (decide (x1.2 < (s.length : Int)))) (rc2 (w64 ((w64 (8 * x1.1)) + (w64 (IntKind.wrap .u8 (((s.getD (Int.toNat x1.2) 0).toNat : Int) - 48)))), w64 (x1.2 + 1))))
 (some (toBytes ([IntKind.wrap .u8 (Int.tmod x1.1 256)] : List Int), x1.2))) (s.take (first + 3)) (fun i n => ((n : Int), (i : Int))) oct (fun n b => n * 8 + (b.toNat - 48)) (fun i n => some ([UInt8.ofNat n], (i : Int))) (fun i n => first ≤ i ∧ n < 8 ^ (i - first)) ?_ ?_ ?_ ?_ ((s.take (first + 3)).length - first) first F 0 (by rw [htl]; omega) (by rw [htl]; omega) ⟨Nat.le_refl _, by simp⟩
  · exact key
  · intro i h t rc hI hp
    rw [htl] at h
    have hi : i < s.length := by omega
    have e : (s.take (first + 3))[i]'(by rw [htl]; omega) = s[i] := List.getElem_take
    rw [e] at hp ⊢
    obtain ⟨h1, h2⟩ := oct_digit hp
    have h8 := pow8 (k := i - first) (by omega)
    dsimp only
    rw [hfl3, dT (show (i : Int) < (s.length : Int) by omega), dT (show (i : Int) < ((first + 3 : Nat) : Int) by omega)]
    simp only [cond_true, Option.bind_some, Int.toNat_natCast, gd hi, dnn, Bool.true_and, rq_tt]
    rw [dT h1]
    simp only [cond_true, Option.bind_some]
    rw [dT h2]
    simp only [cond_true, Option.bind_some]
    rw [octR_step (by omega) ⟨h1, by omega⟩ 8 (by omega), w64s (by omega)]
    congr 2
    omega
  · intro i h t hI hp
    rw [htl] at h
    have e : (s.take (first + 3))[i]'(by rw [htl]; omega) = s[i] := List.getElem_take
    rw [e] at hp ⊢
    obtain ⟨h1, h2⟩ := oct_digit hp
    refine ⟨by omega, ?_⟩
    rw [show i + 1 - first = (i - first) + 1 by omega, Nat.pow_succ]
    have := hI.2
    omega
  · intro i h t rc hI hp
    rw [htl] at h
    have hi : i < s.length := by omega
    have e : (s.take (first + 3))[i]'(by rw [htl]; omega) = s[i] := List.getElem_take
    rw [e] at hp
    unfold oct at hp
    dsimp only
    rw [hfl3, dT (show (i : Int) < (s.length : Int) by omega), dT (show (i : Int) < ((first + 3 : Nat) : Int) by omega)]
    simp only [cond_true, Option.bind_some, Int.toNat_natCast, gd hi, dnn, Bool.true_and, rq_tt]
    rw [u8wR]
    cases h1 : decide (48 ≤ (s[i].toNat : Int)) with
    | false => rfl
    | true =>
      rw [h1, Bool.true_and] at hp
      simp only [cond_true, Option.bind_some]
      rw [hp]
      rfl
  · intro t rc hI
    dsimp only
    rw [htl]
    rw [hfl3]
    by_cases hc : first + 3 ≤ s.length
    · rw [Nat.min_eq_left hc]
      by_cases h2 : first + 3 < s.length
      · rw [dT (show ((first + 3 : Nat) : Int) < (s.length : Int) by omega)]
        simp only [cond_true, Option.bind_some]
        rw [dF (show ¬ ((first + 3 : Nat) : Int) < ((first + 3 : Nat) : Int) by omega)]
        simp only [cond_false, Option.bind_some]
        rw [u8wR]
      · rw [dF (show ¬ ((first + 3 : Nat) : Int) < (s.length : Int) by omega)]
        simp only [cond_false, Option.bind_some]
        rw [u8wR]
    · rw [Nat.min_eq_right (by omega), dF (show ¬ (s.length : Int) < (s.length : Int) by omega)]
      simp only [cond_false, Option.bind_some]
      rw [u8wR]
theorem octS_drop (s : List UInt8) (a k : Nat) : octS (s.drop a) k = octS s (a + k) := by
  unfold octS
  have : ((s.drop a).take (k + 3)).drop k = (s.take (a + k + 3)).drop (a + k) := by
    rw [List.take_drop, List.drop_drop]
    congr 2
  rw [this]
theorem getD_drop (s : List UInt8) (a k : Nat) : (s.drop a).getD k 0 = s.getD (a + k) 0 := by simp [List.getD]
theorem escapeR_eq (F : Nat) (s : List UInt8) (a : Nat) (ha : a < s.length) (hl : s.length ≤ 100000) (hF : 10 ≤ F) :
    ref30_escape F s (a : Int) = some (cond ((escS (s.drop a) 1).2 == 0) [92] (escS (s.drop a) 1).1, ((a + cond ((escS (s.drop a) 1).2 == 0) 1 (escS (s.drop a) 1).2 : Nat) : Int)) := by
  unfold ref30_escape escS
  have hw : w64 ((a : Int) + 1) = ((a + 1 : Nat) : Int) := w64s (by omega)
  have hw2 : w64 ((a : Int) + 2) = ((a + 2 : Nat) : Int) := by rw [w64_in (by omega)]; omega
  rw [hw, hw2]
  by_cases h2 : (s.drop a).length < 2
  · rw [dT h2]
    simp only [List.length_drop] at h2
    rw [dT (show (s.length : Int) ≤ ((a + 1 : Nat) : Int) by omega)]
    rfl
  · rw [dF h2]
    simp only [List.length_drop] at h2
    rw [dF (show ¬ (s.length : Int) ≤ ((a + 1 : Nat) : Int) by omega)]
    simp only [cond_false]
    have hr : (decide (0 ≤ ((a + 1 : Nat) : Int)) && decide (((a + 1 : Nat) : Int) < (s.length : Int))) = true := by rw [dT (by omega), dT (by omega)]; rfl
    rw [hr, Int.toNat_natCast]
    simp only [rq_tt]
    rw [simple_eq F _ (by omega), getD_drop]
    simp only [Option.bind_some]
    cases he : (!(esc1 (s.getD (a + 1) 0) == [])) with
    | true => rfl
    | false =>
      simp only [cond_false]
      have ho : oct (s.getD (a + 1) 0) = (cond (decide (48 ≤ ((s.getD (a + 1) 0).toNat : Int))) (decide (((s.getD (a + 1) 0).toNat : Int) ≤ 55)) false) := by unfold oct; cases decide (48 ≤ ((s.getD (a + 1) 0).toNat : Int)) <;> rfl
      have hc : (cond (decide (48 ≤ ((s.getD (a + 1) 0).toNat : Int))) (some (decide (((s.getD (a + 1) 0).toNat : Int) ≤ 55))) (some false) : Option Bool) = some (oct (s.getD (a + 1) 0)) := by
        rw [ho]; cases decide (48 ≤ ((s.getD (a + 1) 0).toNat : Int)) <;> rfl
      rw [hc]
      simp only [Option.bind_some]
      have e1 : ((1 : Nat) == 2) = false := rfl
      rw [e1, Bool.false_and, Bool.or_false]
      cases hoc : oct (s.getD (a + 1) 0) with
      | false => rfl
      | true =>
        simp only [Bool.not_true, cond_false, cond_true]
        rw [octal_eq F s (a + 1) (by omega) (by omega) (by omega), octS_drop]
        simp only [Option.bind_some]
        have e2 : ((1 + (octS s (a + 1)).2) == 0) = false := by rw [beq_eq_false_iff_ne]; omega
        rw [e2]
        simp only [cond_false]
        rw [Nat.add_assoc]

/-! ### Numbers -/
theorem scan_rel {τ υ : Type} (p : UInt8 → Bool) (g : τ → UInt8 → τ) (h : υ → UInt8 → υ) (R : τ → υ → Prop) (hR : ∀ t u b, R t u → p b = true → R (g t b) (h u b)) : ∀ (l : List UInt8) (t : τ) (u : υ), R t u → R (scan p g l t).1 (scan p h l u).1 ∧ (scan p g l t).2 = (scan p h l u).2
  | [], t, u, hr => ⟨hr, rfl⟩
  | b :: l, t, u, hr => by
    simp only [scan]
    cases hb : p b with
    | false => exact ⟨hr, rfl⟩
    | true =>
      obtain ⟨q1, q2⟩ := scan_rel p g h R hR l (g t b) (h u b) (hR t u b hr hb)
      exact ⟨q1, by simp only [cond_true]; rw [q2]⟩
def numH (t : Nat × Bool) (b : UInt8) : Nat × Bool := cond (decide (4096 < t.1 * 10 + (b.toNat - 48))) (4096, false) (t.1 * 10 + (b.toNat - 48), t.2)
theorem digitsR_eq (F : Nat) (s : List UInt8) (a : Nat) (ha : a ≤ s.length) (hF : s.length < F) (hl : s.length ≤ 100000) :
    ∃ n : Nat, ref30_digits F s (a : Int) = some ((n : Int), ((a + (num (s.drop a)).2 : Nat) : Int), decide ((num (s.drop a)).1 ≤ 4096)) ∧ ((num (s.drop a)).1 ≤ 4096 → n = (num (s.drop a)).1) := by
  unfold ref30_digits
  have key := loopF_scan (τ := Nat × Bool) (R := Int × Int × Bool) (σ := Int × Int × Bool) (body := fun rc2 x1 =>
 (cond (decide (x1.1 < (s.length : Int)))
 (rq ((decide (0 ≤ x1.1)) && (decide (x1.1 < (s.length : Int)))) (some (decide (48 ≤ ((s.getD (Int.toNat x1.1) 0).toNat : Int)))))
 (some false) : Option Bool).bind fun x3 =>
 (cond x3
 (rq ((decide (0 ≤ x1.1)) && (decide (x1.1 < (s.length : Int)))) (some (decide (((s.getD (Int.toNat x1.1) 0).toNat : Int) ≤ 57))))
 (some false) : Option Bool).bind fun x4 =>
 cond x4
 (rq ((decide (0 ≤ x1.1)) && (decide (x1.1 < (s.length : Int)))) (cond (decide (4096 < w64 ((w64 (10 * x1.2.1)) + (w64 (IntKind.wrap .u8 (((s.getD (Int.toNat x1.1) 0).toNat : Int) - 48))))))
 (rc2 (w64 (x1.1 + 1), 4096, false))
 (rc2 (w64 (x1.1 + 1), w64 ((w64 (10 * x1.2.1)) + (w64 (IntKind.wrap .u8 (((s.getD (Int.toNat x1.1) 0).toNat : Int) - 48)))), x1.2.2))))
 (some (x1.2.1, x1.1, x1.2.2))) s (fun i t => ((i : Int), (t.1 : Int), t.2)) dg numH (fun i t => some ((t.1 : Int), (i : Int), t.2)) (fun i t => t.1 ≤ 4096) ?_ ?_ ?_ ?_ (s.length - a) a F (0, true) (by omega) (by omega) (by decide)
  · have hrel := scan_rel dg numG numH (fun (t : Nat) (u : Nat × Bool) => (u.2 = true ∧ t = u.1 ∧ t ≤ 4096) ∨ (u.2 = false ∧ t = 4097 ∧ u.1 = 4096)) (by
      rintro t ⟨n, ok⟩ b hr hp
      have hd := dg_digit hp
      unfold numG numH
      dsimp only at hr ⊢
      rcases hr with ⟨rfl, rfl, h⟩ | ⟨rfl, rfl, rfl⟩
      · by_cases hc : 4096 < t * 10 + (b.toNat - 48)
        · rw [ct hc]; right; exact ⟨rfl, by omega, rfl⟩
        · rw [cf hc]; left; exact ⟨rfl, by omega, by omega⟩
      · rw [ct (by omega)]; right; exact ⟨rfl, by omega, rfl⟩) (s.drop a) 0 (0, true) (.inl ⟨rfl, rfl, by decide⟩)
    obtain ⟨q1, q2⟩ := hrel
    refine ⟨(scan dg numH (s.drop a) (0, true)).1.1, ?_, ?_⟩
    · refine Eq.trans key ?_
      rw [← q2]
      have : (scan dg numH (s.drop a) (0, true)).1.2 = decide ((num (s.drop a)).1 ≤ 4096) := by
        unfold num
        rcases q1 with ⟨h1, h2, h3⟩ | ⟨h1, h2, h3⟩
        · rw [h1, dT h3]
        · rw [h1, h2]; rfl
      rw [this]
      rfl
    · intro h
      unfold num at h ⊢
      rcases q1 with ⟨h1, h2, h3⟩ | ⟨h1, h2, h3⟩
      · exact h2.symm
      · omega
  · intro i h t rc hI hp
    have hd := dg_digit hp
    dsimp only
    rw [dT (show (i : Int) < (s.length : Int) by omega)]
    simp only [cond_true, Option.bind_some, Int.toNat_natCast, gd h, dnn, Bool.true_and, rq_tt]
    rw [dT hd.1]
    simp only [cond_true, Option.bind_some]
    rw [dT hd.2]
    simp only [cond_true, Option.bind_some]
    rw [octR_step (by omega) hd 10 (by omega), w64s (by omega)]
    unfold numH
    by_cases hm : 4096 < t.1 * 10 + (s[i].toNat - 48)
    · rw [ct (show (4096 : Int) < (t.1 : Int) * 10 + ((s[i].toNat : Int) - 48) by omega), ct hm]
      rfl
    · rw [cf (show ¬ (4096 : Int) < (t.1 : Int) * 10 + ((s[i].toNat : Int) - 48) by omega), cf hm]
      have : (t.1 : Int) * 10 + ((s[i].toNat : Int) - 48) = ((t.1 * 10 + (s[i].toNat - 48) : Nat) : Int) := by omega
      rw [this]
  · intro i h t hI hp
    unfold numH
    by_cases hm : 4096 < t.1 * 10 + (s[i].toNat - 48)
    · rw [ct hm]; exact Nat.le_refl _
    · rw [cf hm]; dsimp only; omega
  · intro i h t rc hI hp
    dsimp only
    rw [dT (show (i : Int) < (s.length : Int) by omega)]
    simp only [cond_true, Option.bind_some, Int.toNat_natCast, gd h, dnn, Bool.true_and, rq_tt]
    unfold dg digitS at hp
    cases h1 : decide (48 ≤ (s[i].toNat : Int)) with
    | false => rfl
    | true =>
      rw [h1, Bool.true_and] at hp
      simp only [cond_true, Option.bind_some]
      rw [hp]
      rfl
  · intro t rc hI
    dsimp only
    rw [dF (show ¬ (s.length : Int) < (s.length : Int) by omega)]
    rfl

/-! ### Repeating, numerals -/
theorem times_eq (F : Nat) (c : UInt8) (n : Nat) (hn : n ≤ 100000) (hF : n < F) : ref30_times F [c] (n : Int) = some (List.replicate n c) := by
  unfold ref30_times
  refine loopF_seq (fun i => (List.replicate i c, (i : Int))) n hF rfl (fun i rc h => ?_) fun rc => ?_
  · dsimp only
    rw [ct (show (i : Int) < (n : Int) by omega), rq1 (by simp; omega), w64s (by omega), List.replicate_succ']
  · dsimp only
    rw [cf (by omega)]
abbrev hex16 : List UInt8 := [48, 49, 50, 51, 52, 53, 54, 55, 56, 57, 97, 98, 99, 100, 101, 102]
theorem hex_at {d : Nat} (h : d < 16) : sl hex16 (d : Int) ((d + 1 : Nat) : Int) = [dchar d] := by
  have : ∀ d : Fin 16, sl hex16 ((d.val : Nat) : Int) ((d.val + 1 : Nat) : Int) = [dchar d.val] := by decide +kernel
  exact this ⟨d, h⟩
theorem based_eq (F b u : Nat) (hu : u < 18446744073709551616) (hb : 2 ≤ b ∧ b ≤ 16) (hF : 70 ≤ F) : ref30_based F (u : Int) (b : Int) = some (fmtN b u) := by
  unfold ref30_based
  have hne : (!((b : Int) == 0)) = true := by
    rw [Bool.not_eq_true']; rw [beq_eq_false_iff_ne]; omega
  have h2b : ∀ k : Nat, 2 ^ k ≤ b ^ k := fun k => Nat.pow_le_pow_left hb.1 k
  refine loopF_hoare (z := some (fmtN b u)) (fun st => (∃ (v k : Nat) (acc : List UInt8), st = ((v : Int), acc) ∧ 0 < v ∧ v < 2 ^ (k + 1) ∧ k ≤ 64 ∧ acc.length + k ≤ 64 ∧ fmtN b u = accD b k v acc) ∨ (st = (0, []) ∧ u = 0) ∨ (∃ acc : List UInt8, st = (0, acc) ∧ acc ≠ [] ∧ acc.length ≤ 66 ∧ fmtN b u = acc)) (fun st => st.1.toNat.log2 + cond (decide (0 < st.1)) 1 0) ?_ F ((u : Int), []) ?_ ?_
  · rintro st (⟨v, k, acc, rfl, hv, hvk, hk, hac, hz⟩ | ⟨rfl, hz⟩ | ⟨acc, rfl, h1, h2, hz⟩)
    · have hm : v % b < b := Nat.mod_lt _ (by omega)
      have em : Int.tmod (v : Int) (b : Int) = ((v % b : Nat) : Int) := by rw [Int.tmod_eq_emod_of_nonneg (by omega)]; rfl
      have ed : Int.tdiv (v : Int) (b : Int) = ((v / b : Nat) : Int) := by rw [Int.tdiv_eq_ediv_of_nonneg (by omega)]; rfl
      have hv64 : v < 2 ^ 65 := Nat.lt_of_lt_of_le hvk (Nat.pow_le_pow_right (by decide) (by omega))
      have hdv : v / b ≤ v / 2 := Nat.div_le_div_left hb.1 (by decide)
      have e65 : (2 : Nat) ^ 65 = 36893488147419103232 := by decide
      have hvd : v / b ≤ 18446744073709551615 := by omega
      have hq : 0 ≤ ((v / b : Nat) : Int) ∧ ((v / b : Nat) : Int) ≤ 18446744073709551615 := by
        generalize v / b = q at hvd ⊢
        omega
      have hstep : ∀ rc : Int × List UInt8 → Option (List UInt8), (fun (rc2 : Int × List UInt8 → Option (List UInt8)) (x1 : Int × List UInt8) =>
 cond (decide (0 < x1.1))
 (rq (!((b : Int) == 0)) (rq (!((b : Int) == 0)) (rq ((decide (0 ≤ Int.tmod x1.1 (b : Int))) && ((decide (Int.tmod x1.1 (b : Int) ≤ IntKind.wrap .u64 ((Int.tmod x1.1 (b : Int)) + 1))) && (decide (IntKind.wrap .u64 ((Int.tmod x1.1 (b : Int)) + 1) ≤ ((hex16 : List UInt8).length : Int))))) (rq (decide ((sl (hex16 : List UInt8) (Int.tmod x1.1 (b : Int)) (IntKind.wrap .u64 ((Int.tmod x1.1 (b : Int)) + 1))).length + x1.2.length ≤ 9223372036854775807)) (rq (!((b : Int) == 0)) (rc2 (IntKind.wrap .u64 (Int.tdiv x1.1 (b : Int)), (sl (hex16 : List UInt8) (Int.tmod x1.1 (b : Int)) (IntKind.wrap .u64 ((Int.tmod x1.1 (b : Int)) + 1))) ++ x1.2)))))))
 (cond (x1.2 == [])
 (some ([48] : List UInt8))
 (some x1.2))) rc ((v : Int), acc) = rc (((v / b : Nat) : Int), dchar (v % b) :: acc) := by
        intro rc
        dsimp only
        have ew : IntKind.wrap .u64 (((v % b : Nat) : Int) + 1) = ((v % b + 1 : Nat) : Int) := by rw [IntWalk.u64_in _ (by omega)]; omega
        have hl16 : (hex16 : List UInt8).length = 16 := rfl
        rw [ct (show (0 : Int) < (v : Int) by omega), hne, em, ew, ed, hex_at (by omega)]
        simp only [rq_tt]
        rw [rq3 (by omega) (by omega) (by rw [hl16]; omega), rq1 (by simp; omega), IntWalk.u64_in _ hq]
        rfl
      by_cases hvb : v < b
      · refine .inl ⟨(((v / b : Nat) : Int), dchar (v % b) :: acc), .inr (.inr ⟨dchar (v % b) :: acc, by rw [Nat.div_eq_of_lt hvb]; rfl, by simp, by simp; omega, ?_⟩), ?_, hstep⟩
        · rw [hz, accD_small hvb, Nat.mod_eq_of_lt hvb]
        · dsimp only
          rw [Nat.div_eq_of_lt hvb, ct (show (0 : Int) < (v : Int) by omega)]
          show (0 : Int).toNat.log2 + cond (decide ((0 : Int) < 0)) 1 0 < _
          rw [cf (by omega)]
          have : (0 : Int).toNat.log2 = 0 := by decide
          omega
      · have hdp : 0 < v / b := Nat.div_pos (by omega) (by omega)
        cases k with
        | zero =>
          have : v < 2 := by simpa using hvk
          omega
        | succ k =>
          refine .inl ⟨(((v / b : Nat) : Int), dchar (v % b) :: acc), .inl ⟨v / b, k, dchar (v % b) :: acc, rfl, hdp, ?_, by omega, by simp; omega, ?_⟩, ?_, hstep⟩
          · rw [Nat.pow_succ] at hvk; omega
          · rw [hz]
            show cond (decide (v < b)) _ _ = _
            rw [cf hvb]
          · dsimp only
            rw [ct (show (0 : Int) < (v : Int) by omega), ct (show (0 : Int) < ((v / b : Nat) : Int) by omega), Int.toNat_natCast, Int.toNat_natCast]
            have h1 : (v / b).log2 < v.log2 := by
              have hh : (v / b).log2 ≤ (v / 2).log2 := by
                rw [Nat.le_log2 (by omega)]
                exact Nat.le_trans (Nat.log2_self_le (by omega)) hdv
              have h3 : (v / 2).log2 + 1 ≤ v.log2 := by
                rw [Nat.le_log2 (by omega), Nat.pow_succ]
                have := Nat.log2_self_le (n := v / 2) (by omega)
                omega
              omega
            omega
    · refine .inr fun rc => ?_
      dsimp only
      rw [cf (by omega), hz]
      unfold fmtN
      rw [accD_small (by omega)]
      rfl
    · refine .inr fun rc => ?_
      dsimp only
      rw [cf (by omega), show (acc == []) = false by rw [beq_eq_false_iff_ne]; exact h1, hz]
      rfl
  · by_cases h0 : u = 0
    · right; left; exact ⟨by rw [h0]; rfl, h0⟩
    · left
      exact ⟨u, 64, [], rfl, by omega, Nat.lt_trans hu (by decide), Nat.le_refl _, by simp, rfl⟩
  · dsimp only
    rw [Int.toNat_natCast]
    have : u.log2 ≤ 64 := by
      by_cases h0 : u = 0
      · subst h0; decide
      · have := (Nat.log2_lt h0 (k := 64)).2 (Nat.lt_of_lt_of_le hu (by decide)); omega
    cases decide (0 < (u : Int)) <;> simp <;> omega

end Go.Proofs.YtmcnemjnkiofdaaGreatDoor
