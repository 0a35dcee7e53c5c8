/-
  Format: specifications, padding, operands, numerals of the program, as plain functions.
-/
import Derived.Test.YtmcnemjnkiofdaaGreatDoorFa
namespace Go.Proofs.YtmcnemjnkiofdaaGreatDoor
open Go.RT
set_option linter.all false
set_option maxRecDepth 100000

def Sp.t (x : Sp) : Tspec := ⟨x.m, x.z, x.p, (x.w : Int), x.pr, (x.l.toNat : Int)⟩

theorem flag_step (b : UInt8) : ∀ (m z p : Bool), isF b = true → (cond (b == 45) (true, z, p) (cond (b == 48) (m, true, p) (m, z, true)) : Bool × Bool × Bool) = flG (m, z, p) b :=
  byte_all (P := fun b => ∀ (m z p : Bool), isF b = true → (cond (b == 45) (true, z, p) (cond (b == 48) (m, true, p) (m, z, true)) : Bool × Bool × Bool) = flG (m, z, p) b) (by decide +kernel) b

theorem flags_eq (F : Nat) (s : List UInt8) (h1 : 1 ≤ s.length) (hF : s.length < F) (hl : s.length ≤ 1000000) :
    loopF (σ := Int × Bool × Bool × Bool × Int × Int × Int) (R := Int × Bool × Bool × Bool × Int × Int × Int) (fun rc3 x2 =>
 cond (decide (x2.1 < (s.length : Int)))
 (rq ((decide (0 ≤ x2.1)) && (decide (x2.1 < (s.length : Int)))) (cond (((s.getD (Int.toNat x2.1) 0).toNat : Int) == 45)
 (rc3 (w64 (x2.1 + 1), true, x2.2.2.1, x2.2.2.2.1, x2.2.2.2.2.1, x2.2.2.2.2.2.1, x2.2.2.2.2.2.2))
 (cond (((s.getD (Int.toNat x2.1) 0).toNat : Int) == 48)
 (rc3 (w64 (x2.1 + 1), x2.2.1, true, x2.2.2.2.1, x2.2.2.2.2.1, x2.2.2.2.2.2.1, x2.2.2.2.2.2.2))
 (cond (((s.getD (Int.toNat x2.1) 0).toNat : Int) == 43)
 (rc3 (w64 (x2.1 + 1), x2.2.1, x2.2.2.1, true, x2.2.2.2.2.1, x2.2.2.2.2.2.1, x2.2.2.2.2.2.2))
 (some (x2.1, x2.2.1, x2.2.2.1, x2.2.2.2.1, x2.2.2.2.2.1, x2.2.2.2.2.2.1, x2.2.2.2.2.2.2))))))
 (some (x2.1, x2.2.1, x2.2.2.1, x2.2.2.2.1, x2.2.2.2.2.1, x2.2.2.2.2.2.1, x2.2.2.2.2.2.2))) F (1, false, false, false, 0, -1, 0)
    = some (((1 + (flS (s.drop 1)).2 : Nat) : Int), (flS (s.drop 1)).1.1, (flS (s.drop 1)).1.2.1, (flS (s.drop 1)).1.2.2, 0, -1, 0) := by
  refine loopF_scan (τ := Bool × Bool × Bool) s (fun i t => ((i : Int), t.1, t.2.1, t.2.2, 0, -1, 0)) isF flG (fun i t => some ((i : Int), t.1, t.2.1, t.2.2, 0, -1, 0)) (fun _ _ => True) ?_ ?_ ?_ ?_ (s.length - 1) 1 F (false, false, false) (by omega) (by omega) trivial
  · intro i h t rc _ hp
    obtain ⟨m, z, p⟩ := t
    have hst := flag_step s[i] m z p hp
    have e1 := u8lit s[i] 45 (by decide)
    have e2 := u8lit s[i] 48 (by decide)
    have e3 := u8lit s[i] 43 (by decide)
    dsimp only
    rw [dT (show (i : Int) < (s.length : Int) by omega), w64s (by omega)]
    simp only [cond_true, Int.toNat_natCast, gd h, dnn, Bool.and_self, rq_tt]
    rw [e1, e2, e3, ← hst]
    unfold isF at hp
    cases a1 : (s[i] == 45) with
    | true => rfl
    | false =>
      cases a2 : (s[i] == 48) with
      | true => rfl
      | false =>
        rw [a1, a2] at hp
        simp only [Bool.false_or] at hp
        rw [hp]
        rfl
  · intros; trivial
  · intro i h t rc _ hp
    have e1 := u8lit s[i] 45 (by decide)
    have e2 := u8lit s[i] 48 (by decide)
    have e3 := u8lit s[i] 43 (by decide)
    dsimp only
    rw [dT (show (i : Int) < (s.length : Int) by omega)]
    simp only [cond_true, Int.toNat_natCast, gd h, dnn, Bool.and_self, rq_tt]
    unfold isF at hp
    rw [Bool.or_eq_false_iff, Bool.or_eq_false_iff] at hp
    rw [e1, e2, e3, hp.1, hp.2.1, hp.2.2]
    rfl
  · intro t rc _
    dsimp only
    rw [dF (show ¬ (s.length : Int) < (s.length : Int) by omega)]
    rfl

theorem read_eq (F : Nat) (s : List UInt8) (h1 : 1 ≤ s.length) (hF : s.length < F) (hl : s.length ≤ 1000000) :
    ∃ x n, format_read F s = some (x, n, (readS s).isSome) ∧ ∀ y k, readS s = some (y, k) → x = y.t ∧ n = (k : Int) := by
  have hfl := fl_le (s.drop 1)
  have hw := wid_le h1
  have hp := prec_le hw.2.1
  have hA : 1 + (flS (s.drop 1)).2 ≤ s.length := by simp only [List.length_drop] at hfl; omega
  have hnum1 := num_le (s.drop (1 + (flS (s.drop 1)).2))
  have hfin : ∀ (m z p : Bool) (w : Nat) (pr : Int) (e : Nat), e ≤ s.length → ∃ x n, ((cond (decide ((s.length : Int) ≤ (e : Int)))
 (some true)
 (rq ((decide (0 ≤ (e : Int))) && (decide ((e : Int) < (s.length : Int)))) ((strings_IndexByte F ([100, 105, 117, 120, 111, 99, 115, 98, 37] : List UInt8) ((s.getD (Int.toNat (e : Int)) 0).toNat : Int)).bind fun x9 =>
 some (decide (x9 < 0)))) : Option Bool).bind fun x8 =>
 cond x8
 (some ((Tspec.mk m z p (w : Int) pr 0), 0, false))
 (rq ((decide (0 ≤ (e : Int))) && (decide ((e : Int) < (s.length : Int)))) (cond (decide ((w : Int) ≤ 4096))
 (some ((Tspec.mk m z p (w : Int) pr ((s.getD (Int.toNat (e : Int)) 0).toNat : Int)), w64 ((e : Int) + 1), decide (pr ≤ 4096)))
 (some ((Tspec.mk m z p (w : Int) pr ((s.getD (Int.toNat (e : Int)) 0).toNat : Int)), w64 ((e : Int) + 1), false)))) : Option (Tspec × Int × Bool)) = some (x, n, decide (e < s.length) && (letOk (s.getD e 0) && (decide (w ≤ 4096) && decide (pr ≤ 4096)))) ∧
      ((decide (e < s.length) && (letOk (s.getD e 0) && (decide (w ≤ 4096) && decide (pr ≤ 4096)))) = true → x = Tspec.mk m z p (w : Int) pr ((s.getD e 0).toNat : Int) ∧ n = ((e + 1 : Nat) : Int)) := by
    intro m z p w pr e he
    by_cases hlt : e < s.length
    · rw [dF (show ¬ (s.length : Int) ≤ (e : Int) by omega), dT hlt, dT (show (e : Int) < (s.length : Int) by omega)]
      simp only [cond_false, Int.toNat_natCast, dnn, Bool.and_self, rq_tt, Bool.true_and]
      rw [ib_eq, w64s (by omega)]
      simp only [Option.bind_some]
      have hlo : decide (Lib.indexByte ([100, 105, 117, 120, 111, 99, 115, 98, 37] : List UInt8) (s.getD e 0) < 0) = !(letOk (s.getD e 0)) := by
        unfold letOk
        rw [Bool.eq_iff_iff]
        simp only [decide_eq_true_eq, Bool.not_eq_true', decide_eq_false_iff_not]
        omega
      rw [hlo]
      have hwe : decide ((w : Int) ≤ 4096) = decide (w ≤ 4096) := by rw [Bool.eq_iff_iff, decide_eq_true_eq, decide_eq_true_eq]; omega
      rw [hwe]
      cases letOk (s.getD e 0) with
      | false => exact ⟨_, _, rfl, fun h => by cases h⟩
      | true =>
        cases decide (w ≤ 4096) with
        | false => exact ⟨_, _, rfl, fun h => by cases h⟩
        | true => exact ⟨_, _, rfl, fun _ => ⟨rfl, rfl⟩⟩
    · rw [dT (show (s.length : Int) ≤ (e : Int) by omega), dF hlt]
      exact ⟨_, _, rfl, fun h => by cases h⟩
  unfold format_read
  show ∃ x n, (loopF _ F (1, false, false, false, 0, -1, 0)).bind _ = _ ∧ _
  rw [flags_eq F s h1 hF hl]
  simp only [Option.bind_some]
  rw [rq3 (show (0 : Int) ≤ ((1 + (flS (s.drop 1)).2 : Nat) : Int) by omega) (show ((1 + (flS (s.drop 1)).2 : Nat) : Int) ≤ (s.length : Int) by omega) (Int.le_refl _), sl_end, number_eq F _ (by simp; omega) (by simp; omega)]
  simp only [Option.bind_some]
  have ea : w64 (((1 + (flS (s.drop 1)).2 : Nat) : Int) + ((num (s.drop (1 + (flS (s.drop 1)).2))).2 : Int)) = ((wid s).2 : Int) := by
    simp only [List.length_drop] at hnum1
    unfold wid
    rw [w64_in (by omega)]
    dsimp only
    omega
  simp only [ea]
  have ew : ((num (s.drop (1 + (flS (s.drop 1)).2))).1 : Int) = ((wid s).1 : Int) := rfl
  simp only [ew]
  have e46 : ∀ k : Nat, (((s.getD k 0).toNat : Int) == 46) = (s.getD k 0 == 46) := fun k => u8lit (s.getD k 0) 46 (by decide)
  by_cases hc : (decide ((wid s).2 < s.length) && (s.getD (wid s).2 0 == 46)) = true
  · have hpr : prec s (wid s).2 = (((num (s.drop ((wid s).2 + 1))).1 : Int), (wid s).2 + (1 + (num (s.drop ((wid s).2 + 1))).2)) := by unfold prec; rw [hc]; rfl
    rw [Bool.and_eq_true, decide_eq_true_eq] at hc
    have hn2 := num_le (s.drop ((wid s).2 + 1))
    simp only [List.length_drop] at hn2
    rw [dT (show ((wid s).2 : Int) < (s.length : Int) by omega)]
    simp only [cond_true, Int.toNat_natCast, dnn, Bool.and_self, rq_tt]
    rw [e46, hc.2]
    simp only [Option.bind_some, cond_true]
    rw [w64s (by omega), rq3 (show (0 : Int) ≤ (((wid s).2 + 1 : Nat) : Int) by omega) (show (((wid s).2 + 1 : Nat) : Int) ≤ (s.length : Int) by omega) (Int.le_refl _), sl_end, number_eq F _ (by simp; omega) (by simp; omega)]
    simp only [Option.bind_some]
    have e5 : w64 (((wid s).2 : Int) + (w64 (1 + ((num (s.drop ((wid s).2 + 1))).2 : Int)))) = ((prec s (wid s).2).2 : Int) := by
      rw [hpr, w64_in (x := 1 + _) (by omega), w64_in (by omega)]
      dsimp only
      omega
    have e6 : ((num (s.drop ((wid s).2 + 1))).1 : Int) = (prec s (wid s).2).1 := by rw [hpr]
    simp only [e5, e6]
    obtain ⟨x, n, q1, q2⟩ := hfin (flS (s.drop 1)).1.1 (flS (s.drop 1)).1.2.1 (flS (s.drop 1)).1.2.2 (wid s).1 (prec s (wid s).2).1 (prec s (wid s).2).2 hp.2.1
    refine ⟨x, n, ?_, ?_⟩
    · refine q1.trans ?_
      unfold readS
      cases (decide ((prec s (wid s).2).2 < s.length) && (letOk (s.getD (prec s (wid s).2).2 0) && (decide ((wid s).1 ≤ 4096) && decide ((prec s (wid s).2).1 ≤ 4096)))) <;> rfl
    · intro y k hy
      unfold readS at hy
      cases hb : (decide ((prec s (wid s).2).2 < s.length) && (letOk (s.getD (prec s (wid s).2).2 0) && (decide ((wid s).1 ≤ 4096) && decide ((prec s (wid s).2).1 ≤ 4096)))) with
      | false => rw [hb] at hy; cases hy
      | true =>
        rw [hb] at hy
        cases hy
        exact q2 hb
  · have hc : (decide ((wid s).2 < s.length) && (s.getD (wid s).2 0 == 46)) = false := by simpa using hc
    have hpr : prec s (wid s).2 = (-1, (wid s).2) := by unfold prec; rw [hc]; rfl
    have hcc : (cond (decide (((wid s).2 : Int) < (s.length : Int))) (rq ((decide (0 ≤ ((wid s).2 : Int))) && (decide (((wid s).2 : Int) < (s.length : Int)))) (some (((s.getD (Int.toNat ((wid s).2 : Int)) 0).toNat : Int) == 46))) (some false) : Option Bool) = some false := by
      by_cases hlt : (wid s).2 < s.length
      · rw [dT (show ((wid s).2 : Int) < (s.length : Int) by omega)]
        simp only [cond_true, Int.toNat_natCast, dnn, Bool.and_self, rq_tt]
        rw [dT hlt, Bool.true_and] at hc
        rw [e46, hc]
      · rw [dF (show ¬ ((wid s).2 : Int) < (s.length : Int) by omega)]; rfl
    rw [hcc]
    simp only [Option.bind_some, cond_false]
    obtain ⟨x, n, q1, q2⟩ := hfin (flS (s.drop 1)).1.1 (flS (s.drop 1)).1.2.1 (flS (s.drop 1)).1.2.2 (wid s).1 (-1) (wid s).2 hw.2.1
    have hr : readS s = cond (decide ((wid s).2 < s.length) && (letOk (s.getD (wid s).2 0) && (decide ((wid s).1 ≤ 4096) && decide ((-1 : Int) ≤ 4096))))
        (some (⟨(flS (s.drop 1)).1.1, (flS (s.drop 1)).1.2.1, (flS (s.drop 1)).1.2.2, (wid s).1, -1, s.getD (wid s).2 0⟩, (wid s).2 + 1)) none := by unfold readS; rw [hpr]
    refine ⟨x, n, ?_, ?_⟩
    · refine q1.trans ?_
      rw [hr]
      cases (decide ((wid s).2 < s.length) && (letOk (s.getD (wid s).2 0) && (decide ((wid s).1 ≤ 4096) && decide ((-1 : Int) ≤ 4096)))) <;> rfl
    · intro y k hy
      rw [hr] at hy
      cases hb : (decide ((wid s).2 < s.length) && (letOk (s.getD (wid s).2 0) && (decide ((wid s).1 ≤ 4096) && decide ((-1 : Int) ≤ 4096)))) with
      | false => rw [hb] at hy; cases hy
      | true =>
        rw [hb] at hy
        cases hy
        exact q2 hb

/-! ### Padding -/
theorem repeatL_one (c : UInt8) : ∀ n : Nat, Lib.repeatL [c] n = List.replicate n c
  | 0 => rfl
  | n + 1 => by rw [Lib.repeatL, repeatL_one c n]; rfl
theorem rep_eq (F : Nat) (c : UInt8) (n : Nat) (h : n ≤ 1000000) : repF F [c] (n : Int) = some (List.replicate n c) := by
  unfold repF
  have : n ≤ 1000000 := h
  rw [rq3 (show (0 : Int) ≤ (n : Int) by omega) (show (n : Int) ≤ 9223372036854775807 by omega) (show ([c] : List UInt8).length * (n : Int).toNat ≤ 140737488355328 by simp; omega), Int.toNat_natCast, repeatL_one]
def intLet (b : UInt8) : Bool := decide (0 ≤ Lib.indexByte ([100, 105, 117, 120, 111] : List UInt8) b)
def padS (x : Sp) (sg s : List UInt8) : List UInt8 :=
  cond (decide (x.w ≤ sg.length + s.length)) (sg ++ s) (cond x.m ((sg ++ s) ++ List.replicate (x.w - (sg.length + s.length)) 32)
    (cond (x.z && (decide (x.pr < 0) && intLet x.l)) ((sg ++ List.replicate (x.w - (sg.length + s.length)) 48) ++ s) ((List.replicate (x.w - (sg.length + s.length)) 32 ++ sg) ++ s)))
theorem padS_len (x : Sp) (sg s : List UInt8) : (padS x sg s).length = max x.w (sg.length + s.length) := by
  unfold padS
  by_cases h : x.w ≤ sg.length + s.length
  · rw [ct h]; simp; omega
  · rw [cf h]
    cases x.m
    · cases (x.z && (decide (x.pr < 0) && intLet x.l)) <;> simp <;> omega
    · simp; omega
theorem pad_eq (F : Nat) (x : Sp) (sg s : List UInt8) (hw : x.w ≤ 4096) (h1 : sg.length ≤ 100000) (h2 : s.length ≤ 100000) : format_spec_pad F x.t sg s = some (padS x sg s) := by
  unfold format_spec_pad padS
  have e : w64 ((w64 ((x.t).fwidth - (sg.length : Int))) - (s.length : Int)) = (x.w : Int) - (sg.length : Int) - (s.length : Int) := by
    show w64 ((w64 ((x.w : Int) - (sg.length : Int))) - (s.length : Int)) = _
    rw [w64_in (x := (x.w : Int) - (sg.length : Int)) (by omega), w64_in (by omega)]
  simp only [e]
  by_cases h : x.w ≤ sg.length + s.length
  · rw [ct (show (x.w : Int) - (sg.length : Int) - (s.length : Int) ≤ 0 by omega), ct h, rq1 (by omega)]
  · rw [cf (show ¬ (x.w : Int) - (sg.length : Int) - (s.length : Int) ≤ 0 by omega), cf h]
    have en : (x.w : Int) - (sg.length : Int) - (s.length : Int) = ((x.w - (sg.length + s.length) : Nat) : Int) := by omega
    simp only [en]
    rw [rep_eq F 32 _ (by omega), rep_eq F 48 _ (by omega)]
    have hm : (x.t).fminus = x.m := rfl
    have hz : (x.t).fzero = x.z := rfl
    have hpr : (x.t).fprecision = x.pr := rfl
    have hlt : (x.t).fletter = (x.l.toNat : Int) := rfl
    simp only [hm, hz, hpr, hlt, Option.bind_some]
    cases x.m with
    | true =>
      simp only [cond_true]
      rw [rq1 (by omega), rq1 (by simp; omega)]
    | false =>
      simp only [cond_false]
      rw [ib_eq]
      simp only [Option.bind_some]
      have hi : decide (0 ≤ Lib.indexByte ([100, 105, 117, 120, 111] : List UInt8) x.l) = intLet x.l := rfl
      rw [hi]
      rw [rq1 (show sg.length + (List.replicate (x.w - (sg.length + s.length)) (48 : UInt8)).length ≤ 9223372036854775807 by simp; omega), rq1 (show (sg ++ List.replicate (x.w - (sg.length + s.length)) (48 : UInt8)).length + s.length ≤ 9223372036854775807 by simp; omega),
        rq1 (show (List.replicate (x.w - (sg.length + s.length)) (32 : UInt8)).length + sg.length ≤ 9223372036854775807 by simp; omega), rq1 (show (List.replicate (x.w - (sg.length + s.length)) (32 : UInt8) ++ sg).length + s.length ≤ 9223372036854775807 by simp; omega)]
      cases x.z <;> cases decide (x.pr < 0) <;> cases intLet x.l <;> rfl

/-! ### Cutting, unescaping -/
def cutS (pr : Int) (s : List UInt8) : List UInt8 := cond (decide (0 ≤ pr) && decide (pr < (s.length : Int))) (s.take pr.toNat) s
theorem cut_eq (F : Nat) (x : Sp) (s : List UInt8) : format_spec_cut F x.t s = some (cutS x.pr s) := by
  unfold format_spec_cut cutS
  have hpr : (x.t).fprecision = x.pr := rfl
  simp only [hpr]
  by_cases h0 : 0 ≤ x.pr
  · obtain ⟨k, hk⟩ : ∃ k : Nat, x.pr = k := ⟨x.pr.toNat, by omega⟩
    rw [hk] at h0 ⊢
    rw [dT h0]
    simp only [cond_true, Option.bind_some, Bool.true_and]
    by_cases h1 : (k : Int) < (s.length : Int)
    · rw [dT h1]
      simp only [cond_true]
      rw [dT (show (k : Int) ≤ (s.length : Int) by omega)]
      rw [sl_0, Int.toNat_natCast]
      rfl
    · rw [dF h1]; rfl
  · rw [dF h0]; rfl
theorem cutS_len (pr : Int) (s : List UInt8) : (cutS pr s).length ≤ s.length := by
  unfold cutS
  cases (decide (0 ≤ pr) && decide (pr < (s.length : Int))) <;> simp
  omega
/-- The text of an operand of %b, and whether it ends the output. -/
def unN : Nat → List UInt8 → List UInt8 × Bool
  | 0, _ => ([], false)
  | _ + 1, [] => ([], false)
  | k + 1, b :: t => cond (!(b == 92)) (b :: (unN k t).1, (unN k t).2)
      (cond (decide (0 < t.length) && (t.getD 0 0 == 99)) ([], true)
        (cond ((escS (b :: t) 2).2 == 0) (b :: (unN k t).1, (unN k t).2) ((escS (b :: t) 2).1 ++ (unN k ((b :: t).drop (escS (b :: t) 2).2)).1, (unN k ((b :: t).drop (escS (b :: t) 2).2)).2)))
theorem unN_len : ∀ (k : Nat) (s : List UInt8), (unN k s).1.length ≤ s.length
  | 0, s => by simp [unN]
  | k + 1, [] => by simp [unN]
  | k + 1, b :: t => by
    unfold unN
    have ih := unN_len k t
    have ih2 := unN_len k ((b :: t).drop (escS (b :: t) 2).2)
    have hf := escS_facts (b :: t) 2 (.inr rfl)
    cases (!(b == 92)) with
    | true => simp only [cond_true, List.length_cons]; omega
    | false =>
      simp only [cond_false]
      cases (decide (0 < t.length) && (t.getD 0 0 == 99)) with
      | true => simp
      | false =>
        simp only [cond_false]
        cases he : ((escS (b :: t) 2).2 == 0) with
        | true => simp only [cond_true, List.length_cons]; omega
        | false =>
          rw [beq_eq_false_iff_ne] at he
          simp only [cond_false, List.length_append]
          simp only [List.length_drop] at ih2
          omega
def un (s : List UInt8) : List UInt8 × Bool := unN s.length s
theorem unN_irrel : ∀ (k m : Nat) (s : List UInt8), s.length ≤ k → s.length ≤ m → unN k s = unN m s
  | 0, m, s, h, _ => by
    obtain rfl : s = [] := List.eq_nil_of_length_eq_zero (by omega)
    cases m <;> rfl
  | k + 1, 0, s, _, h => by
    obtain rfl : s = [] := List.eq_nil_of_length_eq_zero (by omega)
    rfl
  | k + 1, m + 1, [], _, _ => rfl
  | k + 1, m + 1, b :: t, h1, h2 => by
    have hf := escS_facts (b :: t) 2 (.inr rfl)
    simp only [List.length_cons] at h1 h2 hf
    unfold unN
    rw [unN_irrel k m t (by omega) (by omega)]
    cases he : ((escS (b :: t) 2).2 == 0) with
    | true => rfl
    | false =>
      rw [beq_eq_false_iff_ne] at he
      rw [unN_irrel k m ((b :: t).drop (escS (b :: t) 2).2) (by simp; omega) (by simp; omega)]
theorem capI (o : List UInt8) (n : Nat) (h : o.length + n ≤ 1000000) : (decide ((toInts o).length + n ≤ 9223372036854775807) && decide (((toInts o).length + n) * 1 ≤ 140737488355328)) = true := by
  rw [ti_len, dT (by omega), dT (by omega)]; rfl
theorem unescape_eq (F : Nat) (s : List UInt8) (hF : s.length + 4 < F) (hl : s.length ≤ 100000) : format_unescape F s = some (un s) := by
  unfold format_unescape
  refine loopF_hoare (z := some (un s)) (fun st => ∃ (o : List UInt8) (i : Nat), st = (toInts o, (i : Int)) ∧ i ≤ s.length ∧ o.length ≤ i ∧ un s = (o ++ (unN (s.length - i) (s.drop i)).1, (unN (s.length - i) (s.drop i)).2)) (fun st => s.length - st.2.toNat) ?_ F _ ⟨[], 0, rfl, Nat.zero_le _, Nat.le_refl _, by simp [un]⟩ (by simp; omega)
  rintro st ⟨o, i, rfl, hi, ho, hz⟩
  dsimp only
  by_cases hlt : i < s.length
  · have e1 : s.length - i = (s.length - (i + 1)) + 1 := by omega
    have ed := List.drop_eq_getElem_cons hlt
    rw [e1, ed] at hz
    have e92 := u8litn s[i] 92 (by decide)
    have hb1 : (decide (0 ≤ (i : Int)) && decide ((i : Int) < (s.length : Int))) = true := ixok hlt
    simp only [dT (show (i : Int) < (s.length : Int) by omega), dnn, Bool.and_self, cond_true, rq_tt, Int.toNat_natCast, gd hlt, e92]
    unfold unN at hz
    -- one byte that goes over as it is
    have plain1 : un s = (o ++ (s[i] :: (unN (s.length - (i + 1)) (s.drop (i + 1))).1), (unN (s.length - (i + 1)) (s.drop (i + 1))).2) →
        ∃ s', (∃ (o : List UInt8) (j : Nat), s' = (toInts o, (j : Int)) ∧ j ≤ s.length ∧ o.length ≤ j ∧ un s = (o ++ (unN (s.length - j) (s.drop j)).1, (unN (s.length - j) (s.drop j)).2)) ∧ s.length - s'.2.toNat < s.length - ((i : Int)).toNat ∧ s' = (toInts (o ++ [s[i]]), ((i + 1 : Nat) : Int)) := by
      intro hz
      refine ⟨_, ⟨o ++ [s[i]], i + 1, rfl, by omega, by simp; omega, ?_⟩, by simp; omega, rfl⟩
      rw [hz]; simp
    cases a1 : (!(s[i] == 92)) with
    | true =>
      rw [a1] at hz
      simp only [cond_true] at hz ⊢
      obtain ⟨s', q1, q2, q3⟩ := plain1 hz
      refine .inl ⟨s', q1, q2, fun rc => ?_⟩
      rw [ti_one, ti_len [s[i]], show ([s[i]] : List UInt8).length = 1 from rfl, ← ti_app, w64s (by omega), q3]
      rw [show (decide ((toInts o).length + 1 ≤ 9223372036854775807) && decide (((toInts o).length + 1) * 1 ≤ 140737488355328)) = true from capI o 1 (by omega)]
      rfl
    | false =>
      rw [a1] at hz
      simp only [cond_false] at hz ⊢
      have hs92 : s[i] = 92 := by simpa using a1
      have hw1 : w64 ((i : Int) + 1) = ((i + 1 : Nat) : Int) := w64s (by omega)
      have e99 : ∀ k : Nat, (((s.getD k 0).toNat : Int) == 99) = (s.getD k 0 == 99) := fun k => u8lit (s.getD k 0) 99 (by decide)
      have hd0 : (s.drop (i + 1)).getD 0 0 = s.getD (i + 1) 0 := by simp [List.getD]
      have hcnd : (cond (decide (w64 ((i : Int) + 1) < (s.length : Int))) (rq ((decide (0 ≤ w64 ((i : Int) + 1))) && (decide (w64 ((i : Int) + 1) < (s.length : Int)))) (some (((s.getD (Int.toNat (w64 ((i : Int) + 1))) 0).toNat : Int) == 99))) (some false) : Option Bool) =
          some (decide (0 < (s.drop (i + 1)).length) && ((s.drop (i + 1)).getD 0 0 == 99)) := by
        rw [hw1, hd0, Int.toNat_natCast]
        by_cases h2 : i + 1 < s.length
        · rw [dT (show ((i + 1 : Nat) : Int) < (s.length : Int) by omega), dT (show 0 < (s.drop (i + 1)).length by simp; omega)]
          simp only [cond_true, dnn, Bool.and_self, rq_tt, Bool.true_and, e99]
        · rw [dF (show ¬ ((i + 1 : Nat) : Int) < (s.length : Int) by omega), dF (show ¬ 0 < (s.drop (i + 1)).length by simp; omega)]
          rfl
      simp only [hcnd, Option.bind_some]
      cases a2 : (decide (0 < (s.drop (i + 1)).length) && ((s.drop (i + 1)).getD 0 0 == 99)) with
      | true =>
        rw [a2] at hz
        simp only [cond_true] at hz ⊢
        refine .inr fun rc => ?_
        rw [hz, bytes_rt]
        simp
      | false =>
        rw [a2] at hz
        simp only [cond_false] at hz ⊢
        have he := escape_eq F (s.drop i) 2 (.inr rfl) (by omega) (by simp; omega)
        have hf := escS_facts (s.drop i) 2 (.inr rfl)
        rw [← ed] at hz
        have hsl : sl s (i : Int) (s.length : Int) = s.drop i := sl_end s i
        have hr3 : (true && (decide ((i : Int) ≤ (s.length : Int)) && decide ((s.length : Int) ≤ (s.length : Int)))) = true := by rw [dT (by omega), dT (by omega)]; rfl
        have hr5 : (true && (decide ((i : Int) ≤ ((i + 1 : Nat) : Int)) && decide (((i + 1 : Nat) : Int) ≤ (s.length : Int)))) = true := by rw [dT (by omega), dT (by omega)]; rfl
        have he' : format_escape F (s.drop i) 2 = some ((escS (s.drop i) 2).1, ((escS (s.drop i) 2).2 : Int)) := he
        simp only [hr3, rq_tt, hsl, he', Option.bind_some, hw1]
        simp only [List.length_drop] at hf
        cases a3 : ((escS (s.drop i) 2).2 == 0) with
        | true =>
          rw [a3] at hz
          simp only [cond_true] at hz
          rw [beq_iff_eq] at a3
          obtain ⟨s', q1, q2, q3⟩ := plain1 (by simpa [ed] using hz)
          refine .inl ⟨s', q1, q2, fun rc => ?_⟩
          rw [a3]
          simp only [Int.natCast_zero, beq_self_eq_true, cond_true]
          simp only [hr5, rq_tt]
          rw [sl_at hlt]
          simp only [Option.bind_some]
          rw [ti_len [s[i]], show ([s[i]] : List UInt8).length = 1 from rfl, ← ti_app, hw1, q3]
          rw [show (decide ((toInts o).length + 1 ≤ 9223372036854775807) && decide (((toInts o).length + 1) * 1 ≤ 140737488355328)) = true from capI o 1 (by omega)]
          rfl
        | false =>
          rw [a3] at hz
          simp only [cond_false] at hz
          have a3' : (((escS (s.drop i) 2).2 : Int) == 0) = false := by
            rw [beq_eq_false_iff_ne] at a3 ⊢; omega
          rw [beq_eq_false_iff_ne] at a3
          refine .inl ⟨(toInts (o ++ (escS (s.drop i) 2).1), ((i + (escS (s.drop i) 2).2 : Nat) : Int)), ⟨_, _, rfl, by omega, by simp; omega, ?_⟩, by simp; omega, fun rc => ?_⟩
          · rw [hz, List.drop_drop, unN_irrel (s.length - (i + 1)) (s.length - (i + (escS (s.drop i) 2).2)) _ (by simp <;> omega) (by simp <;> omega)]
            simp
          · rw [a3']
            simp only [cond_false, Option.bind_some]
            rw [ti_len (escS (s.drop i) 2).1, capI o _ (by omega), ← ti_app, w64_in (by omega)]
            simp only [rq_tt]
            rfl
  · obtain rfl : i = s.length := by omega
    rw [dF (show ¬ (s.length : Int) < (s.length : Int) by omega)]
    refine .inr fun rc => ?_
    simp only [cond_false]
    rw [hz, bytes_rt, Nat.sub_self]
    simp [unN]

end Go.Proofs.YtmcnemjnkiofdaaGreatDoor
