/-
  Format: the plain laws of FormatPrintfs, FormatEchos and FormatNumbers.
-/
import Derived.Test.YtmcnemjnkiofdaaGreatDoorFj
namespace Go.Proofs.YtmcnemjnkiofdaaGreatDoor
open Go.RT
set_option linter.all false
set_option maxRecDepth 100000

theorem Rf.used0 {args : List (List UInt8)} {u0 u : Nat} {p : St} (h : Rf args u0 u p) : Rf args u u { p with used := false } := ⟨h.ops, h.le, Nat.le_refl _, by simp⟩
theorem printfR_eq (F : Nat) (args : List (List UInt8)) (h : ∀ a ∈ args, a.length ≤ 60) (hl : args.length ≤ 100) (hF : 7000 < F) : ref30_Printf F args = some (prS args) := by
  unfold ref30_Printf prS
  cases args with
  | nil => rfl
  | cons f l =>
    have e0 : (((f :: l).length : Int) == 0) = false := by rw [beq_eq_false_iff_ne]; simp; omega
    have hf := h f (by simp)
    rw [e0]
    simp only [cond_false]
    rw [rq2 (by simp; omega) (Int.le_refl _), sl_1]
    have hg : (f :: l).getD 0 [] = f := rfl
    simp only [hg, List.drop_succ_cons, List.drop_zero]
    simp only [List.length_cons] at hl
    have key := loopF_post (R := RT5) (σ := Int × RT5) (body := fun rc3 x2 =>
 cond (decide (x2.1 ≤ ((f :: l).length : Int)))
 (rq (decide (0 < ((f :: l).length : Int))) ((ref30_printer_pass F f x2.2.1 x2.2.2.1 x2.2.2.2.1 x2.2.2.2.2.1 x2.2.2.2.2.2).bind fun x4 =>
 (cond x4.2.2.1
 (some true)
 (cond (x4.2.2.2.2 == x2.2.2.2.2.2)
 (some true)
 (some (decide ((x4.2.2.2.1.length : Int) ≤ x4.2.2.2.2)))) : Option Bool).bind fun x5 =>
 cond x5
 (some (x4.1, x4.2.1, x4.2.2.1, x4.2.2.2.1, x4.2.2.2.2))
 (rc3 (w64 (x2.1 + 1), x4.1, x4.2.1, x4.2.2.1, x4.2.2.2.1, x4.2.2.2.2))))
 (some (x2.2.1, x2.2.2.1, x2.2.2.2.1, x2.2.2.2.2.1, x2.2.2.2.2.2)))
      (fun r => r.1 = (prN (l.length + 1) f ⟨[], l, false, false, []⟩).o ∧ r.2.1 = (prN (l.length + 1) f ⟨[], l, false, false, []⟩).msg)
      (fun st => ∃ (p : St) (i k u : Nat), st = ((i : Int), p.r l u) ∧ Ok p ∧ p.ended = false ∧ Rf l u u { p with used := false } ∧ i + p.ops.length ≤ l.length ∧ p.ops.length ≤ k ∧ prN (l.length + 1) f ⟨[], l, false, false, []⟩ = prN (k + 1) f p)
      (fun st => st.2.2.2.2.1.length - st.2.2.2.2.2.toNat) ?_ F (0, (⟨[], l, false, false, []⟩ : St).r l 0)
      ⟨⟨[], l, false, false, []⟩, 0, l.length, 0, rfl, ⟨by simp, fun a ha => h a (by simp [ha])⟩, rfl, ⟨rfl, Nat.zero_le _, Nat.le_refl _, rfl⟩, by simp, Nat.le_refl _, rfl⟩ (by show l.length - 0 < F; omega)
    · obtain ⟨r, ⟨q1, q2⟩, q3⟩ := key
      have q3' : loopF _ F ((0 : Int), ([] : List UInt8), ([] : List UInt8), false, l, (0 : Int)) = some r := q3
      show ((loopF _ F ((0 : Int), ([] : List UInt8), ([] : List UInt8), false, l, (0 : Int))).bind fun (x1 : RT5) => (cond (!(x1.2.1 == [])) (some (x1.1, x1.2.1, 1)) (some (x1.1, [], 0)) : Option (List UInt8 × List UInt8 × Int))) = _
      rw [q3']
      simp only [Option.bind_some]
      rw [q1, q2]
      unfold outS
      cases (!((prN (l.length + 1) f ⟨[], l, false, false, []⟩).msg == [])) <;> rfl
    · rintro st ⟨p, i, k, u, rfl, hp, he, hr, hi, hk, hz⟩
      have hpass := passR_eq F f { p with used := false } l u hr ⟨hp.o, hp.ops⟩ he (by omega) (by omega) (by omega)
      obtain ⟨u2, hpe, hr2⟩ := hpass
      have hpe' : ref30_printer_pass F f (p.r l u).1 (p.r l u).2.1 (p.r l u).2.2.1 (p.r l u).2.2.2.1 (p.r l u).2.2.2.2 = some ((passN f.length f { p with used := false }).r l u2) := hpe
      obtain ⟨hq, hu⟩ := pass_used (f := f) hp
      have hz' : prN (l.length + 1) f ⟨[], l, false, false, []⟩ = cond ((passN f.length f { p with used := false }).ended || (!(passN f.length f { p with used := false }).used || (passN f.length f { p with used := false }).ops.length == 0)) (passN f.length f { p with used := false }) (prN k f (passN f.length f { p with used := false })) := hz
      generalize hqq : passN f.length f { p with used := false } = q at hq hu hpe' hr2 hz'
      have hle := hr2.le
      have hlo := hr2.lo
      have hol : q.ops.length = l.length - u2 := by rw [hr2.ops]; simp
      have hpl : p.ops.length = l.length - u := by have := hr.ops; rw [show p.ops = l.drop u from this]; simp
      simp only [dT (show (i : Int) ≤ ((f :: l).length : Int) by simp; omega), cond_true, rq1 (show (0 : Int) < ((f :: l).length : Int) by simp <;> omega), hpe', Option.bind_some]
      have hc : (cond (q.r l u2).2.2.1 (some true) (cond ((q.r l u2).2.2.2.2 == (p.r l u).2.2.2.2) (some true) (some (decide ((((q.r l u2).2.2.2.1).length : Int) ≤ (q.r l u2).2.2.2.2)))) : Option Bool) = some (q.ended || (!q.used || q.ops.length == 0)) := by
        show (cond q.ended (some true) (cond ((u2 : Int) == (u : Int)) (some true) (some (decide ((l.length : Int) ≤ (u2 : Int))))) : Option Bool) = _
        rw [hr2.used, hol]
        have e1 : ((u2 : Int) == (u : Int)) = !decide (u < u2) := by
          rw [Bool.eq_iff_iff, beq_iff_eq, Bool.not_eq_true', decide_eq_false_iff_not]; omega
        have e2 : decide ((l.length : Int) ≤ (u2 : Int)) = (l.length - u2 == 0) := by
          rw [Bool.eq_iff_iff, decide_eq_true_eq, beq_iff_eq]; omega
        rw [e1, e2]
        cases q.ended <;> cases decide (u < u2) <;> rfl
      simp only [hc, Option.bind_some]
      cases hb : (q.ended || (!q.used || q.ops.length == 0)) with
      | true =>
        rw [hb] at hz'
        refine .inr ⟨q.r l u2, ⟨?_, ?_⟩, fun rc => rfl⟩
        · rw [hz']; rfl
        · rw [hz']; rfl
      | false =>
        rw [hb] at hz'
        rw [Bool.or_eq_false_iff, Bool.or_eq_false_iff] at hb
        have hus := hu (by simpa using hb.2.1)
        cases k with
        | zero => omega
        | succ k =>
          refine .inl ⟨(((i + 1 : Nat) : Int), q.r l u2), ⟨q, i + 1, k, u2, rfl, hq, hb.1, hr2.used0, by omega, by omega, hz'⟩, ?_, fun rc => ?_⟩
          · show l.length - ((u2 : Int)).toNat < l.length - ((u : Int)).toNat
            omega
          · simp only [cond_false]
            rw [w64s (by omega)]
theorem formatPrintfs (a0 : List (List UInt8)) (h : a0.length ≤ 9223372036854775807) : ∃ F, law30_FormatPrintfs F a0 = some true := by
  refine ⟨a0.length + 20000, ?_⟩
  unfold law30_FormatPrintfs
  obtain ⟨r, hr, hs⟩ := short_eq (a0.length + 20000) a0 8 60 h (by omega) (by omega)
  have hs' : ref03_Short (a0.length + 20000) a0 8 60 = some r := hs
  rw [hs', awake60]
  simp only [Option.bind_some]
  cases r with
  | false => rfl
  | true =>
    obtain ⟨h1, h2⟩ := hr rfl
    rw [printf_eq _ a0 h2 (by omega) (by omega), printfR_eq _ a0 h2 (by omega) (by omega)]
    simp only [Bool.not_true, cond_false, Option.bind_some, beq_self_eq_true, cond_true]

/-! ### Echo -/
def echoS (l : List (List UInt8)) : List UInt8 := cond (decide (0 < l.length) && (l.getD 0 [] == [45, 110])) (Lib.join (l.drop 1) [32]) (Lib.join l [32] ++ [10])
theorem join_len (l : List (List UInt8)) (n : Nat) (h : ∀ a ∈ l, a.length ≤ n) : (Lib.join l [32]).length ≤ (n + 1) * l.length := by
  cases l with
  | nil => simp [Lib.join_nil]
  | cons a r =>
    rw [Lib.join_cons]
    have h1 := h a (by simp)
    have h2 : (Lib.joinTail [32] r).length ≤ (n + 1) * r.length := by
      unfold Lib.joinTail
      have := flat_len (r.map ([32] ++ ·)) (n + 1) (by
        intro b hb
        obtain ⟨c, hc, rfl⟩ := List.mem_map.1 hb
        have := h c (by simp [hc])
        simp; omega)
      simpa using this
    simp only [List.length_append, List.length_cons, Nat.mul_succ]
    omega
theorem join_snoc (l : List (List UInt8)) (y : List UInt8) : Lib.join (l ++ [y]) [32] = cond (decide (0 < l.length)) (Lib.join l [32] ++ [32]) [] ++ y := by
  cases l with
  | nil => simp [Lib.join_one]
  | cons a r =>
    rw [List.cons_append, Lib.join_cons, Lib.join_cons, dT (by simp)]
    simp [Lib.joinTail]
theorem joinF_eq (F : Nat) (l : List (List UInt8)) (h : ∀ a ∈ l, a.length ≤ 100) (hl : l.length ≤ 1000) : joinF F l [32] = some (Lib.join l [32]) := by
  have := join_len l 100 h
  unfold joinF
  rw [rq2 (by omega) (by omega)]
theorem echo_eq (F : Nat) (l : List (List UInt8)) (h : ∀ a ∈ l, a.length ≤ 100) (hl : l.length ≤ 1000) : format_Echo F l = some (echoS l) := by
  have hj := join_len l 100 h
  unfold format_Echo echoS
  have hc : (cond (decide (0 < (l.length : Int))) (rq (decide (0 < (l.length : Int))) (some ((l.getD 0 []) == ([45, 110] : List UInt8)))) (some false) : Option Bool) = some (decide (0 < l.length) && (l.getD 0 [] == [45, 110])) := by
    by_cases h0 : 0 < l.length
    · rw [dT (show (0 : Int) < (l.length : Int) by omega), dT h0]; rfl
    · rw [dF (show ¬ (0 : Int) < (l.length : Int) by omega), dF h0]; rfl
  rw [hc]
  simp only [Option.bind_some]
  cases hb : (decide (0 < l.length) && (l.getD 0 [] == [45, 110])) with
  | true =>
    rw [Bool.and_eq_true, decide_eq_true_eq] at hb
    simp only [cond_true]
    rw [rq2 (by omega) (Int.le_refl _), sl_1, joinF_eq F _ (fun a ha => h a (List.mem_of_mem_drop ha)) (by simp; omega)]
    rfl
  | false =>
    simp only [cond_false]
    rw [joinF_eq F l h hl]
    simp only [Option.bind_some]
    rw [rq1 (by show (Lib.join l [32]).length + 1 ≤ 9223372036854775807; omega)]
theorem echoR_loop (F : Nat) (l : List (List UInt8)) (e : List UInt8) (h : ∀ a ∈ l, a.length ≤ 100) (hl : l.length ≤ 1000) (he : e.length ≤ 1) (hF : 1001 < F) :
    loopF (σ := (List UInt8) × Int) (R := List UInt8) (fun rc4 x3 =>
 cond (decide (x3.2 < (l.length : Int)))
 ((cond (decide (0 < x3.2))
 (rq (decide (x3.1.length + ([32] : List UInt8).length ≤ 9223372036854775807)) (some (x3.1 ++ ([32] : List UInt8))))
 (some x3.1) : Option (List UInt8)).bind fun x5 =>
 rq ((decide (0 ≤ x3.2)) && (decide (x3.2 < (l.length : Int)))) (rq (decide (x5.length + (l.getD (Int.toNat x3.2) []).length ≤ 9223372036854775807)) (rc4 (x5 ++ (l.getD (Int.toNat x3.2) []), w64 (x3.2 + 1)))))
 (rq (decide (x3.1.length + e.length ≤ 9223372036854775807)) (some (x3.1 ++ e)))) F ([], 0) = some (Lib.join l [32] ++ e) := by
  have hb : ∀ i, i ≤ l.length → (Lib.join (l.take i) [32]).length ≤ 200000 := by
    intro i hi
    have := join_len (l.take i) 100 fun a ha => h a (List.mem_of_mem_take ha)
    simp only [List.length_take] at this
    omega
  refine loopF_seq (fun i => (Lib.join (l.take i) [32], (i : Int))) l.length (by omega) (by simp [Lib.join_nil]) (fun i rc hi => ?_) fun rc => ?_
  · have hbi := hb i (by omega)
    have hli := h l[i] (List.getElem_mem hi)
    have hs := join_snoc (l.take i) l[i]
    rw [← List.take_succ_eq_append_getElem hi] at hs
    simp only [dT (show (i : Int) < (l.length : Int) by omega), cond_true, dnn, Bool.and_self, rq_tt, Int.toNat_natCast, gd hi]
    rw [hs, w64s (by omega)]
    have hlt : (l.take i).length = i := by simp; omega
    rw [hlt]
    by_cases h0 : 0 < i
    · rw [ct (show (0 : Int) < (i : Int) by omega), ct h0, rq1 (by show (Lib.join (l.take i) [32]).length + 1 ≤ 9223372036854775807; omega)]
      simp only [Option.bind_some]
      rw [rq1 (by simp; omega)]
    · obtain rfl : i = 0 := by omega
      rw [cf (by decide), cf (by decide)]
      simp only [Option.bind_some, List.take_zero, Lib.join_nil, List.nil_append]
      rw [rq1 (by simp; omega)]
  · have hbl := hb l.length (Nat.le_refl _)
    rw [List.take_length] at hbl ⊢
    dsimp only
    rw [cf (by omega), rq1 (by omega)]
theorem echoR_eq (F : Nat) (l : List (List UInt8)) (h : ∀ a ∈ l, a.length ≤ 100) (hl : l.length ≤ 1000) (hF : 1001 < F) : ref30_Echo F l = some (echoS l) := by
  unfold ref30_Echo echoS
  have hc : (cond (decide (0 < (l.length : Int))) (rq (decide (0 < (l.length : Int))) (some ((l.getD 0 []) == ([45, 110] : List UInt8)))) (some false) : Option Bool) = some (decide (0 < l.length) && (l.getD 0 [] == [45, 110])) := by
    by_cases h0 : 0 < l.length
    · rw [dT (show (0 : Int) < (l.length : Int) by omega), dT h0]; rfl
    · rw [dF (show ¬ (0 : Int) < (l.length : Int) by omega), dF h0]; rfl
  rw [hc]
  simp only [Option.bind_some]
  cases hb : (decide (0 < l.length) && (l.getD 0 [] == [45, 110])) with
  | true =>
    rw [Bool.and_eq_true, decide_eq_true_eq] at hb
    simp only [cond_true]
    rw [rq2 (by omega) (Int.le_refl _), sl_1]
    simp only [Option.bind_some]
    have := echoR_loop F (l.drop 1) [] (fun a ha => h a (List.mem_of_mem_drop ha)) (by simp; omega) (by simp) hF
    rw [List.append_nil] at this
    exact this
  | false =>
    simp only [cond_false, Option.bind_some]
    exact echoR_loop F l [10] h hl (by simp) hF
theorem formatEchos (a0 : List (List UInt8)) (h : a0.length ≤ 9223372036854775807) : ∃ F, law30_FormatEchos F a0 = some true := by
  refine ⟨a0.length + 20000, ?_⟩
  unfold law30_FormatEchos
  obtain ⟨r, hr, hs⟩ := short_eq (a0.length + 20000) a0 12 100 h (by omega) (by omega)
  have hs' : ref03_Short (a0.length + 20000) a0 12 100 = some r := hs
  rw [hs', awake60]
  simp only [Option.bind_some]
  cases r with
  | false => rfl
  | true =>
    obtain ⟨h1, h2⟩ := hr rfl
    rw [echo_eq _ a0 h2 (by omega), echoR_eq _ a0 h2 (by omega) (by omega)]
    simp only [Bool.not_true, cond_false, Option.bind_some, beq_self_eq_true, cond_true]

end Go.Proofs.YtmcnemjnkiofdaaGreatDoor
