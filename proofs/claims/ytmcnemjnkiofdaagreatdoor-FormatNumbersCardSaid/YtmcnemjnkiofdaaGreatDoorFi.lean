/-
  Format: the reference's conversions, passes and Printf follow the program's; the plain law of FormatPrintfs.
-/
import Derived.Test.YtmcnemjnkiofdaaGreatDoorFh
import Derived.Test.YtmcnemjnkiofdaaGreatDoorFf
namespace Go.Proofs.YtmcnemjnkiofdaaGreatDoor
open Go.RT
set_option linter.all false
set_option maxRecDepth 100000

/-! ### Filling -/
def fillS (x : Sp) (t : List UInt8) : List UInt8 := cond (decide (x.w ≤ t.length)) t (cond x.m (t ++ List.replicate (x.w - t.length) 32) (List.replicate (x.w - t.length) 32 ++ t))
theorem fill_eq (F : Nat) (x : Sp) (t : List UInt8) (hw : x.w ≤ 4096) (ht : t.length ≤ 100000) (hF : 5000 < F) : ref30_fill F x.c t = some (fillS x t) := by
  unfold ref30_fill fillS
  have h1 : (x.c).fwidth = (x.w : Int) := rfl
  have h2 : (x.c).fminus = x.m := rfl
  rw [h1, h2]
  by_cases h : x.w ≤ t.length
  · rw [ct (show (x.w : Int) ≤ (t.length : Int) by omega), ct h]
  · rw [cf (show ¬ (x.w : Int) ≤ (t.length : Int) by omega), cf h]
    have e : w64 ((x.w : Int) - (t.length : Int)) = ((x.w - t.length : Nat) : Int) := by rw [w64_in (by omega)]; omega
    rw [e, times_eq F 32 _ (by omega) (by omega)]
    simp only [Option.bind_some]
    rw [rq1 (by simp; omega), rq1 (by simp; omega)]
    cases x.m <;> rfl
theorem pad_fill (x : Sp) (t : List UInt8) (h : intLet x.l = false) : padS x [] t = fillS x t := by
  unfold padS fillS
  rw [h]
  simp only [List.length_nil, Nat.zero_add, List.nil_append, Bool.and_false, cond_false, List.append_nil]
theorem pad_num (x : Sp) (sg d : List UInt8) (h : intLet x.l = true) :
    padS x sg d = fillS x (sg ++ cond (x.z && (!x.m && (decide (x.pr < 0) && decide (sg.length + d.length < x.w)))) (List.replicate (x.w - (sg.length + d.length)) 48 ++ d) d) := by
  unfold padS fillS
  rw [h]
  by_cases hw : x.w ≤ sg.length + d.length
  · rw [ct hw, dF (show ¬ sg.length + d.length < x.w by omega)]
    simp only [Bool.and_false, cond_false]
    rw [ct (by simp; exact hw)]
  · rw [cf hw, dT (show sg.length + d.length < x.w by omega)]
    simp only [Bool.and_true]
    have hl : (sg ++ d).length = sg.length + d.length := by simp
    cases x.m with
    | true =>
      simp only [Bool.not_true, Bool.false_and, Bool.and_false, cond_false, cond_true, hl]
      rw [cf hw]
    | false =>
      simp only [Bool.not_false, Bool.true_and, cond_false]
      cases (x.z && decide (x.pr < 0)) with
      | false =>
        simp only [cond_false, hl]
        rw [cf hw]
        simp
      | true =>
        simp only [cond_true]
        rw [ct (by simp; omega)]
        simp

/-! ### Unescaping -/
theorem unescapeR_eq (F : Nat) (s : List UInt8) (hF : s.length + 20 < F) (hl : s.length ≤ 100000) : ref30_unescape F s = some (un s) := by
  unfold ref30_unescape
  refine loopF_hoare (z := some (un s)) (fun st => ∃ (o : List UInt8) (i : Nat), st = (o, (i : Int)) ∧ i ≤ s.length ∧ o.length ≤ i ∧ un s = (o ++ (unN (s.length - i) (s.drop i)).1, (unN (s.length - i) (s.drop i)).2)) (fun st => s.length - st.2.toNat) ?_ F _ ⟨[], 0, rfl, Nat.zero_le _, Nat.le_refl _, by simp [un]⟩ (by simp; omega)
  rintro st ⟨o, i, rfl, hi, ho, hz⟩
  by_cases hlt : i < s.length
  · have e1 : s.length - i = (s.length - (i + 1)) + 1 := by omega
    have ed := List.drop_eq_getElem_cons hlt
    rw [e1, ed] at hz
    have e92 := u8litn s[i] 92 (by decide)
    have hw1 : w64 ((i : Int) + 1) = ((i + 1 : Nat) : Int) := w64s (by omega)
    have hw2 : w64 ((i : Int) + 2) = ((i + 2 : Nat) : Int) := by rw [w64_in (by omega)]; omega
    have e99 : ∀ k : Nat, (((s.getD k 0).toNat : Int) == 99) = (s.getD k 0 == 99) := fun k => u8lit (s.getD k 0) 99 (by decide)
    have e48 : ∀ k : Nat, (((s.getD k 0).toNat : Int) == 48) = (s.getD k 0 == 48) := fun k => u8lit (s.getD k 0) 48 (by decide)
    simp only [dT (show (i : Int) < (s.length : Int) by omega), dnn, Bool.and_self, cond_true, rq_tt, Int.toNat_natCast, gd hlt, e92, hw1, hw2, e99, e48]
    unfold unN at hz
    have hc1 : (cond (!(s[i] == 92)) (some true) (some (decide ((s.length : Int) ≤ ((i + 1 : Nat) : Int)))) : Option Bool) = some (!(s[i] == 92) || decide (s.length ≤ i + 1)) := by
      have : decide ((s.length : Int) ≤ ((i + 1 : Nat) : Int)) = decide (s.length ≤ i + 1) := by rw [Bool.eq_iff_iff, decide_eq_true_eq, decide_eq_true_eq]; omega
      rw [this]
      cases (s[i] == 92) <;> rfl
    simp only [hc1, Option.bind_some]
    have plain1 : un s = (o ++ (s[i] :: (unN (s.length - (i + 1)) (s.drop (i + 1))).1), (unN (s.length - (i + 1)) (s.drop (i + 1))).2) →
        un s = ((o ++ [s[i]]) ++ (unN (s.length - (i + 1)) (s.drop (i + 1))).1, (unN (s.length - (i + 1)) (s.drop (i + 1))).2) := by
      intro h; rw [h]; simp
    cases a1 : (!(s[i] == 92) || decide (s.length ≤ i + 1)) with
    | true =>
      have hz1 : un s = (o ++ (s[i] :: (unN (s.length - (i + 1)) (s.drop (i + 1))).1), (unN (s.length - (i + 1)) (s.drop (i + 1))).2) := by
        cases a2 : (!(s[i] == 92)) with
        | true => rw [a2] at hz; exact hz
        | false =>
          rw [a2, Bool.false_or, decide_eq_true_eq] at a1
          rw [a2] at hz
          have hnil : s.drop (i + 1) = [] := List.drop_eq_nil_of_le a1
          rw [hnil] at hz ⊢
          have he0 : (escS [s[i]] 2).2 = 0 := rfl
          simp only [cond_false, List.length_nil, Nat.lt_irrefl, decide_false, Bool.false_and, he0, beq_self_eq_true, cond_true] at hz
          exact hz
      refine .inl ⟨(o ++ [s[i]], ((i + 1 : Nat) : Int)), ⟨_, _, rfl, by omega, by simp; omega, plain1 hz1⟩, by simp; omega, fun rc => ?_⟩
      simp only [cond_true, dT (show (i : Int) ≤ ((i + 1 : Nat) : Int) by omega), dT (show ((i + 1 : Nat) : Int) ≤ (s.length : Int) by omega), Bool.and_self, rq_tt, sl_at hlt]
      rw [rq1 (by simp; omega)]
    | false =>
      rw [Bool.or_eq_false_iff, decide_eq_false_iff_not] at a1
      obtain ⟨a2, a3⟩ := a1
      have hs92 : s[i] = 92 := by simpa using a2
      have hlt2 : i + 1 < s.length := by omega
      rw [a2] at hz
      simp only [cond_false, dT (show ((i + 1 : Nat) : Int) < (s.length : Int) by omega), rq_tt] at hz ⊢
      rw [simple_eq F _ (by omega)]
      simp only [Option.bind_some]
      have hdl : 0 < (s.drop (i + 1)).length := by rw [List.length_drop]; omega
      have hd0 : (s.drop (i + 1)).getD 0 0 = s.getD (i + 1) 0 := by rw [getD_drop]
      rw [dT hdl, Bool.true_and, hd0] at hz
      have hcons : s[i] :: s.drop (i + 1) = s.drop i := ed.symm
      rw [hcons] at hz
      have hl2 : ¬ (s.drop i).length < 2 := by simp; omega
      have hd1 : (s.drop i).getD 1 0 = s.getD (i + 1) 0 := getD_drop s i 1
      -- the escape sequence at i
      have hesc : escS (s.drop i) 2 = cond (!(esc1 (s.getD (i + 1) 0) == [])) (esc1 (s.getD (i + 1) 0), 2) (cond (s.getD (i + 1) 0 == 48) ([UInt8.ofNat (octS s (i + 2)).1], 2 + (octS s (i + 2)).2) ([], 0)) := by
        unfold escS
        rw [dF hl2, hd1, octS_drop]
        simp only [cond_false]
        have e22 : ((2 : Nat) == 2) = true := rfl
        rw [e22, Bool.true_and]
        cases (!(esc1 (s.getD (i + 1) 0) == [])) with
        | true => rfl
        | false =>
          cases h48 : (s.getD (i + 1) 0 == 48) with
          | false => simp only [Bool.not_false, Bool.or_true, cond_true, cond_false]
          | true =>
            have : oct (s.getD (i + 1) 0) = true := by rw [beq_iff_eq.1 h48]; rfl
            rw [this]
            rfl
      cases b1 : (!(esc1 (s.getD (i + 1) 0) == [])) with
      | true =>
        have h99 : (s.getD (i + 1) 0 == 99) = false := by
          rw [beq_eq_false_iff_ne]; intro h; rw [h] at b1; revert b1; decide
        rw [h99, hesc, b1] at hz
        have e20 : ((2 : Nat) == 0) = false := rfl
        simp only [cond_false, cond_true, e20] at hz ⊢
        have hle := esc1_len (s.getD (i + 1) 0)
        refine .inl ⟨(o ++ esc1 (s.getD (i + 1) 0), ((i + 2 : Nat) : Int)), ⟨_, _, rfl, by omega, by rw [List.length_append]; omega, ?_⟩, by show s.length - (((i + 2 : Nat) : Int)).toNat < s.length - ((i : Int)).toNat; omega, fun rc => ?_⟩
        · rw [hz, List.drop_drop, unN_irrel (s.length - (i + 1)) (s.length - (i + 2)) _ (by simp <;> omega) (by simp <;> omega)]
          simp
        · simp only [rq1 (show o.length + (esc1 (s.getD (i + 1) 0)).length ≤ 9223372036854775807 by omega), Bool.and_self, rq_tt]
      | false =>
        simp only [cond_false]
        cases b2 : (s.getD (i + 1) 0 == 99) with
        | true =>
          rw [b2] at hz
          refine .inr fun rc => ?_
          simp only [cond_true, Bool.and_self, rq_tt] at hz ⊢
          rw [hz]
          simp
        | false =>
          rw [b2, hesc, b1] at hz
          simp only [cond_false] at hz ⊢
          cases b3 : (s.getD (i + 1) 0 == 48) with
          | true =>
            rw [b3] at hz
            have e20 : ((2 + (octS s (i + 2)).2 : Nat) == 0) = false := by rw [beq_eq_false_iff_ne]; omega
            simp only [cond_true, e20, cond_false] at hz ⊢
            have hoc := octal_eq F s (i + 2) (by omega) (by omega) (by omega)
            have hle := scan_le oct (fun n b => n * 8 + (b.toNat - 48)) ((s.take (i + 2 + 3)).drop (i + 2)) 0
            have hll : ((s.take (i + 2 + 3)).drop (i + 2)).length ≤ s.length - (i + 2) := by simp; omega
            have hle2 : (octS s (i + 2)).2 ≤ s.length - (i + 2) := Nat.le_trans hle hll
            rw [hoc]
            simp only [Option.bind_some]
            refine .inl ⟨(o ++ [UInt8.ofNat (octS s (i + 2)).1], ((i + 2 + (octS s (i + 2)).2 : Nat) : Int)), ⟨_, _, rfl, by omega, by simp; omega, ?_⟩, by simp; omega, fun rc => ?_⟩
            · rw [hz, List.drop_drop, ← Nat.add_assoc, unN_irrel (s.length - (i + 1)) (s.length - (i + 2 + (octS s (i + 2)).2)) _ (by simp <;> omega) (by simp <;> omega)]
              simp
            · rw [rq1 (by simp; omega)]
              simp only [Bool.and_self, rq_tt]
          | false =>
            rw [b3] at hz
            have e00 : ((0 : Nat) == 0) = true := rfl
            simp only [cond_false, e00, cond_true] at hz ⊢
            refine .inl ⟨(o ++ [92], ((i + 1 : Nat) : Int)), ⟨_, _, rfl, by omega, by simp; omega, ?_⟩, by simp; omega, fun rc => ?_⟩
            · have := plain1 hz
              rw [hs92] at this
              exact this
            · rw [rq1 (by simp; omega)]
              simp only [Bool.and_self, rq_tt]
  · obtain rfl : i = s.length := by omega
    refine .inr fun rc => ?_
    simp only [dF (show ¬ (s.length : Int) < (s.length : Int) by omega), cond_false]
    rw [hz, Nat.sub_self]
    simp [unN]

/-! ### States -/
/-- The reference's state: its operands and how many are used. -/
structure Rf (args : List (List UInt8)) (u0 u : Nat) (p : St) : Prop where
  ops : p.ops = args.drop u
  le : u ≤ args.length
  lo : u0 ≤ u
  used : p.used = decide (u0 < u)
abbrev RT5 := (List UInt8) × (List UInt8) × Bool × (List (List UInt8)) × Int
def St.r (p : St) (args : List (List UInt8)) (u : Nat) : RT5 := (p.o, p.msg, p.ended, args, (u : Int))
theorem failR_eq (F : Nat) (m : List UInt8) (p : St) (args : List (List UInt8)) (u : Nat) : ref30_printer_fail F m (p.r args u).1 (p.r args u).2.1 (p.r args u).2.2.1 (p.r args u).2.2.2.1 (p.r args u).2.2.2.2 = some ((failS m p).r args u) := by
  unfold ref30_printer_fail failS St.r
  dsimp only
  cases (p.msg == []) <;> rfl
theorem putR_eq (F : Nat) (s : List UInt8) (p : St) (args : List (List UInt8)) (u : Nat) (ho : p.o.length ≤ 65536) (hs : s.length ≤ 100000) (he : p.ended = false) :
    ref30_printer_put F s (p.r args u).1 (p.r args u).2.1 (p.r args u).2.2.1 (p.r args u).2.2.2.1 (p.r args u).2.2.2.2 = some ((putS s p).r args u) := by
  have hfail := failR_eq F mLong p args u
  unfold ref30_printer_put putS
  unfold St.r at hfail ⊢
  dsimp only at hfail ⊢
  rw [he] at hfail ⊢
  simp only [cond_false]
  rw [w64_in (by omega)]
  by_cases h : 65536 - p.o.length < s.length
  · rw [ct (show (65536 : Int) < (p.o.length : Int) + (s.length : Int) by omega), ct h, hfail]
    rfl
  · rw [cf (show ¬ (65536 : Int) < (p.o.length : Int) + (s.length : Int) by omega), cf h, rq1 (by omega)]
def nu (args : List (List UInt8)) (u : Nat) : Nat := cond (decide (u < args.length)) (u + 1) u
theorem nextR_eq (F : Nat) (p : St) (args : List (List UInt8)) (u0 u : Nat) (h : Rf args u0 u p) (hl : args.length ≤ 100000) :
    ref30_printer_operand F (p.r args u).1 (p.r args u).2.1 (p.r args u).2.2.1 (p.r args u).2.2.2.1 (p.r args u).2.2.2.2 = some ((nextS p).1, (nextS p).2.r args (nu args u)) ∧ Rf args u0 (nu args u) (nextS p).2 := by
  have hle := h.le
  have hlo := h.lo
  unfold ref30_printer_operand nextS nu St.r
  dsimp only
  by_cases hc : u < args.length
  · have hops : p.ops = args[u] :: args.drop (u + 1) := by rw [h.ops]; exact List.drop_eq_getElem_cons hc
    rw [hops, ct hc, cf (show ¬ (args.length : Int) ≤ (u : Int) by omega)]
    have e : w64 ((w64 ((u : Int) + 1)) - 1) = (u : Int) := by rw [w64_in (x := (u : Int) + 1) (by omega), w64_in (by omega)]; omega
    rw [e, rq2 (by omega) (by omega), w64s (by omega), Int.toNat_natCast, gd hc]
    exact ⟨rfl, ⟨rfl, by omega, by omega, by rw [dT (by omega)]⟩⟩
  · have hops : p.ops = [] := by rw [h.ops]; exact List.drop_eq_nil_of_le (by omega)
    rw [hops, cf hc, ct (show (args.length : Int) ≤ (u : Int) by omega)]
    exact ⟨rfl, h⟩
theorem Rf.same {args : List (List UInt8)} {u0 u : Nat} {p q : St} (h : Rf args u0 u p) (h1 : q.ops = p.ops) (h2 : q.used = p.used) : Rf args u0 u q := ⟨h1.trans h.ops, h.le, h.lo, h2.trans h.used⟩
theorem putS_ops (s : List UInt8) (p : St) : (putS s p).ops = p.ops ∧ (putS s p).used = p.used := by
  unfold putS
  cases (decide (65536 - p.o.length < s.length)) <;> exact ⟨rfl, rfl⟩
theorem numP_ops (a : List UInt8) (p : St) : (numP a p).ops = p.ops ∧ (numP a p).used = p.used ∧ (numP a p).ended = p.ended := by
  unfold numP
  cases (valS a).2 <;> exact ⟨rfl, rfl, rfl⟩
theorem nextS_ended (p : St) : (nextS p).2.ended = p.ended := by unfold nextS; cases p.ops <;> rfl
theorem numberR_eq (F : Nat) (s : List UInt8) (p : St) (args : List (List UInt8)) (u : Nat) (hs : s.length ≤ 100000) (hF : s.length + 60 < F) :
    ref30_printer_number F s (p.r args u).1 (p.r args u).2.1 (p.r args u).2.2.1 (p.r args u).2.2.2.1 (p.r args u).2.2.2.2 = some ((valS s).1, (numP s p).r args u) := by
  have hfail := failR_eq F (s ++ mNum) p args u
  unfold ref30_printer_number numP valS
  unfold St.r at hfail ⊢
  dsimp only at hfail ⊢
  have l39 := u8lit (s.getD 0 0) 39 (by decide)
  have l34 := u8lit (s.getD 0 0) 34 (by decide)
  rw [l39, l34]
  have hc : (cond (!(s == [])) (rq (decide (0 < (s.length : Int))) (cond (s.getD 0 0 == 39) (some true) (rq (decide (0 < (s.length : Int))) (some (s.getD 0 0 == 34))))) (some false) : Option Bool) = some (!(s == []) && (s.getD 0 0 == 39 || s.getD 0 0 == 34)) := by
    cases s with
    | nil => rfl
    | cons b t =>
      rw [rq1 (by simp <;> omega), rq1 (by simp <;> omega)]
      cases ((b :: t).getD 0 0 == 39) <;> rfl
  rw [hc]
  simp only [Option.bind_some]
  cases hq : (!(s == []) && (s.getD 0 0 == 39 || s.getD 0 0 == 34)) with
  | true =>
    simp only [cond_true]
    have hne : s ≠ [] := by rintro rfl; cases hq
    have hlen : 1 ≤ s.length := by cases s with | nil => exact (hne rfl).elim | cons _ _ => simp
    by_cases h1 : s.length = 1
    · rw [ct (show (s.length : Int) < 2 by omega), show (s.length == 1) = true by rw [beq_iff_eq]; exact h1]
      rfl
    · rw [cf (show ¬ (s.length : Int) < 2 by omega), show (s.length == 1) = false by rw [beq_eq_false_iff_ne]; exact h1, rq1 (by omega), w64_in (by have := (s.getD 1 0).toNat_lt; omega)]
      rfl
  | false =>
    simp only [cond_false]
    rw [value6_eq F s (by omega) (by omega)]
    simp only [Option.bind_some]
    cases h2 : (intS s).2 with
    | true => rfl
    | false =>
      simp only [Bool.not_false, cond_true, Option.bind_some, cond_false]
      rw [rq1 (by show s.length + 14 ≤ 9223372036854775807; omega), hfail]
      rfl
theorem fmt_dec {n : Int} (h : R64 n) (h0 : 0 ≤ n) : Lib.itoa n = fmtN 10 (u64 n) := by
  unfold R64 at h
  obtain ⟨u, rfl⟩ : ∃ u : Nat, n = u := ⟨n.toNat, by omega⟩
  have : u64 (u : Int) = u := by unfold u64; rw [IntWalk.u64_in _ (by omega)]; simp
  rw [this, Lib.itoa_nonneg, fmt10 (by omega)]
theorem numericR_eq (F : Nat) (x : Sp) (n : Int) (hn : R64 n) (h1 : x.pr ≤ 4096) (h0 : -1 ≤ x.pr) (hlet : x.l = 100 ∨ x.l = 105 ∨ x.l = 117 ∨ x.l = 120 ∨ x.l = 111) (hF : 5000 < F) : ref30_numeric F x.c n = some (digS x n) := by
  obtain ⟨u, hu, e1, e2, e3, e4⟩ := digits_nat n hn
  have hu64 : u64 n = u := by unfold u64; rw [e1]; simp
  unfold ref30_numeric digS
  have hl : (x.c).fletter = (x.l.toNat : Int) := rfl
  have hpr : (x.c).fprecision = x.pr := rfl
  have hp : (x.c).fplus = x.p := rfl
  rw [hl, hpr, hp, hu64]
  -- the precision
  have fin : ∀ (sg s : List UInt8), s.length ≤ 65 →
      (((cond (x.pr == 0) (some (n == 0)) (some false) : Option Bool).bind fun x8 => cond x8 (some []) (some s) : Option (List UInt8)).bind fun x7 =>
 (cond (decide ((x7.length : Int) < x.pr))
 ((ref30_times F ([48] : List UInt8) (w64 (x.pr - (x7.length : Int)))).bind fun x10 =>
 rq (decide (x10.length + x7.length ≤ 9223372036854775807)) (some (x10 ++ x7)))
 (some x7) : Option (List UInt8)).bind fun x9 => some (sg, x9)) = some (sg, precS x.pr (n == 0) s) := by
    intro sg s hs
    have e : (((cond (x.pr == 0) (some (n == 0)) (some false) : Option Bool).bind fun x5 => cond x5 (some ([] : List UInt8)) (some s)) : Option (List UInt8)) = some (cond (x.pr == 0 && (n == 0)) [] s) := by
      cases (x.pr == 0) <;> cases (n == 0) <;> rfl
    rw [e]
    simp only [Option.bind_some]
    unfold precS
    have hl : ((cond (x.pr == 0 && (n == 0)) [] s : List UInt8)).length ≤ 65 := by cases (x.pr == 0 && (n == 0)) <;> simp; omega
    generalize (cond (x.pr == 0 && (n == 0)) [] s : List UInt8) = t at hl
    by_cases h : (t.length : Int) < x.pr
    · have e2 : w64 (x.pr - (t.length : Int)) = ((x.pr.toNat - t.length : Nat) : Int) := by rw [w64_in (by omega)]; omega
      rw [ct h, ct h, e2, times_eq F 48 _ (by omega) (by omega)]
      simp only [Option.bind_some]
      rw [rq1 (by simp; omega)]
      rfl
    · rw [cf h, cf h]; rfl
  have l117 := u8lit x.l 117 (by decide)
  have l120 := u8lit x.l 120 (by decide)
  have l111 := u8lit x.l 111 (by decide)
  rw [l117, l120, l111, e1]
  have b10 := based_eq F 10 u hu (by decide) (by omega)
  have b16 := based_eq F 16 u hu (by decide) (by omega)
  have b8 := based_eq F 8 u hu (by decide) (by omega)
  have b10' : ref30_based F (u : Int) 10 = some (fmtN 10 u) := b10
  have b16' : ref30_based F (u : Int) 16 = some (fmtN 16 u) := b16
  have b8' : ref30_based F (u : Int) 8 = some (fmtN 8 u) := b8
  have dec : ∀ (c1 c2 c3 : Bool), c1 = false → c2 = false → c3 = false → True := fun _ _ _ _ _ _ => trivial
  have hdec : (cond (decide (n < 0))
 ((ref05_Decimal F n).bind fun x5 =>
 rq ((decide (1 ≤ (x5.length : Int))) && (decide ((x5.length : Int) ≤ (x5.length : Int)))) (some (([45] : List UInt8), sl x5 1 (x5.length : Int))))
 ((ref05_Decimal F n).bind fun x6 =>
 cond x.p
 (some (([43] : List UInt8), x6))
 (some ([], x6))) : Option ((List UInt8) × (List UInt8))) = some (cond (decide (n < 0)) ([45], fmtN 10 n.natAbs) (cond x.p [43] [], fmtN 10 u)) := by
    rw [dec_eq F (by omega) hn]
    by_cases hneg : n < 0
    · rw [ct hneg, ct hneg]
      unfold R64 at hn
      obtain ⟨v, hv⟩ : ∃ v : Nat, n = -(v : Int) := ⟨n.natAbs, by omega⟩
      have hv1 : 1 ≤ v := by omega
      have hna : n.natAbs = v := by omega
      rw [hna, hv, Lib.itoa_neg v hv1, fmt10 (by omega)]
      simp only [Option.bind_some]
      rw [rq2 (by simp; omega) (Int.le_refl _), sl_1]
      rfl
    · rw [cf hneg, cf hneg, fmt_dec hn (by omega), hu64]
      simp only [Option.bind_some]
      cases x.p <;> rfl
  rw [hdec, b10', b16', b8']
  have hlen := fun b v => (fmtN_len b v).2
  rcases hlet with h | h | h | h | h <;> rw [h]
  · show (some (cond (decide (n < 0)) (([45] : List UInt8), fmtN 10 n.natAbs) (cond x.p [43] [], fmtN 10 u))).bind _ = some (cond (decide (n < 0)) ([45], precS x.pr (n == 0) (fmtN 10 n.natAbs)) (cond x.p [43] [], precS x.pr (n == 0) (fmtN 10 u)))
    cases decide (n < 0) with
    | true => exact fin _ _ (hlen _ _)
    | false => exact fin _ _ (hlen _ _)
  · show (some (cond (decide (n < 0)) (([45] : List UInt8), fmtN 10 n.natAbs) (cond x.p [43] [], fmtN 10 u))).bind _ = some (cond (decide (n < 0)) ([45], precS x.pr (n == 0) (fmtN 10 n.natAbs)) (cond x.p [43] [], precS x.pr (n == 0) (fmtN 10 u)))
    cases decide (n < 0) with
    | true => exact fin _ _ (hlen _ _)
    | false => exact fin _ _ (hlen _ _)
  · exact fin _ _ (hlen _ _)
  · exact fin _ _ (hlen _ _)
  · exact fin _ _ (hlen _ _)
theorem let_num (b : UInt8) : letOk b = true → b ≠ 37 → b ≠ 99 → b ≠ 115 → b ≠ 98 → (b = 100 ∨ b = 105 ∨ b = 117 ∨ b = 120 ∨ b = 111) ∧ intLet b = true :=
  byte_all (P := fun b => letOk b = true → b ≠ 37 → b ≠ 99 → b ≠ 115 → b ≠ 98 → (b = 100 ∨ b = 105 ∨ b = 117 ∨ b = 120 ∨ b = 111) ∧ intLet b = true) (by decide +kernel) b

end Go.Proofs.YtmcnemjnkiofdaaGreatDoor
