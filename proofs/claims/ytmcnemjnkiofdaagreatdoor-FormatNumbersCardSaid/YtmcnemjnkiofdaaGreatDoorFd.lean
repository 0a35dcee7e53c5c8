/-
  Format: conversions and passes of the program, as plain functions.
-/
import Derived.Test.YtmcnemjnkiofdaaGreatDoorFc
namespace Go.Proofs.YtmcnemjnkiofdaaGreatDoor
open Go.RT
set_option linter.all false
set_option maxRecDepth 100000

/-- The state of the output. -/
structure St where
  o : List UInt8
  ops : List (List UInt8)
  used : Bool
  ended : Bool
  msg : List UInt8
abbrev StT := (List Int) × (List (List UInt8)) × Bool × Bool × (List UInt8)
def St.t (p : St) : StT := (toInts p.o, p.ops, p.used, p.ended, p.msg)
abbrev mLong : List UInt8 := [111, 117, 116, 112, 117, 116, 32, 116, 111, 111, 32, 108, 111, 110, 103]
abbrev mInv : List UInt8 := [105, 110, 118, 97, 108, 105, 100, 32, 99, 111, 110, 118, 101, 114, 115, 105, 111, 110]
abbrev mNum : List UInt8 := [58, 32, 110, 111, 116, 32, 97, 32, 110, 117, 109, 98, 101, 114]
def failS (m : List UInt8) (p : St) : St := { p with msg := cond (p.msg == []) m p.msg }
def plainS (s : List UInt8) (p : St) : St :=
  cond (decide (65536 - p.o.length < s.length)) { failS mLong p with o := p.o ++ s.take (65536 - p.o.length), ended := true } { p with o := p.o ++ s }
def putS (s : List UInt8) (p : St) : St :=
  cond (decide (65536 - p.o.length < s.length)) { failS mLong p with ended := true } { p with o := p.o ++ s }
def nextS (p : St) : List UInt8 × St := match p.ops with
  | [] => ([], p)
  | a :: r => (a, { p with ops := r, used := true })

theorem fail_eq (F : Nat) (m : List UInt8) (p : St) : format_printer_fail F m p.t.1 p.t.2.1 p.t.2.2.1 p.t.2.2.2.1 p.t.2.2.2.2 = some (failS m p).t := by
  unfold format_printer_fail failS St.t
  dsimp only
  cases (p.msg == []) <;> rfl
theorem plain_eq (F : Nat) (s : List UInt8) (p : St) (ho : p.o.length ≤ 65536) (hs : s.length ≤ 100000) : format_printer_plain F s p.t.1 p.t.2.1 p.t.2.2.1 p.t.2.2.2.1 p.t.2.2.2.2 = some (plainS s p).t := by
  have hfail := fail_eq F mLong { p with o := p.o ++ s.take (65536 - p.o.length) }
  unfold format_printer_plain plainS
  unfold St.t at hfail ⊢
  dsimp only at hfail ⊢
  have e : w64 (65536 - ((toInts p.o).length : Int)) = ((65536 - p.o.length : Nat) : Int) := by rw [ti_len, w64_in (by omega)]; omega
  rw [e]
  by_cases h : 65536 - p.o.length < s.length
  · rw [ct (show ((65536 - p.o.length : Nat) : Int) < (s.length : Int) by omega), ct h, rq2 (by omega) (show ((65536 - p.o.length : Nat) : Int) ≤ (s.length : Int) by omega), sl_0, ti_len (s.take _), capI p.o _ (by simp; omega), ← ti_app]
    simp only [rq_tt]
    rw [hfail]
    rfl
  · rw [cf (show ¬ ((65536 - p.o.length : Nat) : Int) < (s.length : Int) by omega), cf h, ti_len s, capI p.o _ (by omega), ← ti_app]
    rfl
theorem put_eq (F : Nat) (s : List UInt8) (p : St) (ho : p.o.length ≤ 65536) (hs : s.length ≤ 100000) : format_printer_put F s p.t.1 p.t.2.1 p.t.2.2.1 p.t.2.2.2.1 p.t.2.2.2.2 = some (putS s p).t := by
  have hfail := fail_eq F mLong p
  unfold format_printer_put putS
  unfold St.t at hfail ⊢
  dsimp only at hfail ⊢
  have e : w64 (65536 - ((toInts p.o).length : Int)) = ((65536 - p.o.length : Nat) : Int) := by rw [ti_len, w64_in (by omega)]; omega
  rw [e]
  by_cases h : 65536 - p.o.length < s.length
  · rw [ct (show ((65536 - p.o.length : Nat) : Int) < (s.length : Int) by omega), ct h, hfail]
    rfl
  · rw [cf (show ¬ ((65536 - p.o.length : Nat) : Int) < (s.length : Int) by omega), cf h, ti_len s, capI p.o _ (by omega), ← ti_app]
    rfl
theorem next_eq (F : Nat) (p : St) : format_printer_next F p.t.1 p.t.2.1 p.t.2.2.1 p.t.2.2.2.1 p.t.2.2.2.2 = some ((nextS p).1, (nextS p).2.t) := by
  unfold format_printer_next nextS St.t
  dsimp only
  cases h : p.ops with
  | nil => simp [h]
  | cons a r =>
    have e : (((a :: r).length : Int) == 0) = false := by rw [beq_eq_false_iff_ne]; simp; omega
    rw [e]
    simp only [cond_false]
    rw [rq1 (by simp <;> omega), rq2 (by simp <;> omega) (Int.le_refl _), sl_1]
    rfl

/-! ### Conversions -/
def precS (pr : Int) (z : Bool) (s : List UInt8) : List UInt8 :=
  cond (decide (((cond (pr == 0 && z) [] s : List UInt8).length : Int) < pr)) (List.replicate (pr.toNat - (cond (pr == 0 && z) [] s : List UInt8).length) 48 ++ (cond (pr == 0 && z) [] s)) (cond (pr == 0 && z) [] s)
def u64 (n : Int) : Nat := (IntKind.wrap .u64 n).toNat
/-- The sign and the digits of a number. -/
def digS (x : Sp) (n : Int) : List UInt8 × List UInt8 :=
  cond (x.l == 120) ([], precS x.pr (n == 0) (fmtN 16 (u64 n))) (cond (x.l == 111) ([], precS x.pr (n == 0) (fmtN 8 (u64 n)))
    (cond (x.l == 100 || x.l == 105) (cond (decide (n < 0)) ([45], precS x.pr (n == 0) (fmtN 10 n.natAbs)) (cond x.p [43] [], precS x.pr (n == 0) (fmtN 10 (u64 n)))) ([], precS x.pr (n == 0) (fmtN 10 (u64 n)))))
theorem precS_len (pr : Int) (z : Bool) (s : List UInt8) (h1 : pr ≤ 4096) (h2 : s.length ≤ 65) : (precS pr z s).length ≤ 4096 := by
  unfold precS
  cases (pr == 0 && z) <;> simp only [cond_true, cond_false]
  · by_cases h : (s.length : Int) < pr
    · rw [ct h]; simp; omega
    · rw [cf h]; omega
  · by_cases h : ((([] : List UInt8)).length : Int) < pr
    · rw [ct h]; simp; omega
    · rw [cf h]; simp
theorem digS_len (x : Sp) (n : Int) (h : x.pr ≤ 4096) : (digS x n).1.length ≤ 1 ∧ (digS x n).2.length ≤ 4096 := by
  have hl : ∀ b u z, (precS x.pr z (fmtN b u)).length ≤ 4096 := fun b u z => precS_len _ _ _ h (fmtN_len b u).2
  unfold digS
  cases (x.l == 120) with
  | true => exact ⟨by simp, hl _ _ _⟩
  | false =>
    cases (x.l == 111) with
    | true => exact ⟨by simp, hl _ _ _⟩
    | false =>
      cases (x.l == 100 || x.l == 105) with
      | false => exact ⟨by simp, hl _ _ _⟩
      | true =>
        cases decide (n < 0) with
        | true => exact ⟨by simp, hl _ _ _⟩
        | false => exact ⟨by cases x.p <;> simp, hl _ _ _⟩
theorem prec_eq (F : Nat) (pr : Int) (zb : Bool) (s : List UInt8) (h1 : pr ≤ 4096) (h0 : -1 ≤ pr) (h2 : s.length ≤ 65) {R : Type} (k : List UInt8 → Option R) (zI : Bool) (hz : zI = zb) :
    ((cond (pr == 0) (some zI) (some false) : Option Bool).bind fun x5 => cond x5 (some ([] : List UInt8)) (some s) : Option (List UInt8)).bind (fun x4 =>
 (cond (decide ((x4.length : Int) < pr))
 ((repF F ([48] : List UInt8) (w64 (pr - (x4.length : Int)))).bind fun x7 =>
 rq (decide (x7.length + x4.length ≤ 9223372036854775807)) (some (x7 ++ x4)))
 (some x4) : Option (List UInt8)).bind k) = k (precS pr zb s) := by
  subst hz
  have e : (((cond (pr == 0) (some zI) (some false) : Option Bool).bind fun x5 => cond x5 (some ([] : List UInt8)) (some s)) : Option (List UInt8)) = some (cond (pr == 0 && zI) [] s) := by
    cases (pr == 0) <;> cases zI <;> rfl
  rw [e]
  simp only [Option.bind_some]
  unfold precS
  have hl : ((cond (pr == 0 && zI) [] s : List UInt8)).length ≤ 65 := by cases (pr == 0 && zI) <;> simp; omega
  generalize (cond (pr == 0 && zI) [] s : List UInt8) = t at hl
  by_cases h : (t.length : Int) < pr
  · have e2 : w64 (pr - (t.length : Int)) = ((pr.toNat - t.length : Nat) : Int) := by rw [w64_in (by omega)]; omega
    rw [ct h, ct h, e2, rep_eq F 48 _ (by omega)]
    simp only [Option.bind_some]
    rw [rq1 (by simp; omega)]
    rfl
  · rw [cf h, cf h]; rfl
theorem digits_eq (F : Nat) (x : Sp) (n : Int) (hn : R64 n) (h1 : x.pr ≤ 4096) (h0 : -1 ≤ x.pr) (hF : 70 ≤ F) : format_spec_digits F x.t n = some (digS x n) := by
  obtain ⟨u, hu, e1, e2, e3, e4⟩ := digits_nat n hn
  have hu64 : u64 n = u := by unfold u64; rw [e1]; simp
  unfold format_spec_digits digS
  have hl : (x.t).fletter = (x.l.toNat : Int) := rfl
  have hpr : (x.t).fprecision = x.pr := rfl
  have hp : (x.t).fplus = x.p := rfl
  have l120 := u8lit x.l 120 (by decide)
  have l111 := u8lit x.l 111 (by decide)
  have l100 := u8lit x.l 100 (by decide)
  have l105 := u8lit x.l 105 (by decide)
  simp only [hl, hpr, hp, l120, l111, l100, l105, e1, hu64]
  have hz : ((u : Int) == 0) = (n == 0) := by
    rw [Bool.eq_iff_iff, beq_iff_eq, beq_iff_eq]; omega
  have fin : ∀ (sg : List UInt8) (v b : Nat) (bI : Int), bI = (b : Int) → v < 18446744073709551616 → (b = 10 ∨ b = 16 ∨ b = 8) → ((v : Int) == 0) = (n == 0) →
      ((fuF F (v : Int) bI).bind fun x3 =>
 ((cond (x.pr == 0) (some ((v : Int) == 0)) (some false) : Option Bool).bind fun x5 => cond x5 (some []) (some x3) : Option (List UInt8)).bind fun x4 =>
 (cond (decide ((x4.length : Int) < x.pr))
 ((repF F ([48] : List UInt8) (w64 (x.pr - (x4.length : Int)))).bind fun x7 =>
 rq (decide (x7.length + x4.length ≤ 9223372036854775807)) (some (x7 ++ x4)))
 (some x4) : Option (List UInt8)).bind fun x6 => some (sg, x6)) = some (sg, precS x.pr (n == 0) (fmtN b v)) := by
    intro sg v b bI hbI hv hb hz
    subst hbI
    rw [fu_eq F b v hv hb hF]
    simp only [Option.bind_some]
    exact prec_eq F x.pr (n == 0) (fmtN b v) h1 h0 (fmtN_len b v).2 (fun x6 => some (sg, x6)) _ hz
  cases a1 : (x.l == 120) with
  | true => simp only [cond_true, Option.bind_some]; exact fin [] u 16 16 rfl hu (.inr (.inl rfl)) hz
  | false =>
    cases a2 : (x.l == 111) with
    | true => simp only [cond_true, cond_false, Option.bind_some]; exact fin [] u 8 8 rfl hu (.inr (.inr rfl)) hz
    | false =>
      simp only [cond_false]
      cases a3 : (x.l == 100) with
      | true =>
        simp only [cond_true, Option.bind_some, Bool.true_or]
        by_cases hneg : n < 0
        · have e5 := e4 hneg
          rw [e1] at e5
          rw [dT hneg]
          simp only [cond_true, Option.bind_some, e5]
          unfold R64 at hn
          exact fin [45] n.natAbs 10 10 rfl (by omega) (.inl rfl) (by rw [Bool.eq_iff_iff, beq_iff_eq, beq_iff_eq]; omega)
        · rw [dF hneg]
          simp only [cond_false]
          cases x.p with
          | true => simp only [cond_true, Option.bind_some]; exact fin [43] u 10 10 rfl hu (.inl rfl) hz
          | false => simp only [cond_false, Option.bind_some]; exact fin [] u 10 10 rfl hu (.inl rfl) hz
      | false =>
        simp only [cond_false, Option.bind_some, Bool.false_or]
        cases a4 : (x.l == 105) with
        | true =>
          simp only [cond_true]
          by_cases hneg : n < 0
          · have e5 := e4 hneg
            rw [e1] at e5
            rw [dT hneg]
            simp only [cond_true, Option.bind_some, e5]
            unfold R64 at hn
            exact fin [45] n.natAbs 10 10 rfl (by omega) (.inl rfl) (by rw [Bool.eq_iff_iff, beq_iff_eq, beq_iff_eq]; omega)
          · rw [dF hneg]
            simp only [cond_false]
            cases x.p with
            | true => simp only [cond_true, Option.bind_some]; exact fin [43] u 10 10 rfl hu (.inl rfl) hz
            | false => simp only [cond_false, Option.bind_some]; exact fin [] u 10 10 rfl hu (.inl rfl) hz
        | false => simp only [cond_false, Option.bind_some]; exact fin [] u 10 10 rfl hu (.inl rfl) hz
/-- The number of an operand, and the state behind it. -/
def numP (a : List UInt8) (p : St) : St := cond (valS a).2 p (failS (a ++ mNum) p)
theorem value_eq' (F : Nat) (s : List UInt8) (p : St) (hs : s.length ≤ 100000) (hF : s.length + 60 < F) : format_printer_value F s p.t.1 p.t.2.1 p.t.2.2.1 p.t.2.2.2.1 p.t.2.2.2.2 = some ((valS s).1, (numP s p).t) := by
  have hfail := fail_eq F (s ++ mNum) p
  obtain ⟨G, rfl⟩ : ∃ G, F = G + 60 := ⟨F - 60, by omega⟩
  unfold format_printer_value numP valS
  unfold St.t at hfail ⊢
  dsimp only at hfail ⊢
  have l39 := u8lit (s.getD 0 0) 39 (by decide)
  have l34 := u8lit (s.getD 0 0) 34 (by decide)
  rw [l39, l34]
  have hc : (cond (!(s == [])) (rq (decide (0 < (s.length : Int))) (cond (s.getD 0 0 == 39) (some true) (rq (decide (0 < (s.length : Int))) (some (s.getD 0 0 == 34))))) (some false) : Option Bool) = some (!(s == []) && (s.getD 0 0 == 39 || s.getD 0 0 == 34)) := by
    cases s with
    | nil => rfl
    | cons b t =>
      rw [rq1 (by simp <;> omega), rq1 (by simp <;> omega)]
      cases ((b :: t).getD 0 0 == 39) <;> rfl
  rw [hc]
  simp only [Option.bind_some]
  cases hq : (!(s == []) && (s.getD 0 0 == 39 || s.getD 0 0 == 34)) with
  | true =>
    simp only [cond_true]
    have hne : s ≠ [] := by rintro rfl; cases hq
    have hlen : 1 ≤ s.length := by cases s with | nil => exact (hne rfl).elim | cons _ _ => simp
    by_cases h1 : s.length = 1
    · have : ((s.length : Int) == 1) = true := by rw [beq_iff_eq]; omega
      rw [this, show (s.length == 1) = true by rw [beq_iff_eq]; exact h1]
      rfl
    · have : ((s.length : Int) == 1) = false := by rw [beq_eq_false_iff_ne]; omega
      rw [this, show (s.length == 1) = false by rw [beq_eq_false_iff_ne]; exact h1, rq1 (by omega), w64_in (by have := (s.getD 1 0).toNat_lt; omega)]
      rfl
  | false =>
    simp only [cond_false]
    rw [eval_x, integer_eq (G + 60) s (by omega) (by omega)]
    simp only [Option.bind_some]
    cases h2 : (intS s).2 with
    | true => rfl
    | false =>
      simp only [Bool.not_false, cond_true, Option.bind_some, cond_false]
      have h10 : ((1 : Int) != 0) = true := rfl
      rw [h10]
      simp only [cond_true]
      rw [rq1 (by show s.length + 14 ≤ 9223372036854775807; omega), hfail]
      rfl
def convS (x : Sp) (p : St) : List UInt8 × St :=
  cond (x.l == 37) (padS x [] [37], p) (cond (x.l == 99) (padS x [] ((nextS p).1.take 1), (nextS p).2)
    (cond (x.l == 115) (padS x [] (cutS x.pr (nextS p).1), (nextS p).2)
      (cond (x.l == 98) ([], { putS (padS x [] (cutS x.pr (un (nextS p).1).1)) (nextS p).2 with ended := (putS (padS x [] (cutS x.pr (un (nextS p).1).1)) (nextS p).2).ended || (un (nextS p).1).2 })
        (padS x (digS x (valS (nextS p).1).1).1 (digS x (valS (nextS p).1).1).2, numP (nextS p).1 (nextS p).2))))

/-! Facts about states: the output's length, the operands. -/
structure Ok (p : St) : Prop where
  o : p.o.length ≤ 65536
  ops : ∀ a ∈ p.ops, a.length ≤ 60
theorem failS_ok {m : List UInt8} {p : St} (h : Ok p) : Ok (failS m p) := ⟨h.o, h.ops⟩
theorem numP_ok {a : List UInt8} {p : St} (h : Ok p) : Ok (numP a p) := by unfold numP; cases (valS a).2; exact failS_ok h; exact h
theorem putS_ok {s : List UInt8} {p : St} (h : Ok p) : Ok (putS s p) := by
  unfold putS
  by_cases hc : 65536 - p.o.length < s.length
  · rw [ct hc]; exact ⟨h.o, h.ops⟩
  · rw [cf hc]; exact ⟨by have := h.o; simp; omega, h.ops⟩
theorem plainS_ok {s : List UInt8} {p : St} (h : Ok p) : Ok (plainS s p) := by
  unfold plainS
  by_cases hc : 65536 - p.o.length < s.length
  · rw [ct hc]; exact ⟨by have := h.o; simp; omega, h.ops⟩
  · rw [cf hc]; exact ⟨by have := h.o; simp; omega, h.ops⟩
theorem nextS_ok {p : St} (h : Ok p) : (nextS p).1.length ≤ 60 ∧ Ok (nextS p).2 := by
  unfold nextS
  split
  · exact ⟨by simp, h⟩
  · rename_i a r hp
    exact ⟨h.ops a (by rw [hp]; simp), h.o, fun b hb => h.ops b (by rw [hp]; simp; exact .inr hb)⟩
/-- Operands are taken away one by one, and that is marked. -/
structure Take (p q : St) : Prop where
  ops : ∃ k, q.ops = p.ops.drop k ∧ (q.used = p.used ∨ q.used = true)
  used : q.used = true → p.used = true ∨ q.ops.length < p.ops.length
  keep : q.used = false → q.ops = p.ops
theorem Take.refl {p : St} : Take p p := ⟨⟨0, rfl, .inl rfl⟩, fun h => .inl h, fun _ => rfl⟩
theorem Take.same {p q : St} (h1 : q.ops = p.ops) (h2 : q.used = p.used) : Take p q := ⟨⟨0, h1, .inl h2⟩, fun h => .inl (h2 ▸ h), fun _ => h1⟩
theorem Take.trans {p q r : St} (h1 : Take p q) (h2 : Take q r) : Take p r := by
  obtain ⟨⟨k, e1, u1⟩, v1, w1⟩ := h1
  obtain ⟨⟨m, e2, u2⟩, v2, w2⟩ := h2
  refine ⟨⟨k + m, by rw [e2, e1, List.drop_drop], ?_⟩, fun h => ?_, fun h => ?_⟩
  · rcases u2 with u2 | u2
    · rw [u2]; exact u1
    · exact .inr u2
  · have hle : r.ops.length ≤ q.ops.length := by rw [e2]; simp
    have hle2 : q.ops.length ≤ p.ops.length := by rw [e1]; simp
    rcases v2 h with h | h
    · rcases v1 h with h | h
      · exact .inl h
      · exact .inr (by omega)
    · exact .inr (by omega)
  · have hq : q.used = false := by
      rcases u2 with u2 | u2
      · rw [← u2]; exact h
      · rw [u2] at h; cases h
    rw [w2 h, w1 hq]
theorem nextS_take {p : St} : Take p (nextS p).2 := by
  unfold nextS
  split
  · exact .refl
  · rename_i a r hp
    exact ⟨⟨1, by rw [hp]; rfl, .inr rfl⟩, fun _ => .inr (by rw [hp]; simp), fun h => by cases h⟩
theorem putS_take {s : List UInt8} {p : St} : Take p (putS s p) := by
  unfold putS
  cases (decide (65536 - p.o.length < s.length)) <;> exact Take.same rfl rfl
theorem numP_take {a : List UInt8} {p : St} : Take p (numP a p) := by
  unfold numP
  cases (valS a).2 <;> exact Take.same rfl rfl
theorem convS_facts {x : Sp} {p : St} (h : Ok p) (hw : x.w ≤ 4096) (hpr : x.pr ≤ 4096) : (convS x p).1.length ≤ 8192 ∧ Ok (convS x p).2 ∧ Take p (convS x p).2 := by
  obtain ⟨h1, h2⟩ := nextS_ok h
  have hc := cutS_len x.pr (nextS p).1
  have hd := digS_len x (valS (nextS p).1).1 hpr
  unfold convS
  cases (x.l == 37) with
  | true => exact ⟨by simp only [cond_true]; rw [padS_len]; simp; omega, h, .refl⟩
  | false =>
    cases (x.l == 99) with
    | true => exact ⟨by simp only [cond_true, cond_false]; rw [padS_len]; simp; omega, h2, nextS_take⟩
    | false =>
      cases (x.l == 115) with
      | true => exact ⟨by simp only [cond_true, cond_false]; rw [padS_len]; simp; omega, h2, nextS_take⟩
      | false =>
        cases (x.l == 98) with
        | true => exact ⟨by simp, ⟨(putS_ok h2).o, (putS_ok h2).ops⟩, nextS_take.trans (putS_take.trans (Take.same rfl rfl))⟩
        | false => exact ⟨by simp only [cond_true, cond_false]; rw [padS_len]; omega, numP_ok h2, nextS_take.trans numP_take⟩
theorem conversion_eq (F : Nat) (s : List UInt8) (p : St) (h : Ok p) (hs1 : 1 ≤ s.length) (hs : s.length ≤ 100000) (hF : s.length + 200 < F) :
    format_printer_conversion F s p.t.1 p.t.2.1 p.t.2.2.1 p.t.2.2.2.1 p.t.2.2.2.2 = match readS s with
      | none => some ([], 0, { failS mInv p with ended := true }.t)
      | some (x, n) => some ((convS x p).1, (n : Int), (convS x p).2.t) := by
  obtain ⟨x0, n0, hr, hr2⟩ := read_eq F s hs1 (by omega) (by omega)
  unfold format_printer_conversion
  rw [hr]
  simp only [Option.bind_some]
  cases hrd : readS s with
  | none =>
    simp only [Option.isSome_none, Bool.not_false, cond_true]
    have hfail := fail_eq F mInv p
    rw [hfail]
    rfl
  | some y =>
    obtain ⟨x, n⟩ := y
    obtain ⟨rfl, rfl⟩ := hr2 x n hrd
    obtain ⟨f1, f2, hw, hp0, hpr, hlet⟩ := readS_facts hs1 hrd
    simp only [Option.isSome_some, Bool.not_true, cond_false]
    have hl : (x.t).fletter = (x.l.toNat : Int) := rfl
    have l37 := u8lit x.l 37 (by decide)
    have l99 := u8lit x.l 99 (by decide)
    have l115 := u8lit x.l 115 (by decide)
    have l98 := u8lit x.l 98 (by decide)
    obtain ⟨h1, h2⟩ := nextS_ok h
    have hc := cutS_len x.pr (nextS p).1
    simp only [hl, l37, l99, l115, l98]
    unfold convS
    cases (x.l == 37) with
    | true => simp only [cond_true]; rw [pad_eq F x [] [37] hw (by simp) (by simp)]; rfl
    | false =>
      simp only [cond_false]
      rw [next_eq F p]
      simp only [Option.bind_some]
      cases (x.l == 99) with
      | true =>
        simp only [cond_true]
        have em : (cond (decide (1 < ((nextS p).1.length : Int))) 1 ((nextS p).1.length : Int)) = ((min (nextS p).1.length 1 : Nat) : Int) := by
          by_cases h' : 1 < (nextS p).1.length
          · rw [ct (show (1 : Int) < ((nextS p).1.length : Int) by omega)]; omega
          · rw [cf (show ¬ (1 : Int) < ((nextS p).1.length : Int) by omega)]; omega
        rw [em, rq2 (by omega) (show ((min (nextS p).1.length 1 : Nat) : Int) ≤ ((nextS p).1.length : Int) by omega), sl_0, show (nextS p).1.take (min (nextS p).1.length 1) = (nextS p).1.take 1 by
          rcases Nat.lt_or_ge 1 (nextS p).1.length with h' | h'
          · rw [Nat.min_eq_right (by omega)]
          · rw [Nat.min_eq_left h', List.take_of_length_le (Nat.le_refl _), List.take_of_length_le h'], pad_eq F x [] _ hw (by simp) (by simp; omega)]
        rfl
      | false =>
        simp only [cond_false]
        cases (x.l == 115) with
        | true =>
          simp only [cond_true]
          rw [cut_eq F x]
          simp only [Option.bind_some]
          rw [pad_eq F x [] _ hw (by simp) (by omega)]
          rfl
        | false =>
          simp only [cond_false]
          cases (x.l == 98) with
          | true =>
            simp only [cond_true]
            have hu := unN_len (nextS p).1.length (nextS p).1
            have hcu := cutS_len x.pr (un (nextS p).1).1
            have hpl := padS_len x [] (cutS x.pr (un (nextS p).1).1)
            have hu' : (un (nextS p).1).1.length ≤ (nextS p).1.length := hu
            simp only [List.length_nil] at hpl
            rw [unescape_eq F _ (by omega) (by omega)]
            simp only [Option.bind_some]
            rw [cut_eq F x]
            simp only [Option.bind_some]
            rw [pad_eq F x [] _ hw (by simp) (by omega)]
            simp only [Option.bind_some]
            rw [put_eq F _ (nextS p).2 h2.o (by omega)]
            simp only [Option.bind_some]
            have hor : (cond (putS (padS x [] (cutS x.pr (un (nextS p).1).1)) (nextS p).2).t.2.2.2.1 (some true) (some (un (nextS p).1).2) : Option Bool) = some ((putS (padS x [] (cutS x.pr (un (nextS p).1).1)) (nextS p).2).ended || (un (nextS p).1).2) := by
              show (cond (putS (padS x [] (cutS x.pr (un (nextS p).1).1)) (nextS p).2).ended _ _ : Option Bool) = _
              cases (putS (padS x [] (cutS x.pr (un (nextS p).1).1)) (nextS p).2).ended <;> rfl
            rw [hor]
            rfl
          | false =>
            simp only [cond_false]
            have hd := digS_len x (valS (nextS p).1).1 hpr
            rw [value_eq' F _ (nextS p).2 (by omega) (by omega)]
            simp only [Option.bind_some]
            rw [digits_eq F x _ (valS_rng _) hpr hp0 (by omega)]
            simp only [Option.bind_some]
            rw [pad_eq F x _ _ hw (by omega) (by omega)]
            rfl

end Go.Proofs.YtmcnemjnkiofdaaGreatDoor
