/-
  Format: the reference's conversions, passes and Printf; the plain laws of FormatPrintfs and FormatEchos.
-/
import Derived.Test.YtmcnemjnkiofdaaGreatDoorFi
namespace Go.Proofs.YtmcnemjnkiofdaaGreatDoor
open Go.RT
set_option linter.all false
set_option maxRecDepth 100000

theorem cutR (s : List UInt8) (pr : Int) : ((cond (decide (0 ≤ pr)) (some (decide (pr < (s.length : Int)))) (some false) : Option Bool).bind fun x9 => cond x9 (rq ((decide (0 ≤ pr)) && (decide (pr ≤ (s.length : Int)))) (some (sl s 0 pr))) (some s) : Option (List UInt8)) = some (cutS pr s) := by
  unfold cutS
  by_cases h0 : 0 ≤ pr
  · obtain ⟨k, rfl⟩ : ∃ k : Nat, pr = k := ⟨pr.toNat, by omega⟩
    rw [dT h0]
    simp only [cond_true, Option.bind_some, Bool.true_and]
    by_cases h1 : (k : Int) < (s.length : Int)
    · rw [dT h1]
      simp only [cond_true]
      rw [dT (show (k : Int) ≤ (s.length : Int) by omega), sl_0, Int.toNat_natCast]
      rfl
    · rw [dF h1]; rfl
  · rw [dF h0]; rfl
/-! ### Conversions -/
/-- What a conversion gives to be put, the state before that, and whether the output ends behind it. -/
def cvT (x : Sp) (p : St) : List UInt8 × St × Bool :=
  cond (x.l == 37) (padS x [] [37], p, false) (cond (x.l == 99) (padS x [] ((nextS p).1.take 1), (nextS p).2, false)
    (cond (x.l == 115) (padS x [] (cutS x.pr (nextS p).1), (nextS p).2, false)
      (cond (x.l == 98) (padS x [] (cutS x.pr (un (nextS p).1).1), (nextS p).2, (un (nextS p).1).2)
        (padS x (digS x (valS (nextS p).1).1).1 (digS x (valS (nextS p).1).1).2, numP (nextS p).1 (nextS p).2, false))))
def cvU (x : Sp) (args : List (List UInt8)) (u : Nat) : Nat := cond (x.l == 37) u (nu args u)
theorem put_nil (p : St) : putS [] p = p := by
  unfold putS
  rw [cf (by simp)]
  simp
theorem cvT_conv (x : Sp) (p : St) : putS (convS x p).1 (convS x p).2 = { putS (cvT x p).1 (cvT x p).2.1 with ended := (putS (cvT x p).1 (cvT x p).2.1).ended || (cvT x p).2.2 } := by
  unfold convS cvT
  have h : ∀ q : St, q = { q with ended := q.ended || false } := fun q => by cases q; simp
  cases (x.l == 37) with
  | true => exact h _
  | false =>
    cases (x.l == 99) with
    | true => exact h _
    | false =>
      cases (x.l == 115) with
      | true => exact h _
      | false =>
        cases (x.l == 98) with
        | true => exact put_nil _
        | false => exact h _
theorem convertR_eq (F : Nat) (x : Sp) (p : St) (args : List (List UInt8)) (u0 u : Nat) (h : Rf args u0 u p) (hok : Ok p) (he : p.ended = false) (hargs : args.length ≤ 100000)
    (hw : x.w ≤ 4096) (hpr : x.pr ≤ 4096) (hp0 : -1 ≤ x.pr) (hlet : letOk x.l = true) (hF : 6000 < F) :
    ref30_printer_convert F x.c (p.r args u).1 (p.r args u).2.1 (p.r args u).2.2.1 (p.r args u).2.2.2.1 (p.r args u).2.2.2.2 = some ((cvT x p).1, (cvT x p).2.2, (cvT x p).2.1.r args (cvU x args u)) ∧
      Rf args u0 (cvU x args u) (cvT x p).2.1 ∧ Ok (cvT x p).2.1 ∧ (cvT x p).2.1.ended = false ∧ (cvT x p).1.length ≤ 8192 := by
  obtain ⟨n1, n2⟩ := nextR_eq F p args u0 u h hargs
  obtain ⟨h1, h2⟩ := nextS_ok hok
  have hne : (nextS p).2.ended = false := by rw [nextS_ended]; exact he
  have hl : (x.c).fletter = (x.l.toNat : Int) := rfl
  have hprc : (x.c).fprecision = x.pr := rfl
  have hz : (x.c).fzero = x.z := rfl
  have hm : (x.c).fminus = x.m := rfl
  have hwd : (x.c).fwidth = (x.w : Int) := rfl
  have l37 := u8lit x.l 37 (by decide)
  have l99 := u8lit x.l 99 (by decide)
  have l115 := u8lit x.l 115 (by decide)
  have l98 := u8lit x.l 98 (by decide)
  have hc := cutS_len x.pr (nextS p).1
  unfold ref30_printer_convert
  rw [hl, hprc, hz, hm, hwd, l37, l99, l115, l98]
  unfold cvT cvU
  cases a1 : (x.l == 37) with
  | true =>
    have hi : intLet x.l = false := by rw [beq_iff_eq.1 a1]; rfl
    simp only [cond_true]
    rw [fill_eq F x [37] hw (by simp) (by omega), pad_fill x _ hi]
    refine ⟨rfl, h, hok, he, ?_⟩
    rw [← pad_fill x _ hi, padS_len]; simp; omega
  | false =>
    simp only [cond_false]
    rw [n1]
    simp only [Option.bind_some]
    cases a2 : (x.l == 99) with
    | true =>
      have hi : intLet x.l = false := by rw [beq_iff_eq.1 a2]; rfl
      simp only [cond_true]
      have e : (cond (!((nextS p).1 == [])) (rq (decide (1 ≤ ((nextS p).1.length : Int))) (some (sl (nextS p).1 0 1))) (some (nextS p).1) : Option (List UInt8)) = some ((nextS p).1.take 1) := by
        cases hn : (nextS p).1 with
        | nil => rfl
        | cons b t =>
          have : ((b :: t : List UInt8) == []) = false := rfl
          rw [this]
          simp only [Bool.not_false, cond_true]
          rw [rq1 (by simp <;> omega)]
          exact congrArg some (sl_0 (b :: t) 1)
      rw [e]
      simp only [Option.bind_some]
      rw [fill_eq F x _ hw (by simp; omega) (by omega), pad_fill x _ hi]
      refine ⟨rfl, n2, h2, hne, ?_⟩
      rw [← pad_fill x _ hi, padS_len]; simp; omega
    | false =>
      simp only [cond_false]
      cases a3 : (x.l == 115) with
      | true =>
        have hi : intLet x.l = false := by rw [beq_iff_eq.1 a3]; rfl
        have a4 : (x.l == 98) = false := by rw [beq_iff_eq.1 a3]; rfl
        rw [a4]
        simp only [cond_true, cond_false, Option.bind_some]
        have e : ((cond (decide (0 ≤ x.pr)) (some (decide (x.pr < ((nextS p).1.length : Int)))) (some false) : Option Bool).bind fun x9 => cond x9 (rq ((decide (0 ≤ x.pr)) && (decide (x.pr ≤ ((nextS p).1.length : Int)))) (some (sl (nextS p).1 0 x.pr))) (some (nextS p).1) : Option (List UInt8)) = some (cutS x.pr (nextS p).1) := cutR (nextS p).1 x.pr
        rw [e]
        simp only [Option.bind_some]
        rw [fill_eq F x _ hw (by omega) (by omega), pad_fill x _ hi]
        refine ⟨rfl, n2, h2, hne, ?_⟩
        rw [← pad_fill x _ hi, padS_len]; simp; omega
      | false =>
        simp only [cond_false, Option.bind_some]
        cases a4 : (x.l == 98) with
        | true =>
          have hi : intLet x.l = false := by rw [beq_iff_eq.1 a4]; rfl
          have hu : (un (nextS p).1).1.length ≤ (nextS p).1.length := unN_len _ _
          have hcu := cutS_len x.pr (un (nextS p).1).1
          simp only [cond_true]
          rw [unescapeR_eq F _ (by omega) (by omega)]
          simp only [Option.bind_some]
          have e := cutR (un (nextS p).1).1 x.pr
          rw [e]
          simp only [Option.bind_some]
          rw [fill_eq F x _ hw (by omega) (by omega), pad_fill x _ hi]
          refine ⟨rfl, n2, h2, hne, ?_⟩
          rw [← pad_fill x _ hi, padS_len]; simp; omega
        | false =>
          obtain ⟨hset, hi⟩ := let_num x.l hlet (beq_eq_false_iff_ne.1 a1) (beq_eq_false_iff_ne.1 a2) (beq_eq_false_iff_ne.1 a3) (beq_eq_false_iff_ne.1 a4)
          have hd := digS_len x (valS (nextS p).1).1 hpr
          simp only [cond_false]
          rw [numberR_eq F _ (nextS p).2 args (nu args u) (by omega) (by omega)]
          simp only [Option.bind_some]
          rw [numericR_eq F x _ (valS_rng _) hpr hp0 hset (by omega)]
          simp only [Option.bind_some]
          have hnp := numP_ops (nextS p).1 (nextS p).2
          generalize digS x (valS (nextS p).1).1 = d at hd ⊢
          have hcnd : ((((cond x.z (some (!x.m)) (some false) : Option Bool).bind fun x14 => (cond x14 (some (decide (x.pr < 0))) (some false) : Option Bool)).bind fun x15 => (cond x15 (some (decide (w64 ((d.1.length : Int) + (d.2.length : Int)) < (x.w : Int)))) (some false) : Option Bool)) : Option Bool) = some (x.z && (!x.m && (decide (x.pr < 0) && decide (d.1.length + d.2.length < x.w)))) := by
            have : decide (w64 ((d.1.length : Int) + (d.2.length : Int)) < (x.w : Int)) = decide (d.1.length + d.2.length < x.w) := by
              rw [w64_in (by omega), Bool.eq_iff_iff, decide_eq_true_eq, decide_eq_true_eq]; omega
            rw [this]
            cases x.z <;> cases x.m <;> cases decide (x.pr < 0) <;> rfl
          have hfin : (((((cond x.z (some (!x.m)) (some false) : Option Bool).bind fun x14 => (cond x14 (some (decide (x.pr < 0))) (some false) : Option Bool).bind fun x15 => (cond x15 (some (decide (w64 ((d.1.length : Int) + (d.2.length : Int)) < (x.w : Int)))) (some false) : Option Bool).bind fun x16 =>
 cond x16
 ((ref30_times F ([48] : List UInt8) (w64 ((w64 ((x.w : Int) - (d.1.length : Int))) - (d.2.length : Int)))).bind fun x17 =>
 rq (decide (x17.length + d.2.length ≤ 9223372036854775807)) (some (x17 ++ d.2)))
 (some d.2)) : Option (List UInt8)))) = some (cond (x.z && (!x.m && (decide (x.pr < 0) && decide (d.1.length + d.2.length < x.w)))) (List.replicate (x.w - (d.1.length + d.2.length)) 48 ++ d.2) d.2) := by
            have hh : ∀ K : Bool → Option (List UInt8), ((cond x.z (some (!x.m)) (some false) : Option Bool).bind fun x14 => (cond x14 (some (decide (x.pr < 0))) (some false) : Option Bool).bind fun x15 => (cond x15 (some (decide (w64 ((d.1.length : Int) + (d.2.length : Int)) < (x.w : Int)))) (some false) : Option Bool).bind K) = K (x.z && (!x.m && (decide (x.pr < 0) && decide (d.1.length + d.2.length < x.w)))) := by
              intro K
              rw [← Option.bind_some (f := K), ← hcnd]
              simp only [Option.bind_assoc]
            rw [hh]
            cases hb : (x.z && (!x.m && (decide (x.pr < 0) && decide (d.1.length + d.2.length < x.w)))) with
            | false => rfl
            | true =>
              simp only [Bool.and_eq_true, decide_eq_true_eq] at hb
              have e : w64 ((w64 ((x.w : Int) - (d.1.length : Int))) - (d.2.length : Int)) = ((x.w - (d.1.length + d.2.length) : Nat) : Int) := by rw [w64_in (x := (x.w : Int) - (d.1.length : Int)) (by omega), w64_in (by omega)]; omega
              simp only [cond_true]
              rw [e, times_eq F 48 _ (by omega) (by omega)]
              simp only [Option.bind_some]
              rw [rq1 (by simp; omega)]
          rw [hfin]
          simp only [Option.bind_some]
          have hpl := pad_num x d.1 d.2 hi
          have hlen := padS_len x d.1 d.2
          have hD : ∀ c : Bool, (cond c (List.replicate (x.w - (d.1.length + d.2.length)) 48 ++ d.2) d.2 : List UInt8).length ≤ 9000 := by
            intro c; cases c <;> simp <;> omega
          rw [rq1 (by have := hD (x.z && (!x.m && (decide (x.pr < 0) && decide (d.1.length + d.2.length < x.w)))); omega), fill_eq F x _ hw (by have := hD (x.z && (!x.m && (decide (x.pr < 0) && decide (d.1.length + d.2.length < x.w)))); simp only [List.length_append]; omega) (by omega), ← hpl]
          exact ⟨rfl, n2.same hnp.1 hnp.2.1, numP_ok h2, by rw [hnp.2.2]; exact hne, by rw [hlen]; omega⟩

/-! ### A pass -/
theorem passR_eq (F : Nat) (f : List UInt8) (p : St) (args : List (List UInt8)) (u : Nat) (h : Rf args u u p) (hok : Ok p) (he : p.ended = false) (hargs : args.length ≤ 100000) (hf : f.length ≤ 10000) (hF : f.length + 6000 < F) :
    ∃ u2, ref30_printer_pass F f (p.r args u).1 (p.r args u).2.1 (p.r args u).2.2.1 (p.r args u).2.2.2.1 (p.r args u).2.2.2.2 = some ((passN f.length f p).r args u2) ∧ Rf args u u2 (passN f.length f p) := by
  unfold ref30_printer_pass
  have key := loopF_post (R := RT5) (σ := Int × RT5) (body := fun rc2 x1 =>
 (cond (decide (x1.1 < (f.length : Int)))
 (some (!x1.2.2.2.1))
 (some false) : Option Bool).bind fun x3 =>
 cond x3
 (rq ((decide (0 ≤ x1.1)) && (decide (x1.1 < (f.length : Int)))) (cond (((f.getD (Int.toNat x1.1) 0).toNat : Int) == 92)
 ((ref30_escape F f x1.1).bind fun x4 =>
 (ref30_printer_put F x4.1 x1.2.1 x1.2.2.1 x1.2.2.2.1 x1.2.2.2.2.1 x1.2.2.2.2.2).bind fun x5 =>
 rc2 (x4.2, x5.1, x5.2.1, x5.2.2.1, x5.2.2.2.1, x5.2.2.2.2))
 (cond (((f.getD (Int.toNat x1.1) 0).toNat : Int) == 37)
 ((ref30_read F f x1.1).bind fun x6 =>
 cond (!x6.2.2)
 ((ref30_printer_fail F ([105, 110, 118, 97, 108, 105, 100, 32, 99, 111, 110, 118, 101, 114, 115, 105, 111, 110] : List UInt8) x1.2.1 x1.2.2.1 x1.2.2.2.1 x1.2.2.2.2.1 x1.2.2.2.2.2).bind fun x7 =>
 some (x7.1, x7.2.1, true, x7.2.2.2.1, x7.2.2.2.2))
 ((ref30_printer_convert F x6.1 x1.2.1 x1.2.2.1 x1.2.2.2.1 x1.2.2.2.2.1 x1.2.2.2.2.2).bind fun x8 =>
 (ref30_printer_put F x8.1 x8.2.2.1 x8.2.2.2.1 x8.2.2.2.2.1 x8.2.2.2.2.2.1 x8.2.2.2.2.2.2).bind fun x9 =>
 (cond x9.2.2.1
 (some true)
 (some x8.2.1) : Option Bool).bind fun x10 =>
 rc2 (x6.2.1, x9.1, x9.2.1, x10, x9.2.2.2.1, x9.2.2.2.2)))
 (rq ((decide (0 ≤ x1.1)) && ((decide (x1.1 ≤ w64 (x1.1 + 1))) && (decide (w64 (x1.1 + 1) ≤ (f.length : Int))))) ((ref30_printer_put F (sl f x1.1 (w64 (x1.1 + 1))) x1.2.1 x1.2.2.1 x1.2.2.2.1 x1.2.2.2.2.1 x1.2.2.2.2.2).bind fun x11 =>
 rc2 (w64 (x1.1 + 1), x11.1, x11.2.1, x11.2.2.1, x11.2.2.2.1, x11.2.2.2.2))))))
 (some (x1.2.1, x1.2.2.1, x1.2.2.2.1, x1.2.2.2.2.1, x1.2.2.2.2.2)))
    (fun r => ∃ u2, r = (passN f.length f p).r args u2 ∧ Rf args u u2 (passN f.length f p))
    (fun st => ∃ (q : St) (i v : Nat), st = ((i : Int), q.r args v) ∧ i ≤ f.length ∧ Ok q ∧ Rf args u v q ∧ passN f.length f p = cond q.ended q (passN (f.length - i) (f.drop i) q))
    (fun st => (f.length - st.1.toNat) + cond st.2.2.2.1 0 1) ?_ F (0, p.r args u) ⟨p, 0, u, rfl, Nat.zero_le _, hok, h, by rw [he]; simp⟩ (by show f.length - 0 + cond p.ended 0 1 < F; cases p.ended <;> simp <;> omega)
  · obtain ⟨r, ⟨u2, rfl, q2⟩, q3⟩ := key
    exact ⟨u2, q3, q2⟩
  · rintro st ⟨q, i, v, rfl, hi, hq, hr, hz⟩
    cases hqe : q.ended with
    | true =>
      rw [hqe] at hz
      simp only [cond_true] at hz
      refine .inr ⟨q.r args v, ⟨v, by rw [hz], by rw [hz]; exact hr⟩, fun rc => ?_⟩
      have : (q.r args v).2.2.1 = true := hqe
      simp only [this, Bool.not_true, cond_same, Option.bind_some, cond_false]
      show some (q.o, q.msg, true, args, (v : Int)) = some (q.o, q.msg, q.ended, args, (v : Int))
      rw [hqe]
    | false =>
      rw [hqe] at hz
      simp only [cond_false] at hz
      have hend : (q.r args v).2.2.1 = false := hqe
      by_cases hlt : i < f.length
      · have hg : f.getD i 0 = f[i] := gd hlt
        have hdrop := List.drop_eq_getElem_cons hlt
        have hg0 : (f.drop i).getD 0 0 = f[i] := by rw [hdrop]; rfl
        have hcons := passN_cons (k := f.length - i) (s := f.drop i) (by simp; omega) (by simp) q
        rw [hz, hcons] 
        have hl1 : (f.drop i).length = f.length - i := by simp
        -- going on behind a step
        have after : ∀ (q3 : St) (n w : Nat), stepS (f.drop i) q = (q3, n) → 1 ≤ n → i + n ≤ f.length → Rf args u w q3 → Ok q3 →
            ∃ s', (∃ (q' : St) (j w' : Nat), s' = ((j : Int), q'.r args w') ∧ j ≤ f.length ∧ Ok q' ∧ Rf args u w' q' ∧ cond (stepS (f.drop i) q).1.ended (stepS (f.drop i) q).1 (passN ((f.drop i).length - (stepS (f.drop i) q).2) ((f.drop i).drop (stepS (f.drop i) q).2) (stepS (f.drop i) q).1) = cond q'.ended q' (passN (f.length - j) (f.drop j) q')) ∧
              (f.length - s'.1.toNat) + cond s'.2.2.2.1 0 1 < (f.length - ((i : Int)).toNat) + cond (q.r args v).2.2.1 0 1 ∧ s' = (((i + n : Nat) : Int), q3.r args w) := by
          intro q3 n w hst hn1 hn2 hr3 hok3
          refine ⟨_, ⟨q3, i + n, w, rfl, hn2, hok3, hr3, ?_⟩, ?_, rfl⟩
          · rw [hst]
            dsimp only
            rw [List.drop_drop, hl1, Nat.sub_sub]
          · rw [hend]
            show f.length - (((i + n : Nat) : Int)).toNat + cond q3.ended 0 1 < f.length - ((i : Int)).toNat + 1
            cases q3.ended <;> simp <;> omega
        have l92 := u8lit f[i] 92 (by decide)
        have l37 := u8lit f[i] 37 (by decide)
        simp only [dT (show (i : Int) < (f.length : Int) by omega), cond_true, hend, Bool.not_false, Option.bind_some, dnn, Bool.and_self, rq_tt, Int.toNat_natCast, hg, l92, l37]
        have hput := fun (s : List UInt8) (hs : s.length ≤ 100000) => putR_eq F s q args v hq.o hs hqe
        rw [hend] at hput
        cases a1 : (f[i] == 92) with
        | true =>
          simp only [cond_true]
          rw [escapeR_eq F f i hlt (by omega) (by omega)]
          simp only [Option.bind_some]
          have hef := escS_facts (f.drop i) 1 (.inl rfl)
          rw [hl1] at hef
          cases a2 : ((escS (f.drop i) 1).2 == 0) with
          | true =>
            have hst : stepS (f.drop i) q = (putS [92] q, 1) := by
              unfold stepS
              rw [hg0, a1, a2]
              rw [beq_iff_eq.1 a1]
              rfl
            obtain ⟨s', t1, t2, t3⟩ := after _ _ v hst (Nat.le_refl _) (by omega) (hr.same (putS_ops _ _).1 (putS_ops _ _).2) (putS_ok hq)
            refine .inl ⟨s', ?_, ?_, fun rc => ?_⟩
            · obtain ⟨q', j, w', b1, b2, b3, b4, b5⟩ := t1
              exact ⟨q', j, w', b1, b2, b3, b4, b5⟩
            · rw [hend] at t2; exact t2
            · simp only [cond_true]
              rw [hput [92] (by simp), t3]
              rfl
          | false =>
            have hst : stepS (f.drop i) q = (putS (escS (f.drop i) 1).1 q, (escS (f.drop i) 1).2) := by
              unfold stepS
              rw [hg0, a1, a2]
              rfl
            rw [beq_eq_false_iff_ne] at a2
            obtain ⟨s', t1, t2, t3⟩ := after _ _ v hst (by omega) (by omega) (hr.same (putS_ops _ _).1 (putS_ops _ _).2) (putS_ok hq)
            refine .inl ⟨s', ?_, ?_, fun rc => ?_⟩
            · obtain ⟨q', j, w', b1, b2, b3, b4, b5⟩ := t1
              exact ⟨q', j, w', b1, b2, b3, b4, b5⟩
            · rw [hend] at t2; exact t2
            · simp only [cond_false]
              rw [hput _ (by omega), t3]
              rfl
        | false =>
          simp only [cond_false]
          cases a2 : (f[i] == 37) with
          | true =>
            simp only [cond_true]
            obtain ⟨c, n, hrd, hrd2⟩ := readR_eq F f i hlt (by omega) (by omega)
            rw [hrd]
            simp only [Option.bind_some]
            cases hrs : readS (f.drop i) with
            | none =>
              have hst : stepS (f.drop i) q = ({ failS mInv q with ended := true }, 1) := by
                unfold stepS
                rw [hg0, a1, a2, hrs]
                rfl
              refine .inr ⟨({ failS mInv q with ended := true } : St).r args v, ⟨v, ?_, ?_⟩, fun rc => ?_⟩
              · rw [hst]; rfl
              · rw [hst]; exact hr.same rfl rfl
              · have hfail := failR_eq F mInv q args v
                rw [hend] at hfail
                simp only [Option.isSome_none, Bool.not_false, cond_true]
                rw [hfail]
                rfl
            | some y =>
              obtain ⟨x, k⟩ := y
              obtain ⟨rfl, rfl⟩ := hrd2 x k hrs
              obtain ⟨f1, f2, f3, f4, f5, f6⟩ := readS_facts (by simp; omega) hrs
              rw [hl1] at f2
              obtain ⟨c1, c2, c3, c4, c5⟩ := convertR_eq F x q args u v hr hq hqe hargs f3 f5 f4 f6 (by omega)
              rw [hend] at c1
              have hput2 := putR_eq F (cvT x q).1 (cvT x q).2.1 args (cvU x args v) c3.o (by omega) c4
              have hst : stepS (f.drop i) q = ({ putS (cvT x q).1 (cvT x q).2.1 with ended := (putS (cvT x q).1 (cvT x q).2.1).ended || (cvT x q).2.2 }, k) := by
                unfold stepS
                rw [hg0, a1, a2, hrs]
                show (putS (convS x q).1 (convS x q).2, k) = _
                rw [cvT_conv]
              obtain ⟨s', t1, t2, t3⟩ := after _ _ (cvU x args v) hst (by omega) (by omega) (c2.same (putS_ops _ _).1 (putS_ops _ _).2) ⟨(putS_ok c3).o, (putS_ok c3).ops⟩
              refine .inl ⟨s', ?_, ?_, fun rc => ?_⟩
              · obtain ⟨q', j, w', b1, b2, b3, b4, b5⟩ := t1
                exact ⟨q', j, w', b1, b2, b3, b4, b5⟩
              · rw [hend] at t2; exact t2
              · simp only [Option.isSome_some, Bool.not_true, cond_false]
                rw [c1]
                simp only [Option.bind_some]
                rw [hput2]
                simp only [Option.bind_some]
                have hor : (cond ((putS (cvT x q).1 (cvT x q).2.1).r args (cvU x args v)).2.2.1 (some true) (some (cvT x q).2.2) : Option Bool) = some ((putS (cvT x q).1 (cvT x q).2.1).ended || (cvT x q).2.2) := by
                  show (cond (putS (cvT x q).1 (cvT x q).2.1).ended _ _ : Option Bool) = _
                  cases (putS (cvT x q).1 (cvT x q).2.1).ended <;> rfl
                rw [hor, t3]
                rfl
          | false =>
            simp only [cond_false]
            have hst : stepS (f.drop i) q = (putS [f[i]] q, 1) := by
              unfold stepS
              rw [hg0, a1, a2]
              rfl
            obtain ⟨s', t1, t2, t3⟩ := after _ _ v hst (Nat.le_refl _) (by omega) (hr.same (putS_ops _ _).1 (putS_ops _ _).2) (putS_ok hq)
            refine .inl ⟨s', ?_, ?_, fun rc => ?_⟩
            · obtain ⟨q', j, w', b1, b2, b3, b4, b5⟩ := t1
              exact ⟨q', j, w', b1, b2, b3, b4, b5⟩
            · rw [hend] at t2; exact t2
            · rw [w64s (by omega)]
              have : (true && (decide ((i : Int) ≤ ((i + 1 : Nat) : Int)) && decide (((i + 1 : Nat) : Int) ≤ (f.length : Int)))) = true := by rw [dT (by omega), dT (by omega)]; rfl
              rw [this, rq_tt, sl_at hlt, hput [f[i]] (by simp), t3]
              rfl
      · obtain rfl : i = f.length := by omega
        rw [Nat.sub_self] at hz
        have hz : passN f.length f p = q := hz
        refine .inr ⟨q.r args v, ⟨v, by rw [hz], by rw [hz]; exact hr⟩, fun rc => ?_⟩
        simp only [dF (show ¬ (f.length : Int) < (f.length : Int) by omega), cond_false, Option.bind_some]

end Go.Proofs.YtmcnemjnkiofdaaGreatDoor
