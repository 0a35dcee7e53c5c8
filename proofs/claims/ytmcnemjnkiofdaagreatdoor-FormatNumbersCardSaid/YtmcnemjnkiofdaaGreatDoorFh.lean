/-
  Format: the reference's specifications, padding and operands are the same plain functions.
-/
import Derived.Test.YtmcnemjnkiofdaaGreatDoorFg
namespace Go.Proofs.YtmcnemjnkiofdaaGreatDoor
open Go.RT
set_option linter.all false
set_option maxRecDepth 100000

def Sp.c (x : Sp) : Tconversion := ⟨x.m, x.z, x.p, (x.w : Int), x.pr, (x.l.toNat : Int)⟩
abbrev lets : List UInt8 := [100, 105, 117, 120, 111, 99, 115, 98, 37]
theorem lets_any (b : UInt8) : lets.any (fun c => c == b) = letOk b := byte_all (P := fun b => lets.any (fun c => c == b) = letOk b) (by decide +kernel) b
theorem let_loop (F : Nat) (b : UInt8) (x y : Tconversion × Int × Bool) (hF : 9 < F) :
    loopF (σ := Int) (R := Tconversion × Int × Bool) (fun rc14 x13 =>
 cond (decide (x13 < ((lets : List UInt8).length : Int)))
 (rq ((decide (0 ≤ x13)) && (decide (x13 < ((lets : List UInt8).length : Int)))) (cond ((((lets : List UInt8).getD (Int.toNat x13) 0).toNat : Int) == (b.toNat : Int))
 (some x)
 (rc14 (w64 (x13 + 1)))))
 (some y)) F 0 = cond (letOk b) (some x) (some y) := by
  have key := loopF_srch (body := fun (rc14 : Int → Option (Tconversion × Int × Bool)) x13 =>
 cond (decide (x13 < ((lets : List UInt8).length : Int)))
 (rq ((decide (0 ≤ x13)) && (decide (x13 < ((lets : List UInt8).length : Int)))) (cond ((((lets : List UInt8).getD (Int.toNat x13) 0).toNat : Int) == (b.toNat : Int))
 (some x)
 (rc14 (w64 (x13 + 1)))))
 (some y)) lets (fun i => (i : Int)) (fun c => (c.toNat : Int) == (b.toNat : Int)) (fun _ _ => some x) (some y) (F := F) (s := 0) (show 9 < F from hF) rfl ?_ ?_
  · refine Eq.trans key ?_
    have e : (fun c : UInt8 => (c.toNat : Int) == (b.toNat : Int)) = fun c => c == b := by
      funext c
      rw [Bool.eq_iff_iff, beq_iff_eq, beq_iff_eq]
      exact ⟨fun h => UInt8.toNat.inj (by omega), fun h => by rw [h]⟩
    rw [e, srch_any, lets_any]
  · intro i h rc
    have h8 : i < 9 := h
    have hl : (lets : List UInt8).length = 9 := rfl
    simp only [dT (show (i : Int) < ((lets : List UInt8).length : Int) by rw [hl]; omega), cond_true, dnn, Bool.and_self, rq_tt, Int.toNat_natCast, gd h]
    rw [w64s (by omega)]
  · intro rc
    rfl

def rdK (F : Nat) (s : List UInt8) (at_ : Int) (m z p : Bool) : Option (Tconversion × Int × Bool) :=
 (ref30_digits F s at_).bind fun x7 =>
 ((cond (decide (x7.2.1 < (s.length : Int)))
 (rq ((decide (0 ≤ x7.2.1)) && (decide (x7.2.1 < (s.length : Int)))) (some (((s.getD (Int.toNat x7.2.1) 0).toNat : Int) == 46)))
 (some false) : Option Bool).bind fun x9 =>
 cond x9
 ((ref30_digits F s (w64 (x7.2.1 + 1))).bind fun x10 =>
 (cond x7.2.2
 (some x10.2.2)
 (some false) : Option Bool).bind fun x11 =>
 some (x10.2.1, x11, m, z, p, x7.1, x10.1, 0))
 (some (x7.2.1, x7.2.2, m, z, p, x7.1, (-1), 0)) : Option (Int × Bool × Bool × Bool × Bool × Int × Int × Int)).bind fun x8 =>
 (cond (!x8.2.1)
 (some true)
 (some (decide ((s.length : Int) ≤ x8.1))) : Option Bool).bind fun x12 =>
 cond x12
 (some ((Tconversion.mk x8.2.2.1 x8.2.2.2.1 x8.2.2.2.2.1 x8.2.2.2.2.2.1 x8.2.2.2.2.2.2.1 x8.2.2.2.2.2.2.2), x8.1, false))
 (rq ((decide (0 ≤ x8.1)) && (decide (x8.1 < (s.length : Int)))) (loopF (σ := Int) (R := Tconversion × Int × Bool) (fun rc14 x13 =>
 cond (decide (x13 < (([100, 105, 117, 120, 111, 99, 115, 98, 37] : List UInt8).length : Int)))
 (rq ((decide (0 ≤ x13)) && (decide (x13 < (([100, 105, 117, 120, 111, 99, 115, 98, 37] : List UInt8).length : Int)))) (cond (((([100, 105, 117, 120, 111, 99, 115, 98, 37] : List UInt8).getD (Int.toNat x13) 0).toNat : Int) == ((s.getD (Int.toNat x8.1) 0).toNat : Int))
 (some ((Tconversion.mk x8.2.2.1 x8.2.2.2.1 x8.2.2.2.2.1 x8.2.2.2.2.2.1 x8.2.2.2.2.2.2.1 ((s.getD (Int.toNat x8.1) 0).toNat : Int)), w64 (x8.1 + 1), true))
 (rc14 (w64 (x13 + 1)))))
 (some ((Tconversion.mk x8.2.2.1 x8.2.2.2.1 x8.2.2.2.2.1 x8.2.2.2.2.2.1 x8.2.2.2.2.2.2.1 ((s.getD (Int.toNat x8.1) 0).toNat : Int)), x8.1, false))) F 0))
def precR (s : List UInt8) (e : Nat) : Int × Nat := cond (decide (e < s.length) && (s.getD e 0 == 46)) (((num (s.drop (e + 1))).1 : Int), e + (1 + (num (s.drop (e + 1))).2)) (-1, e)
def okR (s : List UInt8) (A : Nat) : Bool := decide ((precR s (A + (num (s.drop A)).2)).2 < s.length) && (letOk (s.getD (precR s (A + (num (s.drop A)).2)).2 0) && (decide ((num (s.drop A)).1 ≤ 4096) && decide ((precR s (A + (num (s.drop A)).2)).1 ≤ 4096)))
theorem rdK_eq (F : Nat) (s : List UInt8) (A : Nat) (m z p : Bool) (hA : A ≤ s.length) (hl : s.length ≤ 100000) (hF : s.length + 20 < F) :
    ∃ c n, rdK F s (A : Int) m z p = some (c, n, okR s A) ∧ (okR s A = true → c = ⟨m, z, p, ((num (s.drop A)).1 : Int), (precR s (A + (num (s.drop A)).2)).1, ((s.getD (precR s (A + (num (s.drop A)).2)).2 0).toNat : Int)⟩ ∧ n = (((precR s (A + (num (s.drop A)).2)).2 + 1 : Nat) : Int)) := by
  obtain ⟨n1, hd1, hv1⟩ := digitsR_eq F s A hA (by omega) hl
  have hle1 := (num_le (s.drop A)).2
  simp only [List.length_drop] at hle1
  unfold rdK
  rw [hd1]
  simp only [Option.bind_some]
  unfold okR
  generalize hW : num (s.drop A) = W at hv1 hle1 ⊢
  generalize he : A + W.2 = e at hle1 ⊢
  have hes : e ≤ s.length := by omega
  -- the letter
  have fin : ∀ (ok : Bool) (w pr : Int) (wn : Nat) (prn : Int) (q : Nat), q ≤ s.length → (ok = (decide (wn ≤ 4096) && decide (prn ≤ 4096))) → (ok = true → w = (wn : Int) ∧ pr = prn) →
      ∃ c n, ((cond (!ok) (some true) (some (decide ((s.length : Int) ≤ (q : Int)))) : Option Bool).bind fun x12 =>
 cond x12
 (some ((Tconversion.mk m z p w pr 0), (q : Int), false))
 (rq ((decide (0 ≤ (q : Int))) && (decide ((q : Int) < (s.length : Int)))) (loopF (σ := Int) (R := Tconversion × Int × Bool) (fun rc14 x13 =>
 cond (decide (x13 < (([100, 105, 117, 120, 111, 99, 115, 98, 37] : List UInt8).length : Int)))
 (rq ((decide (0 ≤ x13)) && (decide (x13 < (([100, 105, 117, 120, 111, 99, 115, 98, 37] : List UInt8).length : Int)))) (cond (((([100, 105, 117, 120, 111, 99, 115, 98, 37] : List UInt8).getD (Int.toNat x13) 0).toNat : Int) == ((s.getD (Int.toNat (q : Int)) 0).toNat : Int))
 (some ((Tconversion.mk m z p w pr ((s.getD (Int.toNat (q : Int)) 0).toNat : Int)), w64 ((q : Int) + 1), true))
 (rc14 (w64 (x13 + 1)))))
 (some ((Tconversion.mk m z p w pr ((s.getD (Int.toNat (q : Int)) 0).toNat : Int)), (q : Int), false))) F 0)) : Option (Tconversion × Int × Bool)) = some (c, n, decide (q < s.length) && (letOk (s.getD q 0) && (decide (wn ≤ 4096) && decide (prn ≤ 4096)))) ∧
        ((decide (q < s.length) && (letOk (s.getD q 0) && (decide (wn ≤ 4096) && decide (prn ≤ 4096)))) = true → c = ⟨m, z, p, (wn : Int), prn, ((s.getD q 0).toNat : Int)⟩ ∧ n = ((q + 1 : Nat) : Int)) := by
    intro ok w pr wn prn q hq hok hval
    rw [← hok]
    cases ok with
    | false =>
      rw [Bool.and_false, Bool.and_false]
      exact ⟨_, _, rfl, fun h => nomatch h⟩
    | true =>
      obtain ⟨rfl, rfl⟩ := hval rfl
      simp only [Bool.not_true, cond_false, Option.bind_some, Bool.and_true]
      by_cases hlt : q < s.length
      · rw [cf (show ¬ (s.length : Int) ≤ (q : Int) by omega), rq2 (by omega) (by omega), Int.toNat_natCast, dT hlt, Bool.true_and, w64s (by omega)]
        have := let_loop F (s.getD q 0) (Tconversion.mk m z p (wn : Int) pr ((s.getD q 0).toNat : Int), ((q + 1 : Nat) : Int), true) (Tconversion.mk m z p (wn : Int) pr ((s.getD q 0).toNat : Int), (q : Int), false) (by omega)
        refine ⟨Tconversion.mk m z p (wn : Int) pr ((s.getD q 0).toNat : Int), cond (letOk (s.getD q 0)) ((q + 1 : Nat) : Int) (q : Int), ?_, ?_⟩
        · refine Eq.trans this ?_
          cases letOk (s.getD q 0) <;> rfl
        · intro h
          rw [h]
          exact ⟨rfl, rfl⟩
      · rw [ct (show (s.length : Int) ≤ (q : Int) by omega), dF hlt]
        exact ⟨_, _, rfl, fun h => nomatch h⟩
  have e46 : ∀ k : Nat, (((s.getD k 0).toNat : Int) == 46) = (s.getD k 0 == 46) := fun k => u8lit (s.getD k 0) 46 (by decide)
  by_cases hc : (decide (e < s.length) && (s.getD e 0 == 46)) = true
  · have hpr : precR s e = (((num (s.drop (e + 1))).1 : Int), e + (1 + (num (s.drop (e + 1))).2)) := by unfold precR; rw [hc]; rfl
    rw [Bool.and_eq_true, decide_eq_true_eq] at hc
    obtain ⟨n2, hd2, hv2⟩ := digitsR_eq F s (e + 1) (by omega) (by omega) hl
    have hle2 := (num_le (s.drop (e + 1))).2
    simp only [List.length_drop] at hle2
    simp only [dT (show (e : Int) < (s.length : Int) by omega), cond_true, Int.toNat_natCast, dnn, Bool.and_self, rq_tt, e46, hc.2, Option.bind_some, w64s (show e < 9223372036854775807 by omega), hd2]
    have hok : (cond (decide (W.1 ≤ 4096)) (some (decide ((num (s.drop (e + 1))).1 ≤ 4096))) (some false) : Option Bool) = some (decide (W.1 ≤ 4096) && decide ((num (s.drop (e + 1))).1 ≤ 4096)) := by
      cases decide (W.1 ≤ 4096) <;> rfl
    simp only [hok, Option.bind_some]
    rw [hpr]
    have hd : decide ((((num (s.drop (e + 1))).1 : Nat) : Int) ≤ 4096) = decide ((num (s.drop (e + 1))).1 ≤ 4096) := by rw [Bool.eq_iff_iff, decide_eq_true_eq, decide_eq_true_eq]; omega
    have := fin (decide (W.1 ≤ 4096) && decide ((num (s.drop (e + 1))).1 ≤ 4096)) (n1 : Int) (n2 : Int) W.1 ((num (s.drop (e + 1))).1 : Int) (e + (1 + (num (s.drop (e + 1))).2)) (by omega) (by rw [hd]) (fun h => by
      rw [Bool.and_eq_true, decide_eq_true_eq, decide_eq_true_eq] at h
      exact ⟨by rw [hv1 h.1], by rw [hv2 h.2]⟩)
    rw [show e + (1 + (num (s.drop (e + 1))).2) = e + 1 + (num (s.drop (e + 1))).2 by omega] at this ⊢
    exact this
  · have hc : (decide (e < s.length) && (s.getD e 0 == 46)) = false := by simpa using hc
    have hpr : precR s e = (-1, e) := by unfold precR; rw [hc]; rfl
    have hcc : (cond (decide ((e : Int) < (s.length : Int))) (rq ((decide (0 ≤ (e : Int))) && (decide ((e : Int) < (s.length : Int)))) (some (((s.getD (Int.toNat (e : Int)) 0).toNat : Int) == 46))) (some false) : Option Bool) = some false := by
      by_cases hlt : e < s.length
      · rw [dT (show (e : Int) < (s.length : Int) by omega)]
        simp only [cond_true, Int.toNat_natCast, dnn, Bool.and_self, rq_tt]
        rw [dT hlt, Bool.true_and] at hc
        rw [e46, hc]
      · rw [dF (show ¬ (e : Int) < (s.length : Int) by omega)]; rfl
    rw [hcc]
    simp only [Option.bind_some, cond_false]
    rw [hpr]
    exact fin (decide (W.1 ≤ 4096)) (n1 : Int) (-1) W.1 (-1) e hes (by simp) (fun h => by rw [decide_eq_true_eq] at h; exact ⟨by rw [hv1 h], rfl⟩)

theorem isF_cond (b : UInt8) : (cond ((b.toNat : Int) == 45) (some true) (cond ((b.toNat : Int) == 48) (some true) (some ((b.toNat : Int) == 43))) : Option Bool) = some (isF b) := by
  have e1 := u8lit b 45 (by decide)
  have e2 := u8lit b 48 (by decide)
  have e3 := u8lit b 43 (by decide)
  rw [e1, e2, e3]
  unfold isF
  cases (b == 45) <;> cases (b == 48) <;> rfl
theorem readR_eq (F : Nat) (s : List UInt8) (a : Nat) (ha : a < s.length) (hl : s.length ≤ 100000) (hF : s.length + 20 < F) :
    ∃ c n, ref30_read F s (a : Int) = some (c, n, (readS (s.drop a)).isSome) ∧ ∀ x k, readS (s.drop a) = some (x, k) → c = x.c ∧ n = ((a + k : Nat) : Int) := by
  have hloop : ref30_read F s (a : Int) = rdK F s ((a + 1 + (flS (s.drop (a + 1))).2 : Nat) : Int) (flS (s.drop (a + 1))).1.1 (flS (s.drop (a + 1))).1.2.1 (flS (s.drop (a + 1))).1.2.2 := by
    unfold ref30_read
    rw [w64s (by omega)]
    refine loopF_scan (τ := Bool × Bool × Bool) s (fun i t => ((i : Int), t.1, t.2.1, t.2.2, 0, -1, 0)) isF flG (fun i t => rdK F s (i : Int) t.1 t.2.1 t.2.2) (fun _ _ => True) ?_ ?_ ?_ ?_ (s.length - (a + 1)) (a + 1) F (false, false, false) (by omega) (by omega) trivial
    · intro i h t rc _ hp
      obtain ⟨m, z, p⟩ := t
      have e1 := u8lit s[i] 45 (by decide)
      have e2 := u8lit s[i] 48 (by decide)
      have e3 := u8lit s[i] 43 (by decide)
      simp only [dT (show (i : Int) < (s.length : Int) by omega), cond_true, Int.toNat_natCast, gd h, dnn, Bool.and_self, rq_tt, isF_cond, Option.bind_some, hp]
      rw [e1, e2, e3, w64s (by omega)]
      unfold flG
      cases m <;> cases z <;> cases p <;> rfl
    · intros; trivial
    · intro i h t rc _ hp
      simp only [dT (show (i : Int) < (s.length : Int) by omega), cond_true, Int.toNat_natCast, gd h, dnn, Bool.and_self, rq_tt, isF_cond, Option.bind_some, hp]
      rfl
    · intro t rc _
      simp only [dF (show ¬ (s.length : Int) < (s.length : Int) by omega), cond_false, Option.bind_some]
      rfl
  have hfl := fl_le (s.drop (a + 1))
  simp only [List.length_drop] at hfl
  obtain ⟨c, n, q1, q2⟩ := rdK_eq F s (a + 1 + (flS (s.drop (a + 1))).2) (flS (s.drop (a + 1))).1.1 (flS (s.drop (a + 1))).1.2.1 (flS (s.drop (a + 1))).1.2.2 (by omega) hl hF
  have hd1 : (s.drop a).drop 1 = s.drop (a + 1) := by rw [List.drop_drop]
  have hwid : wid (s.drop a) = ((num (s.drop (a + 1 + (flS (s.drop (a + 1))).2))).1, 1 + (flS (s.drop (a + 1))).2 + (num (s.drop (a + 1 + (flS (s.drop (a + 1))).2))).2) := by
    unfold wid
    rw [hd1, List.drop_drop, ← Nat.add_assoc]
  have hprec : ∀ e : Nat, prec (s.drop a) e = ((precR s (a + e)).1, (precR s (a + e)).2 - a) ∧ a + e ≤ (precR s (a + e)).2 := by
    intro e
    unfold prec precR
    have e1 : decide (e < (s.drop a).length) = decide (a + e < s.length) := by rw [Bool.eq_iff_iff, decide_eq_true_eq, decide_eq_true_eq, List.length_drop]; omega
    have e2 : (s.drop a).getD e 0 = s.getD (a + e) 0 := getD_drop s a e
    have e3 : (s.drop a).drop (e + 1) = s.drop (a + e + 1) := by rw [List.drop_drop, ← Nat.add_assoc]
    rw [e1, e2, e3]
    cases (decide (a + e < s.length) && (s.getD (a + e) 0 == 46)) with
    | false => simp only [cond_false]; exact ⟨by rw [Nat.add_sub_cancel_left], Nat.le_refl _⟩
    | true =>
      simp only [cond_true]
      refine ⟨?_, by omega⟩
      rw [show a + e + (1 + (num (s.drop (a + e + 1))).2) - a = e + (1 + (num (s.drop (a + e + 1))).2) by omega]
  obtain ⟨hp1, hp2⟩ := hprec (wid (s.drop a)).2
  have hidx : a + (wid (s.drop a)).2 = a + 1 + (flS (s.drop (a + 1))).2 + (num (s.drop (a + 1 + (flS (s.drop (a + 1))).2))).2 := by rw [hwid]; dsimp only; omega
  rw [hidx] at hp1 hp2
  have hok : okR s (a + 1 + (flS (s.drop (a + 1))).2) = (decide ((prec (s.drop a) (wid (s.drop a)).2).2 < (s.drop a).length) && (letOk ((s.drop a).getD (prec (s.drop a) (wid (s.drop a)).2).2 0) && (decide ((wid (s.drop a)).1 ≤ 4096) && decide ((prec (s.drop a) (wid (s.drop a)).2).1 ≤ 4096)))) := by
    unfold okR
    rw [hp1, getD_drop, hwid]
    dsimp only
    generalize (precR s (a + 1 + (flS (s.drop (a + 1))).2 + (num (s.drop (a + 1 + (flS (s.drop (a + 1))).2))).2)) = P at hp2 ⊢
    rw [show a + (P.2 - a) = P.2 by omega]
    have : decide (P.2 < s.length) = decide (P.2 - a < (s.drop a).length) := by rw [Bool.eq_iff_iff, decide_eq_true_eq, decide_eq_true_eq, List.length_drop]; omega
    rw [this]
  refine ⟨c, n, ?_, ?_⟩
  · rw [hloop, q1, hok]
    unfold readS
    cases (decide ((prec (s.drop a) (wid (s.drop a)).2).2 < (s.drop a).length) && (letOk ((s.drop a).getD (prec (s.drop a) (wid (s.drop a)).2).2 0) && (decide ((wid (s.drop a)).1 ≤ 4096) && decide ((prec (s.drop a) (wid (s.drop a)).2).1 ≤ 4096)))) <;> rfl
  · intro x k hx
    unfold readS at hx
    rw [← hok] at hx
    cases hb : okR s (a + 1 + (flS (s.drop (a + 1))).2) with
    | false => rw [hb] at hx; cases hx
    | true =>
      rw [hb] at hx
      cases hx
      obtain ⟨r1, r2⟩ := q2 hb
      rw [r1, r2, hd1]
      unfold Sp.c
      rw [hp1, getD_drop, hwid]
      dsimp only
      generalize (precR s (a + 1 + (flS (s.drop (a + 1))).2 + (num (s.drop (a + 1 + (flS (s.drop (a + 1))).2))).2)) = P at hp2 ⊢
      rw [show a + (P.2 - a) = P.2 by omega, show a + (P.2 - a + 1) = P.2 + 1 by omega]
      exact ⟨rfl, rfl⟩

end Go.Proofs.YtmcnemjnkiofdaaGreatDoor
