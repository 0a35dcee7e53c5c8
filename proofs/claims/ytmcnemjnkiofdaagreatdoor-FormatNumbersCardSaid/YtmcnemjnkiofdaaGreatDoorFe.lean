/-
  Format: passes over a format, and Printf, as plain functions.
-/
import Derived.Test.YtmcnemjnkiofdaaGreatDoorFd
namespace Go.Proofs.YtmcnemjnkiofdaaGreatDoor
open Go.RT
set_option linter.all false
set_option maxRecDepth 100000

/-- One step at a byte of the format: the state behind it, and how many bytes it takes. -/
def stepS (s : List UInt8) (p : St) : St × Nat :=
  cond (s.getD 0 0 == 92) (cond ((escS s 1).2 == 0) (putS [s.getD 0 0] p, 1) (putS (escS s 1).1 p, (escS s 1).2))
    (cond (s.getD 0 0 == 37) (match readS s with | none => ({ failS mInv p with ended := true }, 1) | some (x, n) => (putS (convS x p).1 (convS x p).2, n)) (putS [s.getD 0 0] p, 1))
def passN : Nat → List UInt8 → St → St
  | 0, _, p => p
  | _ + 1, [], p => p
  | k + 1, b :: t, p => cond (stepS (b :: t) p).1.ended (stepS (b :: t) p).1 (passN k ((b :: t).drop (stepS (b :: t) p).2) (stepS (b :: t) p).1)
theorem step_pos (b : UInt8) (t : List UInt8) (p : St) : 1 ≤ (stepS (b :: t) p).2 := by
  unfold stepS
  have hf := escS_facts (b :: t) 1 (.inl rfl)
  cases ((b :: t).getD 0 0 == 92) with
  | true =>
    cases he : ((escS (b :: t) 1).2 == 0) with
    | true => exact Nat.le_refl _
    | false =>
      rw [beq_eq_false_iff_ne] at he
      simp only [cond_true, cond_false]
      omega
  | false =>
    cases ((b :: t).getD 0 0 == 37) with
    | false => exact Nat.le_refl _
    | true =>
      simp only [cond_true, cond_false]
      cases hr : readS (b :: t) with
      | none => exact Nat.le_refl _
      | some y =>
        obtain ⟨x, n⟩ := y
        have := (readS_facts (by simp) hr).1
        show 1 ≤ n
        omega
theorem step_facts (s : List UInt8) (hs : 1 ≤ s.length) {p : St} (h : Ok p) : Ok (stepS s p).1 ∧ Take p (stepS s p).1 := by
  unfold stepS
  cases (s.getD 0 0 == 92) with
  | true => cases ((escS s 1).2 == 0) <;> exact ⟨putS_ok h, putS_take⟩
  | false =>
    cases (s.getD 0 0 == 37) with
    | false => exact ⟨putS_ok h, putS_take⟩
    | true =>
      simp only [cond_true, cond_false]
      cases hr : readS s with
      | none => exact ⟨⟨h.o, h.ops⟩, Take.same rfl rfl⟩
      | some y =>
        obtain ⟨x, n⟩ := y
        obtain ⟨f1, f2, f3, f4, f5, f6⟩ := readS_facts hs hr
        obtain ⟨c1, c2, c3⟩ := convS_facts (x := x) h f3 f5
        exact ⟨putS_ok c2, c3.trans putS_take⟩
theorem passN_facts : ∀ (k : Nat) (s : List UInt8) {p : St}, Ok p → Ok (passN k s p) ∧ Take p (passN k s p)
  | 0, s, p, h => ⟨h, .refl⟩
  | k + 1, [], p, h => ⟨h, .refl⟩
  | k + 1, b :: t, p, h => by
    obtain ⟨h1, h2⟩ := step_facts (b :: t) (by simp) h
    unfold passN
    cases (stepS (b :: t) p).1.ended with
    | true => exact ⟨h1, h2⟩
    | false =>
      obtain ⟨h3, h4⟩ := passN_facts k ((b :: t).drop (stepS (b :: t) p).2) h1
      exact ⟨h3, h2.trans h4⟩
theorem passN_irrel : ∀ (k m : Nat) (s : List UInt8) (p : St), s.length ≤ k → s.length ≤ m → passN k s p = passN m s p
  | 0, m, s, p, h, _ => by
    obtain rfl : s = [] := List.eq_nil_of_length_eq_zero (by omega)
    cases m <;> rfl
  | k + 1, 0, s, p, _, h => by
    obtain rfl : s = [] := List.eq_nil_of_length_eq_zero (by omega)
    rfl
  | k + 1, m + 1, [], p, _, _ => rfl
  | k + 1, m + 1, b :: t, p, h1, h2 => by
    have := step_pos b t p
    simp only [List.length_cons] at h1 h2
    unfold passN
    rw [passN_irrel k m _ _ (by simp; omega) (by simp; omega)]
theorem passN_cons {k : Nat} {s : List UInt8} (h1 : 1 ≤ s.length) (hk : s.length ≤ k) (p : St) :
    passN k s p = cond (stepS s p).1.ended (stepS s p).1 (passN (s.length - (stepS s p).2) (s.drop (stepS s p).2) (stepS s p).1) := by
  cases s with
  | nil => simp at h1
  | cons b t =>
    cases k with
    | zero => simp at hk
    | succ k =>
      have := step_pos b t p
      simp only [List.length_cons] at hk
      show cond _ _ _ = _
      rw [passN_irrel k ((b :: t).length - (stepS (b :: t) p).2) _ _ (by simp; omega) (by simp)]

/-- Bytes that go over as they are. -/
def ordB (s : List UInt8) : Bool := !(s.getD 0 0 == 37) && (!(s.getD 0 0 == 92) || (escS s 1).2 == 0)
theorem ord_step {s : List UInt8} (h : ordB s = true) (p : St) : stepS s p = (putS [s.getD 0 0] p, 1) := by
  unfold ordB at h
  rw [Bool.and_eq_true, Bool.or_eq_true] at h
  have h37 : (s.getD 0 0 == 37) = false := by simpa using h.1
  unfold stepS
  rw [h37]
  cases h92 : (s.getD 0 0 == 92) with
  | false => rfl
  | true =>
    rcases h.2 with h2 | h2
    · rw [h92] at h2; cases h2
    · rw [h2]; rfl
theorem ord_other {f : List UInt8} {j : Nat} (h37 : f.getD j 0 ≠ 37) (h92 : f.getD j 0 ≠ 92) : ordB (f.drop j) = true := by
  have e : (f.drop j).getD 0 0 = f.getD j 0 := by simp [List.getD]
  unfold ordB
  rw [e, beq_eq_false_iff_ne.2 h37, beq_eq_false_iff_ne.2 h92]
  rfl
theorem ord_big {f : List UInt8} {j : Nat} (h : 128 ≤ (f.getD j 0).toNat) : ordB (f.drop j) = true :=
  ord_other (fun e => by rw [e] at h; revert h; decide) (fun e => by rw [e] at h; revert h; decide)
theorem plain_nil (p : St) : plainS [] p = p := by
  unfold plainS
  rw [cf (by simp)]
  simp
theorem plain_cons (b : UInt8) (w : List UInt8) (p : St) (h : p.o.length < 65536) : plainS (b :: w) p = plainS w { p with o := p.o ++ [b] } := by
  unfold plainS
  have hl : (p.o ++ [b]).length = p.o.length + 1 := by simp
  simp only [hl, List.length_cons]
  by_cases hc : 65536 - (p.o.length + 1) < w.length
  · rw [ct (show 65536 - p.o.length < w.length + 1 by omega), ct hc]
    have : 65536 - p.o.length = (65536 - (p.o.length + 1)) + 1 := by omega
    rw [this, List.take_succ_cons]
    simp [failS]
  · rw [cf (show ¬ 65536 - p.o.length < w.length + 1 by omega), cf hc]
    simp
theorem pass_run : ∀ (m k : Nat) (s : List UInt8) (p : St), (∀ j, j < m → ordB (s.drop j) = true) → m ≤ s.length → s.length ≤ k → p.o.length ≤ 65536 → p.ended = false →
    passN k s p = cond (plainS (s.take m) p).ended (plainS (s.take m) p) (passN (s.length - m) (s.drop m) (plainS (s.take m) p))
  | 0, k, s, p, _, _, hk, _, he => by
    rw [List.take_zero, plain_nil, he, List.drop_zero, Nat.sub_zero]
    exact passN_irrel _ _ _ _ hk (Nat.le_refl _)
  | m + 1, k, [], p, _, h, _, _, _ => by simp at h
  | m + 1, k, b :: t, p, ho, h, hk, hp, he => by
    have h0 := ord_step (ho 0 (by omega)) p
    rw [List.drop_zero] at h0
    have hb : (b :: t).getD 0 0 = b := rfl
    rw [hb] at h0
    rw [passN_cons (by simp) hk, h0]
    rw [List.take_succ_cons]
    by_cases hfull : p.o.length = 65536
    · have e1 : (putS [b] p) = { failS mLong p with ended := true } := by unfold putS; rw [ct (by rw [hfull]; simp)]
      have e2 : plainS (b :: t.take m) p = { failS mLong p with ended := true } := by
        unfold plainS
        rw [ct (by rw [hfull]; simp), hfull]
        simp [failS]
      rw [e1, e2]
      rfl
    · have e1 : (putS [b] p) = { p with o := p.o ++ [b] } := by unfold putS; rw [cf (by show ¬ 65536 - p.o.length < 1; omega)]
      rw [e1, plain_cons b _ p (by omega)]
      have hqe : ({ p with o := p.o ++ [b] } : St).ended = false := he
      have hql : ({ p with o := p.o ++ [b] } : St).o.length ≤ 65536 := by show (p.o ++ [b]).length ≤ 65536; simp; omega
      generalize ({ p with o := p.o ++ [b] } : St) = q at hqe hql
      dsimp only
      rw [hqe]
      show passN ((b :: t).length - 1) t q = _
      have ih := pass_run m ((b :: t).length - 1) t q (fun j hj => by have := ho (j + 1) (by omega); simpa using this) (by simpa using h) (by simp) hql hqe
      rw [ih]
      simp only [List.length_cons, List.drop_succ_cons, Nat.add_sub_add_right]

/-! ### A pass -/
theorem condT {α : Type} {b : Bool} {x y : α} (h : b = true) : cond b x y = x := by rw [h]; rfl
theorem condF {α : Type} {b : Bool} {x y : α} (h : b = false) : cond b x y = y := by rw [h]; rfl
theorem jj_ret {σ R : Type} (x : Option R) (k : σ → Option R) : jj (retK x) k = x := by
  cases x <;> rfl
theorem jj_inl {σ R : Type} (s : σ) (k : σ → Option R) : jj (some (.inl s)) k = k s := rfl
theorem drop_take' {α : Type} (f : List α) (d i : Nat) (h : d ≤ i) : (f.take i).drop d = (f.drop d).take (i - d) := by
  rw [List.drop_take]
theorem pass_eq (F : Nat) (f : List UInt8) (p : St) (hp : Ok p) (he : p.ended = false) (hf : f.length ≤ 10000) (hF : f.length + 300 < F) :
    format_printer_pass F f p.t.1 p.t.2.1 p.t.2.2.1 p.t.2.2.2.1 p.t.2.2.2.2 = some (passN f.length f p).t := by
  unfold format_printer_pass
  refine loopF_hoare (z := some (passN f.length f p).t)
    (fun st => ∃ (q : St) (d i : Nat), st = ((d : Int), q.t.1, q.t.2.1, q.t.2.2.1, q.t.2.2.2.1, q.t.2.2.2.2, f, (i : Int)) ∧ d ≤ f.length ∧ i ≤ f.length ∧ Ok q ∧ q.ended = false ∧ (∀ j, d ≤ j → j < i → ordB (f.drop j) = true) ∧ passN f.length f p = passN (f.length - d) (f.drop d) q)
    (fun st => f.length - st.2.2.2.2.2.2.2.toNat) ?_ F _ ⟨p, 0, 0, rfl, Nat.zero_le _, Nat.zero_le _, hp, he, fun j h1 h2 => by omega, by simp⟩ (by simp; omega)
  rintro st ⟨q, d, i, rfl, hd, hi, hq, hqe, hord, hz⟩
  dsimp only
  rw [hz]
  clear hz
  have hplain := fun (w : List UInt8) (hw : w.length ≤ 100000) => plain_eq F w q hq.o hw
  by_cases hlt : i < f.length
  · have hb : Nat.blt (Int.toNat (i : Int)) f.length = true := blt_t (by rw [Int.toNat_natCast]; exact hlt)
    rw [hb]
    simp only [cond_true, Int.toNat_natCast]
    have hg : f.getD i 0 = f[i] := gd hlt
    have hdrop := List.drop_eq_getElem_cons hlt
    have hg0 : (f.drop i).getD 0 0 = f[i] := by rw [hdrop]; rfl
    -- what is skipped
    have skip : (∀ j, d ≤ j → j < i + (dec f i).2 → ordB (f.drop j) = true) → 1 ≤ (dec f i).2 → i + (dec f i).2 ≤ f.length →
        ∃ s', (∃ (q' : St) (d' i' : Nat), s' = ((d' : Int), q'.t.1, q'.t.2.1, q'.t.2.2.1, q'.t.2.2.2.1, q'.t.2.2.2.2, f, (i' : Int)) ∧ d' ≤ f.length ∧ i' ≤ f.length ∧ Ok q' ∧ q'.ended = false ∧ (∀ j, d' ≤ j → j < i' → ordB (f.drop j) = true) ∧ passN (f.length - d) (f.drop d) q = passN (f.length - d') (f.drop d') q') ∧ f.length - s'.2.2.2.2.2.2.2.toNat < f.length - i ∧
          s' = ((d : Int), q.t.1, q.t.2.1, q.t.2.2.1, q.t.2.2.2.1, q.t.2.2.2.2, f, ((i + (dec f i).2 : Nat) : Int)) := fun h1 h2 h3 =>
      ⟨_, ⟨q, d, i + (dec f i).2, rfl, hd, h3, hq, hqe, h1, rfl⟩, by show f.length - (((i + (dec f i).2 : Nat) : Int)).toNat < f.length - i; omega, rfl⟩
    have hfacts : ((dec f i).2 = 1 ∧ (dec f i).1 = f[i].toNat ∧ f[i].toNat < 128) ∨ (128 ≤ (dec f i).1 ∧ 1 ≤ (dec f i).2 ∧ i + (dec f i).2 ≤ f.length ∧ ∀ k, k < (dec f i).2 → 128 ≤ (f.getD (i + k) 0).toNat) := by
      by_cases h128 : (f.getD i 0).toNat < 128
      · left
        rw [dec_ascii h128, hg]
        exact ⟨rfl, rfl, by rw [← hg]; exact h128⟩
      · right
        obtain ⟨q1, q2, q3, q4⟩ := dec_span h128
        exact ⟨q1, q2, q3 hlt, q4⟩
    have hw1 : 1 ≤ (dec f i).2 ∧ i + (dec f i).2 ≤ f.length := by
      rcases hfacts with ⟨h, -, -⟩ | ⟨-, h1, h2, -⟩
      · omega
      · exact ⟨h1, h2⟩
    by_cases hid : i < d
    · obtain ⟨s', t1, t2, t3⟩ := skip (fun j h1 h2 => by
        rcases hfacts with ⟨h, -, -⟩ | ⟨-, -, -, h⟩
        · omega
        · have := h (j - i) (by omega)
          rw [show i + (j - i) = j by omega] at this
          exact ord_big this) hw1.1 hw1.2
      refine .inl ⟨s', t1, t2, fun rc => ?_⟩
      rw [ct (show (i : Int) < (d : Int) by omega), t3]
      rfl
    · by_cases hsp : (dec f i).1 = 92 ∨ (dec f i).1 = 37
      · rcases hfacts with ⟨h1, h2, h3⟩ | ⟨h1, -, -, -⟩
        rotate_left
        · omega
        have hfi : f[i] = 92 ∨ f[i] = 37 := by
          rw [h2] at hsp
          rcases hsp with h | h
          · exact .inl (UInt8.toNat.inj h)
          · exact .inr (UInt8.toNat.inj h)
        have hcond : (cond (decide ((i : Int) < (d : Int))) (some true) (cond (((dec f i).1 : Int) != 92) (some (((dec f i).1 : Int) != 37)) (some false)) : Option Bool) = some false := by
          rw [cf (by omega)]
          rcases hsp with h | h <;> rw [h] <;> rfl
        rw [hcond]
        simp only [Option.bind_some, cond_false]
        have hslw : sl f (d : Int) (i : Int) = (f.drop d).take (i - d) := by rw [sl_nat, drop_take' f d i (by omega)]
        have hrun := pass_run (i - d) (f.length - d) (f.drop d) q (fun j hj => by rw [List.drop_drop]; exact hord (d + j) (by omega) (by omega)) (by simp; omega) (by simp) hq.o hqe
        rw [List.drop_drop, show d + (i - d) = i by omega, show (f.drop d).length - (i - d) = f.length - i by simp; omega] at hrun
        have hpl := hplain ((f.drop d).take (i - d)) (by simp; omega)
        have hq2 : Ok (plainS ((f.drop d).take (i - d)) q) := plainS_ok hq
        generalize hq' : plainS ((f.drop d).take (i - d)) q = q2 at hrun hpl hq2
        have hr3 : (decide (0 ≤ (d : Int)) && (decide ((d : Int) ≤ (i : Int)) && decide ((i : Int) ≤ (f.length : Int)))) = true := by rw [dT (by omega), dT (by omega), dT (by omega)]; rfl
        have hr4 : (decide (0 ≤ (i : Int)) && (decide ((i : Int) ≤ (f.length : Int)) && decide ((f.length : Int) ≤ (f.length : Int)))) = true := by rw [dT (by omega), dT (by omega), dT (by omega)]; rfl
        have hsle : sl f (i : Int) (f.length : Int) = f.drop i := sl_end f i
        rw [hrun]
        -- what follows a step
        have after : ∀ (q3 : St) (n : Nat), stepS (f.drop i) q2 = (q3, n) → q2.ended = false → 1 ≤ n → i + n ≤ f.length → q3.ended = false →
            ∃ s', (∃ (q' : St) (d' i' : Nat), s' = ((d' : Int), q'.t.1, q'.t.2.1, q'.t.2.2.1, q'.t.2.2.2.1, q'.t.2.2.2.2, f, (i' : Int)) ∧ d' ≤ f.length ∧ i' ≤ f.length ∧ Ok q' ∧ q'.ended = false ∧ (∀ j, d' ≤ j → j < i' → ordB (f.drop j) = true) ∧ cond q2.ended q2 (passN (f.length - i) (f.drop i) q2) = passN (f.length - d') (f.drop d') q') ∧ f.length - s'.2.2.2.2.2.2.2.toNat < f.length - i ∧
              s' = (((i + n : Nat) : Int), q3.t.1, q3.t.2.1, q3.t.2.2.1, q3.t.2.2.2.1, q3.t.2.2.2.2, f, ((i + 1 : Nat) : Int)) := by
          intro q3 n hst hq2e hn1 hn2 hq3e
          have hok := (step_facts (f.drop i) (by simp; omega) hq2).1
          rw [hst] at hok
          refine ⟨_, ⟨q3, i + n, i + 1, rfl, hn2, by omega, hok, hq3e, fun j a b => by omega, ?_⟩, by show f.length - (((i + 1 : Nat) : Int)).toNat < f.length - i; omega, rfl⟩
          rw [hq2e, passN_cons (by simp; omega) (by simp), hst]
          dsimp only
          rw [hq3e]
          simp only [cond_false, List.drop_drop, List.length_drop]
          exact passN_irrel _ _ _ _ (by simp; omega) (by simp)
        rcases hfi with hfi | hfi
        · -- a backslash
          have hd92 : (dec f i).1 = 92 := by rw [h2, hfi]; rfl
          have c1 : (((dec f i).1 : Int) == 92) = true := by rw [hd92]; rfl
          have c2 : (((dec f i).1 : Int) == 37) = false := by rw [hd92]; rfl
          have hesc := escape_eq F (f.drop i) 1 (.inl rfl) (by omega) (by simp; omega)
          have hesc' : format_escape F (f.drop i) 1 = some ((escS (f.drop i) 1).1, ((escS (f.drop i) 1).2 : Int)) := hesc
          have hef := escS_facts (f.drop i) 1 (.inl rfl)
          simp only [List.length_drop] at hef
          simp only [c1, c2, cond_true, cond_false, hr4, rq_tt, hsle, hesc', Option.bind_some]
          cases ha : ((escS (f.drop i) 1).2 == 0) with
          | true =>
            rw [beq_iff_eq] at ha
            have ho : ordB (f.drop i) = true := by unfold ordB; rw [hg0, hfi, ha]; rfl
            obtain ⟨s', t1, t2, t3⟩ := skip (fun j a b => by
              rcases Nat.lt_or_ge j i with hj | hj
              · exact hord j a hj
              · obtain rfl : j = i := by omega
                exact ho) hw1.1 hw1.2
            rw [hrun] at t1
            refine .inl ⟨s', t1, t2, fun rc => ?_⟩
            rw [ha]
            simp only [Int.natCast_zero, beq_self_eq_true, cond_true]
            rw [jj_ret, t3]
          | false =>
            have ha' : (((escS (f.drop i) 1).2 : Int) == 0) = false := by rw [beq_eq_false_iff_ne] at ha ⊢; omega
            simp only [ha', cond_false, jj_inl, hr3, rq_tt, hslw, hpl, Option.bind_some]
            have hst : stepS (f.drop i) q2 = (putS (escS (f.drop i) 1).1 q2, (escS (f.drop i) 1).2) := by
              unfold stepS
              rw [hg0, hfi, ha]
              rfl
            rw [beq_eq_false_iff_ne] at ha
            cases hq2e : q2.ended with
            | true =>
              refine .inr fun rc => ?_
              have : q2.t.2.2.2.1 = true := hq2e
              rw [condT this]
              rfl
            | false =>
              have e1 : q2.t.2.2.2.1 = false := hq2e
              have hput := put_eq F (escS (f.drop i) 1).1 q2 hq2.o (by omega)
              rw [e1] at hput
              simp only [e1, cond_false, hput, Option.bind_some]
              cases hq3e : (putS (escS (f.drop i) 1).1 q2).ended with
              | true =>
                refine .inr fun rc => ?_
                have : (putS (escS (f.drop i) 1).1 q2).t.2.2.2.1 = true := hq3e
                rw [condT this]
                rw [passN_cons (by simp; omega) (by simp), hst]
                dsimp only
                rw [hq3e]
                rfl
              | false =>
                obtain ⟨s', t1, t2, t3⟩ := after _ _ hst hq2e (by omega) (by omega) hq3e
                rw [hq2e] at t1
                refine .inl ⟨s', t1, t2, fun rc => ?_⟩
                have : (putS (escS (f.drop i) 1).1 q2).t.2.2.2.1 = false := hq3e
                rw [condF this]
                rw [t3, w64_in (by omega), h1]
                congr 2
        · -- a percent sign
          have hd37 : (dec f i).1 = 37 := by rw [h2, hfi]; rfl
          have c1 : (((dec f i).1 : Int) == 92) = false := by rw [hd37]; rfl
          have c2 : (((dec f i).1 : Int) == 37) = true := by rw [hd37]; rfl
          simp only [c1, c2, cond_true, cond_false, jj_inl, hr3, hr4, rq_tt, hsle, hslw, hpl, Option.bind_some]
          cases hq2e : q2.ended with
          | true =>
            refine .inr fun rc => ?_
            have : q2.t.2.2.2.1 = true := hq2e
            rw [condT this]
            rfl
          | false =>
            have e1 : q2.t.2.2.2.1 = false := hq2e
            have hcv := conversion_eq F (f.drop i) q2 hq2 (by simp; omega) (by simp; omega) (by simp; omega)
            rw [e1] at hcv
            simp only [e1, cond_false, hcv]
            cases hrd : readS (f.drop i) with
            | none =>
              have hst : stepS (f.drop i) q2 = ({ failS mInv q2 with ended := true }, 1) := by
                unfold stepS
                rw [hg0, hfi, hrd]
                rfl
              refine .inr fun rc => ?_
              have hput := put_eq F [] { failS mInv q2 with ended := true } hq2.o (by simp)
              have hp0 : putS [] { failS mInv q2 with ended := true } = { failS mInv q2 with ended := true } := by
                unfold putS
                rw [cf (by simp)]
                simp
              rw [hp0] at hput
              simp only [Option.bind_some]
              rw [hput]
              simp only [Option.bind_some]
              have : ({ failS mInv q2 with ended := true } : St).t.2.2.2.1 = true := rfl
              rw [condT this]
              rw [passN_cons (by simp; omega) (by simp), hst]
              rfl
            | some y =>
              obtain ⟨x, n⟩ := y
              obtain ⟨f1, f2, f3, f4, f5, f6⟩ := readS_facts (by simp; omega) hrd
              simp only [List.length_drop] at f2
              obtain ⟨g1, g2, g3⟩ := convS_facts (x := x) hq2 f3 f5
              have hst : stepS (f.drop i) q2 = (putS (convS x q2).1 (convS x q2).2, n) := by
                unfold stepS
                rw [hg0, hfi, hrd]
                rfl
              have hput := put_eq F (convS x q2).1 (convS x q2).2 g2.o (by omega)
              simp only [Option.bind_some]
              rw [hput]
              simp only [Option.bind_some]
              cases hq3e : (putS (convS x q2).1 (convS x q2).2).ended with
              | true =>
                refine .inr fun rc => ?_
                have : (putS (convS x q2).1 (convS x q2).2).t.2.2.2.1 = true := hq3e
                rw [condT this]
                rw [passN_cons (by simp; omega) (by simp), hst]
                dsimp only
                rw [hq3e]
                rfl
              | false =>
                obtain ⟨s', t1, t2, t3⟩ := after _ _ hst hq2e (by omega) (by omega) hq3e
                rw [hq2e] at t1
                refine .inl ⟨s', t1, t2, fun rc => ?_⟩
                have : (putS (convS x q2).1 (convS x q2).2).t.2.2.2.1 = false := hq3e
                rw [condF this]
                rw [t3, w64_in (by omega), h1]
                congr 2
      · have hne : (dec f i).1 ≠ 92 ∧ (dec f i).1 ≠ 37 := ⟨fun h => hsp (.inl h), fun h => hsp (.inr h)⟩
        obtain ⟨s', t1, t2, t3⟩ := skip (fun j a b => by
          rcases Nat.lt_or_ge j i with hj | hj
          · exact hord j a hj
          · rcases hfacts with ⟨h1, h2, h3⟩ | ⟨-, -, -, h⟩
            · obtain rfl : j = i := by omega
              rw [h2] at hne
              exact ord_other (by rw [hg]; exact fun e => hne.2 (by rw [e]; rfl)) (by rw [hg]; exact fun e => hne.1 (by rw [e]; rfl))
            · have := h (j - i) (by omega)
              rw [show i + (j - i) = j by omega] at this
              exact ord_big this) hw1.1 hw1.2
        refine .inl ⟨s', t1, t2, fun rc => ?_⟩
        rw [cf (by omega)]
        have e1 : (((dec f i).1 : Int) != 92) = true := by rw [bne_iff_ne]; omega
        have e2 : (((dec f i).1 : Int) != 37) = true := by rw [bne_iff_ne]; omega
        rw [e1, e2, t3]
        rfl
  · obtain rfl : i = f.length := by omega
    have hb : Nat.blt (Int.toNat (f.length : Int)) f.length = false := blt_f (by rw [Int.toNat_natCast]; omega)
    refine .inr fun rc => ?_
    rw [hb]
    simp only [cond_false]
    rw [rq3 (by omega) (by omega) (Int.le_refl _), sl_end, hplain (f.drop d) (by simp; omega)]
    simp only [Option.bind_some]
    have hrun := pass_run (f.length - d) (f.length - d) (f.drop d) q (fun j hj => by rw [List.drop_drop]; exact hord (d + j) (by omega) (by omega)) (by simp) (by simp) hq.o hqe
    rw [List.take_of_length_le (by simp), show (f.drop d).length - (f.length - d) = 0 by simp] at hrun
    rw [hrun]
    cases (plainS (f.drop d) q).ended <;> rfl

/-! ### Printf -/
def prN : Nat → List UInt8 → St → St
  | 0, _, p => p
  | k + 1, f, p => cond ((passN f.length f { p with used := false }).ended || (!(passN f.length f { p with used := false }).used || (passN f.length f { p with used := false }).ops.length == 0))
      (passN f.length f { p with used := false }) (prN k f (passN f.length f { p with used := false }))
def outS (p : St) : List UInt8 × List UInt8 × Int := cond (!(p.msg == [])) (p.o, p.msg, 1) (p.o, [], 0)
abbrev mMiss : List UInt8 := [109, 105, 115, 115, 105, 110, 103, 32, 102, 111, 114, 109, 97, 116]
def prS (args : List (List UInt8)) : List UInt8 × List UInt8 × Int := match args with
  | [] => ([], mMiss, 2)
  | f :: l => outS (prN (l.length + 1) f ⟨[], l, false, false, []⟩)
theorem pass_used {f : List UInt8} {p : St} (h : Ok p) : Ok (passN f.length f { p with used := false }) ∧ ((passN f.length f { p with used := false }).used = true → (passN f.length f { p with used := false }).ops.length < p.ops.length) := by
  obtain ⟨h1, h2⟩ := passN_facts f.length f (p := { p with used := false }) ⟨h.o, h.ops⟩
  refine ⟨h1, fun hu => ?_⟩
  rcases h2.used hu with h3 | h3
  · cases h3
  · exact h3
theorem prN_ok : ∀ (k : Nat) (f : List UInt8) (p : St), Ok p → Ok (prN k f p)
  | 0, f, p, h => h
  | k + 1, f, p, h => by
    unfold prN
    have := (pass_used (f := f) h).1
    cases ((passN f.length f { p with used := false }).ended || (!(passN f.length f { p with used := false }).used || (passN f.length f { p with used := false }).ops.length == 0)) with
    | true => exact this
    | false => exact prN_ok k f _ this
theorem printf_eq (F : Nat) (args : List (List UInt8)) (h : ∀ a ∈ args, a.length ≤ 60) (hl : args.length ≤ 100) (hF : 1000 < F) : format_Printf F args = some (prS args) := by
  unfold format_Printf prS
  cases args with
  | nil => rfl
  | cons f l =>
    have e0 : (((f :: l).length : Int) == 0) = false := by rw [beq_eq_false_iff_ne]; simp; omega
    have hf := h f (by simp)
    rw [e0]
    simp only [cond_false]
    rw [rq2 (by simp; omega) (Int.le_refl _), sl_1]
    have hg : (f :: l).getD 0 [] = f := rfl
    simp only [hg, List.drop_succ_cons, List.drop_zero]
    simp only [List.length_cons] at hl
    refine loopF_hoare (z := some (outS (prN (l.length + 1) f ⟨[], l, false, false, []⟩)))
      (fun st => ∃ (p : St) (k : Nat), st = p.t ∧ Ok p ∧ p.ended = false ∧ p.ops.length ≤ k ∧ prN (l.length + 1) f ⟨[], l, false, false, []⟩ = prN (k + 1) f p) (fun st => st.2.1.length) ?_ F _
      ⟨⟨[], l, false, false, []⟩, l.length, rfl, ⟨by simp, fun a ha => h a (by simp [ha])⟩, rfl, Nat.le_refl _, rfl⟩ (by show l.length < F; omega)
    rintro st ⟨p, k, rfl, hp, he, hk, hz⟩
    simp only [rq1 (show (0 : Int) < ((f :: l).length : Int) by simp <;> omega)]
    have hps := pass_eq F f { p with used := false } ⟨hp.o, hp.ops⟩ he (by omega) (by omega)
    have hps' : format_printer_pass F f p.t.1 p.t.2.1 false p.t.2.2.2.1 p.t.2.2.2.2 = some (passN f.length f { p with used := false }).t := hps
    rw [hps', hz]
    obtain ⟨hq, hu⟩ := pass_used (f := f) hp
    simp only [Option.bind_some]
    unfold prN
    generalize hqq : passN f.length f { p with used := false } = q at hq hu ⊢
    have hc : ∀ K : Bool → Option (List UInt8 × List UInt8 × Int), ((cond q.t.2.2.2.1 (some true) (some (!q.t.2.2.1)) : Option Bool).bind fun x4 => (cond x4 (some true) (some ((q.t.2.1.length : Int) == 0)) : Option Bool).bind K) = K (q.ended || (!q.used || q.ops.length == 0)) := by
      intro K
      show ((cond q.ended (some true) (some (!q.used)) : Option Bool).bind fun x4 => (cond x4 (some true) (some ((q.ops.length : Int) == 0)) : Option Bool).bind K) = _
      have : ((q.ops.length : Int) == 0) = (q.ops.length == 0) := by rw [Bool.eq_iff_iff, beq_iff_eq, beq_iff_eq]; omega
      rw [this]
      cases q.ended <;> cases q.used <;> rfl
    simp only [hc]
    cases hb : (q.ended || (!q.used || q.ops.length == 0)) with
    | true =>
      refine .inr fun rc => ?_
      simp only [cond_true]
      show (cond (!(q.msg == [])) (some (toBytes (toInts q.o), q.msg, 1)) (some (toBytes (toInts q.o), [], 0)) : Option (List UInt8 × List UInt8 × Int)) = _
      rw [bytes_rt]
      unfold outS
      cases (!(q.msg == [])) <;> rfl
    | false =>
      rw [Bool.or_eq_false_iff, Bool.or_eq_false_iff] at hb
      have hus := hu (by simpa using hb.2.1)
      cases k with
      | zero => omega
      | succ k =>
        refine .inl ⟨q.t, ⟨q, k, rfl, hq, hb.1, by omega, rfl⟩, by show q.ops.length < p.ops.length; exact hus, fun rc => rfl⟩

end Go.Proofs.YtmcnemjnkiofdaaGreatDoor
