/-
  The plain laws of CalcAssigns, CalcDivides and CalcCompares.
-/
import Derived.Test.YtamjncikmfpihaaGreatDoorEk
namespace Go.Proofs.YtamjncikmfpihaaGreatDoor
open Go.RT
set_option linter.all false
set_option maxRecDepth 100000

/-! ### Numerals read back -/
theorem dR_digit {d : Nat} (h : d < 10) : dR (UInt8.ofNat (48 + d)) = (d : Int) := by
  have : d = 0 ∨ d = 1 ∨ d = 2 ∨ d = 3 ∨ d = 4 ∨ d = 5 ∨ d = 6 ∨ d = 7 ∨ d = 8 ∨ d = 9 := by omega
  rcases this with rfl | rfl | rfl | rfl | rfl | rfl | rfl | rfl | rfl | rfl <;> rfl
theorem digits_ok (u : Nat) : okD 10 (Lib.decDigits u) = true ∧ valN 10 0 (Lib.decDigits u) = u ∧ Lib.decDigits u ≠ [] ∧ (1 ≤ u → ∃ b t, Lib.decDigits u = b :: t ∧ b ≠ 48) ∧ (∃ b t, Lib.decDigits u = b :: t ∧ 48 ≤ (b.toNat : Int) ∧ (b.toNat : Int) ≤ 57) := by
  induction u using Nat.strongRecOn with
  | _ u ih =>
    by_cases h9 : u < 10
    · rw [Lib.decDigits_one h9]
      have : u = 0 ∨ u = 1 ∨ u = 2 ∨ u = 3 ∨ u = 4 ∨ u = 5 ∨ u = 6 ∨ u = 7 ∨ u = 8 ∨ u = 9 := by omega
      rcases this with rfl | rfl | rfl | rfl | rfl | rfl | rfl | rfl | rfl | rfl <;> exact ⟨by decide, by decide, by decide, fun h => ⟨_, [], rfl, by revert h; decide⟩, ⟨_, [], rfl, by decide⟩⟩
    · obtain ⟨h1, h2, h3, h4, h5⟩ := ih (u / 10) (by omega)
      rw [Lib.decDigits.eq_1 u, dif_neg h9]
      have hd := dR_digit (Nat.mod_lt u (show 0 < 10 by decide))
      refine ⟨?_, ?_, by simp, fun _ => ?_, ?_⟩
      · unfold okD at h1 ⊢
        rw [List.all_append, h1]
        simp only [List.all_cons, List.all_nil, Bool.and_true, Bool.true_and, hd]
        rw [decide_eq_true (by omega), decide_eq_true (by omega)]
        rfl
      · unfold valN at h2 ⊢
        rw [List.foldl_append, h2]
        simp only [List.foldl_cons, List.foldl_nil, hd]
        omega
      · obtain ⟨b, t, e, hb⟩ := h4 (by omega)
        exact ⟨b, t ++ [_], by rw [e]; rfl, hb⟩
      · obtain ⟨b, t, e, hb⟩ := h5
        exact ⟨b, t ++ [_], by rw [e]; rfl, hb⟩
theorem magS_digits {u : Nat} (h : u ≤ 9223372036854775808) : magS (Lib.decDigits u) = ((u : Int), 0) := by
  obtain ⟨h1, h2, h3, h4, _⟩ := digits_ok u
  by_cases h0 : u = 0
  · subst h0; rw [Lib.decDigits_one (by omega)]; rfl
  obtain ⟨b, t, e, hb⟩ := h4 (by omega)
  have hne : ((48 : UInt8) == b) = false := by rw [beq_eq_false_iff_ne]; exact fun e => hb e.symm
  have p1 : ([48, 120] : List UInt8).isPrefixOf (b :: t) = false := by simp only [List.isPrefixOf, hne, Bool.false_and]
  have p2 : ([48, 88] : List UInt8).isPrefixOf (b :: t) = false := by simp only [List.isPrefixOf, hne, Bool.false_and]
  have p3 : ([48] : List UInt8).isPrefixOf (b :: t) = false := by simp only [List.isPrefixOf, hne, Bool.false_and]
  unfold magS baseC
  rw [e, p1, p2, p3, ← e]
  simp only [Bool.or_self, cond_false]
  rw [show (Lib.decDigits u == []) = false by rw [beq_eq_false_iff_ne]; exact h3]
  simp only [cond_false]
  unfold resM
  rw [show okD ((10 : Nat) : Int) (Lib.decDigits u) = true from h1, h2, decide_eq_true h]
  rfl
theorem intS_itoa {n : Int} (h : R64 n) : intS (Lib.itoa n) = (n, true) := by
  unfold R64 at h
  by_cases h0 : 0 ≤ n
  · obtain ⟨u, rfl⟩ : ∃ u : Nat, n = u := ⟨n.toNat, by omega⟩
    rw [Lib.itoa_nonneg]
    obtain ⟨_, _, h3, _, b, t, e, hb1, hb2⟩ := digits_ok u
    have hm := magS_digits (u := u) (by omega)
    have ne1 : ((b.toNat : Int) == 45) = false := ne_beq (by omega)
    have ne2 : ((b.toNat : Int) == 43) = false := ne_beq (by omega)
    have ht : tailS (Lib.decDigits u) = Lib.decDigits u := by
      unfold tailS
      rw [e]
      simp only [List.getD_cons_zero, ne1, ne2, Bool.or_self, cond_false]
    unfold intS
    rw [ht, hm]
    rw [show (Lib.decDigits u == []) = false by rw [beq_eq_false_iff_ne]; exact h3]
    rw [e]
    simp only [List.getD_cons_zero, ne1, cond_false, bne_self_eq_false, Bool.false_or]
    rw [ne_beq (show (u : Int) ≠ 9223372036854775808 by omega), w64_in (by omega)]
    rfl
  · obtain ⟨u, rfl⟩ : ∃ u : Nat, n = -(u : Int) := ⟨(-n).toNat, by omega⟩
    rw [Lib.itoa_neg u (by omega)]
    have hm := magS_digits (u := u) (by omega)
    have ht : tailS (45 :: Lib.decDigits u) = Lib.decDigits u := rfl
    unfold intS
    rw [ht, hm]
    show cond ((0 : Int) != 0 || ((u : Int) == 9223372036854775808 && false)) (0, false) (w64 (IntKind.wrap .u64 (0 - (u : Int))), true) = _
    rw [Bool.and_false]
    show (w64 (IntKind.wrap .u64 (0 - (u : Int))), true) = _
    congr 1
    have e1 : IntKind.wrap .u64 (0 - (u : Int)) = 18446744073709551616 - (u : Int) := by
      show (0 - (u : Int)) % (2 ^ 64 : Int) = _
      omega
    rw [e1]
    have e2 : (18446744073709551616 - (u : Int)) % (2 ^ 64 : Int) = 18446744073709551616 - (u : Int) := Int.emod_eq_of_lt (by omega) (by omega)
    show (if (true && decide ((18446744073709551616 - (u : Int)) % (2 ^ 64 : Int) ≥ (2 ^ 63 : Int))) = true then (18446744073709551616 - (u : Int)) % (2 ^ 64 : Int) - (2 ^ 64 : Int) else (18446744073709551616 - (u : Int)) % (2 ^ 64 : Int)) = _
    rw [e2, if_pos (by simp; omega)]
    omega

/-! ### A list that is ascending is its own -/
theorem insB_last (k v : List UInt8) : ∀ (o : List TBinding), (∀ x, x ∈ o → x.fName < k) → insB k v o false = o ++ [⟨k, v⟩]
  | [], _ => rfl
  | x :: o, h => by
    have hx := h x (by simp)
    have hn : (x.fName == k) = false := by rw [beq_eq_false_iff_ne]; rintro e; rw [e] at hx; exact lt_irrefl' _ hx
    unfold insB
    rw [(bl_lt _ _).2 hx, hn]
    simp only [Bool.not_true, Bool.and_false, cond_false, Bool.or_false, List.nil_append, List.singleton_append, List.cons_append]
    rw [insB_last k v o fun y hy => h y (List.mem_cons_of_mem _ hy)]
theorem ins_fold : ∀ (l o : List TBinding), Asc (o ++ l) → l.foldl (fun o b => insB b.fName b.fValue o false) o = o ++ l
  | [], o, _ => by simp
  | b :: l, o, h => by
    rw [List.foldl_cons, insB_last _ _ o fun x hx => (List.pairwise_append.1 h).2.2 x hx b (by simp)]
    have e : o ++ b :: l = (o ++ [b]) ++ l := by simp
    refine (ins_fold l (o ++ [b]) (by rw [e] at h; exact h)).trans e.symm
theorem toB_env {l : List TBinding} (h : Asc l) (hb : Bnds l) : toB (envOf l) = l := by
  have := (env_fold l [] Eo_nil hb).2
  rw [toB_nil] at this
  unfold envOf
  rw [this, ins_fold l [] (by simpa using h)]
  simp
theorem toB_bnds {c : Nat} {m : Env} (h : Eo c m) : Bnds (toB m) := by
  intro b hb
  rw [toB_mem] at hb
  obtain ⟨k, hk, rfl⟩ := hb
  obtain ⟨p, hp, rfl⟩ := List.mem_map.1 hk
  exact ⟨(h.sz p hp).1, h.get _⟩

/-- The law's look at the bindings. -/
theorem look_loop {R : Type} {fin : Bool → Option R} {out : List TBinding} {name val : List UInt8} {F : Nat} {n : Int} (hF : out.length < F) (hl : out.length ≤ 1000000) (ha : Asc out) (hd : ref05_Decimal F n = some val) (z : R) :
    loopF (σ := Bool × Int) (R := R) (fun rc11 x10 =>
 cond (decide (x10.2 < (out.length : Int)))
 ((cond x10.1
 (some true)
 (rq ((decide (0 ≤ x10.2)) && (decide (x10.2 < (out.length : Int)))) (cond (((out.getD (Int.toNat x10.2) dTBinding).fName) == name)
 (rq ((decide (0 ≤ x10.2)) && (decide (x10.2 < (out.length : Int)))) ((ref05_Decimal F n).bind fun x13 =>
 some (((out.getD (Int.toNat x10.2) dTBinding).fValue) == x13)))
 (some false))) : Option Bool).bind fun x12 =>
 (cond (decide (0 < x10.2))
 (rq ((decide (0 ≤ w64 (x10.2 - 1))) && (decide (w64 (x10.2 - 1) < (out.length : Int)))) (rq ((decide (0 ≤ x10.2)) && (decide (x10.2 < (out.length : Int)))) (some (!(Op.bytesLess ((out.getD (Int.toNat (w64 (x10.2 - 1))) dTBinding).fName) ((out.getD (Int.toNat x10.2) dTBinding).fName))))))
 (some false) : Option Bool).bind fun x14 =>
 cond x14
 (some z)
 (rc11 (x12, w64 (x10.2 + 1))))
 (fin x10.1)) F (false, 0) = fin (out.any fun b => b.fName == name && b.fValue == val) := by
  have hfold : ∀ (l : List TBinding) (b : Bool), l.foldl (fun t b => t || (b.fName == name && b.fValue == val)) b = (b || l.any fun b => b.fName == name && b.fValue == val) := by
    intro l
    induction l with
    | nil => intro b; simp
    | cons x l ih => intro b; rw [List.foldl_cons, ih, List.any_cons, Bool.or_assoc]
  refine loopF_foldI out (fun i (t : Bool) => (t, (i : Int))) (fun t b => t || (b.fName == name && b.fValue == val)) (fun _ _ => True) (t := false) hF rfl trivial ?_ (fun _ _ _ _ => trivial) ?_
  · intro i h t rc _
    simp only [dlt h, dnn, Bool.and_self, cond_true, rq_tt, Int.toNat_natCast, gd h, w64_nat (i := i) (by omega), hd, Option.bind_some]
    have e1 : (cond t (some true) (cond (out[i].fName == name) (some (out[i].fValue == val)) (some false)) : Option Bool) = some (t || (out[i].fName == name && out[i].fValue == val)) := by
      cases t <;> cases (out[i].fName == name) <;> rfl
    rw [e1]
    simp only [Option.bind_some]
    have e2 : (cond (decide (0 < (i : Int))) (rq ((decide (0 ≤ w64 ((i : Int) - 1))) && (decide (w64 ((i : Int) - 1) < (out.length : Int)))) (some (!(Op.bytesLess ((out.getD (Int.toNat (w64 ((i : Int) - 1))) dTBinding).fName) (out[i].fName))))) (some false) : Option Bool) = some false := by
      cases i with
      | zero => rfl
      | succ i =>
        have hw : w64 (((i + 1 : Nat) : Int) - 1) = (i : Int) := by rw [w64_in (by omega)]; omega
        rw [hw, decide_eq_true (by omega), dnn, dlt (show i < out.length by omega)]
        simp only [Bool.and_self, rq_tt, cond_true, Int.toNat_natCast, gd (show i < out.length by omega)]
        have := List.pairwise_iff_getElem.1 ha i (i + 1) (by omega) h (by omega)
        rw [(bl_lt _ _).2 this]
        rfl
    rw [e2]
    rfl
  · intro rc _
    simp only [dltn, cond_false]
    rw [hfold, Bool.false_or]

theorem ok_set {name : List UInt8} {e : TExpr} (hn : name.length ≤ 60) (he : okTExpr e) : okTExpr (.mk 26 0 name [e]) :=
  .mk 26 0 name [e] (by decide) (by decide) (Nat.le_trans hn (by decide)) (by simp; decide) (by simp; exact he)
theorem ok_var {name : List UInt8} (hn : name.length ≤ 60) : okTExpr (.mk 2 0 name []) :=
  .mk 2 0 name [] (by decide) (by decide) (Nat.le_trans hn (by decide)) (by simp) (by simp)
theorem valid_set_var {name : List UInt8} {e : TExpr} (h : validS (.mk 26 0 name [e]) 0 = 0) : validS (.mk 2 0 name []) 0 = 0 ∧ validS e 1 = 0 := by
  have h' : cond (decide ((32 : Int) ≤ 0)) 5 (cond (shapeBad 26 0 name 1) 1 (cond (isNm 26 && !rName name) 10 (validL [e] (0 + 1)))) = (0 : Int) := h
  rw [show decide ((32 : Int) ≤ 0) = false from rfl, show isNm 26 = true from rfl] at h'
  simp only [cond_false, Bool.true_and] at h'
  show cond (decide ((32 : Int) ≤ 0)) 5 (cond (shapeBad 2 0 name 0) 1 (cond (isNm 2 && !rName name) 10 (validL [] (0 + 1)))) = (0 : Int) ∧ _
  rw [show decide ((32 : Int) ≤ 0) = false from rfl, show isNm 2 = true from rfl]
  simp only [cond_false, Bool.true_and]
  cases hs : shapeBad 26 0 name 1 with
  | true => rw [hs] at h'; cases h'
  | false =>
    rw [hs] at h'
    cases hr : rName name with
    | false => rw [hr] at h'; cases h'
    | true =>
      rw [hr] at h'
      simp only [cond_false, Bool.not_true] at h'
      have hne : (name == []) = false := by
        cases hn : (name == []) with
        | false => rfl
        | true =>
          have : name = [] := by simpa using hn
          subst this
          cases hr
      refine ⟨?_, (validL_zero [e] _).1 h' e (by simp)⟩
      unfold shapeBad
      rw [hne]
      rfl

theorem calcAssigns_plain (a0 : List UInt8) (a1 : TExpr) (a2 : List TBinding) (q1 : okTExpr a1) : ∃ F, law06_CalcAssigns F a0 a1 a2 = some true := by
  have main : Evt fun F _ => law06_CalcAssigns F a0 a1 a2 = some true := by
    by_cases hs : SmallS a1 = true ∧ fewS a2 = true ∧ ¬ 60 < a0.length
    · obtain ⟨hs1, hs2, hs3⟩ := hs
      obtain ⟨k1, k2⟩ := few_ok hs2
      obtain ⟨k3, _⟩ := SmallS_fact hs1
      have ho : okTExpr (.mk 26 0 a0 [a1]) := ok_set (by omega) q1
      have hn : nodes (.mk 26 0 a0 [a1]) ≤ 10000 := by simp only [nodes, nodesL]; omega
      have hlen := EvalS_len ho (l := a2) (by omega) k2 hn
      cases he : ((EvalS (.mk 26 0 a0 [a1]) a2).2.2 != 0) with
      | true =>
        refine (Small_eq q1).map3 (calc_Eval_eq ho (l := a2) (by omega) k2 hn) (Evt.ge (p := fun F _ => 200000 ≤ F) 200000 fun F n h _ => h) fun F _ e1 e2 hF => ?_
        unfold law06_CalcAssigns
        simp only [TExpr.eta]
        rw [e1, few_eq F a2 (by omega), hs1, hs2, decide_eq_false (show ¬ 60 < (a0.length : Int) by omega)]
        simp only [Option.bind_some, Bool.not_true, cond_false]
        rw [e2]
        simp only [Option.bind_some, he, cond_true]
        have : (EvalS (.mk 26 0 a0 [a1]) a2).1 = 0 ∧ (EvalS (.mk 26 0 a0 [a1]) a2).2.1 = [] := by
          unfold EvalS at he ⊢
          cases hv : (validS (.mk 26 0 a0 [a1]) 0 != 0) with
          | true => exact ⟨rfl, rfl⟩
          | false =>
            rw [hv] at he
            simp only [cond_false] at he ⊢
            cases hx : ((evS (.mk 26 0 a0 [a1]) (envOf a2)).2.1 != 0) with
            | true => exact ⟨rfl, rfl⟩
            | false => rw [hx] at he; cases he
        rw [this.1, this.2, awake60]
        rfl
      | false =>
        -- a good ending
        have hv : validS (.mk 26 0 a0 [a1]) 0 = 0 := by
          unfold EvalS at he
          cases hv : (validS (.mk 26 0 a0 [a1]) 0 != 0) with
          | true => rw [hv] at he; simp only [cond_true] at he; rw [hv] at he; cases he
          | false => simpa using hv
        obtain ⟨hv1, _⟩ := valid_set_var hv
        have g : Good (.mk 26 0 a0 [a1]) := ⟨Vd_of _ 0 hv, ho, Vd_nms _ (Vd_of _ 0 hv)⟩
        obtain ⟨j1, j2⟩ := evS_ok _ g _ _ (envOf_ok k2)
        have hx0 : ((evS (.mk 26 0 a0 [a1]) (envOf a2)).2.1 != 0) = false := by
          unfold EvalS at he
          rw [hv] at he
          simp only [bne_self_eq_false, cond_false] at he
          cases hx : ((evS (.mk 26 0 a0 [a1]) (envOf a2)).2.1 != 0) with
          | true => rw [hx] at he; simp only [cond_true] at he; rw [hx] at he; cases he
          | false => rfl
        have hE : EvalS (.mk 26 0 a0 [a1]) a2 = ((evS (.mk 26 0 a0 [a1]) (envOf a2)).1, toB (evS (.mk 26 0 a0 [a1]) (envOf a2)).2.2, 0) := by
          unfold EvalS
          rw [hv, hx0]
          rfl
        -- its form
        have hform : ∃ (v : Int) (m : Env), evS (.mk 26 0 a0 [a1]) (envOf a2) = (v, 0, mset keq m a0 (Lib.itoa v)) := by
          rw [evS_eq] at hx0 ⊢
          have : ∀ x : Rs, evB (TExpr.mk 26 0 a0 [a1]).fOp (TExpr.mk 26 0 a0 [a1]).fN (TExpr.mk 26 0 a0 [a1]).fName ((TExpr.mk 26 0 a0 [a1]).fKids.map evS) (envOf a2) = cond ((evS a1 (envOf a2)).2.1 != 0) (0, (evS a1 (envOf a2)).2.1, (evS a1 (envOf a2)).2.2) (cSet 0 a0 (evS a1 (envOf a2))) := fun _ => rfl
          rw [this (0, 0, [])] at hx0 ⊢
          cases hx : ((evS a1 (envOf a2)).2.1 != 0) with
          | true => rw [hx] at hx0; simp only [cond_true] at hx0; rw [hx] at hx0; cases hx0
          | false => exact ⟨_, _, rfl⟩
        obtain ⟨v, m, hf⟩ := hform
        rw [hf] at j1 j2 hE
        have j1 : Eo (a2.length + nodes (.mk 26 0 a0 [a1])) (mset keq m a0 (Lib.itoa v)) := j1
        have j2 : R64 v := j2
        generalize hM : mset keq m a0 (Lib.itoa v) = M at j1 hE
        have hE : EvalS (.mk 26 0 a0 [a1]) a2 = (v, toB M, 0) := hE
        have hget : mget keq M a0 [] = Lib.itoa v := by rw [← hM, mget_mset, beq_self_eq_true]; rfl
        have hkey : a0 ∈ M.map (·.1) := by rw [← hM]; exact (mset_keys_iff ..).2 (.inl rfl)
        have hasc := toB_asc j1.nd
        have hbn := toB_bnds j1
        have hlo : (toB M).length ≤ 100 := by rw [toB_len]; have := j1.len; simp only [nodes, nodesL] at this; omega
        have henv := toB_env hasc hbn
        have hov : okTExpr (.mk 2 0 a0 []) := ok_var (by omega)
        have hEv : EvalS (.mk 2 0 a0 []) (toB M) = (v, toB M, 0) := by
          have hlk : mget keq (envOf (toB M)) a0 [] = Lib.itoa v := by rw [← lookB_toB, henv, lookB_toB, hget]
          have hev : evS (.mk 2 0 a0 []) (envOf (toB M)) = (v, 0, envOf (toB M)) := by
            show cVar a0 (envOf (toB M)) = _
            unfold cVar
            rw [hlk, intS_itoa j2]
            rfl
          unfold EvalS
          rw [hv1, hev]
          show (v, toB (envOf (toB M)), (0 : Int)) = _
          rw [henv]
        refine (Small_eq q1).map3 ((calc_Eval_eq ho (l := a2) (by omega) k2 hn).and (calc_Eval_eq hov (l := toB M) (by omega) hbn (by simp only [nodes, nodesL]; omega))) (Evt.ge (p := fun F _ => 200000 ≤ F) 200000 fun F n h _ => h) fun F _ e1 e2 hF => ?_
        obtain ⟨e2, e3⟩ := e2
        rw [hE] at e2
        rw [hEv] at e3
        unfold law06_CalcAssigns
        simp only [TExpr.eta]
        rw [e1, few_eq F a2 (by omega), hs1, hs2, decide_eq_false (show ¬ 60 < (a0.length : Int) by omega)]
        simp only [Option.bind_some, Bool.not_true, cond_false]
        rw [e2]
        simp only [Option.bind_some, bne_self_eq_false, cond_false]
        refine (look_loop (fin := fun x => (calc_Eval F (TExpr.mk 2 0 a0 []) (toB M)).bind fun x15 =>
           (cond x (some (x15.1 == v)) (some false) : Option Bool).bind fun x16 => (cond x16 (some (x15.2.2 == 0)) (some false) : Option Bool).bind fun x17 =>
           (cond x17 ((ref06_SameBindings F x15.2.1 (toB M)).bind fun x19 => some x19) (some false) : Option Bool).bind fun x18 =>
           (cond x18 ((law06_awake 60).bind fun x21 => some x21) (some false) : Option Bool).bind fun x20 => some x20) (by omega) (by omega) hasc (dec_eq F (by omega) j2) false).trans ?_
        have hany : ((toB M).any fun b => b.fName == a0 && b.fValue == Lib.itoa v) = true := by
          rw [List.any_eq_true]
          refine ⟨Bk M a0, (toB_mem M _).2 ⟨a0, hkey, rfl⟩, ?_⟩
          show (a0 == a0 && mget keq M a0 [] == Lib.itoa v) = true
          rw [hget]
          simp
        rw [hany, e3]
        simp only [Option.bind_some, cond_true, beq_self_eq_true, awake60]
        rw [sameB_self F _ (by omega) (by omega)]
        rfl
    · refine (Small_eq q1).map2 (Evt.ge (p := fun F _ => 20 ≤ F) 20 fun F n h _ => h) fun F _ e1 hF => ?_
      unfold law06_CalcAssigns
      simp only [TExpr.eta]
      rw [e1, few_eq F a2 hF, awake60]
      cases h1 : SmallS a1 with
      | false => rfl
      | true =>
        cases h2 : fewS a2 with
        | false => rfl
        | true =>
          have h3 : 60 < a0.length := by
            by_cases h : 60 < a0.length
            · exact h
            · exact absurd ⟨h1, h2, h⟩ hs
          rw [decide_eq_true (show 60 < (a0.length : Int) by omega)]
          rfl
  obtain ⟨F, h⟩ := main.diag
  exact ⟨F, h⟩
end Go.Proofs.YtamjncikmfpihaaGreatDoor
