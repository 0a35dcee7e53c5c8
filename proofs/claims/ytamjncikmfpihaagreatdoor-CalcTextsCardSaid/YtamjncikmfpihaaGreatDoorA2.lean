/-
  The reference's parser gives what the grammar says.
-/
import Derived.Test.YtamjncikmfpihaaGreatDoorGr
import Derived.Test.YtamjncikmfpihaaGreatDoorA1
namespace Go.Proofs.YtamjncikmfpihaaGreatDoor
open Go.RT
set_option linter.unusedVariables false
set_option linter.unusedSimpArgs false
set_option linter.all false
set_option maxRecDepth 100000

abbrev RR := TExpr × (List UInt8) × Int × Int × Int
abbrev SR := (List UInt8) × Int × Int × Int × Int × Int × (List UInt8) × (List TExpr)
def EncR (s : List UInt8) : Res → Option RR → Prop
  | .ok e j, x => ∃ a : Nat, a ≤ s.length ∧ skip s a = skip s j ∧ x = some (e, s, (a : Int), 0, 0)
  | .err p c, x => c ≠ 0 ∧ ∃ (e : TExpr) (a : Nat), a ≤ s.length ∧ x = some (e, s, (a : Int), c, (p : Int))
def bodyR (F : Nat) (r : Int → (List UInt8) → Int → Int → Int → Option RR) (l : Int) : (SR → Option RR) → SR → Option RR :=
 (fun rc4 x3 =>
 cond (x3.2.2.1 == 0)
 ((ref05_reader_operator F x3.1 x3.2.1 x3.2.2.1 x3.2.2.2.1).bind fun x5 =>
 (ref05_binary F x5.1 l).bind fun x6 =>
 cond (x6 == 0)
 (some ((TExpr.mk ((TExpr.mk x3.2.2.2.2.1 x3.2.2.2.2.2.1 x3.2.2.2.2.2.2.1 x3.2.2.2.2.2.2.2).fOp) ((TExpr.mk x3.2.2.2.2.1 x3.2.2.2.2.2.1 x3.2.2.2.2.2.2.1 x3.2.2.2.2.2.2.2).fN) ((TExpr.mk x3.2.2.2.2.1 x3.2.2.2.2.2.1 x3.2.2.2.2.2.2.1 x3.2.2.2.2.2.2.2).fName) ((TExpr.mk x3.2.2.2.2.1 x3.2.2.2.2.2.1 x3.2.2.2.2.2.2.1 x3.2.2.2.2.2.2.2).fKids)), x5.2.1, x5.2.2.1, x5.2.2.2.1, x5.2.2.2.2))
 ((r (w64 (l + 1)) x5.2.1 (w64 (x5.2.2.1 + (x5.1.length : Int))) x5.2.2.2.1 x5.2.2.2.2).bind fun x7 =>
 rc4 (x7.2.1, x7.2.2.1, x7.2.2.2.1, x7.2.2.2.2, (TExpr.mk x6 0 [] ([(TExpr.mk x3.2.2.2.2.1 x3.2.2.2.2.2.1 x3.2.2.2.2.2.2.1 x3.2.2.2.2.2.2.2), x7.1] : List TExpr)).fOp, (TExpr.mk x6 0 [] ([(TExpr.mk x3.2.2.2.2.1 x3.2.2.2.2.2.1 x3.2.2.2.2.2.2.1 x3.2.2.2.2.2.2.2), x7.1] : List TExpr)).fN, (TExpr.mk x6 0 [] ([(TExpr.mk x3.2.2.2.2.1 x3.2.2.2.2.2.1 x3.2.2.2.2.2.2.1 x3.2.2.2.2.2.2.2), x7.1] : List TExpr)).fName, (TExpr.mk x6 0 [] ([(TExpr.mk x3.2.2.2.2.1 x3.2.2.2.2.2.1 x3.2.2.2.2.2.2.1 x3.2.2.2.2.2.2.2), x7.1] : List TExpr)).fKids)))
 (some ((TExpr.mk ((TExpr.mk x3.2.2.2.2.1 x3.2.2.2.2.2.1 x3.2.2.2.2.2.2.1 x3.2.2.2.2.2.2.2).fOp) ((TExpr.mk x3.2.2.2.2.1 x3.2.2.2.2.2.1 x3.2.2.2.2.2.2.1 x3.2.2.2.2.2.2.2).fN) ((TExpr.mk x3.2.2.2.2.1 x3.2.2.2.2.2.1 x3.2.2.2.2.2.2.1 x3.2.2.2.2.2.2.2).fName) ((TExpr.mk x3.2.2.2.2.1 x3.2.2.2.2.2.1 x3.2.2.2.2.2.2.1 x3.2.2.2.2.2.2.2).fKids)), x3.1, x3.2.1, x3.2.2.1, x3.2.2.2.1)))

section
variable {s : List UInt8} {a i : Nat} (h : skip s a = skip s i)
include h
theorem sy_same : sy s a = sy s i := by unfold sy; rw [h]
theorem kd_same : kd s a = kd s i := by unfold kd scanS; rw [h]
theorem tx_same : tx s a = tx s i := by unfold tx scanS; rw [h]
theorem nx_same : nx s a = nx s i := by unfold nx; rw [h, tx_same h]
theorem asg_same : asgAt s a = asgAt s i := by unfold asgAt; rw [kd_same h, nx_same h]
end
theorem asgS_ge : ∀ x, x ∈ ([] :: ops35) → asgS x = -1 ∨ 0 ≤ asgS x := by decide
theorem dg_le_all : ∀ n : Fin 256, dg (UInt8.ofNat n.val) = true → le (UInt8.ofNat n.val) = false := by decide +kernel
theorem dg_le (b : UInt8) : dg b = true → le b = false := byte_all (P := fun b => dg b = true → le b = false) dg_le_all b
theorem idR_bind (X : Option RR) : (X.bind fun x => some ((TExpr.mk x.1.fOp x.1.fN x.1.fName x.1.fKids), x.2.1, x.2.2.1, x.2.2.2.1, x.2.2.2.2)) = X := by
  cases X with
  | none => rfl
  | some y => simp only [Option.bind_some, TExpr.eta]

section
variable {s : List UInt8} {a F : Nat} (hl : s.length ≤ 1000000) (hi : a ≤ s.length) (hF : s.length + 60 ≤ F)
include hl hi hF
theorem is_yes {x : List UInt8} (hx : x ≠ []) (h : sy s a = x) : ref05_reader_is F x s (a : Int) 0 0 = some (true, s, (nx s a : Int), 0, 0) := by
  unfold ref05_reader_is
  rw [refOperator_eq F s a 0 0 hi (by omega) hl]
  obtain ⟨m1, m2⟩ := sy_move hi (by rw [h]; exact hx)
  have e : sy s a = opTxt (s.drop (skip s a)) := rfl
  have e2 : nx s a = skip s a + x.length := by unfold nx; rw [(sy_kd s a hi (by rw [h]; exact hx)).2, h]
  rw [← e, h]
  simp only [bne_self_eq_false, cond_false, Option.bind_some, beq_self_eq_true, Bool.not_true]
  rw [w64_in (x := (skip s a : Int) + (x.length : Int)) (by omega), e2]
  rfl
theorem is_no {x : List UInt8} (h : sy s a ≠ x) : ref05_reader_is F x s (a : Int) 0 0 = some (false, s, (skip s a : Int), 0, 0) := by
  unfold ref05_reader_is
  rw [refOperator_eq F s a 0 0 hi (by omega) hl]
  have e : sy s a = opTxt (s.drop (skip s a)) := rfl
  have hb : (sy s a == x) = false := by rw [beq_eq_false_iff_ne]; exact h
  rw [← e]
  simp only [bne_self_eq_false, cond_false, Option.bind_some, hb, Bool.not_false, cond_true]
omit hl hi hF in
theorem is_err {x : List UInt8} {at' c p : Int} (hc : c ≠ 0) : ref05_reader_is F x s at' c p = some (false, s, at', c, p) := by
  unfold ref05_reader_is
  have : (c != 0) = true := by simpa using hc
  rw [this]
  rfl
omit hl hi hF in
theorem fail_err {at' c p c' p' : Int} (hc : c ≠ 0) : ref05_reader_fail F c' p' s at' c p = some (s, at', c, p) := by
  unfold ref05_reader_fail
  have : (c == 0) = false := by simpa using hc
  rw [this]
  rfl

/-- The reference at the first level. -/
theorem set_eq (rs rc : (List UInt8) → Int → Int → Int → Option RR) (rl : Int → (List UInt8) → Int → Int → Int → Option RR) (ru rp : (List UInt8) → Int → Int → Int → Option RR) (e pos : Int) :
    ref05_reader_set_m F rs rc rl ru rp s (a : Int) e pos = cond (asgAt s a == -1) (rc s (skip s a : Int) e pos)
      ((rs s (nx s (nx s a) : Int) (cond (rName (tx s a)) e (cond (e == 0) 10 e)) (cond (rName (tx s a)) pos (cond (e == 0) (skip s a : Int) pos))).bind fun x => some (.mk 26 (asgAt s a) (tx s a) [x.1], x.2.1, x.2.2.1, x.2.2.2.1, x.2.2.2.2)) := by
  obtain ⟨s1, s2⟩ := skip_le s a hi
  unfold ref05_reader_set_m
  rw [blanks_eq F s a e pos hi (by omega) hl]
  simp only [Option.bind_some]
  rw [refWord_eq F s _ e pos s1 (by omega) hl]
  simp only [Option.bind_some]
  have hno : ∀ X : Option ((List UInt8 × Int × Int × Int) ⊕ RR), X = some (.inl (s, (skip s a : Int), e, pos)) → asgAt s a = -1 →
      (jj (σ := (List UInt8) × Int × Int × Int) (R := RR) X fun x3 => (rc x3.1 x3.2.1 x3.2.2.1 x3.2.2.2).bind fun x13 => some ((TExpr.mk x13.1.fOp x13.1.fN x13.1.fName x13.1.fKids), x13.2.1, x13.2.2.1, x13.2.2.2.1, x13.2.2.2.2)) = rc s (skip s a : Int) e pos := by
    intro X hX _
    rw [hX]
    show (rc s (skip s a : Int) e pos).bind _ = _
    exact idR_bind _
  have hk2 : kd s a ≠ 2 → asgAt s a = -1 := by
    intro hk
    unfold asgAt
    have : (kd s a == 2) = false := by rw [beq_eq_false_iff_ne]; exact hk
    rw [this]
    rfl
  rcases tok_view s a hi with ⟨h', _, hw, _⟩ | ⟨w, b, h', _, hw, hd, hl'⟩ | ⟨w, b, h', hs, hw, hd, hl'⟩ | ⟨x', h', _, hw, hm, _⟩ | ⟨b, h', _, hw, _⟩
  · have ha := hk2 (by unfold kd; rw [h']; simp)
    rw [hno _ (by rw [hw]; rfl) ha, ha]
    rfl
  · have ha := hk2 (by unfold kd; rw [h']; simp)
    rw [hno _ (by
      rw [hw]
      have hp : decide (0 < ((b :: w).length : Int)) = true := decide_eq_true (by simp only [List.length_cons]; omega)
      show (((rq (decide (0 < ((b :: w).length : Int))) ((ref05_Letter F (b.toNat : Int)).bind fun x5 => some x5)) : Option Bool).bind _) = _
      rw [hp, letter_eq, dg_le b hd]
      rfl) ha, ha]
    rfl
  · have hk : kd s a = 2 := by unfold kd; rw [h']
    have ht : tx s a = b :: w := by unfold tx; rw [h']
    obtain ⟨m1, m2, _⟩ := nx_bounds s a hi
    have hn : (skip s a : Int) + ((b :: w).length : Int) = (nx s a : Int) := by unfold nx; rw [ht]; omega
    have has : asgAt s a = asgS (sy s (nx s a)) := by unfold asgAt; rw [hk]; rfl
    rw [hw]
    have hp : decide (0 < ((b :: w).length : Int)) = true := decide_eq_true (by simp only [List.length_cons]; omega)
    have hne : (!((b :: w) == [])) = true := rfl
    simp only [hne, cond_true, hp, rq_tt, List.getD_cons_zero, letter_eq, hd, Option.bind_some, hn]
    rw [w64_in (x := (nx s a : Int)) (by omega), refOperator_eq F s (nx s a) e pos m1 (by omega) hl]
    simp only [Option.bind_some]
    rw [show opTxt (s.drop (skip s (nx s a))) = sy s (nx s a) from rfl]
    have hasr : ref05_assigning F (sy s (nx s a)) = some (asgS (sy s (nx s a))) := by
      obtain ⟨G, rfl⟩ : ∃ G, F = G + 20 := ⟨F - 20, by omega⟩
      exact (sy_tab s (nx s a)).asr G
    rw [hasr]
    simp only [Option.bind_some]
    rcases asgS_ge _ (sy_mem s (nx s a)) with hz | hz
    · rw [has, hz]
      show (rc s (skip s a : Int) e pos).bind _ = _
      exact idR_bind _
    · have hz1 : (asgS (sy s (nx s a)) == -1) = false := by rw [beq_eq_false_iff_ne]; omega
      obtain ⟨_, _, m3, _⟩ := asg_move hi (by rw [has]; omega)
      have hx := asgS_nil (x := sy s (nx s a)) (by omega)
      have hnn : (skip s (nx s a) : Int) + ((sy s (nx s a)).length : Int) = (nx s (nx s a) : Int) := by
        have h2 := (sy_kd s _ m1 hx).2
        have h3 : nx s (nx s a) = skip s (nx s a) + (tx s (nx s a)).length := rfl
        rw [h3, h2]; omega
      rw [has, hz1, decide_eq_true hz, ref01_Name_eq F _ (by omega), ht]
      simp only [Option.bind_some, cond_true, cond_false]
      cases hr : rName (b :: w) with
      | true =>
        simp only [Bool.not_true, cond_false, cond_true, Option.bind_some, hnn]
        rw [w64_in (x := (nx s (nx s a) : Int)) (by omega)]
        cases rs s (nx s (nx s a) : Int) e pos <;> rfl
      | false =>
        unfold ref05_reader_fail
        cases he : (e == 0) with
        | true =>
          simp only [Bool.not_false, cond_false, cond_true, Option.bind_some, hnn]
          rw [w64_in (x := (nx s (nx s a) : Int)) (by omega)]
          cases rs s (nx s (nx s a) : Int) 10 (skip s a : Int) <;> rfl
        | false =>
          simp only [Bool.not_false, cond_false, cond_true, Option.bind_some, hnn]
          rw [w64_in (x := (nx s (nx s a) : Int)) (by omega)]
          cases rs s (nx s (nx s a) : Int) e pos <;> rfl
  · have ha := hk2 (by unfold kd; rw [h']; simp)
    rw [hno _ (by rw [hw]; rfl) ha, ha]
    rfl
  · have ha := hk2 (by unfold kd; rw [h']; simp)
    rw [hno _ (by rw [hw]; rfl) ha, ha]
    rfl
end

theorem un_loop (G : Nat) (x : List UInt8) (k : Int → Option RR) (z : Option RR) : loopF (σ := Int) (R := RR) (fun rc3 x2 =>
     (cond (decide (x2 ≤ 6)) (some ((0 : Int) == 0)) (some false) : Option Bool).bind fun x4 => cond x4 ((ref05_sign (G + 10) x2).bind fun x5 => cond (x == x5) (k x2) (rc3 (w64 (x2 + 1)))) z) (G + 10) 3 =
    cond (x == [45]) (k 3) (cond (x == [43]) (k 4) (cond (x == [33]) (k 5) (cond (x == [126]) (k 6) z))) := by kernel_rfl
section
variable {s : List UInt8} {a F : Nat} (hl : s.length ≤ 1000000) (hi : a ≤ s.length) (hF : s.length + 60 ≤ F)
include hl hi hF
theorem un_eq (rs rc : (List UInt8) → Int → Int → Int → Option RR) (rl : Int → (List UInt8) → Int → Int → Int → Option RR) (ru rp : (List UInt8) → Int → Int → Int → Option RR) :
    ref05_reader_unary_m F rs rc rl ru rp s (a : Int) 0 0 = cond (unS (sy s a) == 0) (rp s (skip s a : Int) 0 0)
      ((ru s (nx s a : Int) 0 0).bind fun x => some (.mk (unS (sy s a)) 0 [] [x.1], x.2.1, x.2.2.1, x.2.2.2.1, x.2.2.2.2)) := by
  unfold ref05_reader_unary_m
  rw [refOperator_eq F s a 0 0 hi (by omega) hl]
  simp only [Option.bind_some]
  rw [show opTxt (s.drop (skip s a)) = sy s a from rfl]
  obtain ⟨G, rfl⟩ : ∃ G, F = G + 10 := ⟨F - 10, by omega⟩
  have key := un_loop G (sy s a) (fun x2 => (ru s (w64 ((skip s a : Int) + ((sy s a).length : Int))) 0 0).bind fun x6 => some ((TExpr.mk ((TExpr.mk x2 0 [] ([x6.1] : List TExpr)).fOp) ((TExpr.mk x2 0 [] ([x6.1] : List TExpr)).fN) ((TExpr.mk x2 0 [] ([x6.1] : List TExpr)).fName) ((TExpr.mk x2 0 [] ([x6.1] : List TExpr)).fKids)), x6.2.1, x6.2.2.1, x6.2.2.2.1, x6.2.2.2.2))
    ((rp s (skip s a : Int) 0 0).bind fun x7 => some ((TExpr.mk x7.1.fOp x7.1.fN x7.1.fName x7.1.fKids), x7.2.1, x7.2.2.1, x7.2.2.2.1, x7.2.2.2.2))
  refine key.trans ?_
  rw [idR_bind]
  by_cases hu : unS (sy s a) = 0
  · have hu' : (unS (sy s a) == 0) = true := by simpa using hu
    rw [hu']
    unfold unS at hu
    revert hu
    cases (sy s a == [45]) <;> cases (sy s a == [43]) <;> cases (sy s a == [33]) <;> cases (sy s a == [126]) <;> intro hu <;> first | rfl | (simp at hu; done)
  · have hu' : (unS (sy s a) == 0) = false := by rw [beq_eq_false_iff_ne]; exact hu
    rw [hu']
    obtain ⟨m1, m2⟩ := sy_move hi (unS_nil hu)
    have hn : (skip s a : Int) + ((sy s a).length : Int) = (nx s a : Int) := by
      have h2 := (sy_kd s a hi (unS_nil hu)).2
      have h3 : nx s a = skip s a + (tx s a).length := rfl
      rw [h3, h2]; omega
    rw [hn, w64_in (x := (nx s a : Int)) (by omega)]
    unfold unS at hu ⊢
    revert hu
    cases (sy s a == [45]) <;> cases (sy s a == [43]) <;> cases (sy s a == [33]) <;> cases (sy s a == [126]) <;> intro hu <;> first | rfl | (simp at hu; done)
theorem un_stick (rs rc : (List UInt8) → Int → Int → Int → Option RR) (rl : Int → (List UInt8) → Int → Int → Int → Option RR) (ru rp : (List UInt8) → Int → Int → Int → Option RR) {c p : Int} (hc : c ≠ 0) :
    ref05_reader_unary_m F rs rc rl ru rp s (a : Int) c p = rp s (skip s a : Int) c p := by
  unfold ref05_reader_unary_m
  rw [refOperator_eq F s a c p hi (by omega) hl]
  simp only [Option.bind_some]
  have hc' : (c == 0) = false := by simpa using hc
  obtain ⟨G, rfl⟩ : ∃ G, F = G + 1 := ⟨F - 1, by omega⟩
  simp only [loopF, hc']
  exact idR_bind _
theorem prim_stick (rs rc : (List UInt8) → Int → Int → Int → Option RR) (rl : Int → (List UInt8) → Int → Int → Int → Option RR) (ru rp : (List UInt8) → Int → Int → Int → Option RR) {c p : Int} (hc : c ≠ 0) :
    ref05_reader_primary_m F rs rc rl ru rp s (a : Int) c p = some (.mk 0 0 [] [], s, (skip s a : Int), c, p) := by
  unfold ref05_reader_primary_m
  rw [is_err hc]
  simp only [Option.bind_some, cond_false]
  obtain ⟨s1, s2⟩ := skip_le s a hi
  rw [blanks_eq F s a c p hi (by omega) hl]
  simp only [Option.bind_some]
  rw [refWord_eq F s _ c p s1 (by omega) hl]
  have hc' : (c != 0) = true := by simpa using hc
  simp only [Option.bind_some, hc', cond_true]
  rfl
end

/-! ### Behind an error -/
def Stick (s : List UInt8) (x : Option RR) (c p : Int) : Prop := ∃ (e : TExpr) (a : Nat), a ≤ s.length ∧ x = some (e, s, (a : Int), c, p)
theorem prim_st {s : List UInt8} (hl : s.length ≤ 1000000) : Evt fun F n => ∀ a, a ≤ s.length → ∀ c p, c ≠ 0 → Stick s (ref05_reader_primary_n F n s ((a : Nat) : Int) c p) c p :=
  Evt.succ ((bigF s).mono fun F n hF a hi c p hc => ⟨_, skip s a, (skip_le s a hi).1, prim_stick hl hi hF (ref05_reader_set_n F n) (ref05_reader_cond_n F n) (ref05_reader_level_n F n) (ref05_reader_unary_n F n) (ref05_reader_primary_n F n) hc⟩)
theorem un_st {s : List UInt8} (hl : s.length ≤ 1000000) : Evt fun F n => ∀ a, a ≤ s.length → ∀ c p, c ≠ 0 → Stick s (ref05_reader_unary_n F n s ((a : Nat) : Int) c p) c p :=
  Evt.succ ((bigF s).map2 (prim_st hl) fun F n hF h a hi c p hc => by
    show Stick s (ref05_reader_unary_m F (ref05_reader_set_n F n) (ref05_reader_cond_n F n) (ref05_reader_level_n F n) (ref05_reader_unary_n F n) (ref05_reader_primary_n F n) s (a : Int) c p) c p
    rw [un_stick hl hi hF _ _ _ _ _ hc]
    exact h _ (skip_le s a hi).1 c p hc)
theorem level_eq_go (F : Nat) (rs rc : (List UInt8) → Int → Int → Int → Option RR) (rl : Int → (List UInt8) → Int → Int → Int → Option RR) (ru rp : (List UInt8) → Int → Int → Int → Option RR) (l : Int) (h3 : 3 ≤ l) (hl : l ≤ 12) (s : List UInt8) (at' c p : Int) :
    ref05_reader_level_m F rs rc rl ru rp l s at' c p = (rl (l + 1) s at' c p).bind fun x2 => loopF (bodyR F rl l) F (x2.2.1, x2.2.2.1, x2.2.2.2.1, x2.2.2.2.2, x2.1.fOp, x2.1.fN, x2.1.fName, x2.1.fKids) := by
  unfold ref05_reader_level_m bodyR
  rw [decide_eq_false (by omega), w64_in (x := l + 1) (by omega)]
  rfl
theorem level_eq_un (F : Nat) (rs rc : (List UInt8) → Int → Int → Int → Option RR) (rl : Int → (List UInt8) → Int → Int → Int → Option RR) (ru rp : (List UInt8) → Int → Int → Int → Option RR) (l : Int) (hl : 12 < l) (s : List UInt8) (at' c p : Int) :
    ref05_reader_level_m F rs rc rl ru rp l s at' c p = ru s at' c p := by
  unfold ref05_reader_level_m
  rw [decide_eq_true hl]
  exact idR_bind _
theorem body_err (F : Nat) (r : Int → (List UInt8) → Int → Int → Int → Option RR) (l : Int) (m : Nat) (s : List UInt8) (at' c p : Int) (a : TExpr) (hc : c ≠ 0) : loopF (bodyR F r l) (m + 1) (s, at', c, p, a.fOp, a.fN, a.fName, a.fKids) = some (a, s, at', c, p) := by
  have hc' : (c == 0) = false := by simpa using hc
  show bodyR F r l (loopF (bodyR F r l) m) _ = _
  unfold bodyR
  simp only [hc', cond_false, TExpr.eta]
theorem level_st {s : List UInt8} (hl : s.length ≤ 1000000) : ∀ (k : Nat) (l : Int), l + k = 13 → 3 ≤ l → Evt fun F n => ∀ a, a ≤ s.length → ∀ c p, c ≠ 0 → Stick s (ref05_reader_level_n F n l s ((a : Nat) : Int) c p) c p
  | 0, l, hk, h3 => Evt.succ ((un_st hl).mono fun F n h a hi c p hc => by
      show Stick s (ref05_reader_level_m F (ref05_reader_set_n F n) (ref05_reader_cond_n F n) (ref05_reader_level_n F n) (ref05_reader_unary_n F n) (ref05_reader_primary_n F n) l s (a : Int) c p) c p
      rw [level_eq_un F _ _ _ _ _ l (by omega)]
      exact h a hi c p hc)
  | k + 1, l, hk, h3 => Evt.succ ((bigF s).map2 (level_st hl k (l + 1) (by omega) (by omega)) fun F n hF h a hi c p hc => by
      show Stick s (ref05_reader_level_m F (ref05_reader_set_n F n) (ref05_reader_cond_n F n) (ref05_reader_level_n F n) (ref05_reader_unary_n F n) (ref05_reader_primary_n F n) l s (a : Int) c p) c p
      rw [level_eq_go F _ _ _ _ _ l h3 (by omega)]
      obtain ⟨e, a', ha', hx⟩ := h a hi c p hc
      rw [hx]
      obtain ⟨G, rfl⟩ : ∃ G, F = G + 1 := ⟨F - 1, by omega⟩
      simp only [Option.bind_some]
      rw [body_err _ _ l G s _ c p e hc]
      exact ⟨e, a', ha', rfl⟩)
theorem cond_st {s : List UInt8} (hl : s.length ≤ 1000000) : Evt fun F n => ∀ a, a ≤ s.length → ∀ c p, c ≠ 0 → Stick s (ref05_reader_cond_n F n s ((a : Nat) : Int) c p) c p :=
  Evt.succ ((level_st hl 10 3 (by decide) (by decide)).mono fun F n h a hi c p hc => by
    show Stick s (ref05_reader_cond_m F (ref05_reader_set_n F n) (ref05_reader_cond_n F n) (ref05_reader_level_n F n) (ref05_reader_unary_n F n) (ref05_reader_primary_n F n) s (a : Int) c p) c p
    unfold ref05_reader_cond_m
    obtain ⟨e, a', ha', hx⟩ := h a hi c p hc
    rw [hx]
    simp only [Option.bind_some]
    rw [is_err hc]
    exact ⟨_, a', ha', rfl⟩)
theorem set_st {s : List UInt8} (hl : s.length ≤ 1000000) : ∀ k : Nat, Evt fun F n => ∀ a, a ≤ s.length → s.length - a < k → ∀ c p, c ≠ 0 → Stick s (ref05_reader_set_n F n s ((a : Nat) : Int) c p) c p
  | 0 => Evt.of fun F n a _ h => by omega
  | k + 1 => Evt.succ ((bigF s).map3 (cond_st hl) (set_st hl k) fun F n hF h1 h2 a hi hk c p hc => by
      show Stick s (ref05_reader_set_m F (ref05_reader_set_n F n) (ref05_reader_cond_n F n) (ref05_reader_level_n F n) (ref05_reader_unary_n F n) (ref05_reader_primary_n F n) s (a : Int) c p) c p
      rw [set_eq hl hi hF]
      cases ha : (asgAt s a == -1) with
      | true => exact h1 _ (skip_le s a hi).1 c p hc
      | false =>
        have hc' : (c == 0) = false := by simpa using hc
        obtain ⟨_, _, m1, m2⟩ := asg_move hi (by rw [beq_eq_false_iff_ne] at ha; exact ha)
        simp only [cond_false, hc']
        have e1 : cond (rName (tx s a)) c c = c := by cases rName (tx s a) <;> rfl
        have e2 : cond (rName (tx s a)) p p = p := by cases rName (tx s a) <;> rfl
        rw [e1, e2]
        obtain ⟨e, a', ha', hx⟩ := h2 _ m1 (by omega) c p hc
        rw [hx]
        exact ⟨_, a', ha', rfl⟩)

def StR (s : List UInt8) : RCat → Nat → Res → Prop
  | .expr, i, r => Evt fun F n => ∀ a, a ≤ s.length → skip s a = skip s i → EncR s r (ref05_reader_set_n F n s ((a : Nat) : Int) 0 0)
  | .cond, i, r => Evt fun F n => ∀ a, a ≤ s.length → skip s a = skip s i → EncR s r (ref05_reader_cond_n F n s ((a : Nat) : Int) 0 0)
  | .level l, i, r => Evt fun F n => ∀ a, a ≤ s.length → skip s a = skip s i → EncR s r (ref05_reader_level_n F n l s ((a : Nat) : Int) 0 0)
  | .loop l b, i, r => ∃ N, ∀ F n m, N ≤ F → N ≤ n → N ≤ m → ∀ a, a ≤ s.length → skip s a = skip s i → EncR s r (loopF (bodyR F (ref05_reader_level_n F n) l) m (s, ((a : Nat) : Int), 0, 0, b.fOp, b.fN, b.fName, b.fKids))
  | .un, i, r => Evt fun F n => ∀ a, a ≤ s.length → skip s a = skip s i → EncR s r (ref05_reader_unary_n F n s ((a : Nat) : Int) 0 0)
  | .prim, i, r => Evt fun F n => ∀ a, a ≤ s.length → skip s a = skip s i → EncR s r (ref05_reader_primary_n F n s ((a : Nat) : Int) 0 0)

def okPosR (s : List UInt8) : Res → Prop
  | .ok _ j => j ≤ s.length
  | .err _ c => c ≠ 0
theorem RD_pos {s : List UInt8} {c : RCat} {i : Nat} {r : Res} (d : RD s c i r) : i ≤ s.length → okPosR s r := by
  have nb : ∀ {i : Nat}, i ≤ s.length → nx s i ≤ s.length := fun h => (nx_bounds s _ h).1
  induction d with
  | e_cond h d ih => exact ih
  | e_name h hn => intro _; exact (show (10 : Int) ≠ 0 by decide)
  | e_set h hn d ih => intro hi; exact ih (nb (nb hi))
  | e_err h hn d ih => intro hi; exact ih (nb (nb hi))
  | c_err d ih => exact ih
  | c_one d h ih => exact ih
  | c_yes d h d2 ih ih2 => intro hi; exact ih2 (nb (ih hi))
  | c_mid d h d2 h2 ih ih2 => intro _; exact (show (6 : Int) ≠ 0 by decide)
  | c_no d h d2 h2 d3 ih ih2 ih3 => intro hi; exact ih3 (nb (ih2 (nb (ih hi))))
  | c_all d h d2 h2 d3 ih ih2 ih3 => intro hi; exact ih3 (nb (ih2 (nb (ih hi))))
  | v_un hl d ih => exact ih
  | v_err h3 hl d ih => exact ih
  | v_go h3 hl d d2 ih ih2 => intro hi; exact ih2 (ih hi)
  | l_stop h => exact id
  | l_err h d ih => intro hi; exact ih (nb hi)
  | l_go h d d2 ih ih2 => intro hi; exact ih2 (ih (nb hi))
  | u_prim h d ih => exact ih
  | u_err h d ih => intro hi; exact ih (nb hi)
  | u_go h d ih => intro hi; exact ih (nb hi)
  | p_num h hv => exact nb
  | p_nerr h hv => intro _; exact hv
  | p_var h hv => exact nb
  | p_verr h hv => intro _; exact (show (10 : Int) ≠ 0 by decide)
  | p_bad h1 h2 h => intro _; exact (show (6 : Int) ≠ 0 by decide)
  | p_in h d ih => intro hi; exact ih (nb hi)
  | p_close h d h2 ih => intro _; exact (show (6 : Int) ≠ 0 by decide)
  | p_ok h d h2 ih => intro hi; exact nb (ih (nb hi))

theorem prim_word {s : List UInt8} {a F : Nat} (hl : s.length ≤ 1000000) (hi : a ≤ s.length) (hF : s.length + 60 ≤ F) (h : sy s a ≠ [40]) (rs rc : (List UInt8) → Int → Int → Int → Option RR) (rl : Int → (List UInt8) → Int → Int → Int → Option RR) (ru rp : (List UInt8) → Int → Int → Int → Option RR) :
    ref05_reader_primary_m F rs rc rl ru rp s (a : Int) 0 0 = cond (wordL s (skip s a) == []) (some (.mk 0 0 [] [], s, (skip s a : Int), 6, (skip s a : Int)))
      (rq (decide (0 < ((wordL s (skip s a)).length : Int))) ((ref05_Letter F (((wordL s (skip s a)).getD 0 0).toNat : Int)).bind fun x8 =>
        cond x8 (cond (rName (wordL s (skip s a))) (some (.mk 2 0 (wordL s (skip s a)) [], s, w64 ((skip s a : Int) + ((wordL s (skip s a)).length : Int)), 0, 0)) (some (.mk 2 0 (wordL s (skip s a)) [], s, w64 ((skip s a : Int) + ((wordL s (skip s a)).length : Int)), 10, (skip s a : Int))))
          ((ref05_Constant F (wordL s (skip s a))).bind fun x12 => cond (cond (x12.2 == 0 && decide (9223372036854775807 < x12.1)) 14 x12.2 != 0)
            (some (.mk 0 0 [] [], s, (skip s a : Int), cond (x12.2 == 0 && decide (9223372036854775807 < x12.1)) 14 x12.2, (skip s a : Int)))
            (some (.mk 1 (w64 x12.1) [] [], s, w64 ((skip s a : Int) + ((wordL s (skip s a)).length : Int)), 0, 0))))) := by
  obtain ⟨s1, s2⟩ := skip_le s a hi
  unfold ref05_reader_primary_m
  rw [is_no hl hi hF h]
  simp only [Option.bind_some, cond_false]
  rw [blanks_eq F s (skip s a) 0 0 s1 (by omega) hl, skip_skip]
  simp only [Option.bind_some]
  rw [refWord_eq F s _ 0 0 s1 (by omega) hl]
  simp only [Option.bind_some, bne_self_eq_false, cond_false]
  generalize wordL s (skip s a) = w
  rw [ref01_Name_eq F w (by omega)]
  cases (w == []) with
  | true => rfl
  | false =>
    simp only [cond_false]
    congr 1
    congr 1
    funext x8
    cases x8 with
    | true => cases rName w <;> rfl
    | false =>
      simp only [cond_false]
      congr 1
      funext x12
      cases (x12.2 == 0) with
      | false => simp only [cond_false, Option.bind_some, Bool.false_and]; cases (x12.2 != 0) <;> rfl
      | true =>
        cases decide (9223372036854775807 < x12.1) with
        | false => simp only [cond_false, cond_true, Option.bind_some, Bool.true_and]; cases (x12.2 != 0) <;> rfl
        | true => rfl

theorem body_op {s : List UInt8} {a F : Nat} (hl : s.length ≤ 1000000) (hi : a ≤ s.length) (hF : s.length + 60 ≤ F) {l : Int} (h3 : 3 ≤ l) (hlv : lvA s a = l) (hl12 : l ≤ 12) (r : Int → (List UInt8) → Int → Int → Int → Option RR) (rc : SR → Option RR) (e : TExpr) :
    bodyR F r l rc (s, (a : Int), 0, 0, e.fOp, e.fN, e.fName, e.fKids) = (r (l + 1) s (nx s a : Int) 0 0).bind fun x7 => rc (x7.2.1, x7.2.2.1, x7.2.2.2.1, x7.2.2.2.2, (binS (sy s a)).2, 0, [], [e, x7.1]) := by
  have hne : sy s a ≠ [] := binS_nil (l := l) (by omega) (by show l ≤ lvA s a; omega)
  obtain ⟨m1, m2⟩ := sy_move hi hne
  have hn : (skip s a : Int) + ((sy s a).length : Int) = (nx s a : Int) := by
    have h2 := (sy_kd s a hi hne).2
    have h3 : nx s a = skip s a + (tx s a).length := rfl
    rw [h3, h2]; omega
  have hop := (sy_tab s a).op (show lvA s a ≠ 0 by omega)
  have hbir : ref05_binary F (sy s a) l = some (binS (sy s a)).2 := by
    obtain ⟨G, rfl⟩ : ∃ G, F = G + 20 := ⟨F - 20, by omega⟩
    rw [(sy_tab s a).bir, show ((binS (sy s a)).1 == l) = true by rw [beq_iff_eq]; exact hlv]
    rfl
  unfold bodyR
  simp only [beq_self_eq_true, cond_true]
  rw [refOperator_eq F s a 0 0 hi (by omega) hl]
  simp only [Option.bind_some]
  rw [show opTxt (s.drop (skip s a)) = sy s a from rfl, hbir]
  have hz : ((binS (sy s a)).2 == 0) = false := by rw [beq_eq_false_iff_ne]; omega
  simp only [Option.bind_some, hz, cond_false, hn, TExpr.eta]
  rw [w64_in (x := (nx s a : Int)) (by omega), w64_in (x := l + 1) (by omega)]
  rfl
def RCat.ok : RCat → Prop
  | .loop l _ => 3 ≤ l ∧ l ≤ 12
  | _ => True
theorem le_fo {b : UInt8} (h : le b = true) : dg b = false := by
  cases hd : dg b with
  | false => rfl
  | true => rw [dg_le b hd] at h; cases h
theorem valS_range (x : List UInt8) (h : (valS x).2 = 0) : 0 ≤ (valS x).1 ∧ (valS x).1 ≤ 9223372036854775807 := by
  unfold valS at h ⊢
  cases hb : ((baseS x).2 == []) with
  | true => rw [hb] at h; cases h
  | false =>
    rw [hb] at h
    simp only [cond_false] at h ⊢
    unfold resV at h ⊢
    cases ho : okD ((baseS x).1 : Int) (baseS x).2 with
    | false => rw [ho] at h; cases h
    | true =>
      rw [ho] at h
      simp only [cond_true] at h ⊢
      by_cases hv : valN (baseS x).1 0 (baseS x).2 ≤ 9223372036854775807
      · rw [decide_eq_true hv]
        simp only [cond_true]
        omega
      · rw [decide_eq_false hv] at h; cases h
theorem RD_R {s : List UInt8} (hl : s.length ≤ 1000000) {c : RCat} {i : Nat} {r : Res} (d : RD s c i r) : i ≤ s.length → c.ok → StR s c i r := by
  have nb : ∀ {i : Nat}, i ≤ s.length → nx s i ≤ s.length := fun h => (nx_bounds s _ h).1
  induction d with
  | @e_cond i r h d ih =>
    intro hi hok
    refine Evt.succ (Evt.map2 (ih hi trivial) (bigF s) fun F n h1 hF a ha hs => ?_)
    show EncR s r (ref05_reader_set_m F (ref05_reader_set_n F n) (ref05_reader_cond_n F n) (ref05_reader_level_n F n) (ref05_reader_unary_n F n) (ref05_reader_primary_n F n) s (a : Int) 0 0)
    rw [set_eq hl ha hF, asg_same hs, h]
    exact h1 _ (skip_le s a ha).1 ((skip_skip s a).trans hs)
  | @e_name i h hn =>
    intro hi hok
    refine Evt.succ (Evt.map2 (set_st hl (s.length + 1)) (bigF s) fun F n h1 hF a ha hs => ?_)
    show EncR s _ (ref05_reader_set_m F (ref05_reader_set_n F n) (ref05_reader_cond_n F n) (ref05_reader_level_n F n) (ref05_reader_unary_n F n) (ref05_reader_primary_n F n) s (a : Int) 0 0)
    have hb : (asgAt s i == -1) = false := by rw [beq_eq_false_iff_ne]; exact h
    rw [set_eq hl ha hF, asg_same hs, hb, tx_same hs, hn, hs]
    simp only [cond_false, beq_self_eq_true, cond_true]
    obtain ⟨e, a', ha', hx⟩ := h1 (nx s (nx s a)) (nb (nb ha)) (by omega) 10 (skip s i : Int) (by decide)
    rw [hx]
    exact ⟨by decide, _, a', ha', rfl⟩
  | @e_set i j e h hn d ih =>
    intro hi hok
    refine Evt.succ (Evt.map2 (ih (nb (nb hi)) trivial) (bigF s) fun F n h1 hF a ha hs => ?_)
    show EncR s _ (ref05_reader_set_m F (ref05_reader_set_n F n) (ref05_reader_cond_n F n) (ref05_reader_level_n F n) (ref05_reader_unary_n F n) (ref05_reader_primary_n F n) s (a : Int) 0 0)
    have hb : (asgAt s i == -1) = false := by rw [beq_eq_false_iff_ne]; exact h
    rw [set_eq hl ha hF, asg_same hs, hb, tx_same hs, hn, nx_same hs]
    simp only [cond_false, cond_true]
    obtain ⟨a', ha', hs', hx⟩ := h1 (nx s (nx s i)) (nb (nb hi)) rfl
    rw [hx]
    exact ⟨a', ha', hs', rfl⟩
  | @e_err i p c h hn d ih =>
    intro hi hok
    refine Evt.succ (Evt.map2 (ih (nb (nb hi)) trivial) (bigF s) fun F n h1 hF a ha hs => ?_)
    show EncR s _ (ref05_reader_set_m F (ref05_reader_set_n F n) (ref05_reader_cond_n F n) (ref05_reader_level_n F n) (ref05_reader_unary_n F n) (ref05_reader_primary_n F n) s (a : Int) 0 0)
    have hb : (asgAt s i == -1) = false := by rw [beq_eq_false_iff_ne]; exact h
    rw [set_eq hl ha hF, asg_same hs, hb, tx_same hs, hn, nx_same hs]
    simp only [cond_false, cond_true]
    obtain ⟨hc, e, a', ha', hx⟩ := h1 (nx s (nx s i)) (nb (nb hi)) rfl
    rw [hx]
    exact ⟨hc, _, a', ha', rfl⟩
  | @c_err i p c d ih =>
    intro hi hok
    refine Evt.succ (Evt.mono (ih hi trivial) fun F n h1 a ha hs => ?_)
    show EncR s _ (ref05_reader_cond_m F (ref05_reader_set_n F n) (ref05_reader_cond_n F n) (ref05_reader_level_n F n) (ref05_reader_unary_n F n) (ref05_reader_primary_n F n) s (a : Int) 0 0)
    unfold ref05_reader_cond_m
    obtain ⟨hc, e, a', ha', hx⟩ := h1 a ha hs
    rw [hx]
    simp only [Option.bind_some]
    rw [is_err hc]
    exact ⟨hc, _, a', ha', rfl⟩
  | @c_one i j e d h ih =>
    intro hi hok
    refine Evt.succ (Evt.map2 (ih hi trivial) (bigF s) fun F n h1 hF a ha hs => ?_)
    show EncR s _ (ref05_reader_cond_m F (ref05_reader_set_n F n) (ref05_reader_cond_n F n) (ref05_reader_level_n F n) (ref05_reader_unary_n F n) (ref05_reader_primary_n F n) s (a : Int) 0 0)
    unfold ref05_reader_cond_m
    obtain ⟨a', ha', hs', hx⟩ := h1 a ha hs
    rw [hx]
    simp only [Option.bind_some]
    rw [is_no hl ha' hF (by rw [sy_same hs']; exact h)]
    simp only [Option.bind_some, Bool.not_false, cond_true, TExpr.eta]
    exact ⟨skip s a', (skip_le s a' ha').1, (skip_skip s a').trans hs', rfl⟩
  | @c_yes i j p c e d h d2 ih ih2 =>
    intro hi hok
    have hj : j ≤ s.length := RD_pos d hi
    refine Evt.succ (Evt.map3 (ih hi trivial) (ih2 (nb hj) trivial) (bigF s) fun F n h1 h2 hF a ha hs => ?_)
    show EncR s _ (ref05_reader_cond_m F (ref05_reader_set_n F n) (ref05_reader_cond_n F n) (ref05_reader_level_n F n) (ref05_reader_unary_n F n) (ref05_reader_primary_n F n) s (a : Int) 0 0)
    unfold ref05_reader_cond_m
    obtain ⟨a', ha', hs', hx⟩ := h1 a ha hs
    rw [hx]
    simp only [Option.bind_some]
    rw [is_yes hl ha' hF (by decide) (by rw [sy_same hs']; exact h), nx_same hs']
    simp only [Option.bind_some, Bool.not_true, cond_false]
    obtain ⟨hc, e2, a2, ha2, hx2⟩ := h2 _ (nb hj) rfl
    rw [hx2]
    simp only [Option.bind_some]
    rw [is_err hc]
    simp only [Option.bind_some, Bool.not_false, cond_true]
    rw [fail_err hc]
    exact ⟨hc, _, a2, ha2, rfl⟩
  | @c_mid i j k e e2 d h d2 h2 ih ih2 =>
    intro hi hok
    have hj : j ≤ s.length := RD_pos d hi
    refine Evt.succ (Evt.map3 (ih hi trivial) (ih2 (nb hj) trivial) (bigF s) fun F n h1 h3 hF a ha hs => ?_)
    show EncR s _ (ref05_reader_cond_m F (ref05_reader_set_n F n) (ref05_reader_cond_n F n) (ref05_reader_level_n F n) (ref05_reader_unary_n F n) (ref05_reader_primary_n F n) s (a : Int) 0 0)
    unfold ref05_reader_cond_m
    obtain ⟨a', ha', hs', hx⟩ := h1 a ha hs
    rw [hx]
    simp only [Option.bind_some]
    rw [is_yes hl ha' hF (by decide) (by rw [sy_same hs']; exact h), nx_same hs']
    simp only [Option.bind_some, Bool.not_true, cond_false]
    obtain ⟨a2, ha2, hs2, hx2⟩ := h3 _ (nb hj) rfl
    rw [hx2]
    simp only [Option.bind_some]
    rw [is_no hl ha2 hF (by rw [sy_same hs2]; exact h2), hs2]
    exact ⟨by decide, _, skip s k, (by rw [← hs2]; exact (skip_le s a2 ha2).1), rfl⟩
  | @c_no i j k p c e e2 d h d2 h2 d3 ih ih2 ih3 =>
    intro hi hok
    have hj : j ≤ s.length := RD_pos d hi
    have hk : k ≤ s.length := RD_pos d2 (nb hj)
    refine Evt.succ (Evt.map3 ((ih hi trivial).and (ih3 (nb hk) trivial)) (ih2 (nb hj) trivial) (bigF s) fun F n h1 h3 hF a ha hs => ?_)
    obtain ⟨h1, h4⟩ := h1
    show EncR s _ (ref05_reader_cond_m F (ref05_reader_set_n F n) (ref05_reader_cond_n F n) (ref05_reader_level_n F n) (ref05_reader_unary_n F n) (ref05_reader_primary_n F n) s (a : Int) 0 0)
    unfold ref05_reader_cond_m
    obtain ⟨a', ha', hs', hx⟩ := h1 a ha hs
    rw [hx]
    simp only [Option.bind_some]
    rw [is_yes hl ha' hF (by decide) (by rw [sy_same hs']; exact h), nx_same hs']
    simp only [Option.bind_some, Bool.not_true, cond_false]
    obtain ⟨a2, ha2, hs2, hx2⟩ := h3 _ (nb hj) rfl
    rw [hx2]
    simp only [Option.bind_some]
    rw [is_yes hl ha2 hF (by decide) (by rw [sy_same hs2]; exact h2), nx_same hs2]
    simp only [Option.bind_some, Bool.not_true, cond_false]
    obtain ⟨hc, e4, a4, ha4, hx4⟩ := h4 _ (nb hk) rfl
    rw [hx4]
    exact ⟨hc, _, a4, ha4, rfl⟩
  | @c_all i j k m e e2 e3 d h d2 h2 d3 ih ih2 ih3 =>
    intro hi hok
    have hj : j ≤ s.length := RD_pos d hi
    have hk : k ≤ s.length := RD_pos d2 (nb hj)
    refine Evt.succ (Evt.map3 ((ih hi trivial).and (ih3 (nb hk) trivial)) (ih2 (nb hj) trivial) (bigF s) fun F n h1 h3 hF a ha hs => ?_)
    obtain ⟨h1, h4⟩ := h1
    show EncR s _ (ref05_reader_cond_m F (ref05_reader_set_n F n) (ref05_reader_cond_n F n) (ref05_reader_level_n F n) (ref05_reader_unary_n F n) (ref05_reader_primary_n F n) s (a : Int) 0 0)
    unfold ref05_reader_cond_m
    obtain ⟨a', ha', hs', hx⟩ := h1 a ha hs
    rw [hx]
    simp only [Option.bind_some]
    rw [is_yes hl ha' hF (by decide) (by rw [sy_same hs']; exact h), nx_same hs']
    simp only [Option.bind_some, Bool.not_true, cond_false]
    obtain ⟨a2, ha2, hs2, hx2⟩ := h3 _ (nb hj) rfl
    rw [hx2]
    simp only [Option.bind_some]
    rw [is_yes hl ha2 hF (by decide) (by rw [sy_same hs2]; exact h2), nx_same hs2]
    simp only [Option.bind_some, Bool.not_true, cond_false]
    obtain ⟨a4, ha4, hs4, hx4⟩ := h4 _ (nb hk) rfl
    rw [hx4]
    simp only [Option.bind_some, TExpr.eta]
    exact ⟨a4, ha4, hs4, rfl⟩
  | @v_un l i r hv d ih =>
    intro hi hok
    refine Evt.succ (Evt.mono (ih hi trivial) fun F n h1 a ha hs => ?_)
    show EncR s _ (ref05_reader_level_m F (ref05_reader_set_n F n) (ref05_reader_cond_n F n) (ref05_reader_level_n F n) (ref05_reader_unary_n F n) (ref05_reader_primary_n F n) l s (a : Int) 0 0)
    rw [level_eq_un F _ _ _ _ _ l hv]
    exact h1 a ha hs
  | @v_err l i p c h3 hv d ih =>
    intro hi hok
    refine Evt.succ (Evt.map2 (ih hi trivial) (bigF s) fun F n h1 hF a ha hs => ?_)
    show EncR s _ (ref05_reader_level_m F (ref05_reader_set_n F n) (ref05_reader_cond_n F n) (ref05_reader_level_n F n) (ref05_reader_unary_n F n) (ref05_reader_primary_n F n) l s (a : Int) 0 0)
    rw [level_eq_go F _ _ _ _ _ l h3 hv]
    obtain ⟨hc, e, a', ha', hx⟩ := h1 a ha hs
    rw [hx]
    obtain ⟨G, rfl⟩ : ∃ G, F = G + 1 := ⟨F - 1, by omega⟩
    simp only [Option.bind_some]
    rw [body_err _ _ l G s _ c p e hc]
    exact ⟨hc, e, a', ha', rfl⟩
  | @v_go l i j e r h3 hv d d2 ih ih2 =>
    intro hi hok
    have hj : j ≤ s.length := RD_pos d hi
    obtain ⟨N, h2⟩ := ih2 hj ⟨h3, hv⟩
    refine Evt.succ (Evt.map2 (ih hi trivial) (Evt.ge (p := fun F n => N ≤ F ∧ N ≤ n) N fun F n a b => ⟨a, b⟩) fun F n h1 hN a ha hs => ?_)
    show EncR s _ (ref05_reader_level_m F (ref05_reader_set_n F n) (ref05_reader_cond_n F n) (ref05_reader_level_n F n) (ref05_reader_unary_n F n) (ref05_reader_primary_n F n) l s (a : Int) 0 0)
    rw [level_eq_go F _ _ _ _ _ l h3 hv]
    obtain ⟨a', ha', hs', hx⟩ := h1 a ha hs
    rw [hx]
    exact h2 F n F hN.1 hN.2 hN.1 a' ha' hs'
  | @l_stop l i e h =>
    intro hi hok
    refine ⟨s.length + 60, fun F n m hF _ hm a ha hs => ?_⟩
    cases m with
    | zero => omega
    | succ m =>
      show EncR s _ (bodyR F (ref05_reader_level_n F n) l (loopF (bodyR F (ref05_reader_level_n F n) l) m) (s, (a : Int), 0, 0, e.fOp, e.fN, e.fName, e.fKids))
      unfold bodyR
      have hbir : ref05_binary F (sy s a) l = some 0 := by
        obtain ⟨G, rfl⟩ : ∃ G, F = G + 20 := ⟨F - 20, by omega⟩
        rw [(sy_tab s a).bir, sy_same hs, show ((binS (sy s i)).1 == l) = false by rw [beq_eq_false_iff_ne]; exact h]
        rfl
      simp only [beq_self_eq_true, cond_true]
      rw [refOperator_eq F s a 0 0 ha (by omega) hl]
      simp only [Option.bind_some]
      rw [show opTxt (s.drop (skip s a)) = sy s a from rfl, hbir]
      simp only [Option.bind_some, beq_self_eq_true, cond_true, TExpr.eta]
      exact ⟨skip s a, (skip_le s a ha).1, (skip_skip s a).trans hs, rfl⟩
  | @l_err l i p c e h d ih =>
    intro hi hok
    obtain ⟨N, h1⟩ := ih (nb hi) trivial
    obtain ⟨h3, h12⟩ := hok
    refine ⟨N + s.length + 60, fun F n m hF hn hm a ha hs => ?_⟩
    cases m with
    | zero => omega
    | succ m =>
      cases m with
      | zero => omega
      | succ m =>
        show EncR s _ (bodyR F (ref05_reader_level_n F n) l (loopF (bodyR F (ref05_reader_level_n F n) l) (m + 1)) (s, (a : Int), 0, 0, e.fOp, e.fN, e.fName, e.fKids))
        rw [body_op hl ha (by omega) h3 (by rw [lvA, sy_same hs]; exact h) h12, nx_same hs, sy_same hs]
        obtain ⟨hc, e2, a', ha', hx⟩ := h1 F n (by omega) (by omega) _ (nb hi) rfl
        rw [hx]
        simp only [Option.bind_some]
        refine ⟨hc, _, a', ha', body_err F (ref05_reader_level_n F n) l m s (a' : Int) c (p : Int) (.mk (binS (sy s i)).2 0 [] [e, e2]) hc⟩
  | @l_go l i j e e2 r h d d2 ih ih2 =>
    intro hi hok
    have hj : j ≤ s.length := RD_pos d (nb hi)
    obtain ⟨N, h1⟩ := ih (nb hi) trivial
    obtain ⟨N2, h2⟩ := ih2 hj hok
    obtain ⟨h3, h12⟩ := hok
    refine ⟨N + N2 + s.length + 60, fun F n m hF hn hm a ha hs => ?_⟩
    cases m with
    | zero => omega
    | succ m =>
      show EncR s _ (bodyR F (ref05_reader_level_n F n) l (loopF (bodyR F (ref05_reader_level_n F n) l) m) (s, (a : Int), 0, 0, e.fOp, e.fN, e.fName, e.fKids))
      rw [body_op hl ha (by omega) h3 (by rw [lvA, sy_same hs]; exact h) h12, nx_same hs, sy_same hs]
      obtain ⟨a', ha', hs', hx⟩ := h1 F n (by omega) (by omega) _ (nb hi) rfl
      rw [hx]
      exact h2 F n m (by omega) (by omega) (by omega) a' ha' hs'
  | @u_prim i r h d ih =>
    intro hi hok
    refine Evt.succ (Evt.map2 (ih hi trivial) (bigF s) fun F n h1 hF a ha hs => ?_)
    show EncR s _ (ref05_reader_unary_m F (ref05_reader_set_n F n) (ref05_reader_cond_n F n) (ref05_reader_level_n F n) (ref05_reader_unary_n F n) (ref05_reader_primary_n F n) s (a : Int) 0 0)
    rw [un_eq hl ha hF, sy_same hs, h]
    exact h1 _ (skip_le s a ha).1 ((skip_skip s a).trans hs)
  | @u_err i p c h d ih =>
    intro hi hok
    refine Evt.succ (Evt.map2 (ih (nb hi) trivial) (bigF s) fun F n h1 hF a ha hs => ?_)
    show EncR s _ (ref05_reader_unary_m F (ref05_reader_set_n F n) (ref05_reader_cond_n F n) (ref05_reader_level_n F n) (ref05_reader_unary_n F n) (ref05_reader_primary_n F n) s (a : Int) 0 0)
    have hb : (unS (sy s i) == 0) = false := by rw [beq_eq_false_iff_ne]; exact h
    rw [un_eq hl ha hF, sy_same hs, hb, nx_same hs]
    obtain ⟨hc, e, a', ha', hx⟩ := h1 _ (nb hi) rfl
    rw [hx]
    exact ⟨hc, _, a', ha', rfl⟩
  | @u_go i j e h d ih =>
    intro hi hok
    refine Evt.succ (Evt.map2 (ih (nb hi) trivial) (bigF s) fun F n h1 hF a ha hs => ?_)
    show EncR s _ (ref05_reader_unary_m F (ref05_reader_set_n F n) (ref05_reader_cond_n F n) (ref05_reader_level_n F n) (ref05_reader_unary_n F n) (ref05_reader_primary_n F n) s (a : Int) 0 0)
    have hb : (unS (sy s i) == 0) = false := by rw [beq_eq_false_iff_ne]; exact h
    rw [un_eq hl ha hF, sy_same hs, hb, nx_same hs]
    obtain ⟨a', ha', hs', hx⟩ := h1 _ (nb hi) rfl
    rw [hx]
    exact ⟨a', ha', hs', rfl⟩
  | @p_num i h hv =>
    intro hi hok
    refine Evt.succ (Evt.mono (bigF s) fun F n hF a ha hs => ?_)
    show EncR s _ (ref05_reader_primary_m F (ref05_reader_set_n F n) (ref05_reader_cond_n F n) (ref05_reader_level_n F n) (ref05_reader_unary_n F n) (ref05_reader_primary_n F n) s (a : Int) 0 0)
    rw [← kd_same hs] at h
    rw [← tx_same hs] at hv ⊢
    rw [← nx_same hs]
    rcases tok_view s a ha with ⟨h', _, _, _⟩ | ⟨w, b, h', hsy, hw, hd, hl'⟩ | ⟨w, b, h', _, hw, hd, hl'⟩ | ⟨x', h', _, hw, hm, _⟩ | ⟨b, h', _, hw, _⟩ <;> (first | (unfold kd at h; rw [h'] at h; simp at h; done) | skip)
    have ht : tx s a = b :: w := by unfold tx; rw [h']
    have hn : (nx s a : Int) = (skip s a : Int) + ((b :: w).length : Int) := by unfold nx; rw [ht]; omega
    rw [ht] at hv ⊢
    rw [prim_word hl ha hF (by rw [hsy]; decide), hw]
    have hp : decide (0 < ((b :: w).length : Int)) = true := decide_eq_true (by simp only [List.length_cons]; omega)
    obtain ⟨m, e, c1, c2, c3⟩ := const_eq F (b :: w) (by simp) (by omega) (by omega)
    have c3 := c3 hv
    rw [hv] at c2
    simp only [show ((b :: w) == []) = false from rfl, cond_false, hp, rq_tt, List.getD_cons_zero, letter_eq, dg_le b hd, Option.bind_some, c1, c2, bne_self_eq_false]
    have hrg := (valS_range (b :: w) hv)
    rw [c3, w64_in (x := (valS (b :: w)).1) (by omega), w64_in (x := (skip s a : Int) + ((b :: w).length : Int)) (by omega), ← hn]
    exact ⟨nx s a, nb ha, rfl, rfl⟩
  | @p_nerr i h hv =>
    intro hi hok
    refine Evt.succ (Evt.mono (bigF s) fun F n hF a ha hs => ?_)
    show EncR s _ (ref05_reader_primary_m F (ref05_reader_set_n F n) (ref05_reader_cond_n F n) (ref05_reader_level_n F n) (ref05_reader_unary_n F n) (ref05_reader_primary_n F n) s (a : Int) 0 0)
    rw [← kd_same hs] at h
    rw [← tx_same hs] at hv ⊢
    rw [← hs]
    rcases tok_view s a ha with ⟨h', _, _, _⟩ | ⟨w, b, h', hsy, hw, hd, hl'⟩ | ⟨w, b, h', _, hw, hd, hl'⟩ | ⟨x', h', _, hw, hm, _⟩ | ⟨b, h', _, hw, _⟩ <;> (first | (unfold kd at h; rw [h'] at h; simp at h; done) | skip)
    have ht : tx s a = b :: w := by unfold tx; rw [h']
    rw [ht] at hv ⊢
    rw [prim_word hl ha hF (by rw [hsy]; decide), hw]
    have hp : decide (0 < ((b :: w).length : Int)) = true := decide_eq_true (by simp only [List.length_cons]; omega)
    obtain ⟨m, e, c1, c2, c3⟩ := const_eq F (b :: w) (by simp) (by omega) (by omega)
    have hb : ((valS (b :: w)).2 != 0) = true := by simpa using hv
    simp only [show ((b :: w) == []) = false from rfl, cond_false, hp, rq_tt, List.getD_cons_zero, letter_eq, dg_le b hd, Option.bind_some, c1, c2, hb, cond_true]
    exact ⟨hv, _, skip s a, (skip_le s a ha).1, rfl⟩
  | @p_var i h hv =>
    intro hi hok
    refine Evt.succ (Evt.mono (bigF s) fun F n hF a ha hs => ?_)
    show EncR s _ (ref05_reader_primary_m F (ref05_reader_set_n F n) (ref05_reader_cond_n F n) (ref05_reader_level_n F n) (ref05_reader_unary_n F n) (ref05_reader_primary_n F n) s (a : Int) 0 0)
    rw [← kd_same hs] at h
    rw [← tx_same hs] at hv ⊢
    rw [← nx_same hs]
    rcases tok_view s a ha with ⟨h', _, _, _⟩ | ⟨w, b, h', _, hw, hd, hl'⟩ | ⟨w, b, h', hsy, hw, hd, hl'⟩ | ⟨x', h', _, hw, hm, _⟩ | ⟨b, h', _, hw, _⟩ <;> (first | (unfold kd at h; rw [h'] at h; simp at h; done) | skip)
    have ht : tx s a = b :: w := by unfold tx; rw [h']
    have hn : (nx s a : Int) = (skip s a : Int) + ((b :: w).length : Int) := by unfold nx; rw [ht]; omega
    rw [ht] at hv ⊢
    rw [prim_word hl ha hF (by rw [hsy]; decide), hw]
    have hp : decide (0 < ((b :: w).length : Int)) = true := decide_eq_true (by simp only [List.length_cons]; omega)
    simp only [show ((b :: w) == []) = false from rfl, cond_false, hp, rq_tt, List.getD_cons_zero, letter_eq, hd, Option.bind_some, cond_true, hv]
    rw [w64_in (x := (skip s a : Int) + ((b :: w).length : Int)) (by omega), ← hn]
    exact ⟨nx s a, nb ha, rfl, rfl⟩
  | @p_verr i h hv =>
    intro hi hok
    refine Evt.succ (Evt.mono (bigF s) fun F n hF a ha hs => ?_)
    show EncR s _ (ref05_reader_primary_m F (ref05_reader_set_n F n) (ref05_reader_cond_n F n) (ref05_reader_level_n F n) (ref05_reader_unary_n F n) (ref05_reader_primary_n F n) s (a : Int) 0 0)
    rw [← kd_same hs] at h
    rw [← tx_same hs] at hv
    rw [← hs]
    rcases tok_view s a ha with ⟨h', _, _, _⟩ | ⟨w, b, h', _, hw, hd, hl'⟩ | ⟨w, b, h', hsy, hw, hd, hl'⟩ | ⟨x', h', _, hw, hm, _⟩ | ⟨b, h', _, hw, _⟩ <;> (first | (unfold kd at h; rw [h'] at h; simp at h; done) | skip)
    have ht : tx s a = b :: w := by unfold tx; rw [h']
    have hn : (nx s a : Int) = (skip s a : Int) + ((b :: w).length : Int) := by unfold nx; rw [ht]; omega
    rw [ht] at hv
    rw [prim_word hl ha hF (by rw [hsy]; decide), hw]
    have hp : decide (0 < ((b :: w).length : Int)) = true := decide_eq_true (by simp only [List.length_cons]; omega)
    simp only [show ((b :: w) == []) = false from rfl, cond_false, hp, rq_tt, List.getD_cons_zero, letter_eq, hd, Option.bind_some, cond_true, hv]
    rw [w64_in (x := (skip s a : Int) + ((b :: w).length : Int)) (by omega), ← hn]
    exact ⟨by decide, _, nx s a, nb ha, rfl⟩
  | @p_bad i h1 h2 h =>
    intro hi hok
    refine Evt.succ (Evt.mono (bigF s) fun F n hF a ha hs => ?_)
    show EncR s _ (ref05_reader_primary_m F (ref05_reader_set_n F n) (ref05_reader_cond_n F n) (ref05_reader_level_n F n) (ref05_reader_unary_n F n) (ref05_reader_primary_n F n) s (a : Int) 0 0)
    rw [← kd_same hs] at h1 h2
    rw [← sy_same hs] at h
    rw [← hs]
    have hw : wordL s (skip s a) = [] := by
      rcases tok_view s a ha with ⟨h', _, hw, _⟩ | ⟨w, b, h', _, hw, hd, hl'⟩ | ⟨w, b, h', hsy, hw, hd, hl'⟩ | ⟨x', h', _, hw, hm, _⟩ | ⟨b, h', _, hw, _⟩
      · exact hw
      · unfold kd at h1; rw [h'] at h1; exact absurd rfl h1
      · unfold kd at h2; rw [h'] at h2; exact absurd rfl h2
      · exact hw
      · exact hw
    rw [prim_word hl ha hF h, hw]
    exact ⟨by decide, _, skip s a, (skip_le s a ha).1, rfl⟩
  | @p_in i p c h d ih =>
    intro hi hok
    refine Evt.succ (Evt.map2 (ih (nb hi) trivial) (bigF s) fun F n h1 hF a ha hs => ?_)
    show EncR s _ (ref05_reader_primary_m F (ref05_reader_set_n F n) (ref05_reader_cond_n F n) (ref05_reader_level_n F n) (ref05_reader_unary_n F n) (ref05_reader_primary_n F n) s (a : Int) 0 0)
    unfold ref05_reader_primary_m
    rw [is_yes hl ha hF (by decide) (by rw [sy_same hs]; exact h), nx_same hs]
    simp only [Option.bind_some, cond_true]
    obtain ⟨hc, e, a', ha', hx⟩ := h1 _ (nb hi) rfl
    rw [hx]
    simp only [Option.bind_some]
    rw [is_err hc]
    simp only [Option.bind_some, Bool.not_false, cond_true]
    rw [fail_err hc]
    exact ⟨hc, _, a', ha', rfl⟩
  | @p_close i j e h d h2 ih =>
    intro hi hok
    refine Evt.succ (Evt.map2 (ih (nb hi) trivial) (bigF s) fun F n h1 hF a ha hs => ?_)
    show EncR s _ (ref05_reader_primary_m F (ref05_reader_set_n F n) (ref05_reader_cond_n F n) (ref05_reader_level_n F n) (ref05_reader_unary_n F n) (ref05_reader_primary_n F n) s (a : Int) 0 0)
    unfold ref05_reader_primary_m
    rw [is_yes hl ha hF (by decide) (by rw [sy_same hs]; exact h), nx_same hs]
    simp only [Option.bind_some, cond_true]
    obtain ⟨a', ha', hs', hx⟩ := h1 _ (nb hi) rfl
    rw [hx]
    simp only [Option.bind_some]
    rw [is_no hl ha' hF (by rw [sy_same hs']; exact h2), hs']
    exact ⟨by decide, _, skip s j, (by rw [← hs']; exact (skip_le s a' ha').1), rfl⟩
  | @p_ok i j e h d h2 ih =>
    intro hi hok
    refine Evt.succ (Evt.map2 (ih (nb hi) trivial) (bigF s) fun F n h1 hF a ha hs => ?_)
    show EncR s _ (ref05_reader_primary_m F (ref05_reader_set_n F n) (ref05_reader_cond_n F n) (ref05_reader_level_n F n) (ref05_reader_unary_n F n) (ref05_reader_primary_n F n) s (a : Int) 0 0)
    unfold ref05_reader_primary_m
    rw [is_yes hl ha hF (by decide) (by rw [sy_same hs]; exact h), nx_same hs]
    simp only [Option.bind_some, cond_true]
    obtain ⟨a', ha', hs', hx⟩ := h1 _ (nb hi) rfl
    rw [hx]
    simp only [Option.bind_some]
    rw [is_yes hl ha' hF (by decide) (by rw [sy_same hs']; exact h2)]
    simp only [Option.bind_some, Bool.not_true, cond_false, TExpr.eta]
    exact ⟨nx s a', nb ha', (by rw [nx_same hs']), rfl⟩
end Go.Proofs.YtamjncikmfpihaaGreatDoor
