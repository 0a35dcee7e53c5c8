/-
  Format: the plain law of FormatNumbers.
-/
import Derived.Test.YtmcnemjnkiofdaaGreatDoorFk
namespace Go.Proofs.YtmcnemjnkiofdaaGreatDoor
open Go.RT
set_option linter.all false
set_option maxRecDepth 100000

/-! ### Numerals read back -/
theorem dR_dchar {d : Nat} (h : d < 16) : dR (dchar d) = (d : Int) := by
  have : ∀ d : Fin 16, dR (dchar d.val) = (d.val : Int) := by decide +kernel
  exact this ⟨d, h⟩
theorem accD_val (b : Nat) (hb : 2 ≤ b ∧ b ≤ 16) : ∀ (k u : Nat) (acc : List UInt8), u < b ^ (k + 1) → valN b 0 (accD b k u acc) = valN b u acc ∧ okD (b : Int) (accD b k u acc) = okD (b : Int) acc := by
  have one : ∀ (u : Nat) (acc : List UInt8), u < b → valN b 0 (dchar u :: acc) = valN b u acc ∧ okD (b : Int) (dchar u :: acc) = okD (b : Int) acc := by
    intro u acc h
    have hd := dR_dchar (d := u) (by omega)
    refine ⟨?_, ?_⟩
    · unfold valN
      rw [List.foldl_cons, hd, Nat.zero_mul, Nat.zero_add, Int.toNat_natCast]
    · unfold okD
      rw [List.all_cons, hd, dT (by omega), dT (by omega)]
      rfl
  intro k
  induction k with
  | zero =>
    intro u acc h
    rw [Nat.zero_add, Nat.pow_one] at h
    rw [accD_small h]
    exact one u acc h
  | succ k ih =>
    intro u acc h
    by_cases hu : u < b
    · rw [accD_small hu]; exact one u acc hu
    · have hd := dR_dchar (d := u % b) (by have := Nat.mod_lt u (show 0 < b by omega); omega)
      have hq : u / b < b ^ (k + 1) := by rw [Nat.div_lt_iff_lt_mul (by omega), ← Nat.pow_succ]; exact h
      obtain ⟨q1, q2⟩ := ih (u / b) (dchar (u % b) :: acc) hq
      unfold accD
      rw [cf hu, q1, q2]
      refine ⟨?_, ?_⟩
      · unfold valN
        rw [List.foldl_cons, hd, Int.toNat_natCast, Nat.mul_comm, Nat.div_add_mod]
      · unfold okD
        have hm := Nat.mod_lt u (show 0 < b by omega)
        rw [List.all_cons, hd, dT (by omega), dT (by omega)]
        rfl
theorem fmt_val (b u : Nat) (hb : 2 ≤ b ∧ b ≤ 16) (hu : u < 18446744073709551616) : valN b 0 (fmtN b u) = u ∧ okD (b : Int) (fmtN b u) = true := by
  have hp : u < b ^ (64 + 1) := Nat.lt_of_lt_of_le hu (Nat.le_trans (show 18446744073709551616 ≤ 2 ^ (64 + 1) by decide) (Nat.pow_le_pow_left hb.1 _))
  obtain ⟨q1, q2⟩ := accD_val b hb 64 u [] hp
  exact ⟨q1, q2⟩
theorem fmt_ne (b u : Nat) : (fmtN b u == []) = false := by
  rw [beq_eq_false_iff_ne]
  intro h
  have := (fmtN_len b u).1
  rw [h] at this
  simp at this
theorem num_hex (u : Nat) (hu : u ≤ 9223372036854775807) : numS ([48, 120] ++ fmtN 16 u) = ((u : Int), 0) := by
  obtain ⟨q1, q2⟩ := fmt_val 16 u (by decide) (by omega)
  have hm : magS ([48, 120] ++ fmtN 16 u) = ((u : Int), 0) := by
    unfold magS baseC
    have p1 : ([48, 120] : List UInt8).isPrefixOf ([48, 120] ++ fmtN 16 u) = true := rfl
    rw [p1]
    simp only [Bool.true_or, cond_true]
    have hd : ([48, 120] ++ fmtN 16 u : List UInt8).drop 2 = fmtN 16 u := rfl
    rw [hd, fmt_ne]
    simp only [cond_false]
    unfold resM
    have q2' : okD ((16 : Nat) : Int) (fmtN 16 u) = true := q2
    rw [q2', q1, dT (by omega)]
    rfl
  unfold numS
  rw [hm]
  simp only [bne_self_eq_false, cond_false]
  rw [ne_beq (show (u : Int) ≠ 9223372036854775808 by omega), w64_in (by omega)]
  rfl
theorem fmt_head (u : Nat) (hu : u < 18446744073709551616) : ∃ c t, fmtN 8 u = c :: t ∧ c ≠ 120 ∧ c ≠ 88 := by
  obtain ⟨q1, q2⟩ := fmt_val 8 u (by decide) hu
  have := fmt_ne 8 u
  cases hf : fmtN 8 u with
  | nil => rw [hf] at this; cases this
  | cons c t =>
    rw [hf] at q2
    unfold okD at q2
    rw [List.all_cons, Bool.and_eq_true, Bool.and_eq_true, decide_eq_true_eq, decide_eq_true_eq] at q2
    exact ⟨c, t, rfl, by rintro rfl; exact absurd q2.1.1 (by decide), by rintro rfl; exact absurd q2.1.1 (by decide)⟩
theorem num_oct (u : Nat) (hu : u ≤ 9223372036854775807) : numS ([48] ++ fmtN 8 u) = ((u : Int), 0) := by
  obtain ⟨q1, q2⟩ := fmt_val 8 u (by decide) (by omega)
  obtain ⟨c, t, hc, h1, h2⟩ := fmt_head u (by omega)
  have hm : magS ([48] ++ fmtN 8 u) = ((u : Int), 0) := by
    unfold magS baseC
    have p1 : ([48, 120] : List UInt8).isPrefixOf ([48] ++ fmtN 8 u) = false := by
      rw [hc]
      show ((48 : UInt8) == 48 && ((120 : UInt8) == c && true)) = false
      rw [beq_eq_false_iff_ne.2 (Ne.symm h1)]; rfl
    have p2 : ([48, 88] : List UInt8).isPrefixOf ([48] ++ fmtN 8 u) = false := by
      rw [hc]
      show ((48 : UInt8) == 48 && ((88 : UInt8) == c && true)) = false
      rw [beq_eq_false_iff_ne.2 (Ne.symm h2)]; rfl
    have p3 : ([48] : List UInt8).isPrefixOf ([48] ++ fmtN 8 u) = true := by rw [hc]; rfl
    rw [p1, p2, p3]
    simp only [Bool.or_self, cond_false, cond_true]
    have hne : (([48] ++ fmtN 8 u : List UInt8) == []) = false := rfl
    rw [hne]
    simp only [cond_false]
    have : ([48] ++ fmtN 8 u : List UInt8) = 48 :: fmtN 8 u := rfl
    rw [this, resM_zero 8 (by decide)]
    unfold resM
    have q2' : okD ((8 : Nat) : Int) (fmtN 8 u) = true := q2
    rw [q2', q1, dT (by omega)]
    rfl
  unfold numS
  rw [hm]
  simp only [bne_self_eq_false, cond_false]
  rw [ne_beq (show (u : Int) ≠ 9223372036854775808 by omega), w64_in (by omega)]
  rfl

/-! ### One conversion -/
theorem prS_one (w sp s : List UInt8) (x : Sp) (hsp : 1 ≤ sp.length) (hr : readS sp = some (x, sp.length)) (h37 : sp.getD 0 0 = 37)
    (hl : (x.l == 37) = false ∧ (x.l == 99) = false ∧ (x.l == 115) = false ∧ (x.l == 98) = false) (hw : ∀ j, j < w.length → ordB ((w ++ sp).drop j) = true) (hwl : w.length ≤ 60) (hv : (valS s).2 = true)
    (hx : x.w ≤ 4096 ∧ x.pr ≤ 4096) : prS [w ++ sp, s] = (w ++ padS x (digS x (valS s).1).1 (digS x (valS s).1).2, [], 0) := by
  have hd := digS_len x (valS s).1 hx.2
  have hlen := padS_len x (digS x (valS s).1).1 (digS x (valS s).1).2
  generalize hD : padS x (digS x (valS s).1).1 (digS x (valS s).1).2 = D at hlen
  have hst : stepS sp ⟨w, [s], false, false, []⟩ = (⟨w ++ D, [], true, false, []⟩, sp.length) := by
    unfold stepS
    rw [h37, hr]
    show (putS (convS x ⟨w, [s], false, false, []⟩).1 (convS x ⟨w, [s], false, false, []⟩).2, sp.length) = _
    have hc : convS x ⟨w, [s], false, false, []⟩ = (D, ⟨w, [], true, false, []⟩) := by
      unfold convS
      rw [hl.1, hl.2.1, hl.2.2.1, hl.2.2.2]
      simp only [cond_false]
      show (padS x (digS x (valS s).1).1 (digS x (valS s).1).2, numP s ⟨w, [], true, false, []⟩) = _
      unfold numP
      rw [hv, hD]
      rfl
    rw [hc]
    unfold putS
    rw [cf (by show ¬ 65536 - w.length < D.length; omega)]
  have hrun := pass_run w.length (w ++ sp).length (w ++ sp) ⟨[], [s], false, false, []⟩ hw (by simp) (Nat.le_refl _) (by simp) rfl
  have hpl : plainS ((w ++ sp).take w.length) ⟨[], [s], false, false, []⟩ = ⟨w, [s], false, false, []⟩ := by
    unfold plainS
    rw [List.take_left, cf (by show ¬ 65536 - 0 < w.length; omega)]
    simp
  rw [hpl, List.drop_left, show (w ++ sp).length - w.length = sp.length by simp] at hrun
  have hpass : passN (w ++ sp).length (w ++ sp) ⟨[], [s], false, false, []⟩ = ⟨w ++ D, [], true, false, []⟩ := by
    rw [hrun]
    simp only [cond_false]
    rw [passN_cons hsp (Nat.le_refl _), hst]
    simp only [cond_false, Nat.sub_self]
    rfl
  show outS (cond ((passN (w ++ sp).length (w ++ sp) ⟨[], [s], false, false, []⟩).ended || (!(passN (w ++ sp).length (w ++ sp) ⟨[], [s], false, false, []⟩).used || (passN (w ++ sp).length (w ++ sp) ⟨[], [s], false, false, []⟩).ops.length == 0)) (passN (w ++ sp).length (w ++ sp) ⟨[], [s], false, false, []⟩) (prN 1 (w ++ sp) (passN (w ++ sp).length (w ++ sp) ⟨[], [s], false, false, []⟩))) = _
  rw [hpass]
  rfl
theorem valS_itoa {n : Int} (h : R64 n) : valS (Lib.itoa n) = (n, true) := by
  have hi := intS_itoa h
  have hhd : ∃ b t, Lib.itoa n = b :: t ∧ b ≠ 39 ∧ b ≠ 34 := by
    unfold R64 at h
    by_cases h0 : 0 ≤ n
    · obtain ⟨u, rfl⟩ : ∃ u : Nat, n = u := ⟨n.toNat, by omega⟩
      rw [Lib.itoa_nonneg]
      obtain ⟨_, _, _, _, b, t, e, hb1, hb2⟩ := digits_ok u
      exact ⟨b, t, e, by rintro rfl; revert hb1; decide, by rintro rfl; revert hb1; decide⟩
    · obtain ⟨u, rfl⟩ : ∃ u : Nat, n = -(u : Int) := ⟨(-n).toNat, by omega⟩
      rw [Lib.itoa_neg u (by omega)]
      exact ⟨45, _, rfl, by decide, by decide⟩
  obtain ⟨b, t, e, h1, h2⟩ := hhd
  unfold valS
  rw [hi, e]
  have : ((b :: t : List UInt8).getD 0 0) = b := rfl
  rw [this, beq_eq_false_iff_ne.2 h1, beq_eq_false_iff_ne.2 h2]
  simp only [Bool.or_self, Bool.and_false, cond_false, cond_true]
theorem precS_m1 (z : Bool) (s : List UInt8) : precS (-1) z s = s := by
  unfold precS
  have e : ((-1 : Int) == 0 && z) = false := rfl
  rw [e]
  simp only [cond_false]
  rw [cf (by omega)]
theorem digS_dec (x : Sp) (hl : x.l = 100 ∨ x.l = 105) (hp : x.p = false) (hpr : x.pr = -1) {n : Int} (h : R64 n) : (digS x n).1 ++ (digS x n).2 = Lib.itoa n := by
  unfold digS
  rw [hpr, hp]
  have e1 : (x.l == 120) = false := by rcases hl with h | h <;> rw [h] <;> rfl
  have e2 : (x.l == 111) = false := by rcases hl with h | h <;> rw [h] <;> rfl
  have e3 : (x.l == 100 || x.l == 105) = true := by rcases hl with h | h <;> rw [h] <;> rfl
  rw [e1, e2, e3]
  simp only [cond_false, cond_true, precS_m1]
  by_cases h0 : n < 0
  · rw [ct h0]
    unfold R64 at h
    obtain ⟨v, rfl⟩ : ∃ v : Nat, n = -(v : Int) := ⟨n.natAbs, by omega⟩
    have hna : (-(v : Int)).natAbs = v := by omega
    rw [hna, Lib.itoa_neg v (by omega), fmt10 (by omega)]
    rfl
  · rw [cf h0, fmt_dec h (by omega)]
    rfl
theorem read_width : ∀ w : Fin 256, readS ([37] ++ fmtN 10 w.val ++ [105]) = some (⟨false, w.val == 0, false, w.val, -1, 105⟩, ([37] ++ fmtN 10 w.val ++ [105]).length) := by decide +kernel
theorem padS_right (x : Sp) (sg d s : List UInt8) (hs : sg ++ d = s) (hm : x.m = false) (hz : x.z = true → x.w = 0) : padS x sg d = List.replicate (x.w - s.length) 32 ++ s := by
  subst hs
  unfold padS
  by_cases h : x.w ≤ sg.length + d.length
  · rw [ct h, show x.w - (sg ++ d).length = 0 by simp; omega]; rfl
  · rw [cf h, hm]
    have hz' : x.z = false := by
      cases hh : x.z with
      | false => rfl
      | true => have := hz hh; omega
    rw [hz']
    simp
theorem formatNumbers (a0 : Int) (h0 : (Lit.int .i64 a0).wf = true) (a1 : Int) (h1 : (Lit.int .u8 a1).wf = true) : ∃ F, law30_FormatNumbers F a0 a1 = some true := by
  have hn : R64 a0 := by
    have : (decide (IntKind.min .i64 ≤ a0) && decide (a0 ≤ IntKind.max .i64)) = true := h0
    rw [Bool.and_eq_true, decide_eq_true_eq, decide_eq_true_eq] at this
    exact this
  obtain ⟨w, hw, hw255⟩ : ∃ w : Nat, a1 = w ∧ w < 256 := by
    have : (decide (IntKind.min .u8 ≤ a1) && decide (a1 ≤ IntKind.max .u8)) = true := h1
    rw [Bool.and_eq_true, decide_eq_true_eq, decide_eq_true_eq] at this
    have e1 : IntKind.min .u8 = 0 := by decide
    have e2 : IntKind.max .u8 = 255 := by decide
    rw [e1, e2] at this
    exact ⟨a1.toNat, by omega, by omega⟩
  subst hw
  refine ⟨3000, ?_⟩
  have hlen := itoa_len60 hn
  have hval := valS_itoa hn
  have hww : w64 (w : Int) = (w : Int) := w64_in (by omega)
  have hdw : Lib.itoa (w : Int) = fmtN 10 w := by rw [Lib.itoa_nonneg, fmt10 (by omega)]
  have hfl := fmtN_len 10 w
  unfold law30_FormatNumbers
  rw [dec_eq 3000 (by decide) hn, hww, dec_eq 3000 (by decide) (show R64 (w : Int) from ⟨by omega, by omega⟩), awake60]
  simp only [Option.bind_some]
  rw [hdw]
  generalize hS : Lib.itoa a0 = S at hlen hval ⊢
  have hne : 1 ≤ S.length := by
    rw [← hS]
    unfold R64 at hn
    by_cases hp : 0 ≤ a0
    · obtain ⟨u, rfl⟩ : ∃ u : Nat, a0 = u := ⟨a0.toNat, by omega⟩
      rw [Lib.itoa_nonneg, ← fmt10 (by omega)]
      exact (fmtN_len 10 u).1
    · obtain ⟨u, rfl⟩ : ∃ u : Nat, a0 = -(u : Int) := ⟨(-a0).toNat, by omega⟩
      rw [Lib.itoa_neg u (by omega)]; simp
  have hfw : ([37] ++ fmtN 10 w ++ [105] : List UInt8).length ≤ 60 := by
    have : (fmtN 10 w).length ≤ 50 := by
      have : ∀ w : Fin 256, (fmtN 10 w.val).length ≤ 50 := by decide +kernel
      exact this ⟨w, hw255⟩
    simp; omega
  -- the four calls
  have hP : ∀ f : List UInt8, f.length ≤ 60 → format_Printf 3000 [f, S] = some (prS [f, S]) := fun f hf => printf_eq 3000 [f, S] (by
    intro a ha
    simp only [List.mem_cons, List.not_mem_nil, or_false] at ha
    rcases ha with rfl | rfl
    · exact hf
    · exact hlen) (by simp) (by decide)
  have r1 : prS [[37, 100], S] = (S, [], 0) := by
    have hr : readS [37, 100] = some (⟨false, false, false, 0, -1, 100⟩, ([37, 100] : List UInt8).length) := by decide +kernel
    have := prS_one [] [37, 100] S ⟨false, false, false, 0, -1, 100⟩ (by decide) hr rfl (by decide) (fun j hj => by simp at hj) (by simp) (by rw [hval]) (by decide)
    rw [List.nil_append, List.nil_append] at this
    rw [this, hval, padS_0 _ rfl, digS_dec _ (.inl rfl) rfl rfl hn, hS]
  have r2 : prS [[37] ++ fmtN 10 w ++ [105], S] = (List.replicate (w - S.length) 32 ++ S, [], 0) := by
    have hr := read_width ⟨w, hw255⟩
    have := prS_one [] ([37] ++ fmtN 10 w ++ [105]) S ⟨false, w == 0, false, w, -1, 105⟩ (by simp) hr rfl (by refine ⟨rfl, rfl, rfl, rfl⟩) (fun j hj => by simp at hj) (by simp) (by rw [hval]) ⟨by show w ≤ 4096; omega, (show (-1 : Int) ≤ 4096 by decide)⟩
    rw [List.nil_append, List.nil_append] at this
    rw [this, hval, padS_right ⟨false, w == 0, false, w, -1, 105⟩ _ _ S (by rw [digS_dec _ (.inr rfl) rfl rfl hn, hS]) rfl (fun h => by simpa using h)]
  have ha1 : ([37] ++ fmtN 10 w ++ [105] : List UInt8) = ([37] ++ fmtN 10 w) ++ [105] := rfl
  rw [hP [37, 100] (by decide), r1]
  simp only [Option.bind_some]
  rw [rq1 (by show ([37] : List UInt8).length + (fmtN 10 w).length ≤ 9223372036854775807; simp; omega), rq1 (by simp; omega), hP _ hfw, r2]
  have hlr : (List.replicate (w - S.length) (32 : UInt8) ++ S).length = (w - S.length) + S.length := by simp
  have hsub : w64 (((List.replicate (w - S.length) (32 : UInt8) ++ S).length : Int) - (S.length : Int)) = ((w - S.length : Nat) : Int) := by
    rw [hlr, w64_in (by omega)]; omega
  simp only [Option.bind_some, beq_self_eq_true, Bool.not_true, cond_false, hsub]
  have hmax : ((((List.replicate (w - S.length) (32 : UInt8) ++ S).length : Nat) : Int) != (cond (decide ((S.length : Int) < (w : Int))) (w : Int) (S.length : Int))) = false := by
    rw [hlr]
    by_cases hc : (S.length : Int) < (w : Int)
    · rw [ct hc, bne_eq_false_iff_eq]; omega
    · rw [cf hc, bne_eq_false_iff_eq]; omega
  have htail : sl (List.replicate (w - S.length) (32 : UInt8) ++ S) ((w - S.length : Nat) : Int) ((List.replicate (w - S.length) (32 : UInt8) ++ S).length : Int) = S := by
    rw [sl_end]
    have := List.drop_left (l₁ := List.replicate (w - S.length) (32 : UInt8)) (l₂ := S)
    rw [List.length_replicate] at this
    exact this
  have h00 : ((0 : Int) != 0) = false := rfl
  rw [h00]
  simp only [Option.bind_some, cond_false, hmax, htail, beq_self_eq_true, Bool.not_true]
  rw [rq3 (by omega) (by rw [hlr]; omega) (Int.le_refl _)]
  simp only [Option.bind_some, cond_false]
  refine loopF_seq (fun i => (i : Int)) (w - S.length) (by omega) rfl (fun i rc hi => ?_) fun rc => ?_
  · have hi2 : i < (List.replicate (w - S.length) (32 : UInt8) ++ S).length := by rw [hlr]; omega
    have hg : (List.replicate (w - S.length) (32 : UInt8) ++ S).getD i 0 = 32 := by
      rw [gd hi2, List.getElem_append_left (by simpa using hi)]
      simp
    rw [ct (by omega), rq2 (by omega) (by omega), Int.toNat_natCast, hg, w64s (by omega)]
    rfl
  · rw [cf (by omega)]
    by_cases hneg : a0 < 0
    · rw [ct hneg]
    · rw [cf hneg]
      unfold R64 at hn
      obtain ⟨u, rfl⟩ : ∃ u : Nat, a0 = u := ⟨a0.toNat, by omega⟩
      have hu64 : u64 (u : Int) = u := by unfold u64; rw [IntWalk.u64_in _ (by omega)]; simp
      have r3 : prS [[48, 120, 37, 120], S] = ([48, 120] ++ fmtN 16 u, [], 0) := by
        have hr : readS [37, 120] = some (⟨false, false, false, 0, -1, 120⟩, ([37, 120] : List UInt8).length) := by decide +kernel
        have := prS_one [48, 120] [37, 120] S ⟨false, false, false, 0, -1, 120⟩ (by decide) hr rfl (by decide) (by
          intro j hj
          have : j = 0 ∨ j = 1 := by have : j < 2 := hj; omega
          rcases this with rfl | rfl <;> rfl) (by decide) (by rw [hval]) (by decide)
        have e : ([48, 120] ++ [37, 120] : List UInt8) = [48, 120, 37, 120] := rfl
        rw [e] at this
        rw [this, hval, padS_0 _ rfl]
        show ([48, 120] ++ ([] ++ precS (-1) ((u : Int) == 0) (fmtN 16 (u64 (u : Int)))), [], 0) = _
        rw [precS_m1, hu64]
        rfl
      have r4 : prS [[48, 37, 111], S] = ([48] ++ fmtN 8 u, [], 0) := by
        have hr : readS [37, 111] = some (⟨false, false, false, 0, -1, 111⟩, ([37, 111] : List UInt8).length) := by decide +kernel
        have := prS_one [48] [37, 111] S ⟨false, false, false, 0, -1, 111⟩ (by decide) hr rfl (by decide) (by
          intro j hj
          have : j = 0 := by have : j < 1 := hj; omega
          subst this
          rfl) (by decide) (by rw [hval]) (by decide)
        have e : ([48] ++ [37, 111] : List UInt8) = [48, 37, 111] := rfl
        rw [e] at this
        rw [this, hval, padS_0 _ rfl]
        show ([48] ++ ([] ++ precS (-1) ((u : Int) == 0) (fmtN 8 (u64 (u : Int)))), [], 0) = _
        rw [precS_m1, hu64]
        rfl
      have hl16 := (fmtN_len 16 u).2
      have hl8 := (fmtN_len 8 u).2
      rw [hP [48, 120, 37, 120] (by decide), hP [48, 37, 111] (by decide), r3, r4]
      simp only [Option.bind_some]
      rw [number6_eq 3000 _ (by simp; omega) (by simp; omega), number6_eq 3000 _ (by simp; omega) (by simp; omega), num_hex u (by omega), num_oct u (by omega)]
      simp only [Option.bind_some, beq_self_eq_true, cond_true]

end Go.Proofs.YtmcnemjnkiofdaaGreatDoor
