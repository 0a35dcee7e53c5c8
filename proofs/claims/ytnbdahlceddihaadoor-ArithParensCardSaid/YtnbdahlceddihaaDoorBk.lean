/-
  A tree's text, parsed, is the tree: the plain law of ArithBack.
-/
import Derived.Test.YtnbdahlceddihaaDoorPs
namespace Go.Proofs.YtnbdahlceddihaaDoor
open Go.RT
set_option linter.all false
set_option maxRecDepth 100000

/-! ### Tokens out of what stands at an offset -/
theorem drop_app {s t p : List UInt8} {i : Nat} (h : s.drop i = t ++ p) : s.drop (i + t.length) = p := by
  rw [← List.drop_drop, h]; simp
theorem drop_len {s t p : List UInt8} {i : Nat} (h : s.drop i = t ++ p) (ht : t ≠ []) : i + t.length + p.length = s.length := by
  have h1 : (s.drop i).length = (t ++ p).length := by rw [h]
  have h2 : 0 < t.length := List.length_pos_iff.2 ht
  rw [List.length_drop, List.length_append] at h1
  omega
section
variable {s : List UInt8} {i : Nat} {c : UInt8} {m : List UInt8}
theorem skip_none (h : s.drop i = c :: m) (hb : bl c = false) : skip s i = i := by
  unfold skip; rw [h, List.takeWhile_cons, hb]; rfl
theorem skip_one (h : s.drop i = 32 :: c :: m) (hb : bl c = false) : skip s i = i + 1 ∧ s.drop (i + 1) = c :: m := by
  refine ⟨?_, drop_app (t := [32]) (p := c :: m) h⟩
  unfold skip; rw [h, List.takeWhile_cons, show bl 32 = true from rfl]
  simp only [if_true]
  rw [List.takeWhile_cons, hb]; rfl
theorem skip_nil (h : s.drop i = []) : skip s i = i := by unfold skip; rw [h]; rfl
theorem sy_none (h : s.drop i = c :: m) (hb : bl c = false) : sy s i = opTxt (c :: m) := by
  unfold sy; rw [skip_none h hb, h]
theorem sy_one (h : s.drop i = 32 :: c :: m) (hb : bl c = false) : sy s i = opTxt (c :: m) := by
  unfold sy; rw [(skip_one h hb).1, (skip_one h hb).2]
theorem sy_nil (h : s.drop i = []) : sy s i = [] := by
  unfold sy; rw [skip_nil h, h]; rfl
theorem scan_op (h : s.drop i = c :: m) (hb : bl c = false) (hf : fo c = false) (ho : opTxt (c :: m) ≠ []) : kd s i = 3 ∧ tx s i = opTxt (c :: m) ∧ nx s i = i + (opTxt (c :: m)).length := by
  have : scanS s i = ⟨3, i, opTxt (c :: m)⟩ := by
    unfold scanS tokAt
    rw [skip_none h hb, h]
    simp only [hf, cond_false]
    rw [show (opTxt (c :: m) == []) = false by rw [beq_eq_false_iff_ne]; exact ho]
    rfl
  unfold nx kd tx
  rw [this, skip_none h hb]
  exact ⟨rfl, rfl, rfl⟩
theorem scan_word {w p : List UInt8} (h : s.drop i = (c :: w) ++ p) (hb : bl c = false) (hw : ∀ b, b ∈ c :: w → fo b = true) (hp : p.takeWhile fo = []) : kd s i = cond (dg c) 1 2 ∧ tx s i = c :: w ∧ nx s i = i + (c :: w).length ∧ skip s i = i := by
  have htw : ((c :: w) ++ p).takeWhile fo = c :: w := by
    rw [List.takeWhile_append_of_pos (fun b hb => hw b hb), hp, List.append_nil]
  have hsk : skip s i = i := skip_none (m := w ++ p) h hb
  have : scanS s i = ⟨cond (dg c) 1 2, i, c :: w⟩ := by
    unfold scanS tokAt wordL
    rw [hsk, h, htw]
    show cond (fo c) _ _ = _
    rw [hw c (by simp)]
    rfl
  unfold nx kd tx
  rw [this, hsk]
  exact ⟨rfl, rfl, rfl, rfl⟩
end

/-! ### Derivations do not see blanks ahead -/
theorem D_shift {s : List UInt8} {c : Cat} {i : Nat} {r : Res} (d : D s c i r) : c.isLoop = false → ∀ i', skip s i' = skip s i → D s c i' r := by
  induction d with
  | e_cond h d ih => intro _ i' hs; exact .e_cond (by rw [asg_same hs]; exact h) (ih rfl i' hs)
  | e_name h hn => intro _ i' hs; rw [← hs]; exact .e_name (by rw [asg_same hs]; exact h) (by rw [tx_same hs]; exact hn)
  | e_set h hn d ih =>
    intro _ i' hs
    rw [← tx_same hs, ← asg_same hs]
    exact .e_set (by rw [asg_same hs]; exact h) (by rw [tx_same hs]; exact hn) (by rw [nx_same hs]; exact d)
  | e_err h hn d ih =>
    intro _ i' hs
    exact .e_err (by rw [asg_same hs]; exact h) (by rw [tx_same hs]; exact hn) (by rw [nx_same hs]; exact d)
  | c_err d ih => intro _ i' hs; exact .c_err (ih rfl i' hs)
  | c_one d h ih => intro _ i' hs; exact .c_one (ih rfl i' hs) h
  | c_yes d h d2 ih ih2 => intro _ i' hs; exact .c_yes (ih rfl i' hs) h d2
  | c_mid d h d2 h2 ih ih2 => intro _ i' hs; exact .c_mid (ih rfl i' hs) h d2 h2
  | c_no d h d2 h2 d3 ih ih2 ih3 => intro _ i' hs; exact .c_no (ih rfl i' hs) h d2 h2 d3
  | c_all d h d2 h2 d3 ih ih2 ih3 => intro _ i' hs; exact .c_all (ih rfl i' hs) h d2 h2 d3
  | o_err d ih => intro _ i' hs; exact .o_err (ih rfl i' hs)
  | o_go d d2 ih ih2 => intro _ i' hs; exact .o_go (ih rfl i' hs) d2
  | l_stop h => intro h; cases h
  | l_err h d ih => intro h; cases h
  | l_go h d d2 ih ih2 => intro h; cases h
  | u_prim h d ih => intro _ i' hs; exact .u_prim (by rw [sy_same hs]; exact h) (ih rfl i' hs)
  | u_err h d ih => intro _ i' hs; exact .u_err (by rw [sy_same hs]; exact h) (by rw [nx_same hs]; exact d)
  | u_go h d ih => intro _ i' hs; rw [← sy_same hs]; exact .u_go (by rw [sy_same hs]; exact h) (by rw [nx_same hs]; exact d)
  | p_num h hv => intro _ i' hs; rw [← tx_same hs, ← nx_same hs]; exact .p_num (by rw [kd_same hs]; exact h) (by rw [tx_same hs]; exact hv)
  | p_nerr h hv => intro _ i' hs; rw [← tx_same hs, ← hs]; exact .p_nerr (by rw [kd_same hs]; exact h) (by rw [tx_same hs]; exact hv)
  | p_var h hv => intro _ i' hs; rw [← tx_same hs, ← nx_same hs]; exact .p_var (by rw [kd_same hs]; exact h) (by rw [tx_same hs]; exact hv)
  | p_verr h hv => intro _ i' hs; rw [← hs]; exact .p_verr (by rw [kd_same hs]; exact h) (by rw [tx_same hs]; exact hv)
  | p_bad h1 h2 h => intro _ i' hs; rw [← hs]; exact .p_bad (by rw [kd_same hs]; exact h1) (by rw [kd_same hs]; exact h2) (by rw [sy_same hs]; exact h)
  | p_in h d ih => intro _ i' hs; exact .p_in (by rw [sy_same hs]; exact h) (by rw [nx_same hs]; exact d)
  | p_close h d h2 ih => intro _ i' hs; exact .p_close (by rw [sy_same hs]; exact h) (by rw [nx_same hs]; exact d) h2
  | p_ok h d h2 ih => intro _ i' hs; exact .p_ok (by rw [sy_same hs]; exact h) (by rw [nx_same hs]; exact d) h2

/-! ### Numerals and names as words -/
theorem dec_last (u : Nat) (h : ¬ u < 10) : Lib.decDigits u = Lib.decDigits (u / 10) ++ [UInt8.ofNat (48 + u % 10)] := by
  rw [Lib.decDigits.eq_1 u, dif_neg h]
theorem dgt_all : ∀ d : Fin 10, dg (UInt8.ofNat (48 + d.val)) = true ∧ dR (UInt8.ofNat (48 + d.val)) = (d.val : Int) ∧ bl (UInt8.ofNat (48 + d.val)) = false ∧ fo (UInt8.ofNat (48 + d.val)) = true ∧ UInt8.ofNat (48 + d.val) ≠ 61 := by decide
theorem dgt {d : Nat} (h : d < 10) : dg (UInt8.ofNat (48 + d)) = true ∧ dR (UInt8.ofNat (48 + d)) = (d : Int) ∧ bl (UInt8.ofNat (48 + d)) = false ∧ fo (UInt8.ofNat (48 + d)) = true ∧ UInt8.ofNat (48 + d) ≠ 61 := dgt_all ⟨d, h⟩
theorem dec_ind {P : Nat → Prop} (h1 : ∀ u, u < 10 → P u) (h2 : ∀ u, ¬ u < 10 → P (u / 10) → P u) (u : Nat) : P u := by
  induction u using Nat.strongRecOn with
  | _ u ih =>
    by_cases h : u < 10
    · exact h1 u h
    · exact h2 u h (ih (u / 10) (by omega))
theorem dec_fo (u : Nat) : ∀ b, b ∈ Lib.decDigits u → dg b = true ∧ fo b = true ∧ bl b = false ∧ b ≠ 61 := by
  induction u using dec_ind with
  | h1 u h =>
    intro b hb
    rw [Lib.decDigits_one h] at hb
    obtain rfl := List.mem_singleton.1 hb
    obtain ⟨a, _, c, d, e⟩ := dgt h
    exact ⟨a, d, c, e⟩
  | h2 u h ih =>
    intro b hb
    rw [dec_last u h, List.mem_append] at hb
    rcases hb with hb | hb
    · exact ih b hb
    · obtain rfl := List.mem_singleton.1 hb
      obtain ⟨a, _, c, d, e⟩ := dgt (d := u % 10) (by omega)
      exact ⟨a, d, c, e⟩
theorem dec_val (u : Nat) : okD 10 (Lib.decDigits u) = true ∧ valN 10 0 (Lib.decDigits u) = u := by
  induction u using dec_ind with
  | h1 u h =>
    rw [Lib.decDigits_one h]
    obtain ⟨_, b, _⟩ := dgt h
    unfold okD valN
    simp only [List.all_cons, List.all_nil, List.foldl_cons, List.foldl_nil, b]
    constructor
    · simp; omega
    · omega
  | h2 u h ih =>
    obtain ⟨i1, i2⟩ := ih
    rw [dec_last u h]
    obtain ⟨_, b, _⟩ := dgt (d := u % 10) (by omega)
    unfold okD valN at *
    rw [List.all_append, List.foldl_append, i1, i2]
    simp only [List.all_cons, List.all_nil, List.foldl_cons, List.foldl_nil, b]
    constructor
    · simp; omega
    · omega
/-- The first digit of a numeral with more than one is not 0. -/
theorem dec_head (u : Nat) : 0 < u → ∃ d w, 0 < d ∧ d < 10 ∧ Lib.decDigits u = UInt8.ofNat (48 + d) :: w := by
  induction u using dec_ind with
  | h1 u h => intro h0; exact ⟨u, [], h0, h, Lib.decDigits_one h⟩
  | h2 u h ih =>
    intro _
    obtain ⟨d, w, d1, d2, e⟩ := ih (by omega)
    exact ⟨d, w ++ [UInt8.ofNat (48 + u % 10)], d1, d2, by rw [dec_last u h, e]; rfl⟩
theorem dgt_ne : ∀ d : Fin 10, 0 < d.val → UInt8.ofNat (48 + d.val) ≠ 48 ∧ (((UInt8.ofNat (48 + d.val)).toNat : Int) == 48) = false := by decide
theorem itoa_val {n : Int} (h0 : 0 ≤ n) (h1 : n ≤ 9223372036854775807) : valS (Lib.itoa n) = (n, 0) := by
  obtain ⟨u, rfl⟩ : ∃ u : Nat, n = u := ⟨n.toNat, by omega⟩
  rw [Lib.itoa_nonneg]
  by_cases hz : u = 0
  · subst hz; rw [Lib.decDigits_one (by decide)]; rfl
  · obtain ⟨d, w, d1, d2, e⟩ := dec_head u (by omega)
    obtain ⟨n1, n2⟩ := dgt_ne ⟨d, d2⟩ d1
    obtain ⟨v1, v2⟩ := dec_val u
    have hb : baseS (Lib.decDigits u) = (10, Lib.decDigits u) := by
      unfold baseS
      rw [e]
      have p1 : ([48, 120] : List UInt8).isPrefixOf (UInt8.ofNat (48 + d) :: w) = false := by
        have : ((48 : UInt8) == UInt8.ofNat (48 + d)) = false := by rw [beq_eq_false_iff_ne]; exact fun h => n1 h.symm
        simp only [List.isPrefixOf, this, Bool.false_and]
      have p2 : ([48, 88] : List UInt8).isPrefixOf (UInt8.ofNat (48 + d) :: w) = false := by
        have : ((48 : UInt8) == UInt8.ofNat (48 + d)) = false := by rw [beq_eq_false_iff_ne]; exact fun h => n1 h.symm
        simp only [List.isPrefixOf, this, Bool.false_and]
      rw [p1, p2]
      simp only [Bool.or_self, cond_false, List.getD_cons_zero]
      rw [n2]
      rfl
    unfold valS
    rw [hb]
    have hne : (Lib.decDigits u == []) = false := by rw [e]; rfl
    simp only [hne, cond_false]
    unfold resV
    have v1' : okD ((10 : Nat) : Int) (Lib.decDigits u) = true := v1
    rw [v1', v2, decide_eq_true (by omega)]
    rfl
theorem itoa_word {n : Int} (h0 : 0 ≤ n) : ∃ c w, Lib.itoa n = c :: w ∧ dg c = true ∧ bl c = false ∧ c ≠ 61 ∧ ∀ b, b ∈ c :: w → fo b = true := by
  obtain ⟨u, rfl⟩ : ∃ u : Nat, n = u := ⟨n.toNat, by omega⟩
  rw [Lib.itoa_nonneg]
  have hf := dec_fo u
  cases he : Lib.decDigits u with
  | nil =>
    exfalso
    by_cases hz : u = 0
    · subst hz; rw [Lib.decDigits_one (by decide)] at he; cases he
    · obtain ⟨d, w, _, _, e⟩ := dec_head u (by omega)
      rw [e] at he; cases he
  | cons c w =>
    rw [he] at hf
    obtain ⟨a, b, c', d⟩ := hf c (by simp)
    exact ⟨c, w, rfl, a, c', d, fun b hb => (hf b hb).2.1⟩
theorem fo_bl_all : ∀ n : Fin 256, fo (UInt8.ofNat n.val) = true → bl (UInt8.ofNat n.val) = false ∧ UInt8.ofNat n.val ≠ 61 := by decide +kernel
theorem fo_bl (b : UInt8) : fo b = true → bl b = false ∧ b ≠ 61 := byte_all (P := fun b => fo b = true → bl b = false ∧ b ≠ 61) fo_bl_all b
theorem name_word {w : List UInt8} (h : rName w = true) : ∃ c m, w = c :: m ∧ dg c = false ∧ bl c = false ∧ c ≠ 61 ∧ (∀ b, b ∈ c :: m → fo b = true) ∧ w.length ≤ 32 := by
  unfold rName at h
  cases h1 : (w == [] || decide (32 < (w.length : Int))) with
  | true => rw [h1] at h; cases h
  | false =>
    rw [h1] at h
    simp only [cond_false] at h
    cases h2 : digitS (byteAt w 0) with
    | true => rw [h2] at h; cases h
    | false =>
      rw [h2] at h
      simp only [cond_false] at h
      rw [Bool.or_eq_false_iff, decide_eq_false_iff_not] at h1
      cases w with
      | nil => simp at h1
      | cons c m =>
        have hall : ∀ b, b ∈ c :: m → fo b = true := by
          intro b hb
          obtain ⟨k, hk, rfl⟩ := List.getElem_of_mem hb
          have := List.all_eq_true.1 h k (by rw [List.mem_range'_1]; omega)
          unfold byteAt at this
          rw [gd hk] at this
          exact this
        have hc := hall c (by simp)
        obtain ⟨f1, f2⟩ := fo_bl c hc
        exact ⟨c, m, rfl, h2, f1, f2, hall, by omega⟩

/-! ### Operators as tokens -/
theorem bin_tok {op : Int} (h : 7 ≤ op ∧ op ≤ 24) (m : List UInt8) : ∃ c t, (descS op).2 = c :: t ∧ bl c = false ∧ fo c = false ∧ opTxt ((descS op).2 ++ 32 :: m) = (descS op).2 ∧ binS (descS op).2 = ((descS op).1, op) ∧ asgS (descS op).2 = -1 ∧ (descS op).2 ≠ [63] := by
  rcases op_cases (op := op) (by omega) with rfl | rfl | rfl | rfl | rfl | rfl | rfl | rfl | rfl | rfl | rfl | rfl | rfl | rfl | rfl | rfl | rfl | rfl | rfl | rfl | rfl | rfl | rfl | rfl | rfl | rfl <;>
    first | omega | exact ⟨_, _, rfl, by decide, by decide, rfl, by decide, by decide, by decide⟩
theorem asg_tok {n : Int} (h : n = 0 ∨ compS n = true) (m : List UInt8) : ∃ c t, (descS n).2 ++ [61] = c :: t ∧ bl c = false ∧ fo c = false ∧ opTxt ((descS n).2 ++ 61 :: 32 :: m) = (descS n).2 ++ [61] ∧ asgS ((descS n).2 ++ [61]) = n := by
  rcases h with rfl | h
  · exact ⟨_, _, rfl, by decide, by decide, rfl, by decide⟩
  · have h' : (7 ≤ n ∧ n ≤ 13) ∨ (20 ≤ n ∧ n ≤ 22) := by simpa [compS] using h
    rcases op_cases (op := n) (by omega) with rfl | rfl | rfl | rfl | rfl | rfl | rfl | rfl | rfl | rfl | rfl | rfl | rfl | rfl | rfl | rfl | rfl | rfl | rfl | rfl | rfl | rfl | rfl | rfl | rfl | rfl <;>
      first | omega | exact ⟨_, _, rfl, by decide, by decide, rfl, by decide⟩
theorem un_tok {op : Int} (h : 3 ≤ op ∧ op ≤ 6) : ∃ c, (descS op).2 = [c] ∧ bl c = false ∧ fo c = false ∧ unS [c] = op ∧ c ≠ 61 ∧ ∀ b m, b ≠ 61 → opTxt (c :: b :: m) = [c] := by
  have key : ∀ (b : UInt8), b ≠ 61 → ((61 : UInt8) == b) = false := fun b hb => by rw [beq_eq_false_iff_ne]; exact fun e => hb e.symm
  rcases op_cases (op := op) (by omega) with rfl | rfl | rfl | rfl | rfl | rfl | rfl | rfl | rfl | rfl | rfl | rfl | rfl | rfl | rfl | rfl | rfl | rfl | rfl | rfl | rfl | rfl | rfl | rfl | rfl | rfl <;>
    first | omega | exact ⟨_, rfl, by decide, by decide, by decide, by decide, fun b m hb => by simp [opTxt, ops35, ops18, ops17, List.isPrefixOf, key b hb]⟩

/-! ### The first byte -/
theorem opnd_head : ∀ e, Good e → ∀ l, ∃ c m, opndS e l = c :: m ∧ bl c = false ∧ c ≠ 61 := by
  apply Good.ind
  intro e g ih l
  obtain ⟨h1, h2, h3, h4, h5⟩ := g.facts
  have hs : ∃ c m, showS e = c :: m ∧ bl c = false ∧ c ≠ 61 := by
    unfold showS bodyS
    rcases kind (op_range h1) with ⟨h, hk, hl⟩ | ⟨h, hk, hl, hs⟩ | ⟨h, hk, hl, hs⟩ | ⟨h, hk, hl⟩ | ⟨h, hk, hl⟩
    · rw [hl]
      rcases h with h | h
      · obtain ⟨c, w, e1, _, e2, e3, _⟩ := itoa_word (h2 h)
        exact ⟨c, w, by simp [h, e1], e2, e3⟩
      · have hn : rName e.fName = true := by
          obtain ⟨v, _, _⟩ := g
          cases e with
          | mk op n name kids =>
            cases v with
            | mk _ _ _ _ _ _ _ _ _ h6 _ => exact h6 (by simp only [TExpr.fOp] at h; rw [h]; rfl)
        obtain ⟨c, w, e1, _, e2, e3, _⟩ := name_word hn
        exact ⟨c, w, by simp [h, e1], e2, e3⟩
    · obtain ⟨a, ha⟩ := len1 (l := e.fKids) (by omega)
      obtain ⟨c, e1, e2, _, _, e3, _⟩ := un_tok h
      exact ⟨c, _, by simp [hl, e1]; rfl, e2, e3⟩
    · obtain ⟨a, b, ha⟩ := len2 (l := e.fKids) (by omega)
      rw [ha] at ih ⊢
      obtain ⟨c, m, e1, e2, e3⟩ := ih a (by simp) (descS e.fOp).1
      have c1 : ((descS e.fOp).1 == 1) = false := by rw [beq_eq_false_iff_ne]; omega
      have c2 : ((descS e.fOp).1 == 2) = false := by rw [beq_eq_false_iff_ne]; omega
      have c3 : ((descS e.fOp).1 == 13) = false := by rw [beq_eq_false_iff_ne]; omega
      have c4 : ((descS e.fOp).1 == 14) = false := by rw [beq_eq_false_iff_ne]; omega
      exact ⟨c, _, by simp only [c1, c2, c3, c4, cond_false, List.map_cons, List.getD_cons_zero, e1]; rfl, e2, e3⟩
    · obtain ⟨a, b, d, ha⟩ := len3 (l := e.fKids) (by omega)
      rw [ha] at ih ⊢
      obtain ⟨c, m, e1, e2, e3⟩ := ih a (by simp) 3
      exact ⟨c, _, by rw [hl]; simp only [List.map_cons, List.getD_cons_zero, e1]; rfl, e2, e3⟩
    · have hn : rName e.fName = true := by
        obtain ⟨v, _, _⟩ := g
        cases e with
        | mk op n name kids =>
          cases v with
          | mk _ _ _ _ _ _ _ _ _ h6 _ => exact h6 (by simp only [TExpr.fOp] at h; rw [h]; rfl)
      obtain ⟨c, w, e1, _, e2, e3, _⟩ := name_word hn
      exact ⟨c, _, by rw [hl, e1]; rfl, e2, e3⟩
  obtain ⟨c, m, e1, e2, e3⟩ := hs
  rw [opndS_eq]
  cases decide ((descS e.fOp).1 < l) with
  | false => exact ⟨c, m, e1, e2, e3⟩
  | true => exact ⟨40, showS e ++ [41], rfl, by decide, by decide⟩

/-! ### Reading a text back -/
def catL (l : Int) : Cat := cond (l == 1) .expr (cond (l == 2) .cond (cond (l == 13) .un (.oper l)))
structure Fol (s : List UInt8) (j : Nat) (l : Int) : Prop where
  asg : asgS (sy s j) = -1
  lv : 3 ≤ l → l ≤ 12 → lvA s j < l
  low : l ≤ 2 → lvA s j < 3 ∧ sy s j ≠ [63]
theorem catL_mid {l : Int} (h : 3 ≤ l ∧ l ≤ 12) : catL l = .oper l := by
  unfold catL
  rw [show (l == 1) = false by rw [beq_eq_false_iff_ne]; omega, show (l == 2) = false by rw [beq_eq_false_iff_ne]; omega, show (l == 13) = false by rw [beq_eq_false_iff_ne]; omega]
  rfl
/-- From the category 3 up to the first. -/
theorem lift_oper {s : List UInt8} {i j : Nat} {e : TExpr} {l : Int} (hl : 1 ≤ l ∧ l ≤ 2) (d : D s (.oper 3) i (.ok e j)) (ha : asgAt s i = -1) (f : Fol s j l) : D s (catL l) i (.ok e j) := by
  have hl' : l = 1 ∨ l = 2 := by omega
  have hc : D s .cond i (.ok e j) := .c_one d (f.low (by omega)).2
  rcases hl' with rfl | rfl
  · exact .e_cond ha hc
  · exact hc
theorem lift_un {s : List UInt8} {i j : Nat} {e : TExpr} {l : Int} (hl : 1 ≤ l ∧ l ≤ 13) (d : D s .un i (.ok e j)) (ha : asgAt s i = -1) (f : Fol s j l) : D s (catL l) i (.ok e j) := by
  by_cases h13 : l = 13
  · subst h13; exact d
  · by_cases h3 : 3 ≤ l
    · rw [catL_mid (by omega)]
      exact .o_go d (.l_stop (f.lv h3 (by omega)))
    · exact lift_oper (by omega) (.o_go d (.l_stop (f.low (by omega)).1)) ha f
def K (e : TExpr) : Prop := ∀ (s : List UInt8) (i : Nat) (post : List UInt8), s.drop i = showS e ++ post → post.takeWhile fo = [] → asgS (sy s (i + (showS e).length)) = -1 →
  (13 ≤ (descS e.fOp).1 → D s .un i (.ok e (i + (showS e).length)) ∧ asgAt s i = -1) ∧
  (3 ≤ (descS e.fOp).1 → (descS e.fOp).1 ≤ 12 → lvA s (i + (showS e).length) < (descS e.fOp).1 + 1 → asgAt s i = -1 ∧ ∀ l r, 3 ≤ l → l ≤ (descS e.fOp).1 → D s (.loop l e) (i + (showS e).length) r → D s (.oper l) i r) ∧
  ((descS e.fOp).1 = 2 → lvA s (i + (showS e).length) < 3 → sy s (i + (showS e).length) ≠ [63] → D s .cond i (.ok e (i + (showS e).length)) ∧ asgAt s i = -1) ∧
  ((descS e.fOp).1 = 1 → lvA s (i + (showS e).length) < 3 → sy s (i + (showS e).length) ≠ [63] → D s .expr i (.ok e (i + (showS e).length)))
theorem lev_ge {e : TExpr} (g : Good e) : 1 ≤ (descS e.fOp).1 := by
  obtain ⟨h1, _⟩ := g.facts
  rcases kind (op_range h1) with ⟨h, hk, hl⟩ | ⟨h, hk, hl, hs⟩ | ⟨h, hk, hl, hs⟩ | ⟨h, hk, hl⟩ | ⟨h, hk, hl⟩ <;> omega
/-- A text without brackets around it. -/
theorem to_cat {e : TExpr} (g : Good e) (k : K e) {s : List UInt8} {i : Nat} {post : List UInt8} (h : s.drop i = showS e ++ post) (hp : post.takeWhile fo = []) {l : Int} (hl : 1 ≤ l ∧ l ≤ 13) (hle : l ≤ (descS e.fOp).1) (f : Fol s (i + (showS e).length) l) :
    D s (catL l) i (.ok e (i + (showS e).length)) ∧ (1 < (descS e.fOp).1 → asgAt s i = -1) := by
  obtain ⟨k1, k2, k3, k4⟩ := k s i post h hp f.asg
  have hge := lev_ge g
  by_cases c1 : 13 ≤ (descS e.fOp).1
  · obtain ⟨d, a⟩ := k1 c1
    exact ⟨lift_un hl d a f, fun _ => a⟩
  · by_cases c2 : 3 ≤ (descS e.fOp).1
    · by_cases c3 : 3 ≤ l
      · have hlv := f.lv c3 (by omega)
        obtain ⟨a, d⟩ := k2 c2 (by omega) (by omega)
        rw [catL_mid (by omega)]
        exact ⟨d l _ c3 hle (.l_stop hlv), fun _ => a⟩
      · have hlv := (f.low (by omega)).1
        obtain ⟨a, d⟩ := k2 c2 (by omega) (by omega)
        exact ⟨lift_oper (by omega) (d 3 _ (by omega) c2 (.l_stop hlv)) a f, fun _ => a⟩
    · by_cases c3 : (descS e.fOp).1 = 2
      · obtain ⟨f1, f2⟩ := f.low (by omega)
        obtain ⟨d, a⟩ := k3 c3 f1 f2
        have : l = 1 ∨ l = 2 := by omega
        rcases this with rfl | rfl
        · exact ⟨.e_cond a d, fun _ => a⟩
        · exact ⟨d, fun _ => a⟩
      · obtain rfl : l = 1 := by omega
        obtain ⟨f1, f2⟩ := f.low (by omega)
        exact ⟨k4 (by omega) f1 f2, fun h => by omega⟩
theorem brk_close {s : List UInt8} {j : Nat} {m : List UInt8} (h : s.drop j = 41 :: m) : sy s j = [41] ∧ nx s j = j + 1 := by
  have ho : opTxt (41 :: m) = [41] := rfl
  have := scan_op h (by decide) (by decide) (by rw [ho]; decide)
  exact ⟨by rw [sy_none h (by decide), ho], by rw [this.2.2, ho]; rfl⟩
/-- A text in brackets. -/
theorem brk {e : TExpr} (g : Good e) (k : K e) {s : List UInt8} {i : Nat} {post : List UInt8} (h : s.drop i = (([40] ++ showS e) ++ [41]) ++ post) :
    D s .un i (.ok e (i + (([40] ++ showS e) ++ [41]).length)) ∧ asgAt s i = -1 := by
  have h0 : s.drop i = 40 :: (showS e ++ 41 :: post) := by rw [h]; simp
  have ho : opTxt (40 :: (showS e ++ 41 :: post)) = [40] := rfl
  obtain ⟨q1, q2, q3⟩ := scan_op h0 (by decide) (by decide) (by rw [ho]; decide)
  have hsy : sy s i = [40] := by rw [sy_none h0 (by decide), ho]
  rw [ho] at q3
  have q3 : nx s i = i + 1 := q3
  have h1 : s.drop (i + 1) = showS e ++ 41 :: post := drop_app (t := [40]) h0
  have h2 : s.drop (i + 1 + (showS e).length) = 41 :: post := drop_app h1
  obtain ⟨c1, c2⟩ := brk_close h2
  obtain ⟨d, _⟩ := to_cat g k h1 (by rw [List.takeWhile_cons]; rfl) (l := 1) (by omega) (lev_ge g) ⟨by rw [c1]; decide, fun h => by omega, fun _ => ⟨by rw [lvA, c1]; decide, by rw [c1]; decide⟩⟩
  refine ⟨.u_prim (by rw [hsy]; decide) ?_, ?_⟩
  · have hlen : i + (([40] ++ showS e) ++ [41]).length = nx s (i + 1 + (showS e).length) := by rw [c2]; simp; omega
    rw [hlen]
    exact .p_ok hsy (by rw [q3]; exact d) c1
  · unfold asgAt
    rw [q1]
    rfl
/-- An operand. -/
theorem operand {e : TExpr} (g : Good e) (k : K e) {s : List UInt8} {i : Nat} {post : List UInt8} {l : Int} (hl : 1 ≤ l ∧ l ≤ 13) (h : s.drop i = opndS e l ++ post) (hp : post.takeWhile fo = []) (f : Fol s (i + (opndS e l).length) l) :
    D s (catL l) i (.ok e (i + (opndS e l).length)) ∧ (1 < l → asgAt s i = -1) := by
  rw [opndS_eq] at h f ⊢
  by_cases hlt : (descS e.fOp).1 < l
  · rw [decide_eq_true hlt] at h f ⊢
    obtain ⟨d, a⟩ := brk g k (post := post) h
    exact ⟨lift_un hl d a f, fun _ => a⟩
  · rw [decide_eq_false hlt] at h f ⊢
    obtain ⟨d, a⟩ := to_cat g k h hp hl (by omega) f
    exact ⟨d, fun _ => a (by omega)⟩
/-- A left operand, before an operator of its level. -/
theorem left_opnd {e : TExpr} (g : Good e) (k : K e) {s : List UInt8} {i : Nat} {post : List UInt8} {v : Int} (hv : 3 ≤ v ∧ v ≤ 12) (h : s.drop i = opndS e v ++ post) (hp : post.takeWhile fo = []) (ha : asgS (sy s (i + (opndS e v).length)) = -1) (hlv : lvA s (i + (opndS e v).length) = v) :
    asgAt s i = -1 ∧ ∀ l r, 3 ≤ l → l ≤ v → D s (.loop l e) (i + (opndS e v).length) r → D s (.oper l) i r := by
  rw [opndS_eq] at h ha hlv ⊢
  by_cases hlt : (descS e.fOp).1 < v
  · rw [decide_eq_true hlt] at h ha hlv ⊢
    obtain ⟨d, a⟩ := brk g k (post := post) h
    exact ⟨a, fun l r _ _ d2 => .o_go d d2⟩
  · rw [decide_eq_false hlt] at h ha hlv ⊢
    obtain ⟨k1, k2, _, _⟩ := k s i post h hp ha
    by_cases c1 : 13 ≤ (descS e.fOp).1
    · obtain ⟨d, a⟩ := k1 c1
      exact ⟨a, fun l r _ _ d2 => .o_go d d2⟩
    · obtain ⟨a, d⟩ := k2 (by omega) (by omega) (by rw [show par false (showS e) = showS e from rfl] at hlv; omega)
      exact ⟨a, fun l r h3 hle d2 => d l r h3 (by omega) d2⟩

/-- All that a valid node says. -/
theorem Good.node {e : TExpr} (g : Good e) : ∃ op n name kids, e = .mk op n name kids ∧ (kids.length : Int) = kidsS op ∧ (isNm op = false → name = []) ∧ (op = 1 → 0 ≤ n) ∧ n ≤ 9223372036854775807 ∧ (op = 26 → n = 0 ∨ compS n = true) ∧ (op ≠ 1 → op ≠ 26 → n = 0) ∧ (isNm op = true → rName name = true) := by
  obtain ⟨_, _, h3, _, _⟩ := g.facts
  obtain ⟨v, o, m⟩ := g
  cases e with
  | mk op n name kids =>
    cases v with
    | mk _ _ _ _ h1 h2 h3' h4 h5 h6 h7 =>
      refine ⟨op, n, name, kids, rfl, h1, fun h => ?_, h3', h3, h4, h5, h6⟩
      rw [h] at h2
      simpa using h2.symm
theorem after_blank {s t post : List UInt8} {i : Nat} {e : TExpr} (g : Good e) {l : Int} (h : s.drop i = 32 :: (opndS e l ++ post)) : s.drop (i + 1) = opndS e l ++ post ∧ skip s i = skip s (i + 1) := by
  obtain ⟨c, m, e1, e2, _⟩ := opnd_head e g l
  have h1 : s.drop (i + 1) = opndS e l ++ post := drop_app (t := [32]) h
  rw [e1] at h h1
  refine ⟨by rw [e1]; exact h1, ?_⟩
  rw [(skip_one (m := m ++ post) h e2).1, skip_none (m := m ++ post) h1 e2]

theorem K_all : ∀ e, Good e → K e := by
  apply Good.ind
  intro e g ih s i post hs hp hasg
  have gk := fun k (hk : k ∈ e.fKids) => g.kid k hk
  obtain ⟨op, n, name, kids, rfl, h1, h2, h3, h3', h4, h5, h6⟩ := g.node
  simp only [TExpr.fKids, TExpr.fOp] at *
  rcases kind (op_range h1) with ⟨h, hk, hl⟩ | ⟨h, hk, hl, hsl⟩ | ⟨h, hk, hl, hsl⟩ | ⟨h, hk, hl⟩ | ⟨h, hk, hl⟩
  · obtain rfl : kids = [] := by
      cases kids with
      | nil => rfl
      | cons a l => simp only [List.length_cons] at h1; omega
    refine ⟨fun _ => ?_, fun h _ => by omega, fun h => by omega, fun h => by omega⟩
    rcases h with rfl | rfl
    · obtain rfl := h2 rfl
      obtain ⟨c, w, e1, e2, e3, e4, e5⟩ := itoa_word (h3 rfl)
      have hsh : showS (.mk 1 n [] []) = c :: w := by rw [← e1]; rfl
      rw [hsh] at hs ⊢
      obtain ⟨q1, q2, q3, q4⟩ := scan_word hs e3 e5 hp
      rw [e2] at q1
      have hsy : sy s i = [] := by rw [sy_none (m := w ++ post) hs e3]; exact opTxt_fo c _ (e5 c (by simp))
      have hv : valS (tx s i) = (n, 0) := by rw [q2, ← e1]; exact itoa_val (h3 rfl) h3'
      refine ⟨.u_prim (by rw [hsy]; rfl) ?_, ?_⟩
      · have := D.p_num (s := s) (i := i) q1 (by rw [hv])
        rw [hv, q3] at this
        exact this
      · unfold asgAt; rw [q1]; rfl
    · obtain rfl := h5 (by decide) (by decide)
      obtain ⟨c, w, e1, e2, e3, e4, e5, e6⟩ := name_word (h6 rfl)
      have hsh : showS (.mk 2 0 name []) = c :: w := by rw [← e1]; rfl
      rw [hsh] at hs hasg ⊢
      obtain ⟨q1, q2, q3, q4⟩ := scan_word hs e3 e5 hp
      rw [e2] at q1
      have hsy : sy s i = [] := by rw [sy_none (m := w ++ post) hs e3]; exact opTxt_fo c _ (e5 c (by simp))
      refine ⟨.u_prim (by rw [hsy]; rfl) ?_, ?_⟩
      · have := D.p_var (s := s) (i := i) q1 (by rw [q2, ← e1]; exact h6 rfl)
        rw [q2, q3, ← e1] at this
        rw [← e1]
        exact this
      · unfold asgAt; rw [q1, q3]; exact hasg
  · obtain ⟨a, rfl⟩ := len1 (l := kids) (by omega)
    obtain rfl := h5 (by omega) (by omega)
    have hnm : isNm op = false := by
      unfold isNm
      rw [show (op == 2) = false by rw [beq_eq_false_iff_ne]; omega, show (op == 26) = false by rw [beq_eq_false_iff_ne]; omega]; rfl
    obtain rfl := h2 hnm
    obtain ⟨c, e1, e2, e3, e4, e5, e6⟩ := un_tok h
    obtain ⟨ca, ma, a1, a2, a3⟩ := opnd_head a (gk a (by simp)) 13
    have hsh : showS (.mk op 0 [] [a]) = c :: opndS a 13 := by
      unfold showS bodyS
      simp only [TExpr.fOp, TExpr.fN, TExpr.fName, TExpr.fKids]
      rw [hl, e1]; rfl
    rw [hsh] at hs hasg ⊢
    refine ⟨fun _ => ?_, fun h _ => by omega, fun h => by omega, fun h => by omega⟩
    have hs' : s.drop i = c :: ca :: (ma ++ post) := by rw [hs, a1]; rfl
    have ho := e6 ca (ma ++ post) a3
    obtain ⟨q1, q2, q3⟩ := scan_op hs' e2 e3 (by rw [ho]; simp)
    rw [ho] at q2 q3
    have q3 : nx s i = i + 1 := q3
    have hsy : sy s i = [c] := by rw [sy_none hs' e2, ho]
    have h1' : s.drop (i + 1) = opndS a 13 ++ post := drop_app (t := [c]) hs
    have hlen : i + (c :: opndS a 13).length = i + 1 + (opndS a 13).length := by simp only [List.length_cons]; omega
    rw [hlen] at hasg ⊢
    obtain ⟨d, _⟩ := operand (gk a (by simp)) (ih a (by simp)) (l := 13) (by omega) h1' hp ⟨hasg, fun _ h => by omega, fun h => by omega⟩
    refine ⟨?_, by unfold asgAt; rw [q1]; rfl⟩
    have := D.u_go (s := s) (i := i) (by rw [hsy, e4]; omega) (by rw [q3]; exact d)
    rw [hsy, e4] at this
    exact this
  · obtain ⟨a, b, rfl⟩ := len2 (l := kids) (by omega)
    obtain rfl := h5 (by omega) (by omega)
    have hnm : isNm op = false := by
      unfold isNm
      rw [show (op == 2) = false by rw [beq_eq_false_iff_ne]; omega, show (op == 26) = false by rw [beq_eq_false_iff_ne]; omega]; rfl
    obtain rfl := h2 hnm
    have c1 : ((descS op).1 == 1) = false := by rw [beq_eq_false_iff_ne]; omega
    have c2 : ((descS op).1 == 2) = false := by rw [beq_eq_false_iff_ne]; omega
    have c3 : ((descS op).1 == 13) = false := by rw [beq_eq_false_iff_ne]; omega
    have c4 : ((descS op).1 == 14) = false := by rw [beq_eq_false_iff_ne]; omega
    have hsh : showS (.mk op 0 [] [a, b]) = (opndS a (descS op).1 ++ (([32] ++ (descS op).2) ++ [32])) ++ opndS b ((descS op).1 + 1) := by
      unfold showS bodyS
      simp only [TExpr.fOp, TExpr.fN, TExpr.fName, TExpr.fKids, c1, c2, c3, c4, cond_false, List.map_cons, List.getD_cons_zero, List.getD_cons_succ]
    rw [hsh] at hs hasg ⊢
    refine ⟨fun h => by omega, fun _ _ hlv => ?_, fun h => by omega, fun h => by omega⟩
    obtain ⟨c, t, t1, t2, t3, t4, t5, t6, t7⟩ := bin_tok h (opndS b ((descS op).1 + 1) ++ post)
    have hs1 : s.drop i = opndS a (descS op).1 ++ (32 :: ((descS op).2 ++ 32 :: (opndS b ((descS op).1 + 1) ++ post))) := by rw [hs]; simp
    have hj1 := drop_app hs1
    generalize hJ1 : i + (opndS a (descS op).1).length = j1 at hj1
    have hj1' : s.drop j1 = 32 :: c :: (t ++ 32 :: (opndS b ((descS op).1 + 1) ++ post)) := by rw [hj1, t1]; rfl
    have hsy : sy s j1 = (descS op).2 := by
      rw [sy_one hj1' t2, ← t4, t1]; rfl
    have hlen1 : j1 ≤ s.length := by
      have := congrArg List.length hj1
      rw [List.length_drop] at this
      simp only [List.length_cons] at this
      omega
    have hne : sy s j1 ≠ [] := by rw [hsy, t1]; simp
    have hnx : nx s j1 = j1 + 1 + (descS op).2.length := by
      unfold nx
      rw [(sy_kd s j1 hlen1 hne).2, hsy, (skip_one hj1' t2).1]
    have hj2 : s.drop (nx s j1) = 32 :: (opndS b ((descS op).1 + 1) ++ post) := by
      rw [hnx]
      have := drop_app (t := 32 :: (descS op).2) (p := 32 :: (opndS b ((descS op).1 + 1) ++ post)) (by rw [hj1]; rfl)
      rw [← this]
      congr 1
      simp only [List.length_cons]; omega
    obtain ⟨hb1, hb2⟩ := after_blank (t := []) (gk b (by simp)) hj2
    have hend : i + ((opndS a (descS op).1 ++ (([32] ++ (descS op).2) ++ [32])) ++ opndS b ((descS op).1 + 1)).length = nx s j1 + 1 + (opndS b ((descS op).1 + 1)).length := by
      rw [hnx]; simp only [List.length_append, List.length_cons, List.length_nil]; omega
    rw [hend] at hlv hasg ⊢
    have hlvj : lvA s j1 = (descS op).1 := by rw [lvA, hsy, t5]
    obtain ⟨la, ld⟩ := left_opnd (gk a (by simp)) (ih a (by simp)) hl hs1 (by rw [List.takeWhile_cons]; rfl) (by rw [hJ1, hsy]; exact t6) (by rw [hJ1]; exact hlvj)
    rw [hJ1] at ld
    have db : D s (catL ((descS op).1 + 1)) (nx s j1 + 1) (.ok b (nx s j1 + 1 + (opndS b ((descS op).1 + 1)).length)) :=
      (operand (gk b (by simp)) (ih b (by simp)) (l := (descS op).1 + 1) (by omega) hb1 hp ⟨hasg, fun _ _ => hlv, fun h => by omega⟩).1
    have db' : D s (.oper ((binS (sy s j1)).1 + 1)) (nx s j1) (.ok b (nx s j1 + 1 + (opndS b ((descS op).1 + 1)).length)) := by
      have hb' : (binS (sy s j1)).1 = (descS op).1 := hlvj
      rw [hb']
      by_cases h12 : (descS op).1 = 12
      · rw [h12] at db hlv ⊢
        have db : D s .un _ _ := db
        exact .o_go (D_shift db rfl _ hb2) (.l_stop hlv)
      · rw [catL_mid (by omega)] at db
        exact D_shift db rfl _ hb2
    refine ⟨la, fun l r h3 hle d2 => ld l r h3 hle (.l_go (by show l ≤ lvA s j1; omega) db' ?_)⟩
    have : (binS (sy s j1)).2 = op := by rw [hsy, t5]
    rw [this]
    exact d2
  · obtain ⟨a, b, d, rfl⟩ := len3 (l := kids) (by omega)
    subst h
    obtain rfl := h5 (by omega) (by omega)
    obtain rfl := h2 rfl
    have hsh : showS (.mk 25 0 [] [a, b, d]) = (((opndS a 3 ++ [32, 63, 32]) ++ opndS b 1) ++ [32, 58, 32]) ++ opndS d 2 := rfl
    rw [hsh] at hs hasg ⊢
    refine ⟨fun h => by omega, fun h _ => by omega, fun _ hlv hq => ?_, fun h => by omega⟩
    have hs1 : s.drop i = opndS a 3 ++ (32 :: 63 :: 32 :: (opndS b 1 ++ (32 :: 58 :: 32 :: (opndS d 2 ++ post)))) := by rw [hs]; simp
    have hj1 := drop_app hs1
    generalize hJ1 : i + (opndS a 3).length = j1 at hj1
    have hsy1 : sy s j1 = [63] := by rw [sy_one hj1 (by decide)]; rfl
    have hlen1 : j1 ≤ s.length := by
      have := congrArg List.length hj1
      rw [List.length_drop] at this
      simp only [List.length_cons] at this
      omega
    have hnx1 : nx s j1 = j1 + 2 := by
      unfold nx
      rw [(sy_kd s j1 hlen1 (by rw [hsy1]; decide)).2, hsy1, (skip_one hj1 (by decide)).1]
      rfl
    have hj2 : s.drop (nx s j1) = 32 :: (opndS b 1 ++ (32 :: 58 :: 32 :: (opndS d 2 ++ post))) := by
      rw [hnx1]; exact drop_app (t := [32, 63]) hj1
    obtain ⟨hb1, hb2⟩ := after_blank (t := []) (gk b (by simp)) hj2
    have hj3 := drop_app hb1
    generalize hJ2 : nx s j1 + 1 + (opndS b 1).length = j2 at hj3
    have hsy2 : sy s j2 = [58] := by rw [sy_one hj3 (by decide)]; rfl
    have hlen2 : j2 ≤ s.length := by
      have := congrArg List.length hj3
      rw [List.length_drop] at this
      simp only [List.length_cons] at this
      omega
    have hnx2 : nx s j2 = j2 + 2 := by
      unfold nx
      rw [(sy_kd s j2 hlen2 (by rw [hsy2]; decide)).2, hsy2, (skip_one hj3 (by decide)).1]
      rfl
    have hj4 : s.drop (nx s j2) = 32 :: (opndS d 2 ++ post) := by
      rw [hnx2]; exact drop_app (t := [32, 58]) hj3
    obtain ⟨hd1, hd2⟩ := after_blank (t := []) (gk d (by simp)) hj4
    have hend : i + ((((opndS a 3 ++ [32, 63, 32]) ++ opndS b 1) ++ [32, 58, 32]) ++ opndS d 2).length = nx s j2 + 1 + (opndS d 2).length := by
      rw [hnx2, ← hJ2, hnx1, ← hJ1]; simp only [List.length_append, List.length_cons, List.length_nil]; omega
    rw [hend] at hlv hasg hq ⊢
    obtain ⟨da, aa⟩ := operand (gk a (by simp)) (ih a (by simp)) (l := 3) (by omega) hs1 (by rw [List.takeWhile_cons]; rfl) (by rw [hJ1]; exact ⟨by rw [hsy1]; decide, fun _ _ => by rw [lvA, hsy1]; decide, fun h => by omega⟩)
    rw [hJ1] at da
    obtain ⟨db, _⟩ := operand (gk b (by simp)) (ih b (by simp)) (l := 1) (by omega) hb1 (by rw [List.takeWhile_cons]; rfl) (by rw [hJ2]; exact ⟨by rw [hsy2]; decide, fun h => by omega, fun _ => ⟨by rw [lvA, hsy2]; decide, by rw [hsy2]; decide⟩⟩)
    rw [hJ2] at db
    obtain ⟨dd, _⟩ := operand (gk d (by simp)) (ih d (by simp)) (l := 2) (by omega) hd1 hp ⟨hasg, fun h => by omega, fun _ => ⟨hlv, hq⟩⟩
    have da : D s (.oper 3) i _ := da
    have db : D s .expr _ _ := db
    have dd : D s .cond _ _ := dd
    exact ⟨.c_all da hsy1 (D_shift db rfl _ hb2) hsy2 (D_shift dd rfl _ hd2), aa (by omega)⟩
  · obtain ⟨a, rfl⟩ := len1 (l := kids) (by omega)
    subst h
    obtain ⟨c, w, e1, e2, e3, e4, e5, e6⟩ := name_word (h6 rfl)
    have hn := h4 rfl
    have hsh : showS (.mk 26 n name [a]) = (((name ++ [32]) ++ (descS n).2) ++ [61, 32]) ++ opndS a 1 := rfl
    rw [hsh] at hs hasg ⊢
    refine ⟨fun h => by omega, fun h _ => by omega, fun h => by omega, fun _ hlv hq => ?_⟩
    obtain ⟨c', t, t1, t2, t3, t4, t5⟩ := asg_tok hn (opndS a 1 ++ post)
    have hs1 : s.drop i = name ++ (32 :: ((descS n).2 ++ 61 :: 32 :: (opndS a 1 ++ post))) := by rw [hs]; simp
    have hs1' : s.drop i = (c :: w) ++ (32 :: ((descS n).2 ++ 61 :: 32 :: (opndS a 1 ++ post))) := by rw [← e1]; exact hs1
    obtain ⟨q1, q2, q3, q4⟩ := scan_word hs1' e3 e5 (by rw [List.takeWhile_cons]; rfl)
    rw [e2] at q1
    rw [← e1] at q2 q3
    have hj1 : s.drop (nx s i) = 32 :: ((descS n).2 ++ 61 :: 32 :: (opndS a 1 ++ post)) := by rw [q3]; exact drop_app hs1
    have hcat : (descS n).2 ++ 61 :: 32 :: (opndS a 1 ++ post) = c' :: (t ++ 32 :: (opndS a 1 ++ post)) := by
      rw [show (descS n).2 ++ 61 :: 32 :: (opndS a 1 ++ post) = ((descS n).2 ++ [61]) ++ 32 :: (opndS a 1 ++ post) by simp, t1]; rfl
    have hj1' : s.drop (nx s i) = 32 :: c' :: (t ++ 32 :: (opndS a 1 ++ post)) := by rw [hj1, hcat]
    have hsy : sy s (nx s i) = (descS n).2 ++ [61] := by rw [sy_one hj1' t2, ← hcat]; exact t4
    have hlen1 : nx s i ≤ s.length := by
      have := congrArg List.length hj1
      rw [List.length_drop] at this
      simp only [List.length_cons] at this
      omega
    have hnx : nx s (nx s i) = nx s i + 1 + ((descS n).2 ++ [61]).length := by
      have h0 : nx s (nx s i) = skip s (nx s i) + (tx s (nx s i)).length := rfl
      rw [h0, (sy_kd s _ hlen1 (by rw [hsy]; simp)).2, hsy, (skip_one hj1' t2).1]
    have hj2 : s.drop (nx s (nx s i)) = 32 :: (opndS a 1 ++ post) := by
      rw [hnx]
      have := drop_app (t := 32 :: ((descS n).2 ++ [61])) (p := 32 :: (opndS a 1 ++ post)) (by rw [hj1]; simp)
      rw [← this]
      congr 1
      simp only [List.length_cons]; omega
    obtain ⟨ha1, ha2⟩ := after_blank (t := []) (gk a (by simp)) hj2
    have hend : i + ((((name ++ [32]) ++ (descS n).2) ++ [61, 32]) ++ opndS a 1).length = nx s (nx s i) + 1 + (opndS a 1).length := by
      rw [hnx, q3]; simp only [List.length_append, List.length_cons, List.length_nil]; omega
    rw [hend] at hlv hasg hq ⊢
    obtain ⟨da, _⟩ := operand (gk a (by simp)) (ih a (by simp)) (l := 1) (by omega) ha1 hp ⟨hasg, fun h => by omega, fun _ => ⟨hlv, hq⟩⟩
    have da : D s .expr _ _ := da
    have hat : asgAt s i = n := by unfold asgAt; rw [q1, hsy]; exact t5
    have hn1 : n ≠ -1 := by
      rcases hn with hn | hn
      · omega
      · have : (7 ≤ n ∧ n ≤ 13) ∨ (20 ≤ n ∧ n ≤ 22) := by simpa [compS] using hn
        omega
    have := D.e_set (s := s) (i := i) (by rw [hat]; exact hn1) (by rw [q2]; exact h6 rfl) (D_shift da rfl _ ha2)
    rw [hat, q2] at this
    exact this

/-! ### The law -/
theorem validL_depth : ∀ (l : List TExpr) (d z : Int), (∀ k, k ∈ l → depthS k ≤ z) → 0 ≤ z → ∀ m, m ≤ z → depthL l m ≤ z
  | [], d, z, _, _, m, hm => hm
  | k :: l, d, z, hk, hz, m, hm => by
    simp only [depthL]
    refine validL_depth l d z (fun k h => hk k (List.mem_cons_of_mem _ h)) hz _ ?_
    cases decide (m < depthS k) with
    | true => exact hk k (by simp)
    | false => exact hm
theorem valid_depth (e : TExpr) : ∀ d, validS e d = 0 → depthS e ≤ 32 - d := by
  induction e using TExpr.ind with
  | h op n name kids ih =>
    intro d h
    simp only [validS] at h
    cases h0 : decide (32 ≤ d) with
    | true => rw [h0] at h; simp at h
    | false =>
      rw [h0] at h
      have h0 := of_decide_eq_false h0
      cases h1 : shapeBad op n name kids.length with
      | true => rw [h1] at h; simp at h
      | false =>
        rw [h1] at h
        cases h2 : (isNm op && !rName name) with
        | true => rw [h2] at h; simp at h
        | false =>
          rw [h2] at h
          simp only [cond_false] at h
          rw [validL_zero] at h
          have := validL_depth kids 0 (32 - d - 1) (fun k hk => by have := ih k hk _ (h k hk); omega) (by omega) 0 (by omega)
          simp only [depthS]; omega
/-- A valid tree's text, parsed. -/
theorem back {e : TExpr} (g : Good e) (hv : validS e 0 = 0) (hlen : (showS e).length ≤ 4096) : Evt fun F _ => arith_Parse F (showS e) = some (e, 0, 0) := by
  have hdep := valid_depth e 0 hv
  have h : (showS e).drop 0 = showS e ++ [] := by simp
  have hend : (showS e).drop (0 + (showS e).length) = [] := drop_app h
  have hsy : sy (showS e) (0 + (showS e).length) = [] := sy_nil hend
  obtain ⟨d, _⟩ := to_cat g (K_all e g) h rfl (l := 1) (by omega) (lev_ge g) ⟨by rw [hsy]; rfl, fun h => by omega, fun _ => ⟨by rw [lvA, hsy]; decide, by rw [hsy]; decide⟩⟩
  have d : D (showS e) .expr 0 (.ok e (0 + (showS e).length)) := d
  have h0 : skip (showS e) 0 < (showS e).length := by
    obtain ⟨c, m, e1, e2, _⟩ := opnd_head e g 1
    rw [opnd_one g] at e1
    rw [skip_none (c := c) (m := m) (by rw [List.drop_zero]; exact e1) e2, e1]
    simp
  refine (Parse_eq hlen h0 d).mono fun F _ h => ?_
  rw [h.1]
  have hs : skip (showS e) (0 + (showS e).length) = (showS e).length := by rw [skip_nil hend]; omega
  show some (cond (decide (skip (showS e) (0 + (showS e).length) < (showS e).length)) _ (cond (decide (32 < depthS e)) _ (e, 0, 0))) = _
  rw [hs, decide_eq_false (by omega), decide_eq_false (by omega)]
  rfl

theorem arithBack_plain (a0 : TExpr) (q0 : okTExpr a0) : ∃ F, law05_ArithBack F a0 = some true := by
  refine Evt.diag (p := fun F _ => law05_ArithBack F a0 = some true) ?_
  cases h0 : SmallS a0 with
  | false =>
    refine (Small_eq q0).mono fun F _ s0 => ?_
    unfold law05_ArithBack
    rw [TExpr.eta, s0, h0, awake60]
    rfl
  | true =>
    obtain ⟨b0, m0⟩ := SmallS_fact h0
    have hS := arith_Show_eq q0 m0 (by omega)
    by_cases hv : validS a0 0 = 0
    · have g := validS_good q0 m0 hv
      by_cases hlen : (showS a0).length ≤ 4096
      · refine ((Small_eq q0).and hS).map3 (back g hv hlen) (ref05_Same_eq q0).fst fun F _ s0 s1 s2 => ?_
        have hs : ShowS a0 = (showS a0, 0) := by
          unfold ShowS
          rw [hv, opnd_one g, decide_eq_false (by omega)]
          rfl
        unfold law05_ArithBack ref05_Same
        rw [TExpr.eta, s0.1, h0, awake60, s0.2, hs]
        simp only [Option.bind_some, Bool.not_true, cond_false, bne_self_eq_false, s1, beq_self_eq_true, cond_true, TExpr.eta, s2, sameB_refl]
      · refine ((Small_eq q0).map2 hS fun F _ s0 s1 => ?_)
        have hs : ShowS a0 = ([], 3) := by
          unfold ShowS
          rw [hv, opnd_one g, decide_eq_true (by omega)]
          rfl
        unfold law05_ArithBack
        rw [TExpr.eta, s0, h0, awake60, s1, hs]
        rfl
    · refine ((Small_eq q0).map2 hS fun F _ s0 s1 => ?_)
      have hv' : (validS a0 0 != 0) = true := by simpa using hv
      have hs : ShowS a0 = ([], validS a0 0) := by
        unfold ShowS
        rw [hv']
        rfl
      unfold law05_ArithBack
      rw [TExpr.eta, s0, h0, awake60, s1, hs]
      simp only [Option.bind_some, Bool.not_true, cond_false, hv', cond_true, beq_self_eq_true]
end Go.Proofs.YtnbdahlceddihaaDoor
