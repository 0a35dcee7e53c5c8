/-
  Parse: what both models give; the plain law of ArithParses.
-/
import Derived.Test.YtamjncikmfpihaaGreatDoorA2
namespace Go.Proofs.YtamjncikmfpihaaGreatDoor
open Go.RT
set_option linter.unusedVariables false
set_option linter.unusedSimpArgs false
set_option linter.all false
set_option maxRecDepth 100000

theorem wf_of {n : Int} (h : -9223372036854775808 ≤ n ∧ n ≤ 9223372036854775807) : (Lit.int .i64 n).wf = true := by
  have h1 : IntKind.i64.min = -9223372036854775808 := by decide
  have h2 : IntKind.i64.max = 9223372036854775807 := by decide
  simp only [Lit.wf, Bool.and_eq_true, decide_eq_true_eq, h1, h2]
  omega
theorem asgS_le : ∀ x, x ∈ ([] :: ops35) → asgS x ≤ 26 := by decide
theorem unS_le (x : List UInt8) : 0 ≤ unS x ∧ unS x ≤ 6 := by
  unfold unS
  cases (x == [45]) <;> cases (x == [43]) <;> cases (x == [33]) <;> cases (x == [126]) <;> decide
theorem binS_le : ∀ x, x ∈ ([] :: ops35) → 0 ≤ (binS x).2 ∧ (binS x).2 ≤ 26 := by decide

def okRes (s : List UInt8) (c : Cat) (i : Nat) : Res → Prop
  | .ok e j => okTExpr e ∧ (match c with | .loop _ a => nodes e + i ≤ j + nodes a | _ => nodes e + i ≤ j)
  | .err _ _ => True
def Cat.okA : Cat → Prop
  | .oper l => 0 < l
  | .loop l a => 0 < l ∧ okTExpr a
  | _ => True
theorem okA_L {c : Cat} (h : c.okA) : c.okL := by
  cases c with
  | oper l => exact h
  | loop l a => exact h.1
  | _ => trivial
theorem name_len (s : List UInt8) (i : Nat) (hl : s.length ≤ 1000000) (hi : i ≤ s.length) : (tx s i).length ≤ maxLen := by
  have := tx_len hi
  have h : (1000000 : Nat) ≤ maxLen := by decide
  omega
theorem ok_mk {op n : Int} {name : List UInt8} {kids : List TExpr} (h1 : 0 ≤ op ∧ op ≤ 26) (h2 : -1 ≤ n ∧ n ≤ 9223372036854775807) (h3 : name.length ≤ maxLen) (h4 : kids.length ≤ 3) (h5 : ∀ x, x ∈ kids → okTExpr x) : okTExpr (.mk op n name kids) :=
  .mk op n name kids (wf_of (by omega)) (wf_of (by omega)) h3 (Nat.le_trans h4 (by decide)) h5
theorem D_ok {s : List UInt8} (hl : s.length ≤ 1000000) {c : Cat} {i : Nat} {r : Res} (d : D s c i r) : i ≤ s.length → c.okA → okRes s c i r := by
  induction d with
  | @e_cond i r h d ih =>
    intro hi _
    have := ih hi trivial
    cases r with
    | ok e j => exact this
    | err p c => trivial
  | e_name h hn => intro _ _; trivial
  | @e_set i j e h hn d ih =>
    intro hi _
    obtain ⟨a, b, c, f⟩ := asg_move hi h
    obtain ⟨x, y⟩ := ih c trivial
    have m := sy_move a (asgS_nil (asg_kd h).2.1)
    have g := asgS_le _ (sy_mem s (nx s i))
    have g2 := asgS_ge _ (sy_mem s (nx s i))
    rw [(asg_kd h).2.2]
    have y : nodes e + nx s (nx s i) ≤ j := y
    refine ⟨ok_mk (by omega) (by omega) (name_len s i hl hi) (by simp) (by simpa using x), ?_⟩
    show nodes _ + i ≤ j
    simp only [nodes, nodesL]; omega
  | e_err h hn d ih => intro _ _; trivial
  | c_err d ih => intro _ _; trivial
  | c_one d h ih => intro hi _; exact ih hi (show (0 : Int) < 3 by decide)
  | c_yes d h d2 ih ih2 => intro _ _; trivial
  | c_mid d h d2 h2 ih ih2 => intro _ _; trivial
  | c_no d h d2 h2 d3 ih ih2 ih3 => intro _ _; trivial
  | @c_all i j k m a b e d h d2 h2 d3 ih ih2 ih3 =>
    intro hi _
    obtain ⟨_, p1, _⟩ := D_pos d hi (show (0 : Int) < 3 by decide)
    obtain ⟨m1, m2⟩ := sy_move p1 (by rw [h]; decide)
    obtain ⟨_, p2, _⟩ := D_pos d2 m1 trivial
    obtain ⟨m3, m4⟩ := sy_move p2 (by rw [h2]; decide)
    obtain ⟨o1, n1⟩ := ih hi (show (0 : Int) < 3 by decide)
    obtain ⟨o2, n2⟩ := ih2 m1 trivial
    obtain ⟨o3, n3⟩ := ih3 m3 trivial
    have n1 : nodes a + i ≤ j := n1
    have n2 : nodes b + nx s j ≤ k := n2
    have n3 : nodes e + nx s k ≤ m := n3
    refine ⟨ok_mk (by omega) (by omega) (by simp) (by simp) (by simpa using ⟨o1, o2, o3⟩), ?_⟩
    show nodes _ + i ≤ m
    simp only [nodes, nodesL]; omega
  | o_err d ih => intro _ _; trivial
  | @o_go l i j a r d d2 ih ih2 =>
    intro hi hc
    obtain ⟨_, p1, _⟩ := D_pos d hi trivial
    obtain ⟨o1, n1⟩ := ih hi trivial
    have := ih2 p1 ⟨hc, o1⟩
    cases r with
    | ok e k =>
      obtain ⟨o2, n2⟩ := this
      have n1 : nodes a + i ≤ j := n1
      have n2 : nodes e + j ≤ k + nodes a := n2
      exact ⟨o2, show nodes e + i ≤ k by omega⟩
    | err p c => trivial
  | l_stop h => intro hi hc; exact ⟨hc.2, by simp only []; omega⟩
  | l_err h d ih => intro _ _; trivial
  | @l_go l i j a b r h d d2 ih ih2 =>
    intro hi hc
    obtain ⟨hc1, hc2⟩ := hc
    obtain ⟨m1, m2⟩ := sy_move hi (binS_nil hc1 h)
    obtain ⟨_, p1, _⟩ := D_pos d m1 (show (0 : Int) < _ by omega)
    obtain ⟨o1, n1⟩ := ih m1 (show (0 : Int) < _ by omega)
    have g := binS_le _ (sy_mem s i)
    have := ih2 p1 ⟨hc1, ok_mk g (by omega) (by simp) (by simp) (by simpa using ⟨hc2, o1⟩)⟩
    cases r with
    | ok e k =>
      obtain ⟨o2, n2⟩ := this
      have n1 : nodes b + nx s i ≤ j := n1
      have n2 : nodes e + j ≤ k + nodes (.mk (binS (sy s i)).2 0 [] [a, b]) := n2
      refine ⟨o2, ?_⟩
      show nodes e + i ≤ k + nodes a
      simp only [nodes, nodesL] at n2; omega
    | err p c => trivial
  | @u_prim i r h d ih =>
    intro hi _
    have := ih hi trivial
    cases r with
    | ok e j => exact this
    | err p c => trivial
  | u_err h d ih => intro _ _; trivial
  | @u_go i j a h d ih =>
    intro hi _
    obtain ⟨m1, m2⟩ := sy_move hi (unS_nil h)
    obtain ⟨o1, n1⟩ := ih m1 trivial
    have n1 : nodes a + nx s i ≤ j := n1
    have g := unS_le (sy s i)
    refine ⟨ok_mk (by omega) (by omega) (by simp) (by simp) (by simpa using o1), ?_⟩
    show nodes _ + i ≤ j
    simp only [nodes, nodesL]; omega
  | @p_num i h hv =>
    intro hi _
    have m := (nx_bounds s i hi).2.2 (by rw [h]; decide)
    have g := valS_range _ hv
    refine ⟨ok_mk (by omega) (by omega) (by simp) (by simp) (by simp), ?_⟩
    show nodes _ + i ≤ nx s i
    simp only [nodes, nodesL]; omega
  | p_nerr h hv => intro _ _; trivial
  | @p_var i h hv =>
    intro hi _
    have m := (nx_bounds s i hi).2.2 (by rw [h]; decide)
    refine ⟨ok_mk (by omega) (by omega) (name_len s i hl hi) (by simp) (by simp), ?_⟩
    show nodes _ + i ≤ nx s i
    simp only [nodes, nodesL]; omega
  | p_verr h hv => intro _ _; trivial
  | p_bad h1 h2 h => intro _ _; trivial
  | p_in h d ih => intro _ _; trivial
  | p_close h d h2 ih => intro _ _; trivial
  | @p_ok i j e h d h2 ih =>
    intro hi _
    obtain ⟨m1, m2⟩ := sy_move hi (by rw [h]; decide)
    obtain ⟨_, p1, _⟩ := D_pos d m1 trivial
    obtain ⟨m3, m4⟩ := sy_move p1 (by rw [h2]; decide)
    obtain ⟨o1, n1⟩ := ih m1 trivial
    have n1 : nodes e + nx s i ≤ j := n1
    exact ⟨o1, show nodes e + i ≤ nx s j by omega⟩

/-! ### Depth -/
mutual
def depthS : TExpr → Int
  | .mk _ _ _ kids => depthL kids 0 + 1
def depthL : List TExpr → Int → Int
  | [], m => m
  | k :: l, m => depthL l (cond (decide (m < depthS k)) (depthS k) m)
end
theorem depthS_eq (e : TExpr) : depthS e = depthL e.fKids 0 + 1 := by cases e; rfl
theorem depthL_app : ∀ (l m : List TExpr) (z : Int), depthL (l ++ m) z = depthL m (depthL l z)
  | [], m, z => rfl
  | k :: l, m, z => by simp only [List.cons_append, depthL, depthL_app l m]
theorem depthL_le : ∀ (l : List TExpr) (z : Int), 0 ≤ z → (∀ k, k ∈ l → 0 ≤ depthS k ∧ depthS k ≤ (nodes k : Int)) → z ≤ depthL l z ∧ depthL l z ≤ z + (nodesL l : Int)
  | [], z, h, _ => by simp [depthL, nodesL]
  | k :: l, z, h, hk => by
    have h1 := hk k (by simp)
    simp only [depthL, nodesL]
    cases hc : decide (z < depthS k) with
    | true =>
      have hc : z < depthS k := of_decide_eq_true hc
      have h2 := depthL_le l (depthS k) (by omega) fun k h => hk k (List.mem_cons_of_mem _ h)
      simp only [cond_true]; omega
    | false =>
      have h2 := depthL_le l z h fun k h => hk k (List.mem_cons_of_mem _ h)
      simp only [cond_false]; omega
theorem depthS_le (e : TExpr) : 0 ≤ depthS e ∧ depthS e ≤ (nodes e : Int) := by
  induction e using TExpr.ind with
  | h op n name kids ih =>
    have := depthL_le kids 0 (by omega) ih
    simp only [depthS, nodes]; omega
theorem depth_loop {r : TExpr → Option Int} {F : Nat} {l : List TExpr} (hF : l.length < F) (hb : l.length ≤ 9223372036854775807) (hn : nodesL l ≤ 1000000) (hr : ∀ k, k ∈ l → r k = some (depthS k)) :
    loopF (σ := Int × Int) (R := Int) (fun rc2 x1 =>
     cond (decide (x1.2 < (l.length : Int)))
     (rq ((decide (0 ≤ x1.2)) && (decide (x1.2 < (l.length : Int)))) ((r (l.getD (Int.toNat x1.2) dTExpr)).bind fun x3 =>
     rc2 (cond (decide (x1.1 < x3)) x3 x1.1, w64 (x1.2 + 1))))
     (some (w64 (x1.1 + 1)))) F (0, 0) = some (depthL l 0 + 1) := by
  refine loopF_seq (fun i => (depthL (l.take i) 0, (i : Int))) l.length hF rfl ?_ ?_
  · intro i rc hi
    simp only [dlt hi, dnn, Bool.and_self, cond_true, rq_tt, Int.toNat_natCast, gd hi, w64_nat (i := i) (by omega), hr _ (List.getElem_mem hi), Option.bind_some]
    rw [take_last hi, depthL_app]
    rfl
  · intro rc
    have h := depthL_le l 0 (by omega) fun k _ => depthS_le k
    simp only [dltn, cond_false, List.take_length]
    rw [w64_in (by omega)]
theorem depth_eq {e : TExpr} (ho : okTExpr e) : nodes e ≤ 1000000 → Evt fun F n => arith_depth_n F n e = some (depthS e) ∧ ref05_Levels_n F n e = some (depthS e) := by
  revert e
  apply okTExpr.ind
  intro e h4 h5 ih hn
  rw [nodes_eq] at hn
  refine Evt.succ ((Evt.all fun k hk => ih k hk (by have := nodes_mem hk; omega)).map2 (Evt.ge (p := fun F _ => e.fKids.length < F) (e.fKids.length + 1) fun F n h _ => h) fun F m ih hF => ?_)
  rw [depthS_eq]
  refine ⟨?_, depth_loop hF h4 (by omega) fun k hk => (ih k hk).2⟩
  show arith_depth_m F (arith_depth_n F m) e = _
  unfold arith_depth_m
  simp only [TExpr.eta]
  exact depth_loop hF h4 (by omega) fun k hk => (ih k hk).1

/-! ### Parse -/
def zeroE : TExpr := .mk 0 0 [] []
/-- What Parse gives, out of a derivation. -/
def PS (s : List UInt8) : Res → TExpr × Int × Int
  | .ok e j => cond (decide (skip s j < s.length)) (zeroE, (skip s j : Int), 6) (cond (decide (32 < depthS e)) (zeroE, 0, 5) (e, 0, 0))
  | .err p c => (zeroE, (p : Int), c)
theorem kd_end (s : List UInt8) (i : Nat) (hi : i ≤ s.length) : (kd s i == 0) = !(decide (skip s i < s.length)) := by
  obtain ⟨s1, s2⟩ := skip_le s i hi
  unfold kd
  rcases tok_view s i hi with ⟨h', _, _, he⟩ | ⟨w, b, h', _, _, _, hl⟩ | ⟨w, b, h', _, _, _, hl⟩ | ⟨x', h', hs, _, hm, hl⟩ | ⟨b, h', _, _, hl⟩ <;> rw [h']
  · rw [decide_eq_false (by omega)]; rfl
  · rw [decide_eq_true (by simp only [List.length_cons] at hl; omega)]; rfl
  · rw [decide_eq_true (by simp only [List.length_cons] at hl; omega)]; rfl
  · have : x'.length ≠ 0 := by
      have := ops35_ne x' hm
      cases x' with
      | nil => exact absurd rfl this
      | cons _ _ => simp
    rw [decide_eq_true (by omega)]; rfl
  · rw [decide_eq_true (by omega)]; rfl

theorem Parse_eq {s : List UInt8} (hlen : s.length ≤ 4096) (h0 : skip s 0 < s.length) {r : Res} (d : D s .expr 0 r) :
    Evt fun F _ => arith_Parse F s = some (PS s r) ∧ ref05_Parse F s = some (PS s r) := by
  have hl : s.length ≤ 1000000 := by omega
  have hA : Evt fun F n => EncA s r (arith_parser_expression_n F n s (kd s 0) (po s 0) (tx s 0)) := D_A hl d (Nat.zero_le _) trivial
  have hR : Evt fun F n => ∀ a, a ≤ s.length → skip s a = skip s 0 → EncR s r (ref05_reader_set_n F n s ((a : Nat) : Int) 0 0) := RD_R hl (D_RD d) (Nat.zero_le _) trivial
  have hk0 : (kd s 0 == 0) = false := by rw [kd_end s 0 (Nat.zero_le _), decide_eq_true h0]; rfl
  have hlong : decide (4096 < (s.length : Int)) = false := decide_eq_false (by omega)
  have hat : ((skip s 0 : Int) == (s.length : Int)) = false := by rw [beq_eq_false_iff_ne]; omega
  have start : ∀ F, s.length + 60 ≤ F → arith_scan F s 0 = some ⟨kd s 0, po s 0, tx s 0⟩ := fun F hF => by
    rw [← scan_mk s 0 (Nat.zero_le _)]
    exact scan_eq F s 0 (Nat.zero_le _) (by omega) hl
  have rstart : ∀ F, s.length + 60 ≤ F → ref05_reader_blanks F s 0 0 0 = some (s, (skip s 0 : Int), 0, 0) := fun F hF => blanks_eq F s 0 0 0 (Nat.zero_le _) (by omega) hl
  cases r with
  | err p c =>
    refine Evt.map3 hA.fst hR.fst (bigF s) fun F _ h1 h2 hF => ⟨?_, ?_⟩
    · obtain ⟨st, h1⟩ := h1
      unfold arith_Parse arith_parser_expression
      rw [hlong, start F hF]
      simp only [cond_false, Option.bind_some, hk0]
      rw [h1]
      rfl
    · obtain ⟨hc, e, a, ha, hx⟩ := h2 (skip s 0) (by omega) (skip_skip s 0)
      unfold ref05_Parse ref05_reader_set
      rw [hlong, rstart F hF]
      simp only [cond_false, Option.bind_some, hat, hx]
      rw [blanks_eq F s a c p ha (by omega) hl]
      simp only [Option.bind_some]
      rw [fail_err hc]
      have hc' : (c != 0) = true := by simpa using hc
      cases decide ((skip s a : Int) < (s.length : Int)) <;> simp only [cond_false, cond_true, Option.bind_some, hc'] <;> rfl
  | ok e j =>
    obtain ⟨_, hj, _⟩ := D_pos d (Nat.zero_le _) trivial
    obtain ⟨ho, hn⟩ := D_ok hl d (Nat.zero_le _) trivial
    have hn : nodes e + 0 ≤ j := hn
    refine Evt.map3 (hA.fst.and hR.fst) (depth_eq ho (by omega)).fst (bigF s) fun F _ h12 hd hF => ?_
    obtain ⟨h1, h2⟩ := h12
    obtain ⟨hd1, hd2⟩ := hd
    have h1 : arith_parser_expression_n F F s _ _ _ = _ := h1
    obtain ⟨a, ha, hs, hx⟩ := h2 (skip s 0) (by omega) (skip_skip s 0)
    have hkj := kd_end s j hj
    have hne : (kd s j != 0) = decide (skip s j < s.length) := by unfold bne; rw [hkj, Bool.not_not]
    refine ⟨?_, ?_⟩
    · unfold arith_Parse arith_parser_expression arith_depth
      rw [hlong, start F hF]
      simp only [cond_false, Option.bind_some, hk0]
      rw [h1]
      simp only [Option.bind_some, sm, hne, TExpr.eta, hd1]
      show _ = some (cond (decide (skip s j < s.length)) (zeroE, (skip s j : Int), 6) (cond (decide (32 < depthS e)) (zeroE, 0, 5) (e, 0, 0)))
      cases decide (skip s j < s.length) with
      | true => rfl
      | false => cases decide (32 < depthS e) <;> rfl
    · unfold ref05_Parse ref05_reader_set ref05_Levels
      rw [hlong, rstart F hF]
      simp only [cond_false, Option.bind_some, hat, hx]
      rw [blanks_eq F s a 0 0 ha (by omega) hl, hs]
      simp only [Option.bind_some, TExpr.eta, hd2]
      show _ = some (cond (decide (skip s j < s.length)) (zeroE, (skip s j : Int), 6) (cond (decide (32 < depthS e)) (zeroE, 0, 5) (e, 0, 0)))
      by_cases hlt : skip s j < s.length
      · rw [decide_eq_true hlt, decide_eq_true (by omega)]
        rfl
      · rw [decide_eq_false hlt, decide_eq_false (by omega)]
        cases decide (32 < depthS e) <;> rfl
theorem Parse_blank {s : List UInt8} (hlen : s.length ≤ 4096) (h0 : ¬ skip s 0 < s.length) : Evt fun F _ => arith_Parse F s = some (.mk 1 0 [] [], 0, 0) ∧ ref05_Parse F s = some (.mk 1 0 [] [], 0, 0) := by
  have hl : s.length ≤ 1000000 := by omega
  refine (bigF s).mono fun F _ hF => ?_
  have hk0 : (kd s 0 == 0) = true := by rw [kd_end s 0 (Nat.zero_le _), decide_eq_false h0]; rfl
  have hlong : decide (4096 < (s.length : Int)) = false := decide_eq_false (by omega)
  have hsk := (skip_le s 0 (Nat.zero_le _)).1
  have hat : ((skip s 0 : Int) == (s.length : Int)) = true := by rw [beq_iff_eq]; omega
  have start : arith_scan F s 0 = some ⟨kd s 0, po s 0, tx s 0⟩ := by
    rw [← scan_mk s 0 (Nat.zero_le _)]
    exact scan_eq F s 0 (Nat.zero_le _) (by omega) hl
  have rstart : ref05_reader_blanks F s 0 0 0 = some (s, (skip s 0 : Int), 0, 0) := blanks_eq F s 0 0 0 (Nat.zero_le _) (by omega) hl
  constructor
  · unfold arith_Parse
    rw [hlong, start]
    simp only [cond_false, Option.bind_some, hk0]
    rfl
  · unfold ref05_Parse
    rw [hlong, rstart]
    simp only [cond_false, Option.bind_some, hat]
    rfl
theorem Parse_long {s : List UInt8} (hlen : 4096 < s.length) (F : Nat) : arith_Parse F s = some (zeroE, 0, 3) ∧ ref05_Parse F s = some (zeroE, 0, 3) := by
  have hlong : decide (4096 < (s.length : Int)) = true := decide_eq_true (by omega)
  unfold arith_Parse ref05_Parse
  rw [hlong]
  exact ⟨rfl, rfl⟩
/-- Both parsers give one answer, and it is a tree of the arguments' kind. -/
theorem Parse_both (s : List UInt8) : ∃ x, okTExpr x.1 ∧ Evt fun F _ => arith_Parse F s = some x ∧ ref05_Parse F s = some x := by
  have hz : okTExpr zeroE := ok_mk (by omega) (by omega) (by simp) (by simp) (by simp)
  by_cases h1 : 4096 < s.length
  · exact ⟨_, hz, Evt.of fun F _ => Parse_long h1 F⟩
  · by_cases h0 : skip s 0 < s.length
    · obtain ⟨r, d⟩ := D_expr s 0 (Nat.zero_le _)
      refine ⟨_, ?_, Parse_eq (by omega) h0 d⟩
      cases r with
      | err p c => exact hz
      | ok e j =>
        obtain ⟨ho, _⟩ := D_ok (by omega) d (Nat.zero_le _) trivial
        show okTExpr (cond (decide (skip s j < s.length)) (zeroE, (skip s j : Int), (6 : Int)) (cond (decide (32 < depthS e)) (zeroE, 0, 5) (e, 0, 0))).1
        cases decide (skip s j < s.length) with
        | true => exact hz
        | false =>
          cases decide (32 < depthS e) with
          | true => exact hz
          | false => exact ho
    · exact ⟨_, ok_mk (by omega) (by omega) (by simp) (by simp) (by simp), Parse_blank (by omega) h0⟩

end Go.Proofs.YtamjncikmfpihaaGreatDoor
