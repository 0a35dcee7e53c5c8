import Derived.Test.YtmklhkmeampamaaGreatDoorCw
import Derived.Test.YtmklhkmeampamaaGreatDoorSo
namespace Go.Proofs.YtmklhkmeampamaaGreatDoor
open Go.RT
set_option linter.all false
def stepB (c : Int) (o : List (List TRun) × List TRun) (b : UInt8) : List (List TRun) × List TRun := cond (b == 47) (o.1 ++ [o.2], []) (o.1, o.2 ++ [TRun.mk [b] c])
def stepR (o : List (List TRun) × List TRun) (r : TRun) : List (List TRun) × List TRun := cond (r.fClass != 0 && (r.fClass != 1 && r.fClass != 2)) o (r.fText.foldl (stepB r.fClass) o)
def compO (l : List TRun) : List (List TRun) × List TRun := l.foldl stepR ([], [])
def compL (l : List TRun) : List (List TRun) := (compO l).1 ++ [(compO l).2]
def szL (l : List TRun) : Nat := (l.map fun r => r.fText.length).sum
def compF (F : Nat) (l : List TRun) : Option (List (List TRun)) := rq (decide (l.length ≤ 1000000000) && decide (szL l ≤ 1000000000)) (some (compL l))
def szO (o : List (List TRun) × List TRun) : Nat := o.1.length + o.2.length
theorem stepB_sz (c : Int) (o : List (List TRun) × List TRun) (b : UInt8) : szO (stepB c o b) ≤ szO o + 1 := by
  unfold stepB szO
  cases (b == 47) <;> simp <;> omega
theorem foldB_sz (c : Int) : ∀ (t : List UInt8) (o : List (List TRun) × List TRun), szO (t.foldl (stepB c) o) ≤ szO o + t.length
  | [], o => by simp
  | b :: t, o => by
    have h1 := foldB_sz c t (stepB c o b)
    have h2 := stepB_sz c o b
    simp only [List.foldl_cons, List.length_cons]
    omega
theorem stepR_sz (o : List (List TRun) × List TRun) (r : TRun) : szO (stepR o r) ≤ szO o + r.fText.length := by
  unfold stepR
  cases (r.fClass != 0 && (r.fClass != 1 && r.fClass != 2))
  · exact foldB_sz _ _ _
  · simp
theorem foldR_sz : ∀ (l : List TRun) (o : List (List TRun) × List TRun), szO (l.foldl stepR o) ≤ szO o + szL l
  | [], o => by simp [szL]
  | r :: l, o => by
    have h1 := foldR_sz l (stepR o r)
    have h2 := stepR_sz o r
    simp only [List.foldl_cons, szL, List.map_cons, List.sum_cons] at h1 ⊢
    omega
theorem szL_take_succ (l : List TRun) (i : Nat) (h : i < l.length) : szL (l.take (i + 1)) = szL (l.take i) + l[i].fText.length := by
  unfold szL
  rw [List.take_succ_eq_append_getElem h, List.map_append, List.sum_append]
  simp
theorem szL_take_le (l : List TRun) (i : Nat) : szL (l.take i) ≤ szL l := by
  unfold szL
  conv => rhs; rw [← List.take_append_drop i l]
  rw [List.map_append, List.sum_append]
  omega
theorem compO_succ (l : List TRun) (i : Nat) (h : i < l.length) : compO (l.take (i + 1)) = stepR (compO (l.take i)) l[i] := by
  unfold compO
  rw [List.take_succ_eq_append_getElem h, List.foldl_append]
  rfl
theorem fold_take_succ (c : Int) (t : List UInt8) (o : List (List TRun) × List TRun) (k : Nat) (h : k < t.length) : (t.take (k + 1)).foldl (stepB c) o = stepB c ((t.take k).foldl (stepB c) o) t[k] := by
  rw [List.take_succ_eq_append_getElem h, List.foldl_append]
  rfl
abbrev tRunC : Ty := .ext 1
theorem X0c_ok : (⟨Tryz.prog, tyT, [], []⟩ : Cx E).Ok := ⟨E_ok, okN, mixed, goN⟩
def stI (l : List TRun) (i : Nat) (o : List (List TRun) × List TRun) (cap ver : Nat) : TS E := SS (E := E) 85 [(0, .dat (.lst tRunC) l), (3, .hdr 0 (o.1.length + 1) cap), (4, .dat (.int .i64) ((i : Nat) : Int))] [.nrow 23 cap (.lst tRunC) o.1 (.gsl 0 ver tRunC o.2)] [⟨ver, 78, 2⟩]
def stK (l : List TRun) (i k : Nat) (o : List (List TRun) × List TRun) (cap ver : Nat) : TS E := SS (E := E) 85 [(0, .dat (.lst tRunC) l), (3, .hdr 0 (o.1.length + 1) cap), (4, .dat (.int .i64) ((i : Nat) : Int)), (5, .dat (.int .i64) ((k : Nat) : Int))] [.nrow 23 cap (.lst tRunC) o.1 (.gsl 0 ver tRunC o.2)] [⟨ver, 78, 2⟩]
theorem cgetD {l : List TRun} {i : Nat} (h : i < l.length) : l.getD (Int.toNat (i : Int)) dTRun = l[i] := by simp [List.getD, h]
theorem cgetB {l : List UInt8} {i : Nat} (h : i < l.length) : l.getD (Int.toNat (i : Int)) 0 = l[i] := by simp [List.getD, h]
theorem cix {i n : Nat} (h : i < n) : (decide (0 ≤ (i : Int)) && decide ((i : Int) < (n : Int))) = true := by rw [decide_eq_true (by omega), decide_eq_true (by omega)]; rfl
section
variable {w0 : World} {G0 : Ghost} {l : List TRun}
theorem eIB : (cP (Tryz.f35.body.getD .skip) [true, true, false, true, false, false, true, false, false, true, true, false, false]) = .seq (.seq (cP (Tryz.f35.body.getD .skip) [true, true, false, true, false, false, true, false, false, true, true, false, false, false, false]) (.cond (.tmp 42) .skip (.exit 2))) (.seq (.block 3 (cP (Tryz.f35.body.getD .skip) [true, true, false, true, false, false, true, false, false, true, true, false, false, true, false, false])) (cP (Tryz.f35.body.getD .skip) [true, true, false, true, false, false, true, false, false, true, true, false, false, true, true])) := by kernel_rfl
theorem eB3 : (cP (Tryz.f35.body.getD .skip) [true, true, false, true, false, false, true, false, false, true, true, false, false, true, false, false]) = .seq (cP (Tryz.f35.body.getD .skip) [true, true, false, true, false, false, true, false, false, true, true, false, false, true, false, false, false]) (.cond (.tmp 52) (cP (Tryz.f35.body.getD .skip) [true, true, false, true, false, false, true, false, false, true, true, false, false, true, false, false, true, false]) (cP (Tryz.f35.body.getD .skip) [true, true, false, true, false, false, true, false, false, true, true, false, false, true, false, false, true, true])) := by kernel_rfl
theorem eB1 : (cP (Tryz.f35.body.getD .skip) [true, true, false, true, false, false, true, false, false]) = .seq (.seq (cP (Tryz.f35.body.getD .skip) [true, true, false, true, false, false, true, false, false, false, false]) (.cond (.tmp 34) (.exit 1) .skip)) (.seq (cP (Tryz.f35.body.getD .skip) [true, true, false, true, false, false, true, false, false, true, false]) (.block 2 (.loop (cP (Tryz.f35.body.getD .skip) [true, true, false, true, false, false, true, false, false, true, true, false, false])))) := by kernel_rfl
theorem eOB : (cP (Tryz.f35.body.getD .skip) [true, true, false, true, false, false]) = .seq (.seq (cP (Tryz.f35.body.getD .skip) [true, true, false, true, false, false, false, false]) (.cond (.tmp 10) .skip (.exit 0))) (.seq (.block 1 (cP (Tryz.f35.body.getD .skip) [true, true, false, true, false, false, true, false, false])) (cP (Tryz.f35.body.getD .skip) [true, true, false, true, false, false, true, true])) := by kernel_rfl
theorem eC : (Tryz.f35.body.getD .skip) = .seq (cP (Tryz.f35.body.getD .skip) [false]) (.seq (cP (Tryz.f35.body.getD .skip) [true, false]) (.seq (.seq (cP (Tryz.f35.body.getD .skip) [true, true, false, false]) (.block 0 (.loop (cP (Tryz.f35.body.getD .skip) [true, true, false, true, false, false])))) (.seq (cP (Tryz.f35.body.getD .skip) [true, true, true, false]) .ret))) := by kernel_rfl
theorem walk_r11 (hi : G0.i = []) (hg : G0.g = []) {i k cap ver : Nat} {o : List (List TRun) × List TRun} (h1 : i < l.length) (h2 : k < l[i].fText.length) (h3 : szO o ≤ 1000000000) (h4 : l[i].fText.length ≤ 1000000000) (hb : (l[i].fText[k] == 47) = false) :
    AW Tryz.prog w0 G0 (cP (Tryz.f35.body.getD .skip) [true, true, false, true, false, false, true, false, false, true, true, false, false, true, false, false, true, true]) (stK l i k o cap ver) (fun x s => x = .normal ∧ ∃ cap' ver', s = stK l i k (stepB l[i].fClass o l[i].fText[k]) cap' ver') := by
  have hw := cw_r11 l i k cap ver o.1 o.2
  have hlx : o.1.length + o.2.length ≤ 1000000000 := h3
  have e1 : w64 (((o.1.length + 1 : Nat) : Int) - 1) = (o.1.length : Int) := by rw [w64_in (by omega)]; omega
  have e2 : (o.1.length : Int).toNat = o.1.length := Int.toNat_natCast _
  rw [e1, e2, cgetD h1, w64s (by omega), rq_true (cix (n := o.1.length + 1) (by omega)), rq_true (Nat.beq_refl _), rq_true (cix h1), rq3 (by omega) (by omega) (by omega), rq_true (cix h1),
    rq_true (by rw [Nat.beq_refl, decide_eq_true (by simp; omega), decide_eq_true (by simp; omega)]; rfl), rq_true (cix (n := o.1.length + 1) (by omega)), rq_true (Nat.beq_refl _)] at hw
  have hsl : sl l[i].fText (k : Int) ((k + 1 : Nat) : Int) = [l[i].fText[k]] := by
    unfold sl
    rw [Int.toNat_natCast, Int.toNat_natCast, List.take_succ_eq_append_getElem h2, List.drop_left' (by rw [List.length_take]; omega)]
  rw [hsl] at hw
  intro a w G hr
  refine wp_mono (AW.rt X0c_ok hi (m' := [(0, .dat (.lst tRunC) l), (3, .hdr 0 (o.1.length + 1) cap), (4, .dat (.int .i64) ((i : Nat) : Int)), (5, .dat (.int .i64) ((k : Nat) : Int))]) hw a w G hr) fun e a' w' hp => ?_
  obtain ⟨x, s, G', he, hr', rfl, rfl⟩ := hp
  have hr2 := hr'.dropRows hg (by
    intro p hp
    simp only [List.mem_cons, List.not_mem_nil, or_false] at hp
    rcases hp with rfl | rfl | rfl | rfl
    · exact .inl ⟨_, _, rfl⟩
    · exact .inr ⟨_, _, _, rfl⟩
    · exact .inl ⟨_, _, rfl⟩
    · exact .inl ⟨_, _, rfl⟩)
  cases e <;> try (exact he.elim)
  refine ⟨.normal, _, _, trivial, hr2, rfl, cap, ver + 1, ?_⟩
  unfold stepB stK
  rw [hb]
  rfl
theorem walk_r10 (hi : G0.i = []) {i k cap ver : Nat} {o : List (List TRun) × List TRun} (h1 : i < l.length) (h2 : k < l[i].fText.length) (h3 : szO o ≤ 1000000000) (hb : (l[i].fText[k] == 47) = true) :
    AW Tryz.prog w0 G0 (cP (Tryz.f35.body.getD .skip) [true, true, false, true, false, false, true, false, false, true, true, false, false, true, false, false, true, false]) (stK l i k o cap ver) (fun x s => x = .normal ∧ ∃ cap' ver', s = stK l i k (stepB l[i].fClass o l[i].fText[k]) cap' ver') := by
  have hlx : o.1.length + o.2.length ≤ 1000000000 := h3
  have hw := AW.growRowC (w0 := w0) (G0 := G0) (P := Tryz.prog) (c := (cP (Tryz.f35.body.getD .skip) [true, true, false, true, false, false, true, false, false, true, true, false, false, true, false, false, true, false])) E_ok (n := 85) (t := 70) (e := 23) (e2 := 78) (j3 := 3) (j53 := 53) (j54 := 54) (j55 := 55) (by kernel_rfl) (by kernel_rfl) (cl := { callee := .builtin .append, args := #[.tmp 53, .tmp 54], argTypes := #[70, 70] }) rfl rfl rfl
    (j1 := 1) (j2 := 24) (z := .slice none 0 0) (by kernel_rfl) (ie := ⟨.slice 78, 1, 24, .slice none 0 0⟩) (by kernel_rfl) rfl rfl tRunC (m0 := [(0, .dat (.lst tRunC) l), (4, .dat (.int .i64) ((i : Nat) : Int)), (5, .dat (.int .i64) ((k : Nat) : Int))]) (by
      intro p hp
      simp only [List.mem_cons, List.not_mem_nil, or_false] at hp
      rcases hp with rfl | rfl | rfl <;> exact ⟨_, _, rfl⟩) ⟨by omega, by omega, by omega, by omega⟩ hi (cap := cap) (ver := ver) (xs := o.1) (last := o.2) rfl (by show (o.1.length + 2) * 24 ≤ _; omega) (by show o.1.length + 2 ≤ _; omega) (by
      intro c' p hp
      simp only [List.cons_append, List.nil_append, List.mem_cons, List.not_mem_nil, or_false] at hp
      rcases hp with rfl | rfl | rfl | rfl <;> rfl) (by
      intro p hp
      simp only [List.mem_cons, List.not_mem_nil, or_false] at hp
      rcases hp with rfl | rfl | rfl <;> rfl)
  refine AW.sub hi (m' := [(0, .dat (.lst tRunC) l), (4, .dat (.int .i64) ((i : Nat) : Int)), (5, .dat (.int .i64) ((k : Nat) : Int))] ++ [(3, .hdr 0 (o.1.length + 1) cap)]) (by
      intro p hp
      simp only [List.cons_append, List.nil_append, List.mem_cons, List.not_mem_nil, or_false] at hp
      rcases hp with rfl | rfl | rfl | rfl <;> rfl) ?_
  intro a w G hr
  refine wp_mono (hw a w G hr) fun e a' w' hp => ?_
  obtain ⟨x, s, G', he, hr', rfl, c', rfl⟩ := hp
  have hs : stepB l[i].fClass o l[i].fText[k] = (o.1 ++ [o.2], []) := by unfold stepB; rw [hb]; rfl
  have hr2 := hr'.subS hi (m' := [(0, .dat (.lst tRunC) l), (3, .hdr 0 (o.1.length + 2) c'), (4, .dat (.int .i64) ((i : Nat) : Int)), (5, .dat (.int .i64) ((k : Nat) : Int))]) (by
      intro p hp
      simp only [List.mem_cons, List.not_mem_nil, or_false] at hp
      rcases hp with rfl | rfl | rfl | rfl <;> rfl)
  cases e <;> try (exact he.elim)
  refine ⟨.normal, _, _, trivial, hr2, rfl, c', ver + 1, ?_⟩
  rw [hs]
  unfold stK
  simp only [List.length_append, List.length_cons, List.length_nil]
  rfl
theorem walk_IB (hi : G0.i = []) (hg : G0.g = []) {i k cap ver : Nat} {o : List (List TRun) × List TRun} (h1 : i < l.length) (h2 : k ≤ l[i].fText.length) (h3 : szO o ≤ 1000000000) (h4 : l[i].fText.length ≤ 1000000000) :
    AW Tryz.prog w0 G0 (cP (Tryz.f35.body.getD .skip) [true, true, false, true, false, false, true, false, false, true, true, false, false]) (stK l i k o cap ver) (fun x s => (x = .normal ∧ ∃ h : k < l[i].fText.length, ∃ cap' ver', s = stK l i (k + 1) (stepB l[i].fClass o l[i].fText[k]) cap' ver') ∨ (x = .exit 2 ∧ k = l[i].fText.length ∧ s = stI l i o cap ver)) := by
  rw [eIB]
  refine AW.seq ?_
  have hw7 := cw_r7 l i k cap ver o.1 o.2
  rw [rq_true (cix h1), cgetD h1] at hw7
  refine AW.seqN (Q' := fun x s => s = _) (AW.rt X0c_ok hi (m' := [(0, .dat (.lst tRunC) l), (3, .hdr 0 (o.1.length + 1) cap), (4, .dat (.int .i64) ((i : Nat) : Int)), (5, .dat (.int .i64) ((k : Nat) : Int)), (42, .dat .bool (decide (((k : Nat) : Int) < (l[i].fText.length : Int))))]) hw7) ?_
  rintro _ rfl
  refine AW.cond (b := decide (((k : Nat) : Int) < (l[i].fText.length : Int))) rfl ?_
  by_cases hk : k < l[i].fText.length
  · rw [decide_eq_true (show ((k : Nat) : Int) < (l[i].fText.length : Int) by omega), if_pos rfl]
    refine AW.skip (.inl ⟨rfl, ?_⟩)
    refine AW.seqN (Q' := fun x s => ∃ cap' ver', s = stK l i k (stepB l[i].fClass o l[i].fText[k]) cap' ver') ?_ ?_
    · refine AW.block ?_
      rw [eB3]
      have hw9 := cw_r9 l i k cap ver o.1 o.2
      rw [rq_true (cix h1), cgetD h1, rq_true (cix hk), cgetB hk, u8lit _ 47 (by omega)] at hw9
      refine AW.sub hi (m' := [(0, .dat (.lst tRunC) l), (3, .hdr 0 (o.1.length + 1) cap), (4, .dat (.int .i64) ((i : Nat) : Int)), (5, .dat (.int .i64) ((k : Nat) : Int))]) (by
        intro p hp
        simp only [List.mem_cons, List.not_mem_nil, or_false] at hp
        rcases hp with rfl | rfl | rfl | rfl <;> rfl) ?_
      refine AW.seqN (Q' := fun x s => s = _) (AW.rt X0c_ok hi (m' := [(0, .dat (.lst tRunC) l), (3, .hdr 0 (o.1.length + 1) cap), (4, .dat (.int .i64) ((i : Nat) : Int)), (5, .dat (.int .i64) ((k : Nat) : Int)), (52, .dat .bool (l[i].fText[k] == 47))]) hw9) ?_
      rintro _ rfl
      refine AW.cond (b := (l[i].fText[k] == 47)) rfl ?_
      refine AW.sub hi (m' := [(0, .dat (.lst tRunC) l), (3, .hdr 0 (o.1.length + 1) cap), (4, .dat (.int .i64) ((i : Nat) : Int)), (5, .dat (.int .i64) ((k : Nat) : Int))]) (by
        intro p hp
        simp only [List.mem_cons, List.not_mem_nil, or_false] at hp
        rcases hp with rfl | rfl | rfl | rfl <;> rfl) ?_
      cases hb : (l[i].fText[k] == 47) with
      | true =>
        rw [if_pos rfl]
        exact (walk_r10 hi h1 hk h3 hb).mono fun x s hq => .inr ⟨(fun e => by rw [hq.1] at e; cases e), hq.1, hq.2⟩
      | false =>
        rw [if_neg (by decide)]
        exact (walk_r11 hi hg h1 hk h3 h4 hb).mono fun x s hq => .inr ⟨(fun e => by rw [hq.1] at e; cases e), hq.1, hq.2⟩
    · rintro _ ⟨cap', ver', rfl⟩
      have hw8 := cw_r8 l i k cap' ver' (stepB l[i].fClass o l[i].fText[k]).1 (stepB l[i].fClass o l[i].fText[k]).2
      rw [w64s (by omega)] at hw8
      refine (AW.rt X0c_ok hi (m' := [(0, .dat (.lst tRunC) l), (3, .hdr 0 ((stepB l[i].fClass o l[i].fText[k]).1.length + 1) cap'), (4, .dat (.int .i64) ((i : Nat) : Int)), (5, .dat (.int .i64) ((k + 1 : Nat) : Int))]) hw8).mono ?_
      rintro x s ⟨rfl, rfl⟩
      exact .inl ⟨rfl, hk, cap', ver', rfl⟩
  · rw [decide_eq_false (show ¬ ((k : Nat) : Int) < (l[i].fText.length : Int) by omega), if_neg (by decide)]
    refine AW.sub hi (m' := [(0, .dat (.lst tRunC) l), (3, .hdr 0 (o.1.length + 1) cap), (4, .dat (.int .i64) ((i : Nat) : Int))]) (by
        intro p hp
        simp only [List.mem_cons, List.not_mem_nil, or_false] at hp
        rcases hp with rfl | rfl | rfl <;> rfl) ?_
    exact AW.exit (.inr ⟨(fun e => by cases e), .inr ⟨rfl, by omega, rfl⟩⟩)
theorem walk_B1 (hi : G0.i = []) (hg : G0.g = []) {i cap ver : Nat} (h1 : i < l.length) (h3 : szL l ≤ 1000000000) :
    AW Tryz.prog w0 G0 (.block 1 (cP (Tryz.f35.body.getD .skip) [true, true, false, true, false, false, true, false, false])) (stI l i (compO (l.take i)) cap ver) (fun x s => x = .normal ∧ ∃ cap' ver', s = stI l i (compO (l.take (i + 1))) cap' ver') := by
  have hsz := szL_take_succ l i h1
  have hle := szL_take_le l (i + 1)
  have hO : szO (compO (l.take i)) ≤ szL (l.take i) := by have := foldR_sz (l.take i) ([], []); simpa [compO, szO] using this
  have h4 : l[i].fText.length ≤ 1000000000 := by omega
  refine AW.block ?_
  rw [eB1]
  refine AW.seq ?_
  have hw5 := cw_r5 l i cap ver (compO (l.take i)).1 (compO (l.take i)).2
  rw [rq_true (cix h1), cgetD h1] at hw5
  simp only [rq_true (cix h1)] at hw5
  obtain ⟨b, hb⟩ : ∃ b, b = (l[i].fClass != 0 && (l[i].fClass != 1 && l[i].fClass != 2)) := ⟨_, rfl⟩
  refine AW.seqN (Q' := fun x s => s = _) (AW.rt X0c_ok hi (m' := [(0, .dat (.lst tRunC) l), (3, .hdr 0 ((compO (l.take i)).1.length + 1) cap), (4, .dat (.int .i64) ((i : Nat) : Int)), (34, .dat .bool b)]) (H' := [.nrow 23 cap (.lst tRunC) (compO (l.take i)).1 (.gsl 0 ver tRunC (compO (l.take i)).2)]) (g' := [⟨ver, 78, 2⟩]) (hw5.trans ?_)) ?_
  · rw [hb]
    cases (l[i].fClass != 0)
    · rfl
    · cases (l[i].fClass != 1)
      · rfl
      · rfl
  rintro _ rfl
  refine AW.cond (b := b) rfl ?_
  refine AW.sub hi (m' := [(0, .dat (.lst tRunC) l), (3, .hdr 0 ((compO (l.take i)).1.length + 1) cap), (4, .dat (.int .i64) ((i : Nat) : Int))]) (by
      intro p hp
      simp only [List.mem_cons, List.not_mem_nil, or_false] at hp
      rcases hp with rfl | rfl | rfl <;> rfl) ?_
  cases hbb : b with
  | true =>
    rw [if_pos rfl]
    refine AW.exit (.inr ⟨(fun e => by cases e), .inl ⟨rfl, rfl, cap, ver, ?_⟩⟩)
    rw [compO_succ l i h1]
    unfold stepR
    rw [← hb, hbb]
    rfl
  | false =>
    rw [if_neg (by decide)]
    refine AW.skip (.inl ⟨rfl, ?_⟩)
    have hw6 := cw_r6 l i cap ver (compO (l.take i)).1 (compO (l.take i)).2
    refine AW.seqN (Q' := fun x s => s = _) (AW.rt X0c_ok hi (m' := [(0, .dat (.lst tRunC) l), (3, .hdr 0 ((compO (l.take i)).1.length + 1) cap), (4, .dat (.int .i64) ((i : Nat) : Int)), (5, .dat (.int .i64) 0)]) hw6) ?_
    rintro _ rfl
    refine AW.block ?_
    refine AW.loop (ι := Nat × Nat × Nat) (fun x => stK l i x.1 ((l[i].fText.take x.1).foldl (stepB l[i].fClass) (compO (l.take i))) x.2.1 x.2.2) (fun x => x.1 ≤ l[i].fText.length) (fun x => l[i].fText.length - x.1) (0, cap, ver) (Nat.zero_le _) rfl ?_
    rintro ⟨k, cap1, ver1⟩ hk
    dsimp only at hk ⊢
    refine (walk_IB hi hg h1 hk (by
      have := foldB_sz l[i].fClass (l[i].fText.take k) (compO (l.take i))
      have h5 : (l[i].fText.take k).length ≤ l[i].fText.length := by rw [List.length_take]; omega
      omega) h4).mono ?_
    rintro x s (⟨rfl, hlt, cap', ver', rfl⟩ | ⟨rfl, hke, rfl⟩)
    · exact .inl ⟨rfl, (k + 1, cap', ver'), hlt, by dsimp only; omega, by rw [fold_take_succ _ _ _ _ hlt]⟩
    · subst hke
      refine .inr ⟨fun e => (by cases e), .inl ⟨rfl, .inr ⟨fun e => (by cases e), rfl, cap1, ver1, ?_⟩⟩⟩
      rw [compO_succ l i h1, List.take_length]
      unfold stepR
      rw [← hb, hbb]
      rfl
theorem walk_all (hi : G0.i = []) (hg : G0.g = []) (h2 : l.length ≤ 1000000000) (h3 : szL l ≤ 1000000000) :
    AW Tryz.prog w0 G0 (Tryz.f35.body.getD .skip) (SS (E := E) 85 [(0, .dat (.lst tRunC) l)] [] []) (fun x s => x = .ret ∧ ∃ cap ver, s = SS (E := E) 85 [(0, .dat (.lst tRunC) l), (2, .hdr 0 ((compO l).1.length + 1) cap)] [.nrow 23 cap (.lst tRunC) (compO l).1 (.gsl 0 ver tRunC (compO l).2)] [⟨ver, 78, 2⟩]) := by
  rw [eC]
  refine AW.seqN (Q' := fun x s => s = _) (AW.rt X0c_ok hi (m' := [(0, .dat (.lst tRunC) l)]) (cw_r0 l)) ?_
  rintro _ rfl
  refine AW.seqN (Q' := fun x s => s = _) (AW.mkRowC (c := (cP (Tryz.f35.body.getD .skip) [true, false])) (n := 85) (t := 70) (e := 23) 78 (j3 := 3) (j6 := 6) (by kernel_rfl) (by kernel_rfl) (j1 := 1) (j2 := 24) (z := .slice none 0 0) (by kernel_rfl) (ie := ⟨.slice 78, 1, 24, .slice none 0 0⟩) (by kernel_rfl) rfl tRunC
    (m' := [(0, .dat (.lst tRunC) l), (3, .hdr 0 1 1)]) (by omega) hi (by
      intro p hp
      simp only [List.mem_cons, List.not_mem_nil, or_false] at hp
      rcases hp with rfl | rfl <;> rfl)) ?_
  rintro _ rfl
  refine AW.seqN (Q' := fun x s => ∃ cap ver, s = stI l l.length (compO l) cap ver) ?_ ?_
  · refine AW.seqN (Q' := fun x s => s = stI l 0 (compO (l.take 0)) 1 0) ((AW.rt X0c_ok hi (m' := [(0, .dat (.lst tRunC) l), (3, .hdr 0 1 1), (4, .dat (.int .i64) 0)]) (cw_r2 l 1 0 [] [])).mono fun x s hq => hq) ?_
    rintro _ rfl
    refine AW.block ?_
    refine AW.loop (ι := Nat × Nat × Nat) (fun x => stI l x.1 (compO (l.take x.1)) x.2.1 x.2.2) (fun x => x.1 ≤ l.length) (fun x => l.length - x.1) (0, 1, 0) (Nat.zero_le _) rfl ?_
    rintro ⟨i, cap, ver⟩ hil
    dsimp only at hil ⊢
    rw [eOB]
    refine AW.seq ?_
    refine AW.seqN (Q' := fun x s => s = _) (AW.rt X0c_ok hi (m' := [(0, .dat (.lst tRunC) l), (3, .hdr 0 ((compO (l.take i)).1.length + 1) cap), (4, .dat (.int .i64) ((i : Nat) : Int)), (10, .dat .bool (decide (((i : Nat) : Int) < (l.length : Int))))]) (cw_r3 l i cap ver (compO (l.take i)).1 (compO (l.take i)).2)) ?_
    rintro _ rfl
    refine AW.cond (b := decide (((i : Nat) : Int) < (l.length : Int))) rfl ?_
    refine AW.sub hi (m' := [(0, .dat (.lst tRunC) l), (3, .hdr 0 ((compO (l.take i)).1.length + 1) cap), (4, .dat (.int .i64) ((i : Nat) : Int))]) (by
      intro p hp
      simp only [List.mem_cons, List.not_mem_nil, or_false] at hp
      rcases hp with rfl | rfl | rfl <;> rfl) ?_
    by_cases h1 : i < l.length
    · rw [decide_eq_true (show ((i : Nat) : Int) < (l.length : Int) by omega), if_pos rfl]
      refine AW.skip (.inl ⟨rfl, ?_⟩)
      refine AW.seqN (walk_B1 hi hg h1 h3) ?_
      rintro _ ⟨cap', ver', rfl⟩
      have hw4 := cw_r4 l i cap' ver' (compO (l.take (i + 1))).1 (compO (l.take (i + 1))).2
      rw [w64s (by omega)] at hw4
      refine (AW.rt X0c_ok hi (m' := [(0, .dat (.lst tRunC) l), (3, .hdr 0 ((compO (l.take (i + 1))).1.length + 1) cap'), (4, .dat (.int .i64) ((i + 1 : Nat) : Int))]) hw4).mono ?_
      rintro x s ⟨rfl, rfl⟩
      exact .inl ⟨rfl, (i + 1, cap', ver'), h1, by dsimp only; omega, rfl⟩
    · rw [decide_eq_false (show ¬ ((i : Nat) : Int) < (l.length : Int) by omega), if_neg (by decide)]
      obtain rfl : i = l.length := by omega
      refine AW.exit (.inr ⟨fun e => (by cases e), .inr ⟨fun e => (by cases e), .inl ⟨rfl, rfl, cap, ver, ?_⟩⟩⟩)
      rw [List.take_length]
      rfl
  · rintro _ ⟨cap, ver, rfl⟩
    refine AW.seqN (Q' := fun x s => s = _) (AW.rt X0c_ok hi (m' := [(0, .dat (.lst tRunC) l), (2, .hdr 0 ((compO l).1.length + 1) cap)]) (cw_r12 l l.length cap ver (compO l).1 (compO l).2)) ?_
    rintro _ rfl
    exact AW.ret ⟨rfl, cap, ver, rfl⟩
end
def compC (E : TEnv) (ix : Nat) (f : FuncId) (F : Nat) (m : Nat → List ((Ty.ext ix).den E.D) → Option (List (List ((Ty.ext ix).den E.D)))) : Ctr E := ⟨⟨f, [.one (.dat (.lst (.ext ix)))], [], [], ⟨.one (.dat (.lst (.lst (.ext ix)))), [], [], []⟩, none, []⟩, fun (x : List ((Ty.ext ix).den E.D)) => m F x⟩
set_option maxRecDepth 100000 in
theorem comp_ok (F : Nat) : (compC E 1 35 F compF).Ok Tryz.prog := by
  have key : ∀ (l : List TRun) (y : List (List TRun)), compF F l = some y → ACalls (E := E) Tryz.prog 35 [.dat (.lst tRunC) l] [] [] [] ⟨true, .dat (.lst (.lst tRunC)) y, [], [], [], []⟩ := by
    intro l y hy
    obtain ⟨h1, h2⟩ := rq_some hy
    rw [Bool.and_eq_true, decide_eq_true_eq, decide_eq_true_eq] at h1
    cases h2
    intro w G args hP hB hS hV
    have hi : G.i = [] := List.eq_nil_of_length_eq_zero hB.len
    have hg : G.g = [] := by have := hB.gs; simpa using this
    have hr0 := Rel.initL (n := Tryz.f35.ntmps) hP hB hS hV
    have hb : Tryz.f35.body = some (Tryz.f35.body.getD .skip) := by kernel_rfl
    refine invokes_of_calls Tryz.func35 hb (by kernel_rfl) (calls_of_wp Tryz.func35 hb ?_)
    have hr1 : Rel E w G (SS (E := E) 85 [(0, .dat (.lst tRunC) l)] [] []) _ w G := hr0
    refine wp_mono (walk_all (l := l) hi hg h1.1 h1.2 _ w G hr1) fun e a' w' hp => ?_
    obtain ⟨x, s, G', he, hr, rfl, cap, ver, rfl⟩ := hp
    have hdef : a'.defers = [] := by
      have := hr.defers
      cases hd : a'.defers with
      | nil => rfl
      | cons d ds => rw [hd] at this; exact this.elim
    obtain ⟨v, hv, hrun⟩ := results_ok (fn := Tryz.f35) X0c_ok hr (ds := [.hdr 0 ((compO l).1.length + 1) cap]) (by kernel_rfl)
    obtain ⟨G2, q1, q2, q3, q4⟩ := rowsOut (j := 2) hr hi hg rfl
    cases e <;> try (exact he.elim)
    have hvv : v = a'.tmps.getD 2 undef := by
      have h3 := hr.tmps 2 (.hdr 0 ((compO l).1.length + 1) cap) rfl
      simp only [packRes, VT] at hv h3
      obtain ⟨b, hv1, hb1⟩ := hv
      obtain ⟨b', hv2, hb2⟩ := h3
      rw [hb1] at hb2
      cases hb2
      rw [hv1, hv2]
    subst hvv
    exact ⟨hdef, _, hrun, _, G2, rfl, q1, q2, q3, q4, fun q b hq => by rw [hi] at hq; cases hq⟩
  intro x y hy
  exact key x y hy
end Go.Proofs.YtmklhkmeampamaaGreatDoor
