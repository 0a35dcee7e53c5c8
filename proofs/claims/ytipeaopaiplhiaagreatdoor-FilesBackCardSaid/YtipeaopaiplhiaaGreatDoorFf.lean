/-
  Files, plain part 6: paths as lists of names; valid lists as trees.
-/
import Derived.Test.YtipeaopaiplhiaaGreatDoorFe
namespace Go.Proofs.YtipeaopaiplhiaaGreatDoor
open Go.RT
set_option linter.all false

/-! ### Paths as lists of names -/
def tailP (n : List (List UInt8)) : List UInt8 := n.flatMap fun c => 47 :: c
theorem tailP_app (a b : List (List UInt8)) : tailP (a ++ b) = tailP a ++ tailP b := by simp [tailP]
theorem tailP_join : ∀ (n : List (List UInt8)), n ≠ [] → tailP n = 47 :: joinR n
  | [], h => absurd rfl h
  | [x], _ => by simp [tailP, joinR]
  | x :: y :: l, _ => by
    have ih := tailP_join (y :: l) (by simp)
    rw [show tailP (x :: y :: l) = (47 :: x) ++ tailP (y :: l) from rfl, ih, joinR]
    simp
theorem pathOf_tail {n : List (List UInt8)} (h : n ≠ []) : pathOf n = tailP n := by rw [tailP_join n h]; rfl
theorem Names.app {a b : List (List UInt8)} (ha : Names a) (hb : Names b) : Names (a ++ b) := fun c hc => by
  rcases List.mem_append.1 hc with h | h
  · exact ha c h
  · exact hb c h
theorem Names.left {a b : List (List UInt8)} (h : Names (a ++ b)) : Names a := fun c hc => h c (by simp [hc])
theorem Names.right {a b : List (List UInt8)} (h : Names (a ++ b)) : Names b := fun c hc => h c (by simp [hc])
theorem pathOf_inj {a b : List (List UInt8)} (ha : Names a) (hb : Names b) (h : pathOf a = pathOf b) : a = b := by
  have h : joinR a = joinR b := by simpa [pathOf] using h
  by_cases h1 : a = []
  · by_cases h2 : b = []
    · rw [h1, h2]
    · rw [h1] at h
      exact absurd h.symm (join_ne hb h2)
  · by_cases h2 : b = []
    · rw [h2] at h
      exact absurd h (join_ne ha h1)
    · rw [← parts_join a h1 fun c hc => name_noSl (ha c hc), h, parts_join b h2 fun c hc => name_noSl (hb c hc)]
theorem parts_joinApp : ∀ (m : List (List UInt8)) (x : List UInt8), m ≠ [] → Names m → partsS (joinR m ++ 47 :: x) = m ++ partsS x
  | [], x, h, _ => absurd rfl h
  | [a], x, _, h => by rw [joinR, parts_app a x (name_noSl (h a (by simp)))]; rfl
  | a :: b :: m, x, _, h => by
    rw [joinR, List.append_assoc, List.cons_append, parts_app a _ (name_noSl (h a (by simp))), parts_joinApp (b :: m) x (by simp) fun c hc => h c (by simp [hc])]
    rfl
theorem path_ex {s : List UInt8} (h : pathS s = true) : ∃ n, Names n ∧ s = pathOf n ∧ (pathOf n).length ≤ 128 := by
  cases hr : (s == [47]) with
  | true => exact ⟨[], fun c hc => (by cases hc), eq_of_beq hr, by decide⟩
  | false =>
    obtain ⟨h1, h2, h3, h4⟩ := path_names h hr
    exact ⟨_, h1, h2.symm, by rw [h2]; exact h3⟩
theorem pathOf_nil_iff {n : List (List UInt8)} (h : Names n) : pathOf n = [47] ↔ n = [] := by
  have := pathOf_root h
  rw [Bool.eq_iff_iff] at this
  simpa using this
theorem above_names {m n : List (List UInt8)} (hm : Names m) (hn : Names n) : aboveS (pathOf m) (pathOf n) = true ↔ ∃ c r, n = m ++ c :: r := by
  unfold aboveS
  by_cases h0 : m = []
  · subst h0
    rw [show (pathOf [] == [47]) = true from rfl, cond_true, pathOf_root hn]
    cases n with
    | nil => simp
    | cons c r => simp
  · have e0 : (pathOf m == [47]) = false := by
      rw [pathOf_root hm]; cases m with
      | nil => exact absurd rfl h0
      | cons a b => rfl
    rw [e0, cond_false]
    simp only [Bool.and_eq_true, decide_eq_true_eq, beq_iff_eq]
    constructor
    · rintro ⟨h1, h2⟩
      have hx : pathOf n = (pathOf m ++ [47]) ++ (pathOf n).drop ((pathOf m).length + 1) := by
        rw [← h2, List.take_append_drop]
      generalize (pathOf n).drop ((pathOf m).length + 1) = x at hx
      have hj : joinR n = joinR m ++ 47 :: x := by
        simp only [pathOf, List.append_assoc, List.cons_append, List.nil_append, List.cons.injEq, true_and] at hx
        exact hx
      have hne : n ≠ [] := by
        rintro rfl
        have : ([] : List UInt8) = joinR m ++ 47 :: x := hj
        simp at this
      have := parts_join n hne fun c hc => name_noSl (hn c hc)
      rw [hj, parts_joinApp m x h0 hm] at this
      cases hp : partsS x with
      | nil => exact absurd hp (parts_ne x)
      | cons c r => exact ⟨c, r, by rw [← this, hp]⟩
    · rintro ⟨c, r, rfl⟩
      have e : pathOf (m ++ c :: r) = pathOf m ++ 47 :: (c ++ tailP r) := by
        rw [pathOf_tail (by simp), tailP_app, pathOf_tail h0]
        rfl
      rw [e]
      refine ⟨by simp, ?_⟩
      rw [show pathOf m ++ 47 :: (c ++ tailP r) = (pathOf m ++ [47]) ++ (c ++ tailP r) by simp]
      exact List.take_left' (by simp)
theorem parent_names' {n : List (List UInt8)} (h : Names n) : parentS (pathOf n) = pathOf n.dropLast := parent_names h
theorem above_lt {a p : List UInt8} (ha : pathS a = true) (hp : pathS p = true) (h : aboveS a p = true) : a < p := by
  obtain ⟨m, hm, rfl, -⟩ := path_ex ha
  obtain ⟨n, hn, rfl, -⟩ := path_ex hp
  obtain ⟨c, r, rfl⟩ := (above_names hm hn).1 h
  have lt_app : ∀ (u v : List UInt8), v ≠ [] → u < u ++ v := by
    intro u v hv
    have := (app_lt u [] v).2 (by cases v with
      | nil => exact absurd rfl hv
      | cons b v => exact List.nil_lt_cons b v)
    rwa [List.append_nil] at this
  by_cases h0 : m = []
  · subst h0
    rw [List.nil_append]
    have hc := name_len (hn c (by simp))
    have : pathOf (c :: r) = pathOf [] ++ joinR (c :: r) := rfl
    rw [this]
    exact lt_app _ _ (join_ne (by simpa using hn) (by simp))
  · rw [pathOf_tail h0, pathOf_tail (by simp), tailP_app]
    exact lt_app _ _ (by simp [tailP])

/-! ### Trees -/
structure VT (l : List TFile) : Prop where
  len : l.length ≤ 128
  root : ∃ f ∈ l, f.fPath = [47]
  path : ∀ f ∈ l, pathS f.fPath = true
  dir : ∀ f ∈ l, f.fDir = true → f.fData = []
  rdir : ∀ f ∈ l, f.fPath = [47] → f.fDir = true
  data : ∀ f ∈ l, f.fData.length ≤ 8192
  asc : Asc l
  par : ∀ f ∈ l, f.fPath ≠ [47] → ∃ p ∈ l, p.fPath = parentS f.fPath ∧ p.fDir = true
theorem asc_uniq {l : List TFile} (h : Asc l) {f g : TFile} (hf : f ∈ l) (hg : g ∈ l) (e : f.fPath = g.fPath) : f = g := by
  have e1 := find_of_asc h hf
  have e2 := find_of_asc h hg
  rw [e, e2] at e1
  exact (Option.some.inj e1).symm
theorem VT.up {l : List TFile} (h : VT l) : ∀ (r : List (List UInt8)) (m : List (List UInt8)) (c : List UInt8), Names (m ++ c :: r) → (∃ f ∈ l, f.fPath = pathOf (m ++ c :: r)) → ∃ f ∈ l, f.fPath = pathOf (m ++ [c]) := by
  intro r
  induction hn : r.length generalizing r with
  | zero =>
    intro m c _ hf
    obtain rfl : r = [] := List.eq_nil_of_length_eq_zero hn
    exact hf
  | succ k ih =>
    intro m c hN ⟨f, hf, e⟩
    have hr : r ≠ [] := by intro e; subst e; simp at hn
    have hne : f.fPath ≠ [47] := by
      rw [e]; intro e'; have := (pathOf_nil_iff hN).1 e'; simp at this
    obtain ⟨p, hp, e1, -⟩ := h.par f hf hne
    rw [e, parent_names hN] at e1
    have e2 : (m ++ c :: r).dropLast = m ++ c :: r.dropLast := by
      rw [List.dropLast_append_of_ne_nil (by simp), List.dropLast_cons_of_ne_nil hr]
    rw [e2] at e1
    exact ih r.dropLast (by simp [hn]) m c (by rw [← e2]; exact hN.dropLast) ⟨p, hp, e1⟩
/-- Whatever lies above an element is a directory of the list. -/
theorem VT.above {l : List TFile} (h : VT l) {a : List UInt8} (ha : pathS a = true) {f : TFile} (hf : f ∈ l) (hab : aboveS a f.fPath = true) : ∃ p ∈ l, p.fPath = a ∧ p.fDir = true ∧ ∃ k ∈ l, kidS a k = true := by
  obtain ⟨m, hm, rfl, -⟩ := path_ex ha
  obtain ⟨n, hn, e, -⟩ := path_ex (h.path f hf)
  rw [e] at hab
  obtain ⟨c, r, rfl⟩ := (above_names hm hn).1 hab
  obtain ⟨k, hk, ek⟩ := h.up r m c hn ⟨f, hf, e⟩
  have hN : Names (m ++ [c]) := Names.app hm fun x hx => hn x (by simp at hx; simp [hx])
  have hkne : k.fPath ≠ [47] := by
    rw [ek]; intro e'; have := (pathOf_nil_iff hN).1 e'; simp at this
  obtain ⟨p, hp, e1, e2⟩ := h.par k hk hkne
  have e3 : parentS k.fPath = pathOf m := by
    rw [ek, parent_names hN]; simp
  refine ⟨p, hp, by rw [e1, e3], e2, k, hk, ?_⟩
  unfold kidS
  rw [e3]
  simp [hkne]
theorem parent_above {p : List UInt8} (h : pathS p = true) (hr : p ≠ [47]) : aboveS (parentS p) p = true ∧ pathS (parentS p) = true := by
  obtain ⟨n, hn, rfl, hl⟩ := path_ex h
  rcases List.eq_nil_or_concat n with rfl | ⟨m, c, rfl⟩
  · exact absurd rfl hr
  · rw [List.concat_eq_append] at *
    have hm : Names m := hn.left
    have hc : nameS c = true := hn c (by simp)
    rw [parent_snoc hm hc]
    refine ⟨(above_names hm hn).2 ⟨c, [], rfl⟩, pathS_of hm ?_⟩
    have : (pathOf m).length ≤ (pathOf (m ++ [c])).length := by
      cases m with
      | nil => simp [pathOf, joinR]
      | cons a b =>
        have e : pathOf ((a :: b) ++ [c]) = pathOf (a :: b) ++ 47 :: c := by
          rw [pathOf, joinR_snoc _ _ (by simp), pathOf]; simp
        rw [e]; simp
    omega
theorem perr_zero {l : List TFile} {p : List UInt8} : perrS l p = 0 ↔ (∀ f ∈ l, aboveS f.fPath p = true → f.fDir = true) ∧ hasS l (parentS p) = true := by
  unfold perrS
  cases h1 : (l.any fun f => !f.fDir && aboveS f.fPath p) with
  | true =>
    rw [cond_true]
    refine ⟨fun h => (by cases h), fun h => ?_⟩
    obtain ⟨f, hf, e⟩ := List.any_eq_true.1 h1
    simp only [Bool.and_eq_true, Bool.not_eq_true'] at e
    have := h.1 f hf e.2
    rw [e.1] at this; cases this
  | false =>
    rw [cond_false]
    have h2 : ∀ f ∈ l, aboveS f.fPath p = true → f.fDir = true := fun f hf e => by
      have := List.any_eq_false.1 h1 f hf
      rw [e] at this
      simpa using this
    cases hasS l (parentS p) with
    | true => exact ⟨fun _ => ⟨h2, rfl⟩, fun _ => rfl⟩
    | false => exact ⟨fun h => (by cases h), fun h => by cases h.2⟩
theorem VL.tree {l : List TFile} (h : VL l) : VT l := by
  refine ⟨h.len, ⟨l.getD 0 dTFile, by rw [gd h.pos]; exact List.getElem_mem _, h.root⟩, h.path, h.dir, h.rdir, h.data, h.asc, fun f hf hne => ?_⟩
  obtain ⟨k, hk, e⟩ := List.getElem_of_mem hf
  have ek : l.getD k dTFile = f := by rw [gd hk]; exact e
  have h0 : 0 < k := by
    rcases Nat.eq_zero_or_pos k with h0 | h0
    · subst h0; rw [h.root.symm, ek] at hne; exact absurd rfl hne
    · exact h0
  have hp := perr_zero.1 (h.perr k h0 hk)
  rw [ek] at hp
  obtain ⟨g, hg, eg⟩ := (has_iff _ _).1 hp.2
  have := (parent_above (h.path f hf) hne).1
  rw [← eg] at this
  exact ⟨g, List.mem_of_mem_take hg, eg, hp.1 g hg this⟩
theorem mem_take_of_lt {l : List TFile} (h : Asc l) {g : TFile} (hg : g ∈ l) {k : Nat} (hk : k < l.length) (hlt : g.fPath < (l.getD k dTFile).fPath) : g ∈ l.take k := by
  obtain ⟨i, hi, e⟩ := List.getElem_of_mem hg
  have ei : l.getD i dTFile = g := by rw [gd hi]; exact e
  have : i < k := by
    rcases Nat.lt_trichotomy i k with q | q | q
    · exact q
    · subst q; rw [ei] at hlt; exact absurd hlt (lt_irrefl' _)
    · have := asc_adj h k i q hi
      rw [ei] at this
      exact absurd (lt_trans' hlt this) (lt_irrefl' _)
  rw [← e]
  exact List.mem_take_iff_getElem.2 ⟨i, by omega, rfl⟩
theorem path_ge {s : List UInt8} (h : pathS s = true) (hr : s ≠ [47]) : [47] < s := by
  have : pathS [47] = true := rfl
  have ha : aboveS [47] s = true := by
    unfold aboveS
    rw [show (([47] : List UInt8) == [47]) = true from rfl, cond_true]
    simpa using hr
  exact above_lt this h ha
theorem VT.list {l : List TFile} (h : VT l) : VL l := by
  obtain ⟨f0, hf0, e0⟩ := h.root
  have hpos : 0 < l.length := List.length_pos_of_mem hf0
  refine ⟨h.len, hpos, ?_, h.path, h.dir, h.rdir, h.data, h.asc, fun k h0 hk => ?_⟩
  · have hm : l.getD 0 dTFile ∈ l := by rw [gd hpos]; exact List.getElem_mem _
    by_cases hr : (l.getD 0 dTFile).fPath = [47]
    · exact hr
    · have := path_ge (h.path _ hm) hr
      obtain ⟨i, hi, e⟩ := List.getElem_of_mem hf0
      have ei : l.getD i dTFile = f0 := by rw [gd hi]; exact e
      rcases Nat.eq_zero_or_pos i with q | q
      · subst q; rw [ei] at hr; exact absurd e0 hr
      · have h2 := asc_adj h.asc 0 i q hi
        rw [ei, e0] at h2
        exact absurd (lt_trans' this h2) (lt_irrefl' _)
  · have hm : l.getD k dTFile ∈ l := by rw [gd hk]; exact List.getElem_mem _
    have hne : (l.getD k dTFile).fPath ≠ [47] := by
      intro e
      have h2 := asc_adj h.asc 0 k h0 hk
      rw [e] at h2
      have hm0 : l.getD 0 dTFile ∈ l := by rw [gd hpos]; exact List.getElem_mem _
      by_cases hr : (l.getD 0 dTFile).fPath = [47]
      · rw [hr] at h2; exact lt_irrefl' _ h2
      · exact lt_irrefl' _ (lt_trans' h2 (path_ge (h.path _ hm0) hr))
    refine perr_zero.2 ⟨fun g hg hab => ?_, ?_⟩
    · have hg' := List.mem_of_mem_take hg
      obtain ⟨p, hp, e1, e2, -⟩ := h.above (h.path g hg') hm hab
      rw [← asc_uniq h.asc hp hg' e1]; exact e2
    · obtain ⟨p, hp, e1, -⟩ := h.par _ hm hne
      have := parent_above (h.path _ hm) hne
      have hlt := above_lt this.2 (h.path _ hm) this.1
      rw [← e1] at hlt
      exact (has_iff _ _).2 ⟨p, mem_take_of_lt h.asc hp hk hlt, e1⟩
theorem VT.small {l : List TFile} (h : VT l) : SmallL l := by
  refine ⟨by have := h.len; omega, fun f hf => ?_⟩
  have h1 := h.list.small f hf
  have h2 := h.data f hf
  omega

/-! ### Changes keep trees -/
theorem w_mem {f : TFile} {l : List TFile} (h : Asc l) (x : TFile) : x ∈ wS f l ↔ x = f ∨ (x ∈ l ∧ x.fPath ≠ f.fPath) := by
  rw [← ins_with h, ins_mem, List.mem_filter]
  unfold isP
  simp
theorem w_asc {f : TFile} {l : List TFile} (h : Asc l) : Asc (wS f l) := by
  rw [← ins_with h]
  refine ins_asc (h.filter _) fun x hx => ?_
  rw [List.mem_filter] at hx
  unfold isP at hx
  simpa using hx.2
theorem w_len_eq {f : TFile} {l : List TFile} (h : Asc l) (hh : hasS l f.fPath = true) : (wS f l).length ≤ l.length := by
  rw [← ins_with h, ins_len]
  obtain ⟨g, hg, e⟩ := (has_iff _ _).1 hh
  have : (l.filter fun x => !(isP f.fPath x)).length < l.length := by
    rw [List.length_filter_lt_length_iff_exists]
    refine ⟨g, hg, ?_⟩
    unfold isP
    simp [e]
  omega
theorem tree_with {l : List TFile} (h : VT l) {p d : List UInt8} {b : Bool} (hp : pathS p = true) (hr : p ≠ [47]) (hd : d.length ≤ 8192) (hb : b = true → d = []) (hpe : perrS l p = 0)
    (hf : ∀ f ∈ l, f.fPath = p → f.fDir = false) (hl : hasS l p = false → l.length < 128) : VT (wS (TFile.mk p b d) l) := by
  obtain ⟨hp1, hp2⟩ := perr_zero.1 hpe
  have hm := fun x => w_mem (f := TFile.mk p b d) h.asc x
  have keep : ∀ q ∈ l, q.fDir = true → q ∈ wS (TFile.mk p b d) l := fun q hq hqd => (hm q).2 (.inr ⟨hq, fun e => by
    have := hf q hq e
    rw [hqd] at this; cases this⟩)
  refine ⟨?_, ?_, fun f hx => ?_, fun f hx hfd => ?_, fun f hx e => ?_, fun f hx => ?_, w_asc h.asc, fun f hx hne => ?_⟩
  · cases hh : hasS l p with
    | true => exact Nat.le_trans (w_len_eq h.asc hh) h.len
    | false => have := w_len (TFile.mk p b d) l; have := hl hh; omega
  · obtain ⟨f0, h0, e0⟩ := h.root
    exact ⟨f0, (hm f0).2 (.inr ⟨h0, by rw [e0]; exact fun e => hr e.symm⟩), e0⟩
  · rcases (hm f).1 hx with rfl | ⟨h1, -⟩
    · exact hp
    · exact h.path f h1
  · rcases (hm f).1 hx with rfl | ⟨h1, -⟩
    · exact hb hfd
    · exact h.dir f h1 hfd
  · rcases (hm f).1 hx with rfl | ⟨h1, -⟩
    · exact absurd e hr
    · exact h.rdir f h1 e
  · rcases (hm f).1 hx with rfl | ⟨h1, -⟩
    · exact hd
    · exact h.data f h1
  · rcases (hm f).1 hx with rfl | ⟨h1, -⟩
    · obtain ⟨g, hg, e⟩ := (has_iff _ _).1 hp2
      have ha := (parent_above hp hr).1
      rw [← e] at ha
      have hgd := hp1 g hg ha
      exact ⟨g, keep g hg hgd, e, hgd⟩
    · obtain ⟨q, hq, e, hqd⟩ := h.par f h1 hne
      exact ⟨q, keep q hq hqd, e, hqd⟩
theorem put_ok {l : List TFile} (h : VT l) (p d : List UInt8) : ((putS l p d).2 ≠ 0 ∧ (putS l p d).1 = l) ∨ ((putS l p d).2 = 0 ∧ (putS l p d).1 = wS (TFile.mk p false d) l ∧ pathS p = true ∧ p ≠ [47] ∧ perrS l p = 0 ∧ (∀ f ∈ l, f.fPath = p → f.fDir = false) ∧ VT (wS (TFile.mk p false d) l)) := by
  unfold putS
  cases h1 : pathS p with
  | false => exact .inl ⟨by simp, rfl⟩
  | true =>
    by_cases h2 : 8192 < d.length
    · rw [ct h2]; exact .inl ⟨by simp, rfl⟩
    · rw [cf h2]
      cases h3 : ((findS l p).elim false fun f => f.fDir) with
      | true => exact .inl ⟨by simp, rfl⟩
      | false =>
        have hf : ∀ f ∈ l, f.fPath = p → f.fDir = false := fun f hf e => by
          rw [← e, find_of_asc h.asc hf] at h3
          exact h3
        cases h4 : (perrS l p != 0) with
        | true =>
          refine .inl ⟨?_, rfl⟩
          simpa using h4
        | false =>
          have h4' : perrS l p = 0 := by simpa using h4
          have hr : p ≠ [47] := by
            intro e
            obtain ⟨f0, h0, e0⟩ := h.root
            have := hf f0 h0 (by rw [e0, e])
            rw [h.rdir f0 h0 e0] at this; cases this
          cases h5 : (!(hasS l p) && decide (128 ≤ l.length)) with
          | true => exact .inl ⟨by simp, rfl⟩
          | false =>
            refine .inr ⟨rfl, rfl, rfl, hr, h4', hf, tree_with h h1 hr (by omega) (fun h => by cases h) h4' hf fun hh => ?_⟩
            rw [hh] at h5
            simpa using h5
theorem mkdir_ok {l : List TFile} (h : VT l) (p : List UInt8) : ((mkdirS l p).2 ≠ 0 ∧ (mkdirS l p).1 = l) ∨ ((mkdirS l p).2 = 0 ∧ VT (mkdirS l p).1) := by
  unfold mkdirS
  cases h1 : pathS p with
  | false => exact .inl ⟨by simp, rfl⟩
  | true =>
    cases h2 : hasS l p with
    | true => exact .inl ⟨by simp, rfl⟩
    | false =>
      have hn : ∀ f ∈ l, f.fPath ≠ p := fun f hf e => by
        have := (has_iff l p).2 ⟨f, hf, e⟩
        rw [h2] at this; cases this
      cases h4 : (perrS l p != 0) with
      | true =>
        refine .inl ⟨?_, rfl⟩
        simpa using h4
      | false =>
        have h4' : perrS l p = 0 := by simpa using h4
        have hr : p ≠ [47] := by
          intro e
          obtain ⟨f0, h0, e0⟩ := h.root
          exact hn f0 h0 (by rw [e0, e])
        by_cases h5 : 128 ≤ l.length
        · rw [dT h5]; exact .inl ⟨by simp, rfl⟩
        · rw [dF h5]
          exact .inr ⟨rfl, tree_with h h1 hr (by decide) (fun _ => rfl) h4' (fun f hf e => absurd e (hn f hf)) fun _ => by omega⟩
theorem remove_ok {l : List TFile} (h : VT l) (p : List UInt8) : ((removeS l p).2 ≠ 0 ∧ (removeS l p).1 = l) ∨ ((removeS l p).2 = 0 ∧ VT (removeS l p).1) := by
  unfold removeS
  cases h1 : pathS p with
  | false => exact .inl ⟨by simp, rfl⟩
  | true =>
    cases hr : (p == [47]) with
    | true => exact .inl ⟨by simp, rfl⟩
    | false =>
      have hr' : p ≠ [47] := by simpa using hr
      cases h2 : hasS l p with
      | false => exact .inl ⟨by simp, rfl⟩
      | true =>
        cases h3 : l.any (kidS p) with
        | true => exact .inl ⟨by simp, rfl⟩
        | false =>
          refine .inr ⟨rfl, ?_⟩
          show VT (l.filter fun f => !(isP p f))
          have hm : ∀ f, f ∈ (l.filter fun f => !(isP p f)) ↔ f ∈ l ∧ f.fPath ≠ p := fun f => by
            rw [List.mem_filter]; unfold isP; simp
          refine ⟨Nat.le_trans (List.length_filter_le _ _) h.len, ?_, fun f hf => h.path f ((hm f).1 hf).1, fun f hf => h.dir f ((hm f).1 hf).1, fun f hf => h.rdir f ((hm f).1 hf).1, fun f hf => h.data f ((hm f).1 hf).1, h.asc.filter _, fun f hf hne => ?_⟩
          · obtain ⟨f0, h0, e0⟩ := h.root
            exact ⟨f0, (hm f0).2 ⟨h0, by rw [e0]; exact fun e => hr' e.symm⟩, e0⟩
          · obtain ⟨q, hq, e, hqd⟩ := h.par f ((hm f).1 hf).1 hne
            refine ⟨q, (hm q).2 ⟨hq, fun e' => ?_⟩, e, hqd⟩
            have := List.any_eq_false.1 h3 f ((hm f).1 hf).1
            unfold kidS at this
            rw [← e, e'] at this
            simp [hne] at this
end Go.Proofs.YtipeaopaiplhiaaGreatDoor
