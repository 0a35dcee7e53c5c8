/-
  Files, plain part 8: what stays valid; what is restored.
-/
import Derived.Test.YtipeaopaiplhiaaGreatDoorFg
namespace Go.Proofs.YtipeaopaiplhiaaGreatDoor
open Go.RT
set_option linter.all false

/-! ### Diff -/
def diffS (a b : List TFile) : List (List UInt8) := sortK (dp1 a b ++ dp2 a b)
theorem diff_mem {a b : List TFile} (ha : Asc a) (hb : Asc b) (p : List UInt8) : p ∈ diffS a b ↔ (∃ f ∈ a, f ∉ b ∧ f.fPath = p) ∨ ∃ g ∈ b, g ∉ a ∧ g.fPath = p := by
  unfold diffS
  rw [(sortK_perm _).mem_iff, dp_mem ha hb]
theorem diff_asc {a b : List TFile} (ha : Asc a) (hb : Asc b) : (diffS a b).Pairwise (· < ·) := sortK_srt (dp_nodup ha hb)
theorem diff_nil {a b : List TFile} (ha : Asc a) (hb : Asc b) : diffS a b = [] ↔ a = b := by
  constructor
  · intro h
    refine asc_ext (f := fun x : TFile => x.fPath) ha hb fun x => ?_
    have hm := fun p => diff_mem ha hb p
    rw [h] at hm
    constructor
    · intro hx
      refine Classical.byContradiction fun hn => ?_
      have := (hm x.fPath).2 (.inl ⟨x, hx, hn, rfl⟩)
      cases this
    · intro hx
      refine Classical.byContradiction fun hn => ?_
      have := (hm x.fPath).2 (.inr ⟨x, hx, hn, rfl⟩)
      cases this
  · rintro rfl
    refine List.eq_nil_iff_forall_not_mem.2 fun p hp => ?_
    rcases (diff_mem ha hb p).1 hp with ⟨f, h1, h2, -⟩ | ⟨f, h1, h2, -⟩
    · exact h2 h1
    · exact h2 h1
theorem diff_comm {a b : List TFile} (ha : Asc a) (hb : Asc b) : diffS a b = diffS b a := by
  refine asc_ext (f := fun x => x) (diff_asc ha hb) (diff_asc hb ha) fun p => ?_
  rw [diff_mem ha hb, diff_mem hb ha]
  exact Or.comm
theorem diff_len (a b : List TFile) : (diffS a b).length ≤ a.length + b.length := by
  unfold diffS
  rw [(sortK_perm _).length_eq]
  simp only [List.length_append, dp1, dp2, List.length_map]
  have := List.length_filter_le (difS b) a
  have := List.length_filter_le (fun g : TFile => !(hasS a g.fPath)) b
  omega

/-! ### Operations -/
def clO (s : List UInt8) : List UInt8 := cond ((cleanS [47] s).2 != 0) s (cleanS [47] s).1
theorem clO_eq (F : Nat) (s : List UInt8) (hF : 1000 ≤ F) (hs : s.length ≤ 200) : law19_clean F s = some (clO s) := by
  unfold law19_clean clO
  rw [clean_eq F [47] s hF (by omega), Option.bind_some, cond_som]
theorem clO_len (s : List UInt8) (hs : s.length ≤ 200) : (clO s).length ≤ 200 := by
  unfold clO
  cases h : cleanS [47] s with
  | mk t e =>
    rcases clean_path h with ⟨h1, h2⟩ | ⟨h1, n, h2, h3, h4⟩
    · have : (e != 0) = true := by simpa using h1
      show (cond (e != 0) s t).length ≤ 200
      rw [this]; exact hs
    · subst h1
      show t.length ≤ 200
      omega
def playS (l : List TFile) (o : TOp) : List TFile × Int := cond (o.fKind == 0) (putS l (clO o.fPath) o.fData) (cond (o.fKind == 1) (mkdirS l (clO o.fPath)) (cond (o.fKind == 2) (removeS l (clO o.fPath)) (renS l (clO o.fPath) (clO o.fTo))))
theorem play_eq (F : Nat) {l : List TFile} (o : TOp) (hF : 1000 ≤ F) (h : VT l) (h1 : o.fPath.length ≤ 200) (h2 : o.fTo.length ≤ 200) : law19_play F l o = some (playS l o) := by
  have c1 := clO_len _ h1
  have c2 := clO_len _ h2
  unfold law19_play playS
  rw [clO_eq F _ hF h1, clO_eq F _ hF h2]
  simp only [Option.bind_some]
  rw [put_eq F l _ _ hF (by omega) h.small, mkdir_eq F l _ hF (by omega) h.small, remove_eq F l _ hF h.small, rename_eq F _ _ hF h (by omega) (by omega)]
  simp only [Option.bind_some, cond_som]
theorem ren_tree {l : List TFile} (h : VT l) (a b : List UInt8) : VT (renS l a b).1 := by
  rcases ren_cases h a b with e | ⟨ma, mb, R, e⟩
  · rw [e]; exact h
  · rw [e]
    unfold moveS
    cases hl : (restS l b).any (longF a b) with
    | true => exact h
    | false => exact R.out hl
theorem play_ok {l : List TFile} (h : VT l) (o : TOp) : VT (playS l o).1 ∧ ((playS l o).2 ≠ 0 → (playS l o).1 = l) := by
  unfold playS
  cases (o.fKind == 0) with
  | true =>
    rcases put_ok h (clO o.fPath) o.fData with ⟨h1, h2⟩ | ⟨h1, h2, -, -, -, -, h3⟩
    · exact ⟨by rw [cond_true, h2]; exact h, fun _ => h2⟩
    · exact ⟨by rw [cond_true, h2]; exact h3, fun hn => absurd h1 hn⟩
  | false =>
    cases (o.fKind == 1) with
    | true =>
      rcases mkdir_ok h (clO o.fPath) with ⟨h1, h2⟩ | ⟨h1, h2⟩
      · exact ⟨by rw [cond_false, cond_true, h2]; exact h, fun _ => h2⟩
      · exact ⟨h2, fun hn => absurd h1 hn⟩
    | false =>
      cases (o.fKind == 2) with
      | true =>
        rcases remove_ok h (clO o.fPath) with ⟨h1, h2⟩ | ⟨h1, h2⟩
        · exact ⟨by rw [cond_false, cond_false, cond_true, h2]; exact h, fun _ => h2⟩
        · exact ⟨h2, fun hn => absurd h1 hn⟩
      | false => exact ⟨ren_tree h _ _, fun hn => ren_err h _ _ hn⟩
theorem new_tree : VT [TFile.mk [47] true []] := by
  refine ⟨by decide, ⟨TFile.mk [47] true [], by simp, rfl⟩, fun f hf => ?_, fun f hf _ => ?_, fun f hf _ => ?_, fun f hf => ?_, List.pairwise_singleton _ _, fun f hf hne => ?_⟩ <;> simp only [List.mem_singleton] at hf <;> subst hf
  · rfl
  · rfl
  · rfl
  · simp
  · exact absurd rfl hne
theorem dcmp (n k : Nat) : decide ((k : Int) < (n : Int)) = decide (k < n) := dbig n k
theorem filesStay (s : List TOp) : ∃ F, law19_FilesStay F s = some true := by
  refine ⟨1000, ?_⟩
  unfold law19_FilesStay
  by_cases h40 : s.length ≤ 40
  · rw [cf (by omega), new_eq, Option.bind_some]
    refine loopF_hoare (fun x => ∃ k : Nat, x.2 = (k : Int) ∧ k ≤ s.length ∧ VT x.1) (fun x => s.length - x.2.toNat) ?_ 1000 _ ⟨0, rfl, by omega, new_tree⟩ (by simp; omega)
    rintro ⟨l, ii⟩ ⟨k, h0, h1, h2⟩
    dsimp only at h0 h2 ⊢
    subst h0
    by_cases hk : k < s.length
    · have hg : s.getD k dTOp = s[k] := gd hk
      simp only [ct (show (k : Int) < (s.length : Int) by omega), rq2 (show 0 ≤ (k : Int) by omega) (show (k : Int) < (s.length : Int) by omega), Int.toNat_natCast, hg, short_eq, Option.bind_some, cond_som, cT]
      generalize s[k] = o
      cases hb : (((!(decide (o.fPath.length ≤ 600) && decide (o.fTo.length ≤ 600)) || decide (200 < (o.fPath.length : Int))) || decide (200 < (o.fTo.length : Int))) || decide (200 < (o.fData.length : Int))) with
      | true => right; intro rc; rw [cond_true, awake]; rfl
      | false =>
        simp only [Bool.or_eq_false_iff, decide_eq_false_iff_not] at hb
        obtain ⟨v, hu⟩ := play_ok h2 o
        have hll := h2.len
        have hnl := v.len
        left
        refine ⟨((playS l o).1, ((k + 1 : Nat) : Int)), ⟨k + 1, rfl, by omega, v⟩, by simp; omega, fun rc => ?_⟩
        rw [cond_false, play_eq 1000 o (by omega) h2 (by omega) (by omega), Option.bind_some, valid_eq 1000 _ (by omega) v.small, (valid_iff _).2 v.list, Option.bind_some]
        rw [show ((0 : Int) != 0) = false from rfl, cond_false, diff_eq 1000 _ _ (by omega) (by omega) (by omega), diff_eq 1000 _ _ (by omega) (by omega) (by omega), diff_eq 1000 _ _ (by omega) (by omega) (by omega), same_eq 1000 _ _ (by omega) (by omega)]
        simp only [Option.bind_some]
        have hd : ∀ a b : List TFile, sortK (dp1 a b ++ dp2 a b) = diffS a b := fun _ _ => rfl
        simp only [hd]
        have d1 := diff_nil h2.asc v.asc
        have d2 : diffS (playS l o).1 (playS l o).1 = [] := (diff_nil v.asc v.asc).2 rfl
        have d3 := diff_comm v.asc h2.asc
        have dl := diff_len l (playS l o).1
        rw [d2, d3, texts_eq 1000 _ _ (by omega) (by omega), dT rfl, w64s (by omega)]
        have e1 : ((((diffS l (playS l o).1).length : Int) == 0) == decide (l = (playS l o).1)) = true := by
          by_cases he : l = (playS l o).1
          · rw [d1.2 he, dT he]; rfl
          · rw [dF he]
            have : diffS l (playS l o).1 ≠ [] := fun h => he (d1.1 h)
            have : ((((diffS l (playS l o).1).length : Nat) : Int) == 0) = false := by
              rw [beq_eq_false_iff_ne]
              intro h
              exact this (List.eq_nil_of_length_eq_zero (by omega))
            rw [this]; rfl
        have e2 : cond ((playS l o).2 != 0) (decide (0 < ((diffS l (playS l o).1).length : Int))) false = false := by
          cases hz : ((playS l o).2 != 0) with
          | false => rfl
          | true =>
            have := hu (by simpa using hz)
            rw [d1.2 this.symm]; rfl
        rw [e1, e2]
        rfl
    · right
      intro rc
      rw [cf (by omega), awake]
      rfl
  · rw [ct (by omega), awake]
    rfl

/-! ### Put and Remove -/
theorem one_of {l : List (List UInt8)} {p : List UInt8} (hn : l.Pairwise (· < ·)) (h : ∀ x ∈ l, x = p) : l = [] ∨ l = [p] := by
  match l, hn, h with
  | [], _, _ => exact .inl rfl
  | [x], _, h => exact .inr (by rw [h x (by simp)])
  | x :: y :: l, hn, h =>
    have := (List.pairwise_cons.1 hn).1 y (by simp)
    rw [h x (by simp), h y (by simp)] at this
    exact absurd this (lt_irrefl' _)
theorem parent_ne {p : List UInt8} (h : pathS p = true) (hr : p ≠ [47]) : parentS p ≠ p := fun e => by
  obtain ⟨h1, h2⟩ := parent_above h hr
  have := above_lt h2 h h1
  rw [e] at this
  exact lt_irrefl' _ this
theorem put_back {l : List TFile} (h : VT l) {p d : List UInt8} (hp : pathS p = true) (hr : p ≠ [47]) (hf : ∀ f ∈ l, f.fPath = p → f.fDir = false) (hw : VT (wS (TFile.mk p false d) l)) :
    (diffS l (wS (TFile.mk p false d) l) = [] ∨ diffS l (wS (TFile.mk p false d) l) = [p]) ∧ findS (wS (TFile.mk p false d) l) p = some (TFile.mk p false d) ∧ (removeS (wS (TFile.mk p false d) l) p).2 = 0 ∧ (hasS l p = false → (removeS (wS (TFile.mk p false d) l) p).1 = l) := by
  have hm := fun x => w_mem (f := TFile.mk p false d) h.asc x
  have hnew : TFile.mk p false d ∈ wS (TFile.mk p false d) l := (hm _).2 (.inl rfl)
  have hrm : removeS (wS (TFile.mk p false d) l) p = ((wS (TFile.mk p false d) l).filter (fun f => !(isP p f)), 0) := by
    unfold removeS
    rw [hp, show (p == [47]) = false by simpa using hr, (has_iff (wS (TFile.mk p false d) l) p).2 ⟨_, hnew, rfl⟩]
    have : (wS (TFile.mk p false d) l).any (kidS p) = false := List.any_eq_false.2 fun k hk => by
      unfold kidS
      rcases (hm k).1 hk with rfl | ⟨h1, h2⟩
      · have := parent_ne hp hr
        simp [this]
      · simp only [Bool.and_eq_true, Bool.not_eq_true', beq_eq_false_iff_ne, beq_iff_eq, not_and]
        intro hne e
        obtain ⟨q, hq, e1, e2⟩ := h.par k h1 hne
        have := hf q hq (by rw [e1, e])
        rw [e2] at this; cases this
    rw [this]; rfl
  refine ⟨?_, find_of_asc hw.asc hnew, by rw [hrm], fun hh => ?_⟩
  · refine one_of (diff_asc h.asc hw.asc) fun x hx => ?_
    rcases (diff_mem h.asc hw.asc x).1 hx with ⟨f, h1, h2, h3⟩ | ⟨g, h1, h2, h3⟩
    · refine Classical.byContradiction fun hne => ?_
      exact h2 ((hm f).2 (.inr ⟨h1, by rw [h3]; exact hne⟩))
    · rcases (hm g).1 h1 with rfl | ⟨h4, h5⟩
      · exact h3.symm
      · exact absurd h4 h2
  · rw [hrm]
    show (wS (TFile.mk p false d) l).filter (fun f => !(isP p f)) = l
    refine asc_ext (f := fun x : TFile => x.fPath) (hw.asc.filter _) h.asc fun x => ?_
    rw [List.mem_filter, hm]
    unfold isP
    simp only [Bool.not_eq_true', beq_eq_false_iff_ne]
    constructor
    · rintro ⟨rfl | ⟨h1, h2⟩, h3⟩
      · exact absurd rfl h3
      · exact h1
    · intro hx
      have : x.fPath ≠ p := fun e => by
        have := (has_iff l p).2 ⟨x, hx, e⟩
        rw [hh] at this; cases this
      exact ⟨.inr ⟨hx, this⟩, this⟩

/-! ### Renaming back -/
theorem ren_zero {l : List TFile} (h : VT l) {a b : List UInt8} (h0 : (renS l a b).2 = 0) (hb : hasS l b = false) : ∃ ma mb, Ren l a b ma mb ∧ (restS l b).any (longF a b) = false ∧ renS l a b = (sortBy keyF ((restS l b).map (mapF a b)), 0) := by
  unfold renS at h0 ⊢
  cases h1 : (!pathS a || !pathS b) with
  | true => rw [h1] at h0; exact absurd h0 (by simp)
  | false =>
    rw [h1] at h0
    cases h2 : (a == [47] || b == [47]) with
    | true => rw [h2] at h0; exact absurd h0 (by simp)
    | false =>
      rw [h2] at h0
      cases h3 : hasS l a with
      | false => rw [h3] at h0; exact absurd h0 (by simp)
      | true =>
        rw [h3] at h0
        cases h4 : (a == b) with
        | true => rw [eq_of_beq h4, hb] at h3; cases h3
        | false =>
          rw [h4] at h0
          cases h5 : aboveS a b with
          | true => rw [h5] at h0; exact absurd h0 (by simp)
          | false =>
            rw [h5] at h0
            cases h6 : (perrS l b != 0) with
            | true =>
              rw [h6] at h0
              have : perrS l b = 0 := h0
              rw [this] at h6; cases h6
            | false =>
              rw [h6] at h0
              cases h7 : (repS l a b != 0) with
              | true =>
                rw [h7] at h0
                have : repS l a b = 0 := h0
                rw [this] at h7; cases h7
              | false =>
                rw [h7] at h0
                simp only [Bool.or_eq_false_iff, Bool.not_eq_false', beq_eq_false_iff_ne, ne_eq, bne_eq_false_iff_eq] at h1 h2 h4 h6 h7
                obtain ⟨ma, mb, R⟩ := ren_of h h1.1 h1.2 h2.1 h2.2 h3 h4 h5 h6 h7
                have h0 : (moveS l a b).2 = 0 := h0
                cases hl : (restS l b).any (longF a b) with
                | true => unfold moveS at h0; rw [hl] at h0; exact absurd h0 (by simp)
                | false =>
                  refine ⟨ma, mb, R, rfl, ?_⟩
                  show moveS l a b = _
                  unfold moveS
                  rw [hl]; rfl
theorem Ren.back {l : List TFile} {a b : List UInt8} {ma mb : List (List UInt8)} (R : Ren l a b ma mb) (hb : hasS l b = false) (hl : (restS l b).any (longF a b) = false) :
    renS (sortBy keyF ((restS l b).map (mapF a b))) b a = (l, 0) := by
  have v := R.out hl
  have hm := fun x => sorted_mem (l := l) (a := a) (b := b) x
  generalize sortBy keyF ((restS l b).map (mapF a b)) = m at v hm
  have hnb : ∀ f ∈ l, f.fPath ≠ b := fun f hf e => by
    have := (has_iff l b).2 ⟨f, hf, e⟩
    rw [hb] at this; cases this
  obtain ⟨e0, he0, ee0⟩ := (has_iff l a).1 R.hasA
  have a47 : a ≠ [47] := by rw [R.ea]; exact fun e => R.a0 ((pathOf_nil_iff R.na).1 e)
  have b47 : b ≠ [47] := by rw [R.eb]; exact fun e => R.b0 ((pathOf_nil_iff R.nb).1 e)
  have hba : aboveS b a = false := by rw [← ee0]; exact R.noBelow he0
  have notM : ∀ r, ma ≠ mb ++ r := fun r e => by
    cases r with
    | nil => exact R.ne (by rw [R.ea, R.eb, e, List.append_nil])
    | cons c r =>
      have := (above_names R.nb R.na).2 ⟨c, r, e⟩
      rw [← R.ea, ← R.eb, hba] at this; cases this
  have u0 : undS a e0 = true := by unfold undS; rw [ee0]; simp
  have hasB : hasS m b = true := by
    obtain ⟨r, q1, q2, q3, q4⟩ := R.moved he0 u0
    have : ma ++ r = ma := pathOf_inj q1 R.na (by rw [← q2, ee0, R.ea])
    have hr : r = [] := by simpa using this
    refine (has_iff m b).2 ⟨mapF a b e0, (hm _).2 ⟨e0, he0, hnb e0 he0, rfl⟩, ?_⟩
    rw [q3, hr, List.append_nil, R.eb]
  have hasA : hasS m a = false := by
    cases h : hasS m a with
    | false => rfl
    | true =>
      obtain ⟨x, hx, e⟩ := (has_iff m a).1 h
      obtain ⟨f, hf, hfb, rfl⟩ := (hm x).1 hx
      cases hu : undS a f with
      | false =>
        rw [map_not hu] at e
        unfold undS at hu
        rw [e] at hu
        simp at hu
      | true =>
        obtain ⟨r, q1, q2, q3, q4⟩ := R.moved hf hu
        rw [q3, R.ea] at e
        exact absurd (pathOf_inj q4 R.na e).symm (notM r)
  have hperr : perrS m a = 0 := by
    refine perr_zero.2 ⟨fun x hx hab => ?_, ?_⟩
    · obtain ⟨f, hf, hfb, rfl⟩ := (hm x).1 hx
      cases hu : undS a f with
      | true =>
        obtain ⟨r, q1, q2, q3, q4⟩ := R.moved hf hu
        rw [q3, R.ea] at hab
        obtain ⟨c, s, e⟩ := (above_names q4 R.na).1 hab
        rw [List.append_assoc] at e
        exact absurd e (notM _)
      | false =>
        rw [map_not hu] at hab ⊢
        rw [← ee0] at hab
        obtain ⟨p, hp, e1, e2, -⟩ := R.tree.above (R.tree.path f hf) he0 hab
        rw [← asc_uniq R.tree.asc hp hf e1]; exact e2
    · have hne : e0.fPath ≠ [47] := by rw [ee0]; exact a47
      obtain ⟨q, hq, e, hqd⟩ := R.tree.par e0 he0 hne
      rw [ee0] at e
      have hqu : undS a q = false := by
        cases hqu : undS a q with
        | false => rfl
        | true =>
          exfalso
          have e2 : q.fPath = pathOf ma.dropLast := by rw [e, R.ea, parent_names R.na]
          rw [R.ea] at hqu
          obtain ⟨r, hr⟩ := (und_names R.na R.na.dropLast e2).1 hqu
          have := congrArg List.length hr
          simp at this
          have := List.length_pos_iff.2 R.a0
          omega
      exact (has_iff m _).2 ⟨q, (hm q).2 ⟨q, hq, hnb q hq, map_not hqu⟩, e⟩
  have backF : ∀ f ∈ l, mapF b a (mapF a b f) = f ∧ longF b a (mapF a b f) = false := fun f hf => by
    cases hu : undS a f with
    | true =>
      obtain ⟨r, q1, q2, q3, q4⟩ := R.moved hf hu
      have hu2 : undS b (mapF a b f) = true := by rw [R.eb]; exact (und_names R.nb q4 (by rw [← R.eb]; exact q3)).2 ⟨r, rfl⟩
      have hp : mvP b a (mapF a b f).fPath = f.fPath := by
        rw [q3, q2, R.ea, R.eb, mvP_names R.b0 R.a0]
      refine ⟨?_, ?_⟩
      · rw [map_und hu2]
        unfold mvF
        rw [hp, map_und hu]
        cases f; rfl
      · unfold longF
        rw [hp]
        have := R.tree.list.small f hf
        rw [dF (by omega), Bool.and_false]
    | false =>
      rw [map_not hu]
      have hu2 : undS b f = false := by
        unfold undS
        rw [R.noBelow hf]
        simp only [Bool.or_false, beq_eq_false_iff_ne]
        exact hnb f hf
      refine ⟨map_not hu2, ?_⟩
      unfold longF; rw [hu2]; rfl
  have hrest : restS m a = m := by
    unfold restS
    exact no_filter hasA
  have hlong : (restS m a).any (longF b a) = false := by
    rw [hrest]
    refine List.any_eq_false.2 fun x hx => ?_
    obtain ⟨f, hf, hfb, rfl⟩ := (hm x).1 hx
    rw [(backF f hf).2]; simp
  have hmap : sortBy keyF ((restS m a).map (mapF b a)) = l := by
    rw [hrest]
    have hl' : (m.map (mapF b a)).Perm l := by
      have hmn : m.Nodup := v.asc.imp fun {x y} hxy e => by rw [e] at hxy; exact lt_irrefl' _ hxy
      have hln : l.Nodup := R.tree.asc.imp fun {x y} hxy e => by rw [e] at hxy; exact lt_irrefl' _ hxy
      refine (List.perm_ext_iff_of_nodup ?_ hln).2 fun x => ?_
      · rw [List.Nodup, List.pairwise_map]
        refine List.Pairwise.imp_of_mem (fun {x y} hx hy hxy e => ?_) hmn
        obtain ⟨f, hf, hfb, rfl⟩ := (hm x).1 hx
        obtain ⟨g, hg, hgb, rfl⟩ := (hm y).1 hy
        rw [(backF f hf).1, (backF g hg).1] at e
        rw [e] at hxy
        exact hxy rfl
      · rw [List.mem_map]
        constructor
        · rintro ⟨y, hy, rfl⟩
          obtain ⟨f, hf, hfb, rfl⟩ := (hm y).1 hy
          rw [(backF f hf).1]; exact hf
        · intro hx
          exact ⟨mapF a b x, (hm _).2 ⟨x, hx, hnb x hx, rfl⟩, (backF x hx).1⟩
    refine asc_ext (f := keyF) (sortBy_asc ?_) R.tree.asc fun x => ?_
    · exact (hl'.map keyF).nodup_iff.2 (asc_nodup R.tree.asc)
    · rw [(sortBy_perm _ _).mem_iff]; exact hl'.mem_iff
  unfold renS
  rw [R.pa, R.pb, show (b == [47] || a == [47]) = false by simp [a47, b47], hasB, show (b == a) = false by simpa using fun e => R.ne e.symm, hba, hperr]
  have hrep : repS m b a = 0 := by unfold repS; rw [hasA]; rfl
  rw [hrep]
  show moveS m b a = _
  unfold moveS
  rw [hlong, hmap]; rfl
theorem jj_inl {σ R : Type} {x : Option (σ ⊕ R)} {k : σ → Option R} {s : σ} (h : x = some (.inl s)) : jj x k = k s := by rw [h]; rfl
theorem filesBack (l : List TFile) (p b d : List UInt8) : ∃ F, law19_FilesBack F l p b d = some true := by
  refine ⟨1000, ?_⟩
  unfold law19_FilesBack
  obtain ⟨b1, hb1, e1⟩ := small_eq 1000 l (by omega)
  rw [e1]
  cases b1 with
  | false => rw [awake]; rfl
  | true =>
    have h := hb1 rfl
    rw [ref_valid 1000 l (by omega) h]
    simp only [Option.bind_some, short_eq, Bool.not_true, cond_false, cond_som, cT, Bool.false_or]
    cases hs : ((!(decide (p.length ≤ 600) && decide (b.length ≤ 600))) || decide (9000 < (d.length : Int)) || validS l != 0) with
    | true => rw [awake]; rfl
    | false =>
      simp only [Bool.or_eq_false_iff, Bool.not_eq_false', Bool.and_eq_true, decide_eq_true_eq, bne_eq_false_iff_eq] at hs
      have v := ((valid_iff l).1 hs.2).tree
      have hll := v.len
      have hp := hs.1.1.1
      have hb := hs.1.1.2
      rw [cond_false, put_eq 1000 l p d (by omega) hp h, Option.bind_some]
      rw [jj_inl (s := ()) (h := ?first)]
      case first =>
        rcases put_ok v p d with ⟨h1, h2⟩ | ⟨h1, h2, h3, h4, h5, h6, h7⟩
        · have : ((putS l p d).2 == 0) = false := by simpa using h1
          rw [this]; rfl
        · obtain ⟨q1, q2, q3, q4⟩ := put_back v h3 h4 h6 h7
          rw [h1, h2, show ((0 : Int) == 0) = true from rfl, cond_true]
          have hwl := h7.len
          rw [diff_eq 1000 l _ (by omega) (by omega) (by omega), find_eq 1000 _ p (by omega) (by omega), remove_eq 1000 _ p (by omega) h7.small, ref_Find 1000 l p (by omega) (by omega), q2]
          have hrl := remove_len (wS (TFile.mk p false d) l) p
          simp only [Option.bind_some, find_has, Option.elim_some]
          rw [same_eq 1000 _ _ (by omega) (by omega), q3]
          have hd : ∀ a b : List TFile, sortK (dp1 a b ++ dp2 a b) = diffS a b := fun _ _ => rfl
          simp only [hd]
          have e9 : hasS l p = false → decide ((removeS (wS (TFile.mk p false d) l) p).1 = l) = true := fun hh => dT (q4 hh)
          generalize decide ((removeS (wS (TFile.mk p false d) l) p).1 = l) = dd at e9
          have e10 : ∀ x : Bool, hasS l p = x → (x = false → dd = true) := fun x hx hf => e9 (hx.trans hf)
          rcases q1 with q1 | q1 <;> rw [q1] <;> cases hh : hasS l p
          · rw [e9 hh]; simp
          · simp
          · rw [e9 hh]; simp [rq]
          · simp [rq]
      rw [ref_Find 1000 l b (by omega) (by omega), Option.bind_some, find_has]
      cases hh : hasS l b with
      | true => rw [awake]; rfl
      | false =>
        rw [cond_false, rename_eq 1000 p b (by omega) v hp hb, Option.bind_some]
        have hrl := ren_len v p b
        cases hz : ((renS l p b).2 != 0) with
        | true =>
          have := ren_err v p b (by simpa using hz)
          rw [cond_true, this, same_eq 1000 _ _ (by omega) (by omega), dT rfl, awake]; rfl
        | false =>
          obtain ⟨ma, mb, R, hl, er⟩ := ren_zero v (by simpa using hz) hh
          have hvt := R.out hl
          have hbk := R.back hh hl
          rw [cond_false, er]
          dsimp only
          rw [rename_eq 1000 b p (by omega) hvt hb hp, Option.bind_some, hbk]
          dsimp only
          rw [same_eq 1000 _ _ (by omega) (by omega), dT rfl, awake]
          rfl
end Go.Proofs.YtipeaopaiplhiaaGreatDoor
