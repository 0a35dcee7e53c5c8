/-
  Files, plain part 7: Rename.
-/
import Derived.Test.YtipeaopaiplhiaaGreatDoorFf
import Derived.Test.YtipeaopaiplhiaaGreatDoorRi
namespace Go.Proofs.YtipeaopaiplhiaaGreatDoor
open Go.RT
set_option linter.all false

def undS (a : List UInt8) (f : TFile) : Bool := f.fPath == a || aboveS a f.fPath
def mvP (a b p : List UInt8) : List UInt8 := b ++ p.drop a.length
def mvF (a b : List UInt8) (f : TFile) : TFile := TFile.mk (mvP a b f.fPath) f.fDir f.fData
def mapF (a b : List UInt8) (f : TFile) : TFile := cond (undS a f) (mvF a b f) f
def restS (l : List TFile) (b : List UInt8) : List TFile := l.filter fun f => !(isP b f)
def longF (a b : List UInt8) (f : TFile) : Bool := undS a f && decide (128 < (mvP a b f.fPath).length)
def moveS (l : List TFile) (a b : List UInt8) : List TFile × Int := cond ((restS l b).any (longF a b)) (l, 3) (sortBy keyF ((restS l b).map (mapF a b)), 0)
def dirOf (l : List TFile) (p : List UInt8) : Bool := (findS l p).elim false fun f => f.fDir
def repS (l : List TFile) (a b : List UInt8) : Int := cond (!(hasS l b)) 0 (cond (dirOf l b && !(dirOf l a)) 17 (cond (dirOf l a && !(dirOf l b)) 18 (cond (l.any (kidS b)) 19 0)))
def renS (l : List TFile) (a b : List UInt8) : List TFile × Int :=
  cond (!pathS a || !pathS b) (l, 10) (cond (a == [47] || b == [47]) (l, 23) (cond (!(hasS l a)) (l, 8) (cond (a == b) (l, 0) (cond (aboveS a b) (l, 1) (cond (perrS l b != 0) (l, perrS l b) (cond (repS l a b != 0) (l, repS l a b) (moveS l a b)))))))

/-- What is known where elements are moved. -/
structure Ren (l : List TFile) (a b : List UInt8) (ma mb : List (List UInt8)) : Prop where
  tree : VT l
  na : Names ma
  nb : Names mb
  a0 : ma ≠ []
  b0 : mb ≠ []
  ea : a = pathOf ma
  eb : b = pathOf mb
  lb : b.length ≤ 128
  pa : pathS a = true
  pb : pathS b = true
  hasA : hasS l a = true
  ne : a ≠ b
  nab : aboveS a b = false
  perr : perrS l b = 0
  kids : hasS l b = true → l.any (kidS b) = false
theorem path_cons {s : List UInt8} (h : pathS s = true) (hr : s ≠ [47]) : ∃ n, Names n ∧ n ≠ [] ∧ s = pathOf n ∧ s.length ≤ 128 := by
  obtain ⟨n, h1, h2, h3⟩ := path_ex h
  exact ⟨n, h1, fun e => hr (by rw [h2, e]; rfl), h2, by rw [h2]; exact h3⟩
theorem ren_of {l : List TFile} (h : VT l) {a b : List UInt8} (p1 : pathS a = true) (p2 : pathS b = true) (r1 : a ≠ [47]) (r2 : b ≠ [47]) (h3 : hasS l a = true) (h4 : a ≠ b) (h5 : aboveS a b = false) (h6 : perrS l b = 0) (h7 : repS l a b = 0) : ∃ ma mb, Ren l a b ma mb := by
  obtain ⟨ma, a1, a2, a3, -⟩ := path_cons p1 r1
  obtain ⟨mb, b1, b2, b3, b4⟩ := path_cons p2 r2
  refine ⟨ma, mb, ⟨h, a1, b1, a2, b2, a3, b3, b4, p1, p2, h3, h4, h5, h6, fun hb => ?_⟩⟩
  unfold repS at h7
  rw [hb] at h7
  cases hk : l.any (kidS b) with
  | false => rfl
  | true =>
    rw [hk] at h7
    revert h7
    cases dirOf l a <;> cases dirOf l b <;> simp
theorem ren_cases {l : List TFile} (h : VT l) (a b : List UInt8) : (renS l a b).1 = l ∨ ∃ ma mb, Ren l a b ma mb ∧ renS l a b = moveS l a b := by
  unfold renS
  cases h1 : (!pathS a || !pathS b) with
  | true => exact .inl rfl
  | false =>
    cases h2 : (a == [47] || b == [47]) with
    | true => exact .inl rfl
    | false =>
      cases h3 : hasS l a with
      | false => exact .inl rfl
      | true =>
        cases h4 : (a == b) with
        | true => exact .inl rfl
        | false =>
          cases h5 : aboveS a b with
          | true => exact .inl rfl
          | false =>
            cases h6 : (perrS l b != 0) with
            | true => exact .inl rfl
            | false =>
              cases h7 : (repS l a b != 0) with
              | true => exact .inl rfl
              | false =>
                simp only [Bool.or_eq_false_iff, Bool.not_eq_false', beq_eq_false_iff_ne, ne_eq, bne_eq_false_iff_eq] at h1 h2 h4 h6 h7
                obtain ⟨ma, mb, R⟩ := ren_of h h1.1 h1.2 h2.1 h2.2 h3 h4 h5 h6 h7
                exact .inr ⟨ma, mb, R, rfl⟩
theorem ren_err {l : List TFile} (h : VT l) (a b : List UInt8) (he : (renS l a b).2 ≠ 0) : (renS l a b).1 = l := by
  rcases ren_cases h a b with e | ⟨ma, mb, hr, e⟩
  · exact e
  · rw [e] at he ⊢
    unfold moveS at *
    cases h : (restS l b).any (longF a b) with
    | true => rfl
    | false => rw [h] at he; exact absurd rfl he
section
variable {l : List TFile} {a b : List UInt8} {ma mb : List (List UInt8)}
theorem und_names (ha : Names ma) {n : List (List UInt8)} (hn : Names n) {f : TFile} (e : f.fPath = pathOf n) : undS (pathOf ma) f = true ↔ ∃ r, n = ma ++ r := by
  unfold undS
  rw [Bool.or_eq_true, beq_iff_eq, e, above_names ha hn]
  constructor
  · rintro (h | ⟨c, r, h⟩)
    · exact ⟨[], by rw [pathOf_inj hn ha h]; simp⟩
    · exact ⟨c :: r, h⟩
  · rintro ⟨r, h⟩
    cases r with
    | nil => left; rw [h]; simp
    | cons c r => exact .inr ⟨c, r, h⟩
theorem mvP_names (a0 : ma ≠ []) (b0 : mb ≠ []) (r : List (List UInt8)) : mvP (pathOf ma) (pathOf mb) (pathOf (ma ++ r)) = pathOf (mb ++ r) := by
  have e1 : ma ++ r ≠ [] := by simp [a0]
  have e2 : mb ++ r ≠ [] := by simp [b0]
  unfold mvP
  rw [pathOf_tail e1, pathOf_tail e2, pathOf_tail a0, pathOf_tail b0, tailP_app, tailP_app, List.drop_left' rfl]
theorem map_und {f : TFile} (h : undS a f = true) : mapF a b f = mvF a b f := by unfold mapF; rw [h]; rfl
theorem map_not {f : TFile} (h : undS a f = false) : mapF a b f = f := by unfold mapF; rw [h]; rfl
/-- An element that moves. -/
theorem Ren.moved (R : Ren l a b ma mb) {f : TFile} (hf : f ∈ l) (hu : undS a f = true) : ∃ r, Names (ma ++ r) ∧ f.fPath = pathOf (ma ++ r) ∧ (mapF a b f).fPath = pathOf (mb ++ r) ∧ Names (mb ++ r) := by
  obtain ⟨n, hn, e, -⟩ := path_ex (R.tree.path f hf)
  rw [R.ea] at hu
  obtain ⟨r, rfl⟩ := (und_names R.na hn e).1 hu
  refine ⟨r, hn, e, ?_, R.nb.app hn.right⟩
  rw [← R.ea] at hu
  rw [map_und hu]
  show mvP a b f.fPath = _
  rw [e, R.ea, R.eb, mvP_names R.a0 R.b0]
theorem Ren.noBelow (R : Ren l a b ma mb) {g : TFile} (hg : g ∈ l) : aboveS b g.fPath = false := by
  cases h : aboveS b g.fPath with
  | false => rfl
  | true =>
    obtain ⟨p, hp, e1, -, k, hk, e2⟩ := R.tree.above R.pb hg h
    have := R.kids ((has_iff _ _).2 ⟨p, hp, e1⟩)
    have := List.any_eq_false.1 this k hk
    rw [e2] at this; simp at this
theorem Ren.clash (R : Ren l a b ma mb) {r : List (List UInt8)} (hr : Names (mb ++ r)) {g : TFile} (hg : g ∈ l) (e : pathOf (mb ++ r) = g.fPath) (hne : g.fPath ≠ b) : False := by
  cases r with
  | nil => rw [List.append_nil, ← R.eb] at e; exact hne e.symm
  | cons c r =>
    have := (above_names R.nb hr).2 ⟨c, r, rfl⟩
    rw [← R.eb, e, R.noBelow hg] at this
    cases this
theorem Ren.undB (R : Ren l a b ma mb) {f : TFile} (e : f.fPath = b) : undS a f = false := by
  unfold undS
  rw [e, R.nab]
  simp
  exact fun h => R.ne h.symm
theorem Ren.inj (R : Ren l a b ma mb) {f g : TFile} (hf : f ∈ l) (hg : g ∈ l) (fb : f.fPath ≠ b) (gb : g.fPath ≠ b) (e : (mapF a b f).fPath = (mapF a b g).fPath) : f.fPath = g.fPath := by
  cases h1 : undS a f with
  | true =>
    obtain ⟨r, q1, q2, q3, q4⟩ := R.moved hf h1
    cases h2 : undS a g with
    | true =>
      obtain ⟨r', p1, p2, p3, p4⟩ := R.moved hg h2
      rw [q3, p3] at e
      have := List.append_cancel_left (pathOf_inj q4 p4 e)
      rw [q2, p2, this]
    | false =>
      rw [q3, map_not h2] at e
      exact (R.clash q4 hg e gb).elim
  | false =>
    cases h2 : undS a g with
    | true =>
      obtain ⟨r', p1, p2, p3, p4⟩ := R.moved hg h2
      rw [p3, map_not h1] at e
      exact (R.clash p4 hf e.symm fb).elim
    | false => rw [map_not h1, map_not h2] at e; exact e
theorem rest_mem {f : TFile} : f ∈ restS l b ↔ f ∈ l ∧ f.fPath ≠ b := by
  unfold restS isP
  rw [List.mem_filter]
  simp
theorem Ren.nodup (R : Ren l a b ma mb) : (((restS l b).map (mapF a b)).map keyF).Nodup := by
  rw [List.map_map, List.Nodup, List.pairwise_map]
  have h1 : (restS l b).Pairwise fun x y => x.fPath < y.fPath := R.tree.asc.filter _
  refine List.Pairwise.imp_of_mem (fun {x y} hx hy hxy e => ?_) h1
  obtain ⟨x1, x2⟩ := rest_mem.1 hx
  obtain ⟨y1, y2⟩ := rest_mem.1 hy
  have := R.inj x1 y1 x2 y2 e
  rw [this] at hxy
  exact lt_irrefl' _ hxy
theorem sorted_mem (x : TFile) : x ∈ sortBy keyF ((restS l b).map (mapF a b)) ↔ ∃ f, f ∈ l ∧ f.fPath ≠ b ∧ mapF a b f = x := by
  rw [(sortBy_perm _ _).mem_iff, List.mem_map]
  constructor
  · rintro ⟨f, hf, e⟩; obtain ⟨h1, h2⟩ := rest_mem.1 hf; exact ⟨f, h1, h2, e⟩
  · rintro ⟨f, h1, h2, e⟩; exact ⟨f, rest_mem.2 ⟨h1, h2⟩, e⟩
theorem Ren.asc (R : Ren l a b ma mb) : Asc (sortBy keyF ((restS l b).map (mapF a b))) := sortBy_asc R.nodup
theorem Ren.parB (R : Ren l a b ma mb) : ∃ q ∈ l, q.fPath = parentS b ∧ q.fDir = true ∧ undS a q = false ∧ q.fPath ≠ b := by
  obtain ⟨h1, h2⟩ := perr_zero.1 R.perr
  obtain ⟨q, hq, e⟩ := (has_iff _ _).1 h2
  have hb : b ≠ [47] := by rw [R.eb]; exact fun e => R.b0 ((pathOf_nil_iff R.nb).1 e)
  obtain ⟨p1, p2⟩ := parent_above R.pb hb
  have hqd := h1 q hq (by rw [e]; exact p1)
  refine ⟨q, hq, e, hqd, ?_, ?_⟩
  · cases hu : undS a q with
    | false => rfl
    | true =>
      exfalso
      have e2 : parentS b = pathOf mb.dropLast := by rw [R.eb, parent_names R.nb]
      rw [R.ea] at hu
      obtain ⟨r, hr⟩ := (und_names R.na R.nb.dropLast (e.trans e2)).1 hu
      rcases List.eq_nil_or_concat mb with hm | ⟨m, c, hm⟩
      · exact R.b0 hm
      · rw [List.concat_eq_append] at hm
        rw [hm] at hr
        simp only [List.dropLast_concat] at hr
        have : mb = ma ++ (r ++ [c]) := by rw [hm, hr]; simp
        have hab : aboveS a b = true := by
          rw [R.ea, R.eb]
          cases hrc : r ++ [c] with
          | nil => simp at hrc
          | cons d s => exact (above_names R.na R.nb).2 ⟨d, s, by rw [this, hrc]⟩
        rw [R.nab] at hab; cases hab
  · intro e'
    have := above_lt p2 R.pb p1
    rw [← e, e'] at this
    exact lt_irrefl' _ this
/-- The moved list is a tree. -/
theorem Ren.out (R : Ren l a b ma mb) (hl : (restS l b).any (longF a b) = false) : VT (sortBy keyF ((restS l b).map (mapF a b))) := by
  have hm := fun x => sorted_mem (l := l) (a := a) (b := b) x
  have short : ∀ f ∈ l, f.fPath ≠ b → undS a f = true → (mapF a b f).fPath.length ≤ 128 := fun f hf hb hu => by
    have := List.any_eq_false.1 hl f (rest_mem.2 ⟨hf, hb⟩)
    unfold longF at this
    rw [hu] at this
    rw [map_und hu]
    show (mvP a b f.fPath).length ≤ 128
    simpa using this
  have dirs : ∀ f, (mapF a b f).fDir = f.fDir ∧ (mapF a b f).fData = f.fData := fun f => by
    unfold mapF
    cases undS a f <;> exact ⟨rfl, rfl⟩
  refine ⟨?_, ?_, ?_, ?_, ?_, ?_, R.asc, ?_⟩
  · rw [(sortBy_perm _ _).length_eq, List.length_map]
    exact Nat.le_trans (List.length_filter_le _ _) R.tree.len
  · obtain ⟨f0, h0, e0⟩ := R.tree.root
    have hu : undS a f0 = false := by
      cases hu : undS a f0 with
      | false => rfl
      | true =>
        rw [R.ea] at hu
        obtain ⟨r, hr⟩ := (und_names R.na (n := []) (fun c hc => by cases hc) e0).1 hu
        have := R.a0
        simp at hr
        exact absurd hr.1 this
    refine ⟨f0, (hm f0).2 ⟨f0, h0, ?_, map_not hu⟩, e0⟩
    rw [e0, R.eb]
    exact fun e => R.b0 ((pathOf_nil_iff R.nb).1 e.symm)
  · intro x hx
    obtain ⟨f, hf, hb, rfl⟩ := (hm x).1 hx
    cases hu : undS a f with
    | false => rw [map_not hu]; exact R.tree.path f hf
    | true =>
      obtain ⟨r, q1, q2, q3, q4⟩ := R.moved hf hu
      have := short f hf hb hu
      rw [q3] at this ⊢
      exact pathS_of q4 this
  · intro x hx
    obtain ⟨f, hf, hb, rfl⟩ := (hm x).1 hx
    rw [(dirs f).1, (dirs f).2]
    exact R.tree.dir f hf
  · intro x hx e
    obtain ⟨f, hf, hb, rfl⟩ := (hm x).1 hx
    rw [(dirs f).1]
    cases hu : undS a f with
    | false => rw [map_not hu] at e; exact R.tree.rdir f hf e
    | true =>
      obtain ⟨r, q1, q2, q3, q4⟩ := R.moved hf hu
      rw [q3] at e
      have := (pathOf_nil_iff q4).1 e
      simp at this
      exact absurd this.1 R.b0
  · intro x hx
    obtain ⟨f, hf, hb, rfl⟩ := (hm x).1 hx
    rw [(dirs f).2]
    exact R.tree.data f hf
  · intro x hx hne
    obtain ⟨f, hf, hb, rfl⟩ := (hm x).1 hx
    cases hu : undS a f with
    | false =>
      rw [map_not hu] at hne ⊢
      obtain ⟨q, hq, e, hqd⟩ := R.tree.par f hf hne
      have hab := (parent_above (R.tree.path f hf) hne).1
      have hqu : undS a q = false := by
        cases hqu : undS a q with
        | false => rfl
        | true =>
          exfalso
          obtain ⟨n, hn, en, -⟩ := path_ex (R.tree.path f hf)
          have e2 : q.fPath = pathOf n.dropLast := by rw [e, en, parent_names hn]
          have hqu' := hqu
          rw [R.ea] at hqu'
          obtain ⟨r, hr⟩ := (und_names R.na hn.dropLast e2).1 hqu'
          rcases List.eq_nil_or_concat n with hz | ⟨m, c, hz⟩
          · rw [hz] at en; exact hne en
          · rw [List.concat_eq_append] at hz
            rw [hz, List.dropLast_concat] at hr
            have : undS (pathOf ma) f = true := (und_names R.na hn en).2 ⟨r ++ [c], by rw [hz, hr]; simp⟩
            rw [← R.ea, hu] at this; cases this
      have hqb : q.fPath ≠ b := by
        intro e'
        have := R.noBelow hf
        rw [← e', e, hab] at this; cases this
      exact ⟨q, (hm q).2 ⟨q, hq, hqb, map_not hqu⟩, e, hqd⟩
    | true =>
      obtain ⟨r, q1, q2, q3, q4⟩ := R.moved hf hu
      rw [q3]
      rcases List.eq_nil_or_concat r with hz | ⟨m, c, hz⟩
      · subst hz
        obtain ⟨q, hq, e, hqd, hqu, hqb⟩ := R.parB
        rw [List.append_nil, ← R.eb]
        exact ⟨q, (hm q).2 ⟨q, hq, hqb, map_not hqu⟩, e, hqd⟩
      · rw [List.concat_eq_append] at hz
        subst hz
        have hfne : f.fPath ≠ [47] := by
          rw [q2]; intro e'; have := (pathOf_nil_iff q1).1 e'; simp at this
        obtain ⟨q, hq, e, hqd⟩ := R.tree.par f hf hfne
        have e2 : q.fPath = pathOf (ma ++ m) := by
          rw [e, q2, parent_names q1, ← List.append_assoc, List.dropLast_concat]
        have hN : Names (ma ++ m) := by rw [← List.append_assoc] at q1; exact q1.left
        have hqu : undS a q = true := by rw [R.ea]; exact (und_names R.na hN e2).2 ⟨m, rfl⟩
        obtain ⟨r', p1, p2, p3, p4⟩ := R.moved hq hqu
        have : m = r' := List.append_cancel_left (pathOf_inj hN p1 (e2.symm.trans p2))
        subst this
        have hqb : q.fPath ≠ b := fun e' => by rw [R.undB e'] at hqu; cases hqu
        refine ⟨mapF a b q, (hm _).2 ⟨q, hq, hqb, rfl⟩, ?_, by rw [(dirs q).1]; exact hqd⟩
        rw [p3, parent_names q4, ← List.append_assoc, List.dropLast_concat]
end

/-! ### The program's Rename -/
theorem und_len {a : List UInt8} {f : TFile} (h : undS a f = true) (ha : a ≠ [47]) : a.length ≤ f.fPath.length := by
  unfold undS at h
  rw [Bool.or_eq_true] at h
  rcases h with h | h
  · rw [eq_of_beq h]; exact Nat.le_refl _
  · unfold aboveS at h
    rw [show (a == [47]) = false by simpa using ha, cond_false, Bool.and_eq_true, decide_eq_true_eq] at h
    omega
theorem move_eq (F : Nat) {l : List TFile} {a b : List UInt8} {ma mb : List (List UInt8)} (hF : 1000 ≤ F) (R : Ren l a b ma mb) : files_move F l a b = some (moveS l a b) := by
  have hl := R.tree.len
  have ha47 : a ≠ [47] := by rw [R.ea]; exact fun e => R.a0 ((pathOf_nil_iff R.na).1 e)
  have hal : a.length ≤ 128 := by
    obtain ⟨f, hf, e⟩ := (has_iff _ _).1 R.hasA
    rw [← e]; exact R.tree.list.small f hf
  have hpos : 0 < l.length := by
    obtain ⟨f, hf, -⟩ := R.tree.root
    exact List.length_pos_of_mem hf
  unfold files_move
  have hwo : files_without F l b = some (restS l b) := without_eq F l b (by omega) (by omega) hpos
  rw [hwo, Option.bind_some]
  have hrl : (restS l b).length ≤ 128 := Nat.le_trans (List.length_filter_le _ _) hl
  have hmem : ∀ (k : Nat) (h : k < (restS l b).length), (restS l b)[k] ∈ l := fun k h => (rest_mem.1 (List.getElem_mem h)).1
  refine loopF_hoare (fun x => ∃ k : Nat, x.1 = (k : Int) ∧ k ≤ (restS l b).length ∧ x.2 = ((restS l b).take k).map (mapF a b) ++ (restS l b).drop k ∧ ∀ f ∈ (restS l b).take k, longF a b f = false) (fun x => (restS l b).length - x.1.toNat) ?_ F _ ⟨0, rfl, by omega, by simp, by simp⟩ (by simp; omega)
  rintro ⟨ii, s⟩ ⟨k, h0, h1, h2, h3⟩
  dsimp only at h0 h2 ⊢
  subst h0
  have hsl : s.length = (restS l b).length := by rw [h2]; simp; omega
  by_cases hk : k < (restS l b).length
  · have hks : k < s.length := by omega
    have hsk : s.getD k dTFile = (restS l b)[k] := by
      rw [gd hks]
      simp only [h2]
      rw [List.getElem_append_right (by simp; omega)]
      simp [show min k (restS l b).length = k by omega]
    have hpl := R.tree.list.small _ (hmem k hk)
    have hset : ∀ y, s.set k y = ((restS l b).take k).map (mapF a b) ++ y :: (restS l b).drop (k + 1) := fun y => by
      rw [h2, List.set_append_right _ _ (by simp; omega), show k - (((restS l b).take k).map (mapF a b)).length = 0 by simp; omega, List.drop_eq_getElem_cons hk, List.set_cons_zero]
    simp only [ct (show (k : Int) < ((restS l b).length : Int) by omega), rq2 (show 0 ≤ (k : Int) by omega) (show (k : Int) < (s.length : Int) by omega), Int.toNat_natCast, hsk, above_eq F a _ (show a.length < 1000000000 by omega), Option.bind_some, cond_som]
    have e4 : (cond (!((restS l b)[k].fPath == a)) (!(aboveS a (restS l b)[k].fPath), s) (false, s)) = (!(undS a (restS l b)[k]), s) := by
      unfold undS
      cases ((restS l b)[k].fPath == a) <;> rfl
    simp only [e4]
    cases hu : undS a (restS l b)[k] with
    | false =>
      left
      refine ⟨(((k + 1 : Nat) : Int), s), ⟨k + 1, rfl, by omega, ?_, fun f hf => ?_⟩, by simp; omega, fun rc => ?_⟩
      · dsimp only
        rw [h2, List.take_succ_eq_append_getElem hk, List.drop_eq_getElem_cons hk, List.map_append, List.map_cons, List.map_nil, map_not hu]
        simp
      · rw [List.take_succ_eq_append_getElem hk] at hf
        rcases List.mem_append.1 hf with hf | hf
        · exact h3 f hf
        · simp only [List.mem_singleton] at hf
          subst hf
          unfold longF; rw [hu]; rfl
      · rw [Bool.not_false, cond_true, w64s (by omega)]
    | true =>
      have hul := und_len hu ha47
      simp only [Bool.not_true, cond_false, rq3 (show 0 ≤ (a.length : Int) by omega) (show (a.length : Int) ≤ ((restS l b)[k].fPath.length : Int) by omega) (show ((restS l b)[k].fPath.length : Int) ≤ ((restS l b)[k].fPath.length : Int) by omega), sl_full]
      have hbl := R.lb
      have hx : b.length + ((restS l b)[k].fPath.drop a.length).length ≤ 9223372036854775807 := by simp; omega
      have hy : (k : Int) < ((s.set k (TFile.mk (b ++ (restS l b)[k].fPath.drop a.length) (restS l b)[k].fDir (restS l b)[k].fData)).length : Int) := by
        rw [List.length_set]; omega
      simp only [hsk, rq1 hx, rq2 (show 0 ≤ (k : Int) by omega) (show (k : Int) < (s.length : Int) by omega), rq2 (show 0 ≤ (k : Int) by omega) hy]
      have hgd : (s.set k (TFile.mk (b ++ (restS l b)[k].fPath.drop a.length) (restS l b)[k].fDir (restS l b)[k].fData)).getD k dTFile = mvF a b (restS l b)[k] := by
        rw [gd (by rw [List.length_set]; exact hks), List.getElem_set_self]; rfl
      simp only [hgd]
      cases hlg : longF a b (restS l b)[k] with
      | true =>
        right
        intro rc
        unfold longF at hlg
        rw [hu, Bool.true_and, decide_eq_true_eq] at hlg
        rw [ct (show 128 < (((mvF a b (restS l b)[k]).fPath.length : Nat) : Int) by show 128 < (((mvP a b (restS l b)[k].fPath).length : Nat) : Int); omega)]
        unfold moveS
        have : (restS l b).any (longF a b) = true := List.any_eq_true.2 ⟨_, List.getElem_mem hk, by unfold longF; rw [hu, Bool.true_and]; exact decide_eq_true hlg⟩
        rw [this]; rfl
      | false =>
        left
        refine ⟨(((k + 1 : Nat) : Int), ((restS l b).take (k + 1)).map (mapF a b) ++ (restS l b).drop (k + 1)), ⟨k + 1, rfl, by omega, rfl, fun f hf => ?_⟩, by simp; omega, fun rc => ?_⟩
        · rw [List.take_succ_eq_append_getElem hk] at hf
          rcases List.mem_append.1 hf with hf | hf
          · exact h3 f hf
          · simp only [List.mem_singleton] at hf
            subst hf
            exact hlg
        · unfold longF at hlg
          rw [hu, Bool.true_and, decide_eq_false_iff_not] at hlg
          rw [cf (show ¬ 128 < (((mvF a b (restS l b)[k]).fPath.length : Nat) : Int) by show ¬ 128 < (((mvP a b (restS l b)[k].fPath).length : Nat) : Int); omega), w64s (by omega), hset, List.take_succ_eq_append_getElem hk, List.map_append, List.map_cons, List.map_nil, map_und hu]
          simp only [List.append_assoc, List.cons_append, List.nil_append]
          rfl
  · right
    obtain rfl : k = (restS l b).length := by omega
    intro rc
    rw [List.take_length] at h2 h3
    rw [List.drop_length, List.append_nil] at h2
    have hr0 : 0 < (restS l b).length := by
      obtain ⟨f0, hf0, e0⟩ := R.tree.root
      refine List.length_pos_of_mem (rest_mem.2 ⟨hf0, ?_⟩)
      rw [e0, R.eb]
      exact fun e => R.b0 ((pathOf_nil_iff R.nb).1 e.symm)
    rw [cf (by omega), h2, sfF, rq3 (by simpa using hr0) (by simp; omega) R.nodup, Option.bind_some]
    unfold moveS
    have : (restS l b).any (longF a b) = false := List.any_eq_false.2 fun f hf => by rw [h3 f hf]; simp
    rw [this]; rfl
theorem find_dir (l : List TFile) (p : List UInt8) : (((findS l p).elim (TFile.mk [] false [], false) fun f => (f, true)) : TFile × Bool).1.fDir = dirOf l p := by
  unfold dirOf
  cases findS l p <;> rfl
theorem rename_eq (F : Nat) {l : List TFile} (a b : List UInt8) (hF : 1000 ≤ F) (h : VT l) (ha : a.length ≤ 600) (hb : b.length ≤ 600) : files_Rename F l a b = some (renS l a b) := by
  have hl := h.len
  unfold files_Rename
  rw [path_eq F a (by omega), path_eq F b (by omega), find_eq F l a (by omega) (by omega), find_eq F l b (by omega) (by omega), above_eq F a b (by omega), perr_eq F l b (by omega) (by omega) (by omega) (fun f hf => by have := h.list.small f hf; omega), inside_eq F l b (by omega) (by omega) fun f hf => by have := h.list.small f hf; omega]
  simp only [Option.bind_some, cond_som, cT, cF, find_has, find_dir]
  unfold renS
  cases h1 : (!pathS a || !pathS b) with
  | true => rfl
  | false =>
    cases h2 : (a == [47] || b == [47]) with
    | true => rfl
    | false =>
      cases h3 : hasS l a with
      | false => rfl
      | true =>
        cases h4 : (a == b) with
        | true => rfl
        | false =>
          cases h5 : aboveS a b with
          | true => rfl
          | false =>
            cases h6 : (perrS l b != 0) with
            | true => rfl
            | false =>
              simp only [Bool.or_eq_false_iff, Bool.not_eq_false', beq_eq_false_iff_ne, ne_eq, bne_eq_false_iff_eq] at h1 h2 h4 h6
              simp only [Bool.not_true, cond_false]
              have mv : repS l a b = 0 → (files_move F l a b).bind (fun x13 => some (x13.1, x13.2)) = some (moveS l a b) := fun h7 => by
                obtain ⟨ma, mb, R⟩ := ren_of h h1.1 h1.2 h2.1 h2.2 h3 h4 h5 h6 h7
                rw [move_eq F hF R]; rfl
              unfold jj
              unfold repS at mv ⊢
              cases hh : hasS l b with
              | false => rw [hh] at mv; exact mv rfl
              | true =>
                rw [hh] at mv
                cases d1 : (dirOf l b && !(dirOf l a)) with
                | true => rfl
                | false =>
                  rw [d1] at mv
                  cases d2 : (dirOf l a && !(dirOf l b)) with
                  | true => rfl
                  | false =>
                    rw [d2] at mv
                    cases d3 : l.any (kidS b) with
                    | true => rfl
                    | false => rw [d3] at mv; exact mv rfl

/-! ### The document's Rename -/
theorem fold_ins : ∀ (mv acc : List TFile), Asc acc → ((acc ++ mv).map fun f => f.fPath).Nodup → Asc (mv.foldl (fun t f => insS f t) acc) ∧ ∀ x, x ∈ mv.foldl (fun t f => insS f t) acc ↔ x ∈ acc ∨ x ∈ mv
  | [], acc, h, _ => ⟨h, fun x => by simp⟩
  | f :: mv, acc, h, hn => by
    have hf : ∀ x ∈ acc, x.fPath ≠ f.fPath := fun x hx e => by
      rw [List.map_append, List.nodup_append] at hn
      exact hn.2.2 x.fPath (List.mem_map.2 ⟨x, hx, rfl⟩) f.fPath (by simp) e
    have hp : ((insS f acc ++ mv).map fun f => f.fPath).Nodup := by
      have : (insS f acc ++ mv).Perm (acc ++ f :: mv) := by
        have h1 : (insS f acc).Perm (f :: acc) := by
          clear hn h hf
          induction acc with
          | nil => exact List.Perm.refl _
          | cons y acc ih =>
            rw [insS]
            cases Op.bytesLess f.fPath y.fPath with
            | true => exact List.Perm.refl _
            | false => exact (List.Perm.cons y ih).trans (List.Perm.swap f y acc)
        exact (h1.append_right mv).trans (List.perm_middle.symm)
      exact (this.map _).nodup_iff.2 hn
    obtain ⟨q1, q2⟩ := fold_ins mv (insS f acc) (ins_asc h hf) hp
    refine ⟨q1, fun x => ?_⟩
    rw [List.foldl_cons, q2, ins_mem, List.mem_cons]
    constructor
    · rintro ((h | h) | h)
      · exact .inr (.inl h)
      · exact .inl h
      · exact .inr (.inr h)
    · rintro (h | h | h)
      · exact .inl (.inr h)
      · exact .inl (.inl h)
      · exact .inr h
theorem fold_len : ∀ (mv acc : List TFile), (mv.foldl (fun t f => insS f t) acc).length = acc.length + mv.length
  | [], acc => rfl
  | f :: mv, acc => by rw [List.foldl_cons, fold_len mv, ins_len, List.length_cons]; omega
def stayL (l : List TFile) (a b : List UInt8) : List TFile := l.filter fun f => !(undS a f) && !(isP b f)
def goL (l : List TFile) (a b : List UInt8) : List TFile := (l.filter (undS a)).map (mvF a b)
theorem Ren.fold {l : List TFile} {a b : List UInt8} {ma mb : List (List UInt8)} (R : Ren l a b ma mb) : (goL l a b).foldl (fun t f => insS f t) (stayL l a b) = sortBy keyF ((restS l b).map (mapF a b)) := by
  have hm : ∀ x, x ∈ stayL l a b ∨ x ∈ goL l a b ↔ ∃ f, f ∈ l ∧ f.fPath ≠ b ∧ mapF a b f = x := fun x => by
    unfold stayL goL isP
    simp only [List.mem_filter, List.mem_map, Bool.and_eq_true, Bool.not_eq_true', beq_eq_false_iff_ne, ne_eq]
    constructor
    · rintro (⟨h1, h2, h3⟩ | ⟨f, ⟨h1, h2⟩, h3⟩)
      · exact ⟨x, h1, h3, map_not h2⟩
      · exact ⟨f, h1, fun e => (by rw [R.undB e] at h2; cases h2), by rw [map_und h2]; exact h3⟩
    · rintro ⟨f, h1, h2, h3⟩
      cases hu : undS a f with
      | false => rw [map_not hu] at h3; subst h3; exact .inl ⟨h1, hu, h2⟩
      | true => rw [map_und hu] at h3; exact .inr ⟨f, ⟨h1, hu⟩, h3⟩
  have hs : Asc (stayL l a b) := R.tree.asc.filter _
  have hnd : ((stayL l a b ++ goL l a b).map fun f => f.fPath).Nodup := by
    rw [List.map_append, List.nodup_append]
    refine ⟨asc_nodup hs, ?_, fun x hx y hy e => ?_⟩
    · unfold goL
      rw [List.map_map, List.Nodup, List.pairwise_map]
      have h1 : (l.filter (undS a)).Pairwise fun x y => x.fPath < y.fPath := R.tree.asc.filter _
      refine List.Pairwise.imp_of_mem (fun {x y} hx hy hxy e => ?_) h1
      rw [List.mem_filter] at hx hy
      have hxb : x.fPath ≠ b := fun e => by have := R.undB e; rw [hx.2] at this; cases this
      have hyb : y.fPath ≠ b := fun e => by have := R.undB e; rw [hy.2] at this; cases this
      have := R.inj hx.1 hy.1 hxb hyb (by rw [map_und hx.2, map_und hy.2]; exact e)
      rw [this] at hxy
      exact lt_irrefl' _ hxy
    · subst e
      obtain ⟨f, hf, ef⟩ := List.mem_map.1 hx
      obtain ⟨g, hg, eg⟩ := List.mem_map.1 hy
      unfold stayL isP at hf
      unfold goL at hg
      simp only [List.mem_filter, List.mem_map, Bool.and_eq_true, Bool.not_eq_true', beq_eq_false_iff_ne, ne_eq] at hf hg
      obtain ⟨q, ⟨q1, q2⟩, rfl⟩ := hg
      have hqb : q.fPath ≠ b := fun e => by have := R.undB e; rw [q2] at this; cases this
      have := R.inj hf.1 q1 hf.2.2 hqb (by rw [map_not hf.2.1, map_und q2, ef, eg])
      have := asc_uniq R.tree.asc hf.1 q1 this
      subst this
      rw [q2] at hf
      exact absurd hf.2.1 (by simp)
  obtain ⟨h1, h2⟩ := fold_ins (goL l a b) (stayL l a b) hs hnd
  refine asc_ext (f := fun x : TFile => x.fPath) h1 R.asc fun x => ?_
  rw [h2, hm, sorted_mem]
theorem ref_rename (F : Nat) {l : List TFile} (a b : List UInt8) (hF : 1000 ≤ F) (h : VT l) (ha : a.length ≤ 600) (hb : b.length ≤ 600) : ref19_Rename F l a b = some (renS l a b) := by
  have hl := h.len
  have hsm := h.list.small
  unfold ref19_Rename
  rw [ref_path F a (by omega), ref_path F b (by omega), ref_find F l a (by omega) (by omega), ref_above F a b, ref_perr F l b (by omega) (by omega) (by omega) (by omega)]
  simp only [Option.bind_some, cond_som, cT, cF]
  unfold renS
  cases h1 : (!pathS a || !pathS b) with
  | true => rfl
  | false =>
    cases h2 : (a == [47] || b == [47]) with
    | true => rfl
    | false =>
      simp only [cond_false]
      rcases idx_find l a with ⟨i1, i2, i3⟩ | ⟨i, i0, i1, i2, i3⟩
      · rw [i1, i3]; rfl
      · rw [i1, i3, cf (by omega)]
        cases h4 : (a == b) with
        | true => rfl
        | false =>
          cases h5 : aboveS a b with
          | true => rfl
          | false =>
            cases h6 : (perrS l b != 0) with
            | true => rfl
            | false =>
              simp only [Bool.or_eq_false_iff, Bool.not_eq_false', beq_eq_false_iff_ne, ne_eq, bne_eq_false_iff_eq] at h1 h2 h4 h6
              have hrep : ref19_replaces F l a b = some (repS l a b) := by
                unfold ref19_replaces repS
                rw [ref_find F l a (by omega) (by omega), ref_find F l b (by omega) (by omega), holds_eq F l b (by omega) (by omega) fun f hf => by have := hsm f hf; omega]
                simp only [Option.bind_some]
                rcases idx_find l b with ⟨j1, j2, j3⟩ | ⟨j, j0, j1, j2, j3⟩
                · rw [j1, j3]; rfl
                · have d1 : dirOf l a = (l.getD i dTFile).fDir := by unfold dirOf; rw [i2]; rfl
                  have d2 : dirOf l b = (l.getD j dTFile).fDir := by unfold dirOf; rw [j2]; rfl
                  rw [i1, j1, j3, cf (by omega)]
                  simp only [rq2 (show 0 ≤ (j : Int) by omega) (show (j : Int) < (l.length : Int) by omega), rq2 (show 0 ≤ (i : Int) by omega) (show (i : Int) < (l.length : Int) by omega), Int.toNat_natCast, cond_som, Option.bind_some, cF, ← d1, ← d2]
                  cases dirOf l a <;> cases dirOf l b <;> rfl
              rw [hrep]
              simp only [Option.bind_some, Bool.not_true, cond_false]
              cases h7 : (repS l a b != 0) with
              | true => rfl
              | false =>
                simp only [cond_false]
                have h7' : repS l a b = 0 := by simpa using h7
                obtain ⟨ma, mb, R⟩ := ren_of h h1.1 h1.2 h2.1 h2.2 i3 h4 h5 h6 h7'
                clear hrep h7
                have ha47 : a ≠ [47] := h2.1
                have hbl := R.lb
                refine loopF_hoare (fun x => ∃ k : Nat, x.2.2 = (k : Int) ∧ k ≤ l.length ∧ x.1 = stayL (l.take k) a b ∧ x.2.1 = goL (l.take k) a b ∧ ∀ f ∈ l.take k, longF a b f = false) (fun x => l.length - x.2.2.toNat) ?_ F _ ⟨0, rfl, by omega, rfl, rfl, by simp⟩ (by simp; omega)
                rintro ⟨st, mv, ii⟩ ⟨k, k0, k1, k2, k3, k4⟩
                dsimp only at k0 k2 k3 ⊢
                subst k0
                have hst : st.length ≤ k := by
                  rw [k2]; unfold stayL
                  have := List.length_filter_le (fun f => !(undS a f) && !(isP b f)) (l.take k)
                  simp at this; omega
                have hmv : mv.length ≤ k := by
                  rw [k3]; unfold goL
                  have := List.length_filter_le (undS a) (l.take k)
                  simp at this; rw [List.length_map]; omega
                by_cases hk : k < l.length
                · have hg : l.getD k dTFile = l[k] := gd hk
                  have hpl := hsm _ (List.getElem_mem hk)
                  have ht := List.take_succ_eq_append_getElem hk
                  simp only [ct (show (k : Int) < (l.length : Int) by omega), rq2 (show 0 ≤ (k : Int) by omega) (show (k : Int) < (l.length : Int) by omega), Int.toNat_natCast, hg, ref_above F a _, Option.bind_some, cond_som, cT]
                  rw [show (l[k].fPath == a || aboveS a l[k].fPath) = undS a l[k] from rfl]
                  cases hu : undS a l[k] with
                  | true =>
                    have hul := und_len hu ha47
                    have hx : b.length + (l[k].fPath.drop a.length).length ≤ 9223372036854775807 := by simp; omega
                    simp only [cond_true, rq3 (show 0 ≤ (a.length : Int) by omega) (show (a.length : Int) ≤ (l[k].fPath.length : Int) by omega) (show (l[k].fPath.length : Int) ≤ (l[k].fPath.length : Int) by omega), sl_full, rq1 hx]
                    cases hlg : longF a b l[k] with
                    | true =>
                      right
                      intro rc
                      have hlg' := hlg
                      unfold longF at hlg
                      rw [hu, Bool.true_and, decide_eq_true_eq] at hlg
                      rw [ct (show 128 < (((b ++ l[k].fPath.drop a.length).length : Nat) : Int) by show 128 < (((mvP a b l[k].fPath).length : Nat) : Int); omega)]
                      unfold moveS
                      have : (restS l b).any (longF a b) = true := List.any_eq_true.2 ⟨_, rest_mem.2 ⟨List.getElem_mem hk, fun e => by rw [R.undB e] at hu; cases hu⟩, hlg'⟩
                      rw [this]; rfl
                    | false =>
                      left
                      have hlg' := hlg
                      unfold longF at hlg
                      rw [hu, Bool.true_and, decide_eq_false_iff_not] at hlg
                      refine ⟨(st, mv ++ [mvF a b l[k]], ((k + 1 : Nat) : Int)), ⟨k + 1, rfl, by omega, ?_, ?_, fun f hf => ?_⟩, by simp; omega, fun rc => ?_⟩
                      · dsimp only
                        unfold stayL
                        rw [ht, List.filter_append, k2]
                        simp [hu, stayL]
                      · dsimp only
                        unfold goL
                        rw [ht, List.filter_append, k3]
                        simp [hu, goL]
                      · rw [ht] at hf
                        rcases List.mem_append.1 hf with hf | hf
                        · exact k4 f hf
                        · simp only [List.mem_singleton] at hf
                          subst hf; exact hlg'
                      · rw [cf (show ¬ 128 < (((b ++ l[k].fPath.drop a.length).length : Nat) : Int) by show ¬ 128 < (((mvP a b l[k].fPath).length : Nat) : Int); omega), rq2 (by simp; omega) (by simp; omega), w64s (by omega)]
                        rfl
                  | false =>
                    left
                    have hlg' : longF a b l[k] = false := by unfold longF; rw [hu]; rfl
                    have k4' : ∀ f ∈ l.take (k + 1), longF a b f = false := fun f hf => by
                      rw [ht] at hf
                      rcases List.mem_append.1 hf with hf | hf
                      · exact k4 f hf
                      · simp only [List.mem_singleton] at hf
                        subst hf; exact hlg'
                    have k3' : mv = goL (l.take (k + 1)) a b := by
                      unfold goL
                      rw [ht, List.filter_append, k3]
                      simp [hu, goL]
                    simp only [cond_false]
                    rw [show (l[k].fPath == b) = isP b l[k] from rfl]
                    cases hpb : isP b l[k] with
                    | true =>
                      refine ⟨(st, mv, ((k + 1 : Nat) : Int)), ⟨k + 1, rfl, by omega, ?_, k3', k4'⟩, by simp; omega, fun rc => ?_⟩
                      · dsimp only
                        unfold stayL
                        rw [ht, List.filter_append, k2]
                        simp [hu, hpb, stayL]
                      · rw [Bool.not_true, cond_false, w64s (by omega)]
                    | false =>
                      refine ⟨(st ++ [l[k]], mv, ((k + 1 : Nat) : Int)), ⟨k + 1, rfl, by omega, ?_, k3', k4'⟩, by simp; omega, fun rc => ?_⟩
                      · dsimp only
                        unfold stayL
                        rw [ht, List.filter_append, k2]
                        simp [hu, hpb, stayL]
                      · rw [Bool.not_false, cond_true, rq2 (by simp; omega) (by simp; omega), w64s (by omega)]
                · right
                  obtain rfl : k = l.length := by omega
                  intro rc
                  rw [List.take_length] at k2 k3 k4
                  rw [cf (by omega), k2, k3]
                  have hgl : (goL l a b).length ≤ 128 := by rw [← k3]; omega
                  have hsl : (stayL l a b).length ≤ 128 := by rw [← k2]; omega
                  have hz : moveS l a b = ((goL l a b).foldl (fun t f => insS f t) (stayL l a b), 0) := by
                    unfold moveS
                    have : (restS l b).any (longF a b) = false := List.any_eq_false.2 fun f hf => by rw [k4 f (rest_mem.1 hf).1]; simp
                    rw [this, R.fold]; rfl
                  rw [hz]
                  refine loopF_foldI (goL l a b) (fun i t => (t, (i : Int))) (fun t f => insS f t) (fun i t => t.length = (stayL l a b).length + i) (t := stayL l a b) (by omega) (by rfl) (by simp) (fun i hi t rc hI => ?_) (fun i hi t hI => ?_) (fun rc hI => ?_)
                  · dsimp only
                    rw [ct (by omega), rq2 (by omega) (by omega), Int.toNat_natCast, gd hi, ref_insert F t _ (by omega) (by omega), Option.bind_some, w64s (by omega)]
                  · rw [ins_len]; omega
                  · dsimp only
                    rw [cf (by omega)]
theorem ren_len {l : List TFile} (h : VT l) (a b : List UInt8) : (renS l a b).1.length ≤ 140 := by
  have := h.len
  rcases ren_cases h a b with e | ⟨ma, mb, R, e⟩
  · rw [e]; omega
  · rw [e]
    unfold moveS
    cases (restS l b).any (longF a b) with
    | true => simp; omega
    | false =>
      show (sortBy keyF ((restS l b).map (mapF a b))).length ≤ 140
      rw [(sortBy_perm _ _).length_eq, List.length_map]
      have := List.length_filter_le (fun f => !(isP b f)) l
      unfold restS; omega
theorem filesRenames (l : List TFile) (a b : List UInt8) : ∃ F, law19_FilesRenames F l a b = some true := by
  refine ⟨1000, ?_⟩
  unfold law19_FilesRenames
  obtain ⟨b1, hb1, e1⟩ := small_eq 1000 l (by omega)
  rw [e1]
  cases b1 with
  | false => rw [awake]; rfl
  | true =>
    have h := hb1 rfl
    rw [ref_valid 1000 l (by omega) h]
    simp only [Option.bind_some, short_eq, Bool.not_true, cond_false, cond_som, cT, Bool.false_or]
    cases hs : ((!(decide (a.length ≤ 600) && decide (b.length ≤ 600))) || validS l != 0) with
    | true => rw [awake]; rfl
    | false =>
      simp only [Bool.or_eq_false_iff, Bool.not_eq_false', Bool.and_eq_true, decide_eq_true_eq, bne_eq_false_iff_eq] at hs
      have v := ((valid_iff l).1 hs.2).tree
      have hl := ren_len v a b
      rw [cond_false, rename_eq 1000 a b (by omega) v hs.1.1 hs.1.2, ref_rename 1000 a b (by omega) v hs.1.1 hs.1.2]
      simp only [Option.bind_some]
      rw [same_eq 1000 _ _ (by omega) (by omega), awake]
      simp
end Go.Proofs.YtipeaopaiplhiaaGreatDoor
