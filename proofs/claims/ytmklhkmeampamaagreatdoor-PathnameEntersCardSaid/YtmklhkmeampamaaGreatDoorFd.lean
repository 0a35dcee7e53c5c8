/-
  Files, plain part 4: valid lists; List and Diff.
-/
import Derived.Test.YtmklhkmeampamaaGreatDoorFc
namespace Go.Proofs.YtmklhkmeampamaaGreatDoor
open Go.RT
set_option linter.all false

/-! ### What a valid list is -/
def Asc (l : List TFile) : Prop := l.Pairwise fun x y => x.fPath < y.fPath
structure VL (l : List TFile) : Prop where
  len : l.length ≤ 128
  pos : 0 < l.length
  root : (l.getD 0 dTFile).fPath = [47]
  path : ∀ f ∈ l, pathS f.fPath = true
  dir : ∀ f ∈ l, f.fDir = true → f.fData = []
  rdir : ∀ f ∈ l, f.fPath = [47] → f.fDir = true
  data : ∀ f ∈ l, f.fData.length ≤ 8192
  asc : Asc l
  perr : ∀ k, 0 < k → k < l.length → perrS (l.take k) (l.getD k dTFile).fPath = 0
theorem vgo_zero (l : List TFile) : ∀ (n k : Nat), vgo l n k = 0 ↔ ∀ j, k ≤ j → j < k + n → vst l j = 0
  | 0, k => ⟨fun _ j h h' => by omega, fun _ => rfl⟩
  | n + 1, k => by
    rw [vgo]
    cases h : (vst l k == 0) with
    | true =>
      rw [cond_true, vgo_zero l n (k + 1)]
      constructor
      · intro h1 j h2 h3
        by_cases e : j = k
        · subst e; simpa using h
        · exact h1 j (by omega) (by omega)
      · intro h1 j h2 h3
        exact h1 j (by omega) (by omega)
    | false =>
      rw [cond_false]
      constructor
      · intro h1; rw [h1] at h; cases h
      · intro h1
        have := h1 k (by omega) (by omega)
        rw [this] at h; cases h
theorem asc_of_adj : ∀ {l : List TFile}, (∀ k, 0 < k → k < l.length → (l.getD (k - 1) dTFile).fPath < (l.getD k dTFile).fPath) → Asc l
  | [], _ => List.Pairwise.nil
  | [x], _ => List.pairwise_singleton _ _
  | x :: y :: l, h => by
    have ih : Asc (y :: l) := asc_of_adj fun k h1 h2 => by
      have := h (k + 1) (by omega) (by simpa using h2)
      rw [show k + 1 - 1 = (k - 1) + 1 by omega] at this
      simpa using this
    have hxy : x.fPath < y.fPath := by
      have := h 1 (by omega) (by simp)
      simpa using this
    refine List.pairwise_cons.2 ⟨fun z hz => ?_, ih⟩
    rcases List.mem_cons.1 hz with rfl | hz
    · exact hxy
    · exact lt_trans' hxy ((List.pairwise_cons.1 ih).1 z hz)
theorem asc_adj {l : List TFile} (h : Asc l) (i j : Nat) (hij : i < j) (hj : j < l.length) : (l.getD i dTFile).fPath < (l.getD j dTFile).fPath := by
  rw [gd (show i < l.length by omega), gd hj]
  exact List.pairwise_iff_getElem.1 h i j (by omega) hj hij
theorem vst_zero (l : List TFile) (k : Nat) : vst l k = 0 ↔ pathS (l.getD k dTFile).fPath = true ∧ ((l.getD k dTFile).fDir = true → (l.getD k dTFile).fData = []) ∧ ((l.getD k dTFile).fPath = [47] → (l.getD k dTFile).fDir = true) ∧
    (l.getD k dTFile).fData.length ≤ 8192 ∧ (0 < k → (l.getD (k - 1) dTFile).fPath < (l.getD k dTFile).fPath) ∧ (0 < k → perrS (l.take k) (l.getD k dTFile).fPath = 0) := by
  unfold vst
  generalize l.getD k dTFile = f
  generalize l.getD (k - 1) dTFile = g
  generalize perrS (l.take k) f.fPath = e
  cases h1 : pathS f.fPath with
  | false => simp
  | true =>
    rw [Bool.not_true, cond_false]
    cases h2 : ((f.fDir && !(f.fData == [])) || (f.fPath == [47] && !f.fDir)) with
    | true =>
      rw [cond_true]
      simp only [Bool.or_eq_true, Bool.and_eq_true, Bool.not_eq_true', beq_eq_false_iff_ne, beq_iff_eq] at h2
      constructor
      · intro h; cases h
      · rintro ⟨-, h3, h4, -⟩
        rcases h2 with ⟨a, b⟩ | ⟨a, b⟩
        · exact absurd (h3 a) b
        · rw [h4 a] at b; cases b
    | false =>
      rw [cond_false]
      simp only [Bool.or_eq_false_iff, Bool.and_eq_false_iff, Bool.not_eq_false', beq_iff_eq, beq_eq_false_iff_ne] at h2
      have h3 : f.fDir = true → f.fData = [] := fun h => by
        rcases h2.1 with h' | h'
        · rw [h] at h'; cases h'
        · exact h'
      have h4 : f.fPath = [47] → f.fDir = true := fun h => by
        rcases h2.2 with h' | h'
        · exact absurd h h'
        · exact h'
      by_cases h5 : 8192 < f.fData.length
      · rw [ct h5]
        constructor
        · intro h; cases h
        · rintro ⟨-, -, -, h, -⟩; omega
      · rw [cf h5]
        have h5' : f.fData.length ≤ 8192 := by omega
        by_cases h6 : 0 < k
        · rw [dT h6, Bool.true_and, cond_true]
          rw [← bl_le g.fPath f.fPath]
          cases h7 : Op.bytesLess g.fPath f.fPath with
          | true =>
            have := (bl_lt _ _).1 h7
            rw [Bool.not_true, cond_false]
            exact ⟨fun h => ⟨rfl, h3, h4, h5', fun _ => this, fun _ => h⟩, fun h => h.2.2.2.2.2 h6⟩
          | false =>
            have := (bl_not _ _).1 h7
            rw [Bool.not_false, cond_true]
            exact ⟨fun h => (by cases h), fun h => absurd (h.2.2.2.2.1 h6) this⟩
        · rw [dF h6, Bool.false_and, cond_false, cond_false]
          exact ⟨fun _ => ⟨rfl, h3, h4, h5', fun h => absurd h h6, fun h => absurd h h6⟩, fun _ => rfl⟩
theorem valid_iff (l : List TFile) : validS l = 0 ↔ VL l := by
  unfold validS
  by_cases h1 : 128 < l.length
  · rw [ct h1]
    exact ⟨fun h => (by cases h), fun h => by have := h.len; omega⟩
  · rw [cf h1]
    cases h2 : (l.length == 0 || !((l.getD 0 dTFile).fPath == [47])) with
    | true =>
      rw [cond_true]
      refine ⟨fun h => (by cases h), fun h => ?_⟩
      have a := h.pos
      have b := h.root
      rw [b] at h2
      simp at h2
      subst h2
      simp at a
    | false =>
      rw [cond_false]
      simp only [Bool.or_eq_false_iff, beq_eq_false_iff_ne, ne_eq, Bool.not_eq_false', beq_iff_eq] at h2
      rw [vgo_zero]
      simp only [vst_zero]
      constructor
      · intro h
        have hm : ∀ f ∈ l, ∃ k, k < l.length ∧ l.getD k dTFile = f := fun f hf => by
          obtain ⟨k, hk, e⟩ := List.getElem_of_mem hf
          exact ⟨k, hk, by rw [gd hk]; exact e⟩
        refine ⟨by omega, by omega, h2.2, ?_, ?_, ?_, ?_, asc_of_adj fun k h3 h4 => (h k (by omega) (by omega)).2.2.2.2.1 h3, fun k h3 h4 => (h k (by omega) (by omega)).2.2.2.2.2 h3⟩
        · intro f hf; obtain ⟨k, hk, rfl⟩ := hm f hf; exact (h k (by omega) (by omega)).1
        · intro f hf; obtain ⟨k, hk, rfl⟩ := hm f hf; exact (h k (by omega) (by omega)).2.1
        · intro f hf; obtain ⟨k, hk, rfl⟩ := hm f hf; exact (h k (by omega) (by omega)).2.2.1
        · intro f hf; obtain ⟨k, hk, rfl⟩ := hm f hf; exact (h k (by omega) (by omega)).2.2.2.1
      · intro h j hj hj'
        have hj' : j < l.length := by omega
        have hm : l.getD j dTFile ∈ l := by rw [gd hj']; exact List.getElem_mem hj'
        exact ⟨h.path _ hm, h.dir _ hm, h.rdir _ hm, h.data _ hm, fun h0 => asc_adj h.asc (j - 1) j (by omega) hj', fun h0 => h.perr j h0 hj'⟩
theorem VL.small {l : List TFile} (h : VL l) : ∀ f ∈ l, f.fPath.length ≤ 128 := by
  intro f hf
  have := h.path f hf
  cases hr : (f.fPath == [47]) with
  | true => rw [eq_of_beq hr]; decide
  | false => exact (path_names this hr).2.2.1

/-! ### A path is its parent and its base -/
def baseS (s : List UInt8) : List UInt8 := s.drop (cutS s + 1)
def preS (p : List UInt8) : List UInt8 := cond (p == [47]) [] p ++ [47]
theorem path_snoc {s : List UInt8} (h : pathS s = true) (hr : (s == [47]) = false) : ∃ n c, Names n ∧ nameS c = true ∧ s = pathOf (n ++ [c]) ∧ parentS s = pathOf n ∧ baseS s = c ∧ s = preS (parentS s) ++ c ∧ cutS s < s.length := by
  obtain ⟨h1, h2, h3, h4⟩ := path_names h hr
  rcases List.eq_nil_or_concat (partsS (s.drop 1)) with e | ⟨n, c, e⟩
  · exact absurd e h4
  · rw [List.concat_eq_append] at e
    rw [e] at h1 h2
    have hn : Names n := fun x hx => h1 x (by simp [hx])
    have hc : nameS c = true := h1 c (by simp)
    have hs := pathOf_snoc hn c
    have hp := parent_snoc hn hc
    rw [h2] at hs hp
    have hcut : cutS s = (cond (pathOf n == [47]) [] (pathOf n)).length := by
      rw [hs, List.append_assoc]
      exact cut_of_app _ c (name_noSl hc)
    refine ⟨n, c, hn, hc, h2.symm, hp, ?_, ?_, ?_⟩
    · unfold baseS
      rw [hcut, hs, List.drop_left' (by simp)]
    · rw [hp]; exact hs
    · rw [hcut, hs]; simp
theorem app_lt (p u v : List UInt8) : p ++ u < p ++ v ↔ u < v := by
  induction p with
  | nil => exact Iff.rfl
  | cons b p ih =>
    rw [List.cons_append, List.cons_append, List.cons_lt_cons_iff]
    constructor
    · rintro (h | ⟨-, h⟩)
      · exact absurd h (by simp)
      · exact ih.1 h
    · intro h; exact .inr ⟨rfl, ih.2 h⟩

/-! ### List -/
def kidS (p : List UInt8) (f : TFile) : Bool := !(f.fPath == [47]) && parentS f.fPath == p
def kidsL (l : List TFile) (p : List UInt8) : List (List UInt8) := (l.filter (kidS p)).map fun f => baseS f.fPath
theorem kids_asc {l : List TFile} (h : VL l) (p : List UInt8) : (kidsL l p).Pairwise (· < ·) := by
  unfold kidsL
  rw [List.pairwise_map]
  have h1 : (l.filter (kidS p)).Pairwise fun x y => x.fPath < y.fPath := h.asc.filter _
  refine List.Pairwise.imp_of_mem (fun {x y} hx hy hxy => ?_) h1
  rw [List.mem_filter] at hx hy
  unfold kidS at hx hy
  simp only [Bool.and_eq_true, Bool.not_eq_true', beq_iff_eq] at hx hy
  obtain ⟨-, c, -, -, -, -, e1, e2, -⟩ := path_snoc (h.path x hx.1) hx.2.1
  obtain ⟨-, d, -, -, -, -, e3, e4, -⟩ := path_snoc (h.path y hy.1) hy.2.1
  rw [e1, e3]
  rw [e2, e4, hx.2.2, hy.2.2] at hxy
  exact (app_lt _ _ _).1 hxy
theorem kids_flat (l : List TFile) (p : List UInt8) : (l.flatMap fun f => cond (kidS p f) [baseS f.fPath] []) = kidsL l p := flat_filter _ _ l
theorem kids_len (l : List TFile) (p : List UInt8) (i : Nat) : ((l.take i).flatMap fun f => cond (kidS p f) [baseS f.fPath] []).length ≤ i := by
  have := flat_le (fun f => cond (kidS p f) [baseS f.fPath] ([] : List (List UInt8))) 1 (fun a => by cases kidS p a <;> simp) (l.take i)
  simp only [List.length_take] at this
  omega
def listS (l : List TFile) (p : List UInt8) : List (List UInt8) × Int := cond (!pathS p) ([], 10) ((findS l p).elim ([], 8) fun f => cond (!f.fDir) ([], 18) (kidsL l p, 0))
theorem list_eq (F : Nat) (l : List TFile) (p : List UInt8) (hF : 1000 ≤ F) (h : VL l) : files_List F l p = some (listS l p) := by
  have hl := h.len
  unfold files_List listS
  rw [path_eq F p (by omega), Option.bind_some]
  cases pathS p with
  | false => rfl
  | true =>
    rw [Bool.not_true, cond_false, cond_false, find_eq F l p (by omega) (by omega), Option.bind_some]
    rcases idx_find l p with ⟨h1, h2, h3⟩ | ⟨j, h0, h1, h2, h3⟩
    · rw [h2]; rfl
    · rw [h2]
      simp only [Option.elim, Bool.not_true, cond_false]
      cases (l.getD j dTFile).fDir with
      | false => rfl
      | true =>
        rw [Bool.not_true, cond_false, cond_false]
        refine loopF_flat l (fun i o => ((i : Int), o)) (fun f => cond (kidS p f) [baseS f.fPath] []) (by omega) (by rfl) (fun i hi rc o ho => ?_) (fun rc => ?_)
        · have hm := h.small _ (List.getElem_mem hi)
          have hlen : o.length ≤ i := by rw [ho]; exact kids_len l p i
          dsimp only
          rw [ct (by omega)]
          simp only [rq2 (show 0 ≤ (i : Int) by omega) (show (i : Int) < (l.length : Int) by omega), Int.toNat_natCast, gd hi, parent_eq F l[i].fPath (show l[i].fPath.length < 1000000000 by omega), Option.bind_some, cond_som]
          rw [show (cond (!(l[i].fPath == [47])) (parentS l[i].fPath == p, o) (false, o)) = (kidS p l[i], o) by unfold kidS; cases (l[i].fPath == [47]) <;> rfl, w64s (by omega)]
          dsimp only
          cases hk : kidS p l[i] with
          | false => simp
          | true =>
            unfold kidS at hk
            simp only [Bool.and_eq_true, Bool.not_eq_true'] at hk
            obtain ⟨-, c, -, -, -, -, -, -, e3⟩ := path_snoc (h.path _ (List.getElem_mem hi)) hk.1
            have hlib : Lib.lastIndexByte ⟨⟨l[i].fPath⟩⟩ 47 = (cutS l[i].fPath : Int) := by
              unfold cutS
              rcases lib_spec l[i].fPath with ⟨e, hh⟩ | ⟨q, hq, e, -⟩
              · exfalso
                have hp := h.path _ (List.getElem_mem hi)
                unfold pathS at hp
                rw [hk.1, Bool.false_or] at hp
                simp only [Bool.and_eq_true, decide_eq_true_eq, beq_iff_eq] at hp
                exact hh 0 (by omega) hp.2.1
              · rw [e]; rfl
            rw [cond_true, cond_true, lib_eq F _ (by omega), Option.bind_some, hlib, w64s (by omega), rq3 (by omega) (by omega) (by omega), rq2 (by simp; omega) (by simp; omega), sl_full]
            rfl
        · dsimp only
          rw [cf (by omega), kids_flat, sortF, sortK_id (kids_asc h p), rq1, Option.bind_some]
          have : (kidsL l p).length ≤ l.length := by
            unfold kidsL; rw [List.length_map]; exact List.length_filter_le _ _
          omega
/-! ### Insertion in order -/
def insS (f : TFile) : List TFile → List TFile
  | [] => [f]
  | x :: l => cond (Op.bytesLess f.fPath x.fPath) (f :: x :: l) (x :: insS f l)
theorem ins_len (f : TFile) : ∀ (l : List TFile), (insS f l).length = l.length + 1
  | [] => rfl
  | x :: l => by
    rw [insS]
    cases Op.bytesLess f.fPath x.fPath
    · simp [ins_len f l]
    · rfl
theorem ins_mem (f x : TFile) : ∀ (l : List TFile), x ∈ insS f l ↔ x = f ∨ x ∈ l
  | [] => by simp [insS]
  | y :: l => by
    rw [insS]
    cases Op.bytesLess f.fPath y.fPath
    · simp only [cond_false, List.mem_cons, ins_mem f x l]
      constructor
      · rintro (h | h | h)
        · exact .inr (.inl h)
        · exact .inl h
        · exact .inr (.inr h)
      · rintro (h | h | h)
        · exact .inr (.inl h)
        · exact .inl h
        · exact .inr (.inr h)
    · simp
theorem ins_asc {f : TFile} : ∀ {l : List TFile}, Asc l → (∀ x ∈ l, x.fPath ≠ f.fPath) → Asc (insS f l)
  | [], _, _ => List.pairwise_singleton _ _
  | y :: l, h, hn => by
    rw [Asc, List.pairwise_cons] at h
    rw [insS]
    cases hb : Op.bytesLess f.fPath y.fPath with
    | true =>
      have hlt := (bl_lt _ _).1 hb
      refine List.pairwise_cons.2 ⟨fun z hz => ?_, List.pairwise_cons.2 h⟩
      rcases List.mem_cons.1 hz with rfl | hz
      · exact hlt
      · exact lt_trans' hlt (h.1 z hz)
    | false =>
      have hlt : y.fPath < f.fPath := by
        rcases lt_tri y.fPath f.fPath with q | q | q
        · exact q
        · exact absurd q (hn y (by simp))
        · rw [(bl_lt _ _).2 q] at hb; cases hb
      refine List.pairwise_cons.2 ⟨fun z hz => ?_, ins_asc h.2 fun x hx => hn x (by simp [hx])⟩
      rcases (ins_mem f z l).1 hz with rfl | hz
      · exact hlt
      · exact h.1 z hz
theorem bl_gt (a b : List UInt8) : (!(Op.bytesLess a b || a == b)) = Op.bytesLess b a := by
  rw [← bl_le b a, Bool.not_not]
/-! ### Diff -/
def difS (l : List TFile) (f : TFile) : Bool := (findS l f.fPath).elim true fun g => !(eqF g f)
theorem find_path {l : List TFile} {p : List UInt8} {g : TFile} (h : findS l p = some g) : g ∈ l ∧ g.fPath = p := by
  have h1 := List.find?_some h
  exact ⟨List.mem_of_find?_eq_some h, eq_of_beq h1⟩
theorem has_iff (l : List TFile) (p : List UInt8) : hasS l p = true ↔ ∃ f ∈ l, f.fPath = p := by
  unfold hasS isP
  rw [List.any_eq_true]
  simp
theorem find_of_asc {l : List TFile} (h : Asc l) {f : TFile} (hf : f ∈ l) : findS l f.fPath = some f := by
  rcases idx_find l f.fPath with ⟨h1, h2, h3⟩ | ⟨j, h0, h1, h2, h3⟩
  · have := (has_iff l f.fPath).2 ⟨f, hf, rfl⟩
    rw [h3] at this; cases this
  · obtain ⟨hm, hp⟩ := find_path h2
    rw [h2]
    congr 1
    obtain ⟨i, hi, e⟩ := List.getElem_of_mem hf
    have e : l.getD i dTFile = f := by rw [gd hi]; exact e
    rcases Nat.lt_trichotomy i j with q | q | q
    · have := asc_adj h i j q h0
      rw [e, hp] at this; exact absurd this (lt_irrefl' _)
    · rw [← q, e]
    · have := asc_adj h j i q hi
      rw [e, hp] at this; exact absurd this (lt_irrefl' _)
def all1 (a b : List TFile) : List TFile := a.foldl (fun acc f => cond (difS b f) (insS f acc) acc) []
def all2 (a b acc : List TFile) : List TFile := b.foldl (fun acc g => cond (difS a g && !(hasS acc g.fPath)) (insS g acc) acc) acc
def dp1 (a b : List TFile) : List (List UInt8) := (a.filter (difS b)).map fun f => f.fPath
def dp2 (a b : List TFile) : List (List UInt8) := (b.filter fun g => !(hasS a g.fPath)).map fun f => f.fPath
theorem asc_nodup {l : List TFile} (h : Asc l) : (l.map fun f => f.fPath).Nodup := by
  rw [List.Nodup, List.pairwise_map]
  exact h.imp fun {x y} hxy e => by rw [e] at hxy; exact lt_irrefl' _ hxy
theorem dp_nodup {a b : List TFile} (ha : Asc a) (hb : Asc b) : (dp1 a b ++ dp2 a b).Nodup := by
  rw [List.nodup_append]
  refine ⟨asc_nodup (ha.filter _), asc_nodup (hb.filter _), fun x hx y hy e => ?_⟩
  subst e
  unfold dp1 at hx
  unfold dp2 at hy
  simp only [List.mem_map, List.mem_filter, Bool.not_eq_true'] at hx hy
  obtain ⟨f, ⟨hf, -⟩, e⟩ := hx
  obtain ⟨g, ⟨hg, hn⟩, e'⟩ := hy
  have := (has_iff a g.fPath).2 ⟨f, hf, by rw [e, e']⟩
  rw [hn] at this; cases this
theorem all1_spec {a b : List TFile} (ha : Asc a) : Asc (all1 a b) ∧ ∀ x, x ∈ all1 a b ↔ x ∈ a ∧ difS b x = true := by
  unfold all1
  suffices h : ∀ (l acc : List TFile), Asc acc → Asc l → (∀ x ∈ acc, ∀ y ∈ l, x.fPath ≠ y.fPath) → Asc (l.foldl (fun acc f => cond (difS b f) (insS f acc) acc) acc) ∧ ∀ x, x ∈ l.foldl (fun acc f => cond (difS b f) (insS f acc) acc) acc ↔ x ∈ acc ∨ (x ∈ l ∧ difS b x = true) by
    have := h a [] List.Pairwise.nil ha (fun x hx => by cases hx)
    exact ⟨this.1, fun x => by rw [this.2]; simp⟩
  intro l
  induction l with
  | nil => intro acc h1 _ _; exact ⟨h1, fun x => by simp⟩
  | cons f l ih =>
    intro acc h1 h2 h3
    have h1' : Asc acc := h1
    rw [Asc, List.pairwise_cons] at h2
    rw [List.foldl_cons]
    cases hd : difS b f with
    | false =>
      obtain ⟨q1, q2⟩ := ih acc h1 h2.2 fun x hx y hy => h3 x hx y (by simp [hy])
      refine ⟨q1, fun x => ?_⟩
      rw [cond_false, q2, List.mem_cons]
      constructor
      · rintro (h | ⟨h, h'⟩)
        · exact .inl h
        · exact .inr ⟨.inr h, h'⟩
      · rintro (h | ⟨rfl | h, h'⟩)
        · exact .inl h
        · rw [hd] at h'; cases h'
        · exact .inr ⟨h, h'⟩
    | true =>
      obtain ⟨q1, q2⟩ := ih (insS f acc) (ins_asc h1' fun x hx => h3 x hx f (by simp)) h2.2 (fun x hx y hy => by
        rcases (ins_mem f x acc).1 hx with rfl | hx
        · intro e; have := h2.1 y hy; rw [e] at this; exact lt_irrefl' _ this
        · exact h3 x hx y (by simp [hy]))
      refine ⟨q1, fun x => ?_⟩
      rw [cond_true, q2, ins_mem, List.mem_cons]
      constructor
      · rintro ((h | h) | ⟨h, h'⟩)
        · subst h; exact .inr ⟨.inl rfl, hd⟩
        · exact .inl h
        · exact .inr ⟨.inr h, h'⟩
      · rintro (h | ⟨h | h, h'⟩)
        · exact .inl (.inr h)
        · exact .inl (.inl h)
        · exact .inr ⟨h, h'⟩
theorem all2_spec {a b : List TFile} : ∀ (l acc : List TFile), Asc acc → Asc (all2 a l acc) ∧ ∀ p, p ∈ (all2 a l acc).map (fun f => f.fPath) ↔ p ∈ acc.map (fun f => f.fPath) ∨ ∃ g ∈ l, difS a g = true ∧ g.fPath = p
  | [], acc, h => ⟨h, fun p => by simp [all2]⟩
  | g :: l, acc, h => by
    unfold all2
    rw [List.foldl_cons]
    cases hc : (difS a g && !(hasS acc g.fPath)) with
    | true =>
      rw [cond_true]
      simp only [Bool.and_eq_true, Bool.not_eq_true'] at hc
      obtain ⟨q1, q2⟩ := all2_spec (b := b) l (insS g acc) (ins_asc h fun x hx e => by
        have := (has_iff acc g.fPath).2 ⟨x, hx, e⟩
        rw [hc.2] at this; cases this)
      refine ⟨q1, fun p => ?_⟩
      have q2 := q2 p
      unfold all2 at q2
      rw [q2]
      constructor
      · rintro (h1 | ⟨x, hx, h1⟩)
        · obtain ⟨y, hy, e⟩ := List.mem_map.1 h1
          rcases (ins_mem g y acc).1 hy with rfl | hy
          · exact .inr ⟨y, by simp, hc.1, e⟩
          · exact .inl (List.mem_map.2 ⟨y, hy, e⟩)
        · exact .inr ⟨x, by simp [hx], h1⟩
      · rintro (h1 | ⟨x, hx, h1⟩)
        · obtain ⟨y, hy, e⟩ := List.mem_map.1 h1
          exact .inl (List.mem_map.2 ⟨y, (ins_mem g y acc).2 (.inr hy), e⟩)
        · rcases List.mem_cons.1 hx with rfl | hx
          · exact .inl (List.mem_map.2 ⟨x, (ins_mem x x acc).2 (.inl rfl), h1.2⟩)
          · exact .inr ⟨x, hx, h1⟩
    | false =>
      rw [cond_false]
      obtain ⟨q1, q2⟩ := all2_spec (b := b) l acc h
      refine ⟨q1, fun p => ?_⟩
      have q2 := q2 p
      unfold all2 at q2
      rw [q2]
      constructor
      · rintro (h1 | ⟨x, hx, h1⟩)
        · exact .inl h1
        · exact .inr ⟨x, by simp [hx], h1⟩
      · rintro (h1 | ⟨x, hx, h1⟩)
        · exact .inl h1
        · rcases List.mem_cons.1 hx with rfl | hx
          · left
            rw [h1.1, Bool.true_and, Bool.not_eq_false', has_iff] at hc
            obtain ⟨y, hy, e⟩ := hc
            exact List.mem_map.2 ⟨y, hy, by rw [e]; exact h1.2⟩
          · exact .inr ⟨x, hx, h1⟩
theorem dif_iff {l : List TFile} (h : Asc l) (f : TFile) : difS l f = true ↔ f ∉ l := by
  unfold difS
  rcases idx_find l f.fPath with ⟨h1, h2, h3⟩ | ⟨j, h0, h1, h2, h3⟩
  · rw [h2]
    refine ⟨fun _ hf => ?_, fun _ => rfl⟩
    have := (has_iff l f.fPath).2 ⟨f, hf, rfl⟩
    rw [h3] at this; cases this
  · rw [h2]
    obtain ⟨hm, hp⟩ := find_path h2
    simp only [Option.elim, Bool.not_eq_true']
    constructor
    · intro he hf
      have := find_of_asc h hf
      rw [h2] at this
      have := Option.some.inj this
      rw [(eqF_iff _ _).2 this] at he; cases he
    · intro hf
      cases he : eqF (l.getD j dTFile) f with
      | false => rfl
      | true => rw [(eqF_iff _ _).1 he] at hm; exact absurd hm hf
/-- The paths that differ. -/
theorem dp_mem {a b : List TFile} (ha : Asc a) (hb : Asc b) (p : List UInt8) : p ∈ dp1 a b ++ dp2 a b ↔ (∃ f ∈ a, f ∉ b ∧ f.fPath = p) ∨ ∃ g ∈ b, g ∉ a ∧ g.fPath = p := by
  unfold dp1 dp2
  simp only [List.mem_append, List.mem_map, List.mem_filter, dif_iff hb, Bool.not_eq_true']
  constructor
  · rintro (⟨f, ⟨h1, h2⟩, h3⟩ | ⟨g, ⟨h1, h2⟩, h3⟩)
    · exact .inl ⟨f, h1, h2, h3⟩
    · refine .inr ⟨g, h1, fun hg => ?_, h3⟩
      have := (has_iff a g.fPath).2 ⟨g, hg, rfl⟩
      rw [h2] at this; cases this
  · rintro (⟨f, h1, h2, h3⟩ | ⟨g, h1, h2, h3⟩)
    · exact .inl ⟨f, ⟨h1, h2⟩, h3⟩
    · cases hh : hasS a g.fPath with
      | false => exact .inr ⟨g, ⟨h1, hh⟩, h3⟩
      | true =>
        obtain ⟨f, hf, e⟩ := (has_iff _ _).1 hh
        refine .inl ⟨f, ⟨hf, fun hfb => ?_⟩, by rw [e]; exact h3⟩
        have e1 := find_of_asc hb hfb
        have e2 := find_of_asc hb h1
        rw [e, e2] at e1
        have := Option.some.inj e1
        subst this
        exact h2 hf
theorem diff_same {a b : List TFile} (ha : Asc a) (hb : Asc b) : (all2 a b (all1 a b)).map (fun f => f.fPath) = sortK (dp1 a b ++ dp2 a b) := by
  obtain ⟨h1, h2⟩ := all1_spec (b := b) ha
  obtain ⟨h3, h4⟩ := all2_spec (a := a) (b := b) b (all1 a b) h1
  refine asc_ext (f := fun x => x) (by rw [List.pairwise_map]; exact h3) (sortK_srt (dp_nodup ha hb)) fun p => ?_
  rw [h4, (sortK_perm _).mem_iff, dp_mem ha hb]
  simp only [List.mem_map, h2, dif_iff hb, dif_iff ha]
  constructor
  · rintro (⟨f, ⟨q1, q2⟩, q3⟩ | ⟨g, q1, q2, q3⟩)
    · exact .inl ⟨f, q1, q2, q3⟩
    · exact .inr ⟨g, q1, q2, q3⟩
  · rintro (⟨f, q1, q2, q3⟩ | ⟨g, q1, q2, q3⟩)
    · exact .inl ⟨f, ⟨q1, q2⟩, q3⟩
    · exact .inr ⟨g, q1, q2, q3⟩

end Go.Proofs.YtmklhkmeampamaaGreatDoor
