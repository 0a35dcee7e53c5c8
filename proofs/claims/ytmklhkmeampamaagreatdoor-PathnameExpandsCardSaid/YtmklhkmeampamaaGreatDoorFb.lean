import Derived.Test.YtmklhkmeampamaaGreatDoorFa
import Derived.Lib.LastIndexByte
import Derived.KernelRfl
namespace Go.Proofs.YtmklhkmeampamaaGreatDoor
open Go.RT
set_option linter.all false
def cutS (s : List UInt8) : Nat := (Lib.lastIndexByte ⟨⟨s⟩⟩ 47).toNat
def parentS (s : List UInt8) : List UInt8 := cond (cutS s == 0) [47] (s.take (cutS s))
theorem data_at (l : List UInt8) (j : Nat) : ((Array.mk l)[j]!) = l.getD j 0 := by
  simp [List.getD, getElem!_def]
  cases l[j]? <;> rfl
theorem b47 (b : UInt8) : ((b.toNat : Int) = 47) ↔ b = 47 := by
  have := u8lit b 47 (by omega)
  rw [Bool.eq_iff_iff] at this
  simpa using this
theorem lib_spec (s : List UInt8) : (Lib.lastIndexByte ⟨⟨s⟩⟩ 47 = -1 ∧ ∀ j, j < s.length → s.getD j 0 ≠ 47) ∨
    ∃ i : Nat, i < s.length ∧ Lib.lastIndexByte ⟨⟨s⟩⟩ 47 = i ∧ s.getD i 0 = 47 ∧ ∀ j, i < j → j < s.length → s.getD j 0 ≠ 47 := by
  have h := Lib.lastIdx_spec ⟨⟨s⟩⟩ 47 s.length
  simp only [ne_eq, b47, data_at] at h
  exact h
theorem cut_unique (s : List UInt8) (a : Nat) (h1 : (a < s.length ∧ s.getD a 0 = 47) ∨ a = 0) (h2 : ∀ j, a < j → j < s.length → s.getD j 0 ≠ 47) : cutS s = a := by
  unfold cutS
  rcases lib_spec s with ⟨e, h⟩ | ⟨i, hi, e, h3, h4⟩
  · rw [e]
    rcases h1 with ⟨h5, h6⟩ | h5
    · exact absurd h6 (h a h5)
    · subst h5; rfl
  · rw [e]
    have : i = a := by
      rcases Nat.lt_trichotomy a i with q | q | q
      · exact absurd h3 (h2 i q hi)
      · exact q.symm
      · rcases h1 with ⟨h5, h6⟩ | h5
        · exact absurd h6 (h4 a q h5)
        · omega
    omega
theorem cut_spec (s : List UInt8) : ((cutS s < s.length ∧ s.getD (cutS s) 0 = 47) ∨ cutS s = 0) ∧ ∀ j, cutS s < j → j < s.length → s.getD j 0 ≠ 47 := by
  unfold cutS
  rcases lib_spec s with ⟨e, h⟩ | ⟨i, hi, e, h3, h4⟩
  · rw [e]; exact ⟨.inr rfl, fun j _ hj => h j hj⟩
  · rw [e]; exact ⟨.inl ⟨hi, h3⟩, fun j h h' => h4 j (by omega) h'⟩
theorem cut_le (s : List UInt8) : cutS s ≤ s.length := by
  rcases (cut_spec s).1 with h | h <;> omega
theorem ref_cut (F : Nat) (s : List UInt8) (hF : s.length < F) (hs : s.length < 1000000000) : ref19_cut F s = some (cutS s : Int) := by
  unfold ref19_cut
  refine loopF_hoare (fun x => ∃ a k : Nat, x.1 = (a : Int) ∧ x.2 = (k : Int) ∧ k ≤ s.length ∧ ((a < k ∧ s.getD a 0 = 47) ∨ a = 0) ∧ ∀ j, a < j → j < k → s.getD j 0 ≠ 47) (fun x => s.length - x.2.toNat) ?_ F _ ⟨0, 0, rfl, rfl, by omega, .inr rfl, fun j _ hj => by omega⟩ (by simpa using hF)
  rintro ⟨aa, ii⟩ ⟨a, k, h0, h0', h1, h2, h3⟩
  dsimp only at h0 h0' ⊢
  subst h0 h0'
  by_cases hk : k < s.length
  · left
    have hg : s.getD k 0 = s[k] := gd hk
    cases hb : (s[k] == 47) with
    | true =>
      refine ⟨((k : Int), ((k + 1 : Nat) : Int)), ⟨k, k + 1, rfl, rfl, by omega, .inl ⟨by omega, by rw [hg]; exact eq_of_beq hb⟩, fun j h h' => by omega⟩, by simp; omega, fun rc => ?_⟩
      rw [ct (by omega), rq2 (by omega) (by omega), Int.toNat_natCast, hg, u8lit _ 47 (by omega), hb, cond_true, w64s (by omega)]
    | false =>
      have hb' : s.getD k 0 ≠ 47 := by rw [hg]; simpa using hb
      refine ⟨((a : Int), ((k + 1 : Nat) : Int)), ⟨a, k + 1, rfl, rfl, by omega, ?_, fun j h h' => ?_⟩, by simp; omega, fun rc => ?_⟩
      · rcases h2 with h2 | h2
        · exact .inl ⟨by omega, h2.2⟩
        · exact .inr h2
      · by_cases e : j = k
        · subst e; exact hb'
        · exact h3 j h (by omega)
      · rw [ct (by omega), rq2 (by omega) (by omega), Int.toNat_natCast, hg, u8lit _ 47 (by omega), hb, cond_false, w64s (by omega)]
  · right
    obtain rfl : k = s.length := by omega
    intro rc
    rw [cf (by omega), cut_unique s a h2 h3]
theorem ref_parent (F : Nat) (s : List UInt8) (hF : s.length < F) (hs : s.length < 1000000000) : ref19_Parent F s = some (parentS s) := by
  unfold ref19_Parent parentS
  rw [ref_cut F s hF hs, Option.bind_some]
  have := cut_le s
  by_cases h : cutS s = 0
  · rw [h]; rfl
  · have e1 : ((cutS s : Int) == 0) = false := by simpa using h
    have e2 : (cutS s == 0) = false := by simpa using h
    rw [e1, e2, cond_false, cond_false, rq2 (by omega) (by omega), sl_zero]
theorem ref_base (F : Nat) (s : List UInt8) (hF : s.length < F) (hs : s.length < 1000000000) (h0 : cutS s < s.length) : ref19_Base F s = some (s.drop (cutS s + 1)) := by
  unfold ref19_Base
  rw [ref_cut F s hF hs, Option.bind_some, w64s (by omega), rq3 (by omega) (by omega) (by omega), sl_full]
theorem lib_eq (F : Nat) (s : List UInt8) (hs : s.length < 1000000000) : libF F s 47 = some (Lib.lastIndexByte ⟨⟨s⟩⟩ 47) := by
  unfold libF
  rw [rq1 (by omega)]
theorem parent_eq (F : Nat) (s : List UInt8) (hs : s.length < 1000000000) : files_parent F s = some (parentS s) := by
  unfold files_parent parentS
  rw [lib_eq F s hs, Option.bind_some]
  have hc := cut_le s
  unfold cutS at *
  rcases lib_spec s with ⟨e, h⟩ | ⟨i, hi, e, h3, h4⟩
  · rw [e]; rfl
  · rw [e] at hc ⊢
    by_cases h : i = 0
    · subst h; rfl
    · have e2 : (((i : Int).toNat) == 0) = false := by simpa using h
      rw [cf (by omega), rq2 (by omega) (by omega), e2, cond_false, sl_zero]
      rfl
def isP (p : List UInt8) (f : TFile) : Bool := f.fPath == p
def findS (l : List TFile) (p : List UInt8) : Option TFile := l.find? (isP p)
def hasS (l : List TFile) (p : List UInt8) : Bool := l.any (isP p)
theorem find_eq (F : Nat) (l : List TFile) (p : List UInt8) (hF : l.length < F) (hl : l.length < 1000000000) : files_Find F l p = some ((findS l p).elim (TFile.mk [] false [], false) fun f => (f, true)) := by
  unfold files_Find
  rw [loopF_srch l (fun i => (i : Int)) (isP p) (fun _ f => some (f, true)) (some (TFile.mk [] false [], false)) hF (by rfl) (fun i h rc => ?_) (fun rc => ?_), srch_find]
  · unfold findS
    cases l.find? (isP p) <;> rfl
  · rw [ct (by omega), rq2 (by omega) (by omega), Int.toNat_natCast, gd h, w64s (by omega)]
    rfl
  · rw [cf (by omega)]
def fiS (l : List TFile) (p : List UInt8) : Int := (l.findIdx? (isP p)).elim (-1) fun j => (j : Int)
theorem ref_find (F : Nat) (l : List TFile) (p : List UInt8) (hF : l.length < F) (hl : l.length < 1000000000) : ref19_find F l p = some (fiS l p) := by
  unfold ref19_find fiS
  rw [loopF_srch l (fun i => (i : Int)) (isP p) (fun i _ => some (i : Int)) (some (-1)) hF (by rfl) (fun i h rc => ?_) (fun rc => ?_), srch_idx _ _ _ dTFile]
  · cases l.findIdx? (isP p) <;> simp
  · rw [ct (by omega), rq2 (by omega) (by omega), Int.toNat_natCast, gd h, w64s (by omega)]
    rfl
  · rw [cf (by omega)]
theorem idx_find0 (l : List TFile) (p : List UInt8) : (l.findIdx? (isP p) = none ∧ findS l p = none ∧ hasS l p = false) ∨ ∃ j, j < l.length ∧ l.findIdx? (isP p) = some j ∧ findS l p = some (l.getD j dTFile) ∧ hasS l p = true := by
  unfold findS hasS
  induction l with
  | nil => exact .inl ⟨rfl, rfl, rfl⟩
  | cons f l ih =>
    rw [List.findIdx?_cons, List.find?_cons, List.any_cons]
    cases h : isP p f with
    | true => exact .inr ⟨0, by simp, by simp, by simp, rfl⟩
    | false =>
      rcases ih with ⟨h1, h2, h3⟩ | ⟨j, h0, h1, h2, h3⟩
      · exact .inl ⟨by simp [h1], h2, by simp [h3]⟩
      · exact .inr ⟨j + 1, by simpa using h0, by simp [h1], by simpa using h2, by simp [h3]⟩
theorem idx_find (l : List TFile) (p : List UInt8) : (fiS l p = -1 ∧ findS l p = none ∧ hasS l p = false) ∨ ∃ j : Nat, j < l.length ∧ fiS l p = (j : Int) ∧ findS l p = some (l.getD j dTFile) ∧ hasS l p = true := by
  unfold fiS
  rcases idx_find0 l p with ⟨h1, h2, h3⟩ | ⟨j, h0, h1, h2, h3⟩
  · rw [h1]; exact .inl ⟨rfl, h2, h3⟩
  · rw [h1]; exact .inr ⟨j, h0, rfl, h2, h3⟩
theorem ref_Find (F : Nat) (l : List TFile) (p : List UInt8) (hF : l.length < F) (hl : l.length < 1000000000) : ref19_Find F l p = some ((findS l p).elim (TFile.mk [] false [], false) fun f => (f, true)) := by
  unfold ref19_Find
  rw [ref_find F l p hF hl, Option.bind_some]
  rcases idx_find l p with ⟨h1, h2, -⟩ | ⟨j, h0, h1, h2, -⟩
  · rw [h1, h2]; rfl
  · rw [h1, h2, cf (by omega), rq2 (by omega) (by omega)]
    rfl
def aboveS (a p : List UInt8) : Bool := cond (a == [47]) (!(p == [47])) (decide (a.length + 1 ≤ p.length) && p.take (a.length + 1) == a ++ [47])
theorem ref_above (F : Nat) (a p : List UInt8) : ref19_Above F a p = some (aboveS a p) := by
  unfold ref19_Above aboveS
  cases (a == [47])
  · rw [cond_false, cond_false]
    by_cases h : a.length + 1 ≤ p.length
    · have hl : a.length < p.length := by omega
      rw [ct (by omega), rq2 (by omega) (by omega), sl_zero, Option.bind_some, dT h, Bool.true_and]
      have e : (p.take (a.length + 1) == a ++ [47]) = (p.take a.length == a && p.getD a.length 0 == 47) := by
        rw [Bool.eq_iff_iff, List.take_succ_eq_append_getElem hl, gd hl]
        simp only [beq_iff_eq, Bool.and_eq_true]
        constructor
        · intro h
          have := List.append_inj h (by simp; omega)
          exact ⟨this.1, by simpa using this.2⟩
        · rintro ⟨h1, h2⟩
          rw [h1, h2]
      rw [e]
      cases (p.take a.length == a)
      · rfl
      · rw [cond_true, rq2 (by omega) (by omega), Int.toNat_natCast, u8lit _ 47 (by omega)]
        rfl
    · rw [cf (by omega), dF h]
      rfl
  · rfl
def perrS (l : List TFile) (p : List UInt8) : Int := cond (l.any fun f => !f.fDir && aboveS f.fPath p) 18 (cond (hasS l (parentS p)) 0 8)
theorem ref_perr (F : Nat) (l : List TFile) (p : List UInt8) (hF : l.length < F) (hl : l.length < 1000000000) (hp : p.length < 1000000000) (hpF : p.length < F) : ref19_parent F l p = some (perrS l p) := by
  unfold ref19_parent
  rw [loopF_srch l (fun i => (i : Int)) (fun f => !f.fDir && aboveS f.fPath p) (fun _ _ => some 18) (some (cond (hasS l (parentS p)) 0 8)) hF (by rfl) (fun i h rc => ?_) (fun rc => ?_), srch_any, cond_som]
  · rfl
  · rw [ct (by omega), rq2 (by omega) (by omega), rq2 (by omega) (by omega), Int.toNat_natCast, gd h, ref_above F _ _, w64s (by omega)]
    simp only [Option.bind_some, cond_som, cF]
  · rw [cf (by omega), ref_parent F p hpF hp, Option.bind_some, ref_find F l _ hF hl, Option.bind_some]
    rcases idx_find l (parentS p) with ⟨h1, h2, h3⟩ | ⟨j, h0, h1, h2, h3⟩
    · rw [h1, h3]; rfl
    · rw [h1, h3, cf (by omega)]
      rfl
def vst (l : List TFile) (k : Nat) : Int :=
  cond (!pathS (l.getD k dTFile).fPath) 10
  (cond (((l.getD k dTFile).fDir && !((l.getD k dTFile).fData == [])) || ((l.getD k dTFile).fPath == [47] && !(l.getD k dTFile).fDir)) 1
  (cond (decide (8192 < (l.getD k dTFile).fData.length)) 3
  (cond (decide (0 < k) && (Op.bytesLess (l.getD k dTFile).fPath (l.getD (k - 1) dTFile).fPath || (l.getD k dTFile).fPath == (l.getD (k - 1) dTFile).fPath)) 25
  (cond (decide (0 < k)) (perrS (l.take k) (l.getD k dTFile).fPath) 0))))
def vgo (l : List TFile) : Nat → Nat → Int
  | 0, _ => 0
  | n + 1, k => cond (vst l k == 0) (vgo l n (k + 1)) (vst l k)
def validS (l : List TFile) : Int := cond (decide (128 < l.length)) 4 (cond (l.length == 0 || !((l.getD 0 dTFile).fPath == [47])) 8 (vgo l l.length 0))
def SmallL (l : List TFile) : Prop := l.length ≤ 140 ∧ ∀ f ∈ l, f.fPath.length ≤ 300 ∧ f.fData.length ≤ 9000
theorem SmallL.at {l : List TFile} (h : SmallL l) (k : Nat) : (l.getD k dTFile).fPath.length ≤ 300 ∧ (l.getD k dTFile).fData.length ≤ 9000 := by
  by_cases hk : k < l.length
  · rw [gd hk]; exact h.2 _ (List.getElem_mem hk)
  · have : l.getD k dTFile = dTFile := by simp [List.getD, List.getElem?_eq_none (Nat.le_of_not_lt hk)]
    rw [this]; exact ⟨by decide, by decide⟩
theorem head8 (l : List TFile) : (cond ((l.length : Int) == 0)
 (some true)
 (rq (decide (0 < (l.length : Int))) (some (!(((l.getD 0 dTFile).fPath) == ([47] : List UInt8))))) : Option Bool) = some (l.length == 0 || !((l.getD 0 dTFile).fPath == [47])) := by
  cases l with
  | nil => rfl
  | cons f l =>
    have e1 : ((((f :: l).length : Nat) : Int) == 0) = false := by simp; omega
    have e2 : ((f :: l).length == 0) = false := by simp
    rw [e1, e2, cond_false, rq1 (by simp)]
    rfl
theorem vst_cond (l : List TFile) (k : Nat) (r : Option Int) : cond (!pathS (l.getD k dTFile).fPath) (some 10)
  (cond (((l.getD k dTFile).fDir && !((l.getD k dTFile).fData == [])) || ((l.getD k dTFile).fPath == [47] && !(l.getD k dTFile).fDir)) (some 1)
  (cond (decide (8192 < (l.getD k dTFile).fData.length)) (some 3)
  (cond (decide (0 < k) && (Op.bytesLess (l.getD k dTFile).fPath (l.getD (k - 1) dTFile).fPath || (l.getD k dTFile).fPath == (l.getD (k - 1) dTFile).fPath)) (some 25)
  (cond (decide (0 < k)) (cond (perrS (l.take k) (l.getD k dTFile).fPath != 0) (some (perrS (l.take k) (l.getD k dTFile).fPath)) r) r)))) = cond (vst l k == 0) r (some (vst l k)) := by
  unfold vst
  cases (!pathS (l.getD k dTFile).fPath)
  · cases (((l.getD k dTFile).fDir && !((l.getD k dTFile).fData == [])) || ((l.getD k dTFile).fPath == [47] && !(l.getD k dTFile).fDir))
    · cases (decide (8192 < (l.getD k dTFile).fData.length))
      · cases (decide (0 < k) && (Op.bytesLess (l.getD k dTFile).fPath (l.getD (k - 1) dTFile).fPath || (l.getD k dTFile).fPath == (l.getD (k - 1) dTFile).fPath))
        · cases (decide (0 < k))
          · rfl
          · simp only [cond_false, cond_true]
            cases h : (perrS (l.take k) (l.getD k dTFile).fPath == 0)
            · simp only [bne, h]; rfl
            · simp only [bne, h]; rfl
        · rfl
      · rfl
    · rfl
  · rfl
theorem vloop {l : List TFile} {body : (Int → Option Int) → Int → Option Int} (F : Nat) (hF : l.length < F) (hs : ∀ (k : Nat) rc, k < l.length → body rc (k : Int) = cond (vst l k == 0) (rc ((k + 1 : Nat) : Int)) (some (vst l k))) (he : ∀ rc, body rc (l.length : Int) = some 0) : loopF body F 0 = some (vgo l l.length 0) := by
  refine loopF_hoare (fun x => ∃ k n : Nat, x = (k : Int) ∧ k + n = l.length ∧ vgo l n k = vgo l l.length 0) (fun x => l.length - x.toNat) ?_ F _ ⟨0, l.length, rfl, by omega, rfl⟩ (by simpa using hF)
  rintro x ⟨k, n, rfl, h1, h2⟩
  cases n with
  | zero =>
    right
    obtain rfl : k = l.length := by omega
    intro rc
    rw [he, ← h2]; rfl
  | succ n =>
    rw [vgo] at h2
    cases hv : (vst l k == 0) with
    | true =>
      left
      rw [hv, cond_true] at h2
      exact ⟨_, ⟨k + 1, n, rfl, by omega, h2⟩, by simp; omega, fun rc => by rw [hs k rc (by omega), hv]; rfl⟩
    | false =>
      right
      rw [hv, cond_false] at h2
      intro rc
      rw [hs k rc (by omega), hv, cond_false, h2]
theorem ord_eq (l : List TFile) (k : Nat) (hk : k < l.length) (hl : l.length < 1000000000) : (cond (decide (0 < (k : Int)))
 (rq ((decide (0 ≤ w64 ((k : Int) - 1))) && (decide (w64 ((k : Int) - 1) < (l.length : Int)))) (some (Op.bytesLess ((l.getD k dTFile).fPath) ((l.getD (Int.toNat (w64 ((k : Int) - 1))) dTFile).fPath) || ((l.getD k dTFile).fPath) == ((l.getD (Int.toNat (w64 ((k : Int) - 1))) dTFile).fPath))))
 (some false) : Option Bool) = some (decide (0 < k) && (Op.bytesLess (l.getD k dTFile).fPath (l.getD (k - 1) dTFile).fPath || (l.getD k dTFile).fPath == (l.getD (k - 1) dTFile).fPath)) := by
  by_cases h0 : 0 < k
  · rw [ct (by omega), w64p (by omega) h0, rq2 (by omega) (by omega), Int.toNat_natCast, dT h0, Bool.true_and]
  · rw [cf (by omega), dF h0, Bool.false_and]
theorem dpos (k : Nat) : decide (0 < (k : Int)) = decide (0 < k) := by
  rw [Bool.eq_iff_iff]; simp only [decide_eq_true_eq]; omega
theorem dbig (n k : Nat) : decide ((k : Int) < (n : Int)) = decide (k < n) := by
  rw [Bool.eq_iff_iff]; simp only [decide_eq_true_eq]; omega
theorem ref_valid (F : Nat) (l : List TFile) (hF : 400 ≤ F) (h : SmallL l) : ref19_Valid F l = some (validS l) := by
  have hl := h.1
  unfold ref19_Valid validS
  rw [show decide (128 < (l.length : Int)) = decide (128 < l.length) from dbig _ 128, head8, Option.bind_some]
  cases decide (128 < l.length) with
  | true => rfl
  | false =>
    rw [cond_false, cond_false]
    cases (l.length == 0 || !((l.getD 0 dTFile).fPath == [47])) with
    | true => rfl
    | false =>
      rw [cond_false, cond_false]
      refine vloop F (by omega) (fun k rc hk => ?_) (fun rc => ?_)
      · rw [ct (by omega), rq2 (by omega) (by omega), Int.toNat_natCast, ref_path F _ (by omega), Option.bind_some, ord_eq l k hk (by omega), Option.bind_some]
        simp only [cond_som, cF, Option.bind_some, cT]
        rw [show decide (8192 < (((l.getD k dTFile).fData.length : Nat) : Int)) = decide (8192 < (l.getD k dTFile).fData.length) from dbig _ 8192, dpos, rq2 (by omega) (by omega), sl_zero]
        have := (h.at k).1
        rw [ref_perr F (l.take k) _ (by simp; omega) (by simp; omega) (by omega) (by omega), Option.bind_some, w64s (by omega), ← vst_cond]
      · rw [cf (by omega)]
theorem small_eq (F : Nat) (l : List TFile) (hF : 200 ≤ F) : ∃ b, (b = true → SmallL l) ∧ ref19_Small F l = some b := by
  unfold ref19_Small
  refine loopF_post (fun b => b = true → SmallL l) (fun x => ∃ n k : Nat, x.1 = (n : Int) ∧ x.2 = (k : Int) ∧ k ≤ l.length ∧ k ≤ 140 ∧ n ≤ 10000 * k ∧ ∀ f ∈ l.take k, f.fPath.length ≤ 300 ∧ f.fData.length ≤ 9000) (fun x => 140 - x.2.toNat) ?_ F _ ⟨0, 0, rfl, rfl, by omega, by omega, by omega, by simp⟩ (by simp; omega)
  rintro ⟨nn, ii⟩ ⟨n, k, h0, h0', h1, h2, h3, h4⟩
  dsimp only at h0 h0' ⊢
  subst h0 h0'
  simp only [cond_som, cF, Option.bind_some]
  by_cases hc : k < l.length ∧ k < 140 ∧ n < 40000
  · have hk := hc.1
    have e : ((decide ((k : Int) < (l.length : Int)) && decide ((k : Int) < 140)) && decide ((n : Int) < 40000)) = true := by
      rw [dT (by omega), dT (by omega), dT (by omega)]; rfl
    rw [e]
    simp only [cond_true, Int.toNat_natCast, gd hk]
    by_cases hb : l[k].fPath.length ≤ 300 ∧ l[k].fData.length ≤ 9000
    · left
      refine ⟨(((n + l[k].fPath.length + l[k].fData.length : Nat) : Int), ((k + 1 : Nat) : Int)), ⟨_, k + 1, rfl, rfl, by omega, by omega, by omega, fun f hf => ?_⟩, by simp; omega, fun rc => ?_⟩
      · rw [List.take_succ_eq_append_getElem hk] at hf
        rcases List.mem_append.1 hf with hf | hf
        · exact h4 f hf
        · simp only [List.mem_singleton] at hf; subst hf; exact hb
      · rw [rq2 (by omega) (by omega), cf (by omega), rq2 (by omega) (by omega), dF (by omega), Option.bind_some, cond_false, w64s (by omega)]
        rw [w64_in (x := (n : Int) + _) (by omega), w64_in (by omega), rq2 (by omega) (by omega), rq2 (by omega) (by omega)]
        congr 2
    · right
      refine ⟨false, fun h => (by cases h), fun rc => ?_⟩
      rw [rq2 (by omega) (by omega)]
      by_cases hp : l[k].fPath.length ≤ 300
      · rw [cf (by omega), rq2 (by omega) (by omega), dT (by omega)]; rfl
      · rw [ct (by omega)]; rfl
  · have e : ((decide ((k : Int) < (l.length : Int)) && decide ((k : Int) < 140)) && decide ((n : Int) < 40000)) = false := by
      rw [Bool.and_eq_false_iff, Bool.and_eq_false_iff]; simp only [decide_eq_false_iff_not]; omega
    right
    rw [e]
    simp only [cond_false]
    refine ⟨_, fun h => ?_, fun rc => rfl⟩
    simp only [Bool.and_eq_true, decide_eq_true_eq] at h
    refine ⟨by omega, fun f hf => h4 f ?_⟩
    rw [List.take_of_length_le (by omega)]
    exact hf
theorem sortK_id {l : List (List UInt8)} (h : l.Pairwise (· < ·)) : sortK l = l := by
  have hn : l.Nodup := h.imp fun {a b} hab e => by subst e; exact lt_irrefl' _ hab
  exact asc_ext (f := fun x => x) (sortK_srt hn) h fun x => (sortK_perm l).mem_iff
set_option maxRecDepth 100000
theorem w1 : files_Clean 60 [47, 97, 47, 98] [46, 46, 47, 99, 47, 46, 47, 100, 47] = some ([47, 97, 47, 99, 47, 100], 0) := by kernel_rfl
theorem w2 : files_Clean 60 [47] [46, 46] = some ([47], 0) := by kernel_rfl
end Go.Proofs.YtmklhkmeampamaaGreatDoor
