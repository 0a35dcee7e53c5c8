import Derived.Test.YteagcbkkonabbaaGreatDoorUp
import Derived.Test.YteagcbkkonabbaaGreatDoorAw
namespace Go.Proofs.YteagcbkkonabbaaGreatDoor
open Go.RT
set_option linter.all false
def clsB (c : Int) : Bool := c != 0 && (c != 1 && c != 2)
def chR (r : TRun) : List Tchar := cond (clsB r.fClass) [] (r.fText.map fun b => Tchar.mk (b.toNat : Int) (r.fClass != 1))
theorem chR_len (r : TRun) : (chR r).length ≤ r.fText.length := by unfold chR; cases clsB r.fClass <;> simp
theorem fl_len {α : Type} (f : TRun → List α) (hf : ∀ r, (f r).length ≤ r.fText.length) : ∀ l : List TRun, (l.flatMap f).length ≤ szL l
  | [] => by simp
  | r :: l => by
    have := fl_len f hf l
    have := hf r
    simp only [List.flatMap_cons, List.length_append, szL, List.map_cons, List.sum_cons] at *
    omega
theorem szL_mem {l : List TRun} {r : TRun} (h : r ∈ l) : r.fText.length ≤ szL l := by
  induction l with
  | nil => cases h
  | cons a l ih =>
    rcases List.mem_cons.1 h with rfl | h
    · simp [szL]
    · have := ih h
      simp only [szL, List.map_cons, List.sum_cons] at *
      omega
theorem flat_take {α : Type} (f : TRun → List α) (l : List TRun) (k : Nat) (h : k < l.length) : (l.take (k + 1)).flatMap f = (l.take k).flatMap f ++ f l[k] := by
  rw [List.take_succ_eq_append_getElem h, List.flatMap_append]; simp
theorem cls_cond (c : Int) : (cond (c != 0) (some (c != 1)) (some false) : Option Bool) = some (c != 0 && c != 1) := by cases (c != 0) <;> rfl
theorem clsB_eq (c : Int) : cond (c != 0 && c != 1) (c != 2) false = clsB c := by unfold clsB; cases (c != 0) <;> cases (c != 1) <;> rfl
theorem chars_eq (F : Nat) (l : List TRun) (hF : l.length < F) (hF2 : szL l < F) (h1 : l.length < 1000000000) (h2 : szL l ≤ 1000000000) : pattern_chars F l = some (l.flatMap chR) := by
  unfold pattern_chars
  refine loopF_hoare (fun x => ∃ k : Nat, x.2 = (k : Int) ∧ k ≤ l.length ∧ x.1 = (l.take k).flatMap chR) (fun x => l.length - x.2.toNat) ?_ F _ ⟨0, rfl, by omega, by simp⟩ (by simp; omega)
  rintro ⟨acc, ii⟩ ⟨k, h0, hk, ha⟩
  dsimp only at h0 ha ⊢
  subst h0
  by_cases hk : k < l.length
  · left
    have hg : l.getD k dTRun = l[k] := gd hk
    have hm : l[k].fText.length ≤ szL l := szL_mem (List.getElem_mem hk)
    have hal : acc.length ≤ szL (l.take k) := by rw [ha]; exact fl_len _ chR_len _
    have hs := szL_take_succ l k hk
    have hle := szL_take_le l (k + 1)
    refine ⟨((l.take (k + 1)).flatMap chR, ((k + 1 : Nat) : Int)), ⟨k + 1, rfl, by omega, rfl⟩, by simp; omega, fun rc => ?_⟩
    rw [ct (by omega), rq_ix hk, Int.toNat_natCast, hg, cls_cond, Option.bind_some, w64s (by omega), flat_take _ _ _ hk, ← ha, cond_som, Option.bind_some, clsB_eq]
    unfold chR
    cases hc : clsB l[k].fClass with
    | true => rw [cond_true, cond_true, List.append_nil]
    | false =>
      rw [cond_false, cond_false]
      refine loopF_hoare (fun x => ∃ j : Nat, x.2 = (j : Int) ∧ j ≤ l[k].fText.length ∧ x.1 = acc ++ (l[k].fText.take j).map fun b => Tchar.mk (b.toNat : Int) (l[k].fClass != 1)) (fun x => l[k].fText.length - x.2.toNat) ?_ F _ ⟨0, rfl, by omega, by simp⟩ (by simp; omega)
      rintro ⟨a2, jj⟩ ⟨j, h0, hj, hb⟩
      dsimp only at h0 hb ⊢
      subst h0
      by_cases hj : j < l[k].fText.length
      · left
        refine ⟨(acc ++ (l[k].fText.take (j + 1)).map fun b => Tchar.mk (b.toNat : Int) (l[k].fClass != 1), ((j + 1 : Nat) : Int)), ⟨j + 1, rfl, by omega, rfl⟩, by simp; omega, fun rc2 => ?_⟩
        have hg2 : l[k].fText.getD j 0 = l[k].fText[j] := gd hj
        have hbl : a2.length ≤ acc.length + j := by rw [hb]; simp; omega
        rw [ct (by omega)]
        simp only [rq_ix hj]
        rw [Int.toNat_natCast, hg2, w64s (by omega), rq_cap (by simp; omega) (by omega), List.take_succ_eq_append_getElem hj, List.map_append, ← List.append_assoc, ← hb]
        rfl
      · right
        obtain rfl : j = l[k].fText.length := by omega
        intro rc2
        rw [cf (by omega), hb, List.take_length]
  · right
    obtain rfl : k = l.length := by omega
    intro rc
    rw [cf (by omega), ha, List.take_length]
def isC (x : List Tchar) (i : Nat) (b : Int) : Bool := decide (i < x.length) && ((x.getD i dTchar).factive && (x.getD i dTchar).fb == b)
theorem pis_eq (F : Nat) (x : List Tchar) (i : Nat) (b : Int) : pattern_is F x (i : Int) b = some (isC x i b) := by
  unfold pattern_is isC
  by_cases h : i < x.length
  · rw [ct (by omega), rq_ix h, Int.toNat_natCast, Option.bind_some, dT h]
    congr 1
    show ((x.getD i dTchar).fb == b && ((x.getD i dTchar).factive == true && true)) = (true && ((x.getD i dTchar).factive && (x.getD i dTchar).fb == b))
    cases (x.getD i dTchar).factive <;> cases ((x.getD i dTchar).fb == b) <;> rfl
  · rw [cf (by omega), dF h]; rfl
end Go.Proofs.YteagcbkkonabbaaGreatDoor
