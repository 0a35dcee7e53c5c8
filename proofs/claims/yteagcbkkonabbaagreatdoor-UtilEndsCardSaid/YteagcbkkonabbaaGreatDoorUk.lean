import Derived.Test.YteagcbkkonabbaaGreatDoorUh
import Derived.Test.YteagcbkkonabbaaGreatDoorUi
import Derived.Test.YteagcbkkonabbaaGreatDoorSo
import Derived.KernelRfl
namespace Go.Proofs.YteagcbkkonabbaaGreatDoor
open Go.RT
set_option linter.all false
set_option maxRecDepth 100000
abbrev so (S : List UInt8) : List (List UInt8) := sortK (lnB S)
theorem so_perm (S : List UInt8) : (so S).Perm (lnB S) := sortK_perm0 _
theorem joB_perm {l m : List (List UInt8)} (h : l.Perm m) : (joB l).length = (joB m).length := by
  rw [joB_len, joB_len]
  exact (h.map _).sum_nat
theorem comp_sub (l : List (List UInt8)) : (Lib.compact l).Sublist l := by
  unfold Lib.compact Lib.compactUpTo
  have h1 : ((List.range l.length).filter (Lib.keeps l.toArray)).Sublist (List.range l.length) := List.filter_sublist
  have h2 := h1.map (fun j => l.toArray[j]!)
  have h3 : (List.range l.length).map (fun j => l.toArray[j]!) = l := by
    apply List.ext_getElem
    · simp
    · intro i h1 h2
      simp at h1
      simp [h1]
  rw [h3] at h2
  exact h2
abbrev nmSort : List UInt8 := [115, 111, 114, 116]
def srt (u r : Bool) (S : List UInt8) : List (List UInt8) := cond r (cond u (Lib.compact (so S)) (so S)).reverse (cond u (Lib.compact (so S)) (so S))
theorem srt_jo (u r : Bool) (S : List UInt8) : (joB (srt u r S)).length ≤ S.length + 1 := by
  have h0 : (joB (cond u (Lib.compact (so S)) (so S))).length ≤ S.length + 1 := by
    have h1 : (joB (so S)).length ≤ S.length + 1 := by rw [joB_perm (so_perm S)]; exact (joB_ln S).1
    cases u
    · exact h1
    · exact Nat.le_trans (joB_sub (comp_sub _)) h1
  unfold srt
  cases r
  · exact h0
  · rw [cond_true, joB_perm (List.reverse_perm _)]; exact h0
structure SortW (args : List (List UInt8)) (w : Twords) (u r : Bool) : Prop where
  start : util_Start KB args [] = some (bu nmSort args 0 0 [] [] [], true)
  split : util_split KB nmSort (sl args 1 (args.length : Int)) = some w
  pos : 0 < args.length
  ok : okL args
  beg : ∀ a, adv KB a (bu nmSort args 0 0 [] [] [], w, br 0 0 0) = some (rq0, false, bu nmSort args 10 0 [] [] [], w, br 0 0 0, [])
  ops : w.foperands = []
  h117 : util_words_has KB w 117 = some u
  h110 : util_words_has KB w 110 = some false
  h114 : util_words_has KB w 114 = some r
abbrev nmRev : List UInt8 := [114, 101, 118]
def rvL (S : List UInt8) : List (List UInt8) := (lnB S).map List.reverse
theorem rvL_jo (S : List UInt8) : (joB (rvL S)).length ≤ S.length + 1 := by
  have : (joB (rvL S)).length = (joB (lnB S)).length := by
    rw [joB_len, joB_len]
    unfold rvL
    rw [List.map_map]
    congr 1
    apply List.map_congr_left
    intro p _
    simp
  rw [this]
  exact (joB_ln S).1
theorem joined1_eq (F : Nat) (l : List (List UInt8)) (hF : l.length < F) (h : (joB l).length ≤ 900000) : util_joined_1 F l = some (joB l, l) := by
  unfold util_joined_1
  have hl := len_joB l
  refine loopF_hoare (fun x => ∃ k : Nat, x.1 = (k : Int) ∧ k ≤ l.length ∧ x.2.2.1 = toInts (joB (l.take k)) ∧ x.2.2.2 = l) (fun x => l.length - x.1.toNat) ?_ F _ ⟨0, rfl, by omega, by simp [joB, toInts], rfl⟩ (by simp; omega)
  rintro ⟨ii, c, buf, l'⟩ ⟨k, h0, hk, ha, hl'⟩
  dsimp only at h0 ha hl' ⊢
  have hl2 := hl'.symm
  subst h0 hl2
  by_cases hk : k < l.length
  · left
    have hs := joB_take l k hk
    have hle : (joB (l.take (k + 1))).length ≤ (joB l).length := joB_sub (List.take_sublist _ _)
    have hbl : buf.length = (joB (l.take k)).length := by rw [ha, toInts, List.length_map]
    have hsl : (joB (l.take (k + 1))).length = (joB (l.take k)).length + (l[k].length + 1) := by rw [hs]; simp
    refine ⟨(((k + 1 : Nat) : Int), true, toInts (joB (l.take (k + 1))), l), ⟨k + 1, rfl, by omega, rfl, rfl⟩, by simp; omega, fun rc => ?_⟩
    rw [ct (by omega), rq_ix hk, Int.toNat_natCast, gd hk, bStr F _ c buf (by omega), Option.bind_some]
    dsimp only
    rw [bByte F _ _ _ (by simp only [List.length_append, toInts, List.length_map]; omega), Option.bind_some, w64s (by omega)]
    dsimp only
    rw [ha, hs]
    congr 3
    simp [toInts]
  · right
    obtain rfl : k = l.length := by omega
    intro rc
    rw [List.take_length] at ha
    subst ha
    have : (toInts (joB l)).length = (joB l).length := by rw [toInts, List.length_map]
    rw [cf (by omega)]
    unfold strings_Builder_String
    rw [rq_true (by rw [decide_eq_true rfl, byteOkTi, decide_eq_true (by omega)]; rfl), bytesRt]
    rfl
theorem set_rev (l : List (List UInt8)) (k : Nat) (hk : k < l.length) : ((l.take k).map List.reverse ++ l.drop k).set k (l[k].reverse) = (l.take (k + 1)).map List.reverse ++ l.drop (k + 1) := by
  have hl : ((l.take k).map List.reverse).length = k := by simp; omega
  rw [List.set_append_right _ _ (by omega), hl, Nat.sub_self, List.drop_eq_getElem_cons hk, List.set_cons_zero, List.take_succ_eq_append_getElem hk, List.map_append, List.append_assoc]
  rfl
abbrev nmTail : List UInt8 := [116, 97, 105, 108]
end Go.Proofs.YteagcbkkonabbaaGreatDoor
