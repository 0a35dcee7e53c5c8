import Derived.Test.YteagcbkkonabbaaGreatDoorUb
namespace Go.Proofs.YteagcbkkonabbaaGreatDoor
open Go.RT
set_option linter.all false
set_option maxRecDepth 100000
def splL : List UInt8 → List (List UInt8)
  | [] => [[]]
  | b :: l => cond (b == 10) ([] :: splL l) (match splL l with | [] => [[b]] | p :: ps => (b :: p) :: ps)
theorem splL_ne : ∀ l, splL l ≠ []
  | [] => by simp [splL]
  | b :: l => by
    unfold splL
    cases (b == 10)
    · simp only [cond_false]; split <;> simp
    · simp
theorem splitK_lines : ∀ (l : List UInt8), Lib.splitK [10] 0 (l.count 10) l = splL l
  | [] => rfl
  | b :: l => by
    have ih := splitK_lines l
    by_cases hb : b = 10
    · subst hb
      have hc : ((10 : UInt8) :: l).count 10 = l.count 10 + 1 := by simp
      have hi : Lib.index ((10 : UInt8) :: l) [10] = 0 := by rw [Lib.index_one]; simp [Lib.indexByte]
      rw [hc, Lib.splitK, hi]
      simp only [show ((0 : Int) == -1) = false from rfl]
      simp [splL, ih]
    · have hbb : (b == 10) = false := by simpa using hb
      have hc : (b :: l).count 10 = l.count 10 := by simp [List.count_cons, hbb]
      have hi : Lib.index (b :: l) [10] = if Lib.index l [10] == -1 then -1 else Lib.index l [10] + 1 := by
        rw [Lib.index_one, Lib.index_one, Lib.indexByte]
        simp [hb]
      rw [hc]
      unfold splL
      rw [hbb, cond_false, ← ih]
      cases hk : l.count 10 with
      | zero => simp [Lib.splitK]
      | succ k =>
        rw [Lib.splitK, Lib.splitK, hi]
        by_cases hm : Lib.index l [10] = -1
        · rw [hm]; simp
        · have hge : 0 ≤ Lib.index l [10] := by
            have := Lib.indexByte_ge l 10
            rw [Lib.index_one] at hm ⊢
            omega
          have e1 : (Lib.index l [10] == -1) = false := by simpa using hm
          have e2 : ((Lib.index l [10] + 1) == -1) = false := by simp; omega
          have e3 : (Lib.index l [10] + 1).toNat = (Lib.index l [10]).toNat + 1 := by omega
          rw [e1]
          simp only [Bool.false_eq_true, if_false]
          rw [e2]
          simp only [Bool.false_eq_true, if_false, e3, Nat.add_zero, List.length_singleton]
          rw [List.take_succ_cons, show (Lib.index l [10]).toNat + 1 + 1 = ((Lib.index l [10]).toNat + 1) + 1 from rfl, List.drop_succ_cons]
theorem spl_eq (F : Nat) (s : List UInt8) (h : s.length < 4294967281) : splitF F s [10] = some (splL s) := by
  unfold splitF
  rw [rq_true (by rw [decide_eq_true h]; rfl), Lib.splitB_data]
  congr 1
  rw [← splitK_lines]
  congr 1
  show Lib.countB _ _ = _
  unfold Lib.countB
  exact Lib.count_one 10 s
def lnB : List UInt8 → List (List UInt8)
  | [] => []
  | b :: l => cond (b == 10) ([] :: lnB l) (match lnB l with | [] => [[b]] | p :: ps => (b :: p) :: ps)
theorem spl_ln : ∀ l, (splL l = lnB l ++ [[]]) ∨ (splL l = lnB l ∧ ∃ ps p, lnB l = ps ++ [p] ∧ p ≠ [])
  | [] => .inl rfl
  | b :: l => by
    have ih := spl_ln l
    unfold splL lnB
    cases hb : (b == 10)
    · simp only [cond_false]
      rcases ih with h | ⟨h, ps, p, hp, hne⟩
      · rw [h]
        cases hl : lnB l with
        | nil => right; exact ⟨rfl, [], [b], rfl, by simp⟩
        | cons q qs => left; rfl
      · rw [h]
        cases ps with
        | nil => rw [hp]; right; exact ⟨rfl, [], b :: p, rfl, by simp⟩
        | cons q qs => rw [hp]; right; exact ⟨rfl, (b :: q) :: qs, p, rfl, hne⟩
    · simp only [cond_true]
      rcases ih with h | ⟨h, ps, p, hp, hne⟩
      · left; rw [h]; rfl
      · right; exact ⟨by rw [h], [] :: ps, p, by rw [hp]; rfl, hne⟩
theorem splL_len : ∀ l, (splL l).length ≤ l.length + 1
  | [] => Nat.le_refl _
  | b :: l => by
    have ih := splL_len l
    unfold splL
    cases (b == 10)
    · simp only [cond_false]; split
      · simp
      · rename_i h; rw [h] at ih; simp only [List.length_cons] at ih ⊢; omega
    · simp only [cond_true, List.length_cons]; omega
theorem lines_eq (F : Nat) (s : List UInt8) (h : s.length ≤ 1000000) : util_lines F s = some (lnB s) := by
  unfold util_lines
  rw [spl_eq F s (by omega), Option.bind_some]
  have hl := splL_len s
  have hpos : 0 < (splL s).length := by
    cases hs : splL s with
    | nil => exact absurd hs (splL_ne s)
    | cons _ _ => simp
  have e1 : w64 (((splL s).length : Int) - 1) = (((splL s).length - 1 : Nat) : Int) := by rw [w64_in (by omega)]; omega
  rw [e1, rq2 (by omega) (by omega), Int.toNat_natCast]
  rcases spl_ln s with h1 | ⟨h1, ps, p, hp, hne⟩
  · have e2 : (splL s).getD ((splL s).length - 1) [] = [] := by rw [h1]; simp [List.getD]
    rw [e2, show (([] : List UInt8) == []) = true from rfl, cond_true, rq2 (by omega) (by omega)]
    congr 1
    rw [h1]
    simp
  · have e2 : (splL s).getD ((splL s).length - 1) [] = p := by rw [h1, hp]; simp [List.getD]
    have e3 : (p == []) = false := by cases p with | nil => exact absurd rfl hne | cons _ _ => rfl
    rw [e2, e3, cond_false, h1]
def joB (l : List (List UInt8)) : List UInt8 := l.flatMap fun p => p ++ [10]
theorem joB_len : ∀ (l : List (List UInt8)), (joB l).length = (l.map fun p => p.length + 1).sum
  | [] => rfl
  | p :: l => by
    have := joB_len l
    unfold joB at *
    simp only [List.flatMap_cons, List.length_append, List.map_cons, List.sum_cons, List.length_cons, List.length_nil]
    omega
theorem joB_ln : ∀ (s : List UInt8), (joB (lnB s)).length ≤ s.length + 1 ∧ (lnB s ≠ [] → (joB (lnB s)).length ≤ s.length + 1)
  | [] => ⟨by decide, fun _ => by decide⟩
  | b :: l => by
    have ih := (joB_ln l).1
    have key : (joB (lnB (b :: l))).length ≤ (b :: l).length + 1 := by
      unfold lnB
      cases hb : (b == 10)
      · simp only [cond_false]
        split
        · rename_i hl
          simp [joB]
        · rename_i q qs hq
          rw [hq] at ih
          rw [joB_len] at ih ⊢
          simp only [List.map_cons, List.sum_cons, List.length_cons] at ih ⊢
          omega
      · simp only [cond_true]
        rw [joB_len] at ih ⊢
        simp only [List.map_cons, List.sum_cons, List.length_cons, List.length_nil] at ih ⊢
        omega
    exact ⟨key, fun _ => key⟩
theorem joB_sub {l m : List (List UInt8)} (h : l.Sublist m) : (joB l).length ≤ (joB m).length := by
  induction h with
  | slnil => exact Nat.le_refl _
  | cons a h ih => rw [joB_len] at *; rw [joB_len] at *; simp only [List.map_cons, List.sum_cons]; omega
  | cons_cons a h ih => rw [joB_len] at *; rw [joB_len] at *; simp only [List.map_cons, List.sum_cons]; omega
theorem len_joB (l : List (List UInt8)) : l.length ≤ (joB l).length := by
  induction l with
  | nil => exact Nat.le_refl _
  | cons p l ih => rw [joB_len] at *; simp only [List.map_cons, List.sum_cons, List.length_cons]; omega
theorem lnB_mem_len {s p : List UInt8} (h : p ∈ lnB s) : p.length ≤ s.length := by
  have h1 := joB_sub (List.singleton_sublist.2 h)
  have h2 := (joB_ln s).1
  have h3 : (joB [p]).length = p.length + 1 := by simp [joB]
  omega
theorem lnB_len (s : List UInt8) : (lnB s).length ≤ s.length + 1 := Nat.le_trans (len_joB _) (joB_ln s).1
theorem bytesRt (s : List UInt8) : toBytes (toInts s) = s := by
  unfold toBytes toInts
  rw [List.map_map]
  conv => rhs; rw [← List.map_id s]
  apply List.map_congr_left
  intro b _
  simp
theorem byteOkTi (s : List UInt8) : byteOk (toInts s) = true := by
  unfold byteOk toInts
  rw [List.all_eq_true]
  intro x hx
  obtain ⟨b, -, rfl⟩ := List.mem_map.1 hx
  have := b.toNat_lt
  simp
  omega
theorem bStr (F : Nat) (s : List UInt8) (c : Bool) (buf : List Int) (h : buf.length + s.length ≤ 1000000) : strings_Builder_WriteString F s c buf = some ((s.length : Int), true, buf ++ toInts s) := by
  unfold strings_Builder_WriteString
  rw [show strings_Builder_copyCheck F c buf = some (true, buf) by cases c <;> rfl, Option.bind_some, rq_cap (by simp [toInts]; omega) (by omega)]
theorem bByte (F : Nat) (b : Int) (c : Bool) (buf : List Int) (h : buf.length ≤ 1000000) : strings_Builder_WriteByte F b c buf = some (true, buf ++ [b]) := by
  unfold strings_Builder_WriteByte
  rw [show strings_Builder_copyCheck F c buf = some (true, buf) by cases c <;> rfl, Option.bind_some, rq_cap (by simp; omega) (by omega)]
theorem joB_take (l : List (List UInt8)) (k : Nat) (hk : k < l.length) : joB (l.take (k + 1)) = joB (l.take k) ++ (l[k] ++ [10]) := by
  unfold joB
  rw [List.take_succ_eq_append_getElem hk, List.flatMap_append, List.flatMap_cons, List.flatMap_nil, List.append_nil]
theorem joined_eq (F : Nat) (l : List (List UInt8)) (hF : l.length < F) (h : (joB l).length ≤ 900000) : util_joined F l = some (joB l) := by
  unfold util_joined
  have hl := len_joB l
  refine loopF_hoare (fun x => ∃ k : Nat, x.1 = (k : Int) ∧ k ≤ l.length ∧ x.2.2 = toInts (joB (l.take k))) (fun x => l.length - x.1.toNat) ?_ F _ ⟨0, rfl, by omega, by simp [joB, toInts]⟩ (by simp; omega)
  rintro ⟨ii, c, buf⟩ ⟨k, h0, hk, ha⟩
  dsimp only at h0 ha ⊢
  subst h0
  by_cases hk : k < l.length
  · left
    have hs := joB_take l k hk
    have hle : (joB (l.take (k + 1))).length ≤ (joB l).length := joB_sub (List.take_sublist _ _)
    have hbl : buf.length = (joB (l.take k)).length := by rw [ha, toInts, List.length_map]
    have hsl : (joB (l.take (k + 1))).length = (joB (l.take k)).length + (l[k].length + 1) := by rw [hs]; simp
    refine ⟨(((k + 1 : Nat) : Int), true, toInts (joB (l.take (k + 1)))), ⟨k + 1, rfl, by omega, rfl⟩, by simp; omega, fun rc => ?_⟩
    rw [ct (by omega), rq_ix hk, Int.toNat_natCast, gd hk, bStr F _ c buf (by omega), Option.bind_some]
    dsimp only
    rw [bByte F _ _ _ (by simp only [List.length_append, toInts, List.length_map]; omega), Option.bind_some, w64s (by omega)]
    dsimp only
    rw [ha, hs]
    congr 3
    simp [toInts]
  · right
    obtain rfl : k = l.length := by omega
    intro rc
    rw [List.take_length] at ha
    subst ha
    have : (toInts (joB l)).length = (joB l).length := by rw [toInts, List.length_map]
    rw [cf (by omega)]
    unfold strings_Builder_String
    rw [rq_true (by rw [decide_eq_true rfl, byteOkTi, decide_eq_true (by omega)]; rfl), bytesRt]
    rfl
end Go.Proofs.YteagcbkkonabbaaGreatDoor
