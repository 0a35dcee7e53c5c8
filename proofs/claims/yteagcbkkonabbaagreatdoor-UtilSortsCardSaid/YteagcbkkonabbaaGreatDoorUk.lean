/-
  UtilSorts: sort, rev and tail write the lines of the input.
-/
import Derived.Test.YteagcbkkonabbaaGreatDoorUh
import Derived.Test.YteagcbkkonabbaaGreatDoorUi
import Derived.Test.YteagcbkkonabbaaGreatDoorSo
import Derived.KernelRfl
namespace Go.Proofs.YteagcbkkonabbaaGreatDoor
open Go.RT
set_option linter.all false
set_option maxRecDepth 100000

/-! ### Counting -/
theorem times_eq (F : Nat) (l : List (List UInt8)) (s : List UInt8) (hF : l.length < F) (hl : l.length ≤ 1000000) : law31_times F l s = some ((l.count s : Nat) : Int) := by
  unfold law31_times
  refine loopF_seq (fun i => ((((l.take i).count s : Nat) : Int), (i : Int))) l.length hF rfl (fun i rc hi => ?_) (fun rc => ?_)
  · dsimp only
    have hcl : (l.take i).count s ≤ i := Nat.le_trans List.count_le_length (by simp; omega)
    rw [ct (by omega), rq_ix hi, Int.toNat_natCast, gd hi, w64_nat (by omega), w64_nat (by omega), List.take_succ_eq_append_getElem hi, List.count_append]
    by_cases hb : l[i] = s
    · rw [hb, beq_self_eq_true, cond_true, List.count_singleton, beq_self_eq_true]
      rfl
    · have e1 : (l[i] == s) = false := beq_false_of_ne hb
      rw [e1, cond_false, List.count_singleton, e1]
      rfl
  · dsimp only
    rw [cf (by omega), List.take_length]
theorem feedsS_eq (F : Nat) (l : List UInt8) (hF : l.length < F) (hl : l.length ≤ 1000000) : law31_feeds F l = some ((l.count 10 : Nat) : Int) := by
  unfold law31_feeds
  refine loopF_seq (fun i => ((((l.take i).count 10 : Nat) : Int), (i : Int))) l.length hF rfl (fun i rc hi => ?_) (fun rc => ?_)
  · dsimp only
    have hcl : (l.take i).count 10 ≤ i := Nat.le_trans List.count_le_length (by simp; omega)
    rw [ct (by omega), rq2 (by omega) (by omega), Int.toNat_natCast, gd hi, w64_nat (by omega), w64_nat (by omega), List.take_succ_eq_append_getElem hi, List.count_append]
    rw [show (((l[i].toNat : Int)) == 10) = (l[i] == 10) from u8lit l[i] 10 (by omega)]
    by_cases hb : l[i] = 10
    · rw [hb]
      rfl
    · have e1 : (l[i] == (10 : UInt8)) = false := beq_false_of_ne hb
      rw [e1, cond_false, List.count_singleton, e1]
      rfl
  · dsimp only
    rw [cf (by omega), List.take_length]
theorem feeds_joB : ∀ l : List (List UInt8), (∀ p ∈ l, (10 : UInt8) ∉ p) → (joB l).count 10 = l.length
  | [], _ => rfl
  | p :: l, h => by
    have : joB (p :: l) = p ++ 10 :: joB l := by simp [joB]
    rw [this, List.count_append, List.count_cons_self, feeds_joB l (fun q hq => h q (by simp [hq])), List.count_eq_zero.2 (h p (by simp)), List.length_cons]
    omega
theorem texts_eq (F : Nat) (l : List (List UInt8)) (hF : l.length < F) (hl : l.length ≤ 1000000) : ref31_Texts F l l = some true := by
  unfold ref31_Texts
  rw [show ((l.length : Int) != (l.length : Int)) = false by simp, cond_false]
  refine loopF_seq (fun i => (i : Int)) l.length hF rfl (fun i rc hi => ?_) (fun rc => ?_)
  · rw [ct (by omega), rq_ix hi, rq_ix hi, beq_self_eq_true, w64_nat (by omega)]
    rfl
  · rw [cf (by omega)]

/-! ### Lines that are sorted, once each -/
abbrev so (S : List UInt8) : List (List UInt8) := sortK (lnB S)
theorem so_perm (S : List UInt8) : (so S).Perm (lnB S) := sortK_perm0 _
theorem so_asc (S : List UInt8) : (so S).Pairwise (fun a b => ¬ b < a) := (sortK_asc0 (lnB S)).imp fun {a b} h => by
  have := of_decide_eq_true h
  exact fun hlt => this hlt
theorem joB_perm {l m : List (List UInt8)} (h : l.Perm m) : (joB l).length = (joB m).length := by
  rw [joB_len, joB_len]
  exact (h.map _).sum_nat
theorem ucomp (l : List (List UInt8)) (hs : l.Pairwise (fun a b => ¬ b < a)) : ∀ m, m ≤ l.length → ∀ x, (Lib.compactUpTo l.toArray m).count x = if x ∈ l.take m then 1 else 0
  | 0, _, x => by simp [Lib.compactUpTo]
  | m + 1, hm, x => by
    have ih := ucomp l hs m (by omega) x
    have hml : m < l.length := hm
    have e0 : l.toArray[m]! = l[m] := by simp [hml]
    have e1 : Lib.compactUpTo l.toArray (m + 1) = Lib.compactUpTo l.toArray m ++ (if Lib.keeps l.toArray m = true then [l[m]] else []) := by
      unfold Lib.compactUpTo
      rw [List.range_succ, List.filter_append, List.map_append]
      congr 1
      by_cases hk : Lib.keeps l.toArray m = true
      · rw [if_pos hk, List.filter_cons, if_pos hk]; simp only [List.filter_nil, List.map_cons, List.map_nil, e0]
      · rw [if_neg hk, List.filter_cons, if_neg hk]; rfl
    rw [e1, List.count_append, ih, List.take_succ_eq_append_getElem hml]
    simp only [List.mem_append, List.mem_singleton]
    have hlast : 0 < m → l[m] ≠ l[m - 1]'(by omega) → l[m] ∉ l.take m := by
      intro h0 hne hmem
      obtain ⟨i, hi, he⟩ := List.mem_iff_getElem.1 hmem
      have hi' : i < m := by simp at hi; omega
      rw [List.getElem_take] at he
      have h1 : ¬ l[m] < l[m - 1]'(by omega) := List.pairwise_iff_getElem.1 hs (m - 1) m (by omega) hml (by omega)
      have h2 : ¬ l[m - 1]'(by omega) < l[m] := by
        rcases Nat.lt_or_ge i (m - 1) with h | h
        · have := List.pairwise_iff_getElem.1 hs i (m - 1) (by omega) (by omega) h
          rw [he] at this; exact this
        · have : i = m - 1 := by omega
          subst this
          rw [he]; exact lt_irrefl' _
      rcases lt_tri l[m] (l[m - 1]'(by omega)) with h | h | h
      · exact h1 h
      · exact hne h
      · exact h2 h
    by_cases hk : Lib.keeps l.toArray m = true
    · rw [if_pos hk]
      have hnot : l[m] ∉ l.take m := by
        rcases Nat.eq_zero_or_pos m with h0 | h0
        · subst h0; simp
        · refine hlast h0 ?_
          intro he
          have hm1 : l.toArray[m - 1]! = l[m - 1]'(by omega) := by simp [show m - 1 < l.length by omega]
          rw [Lib.keeps_neg h0 (by rw [e0, hm1]; exact he)] at hk
          cases hk
      by_cases hx : x = l[m]
      · subst hx
        rw [if_neg hnot, if_pos (.inr rfl)]
        simp
      · by_cases hx2 : x ∈ l.take m
        · rw [if_pos hx2, if_pos (.inl hx2)]
          simp [List.count_singleton, Ne.symm hx]
        · rw [if_neg hx2, if_neg (by rintro (h | h); exact hx2 h; exact hx h)]
          simp [List.count_singleton, Ne.symm hx]
    · rw [if_neg hk]
      have h0 : 0 < m := by
        rcases Nat.eq_zero_or_pos m with h0 | h0
        · subst h0; exact absurd (Lib.keeps_lt_one _ 0 (by omega)) hk
        · exact h0
      have hm1 : l.toArray[m - 1]! = l[m - 1]'(by omega) := by simp [show m - 1 < l.length by omega]
      have he : l[m] = l[m - 1]'(by omega) := by
        by_cases he : l[m] = l[m - 1]'(by omega)
        · exact he
        · exact absurd (Lib.keeps_pos (by rw [e0, hm1]; exact he)) hk
      have hmem : l[m] ∈ l.take m := by
        rw [he]
        exact List.mem_iff_getElem.2 ⟨m - 1, by simp; omega, by rw [List.getElem_take]⟩
      simp only [List.count_nil, Nat.add_zero]
      by_cases hx2 : x ∈ l.take m
      · rw [if_pos hx2, if_pos (.inl hx2)]
      · rw [if_neg hx2, if_neg (by rintro (h | h); exact hx2 h; exact hx2 (h ▸ hmem))]
theorem comp_cnt (l : List (List UInt8)) (hs : l.Pairwise (fun a b => ¬ b < a)) (x : List UInt8) : (Lib.compact l).count x = if x ∈ l then 1 else 0 := by
  have := ucomp l hs l.length (Nat.le_refl _) x
  rw [List.take_length] at this
  exact this
theorem comp_mem {l : List (List UInt8)} (hs : l.Pairwise (fun a b => ¬ b < a)) {x : List UInt8} (h : x ∈ Lib.compact l) : x ∈ l := by
  have h1 := List.count_pos_iff.2 h
  rw [comp_cnt l hs] at h1
  by_cases hx : x ∈ l
  · exact hx
  · rw [if_neg hx] at h1; omega
/-- What is compacted is no longer. -/
theorem comp_sub (l : List (List UInt8)) : (Lib.compact l).Sublist l := by
  unfold Lib.compact Lib.compactUpTo
  have h1 : ((List.range l.length).filter (Lib.keeps l.toArray)).Sublist (List.range l.length) := List.filter_sublist
  have h2 := h1.map (fun j => l.toArray[j]!)
  have h3 : (List.range l.length).map (fun j => l.toArray[j]!) = l := by
    apply List.ext_getElem
    · simp
    · intro i h1 h2
      simp at h1
      simp [h1]
  rw [h3] at h2
  exact h2

/-! ### sort -/
abbrev nmSort : List UInt8 := [115, 111, 114, 116]
def srt (u r : Bool) (S : List UInt8) : List (List UInt8) := cond r (cond u (Lib.compact (so S)) (so S)).reverse (cond u (Lib.compact (so S)) (so S))
theorem srt_jo (u r : Bool) (S : List UInt8) : (joB (srt u r S)).length ≤ S.length + 1 := by
  have h0 : (joB (cond u (Lib.compact (so S)) (so S))).length ≤ S.length + 1 := by
    have h1 : (joB (so S)).length ≤ S.length + 1 := by rw [joB_perm (so_perm S)]; exact (joB_ln S).1
    cases u
    · exact h1
    · exact Nat.le_trans (joB_sub (comp_sub _)) h1
  unfold srt
  cases r
  · exact h0
  · rw [cond_true, joB_perm (List.reverse_perm _)]; exact h0
theorem srt_mem {u r : Bool} {S x : List UInt8} (h : x ∈ srt u r S) : x ∈ lnB S := by
  have h0 : x ∈ cond u (Lib.compact (so S)) (so S) := by
    unfold srt at h
    cases r
    · exact h
    · exact List.mem_reverse.1 h
  have h1 : x ∈ so S := by
    cases u
    · exact h0
    · exact comp_mem (so_asc S) h0
  exact (so_perm S).mem_iff.1 h1
theorem sorted_eq {S : List UInt8} (hS : S.length ≤ 300) {u r : Bool} {e : TUtil} {w : Twords} {rg : TAinti648} (hb : e.fBuf = S)
    (h117 : util_words_has KB w 117 = some u) (h110 : util_words_has KB w 110 = some false) (h114 : util_words_has KB w 114 = some r) :
    util_engine_sorted KB e w rg [] = some (srt u r S) := by
  have hl := lnB_len S
  have hsl : (so S).length = (lnB S).length := (so_perm S).length_eq
  have hcl : (Lib.compact (so S)).length ≤ (so S).length := (comp_sub (so S)).length_le
  unfold util_engine_sorted
  rw [hb, lines_eq KB S (by omega), Option.bind_some]
  unfold sortF
  rw [rq1 (by omega), Option.bind_some, h117, Option.bind_some]
  have e1 : (cond u ((compF' KB (sortK (lnB S))).bind fun x5 => some x5) (some (sortK (lnB S))) : Option (List (List UInt8))) = some (cond u (Lib.compact (so S)) (so S)) := by
    cases u
    · rfl
    · unfold compF'
      rw [cond_true, rq1 (by show (so S).length ≤ _; omega)]
      rfl
  rw [e1, Option.bind_some, h110, Option.bind_some, cond_false, Option.bind_some, h114, Option.bind_some]
  unfold srt
  cases r
  · rfl
  · unfold revF
    rw [cond_true, cond_true, rq1 (by cases u <;> simp only [cond_true, cond_false] <;> omega)]
    rfl

structure SortW (args : List (List UInt8)) (w : Twords) (u r : Bool) : Prop where
  start : util_Start KB args [] = some (bu nmSort args 0 0 [] [] [], true)
  split : util_split KB nmSort (sl args 1 (args.length : Int)) = some w
  pos : 0 < args.length
  ok : okL args
  beg : ∀ a, adv KB a (bu nmSort args 0 0 [] [] [], w, br 0 0 0) = some (rq0, false, bu nmSort args 10 0 [] [] [], w, br 0 0 0, [])
  ops : w.foperands = []
  h117 : util_words_has KB w 117 = some u
  h110 : util_words_has KB w 110 = some false
  h114 : util_words_has KB w 114 = some r
theorem write_fin (nm : List UInt8) (args : List (List UInt8)) (w : Twords) (S d : List UInt8) (ls : List (List UInt8)) : util_engine_write KB 1 d 3 (bu nm args 10 0 S [] ls) w (br 0 0 1) [] = some (cond (d == []) (bu nm args ((3 : Nat) : Int) 0 S [] ls, w, br 0 0 1, []) (bu nm args 1 0 S d ls, w, br 3 1 1, [])) := by
  unfold util_engine_write
  rw [cond_som]
  cases (d == []) <;> rfl
theorem sortU {S : List UInt8} (hS : S.length ≤ 300) {args : List (List UInt8)} {w : Twords} {u r : Bool} (h : SortW args w u r) : BufU nmSort args w S (joB (srt u r S)) 3 0 where
  start := h.start
  split := h.split
  pos := h.pos
  ok := h.ok
  ins := fun e rg hu => by unfold util_engine_inputs; rw [hu, h.ops]; rfl
  beg := h.beg
  con := con_gen (by rfl) (by rfl) (by rfl) (by rfl)
  fin := fun ls => by
    have e : util_engine_finish KB (bu nmSort args 10 0 S [] ls) w (br 0 0 1) [] = (util_engine_sorted KB (bu nmSort args 10 0 S [] ls) w (br 0 0 1) []).bind fun x5 => (util_joined KB x5).bind fun x6 => (util_engine_write KB 1 x6 3 (bu nmSort args 10 0 S [] ls) w (br 0 0 1) []).bind fun x7 => some (x7.1, x7.2.1, x7.2.2.1, x7.2.2.2) := rfl
    have hj := srt_jo u r S
    have hlj := len_joB (srt u r S)
    rw [e, sorted_eq hS rfl h.h117 h.h110 h.h114, Option.bind_some, joined_eq KB _ (by show _ < 12000; omega) (by omega), Option.bind_some, write_fin]
    exact bsome _
  cp := rfl
  nx34 := .inl rfl
  dl := by have := srt_jo u r S; omega
theorem sort1 : SortW [nmSort] (Twords.mk [] [] 10 false) false false where
  start := start_gen (by kernel_rfl) (by show 0 ≤ 1000; decide)
  split := by kernel_rfl
  pos := by show 0 < 1; decide
  ok := by show 1 ≤ 1000000; decide
  beg := fun a => by kernel_rfl
  ops := rfl
  h117 := by kernel_rfl
  h110 := by kernel_rfl
  h114 := by kernel_rfl
theorem sort2 : SortW [nmSort, [45, 114]] (Twords.mk [] [114] 10 false) false true where
  start := start_gen (by kernel_rfl) (by show 1 ≤ 1000; decide)
  split := by kernel_rfl
  pos := by show 0 < 2; decide
  ok := by show 2 ≤ 1000000; decide
  beg := fun a => by kernel_rfl
  ops := rfl
  h117 := by kernel_rfl
  h110 := by kernel_rfl
  h114 := by kernel_rfl
theorem sort3 : SortW [nmSort, [45, 117]] (Twords.mk [] [117] 10 false) true false where
  start := start_gen (by kernel_rfl) (by show 1 ≤ 1000; decide)
  split := by kernel_rfl
  pos := by show 0 < 2; decide
  ok := by show 2 ≤ 1000000; decide
  beg := fun a => by kernel_rfl
  ops := rfl
  h117 := by kernel_rfl
  h110 := by kernel_rfl
  h114 := by kernel_rfl

/-! ### rev -/
abbrev nmRev : List UInt8 := [114, 101, 118]
def rvL (S : List UInt8) : List (List UInt8) := (lnB S).map List.reverse
theorem rvL_jo (S : List UInt8) : (joB (rvL S)).length ≤ S.length + 1 := by
  have : (joB (rvL S)).length = (joB (lnB S)).length := by
    rw [joB_len, joB_len]
    unfold rvL
    rw [List.map_map]
    congr 1
    apply List.map_congr_left
    intro p _
    simp
  rw [this]
  exact (joB_ln S).1
theorem joined1_eq (F : Nat) (l : List (List UInt8)) (hF : l.length < F) (h : (joB l).length ≤ 900000) : util_joined_1 F l = some (joB l, l) := by
  unfold util_joined_1
  have hl := len_joB l
  refine loopF_hoare (fun x => ∃ k : Nat, x.1 = (k : Int) ∧ k ≤ l.length ∧ x.2.2.1 = toInts (joB (l.take k)) ∧ x.2.2.2 = l) (fun x => l.length - x.1.toNat) ?_ F _ ⟨0, rfl, by omega, by simp [joB, toInts], rfl⟩ (by simp; omega)
  rintro ⟨ii, c, buf, l'⟩ ⟨k, h0, hk, ha, hl'⟩
  dsimp only at h0 ha hl' ⊢
  have hl2 := hl'.symm
  subst h0 hl2
  by_cases hk : k < l.length
  · left
    have hs := joB_take l k hk
    have hle : (joB (l.take (k + 1))).length ≤ (joB l).length := joB_sub (List.take_sublist _ _)
    have hbl : buf.length = (joB (l.take k)).length := by rw [ha, toInts, List.length_map]
    have hsl : (joB (l.take (k + 1))).length = (joB (l.take k)).length + (l[k].length + 1) := by rw [hs]; simp
    refine ⟨(((k + 1 : Nat) : Int), true, toInts (joB (l.take (k + 1))), l), ⟨k + 1, rfl, by omega, rfl, rfl⟩, by simp; omega, fun rc => ?_⟩
    rw [ct (by omega), rq_ix hk, Int.toNat_natCast, gd hk, bStr F _ c buf (by omega), Option.bind_some]
    dsimp only
    rw [bByte F _ _ _ (by simp only [List.length_append, toInts, List.length_map]; omega), Option.bind_some, w64s (by omega)]
    dsimp only
    rw [ha, hs]
    congr 3
    simp [toInts]
  · right
    obtain rfl : k = l.length := by omega
    intro rc
    rw [List.take_length] at ha
    subst ha
    have : (toInts (joB l)).length = (joB l).length := by rw [toInts, List.length_map]
    rw [cf (by omega)]
    unfold strings_Builder_String
    rw [rq_true (by rw [decide_eq_true rfl, byteOkTi, decide_eq_true (by omega)]; rfl), bytesRt]
    rfl
theorem set_rev (l : List (List UInt8)) (k : Nat) (hk : k < l.length) : ((l.take k).map List.reverse ++ l.drop k).set k (l[k].reverse) = (l.take (k + 1)).map List.reverse ++ l.drop (k + 1) := by
  have hl : ((l.take k).map List.reverse).length = k := by simp; omega
  rw [List.set_append_right _ _ (by omega), hl, Nat.sub_self, List.drop_eq_getElem_cons hk, List.set_cons_zero, List.take_succ_eq_append_getElem hk, List.map_append, List.append_assoc]
  rfl
theorem revU {S : List UInt8} (hS : S.length ≤ 301) : BufU nmRev [nmRev] (Twords.mk [] [] 10 false) S (joB (rvL S)) 3 0 where
  start := start_gen (by kernel_rfl) (by show 0 ≤ 1000; decide)
  split := by kernel_rfl
  pos := by show 0 < 1; decide
  ok := by show 1 ≤ 1000000; decide
  ins := fun e rg hu => by unfold util_engine_inputs; rw [hu]; rfl
  beg := fun a => by kernel_rfl
  con := con_gen (by rfl) (by rfl) (by rfl) (by rfl)
  fin := fun ls => by
    have e : util_engine_finish KB (bu nmRev [nmRev] 10 0 S [] ls) (Twords.mk [] [] 10 false) (br 0 0 1) [] = (util_lines KB S).bind fun x8 =>
 loopF (σ := Int × (List (List UInt8))) (R := TUtil × Twords × TAinti648 × (List Int)) (fun rc10 x9 =>
 cond (decide (x9.1 < (x8.length : Int)))
 (rq ((decide (0 ≤ x9.1)) && (decide (x9.1 < (x9.2.length : Int)))) (rq (decide ((x9.2.getD (Int.toNat x9.1) []).length ≤ 9223372036854775807)) (rq ((decide (0 ≤ x9.1)) && (decide (x9.1 < (x9.2.length : Int)))) (rc10 (w64 (x9.1 + 1), x9.2.set (Int.toNat x9.1) ((x9.2.getD (Int.toNat x9.1) []).reverse))))))
 ((util_joined_1 KB x9.2).bind fun x11 =>
 (util_engine_write KB 1 x11.1 3 (bu nmRev [nmRev] 10 0 S [] ls) (Twords.mk [] [] 10 false) (br 0 0 1) []).bind fun x12 =>
 some (x12.1, x12.2.1, x12.2.2.1, x12.2.2.2))) KB (0, x8) := rfl
    have hl := lnB_len S
    have hj := rvL_jo S
    have hlj := len_joB (rvL S)
    rw [e, lines_eq KB S (by omega), Option.bind_some]
    refine loopF_seq (fun k => ((k : Int), ((lnB S).take k).map List.reverse ++ (lnB S).drop k)) (lnB S).length (by show _ < 12000; omega) rfl (fun k rc hk => ?_) (fun rc => ?_)
    · dsimp only
      have hlen : (((lnB S).take k).map List.reverse ++ (lnB S).drop k).length = (lnB S).length := by simp; omega
      have hk2 : k < (((lnB S).take k).map List.reverse ++ (lnB S).drop k).length := by omega
      have hget : (((lnB S).take k).map List.reverse ++ (lnB S).drop k)[k] = (lnB S)[k] := by
        have hl : (((lnB S).take k).map List.reverse).length = k := by simp; omega
        rw [List.getElem_append_right (by omega)]
        simp only [hl, Nat.sub_self, List.getElem_drop, Nat.add_zero]
      have hm := lnB_mem_len (List.getElem_mem hk)
      rw [ct (by omega), rq_ix hk2, rq_ix hk2, Int.toNat_natCast, gd hk2, hget, rq1 (by omega), w64s (by omega), set_rev _ k hk]
    · dsimp only
      rw [cf (by omega), List.take_length, List.drop_length, List.append_nil]
      show ((util_joined_1 KB (rvL S)).bind _) = _
      rw [joined1_eq KB _ (by show _ < 12000; omega) (by omega), Option.bind_some, write_fin]
      exact bsome _
  cp := rfl
  nx34 := .inl rfl
  dl := by have := rvL_jo S; omega

/-! ### tail -/
abbrev nmTail : List UInt8 := [116, 97, 105, 108]
def tArgs (n : Nat) : List (List UInt8) := [nmTail, [45, 110], Lib.itoa (n : Int)]
def tsplitOk (n : Nat) : Bool := match util_split KB nmTail [[45, 110], Lib.itoa (n : Int)] with
  | some w => w.foperands.isEmpty && (w.fletters == [110] && (w.fcount == (n : Int) && !w.fbad))
  | none => false
theorem tsplit : ∀ n : Fin 302, tsplitOk n.val = true := by decide +kernel
theorem t_split {n : Nat} (hn : n ≤ 301) : util_split KB nmTail (sl (tArgs n) 1 ((tArgs n).length : Int)) = some (Twords.mk [] [110] (n : Int) false) := by
  have h := tsplit ⟨n, by omega⟩
  unfold tsplitOk at h
  dsimp only at h
  have e : sl (tArgs n) 1 ((tArgs n).length : Int) = [[45, 110], Lib.itoa (n : Int)] := rfl
  rw [e]
  cases hs : util_split KB nmTail [[45, 110], Lib.itoa (n : Int)] with
  | none => rw [hs] at h; cases h
  | some w =>
    rw [hs] at h
    obtain ⟨o, l, c, b⟩ := w
    simp only [Bool.and_eq_true, List.isEmpty_iff, Bool.not_eq_true'] at h
    obtain ⟨h1, h2, h3, h4⟩ := h
    have h2 : l = [110] := by simpa using h2
    have h3 : c = (n : Int) := by simpa using h3
    subst h1 h2 h3 h4
    rfl
theorem tailU {S : List UInt8} (hS : S.length ≤ 300) : BufU nmTail (tArgs (lnB S).length) (Twords.mk [] [110] ((lnB S).length : Int) false) S (joB (lnB S)) 3 0 where
  start := start_gen (by kernel_rfl) (by show 2 ≤ 1000; decide)
  split := t_split (by have := lnB_len S; omega)
  pos := by show 0 < 3; decide
  ok := by show 3 ≤ 1000000; decide
  ins := fun e rg hu => by unfold util_engine_inputs; rw [hu]; rfl
  beg := fun a => by kernel_rfl
  con := con_gen (by rfl) (by rfl) (by rfl) (by rfl)
  fin := fun ls => by
    have e : util_engine_finish KB (bu nmTail (tArgs (lnB S).length) 10 0 S [] ls) (Twords.mk [] [110] ((lnB S).length : Int) false) (br 0 0 1) [] = (((util_lines KB S).bind fun x2 =>
 some x2 : Option (List (List UInt8))).bind fun x1 =>
 rq ((decide (0 ≤ cond (decide (w64 ((x1.length : Int) - ((lnB S).length : Int)) < 0)) 0 (w64 ((x1.length : Int) - ((lnB S).length : Int))))) && ((decide (cond (decide (w64 ((x1.length : Int) - ((lnB S).length : Int)) < 0)) 0 (w64 ((x1.length : Int) - ((lnB S).length : Int))) ≤ (x1.length : Int))) && (decide ((x1.length : Int) ≤ (x1.length : Int))))) ((util_joined KB (sl x1 (cond (decide (w64 ((x1.length : Int) - ((lnB S).length : Int)) < 0)) 0 (w64 ((x1.length : Int) - ((lnB S).length : Int)))) (x1.length : Int))).bind fun x3 =>
 (util_engine_write KB 1 x3 3 (bu nmTail (tArgs (lnB S).length) 10 0 S [] ls) (Twords.mk [] [110] ((lnB S).length : Int) false) (br 0 0 1) []).bind fun x4 =>
 some (x4.1, x4.2.1, x4.2.2.1, x4.2.2.2))) := rfl
    have hl := lnB_len S
    have hj := (joB_ln S).1
    have e0 : w64 (((lnB S).length : Int) - ((lnB S).length : Int)) = 0 := by rw [Int.sub_self]; rfl
    rw [e, lines_eq KB S (by omega), Option.bind_some, Option.bind_some, e0, cf (by omega), rq3 (by omega) (by omega) (by omega)]
    rw [show sl (lnB S) 0 ((lnB S).length : Int) = lnB S by simp [sl], joined_eq KB _ (by show _ < 12000; omega) (by omega), Option.bind_some, write_fin]
    exact bsome _
  cp := rfl
  nx34 := .inl rfl
  dl := by have := (joB_ln S).1; omega

/-! ### The law -/
set_option maxHeartbeats 4000000 in
theorem utilSorts (a0 : List UInt8) (a1 : Int) : ∃ F, law31_UtilSorts F a0 a1 = some true := by
  refine ⟨KB, ?_⟩
  unfold law31_UtilSorts
  rw [awake_ok]
  by_cases h : (300 : Int) < (a0.length : Int)
  · rw [ct h]; rfl
  rw [cf h, Option.bind_some]
  by_cases h1 : a1 < 1
  · rw [dT h1]; rfl
  rw [dF h1, cond_false]
  obtain ⟨part, rfl⟩ : ∃ p : Nat, a1 = (p : Int) := ⟨a1.toNat, by omega⟩
  have hS : a0.length ≤ 300 := by omega
  have hp : 1 ≤ part := by omega
  have hl := lnB_len a0
  have p1 := b_play (sortU hS sort1) (by omega) hp
  have p2 := b_play (sortU hS sort2) (by omega) hp
  have p3 := b_play (sortU hS sort3) (by omega) hp
  have p4 := b_play (revU (S := a0) (by omega)) (by omega) hp
  have hr := rvL_jo a0
  have p5 := b_play (revU (S := joB (rvL a0)) (by omega)) (by omega) hp
  have p6 := b_play (tailU hS) (by omega) hp
  have hn := lnB_no a0
  have q1 : lnB (joB (srt false false a0)) = so a0 := lnB_joB _ (fun q hq => hn q (srt_mem hq))
  have q2 : lnB (joB (srt false true a0)) = (so a0).reverse := lnB_joB _ (fun q hq => hn q (srt_mem hq))
  have q3 : lnB (joB (srt true false a0)) = Lib.compact (so a0) := lnB_joB _ (fun q hq => hn q (srt_mem hq))
  have q4 : lnB (joB (rvL a0)) = rvL a0 := lnB_joB _ (fun q hq => by
    obtain ⟨x, hx, rfl⟩ := List.mem_map.1 hq
    intro hm
    exact hn x hx (List.mem_reverse.1 hm))
  have q5 : rvL (joB (rvL a0)) = lnB a0 := by
    unfold rvL at q4 ⊢
    rw [q4, List.map_map]
    conv => rhs; rw [← List.map_id (lnB a0)]
    apply List.map_congr_left
    intro x _
    simp
  have q6 : lnB (joB (lnB a0)) = lnB a0 := lnB_joB _ hn
  have j1 := srt_jo false false a0
  have j2 := srt_jo false true a0
  have j3 := srt_jo true false a0
  have hsl : (so a0).length = (lnB a0).length := (so_perm a0).length_eq
  have hcl : (Lib.compact (so a0)).length ≤ (so a0).length := (comp_sub (so a0)).length_le
  have hsn : ∀ q ∈ so a0, (10 : UInt8) ∉ q := fun q hq => hn q ((so_perm a0).mem_iff.1 hq)
  rw [show ([([115, 111, 114, 116] : List UInt8)] : List (List UInt8)) = [nmSort] from rfl, p1, Option.bind_some]
  rw [refLines_eq KB _ (by show _ < 12000; omega) (by omega), Option.bind_some]
  dsimp only
  rw [refLines_eq KB _ (by show _ < 12000; omega) (by omega), Option.bind_some, q1, feedsS_eq KB _ (by show _ < 12000; omega) (by omega)]
  have hf : (joB (srt false false a0)).count 10 = (so a0).length := feeds_joB _ hsn
  rw [hf]
  have e1 : (((lnB a0).length : Int) != ((so a0).length : Int)) = false := by rw [hsl]; simp
  have e2 : (((so a0).length : Int) != ((so a0).length : Int)) = false := by simp
  have e3 : (stN 3 0 != 0) = false := rfl
  rw [e1, e3, Option.bind_some, e2]
  simp only [Bool.not_true, cond_false, Option.bind_some]
  refine loopF_seq (fun i => (i : Int)) (so a0).length (by show _ < 12000; omega) rfl (fun i rc hi => ?_) (fun rc => ?_)
  · rw [ct (by omega), rq_ix hi, rq_ix hi, Int.toNat_natCast, gd hi, times_eq KB _ _ (by show _ < 12000; omega) (by omega), Option.bind_some, times_eq KB _ _ (by show _ < 12000; omega) (by omega), Option.bind_some, (so_perm a0).count_eq]
    have e4 : ∀ k : Nat, (((k : Nat) : Int) != (k : Int)) = false := fun k => by simp
    rw [e4, cond_false, agree_self, agree_self, w64s (by omega)]
    by_cases h0 : 0 < i
    · have hb : Op.bytesLess (so a0)[i] ((so a0)[i - 1]'(by omega)) = false := by
        rw [bl_not]
        exact List.pairwise_iff_getElem.1 (so_asc a0) (i - 1) i (by omega) hi (by omega)
      rw [ct (by omega), rq_ix hi, w64p (by omega) h0, rq_ix (show i - 1 < (so a0).length by omega), Int.toNat_natCast, gd (show i - 1 < (so a0).length by omega), hb, Option.bind_some, cond_false]
    · rw [cf (by omega), Option.bind_some, cond_false]
  · rw [cf (by omega)]
    rw [show ([([115, 111, 114, 116] : List UInt8), ([45, 114] : List UInt8)] : List (List UInt8)) = [nmSort, [45, 114]] from rfl, p2, Option.bind_some]
    dsimp only
    rw [refLines_eq KB _ (by show _ < 12000; omega) (by omega), Option.bind_some, q2]
    rw [show ([([115, 111, 114, 116] : List UInt8), ([45, 117] : List UInt8)] : List (List UInt8)) = [nmSort, [45, 117]] from rfl, p3, Option.bind_some]
    dsimp only
    rw [refLines_eq KB _ (by show _ < 12000; omega) (by omega), Option.bind_some, q3]
    have hrl : (so a0).reverse.length = (so a0).length := List.length_reverse
    rw [hrl, e2, cond_false]
    refine loopF_seq (fun i => (i : Int)) (so a0).length (by show _ < 12000; omega) rfl (fun i rc hi => ?_) (fun rc => ?_)
    · have e5 : w64 ((w64 (((so a0).length : Int) - 1)) - (i : Int)) = (((so a0).length - 1 - i : Nat) : Int) := by
        rw [w64p (by omega) (by omega), w64_in (by omega)]; omega
      have hr2 : (so a0).length - 1 - i < (so a0).reverse.length := by omega
      have hrg : (so a0).reverse[(so a0).length - 1 - i] = (so a0)[i] := by
        rw [List.getElem_reverse]
        congr 1
        omega
      have hc1 : ((((Lib.compact (so a0)).count (so a0)[i] : Nat) : Int) != 1) = false := by
        rw [comp_cnt (so a0) (so_asc a0), if_pos (List.getElem_mem hi)]
        rfl
      rw [ct (by omega), e5]
      have e6 : ((so a0).length : Int) = ((so a0).reverse.length : Int) := by rw [hrl]
      rw [rq2 (by omega) (by omega), rq_ix hi, Int.toNat_natCast, Int.toNat_natCast, gd hr2, gd hi, hrg, beq_self_eq_true, Bool.not_true, cond_false, rq_ix hi, times_eq KB _ _ (by show _ < 12000; omega) (by omega), Option.bind_some, hc1, cond_false, w64s (by omega)]
    · rw [cf (by omega)]
      rw [show ([([114, 101, 118] : List UInt8)] : List (List UInt8)) = [nmRev] from rfl, p4, Option.bind_some]
      dsimp only
      rw [p5, Option.bind_some, itoa_small ⟨by omega, by omega⟩, Option.bind_some]
      rw [show ([([116, 97, 105, 108] : List UInt8), ([45, 110] : List UInt8), Lib.itoa ((lnB a0).length : Int)] : List (List UInt8)) = tArgs (lnB a0).length from rfl, p6, Option.bind_some]
      dsimp only
      have hj6 := (joB_ln a0).1
      rw [q5, ct (by omega), refLines_eq KB _ (by show _ < 12000; omega) (by omega), Option.bind_some, q6, texts_eq KB _ (by show _ < 12000; omega) (by omega), Option.bind_some]
      rfl

end Go.Proofs.YteagcbkkonabbaaGreatDoor
