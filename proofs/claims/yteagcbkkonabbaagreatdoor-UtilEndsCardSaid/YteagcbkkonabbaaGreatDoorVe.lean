import Derived.Test.YteagcbkkonabbaaGreatDoorVd
namespace Go.Proofs.YteagcbkkonabbaaGreatDoor
open Go.RT
set_option linter.all false
set_option maxRecDepth 100000
def cx (nm : List UInt8) (ops : List (List UInt8)) : Cx := ⟨nm, nm :: ops, envP, Twords.mk ops [] 10 false⟩
abbrev zu (C : Cx) (st n : Int) (buf : List UInt8) (ls : List (List UInt8)) : TUtil := TUtil.mk C.nm C.args C.env st n buf ls []
theorem wrb {C : Cx} {fd after : Nat} {st n : Int} {buf d : List UInt8} {ls : List (List UInt8)} {r : Rg} {o : List Int} :
    ((util_engine_write KB (fd : Int) d (after : Int) (zu C st n buf ls) C.w (rv r) o).bind fun x => some (x.1, x.2.1, x.2.2.1, x.2.2.2)) = some (wrE C fd d after n buf ls r o) := by
  rw [wr_eq (C := C) (st := st) (n := n) (buf := buf) (ls := ls) (r := r) (o := o) rfl]
  rfl
def FinOk (C : Cx) (S : List UInt8) : Prop := ∀ (st n : Int) (ls : List (List UInt8)) (r : Rg) (o : List Int), r.Ok → ∃ d, d.length ≤ 1000 ∧
  (util_engine_finish KB (zu C st n S ls) C.w (rv r) o = some (wrE C 1 d 3 n S ls r o) ∨ ∃ m : Int, (0 ≤ m ∧ m ≤ 2) ∧ util_engine_finish KB (zu C st n S ls) C.w (rv r) o = some (wrE C 1 d 4 m S ls r o))
abbrev nmWc : List UInt8 := [119, 99]
abbrev nmUniq : List UInt8 := [117, 110, 105, 113]
abbrev nmGrep : List UInt8 := [103, 114, 101, 112]
abbrev nmHead : List UInt8 := [104, 101, 97, 100]
abbrev nmTee : List UInt8 := [116, 101, 101]
abbrev nmCp : List UInt8 := [99, 112]
abbrev nmCat : List UInt8 := [99, 97, 116]
section
variable {ops : List (List UInt8)} {S : List UInt8}
theorem fin_none {nm : List UInt8} (h : nm = nmCat ∨ nm = nmHead ∨ nm = nmTee) : FinOk (cx nm ops) S := fun st n ls r o hr => by
  refine ⟨[], by simp, .inl ?_⟩
  rcases h with h | h | h <;> subst h <;> rfl
theorem joB_drop (l : List (List UInt8)) (k : Nat) : (joB (l.drop k)).length ≤ (joB l).length := joB_sub (List.drop_sublist k l)
theorem fin_tail (hS : S.length ≤ 300) : FinOk (cx nmTail ops) S := fun st n ls r o hr => by
  have hl := lnB_len S
  have hj := (joB_ln S).1
  have e : util_engine_finish KB (zu (cx nmTail ops) st n S ls) (cx nmTail ops).w (rv r) o = (((util_lines KB S).bind fun x2 => some x2 : Option (List (List UInt8))).bind fun x1 =>
 rq ((decide (0 ≤ cond (decide (w64 ((x1.length : Int) - 10) < 0)) 0 (w64 ((x1.length : Int) - 10)))) && ((decide (cond (decide (w64 ((x1.length : Int) - 10) < 0)) 0 (w64 ((x1.length : Int) - 10)) ≤ (x1.length : Int))) && (decide ((x1.length : Int) ≤ (x1.length : Int))))) ((util_joined KB (sl x1 (cond (decide (w64 ((x1.length : Int) - 10) < 0)) 0 (w64 ((x1.length : Int) - 10))) (x1.length : Int))).bind fun x3 =>
 (util_engine_write KB 1 x3 3 (zu (cx nmTail ops) st n S ls) (cx nmTail ops).w (rv r) o).bind fun x4 =>
 some (x4.1, x4.2.1, x4.2.2.1, x4.2.2.2))) := rfl
  obtain ⟨k, hk, hc⟩ : ∃ k : Nat, k ≤ (lnB S).length ∧ (cond (decide (w64 (((lnB S).length : Int) - 10) < 0)) 0 (w64 (((lnB S).length : Int) - 10)) : Int) = (k : Int) := by
    rw [w64_in (by omega)]
    by_cases h : ((lnB S).length : Int) - 10 < 0
    · rw [ct h]; exact ⟨0, by omega, rfl⟩
    · rw [cf h]; exact ⟨(lnB S).length - 10, by omega, by omega⟩
  have hsl : sl (lnB S) (k : Int) ((lnB S).length : Int) = (lnB S).drop k := by simp [sl, List.take_of_length_le]
  have hjd := joB_drop (lnB S) k
  refine ⟨joB ((lnB S).drop k), by omega, .inl ?_⟩
  rw [e, lines_eq KB S (by omega), Option.bind_some, Option.bind_some, hc, rq3 (by omega) (by omega) (by omega), hsl, joined_eq KB _ (by show _ < 12000; rw [List.length_drop]; omega) (by omega), Option.bind_some]
  exact wrb (fd := 1) (after := 3)
theorem fin_sort (hS : S.length ≤ 300) : FinOk (cx nmSort ops) S := fun st n ls r o hr => by
  have hj := srt_jo false false S
  have hlj := len_joB (srt false false S)
  have e : util_engine_finish KB (zu (cx nmSort ops) st n S ls) (cx nmSort ops).w (rv r) o = (util_engine_sorted KB (zu (cx nmSort ops) st n S ls) (cx nmSort ops).w (rv r) o).bind fun x5 => (util_joined KB x5).bind fun x6 => (util_engine_write KB 1 x6 3 (zu (cx nmSort ops) st n S ls) (cx nmSort ops).w (rv r) o).bind fun x7 => some (x7.1, x7.2.1, x7.2.2.1, x7.2.2.2) := rfl
  have hs : util_engine_sorted KB (zu (cx nmSort ops) st n S ls) (cx nmSort ops).w (rv r) o = some (srt false false S) := by
    have hl := lnB_len S
    have hsl : (so S).length = (lnB S).length := (so_perm S).length_eq
    unfold util_engine_sorted
    rw [show (zu (cx nmSort ops) st n S ls).fBuf = S from rfl, lines_eq KB S (by omega), Option.bind_some]
    unfold sortF
    rw [rq1 (by omega), Option.bind_some, show (cx nmSort ops).w = Twords.mk ops [] 10 false from rfl, has_nil, Option.bind_some, cond_false, Option.bind_some, has_nil, Option.bind_some, cond_false, Option.bind_some, has_nil, Option.bind_some, cond_false]
    rfl
  refine ⟨joB (srt false false S), by omega, .inl ?_⟩
  rw [e, hs, Option.bind_some, joined_eq KB _ (by show _ < 12000; omega) (by omega), Option.bind_some]
  exact wrb (fd := 1) (after := 3)
theorem fin_rev (hS : S.length ≤ 300) : FinOk (cx nmRev ops) S := fun st n ls r o hr => by
  have e : util_engine_finish KB (zu (cx nmRev ops) st n S ls) (cx nmRev ops).w (rv r) o = (util_lines KB S).bind fun x8 =>
 loopF (σ := Int × (List (List UInt8))) (R := TUtil × Twords × TAinti648 × (List Int)) (fun rc10 x9 =>
 cond (decide (x9.1 < (x8.length : Int)))
 (rq ((decide (0 ≤ x9.1)) && (decide (x9.1 < (x9.2.length : Int)))) (rq (decide ((x9.2.getD (Int.toNat x9.1) []).length ≤ 9223372036854775807)) (rq ((decide (0 ≤ x9.1)) && (decide (x9.1 < (x9.2.length : Int)))) (rc10 (w64 (x9.1 + 1), x9.2.set (Int.toNat x9.1) ((x9.2.getD (Int.toNat x9.1) []).reverse))))))
 ((util_joined_1 KB x9.2).bind fun x11 =>
 (util_engine_write KB 1 x11.1 3 (zu (cx nmRev ops) st n S ls) (cx nmRev ops).w (rv r) o).bind fun x12 =>
 some (x12.1, x12.2.1, x12.2.2.1, x12.2.2.2))) KB (0, x8) := rfl
  have hl := lnB_len S
  have hj := rvL_jo S
  have hlj := len_joB (rvL S)
  refine ⟨joB (rvL S), by omega, .inl ?_⟩
  rw [e, lines_eq KB S (by omega), Option.bind_some]
  refine loopF_seq (fun k => ((k : Int), ((lnB S).take k).map List.reverse ++ (lnB S).drop k)) (lnB S).length (by show _ < 12000; omega) rfl (fun k rc hk => ?_) (fun rc => ?_)
  · dsimp only
    have hlen : (((lnB S).take k).map List.reverse ++ (lnB S).drop k).length = (lnB S).length := by simp; omega
    have hk2 : k < (((lnB S).take k).map List.reverse ++ (lnB S).drop k).length := by omega
    have hget : (((lnB S).take k).map List.reverse ++ (lnB S).drop k)[k] = (lnB S)[k] := by
      have hl : (((lnB S).take k).map List.reverse).length = k := by simp; omega
      rw [List.getElem_append_right (by omega)]
      simp only [hl, Nat.sub_self, List.getElem_drop, Nat.add_zero]
    have hm := lnB_mem_len (List.getElem_mem hk)
    rw [ct (by omega), rq_ix hk2, rq_ix hk2, Int.toNat_natCast, gd hk2, hget, rq1 (by omega), w64s (by omega), set_rev _ k hk]
  · dsimp only
    rw [cf (by omega), List.take_length, List.drop_length, List.append_nil]
    show ((util_joined_1 KB (rvL S)).bind _) = _
    rw [joined1_eq KB _ (by show _ < 12000; omega) (by omega), Option.bind_some]
    exact wrb (fd := 1) (after := 3)
theorem itoa_len {n : Int} (h : sm n) : (Lib.itoa n).length ≤ 3 := by
  obtain ⟨m, rfl⟩ : ∃ m : Nat, n = (m : Int) := ⟨n.toNat, by have := h.1; omega⟩
  have h1 := rt1000 ⟨m, by have := h.2; omega⟩
  unfold rtOk at h1
  dsimp only at h1
  split at h1
  · rw [Bool.and_eq_true] at h1
    exact Nat.le_of_ble_eq_true h1.2
  · cases h1
theorem counts1 {c v : Int} (hv : sm v) {l : List (List UInt8)} (hl : l.length ≤ 5) (z : TUtil) (r : TAinti648) (o : List Int) : util_engine_counts_1 KB c v l z (Twords.mk ops [] 10 false) r o = some (l ++ [Lib.itoa v]) := by
  unfold util_engine_counts_1
  have e0 : ((Twords.mk ops [] 10 false).fletters == ([] : List UInt8)) = true := rfl
  rw [e0, cond_true, Option.bind_some, cond_true, itoa_small hv, Option.bind_some, rq2 (by simp only [List.length_cons, List.length_nil]; omega) (by simp only [List.length_cons, List.length_nil]; omega)]
theorem counts_tot (hS : S.length ≤ 300) (z : TUtil) (hz : z.fBuf = S) (r : TAinti648) (o : List Int) : ∃ d, d.length ≤ 700 ∧ util_engine_counts KB z (Twords.mk ops [] 10 false) r o = some d := by
  unfold util_engine_counts
  rw [hz]
  refine loopF_tot _ (fun s : Int × Int × Bool × Int => ∃ a b k : Nat, s.1 = (a : Int) ∧ s.2.1 = (b : Int) ∧ s.2.2.2 = (k : Int) ∧ a ≤ k ∧ b ≤ k ∧ k ≤ S.length) (fun s => S.length - s.2.2.2.toNat) ?_ KB (0, 0, false, 0) ⟨0, 0, 0, rfl, rfl, rfl, Nat.le_refl _, Nat.le_refl _, Nat.zero_le _⟩ (by show S.length - 0 < 12000; omega)
  rintro ⟨f, c, ins, i⟩ ⟨a, b, k, hf, hc, hi, ha, hb, hk⟩ rc hrc
  dsimp only at hf hc hi hrc ⊢
  subst hf hc hi
  rw [Int.toNat_natCast] at *
  by_cases hlt : k < S.length
  · rw [ct (by omega), rq2 (by omega) (by omega)]
    have step : ∀ (a' b' : Nat) (q : Bool), a' ≤ k + 1 → b' ≤ k + 1 → ∃ d : List UInt8, d.length ≤ 700 ∧ rc ((a' : Int), (b' : Int), q, w64 ((k : Int) + 1)) = some d := fun a' b' q h1 h2 => by
      rw [w64s (by omega)]
      exact hrc _ ⟨a', b', k + 1, rfl, rfl, rfl, h1, h2, by omega⟩ (by show S.length - Int.toNat ((k + 1 : Nat) : Int) < _; rw [Int.toNat_natCast]; omega)
    have e1 : ∃ a' : Nat, a' ≤ k + 1 ∧ (cond (((S.getD k 0).toNat : Int) == 10) (some (w64 ((a : Int) + 1))) (some (a : Int)) : Option Int) = some (a' : Int) := by
      cases (((S.getD k 0).toNat : Int) == 10) with
      | true => exact ⟨a + 1, by omega, by rw [cond_true, w64s (by omega)]⟩
      | false => exact ⟨a, by omega, rfl⟩
    obtain ⟨a', ha', e1⟩ := e1
    rw [e1, Option.bind_some]
    have e2 : ∃ q1, (cond (decide (9 ≤ ((S.getD k 0).toNat : Int))) (some (decide (((S.getD k 0).toNat : Int) ≤ 13))) (some false) : Option Bool) = some q1 := by cases decide (9 ≤ ((S.getD k 0).toNat : Int)) <;> exact ⟨_, rfl⟩
    obtain ⟨q1, e2⟩ := e2
    rw [e2, Option.bind_some]
    have e3 : ∃ q2, (cond q1 (some true) (some (((S.getD k 0).toNat : Int) == 32)) : Option Bool) = some q2 := by cases q1 <;> exact ⟨_, rfl⟩
    obtain ⟨q2, e3⟩ := e3
    rw [e3, Option.bind_some]
    have e4 : ∃ q3, (cond (!q2) (some (!ins)) (some false) : Option Bool) = some q3 := by cases q2 <;> exact ⟨_, rfl⟩
    obtain ⟨q3, e4⟩ := e4
    rw [e4, Option.bind_some]
    cases q3 with
    | true => rw [cond_true, show w64 ((b : Int) + 1) = ((b + 1 : Nat) : Int) from w64s (by omega)]; exact step a' (b + 1) _ ha' (by omega)
    | false => exact step a' b _ ha' (by omega)
  · rw [cf (by omega), counts1 (l := []) ⟨by omega, by omega⟩ (by simp), Option.bind_some, counts1 ⟨by omega, by omega⟩ (by simp), Option.bind_some, counts1 ⟨by omega, by omega⟩ (by simp), Option.bind_some]
    obtain ⟨d, h1, h2⟩ := joinF_tot (l := (([] ++ [Lib.itoa (a : Int)]) ++ [Lib.itoa (b : Int)]) ++ [Lib.itoa (S.length : Int)]) (by
      intro x hx
      simp only [List.nil_append, List.cons_append, List.mem_cons, List.not_mem_nil, or_false] at hx
      have h3 := itoa_len (n := (a : Int)) ⟨by omega, by omega⟩
      have h4 := itoa_len (n := (b : Int)) ⟨by omega, by omega⟩
      have h5 := itoa_len (n := (S.length : Int)) ⟨by omega, by omega⟩
      rcases hx with rfl | rfl | rfl <;> omega) (by simp)
    rw [h2]
    exact ⟨d, by omega, rfl⟩
theorem fin_wc (hS : S.length ≤ 300) : FinOk (cx nmWc ops) S := fun st n ls r o hr => by
  have e : util_engine_finish KB (zu (cx nmWc ops) st n S ls) (cx nmWc ops).w (rv r) o = (util_engine_counts KB (zu (cx nmWc ops) st n S ls) (cx nmWc ops).w (rv r) o).bind fun x5 =>
 rq (decide (x5.length + ([10] : List UInt8).length ≤ 9223372036854775807)) ((util_engine_write KB 1 (x5 ++ ([10] : List UInt8)) 3 (zu (cx nmWc ops) st n S ls) (cx nmWc ops).w (rv r) o).bind fun x6 =>
 some (x6.1, x6.2.1, x6.2.2.1, x6.2.2.2)) := rfl
  obtain ⟨d, h1, h2⟩ := counts_tot (ops := ops) hS (zu (cx nmWc ops) st n S ls) rfl (rv r) o
  have h2 : util_engine_counts KB (zu (cx nmWc ops) st n S ls) (cx nmWc ops).w (rv r) o = some d := h2
  refine ⟨d ++ [10], by simp only [List.length_append, List.length_cons, List.length_nil]; omega, .inl ?_⟩
  rw [e, h2, Option.bind_some, rq1 (by simp only [List.length_cons, List.length_nil]; omega)]
  exact wrb (fd := 1) (after := 3)
theorem joB_take_le (l : List (List UInt8)) {i j : Nat} (h : i ≤ j) : (joB (l.take i)).length ≤ (joB (l.take j)).length := by
  have : l.take i = (l.take j).take i := by rw [List.take_take, Nat.min_eq_left h]
  rw [this]
  exact joB_sub (List.take_sublist _ _)
theorem unique_tot (hS : S.length ≤ 300) (z : TUtil) (hz : z.fBuf = S) (r : TAinti648) (o : List Int) : ∃ l, (joB l).length ≤ 301 ∧ util_engine_unique KB z (Twords.mk ops [] 10 false) r o = some l := by
  have hl := lnB_len S
  have hj := (joB_ln S).1
  unfold util_engine_unique
  rw [hz, lines_eq KB S (by omega), Option.bind_some, Option.bind_some]
  refine loopF_tot _ (fun s : List (List UInt8) × Int => ∃ k : Nat, s.2 = (k : Int) ∧ k ≤ (lnB S).length ∧ s.1.length ≤ k ∧ (joB s.1).length ≤ (joB ((lnB S).take k)).length) (fun s => (lnB S).length - s.2.toNat) ?_ KB ([], 0) ⟨0, rfl, Nat.zero_le _, by simp, by simp [joB]⟩ (by show (lnB S).length - 0 < 12000; omega)
  rintro ⟨acc, i⟩ ⟨k, hi, hk, hal, haj⟩ rc hrc
  dsimp only at hi hal haj hrc ⊢
  subst hi
  by_cases hlt : k < (lnB S).length
  · rw [ct (by omega), w64s (by omega)]
    refine loopF_tot _ (fun x : Int => ∃ j : Nat, x = (j : Int) ∧ k < j ∧ j ≤ (lnB S).length) (fun x => (lnB S).length - x.toNat) ?_ KB _ ⟨k + 1, rfl, by omega, by omega⟩ (by rw [Int.toNat_natCast]; show _ < 12000; omega)
    rintro x ⟨j, hx, hkj, hj2⟩ rc2 hrc2
    subst hx
    have e1 : ∃ q, (cond (decide ((j : Int) < ((lnB S).length : Int))) (rq ((decide (0 ≤ (j : Int))) && (decide ((j : Int) < ((lnB S).length : Int)))) (rq ((decide (0 ≤ (k : Int))) && (decide ((k : Int) < ((lnB S).length : Int)))) (some (((lnB S).getD (Int.toNat (j : Int)) []) == ((lnB S).getD (Int.toNat (k : Int)) []))))) (some false) : Option Bool) = some q ∧ (q = true → j < (lnB S).length) := by
      by_cases h : j < (lnB S).length
      · rw [ct (by omega), rq_ix h, rq_ix hlt]; exact ⟨_, rfl, fun _ => h⟩
      · rw [cf (by omega)]; exact ⟨false, rfl, fun h => (by cases h)⟩
    obtain ⟨q, e1, hq⟩ := e1
    rw [e1, Option.bind_some]
    cases q with
    | true =>
      rw [cond_true, w64s (by omega)]
      exact hrc2 _ ⟨j + 1, rfl, by omega, hq rfl⟩ (by rw [Int.toNat_natCast, Int.toNat_natCast]; have := hq rfl; omega)
    | false =>
      have hkl : (lnB S)[k].length ≤ S.length := lnB_mem_len (List.getElem_mem hlt)
      rw [cond_false, rq_ix hlt, has_nil, Option.bind_some, cond_false, Option.bind_some, Int.toNat_natCast, gd hlt, rq2 (by simp only [List.length_cons, List.length_nil]; omega) (by simp only [List.length_cons, List.length_nil]; omega)]
      refine hrc _ ⟨j, rfl, hj2, by simp only [List.length_append, List.length_cons, List.length_nil]; omega, ?_⟩ (by rw [Int.toNat_natCast, Int.toNat_natCast]; omega)
      have h1 := joB_take_le (lnB S) (show k + 1 ≤ j by omega)
      rw [joB_take (lnB S) k hlt] at h1
      have h2 : joB (acc ++ [(lnB S)[k]]) = joB acc ++ ((lnB S)[k] ++ [10]) := by simp [joB]
      show (joB (acc ++ [(lnB S)[k]])).length ≤ _
      rw [h2]
      simp only [List.length_append, List.length_cons, List.length_nil] at h1 ⊢
      omega
  · rw [cf (by omega)]
    obtain rfl : k = (lnB S).length := by omega
    rw [List.take_length] at haj
    exact ⟨acc, by omega, rfl⟩
theorem fin_uniq (hS : S.length ≤ 300) : FinOk (cx nmUniq ops) S := fun st n ls r o hr => by
  have e : util_engine_finish KB (zu (cx nmUniq ops) st n S ls) (cx nmUniq ops).w (rv r) o = (util_engine_unique KB (zu (cx nmUniq ops) st n S ls) (cx nmUniq ops).w (rv r) o).bind fun x10 =>
 (util_joined KB x10).bind fun x11 =>
 (util_engine_write KB 1 x11 3 (zu (cx nmUniq ops) st n S ls) (cx nmUniq ops).w (rv r) o).bind fun x12 =>
 some (x12.1, x12.2.1, x12.2.2.1, x12.2.2.2) := rfl
  obtain ⟨l, h1, h2⟩ := unique_tot (ops := ops) hS (zu (cx nmUniq ops) st n S ls) rfl (rv r) o
  have h2 : util_engine_unique KB (zu (cx nmUniq ops) st n S ls) (cx nmUniq ops).w (rv r) o = some l := h2
  have hlj := len_joB l
  refine ⟨joB l, by omega, .inl ?_⟩
  rw [e, h2, Option.bind_some, joined_eq KB _ (by show _ < 12000; omega) (by omega), Option.bind_some]
  exact wrb (fd := 1) (after := 3)
theorem fin_grep (hn : NWL ops) (hS : S.length ≤ 300) : FinOk (cx nmGrep ops) S := fun st n ls r o hr => by
  have hl := lnB_len S
  have hj := (joB_ln S).1
  obtain ⟨p, hp1, hp2⟩ := el_nw0 hn
  have hs : szL [TRun.mk p 2] = p.length := by simp [szL]
  have hpl := hp2.len
  obtain ⟨x, ⟨c1, c2⟩, c3⟩ := compile_tot KB [TRun.mk p 2] (by show 1 < 12000; omega) (by rw [hs]; show p.length + 1000 < 12000; omega) (by show 1 < 1000000000; omega) (by rw [hs]; omega)
  rw [hs] at c2
  have hst : ItOk (TPatItem.mk 3 [] false []) := ⟨fun h => absurd h (by decide), by decide, by decide⟩
  have hits : ∀ it ∈ ([TPatItem.mk 3 [] false []] ++ x) ++ [TPatItem.mk 3 [] false []], ItOk it := fun it hit => by
    simp only [List.cons_append, List.nil_append, List.mem_cons, List.mem_append, List.not_mem_nil, or_false] at hit
    rcases hit with rfl | hit | rfl
    · exact hst
    · exact c1 it hit
    · exact hst
  have hil : (([TPatItem.mk 3 [] false []] ++ x) ++ [TPatItem.mk 3 [] false []]).length ≤ 32 := by simp only [List.length_append, List.length_cons, List.length_nil]; omega
  suffices h : ∃ z, (∃ d m, (d.length ≤ 1000 ∧ 0 ≤ m ∧ m ≤ 2) ∧ z = wrE (cx nmGrep ops) 1 d 4 m S ls r o) ∧ util_engine_grep KB (zu (cx nmGrep ops) st n S ls) (cx nmGrep ops).w (rv r) o = some z by
    obtain ⟨z, ⟨d, m, ⟨h1, h2, h3⟩, rfl⟩, h4⟩ := h
    refine ⟨d, h1, .inr ⟨m, ⟨h2, h3⟩, ?_⟩⟩
    have e : util_engine_finish KB (zu (cx nmGrep ops) st n S ls) (cx nmGrep ops).w (rv r) o = (util_engine_grep KB (zu (cx nmGrep ops) st n S ls) (cx nmGrep ops).w (rv r) o).bind fun x => some (x.1, x.2.1, x.2.2.1, x.2.2.2) := rfl
    rw [e, h4]
    rfl
  unfold util_engine_grep
  have hp1 : util_element KB (cx nmGrep ops).w.foperands 0 = some p := hp1
  rw [hp1, Option.bind_some, c3, Option.bind_some, agree_self, agree_self, rq2 (by simp only [List.length_cons, List.length_nil]; omega) (by simp only [List.length_cons, List.length_nil]; omega), rq2 (by simp only [List.length_append, List.length_cons, List.length_nil]; omega) (by simp only [List.length_append, List.length_cons, List.length_nil]; omega), Option.bind_some,
    show (zu (cx nmGrep ops) st n S ls).fBuf = S from rfl, lines_eq KB S (by omega), Option.bind_some, Option.bind_some]
  refine loopF_tot _ (fun s : List (List UInt8) × Int => ∃ k : Nat, s.2 = (k : Int) ∧ k ≤ (lnB S).length ∧ s.1.length ≤ k ∧ (joB s.1).length ≤ (joB ((lnB S).take k)).length) (fun s => (lnB S).length - s.2.toNat) ?_ KB ([], 0) ⟨0, rfl, Nat.zero_le _, by simp, by simp [joB]⟩ (by show (lnB S).length - 0 < 12000; omega)
  rintro ⟨acc, i⟩ ⟨k, hi, hk, hal, haj⟩ rc hrc
  dsimp only at hi hal haj hrc ⊢
  subst hi
  by_cases hlt : k < (lnB S).length
  · have hkl : (lnB S)[k].length ≤ S.length := lnB_mem_len (List.getElem_mem hlt)
    obtain ⟨b, hb⟩ := match_tot KB (([TPatItem.mk 3 [] false []] ++ x) ++ [TPatItem.mk 3 [] false []]) (lnB S)[k] (by show _ + 300 < 12000; omega) (by show _ < 12000; omega) (by omega) (by omega) hits
    rw [ct (by omega), rq_ix hlt, Int.toNat_natCast, gd hlt, hb, Option.bind_some, show (cx nmGrep ops).w = Twords.mk ops [] 10 false from rfl, has_nil, Option.bind_some, w64s (by omega)]
    have h1 := joB_take (lnB S) k hlt
    have h2 : joB (acc ++ [(lnB S)[k]]) = joB acc ++ ((lnB S)[k] ++ [10]) := by simp [joB]
    cases (!(b == false)) with
    | true =>
      rw [cond_true, rq2 (by simp only [List.length_cons, List.length_nil]; omega) (by simp only [List.length_cons, List.length_nil]; omega)]
      refine hrc _ ⟨k + 1, rfl, hlt, by simp only [List.length_append, List.length_cons, List.length_nil]; omega, ?_⟩ (by rw [Int.toNat_natCast, Int.toNat_natCast]; omega)
      show (joB (acc ++ [(lnB S)[k]])).length ≤ _
      rw [h2, h1]
      simp only [List.length_append, List.length_cons, List.length_nil]
      omega
    | false =>
      rw [cond_false]
      refine hrc _ ⟨k + 1, rfl, hlt, by show acc.length ≤ k + 1; omega, ?_⟩ (by rw [Int.toNat_natCast, Int.toNat_natCast]; omega)
      exact Nat.le_trans haj (joB_take_le (lnB S) (Nat.le_succ k))
  · rw [cf (by omega)]
    obtain rfl : k = (lnB S).length := by omega
    rw [List.take_length] at haj
    have hlj := len_joB acc
    have fin : ∀ m : Int, 0 ≤ m → m ≤ 2 → ∃ z, (∃ d m, (d.length ≤ 1000 ∧ 0 ≤ m ∧ m ≤ 2) ∧ z = wrE (cx nmGrep ops) 1 d 4 m S ls r o) ∧
        ((util_words_has KB (Twords.mk ops [] 10 false) 113).bind fun x12 => cond x12 (some (({ (zu (cx nmGrep ops) st m S ls) with fState := 4 } : TUtil), Twords.mk ops [] 10 false, rv r, o)) ((util_words_has KB (Twords.mk ops [] 10 false) 99).bind fun x13 => cond x13 ((itoaF KB (acc.length : Int)).bind fun x14 =>
 rq (decide (x14.length + ([10] : List UInt8).length ≤ 9223372036854775807)) ((util_engine_write KB 1 (x14 ++ ([10] : List UInt8)) 4 (zu (cx nmGrep ops) st m S ls) (Twords.mk ops [] 10 false) (rv r) o).bind fun x15 =>
 some (x15.1, x15.2.1, x15.2.2.1, x15.2.2.2))) ((util_joined KB acc).bind fun x16 => (util_engine_write KB 1 x16 4 (zu (cx nmGrep ops) st m S ls) (Twords.mk ops [] 10 false) (rv r) o).bind fun x17 => some (x17.1, x17.2.1, x17.2.2.1, x17.2.2.2)))) = some z := fun m h0 h2 => by
      rw [has_nil, Option.bind_some, cond_false, has_nil, Option.bind_some, cond_false, joined_eq KB _ (by show _ < 12000; omega) (by omega), Option.bind_some]
      exact ⟨_, ⟨joB acc, m, ⟨by omega, h0, h2⟩, rfl⟩, wrb (C := cx nmGrep ops) (fd := 1) (after := 4)⟩
    cases hd : decide (0 < (acc.length : Int)) with
    | true =>
      rw [cond_true, Option.bind_some]
      show ∃ z, _ ∧ ((cond ((r.sta : Int) != 0) _ _ : Option _).bind _) = some z
      cases (r.sta : Int) != 0 with
      | true => exact fin 2 (by decide) (by decide)
      | false => exact fin 0 (by decide) (by decide)
    | false =>
      rw [cond_false, Option.bind_some]
      show ∃ z, _ ∧ ((cond ((r.sta : Int) != 0) _ _ : Option _).bind _) = some z
      cases (r.sta : Int) != 0 with
      | true => exact fin 2 (by decide) (by decide)
      | false => exact fin 1 (by decide) (by decide)
end
end Go.Proofs.YteagcbkkonabbaaGreatDoor
