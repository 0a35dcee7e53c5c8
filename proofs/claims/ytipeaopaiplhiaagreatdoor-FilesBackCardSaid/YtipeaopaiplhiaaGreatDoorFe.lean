/-
  Files, plain part 5: Put, Mkdir, Remove.
-/
import Derived.Test.YtipeaopaiplhiaaGreatDoorFd
namespace Go.Proofs.YtipeaopaiplhiaaGreatDoor
open Go.RT
set_option linter.all false

/-! ### with -/
def wS (f : TFile) : List TFile → List TFile
  | [] => [f]
  | x :: l => cond (Op.bytesLess x.fPath f.fPath) (x :: wS f l) (cond (x.fPath == f.fPath) (f :: l) (f :: x :: l))
theorem put_row {α : Type} (p r : List α) (f z : α) (n : Nat) (hn : n = p.length + 1 + r.length) :
    (((List.replicate n z).take 0 ++ p ++ (List.replicate n z).drop (0 + p.length)).set p.length f).take (p.length + 1) ++ r ++ (((List.replicate n z).take 0 ++ p ++ (List.replicate n z).drop (0 + p.length)).set p.length f).drop (p.length + 1 + r.length) = p ++ f :: r := by
  subst hn
  rw [List.take_zero, List.nil_append, Nat.zero_add, List.drop_replicate, show p.length + 1 + r.length - p.length = r.length + 1 by omega, List.replicate_succ]
  rw [List.set_append_right _ _ (Nat.le_refl _), Nat.sub_self, List.set_cons_zero]
  rw [List.take_append, List.take_of_length_le (by omega), show p.length + 1 - p.length = 1 by omega, List.drop_append, List.drop_of_length_le (by omega), show p.length + 1 + r.length - p.length = r.length + 1 by omega]
  simp
theorem row_len {α : Type} (p : List α) (f z : α) (n m : Nat) (hp : p.length ≤ n) : (((List.replicate n z).take 0 ++ p ++ (List.replicate n z).drop (0 + p.length)).set m f).length = n := by
  simp; omega
theorem with_eq (F : Nat) (l : List TFile) (f : TFile) (hF : l.length < F) (hl : l.length ≤ 1000000) : files_with F l f = some (wS f l) := by
  unfold files_with
  refine loopF_hoare (fun x => ∃ k : Nat, x = (k : Int) ∧ k ≤ l.length ∧ wS f l = l.take k ++ wS f (l.drop k)) (fun x => l.length - x.toNat) ?_ F _ ⟨0, rfl, by omega, by simp⟩ (by simpa using hF)
  rintro x ⟨k, rfl, h1, h2⟩
  have fin : ∀ (r : List TFile) (x3 : Bool), (cond (decide (0 < ((sl l (k : Int) (l.length : Int)).length : Int)))
 (rq (decide (0 < ((sl l (k : Int) (l.length : Int)).length : Int))) (some ((((sl l (k : Int) (l.length : Int)).getD 0 dTFile).fPath) == f.fPath)))
 (some false) : Option Bool) = some x3 → cond x3 ((l.drop k).drop 1) (l.drop k) = r → (x3 = true → 1 ≤ (l.drop k).length) → wS f l = l.take k ++ f :: r →
    (rq ((decide (0 ≤ (k : Int))) && ((decide ((k : Int) ≤ (l.length : Int))) && (decide ((l.length : Int) ≤ (l.length : Int))))) (((cond (decide (0 < ((sl l (k : Int) (l.length : Int)).length : Int)))
 (rq (decide (0 < ((sl l (k : Int) (l.length : Int)).length : Int))) (some ((((sl l (k : Int) (l.length : Int)).getD 0 dTFile).fPath) == f.fPath)))
 (some false) : Option Bool).bind fun x5 =>
 cond x5
 (rq ((decide (1 ≤ ((sl l (k : Int) (l.length : Int)).length : Int))) && (decide (((sl l (k : Int) (l.length : Int)).length : Int) ≤ ((sl l (k : Int) (l.length : Int)).length : Int)))) (some (sl (sl l (k : Int) (l.length : Int)) 1 ((sl l (k : Int) (l.length : Int)).length : Int))))
 (some (sl l (k : Int) (l.length : Int))) : Option (List TFile)).bind fun x4 =>
 rq ((decide (0 ≤ w64 ((w64 ((k : Int) + 1)) + (x4.length : Int)))) && ((decide (w64 ((w64 ((k : Int) + 1)) + (x4.length : Int)) ≤ w64 ((w64 ((k : Int) + 1)) + (x4.length : Int)))) && ((decide (0 < w64 ((w64 ((k : Int) + 1)) + (x4.length : Int)))) && ((decide (w64 ((w64 ((k : Int) + 1)) + (x4.length : Int)) ≤ 9223372036854775807)) && (decide ((40 : Int) * (w64 ((w64 ((k : Int) + 1)) + (x4.length : Int))) ≤ 140737488355328)))))) (rq ((decide (0 ≤ (k : Int))) && (decide ((k : Int) ≤ (l.length : Int)))) (rq ((Nat.blt 0 (List.replicate (Int.toNat (w64 ((w64 ((k : Int) + 1)) + (x4.length : Int)))) (TFile.mk [] false [])).length) && (Nat.ble (sl l 0 (k : Int)).length ((List.replicate (Int.toNat (w64 ((w64 ((k : Int) + 1)) + (x4.length : Int)))) (TFile.mk [] false [])).length))) (rq ((decide (0 ≤ (k : Int))) && (decide ((k : Int) < (((List.replicate (Int.toNat (w64 ((w64 ((k : Int) + 1)) + (x4.length : Int)))) (TFile.mk [] false [])).take 0 ++ (sl l 0 (k : Int)) ++ (List.replicate (Int.toNat (w64 ((w64 ((k : Int) + 1)) + (x4.length : Int)))) (TFile.mk [] false [])).drop (0 + (sl l 0 (k : Int)).length)).length : Int)))) (rq ((Nat.blt 0 (((List.replicate (Int.toNat (w64 ((w64 ((k : Int) + 1)) + (x4.length : Int)))) (TFile.mk [] false [])).take 0 ++ (sl l 0 (k : Int)) ++ (List.replicate (Int.toNat (w64 ((w64 ((k : Int) + 1)) + (x4.length : Int)))) (TFile.mk [] false [])).drop (0 + (sl l 0 (k : Int)).length)).set (Int.toNat (k : Int)) f).length) && ((decide (0 ≤ w64 ((k : Int) + 1))) && ((decide (w64 ((k : Int) + 1) ≤ ((((List.replicate (Int.toNat (w64 ((w64 ((k : Int) + 1)) + (x4.length : Int)))) (TFile.mk [] false [])).take 0 ++ (sl l 0 (k : Int)) ++ (List.replicate (Int.toNat (w64 ((w64 ((k : Int) + 1)) + (x4.length : Int)))) (TFile.mk [] false [])).drop (0 + (sl l 0 (k : Int)).length)).set (Int.toNat (k : Int)) f).length : Int))) && (decide (((((List.replicate (Int.toNat (w64 ((w64 ((k : Int) + 1)) + (x4.length : Int)))) (TFile.mk [] false [])).take 0 ++ (sl l 0 (k : Int)) ++ (List.replicate (Int.toNat (w64 ((w64 ((k : Int) + 1)) + (x4.length : Int)))) (TFile.mk [] false [])).drop (0 + (sl l 0 (k : Int)).length)).set (Int.toNat (k : Int)) f).length : Int) ≤ ((((List.replicate (Int.toNat (w64 ((w64 ((k : Int) + 1)) + (x4.length : Int)))) (TFile.mk [] false [])).take 0 ++ (sl l 0 (k : Int)) ++ (List.replicate (Int.toNat (w64 ((w64 ((k : Int) + 1)) + (x4.length : Int)))) (TFile.mk [] false [])).drop (0 + (sl l 0 (k : Int)).length)).set (Int.toNat (k : Int)) f).length : Int)))))) (rq (Nat.ble x4.length (Int.toNat ((((List.replicate (Int.toNat (w64 ((w64 ((k : Int) + 1)) + (x4.length : Int)))) (TFile.mk [] false [])).take 0 ++ (sl l 0 (k : Int)) ++ (List.replicate (Int.toNat (w64 ((w64 ((k : Int) + 1)) + (x4.length : Int)))) (TFile.mk [] false [])).drop (0 + (sl l 0 (k : Int)).length)).set (Int.toNat (k : Int)) f).length : Int) - Int.toNat (w64 ((k : Int) + 1)))) (some ((((List.replicate (Int.toNat (w64 ((w64 ((k : Int) + 1)) + (x4.length : Int)))) (TFile.mk [] false [])).take 0 ++ (sl l 0 (k : Int)) ++ (List.replicate (Int.toNat (w64 ((w64 ((k : Int) + 1)) + (x4.length : Int)))) (TFile.mk [] false [])).drop (0 + (sl l 0 (k : Int)).length)).set (Int.toNat (k : Int)) f).take (Int.toNat (w64 ((k : Int) + 1))) ++ x4 ++ (((List.replicate (Int.toNat (w64 ((w64 ((k : Int) + 1)) + (x4.length : Int)))) (TFile.mk [] false [])).take 0 ++ (sl l 0 (k : Int)) ++ (List.replicate (Int.toNat (w64 ((w64 ((k : Int) + 1)) + (x4.length : Int)))) (TFile.mk [] false [])).drop (0 + (sl l 0 (k : Int)).length)).set (Int.toNat (k : Int)) f).drop ((Int.toNat (w64 ((k : Int) + 1))) + x4.length))))))))) : Option (List TFile)) = some (wS f l) := by
    intro r x3 e1 e2 e3 e4
    rw [rq3 (by omega) (by omega) (by omega), e1, Option.bind_some, sl_full, e4]
    have hx : (cond x3 (rq ((decide (1 ≤ ((l.drop k).length : Int))) && (decide (((l.drop k).length : Int) ≤ ((l.drop k).length : Int)))) (some (sl (l.drop k) 1 ((l.drop k).length : Int)))) (some (l.drop k)) : Option (List TFile)) = some r := by
      cases x3 with
      | false => rw [cond_false] at e2 ⊢; rw [e2]
      | true =>
        have := e3 rfl
        rw [cond_true] at e2 ⊢
        rw [rq2 (by omega) (by omega), sl_one, e2]
    rw [hx, Option.bind_some]
    have hr : r.length ≤ l.length := by
      rw [← e2]
      cases x3
      · simp
      · simp
    have hp : (l.take k).length = k := by simp; omega
    have hn : w64 ((w64 ((k : Int) + 1)) + (r.length : Int)) = ((k + 1 + r.length : Nat) : Int) := by
      rw [w64s (by omega), w64_in (by omega)]; omega
    rw [hn, w64s (by omega), sl_zero, Int.toNat_natCast, Int.toNat_natCast, Int.toNat_natCast, hp]
    have hrl : ∀ m, (((List.replicate (k + 1 + r.length) (TFile.mk [] false [])).take 0 ++ l.take k ++ (List.replicate (k + 1 + r.length) (TFile.mk [] false [])).drop (0 + k)).set m f).length = k + 1 + r.length := fun m => by
      have := row_len (l.take k) f (TFile.mk [] false []) (k + 1 + r.length) m (by omega)
      rw [hp] at this
      exact this
    have hrl0 : ((List.replicate (k + 1 + r.length) (TFile.mk [] false [])).take 0 ++ l.take k ++ (List.replicate (k + 1 + r.length) (TFile.mk [] false [])).drop (0 + k)).length = k + 1 + r.length := by
      have := hrl 0
      rwa [List.length_set] at this
    rw [hrl, hrl0]
    rw [rq_true (by rw [dT (by omega), dT (by omega), dT (by omega), dT (by omega), dT (by omega)]; rfl), rq2 (by omega) (by omega), rq_true (by rw [List.length_replicate, blt_t (by omega), Nat.ble_eq_true_of_le (by omega)]; rfl), rq2 (by omega) (by omega), rq_true (by rw [blt_t (by omega), dT (by omega), dT (by omega), dT (by omega)]; rfl), rq_true (by rw [Int.toNat_natCast]; exact Nat.ble_eq_true_of_le (by omega))]
    have := put_row (l.take k) r f (TFile.mk [] false []) (k + 1 + r.length) (by rw [hp])
    rw [hp] at this
    rw [Int.toNat_natCast, this]
  by_cases hk : k < l.length
  · rw [List.drop_eq_getElem_cons hk, wS] at h2
    cases hb : Op.bytesLess l[k].fPath f.fPath with
    | true =>
      left
      rw [hb, cond_true] at h2
      refine ⟨_, ⟨k + 1, rfl, by omega, by rw [h2, List.take_succ_eq_append_getElem hk, List.append_assoc]; rfl⟩, by simp; omega, fun rc => ?_⟩
      rw [ct (by omega), rq2 (by omega) (by omega), Int.toNat_natCast, gd hk, hb, Option.bind_some, cond_true, w64s (by omega)]
    | false =>
      right
      rw [hb, cond_false] at h2
      intro rc
      rw [ct (by omega), rq2 (by omega) (by omega), show l.getD (Int.toNat (k : Int)) dTFile = l[k] by rw [Int.toNat_natCast, gd hk], hb, Option.bind_some, cond_false]
      have hd : (sl l (k : Int) (l.length : Int)) = l[k] :: l.drop (k + 1) := by rw [sl_full, List.drop_eq_getElem_cons hk]
      refine fin (cond (l[k].fPath == f.fPath) (l.drop (k + 1)) (l[k] :: l.drop (k + 1))) (l[k].fPath == f.fPath) ?_ ?_ ?_ ?_
      · rw [hd, ct (by simp; omega), rq1 (by simp; omega)]; rfl
      · rw [List.drop_eq_getElem_cons hk]
        cases (l[k].fPath == f.fPath) <;> simp
      · intro _; simp; omega
      · rw [h2]
        cases (l[k].fPath == f.fPath) <;> rfl
  · obtain rfl : k = l.length := by omega
    right
    intro rc
    rw [cf (by omega), Option.bind_some, cond_false]
    refine fin [] false ?_ ?_ ?_ ?_
    · rw [sl_full, List.drop_length]; rfl
    · rw [List.drop_length]; rfl
    · intro h; cases h
    · rw [h2, List.drop_length, wS]
theorem ins_with {f : TFile} : ∀ {l : List TFile}, Asc l → insS f (l.filter fun x => !(isP f.fPath x)) = wS f l
  | [], _ => rfl
  | x :: l, h => by
    rw [Asc, List.pairwise_cons] at h
    have keep : ∀ (q : TFile) (m : List TFile), (∀ y ∈ m, q.fPath < y.fPath) → (f.fPath = q.fPath ∨ f.fPath < q.fPath) → m.filter (fun x => !(isP f.fPath x)) = m := by
      intro q m hm hq
      rw [List.filter_eq_self]
      intro y hy
      unfold isP
      rw [Bool.not_eq_true', beq_eq_false_iff_ne]
      intro e
      have := hm y hy
      rw [e] at this
      rcases hq with hq | hq
      · rw [hq] at this; exact lt_irrefl' _ this
      · exact lt_irrefl' _ (lt_trans' this hq)
    rw [wS]
    rcases lt_tri x.fPath f.fPath with q | q | q
    · have e1 : isP f.fPath x = false := by
        unfold isP; rw [beq_eq_false_iff_ne]; intro e; rw [e] at q; exact lt_irrefl' _ q
      have e2 : Op.bytesLess f.fPath x.fPath = false := (bl_not _ _).2 fun h' => lt_irrefl' _ (lt_trans' q h')
      rw [List.filter_cons_of_pos (by rw [e1]; rfl), insS, e2, (bl_lt _ _).2 q, cond_false, cond_true, ins_with h.2]
    · have e1 : isP f.fPath x = true := by unfold isP; rw [q]; exact beq_self_eq_true _
      have e2 : Op.bytesLess x.fPath f.fPath = false := (bl_not _ _).2 (by rw [q]; exact lt_irrefl' _)
      have e3 : (x.fPath == f.fPath) = true := e1
      rw [List.filter_cons_of_neg (by rw [e1]; simp), e2, e3, cond_false, cond_true, keep x l h.1 (.inl q.symm)]
      cases l with
      | nil => rfl
      | cons y l =>
        have := h.1 y (by simp)
        rw [q] at this
        rw [insS, (bl_lt _ _).2 this, cond_true]
    · have e1 : isP f.fPath x = false := by
        unfold isP; rw [beq_eq_false_iff_ne]; intro e; rw [e] at q; exact lt_irrefl' _ q
      have e2 : Op.bytesLess x.fPath f.fPath = false := (bl_not _ _).2 fun h' => lt_irrefl' _ (lt_trans' q h')
      have e3 : (x.fPath == f.fPath) = false := e1
      rw [List.filter_cons_of_pos (by rw [e1]; rfl), e2, e3, cond_false, cond_false, keep x l h.1 (.inr q), insS, (bl_lt _ _).2 q, cond_true]
theorem no_filter {l : List TFile} {p : List UInt8} (h : hasS l p = false) : l.filter (fun x => !(isP p x)) = l := by
  rw [List.filter_eq_self]
  intro y hy
  unfold hasS at h
  have := List.any_eq_false.1 h y hy
  simpa using this

/-! ### without, in place -/
theorem delete_eq (F : Nat) (p : List UInt8) (l : List TFile) (hF : l.length < F) (hl : l.length ≤ 1000000) : slices_DeleteFunc F p l = some (l.filter fun f => !(isP p f)) := by
  unfold slices_DeleteFunc
  have hix : slices_IndexFunc_1 F p l = some (fiS l p, l) := by
    unfold slices_IndexFunc_1 fiS
    rw [loopF_srch l (fun i => ((i : Int), l)) (isP p) (fun i _ => some ((i : Int), l)) (some (-1, l)) hF (by rfl) (fun i h rc => ?_) (fun rc => ?_), srch_idx _ _ _ dTFile]
    · cases l.findIdx? (isP p) <;> simp
    · dsimp only
      rw [ct (by omega), rq2 (by omega) (by omega), Int.toNat_natCast, gd h, w64s (by omega)]
      rfl
    · dsimp only
      rw [cf (by omega)]
  rw [hix, Option.bind_some]
  have hfi : (fiS l p = -1 ∧ hasS l p = false) ∨ ∃ j : Nat, j < l.length ∧ fiS l p = (j : Int) ∧ isP p (l.getD j dTFile) = true ∧ ∀ i, i < j → isP p (l.getD i dTFile) = false := by
    unfold fiS
    rcases h : l.findIdx? (isP p) with _ | j
    · refine .inl ⟨rfl, ?_⟩
      rcases idx_find0 l p with ⟨-, -, h3⟩ | ⟨j, -, h1, -⟩
      · exact h3
      · rw [h] at h1; cases h1
    · rw [List.findIdx?_eq_some_iff_getElem] at h
      obtain ⟨h1, h2, h3⟩ := h
      exact .inr ⟨j, h1, rfl, by rw [gd h1]; exact h2, fun i hi => by rw [gd (by omega)]; simpa using h3 i hi⟩
  rcases hfi with ⟨h1, h3⟩ | ⟨j, h0, h1, h2, h3⟩
  · rw [h1]
    rw [show ((-1 : Int) == -1) = true from rfl, cond_true, no_filter h3]
  · rw [h1]
    have : ((j : Int) == -1) = false := by rw [beq_eq_false_iff_ne]; omega
    rw [this, cond_false, w64s (by omega)]
    refine loopF_hoare (fun x => ∃ i k : Nat, x.1 = (i : Int) ∧ x.2.1 = (k : Int) ∧ i < k ∧ k ≤ l.length ∧ x.2.2.length = l.length ∧ x.2.2.take i = (l.take k).filter (fun f => !(isP p f)) ∧ x.2.2.drop k = l.drop k) (fun x => l.length - x.2.1.toNat) ?_ F _ ⟨j, j + 1, rfl, rfl, by omega, by omega, rfl, ?_, rfl⟩ (by simp; omega)
    · rintro ⟨ii, kk, s⟩ ⟨i, k, e1, e2, q1, q2, q3, q4, q5⟩
      dsimp only at e1 e2 q3 q4 q5 ⊢
      subst e1 e2
      by_cases hk : k < l.length
      · left
        have hsk : s.getD k dTFile = l[k] := by
          have : s.drop k = l.drop k := q5
          rw [List.drop_eq_getElem_cons (show k < s.length by omega), List.drop_eq_getElem_cons hk] at this
          rw [gd (show k < s.length by omega)]
          exact (List.cons.inj this).1
        have hd1 : s.drop (k + 1) = l.drop (k + 1) := by
          have : s.drop k = l.drop k := q5
          rw [List.drop_eq_getElem_cons (show k < s.length by omega), List.drop_eq_getElem_cons hk] at this
          exact (List.cons.inj this).2
        cases hp : isP p l[k] with
        | false =>
          refine ⟨(((i + 1 : Nat) : Int), ((k + 1 : Nat) : Int), s.set i l[k]), ⟨i + 1, k + 1, rfl, rfl, by omega, by omega, by simpa using q3, ?_, ?_⟩, by simp; omega, fun rc => ?_⟩
          · rw [List.take_succ_eq_append_getElem hk, List.filter_append, ← q4, List.take_succ_eq_append_getElem (show i < (s.set i l[k]).length by simp; omega), List.take_set_of_le (Nat.le_refl _)]
            simp [hp]
          · rw [List.drop_set_of_lt (by omega)]; exact hd1
          · rw [ct (by omega), rq2 (by omega) (by omega), Int.toNat_natCast, hsk, show files_without_1 F l[k] p = some (isP p l[k]) from rfl, Option.bind_some, hp, Bool.not_false, cond_true, rq2 (by omega) (by omega), w64s (by omega), w64s (by omega), Int.toNat_natCast]
        | true =>
          refine ⟨((i : Int), ((k + 1 : Nat) : Int), s), ⟨i, k + 1, rfl, rfl, by omega, by omega, q3, ?_, hd1⟩, by simp; omega, fun rc => ?_⟩
          · rw [List.take_succ_eq_append_getElem hk, List.filter_append, ← q4]
            simp [hp]
          · rw [ct (by omega), rq2 (by omega) (by omega), Int.toNat_natCast, hsk, show files_without_1 F l[k] p = some (isP p l[k]) from rfl, Option.bind_some, hp, Bool.not_true, cond_false, w64s (by omega)]
      · right
        obtain rfl : k = l.length := by omega
        intro rc
        rw [cf (by omega), rq_true (by rw [blt_t (by omega), dT (by omega), dT (by omega), dT (by omega)]; rfl)]
        rw [rq2 (by omega) (by simp; omega), Int.toNat_natCast, List.take_length] at *
        congr 1
        rw [List.append_assoc, List.take_append, List.length_take, show min i s.length = i by omega, Nat.sub_self, List.take_zero, List.append_nil, List.take_take, Nat.min_self]
        exact q4
    · dsimp only
      rw [List.take_succ_eq_append_getElem h0, List.filter_append]
      rw [gd h0] at h2
      have : (l.take j).filter (fun f => !(isP p f)) = l.take j := by
        rw [List.filter_eq_self]
        intro y hy
        obtain ⟨q, hq, e⟩ := List.getElem_of_mem hy
        rw [List.getElem_take] at e
        have hq' : q < j := by simp at hq; omega
        have := h3 q hq'
        rw [gd (by omega), e] at this
        rw [this]; rfl
      rw [this]
      simp [h2]
theorem without_eq (F : Nat) (l : List TFile) (p : List UInt8) (hF : l.length < F) (hl : l.length ≤ 1000000) (h0 : 0 < l.length) : files_without F l p = some (l.filter fun f => !(isP p f)) := by
  unfold files_without
  rw [rq_true (by rw [dT (by omega), dT (by omega), dT (by omega), dT (by omega), dT (by omega)]; rfl), rq_true (by rw [Int.toNat_natCast, List.length_replicate, blt_t h0, Nat.ble_eq_true_of_le (Nat.le_refl _)]; rfl)]
  rw [show ((List.replicate (Int.toNat (l.length : Int)) (TFile.mk [] false [])).take 0 ++ l ++ (List.replicate (Int.toNat (l.length : Int)) (TFile.mk [] false [])).drop (0 + l.length)) = l by simp, delete_eq F p l hF hl]
  rfl

/-! ### inside, holds -/
theorem holds_eq (F : Nat) (l : List TFile) (p : List UInt8) (hF : 1000 ≤ F) (hl : l.length ≤ 140) (hm : ∀ f ∈ l, f.fPath.length ≤ 300) : ref19_holds F l p = some (l.any (kidS p)) := by
  unfold ref19_holds
  rw [loopF_srch l (fun i => (i : Int)) (kidS p) (fun _ _ => some true) (some false) (by omega) (by rfl) (fun i h rc => ?_) (fun rc => ?_), srch_any, cond_som, cI]
  · have := hm _ (List.getElem_mem h)
    rw [ct (by omega)]
    simp only [rq2 (show 0 ≤ (i : Int) by omega) (show (i : Int) < (l.length : Int) by omega), Int.toNat_natCast, gd h, ref_parent F l[i].fPath (by omega) (by omega), Option.bind_some, cond_som, cF]
    rw [w64s (by omega)]
    rfl
  · rw [cf (by omega)]
theorem inside_eq (F : Nat) (l : List TFile) (p : List UInt8) (hF : 1000 ≤ F) (hl : l.length ≤ 140) (hm : ∀ f ∈ l, f.fPath.length ≤ 300) : files_inside F l p = some (l.any (kidS p)) := by
  unfold files_inside slices_ContainsFunc slices_IndexFunc
  rw [loopF_srch l (fun i => (i : Int)) (kidS p) (fun i _ => some (i : Int)) (some (-1)) (by omega) (by rfl) (fun i h rc => ?_) (fun rc => ?_), srch_idx _ _ _ dTFile]
  · have : ∀ (m : List TFile), (m.findIdx? (kidS p) = none ∧ m.any (kidS p) = false) ∨ ∃ j, m.findIdx? (kidS p) = some j ∧ m.any (kidS p) = true := by
      intro m
      induction m with
      | nil => exact .inl ⟨rfl, rfl⟩
      | cons x m ih =>
        rw [List.findIdx?_cons, List.any_cons]
        cases kidS p x with
        | true => exact .inr ⟨0, by simp, rfl⟩
        | false =>
          rcases ih with ⟨h1, h2⟩ | ⟨j, h1, h2⟩
          · exact .inl ⟨by simp [h1], by simp [h2]⟩
          · exact .inr ⟨j + 1, by simp [h1], by simp [h2]⟩
    rcases this l with ⟨h1, h2⟩ | ⟨j, h1, h2⟩
    · rw [h1, h2]; rfl
    · rw [h1, h2]
      simp only [Option.elim, Nat.zero_add, Option.bind_some]
      rw [dT (by omega)]
  · have := hm _ (List.getElem_mem h)
    rw [ct (by omega), rq2 (by omega) (by omega), Int.toNat_natCast, gd h, w64s (by omega)]
    unfold files_inside_1
    rw [parent_eq F _ (by omega), Option.bind_some, cond_som, cF, Option.bind_some]
    rfl
  · rw [cf (by omega)]

/-! ### Put, Mkdir, Remove -/
def putS (l : List TFile) (p d : List UInt8) : List TFile × Int :=
  cond (!pathS p) (l, 10) (cond (decide (8192 < d.length)) (l, 3) (cond ((findS l p).elim false fun f => f.fDir) (l, 17) (cond (perrS l p != 0) (l, perrS l p) (cond (!(hasS l p) && decide (128 ≤ l.length)) (l, 4) (wS (TFile.mk p false d) l, 0)))))
def mkdirS (l : List TFile) (p : List UInt8) : List TFile × Int :=
  cond (!pathS p) (l, 10) (cond (hasS l p) (l, 9) (cond (perrS l p != 0) (l, perrS l p) (cond (decide (128 ≤ l.length)) (l, 4) (wS (TFile.mk p true []) l, 0))))
def removeS (l : List TFile) (p : List UInt8) : List TFile × Int :=
  cond (!pathS p) (l, 10) (cond (p == [47]) (l, 23) (cond (!(hasS l p)) (l, 8) (cond (l.any (kidS p)) (l, 19) (l.filter (fun f => !(isP p f)), 0))))
theorem find_has (l : List TFile) (p : List UInt8) : (((findS l p).elim (TFile.mk [] false [], false) fun f => (f, true)) : TFile × Bool).2 = hasS l p := by
  rcases idx_find l p with ⟨h1, h2, h3⟩ | ⟨j, h0, h1, h2, h3⟩
  · rw [h2, h3]; rfl
  · rw [h2, h3]; rfl
theorem put_eq (F : Nat) (l : List TFile) (p d : List UInt8) (hF : 1000 ≤ F) (hp : p.length ≤ 600) (h : SmallL l) : files_Put F l p d = some (putS l p d) := by
  have hl := h.1
  unfold files_Put putS
  rw [path_eq F p (by omega), find_eq F l p (by omega) (by omega), perr_eq F l p (by omega) (by omega) (by omega) (fun f hf => by have := (h.2 f hf).1; omega), with_eq F l _ (by omega) (by omega)]
  simp only [Option.bind_some, cond_som, cF, find_has]
  rw [show decide (8192 < ((d.length : Nat) : Int)) = decide (8192 < d.length) from dbig _ 8192]
  rw [show decide (128 ≤ ((l.length : Nat) : Int)) = decide (128 ≤ l.length) by rw [Bool.eq_iff_iff]; simp only [decide_eq_true_eq]; omega]
  rw [show (hasS l p && (((findS l p).elim (TFile.mk [] false [], false) fun f => (f, true)) : TFile × Bool).1.fDir) = (findS l p).elim false fun f => f.fDir by
    rcases idx_find l p with ⟨h1, h2, h3⟩ | ⟨j, h0, h1, h2, h3⟩
    · rw [h2, h3]; rfl
    · rw [h2, h3]; rfl]
theorem mkdir_eq (F : Nat) (l : List TFile) (p : List UInt8) (hF : 1000 ≤ F) (hp : p.length ≤ 600) (h : SmallL l) : files_Mkdir F l p = some (mkdirS l p) := by
  have hl := h.1
  unfold files_Mkdir mkdirS
  rw [path_eq F p (by omega), find_eq F l p (by omega) (by omega), perr_eq F l p (by omega) (by omega) (by omega) (fun f hf => by have := (h.2 f hf).1; omega), with_eq F l _ (by omega) (by omega)]
  simp only [Option.bind_some, cond_som, find_has]
  rw [show decide (128 ≤ ((l.length : Nat) : Int)) = decide (128 ≤ l.length) by rw [Bool.eq_iff_iff]; simp only [decide_eq_true_eq]; omega]
theorem remove_eq (F : Nat) (l : List TFile) (p : List UInt8) (hF : 1000 ≤ F) (h : SmallL l) : files_Remove F l p = some (removeS l p) := by
  have hl := h.1
  unfold files_Remove removeS
  rw [path_eq F p (by omega), find_eq F l p (by omega) (by omega), inside_eq F l p (by omega) (by omega) fun f hf => (h.2 f hf).1]
  simp only [Option.bind_some, find_has]
  cases hh : hasS l p with
  | false =>
    simp only [cond_som, Bool.not_false, cond_true]
  | true =>
    have h0 : 0 < l.length := by
      cases l with
      | nil => cases hh
      | cons x l => simp
    rw [without_eq F l p (by omega) (by omega) h0]
    simp only [Option.bind_some, cond_som]
theorem w_len (f : TFile) : ∀ (l : List TFile), (wS f l).length ≤ l.length + 1
  | [] => by simp [wS]
  | x :: l => by
    have := w_len f l
    rw [wS]
    cases Op.bytesLess x.fPath f.fPath
    · cases (x.fPath == f.fPath) <;> simp
    · simp; omega
theorem put_len (l : List TFile) (p d : List UInt8) : (putS l p d).1.length ≤ l.length + 1 := by
  have := w_len (TFile.mk p false d) l
  unfold putS
  cases pathS p
  · simp
  · cases decide (8192 < d.length)
    · cases ((findS l p).elim false fun f => f.fDir)
      · cases (perrS l p != 0)
        · cases (!(hasS l p) && decide (128 ≤ l.length))
          · simpa using this
          · simp
        · simp
      · simp
    · simp
theorem mkdir_len (l : List TFile) (p : List UInt8) : (mkdirS l p).1.length ≤ l.length + 1 := by
  have := w_len (TFile.mk p true []) l
  unfold mkdirS
  cases pathS p
  · simp
  · cases hasS l p
    · cases (perrS l p != 0)
      · cases decide (128 ≤ l.length)
        · simpa using this
        · simp
      · simp
    · simp
theorem remove_len (l : List TFile) (p : List UInt8) : (removeS l p).1.length ≤ l.length := by
  have := List.length_filter_le (fun f => !(isP p f)) l
  unfold removeS
  cases pathS p
  · simp
  · cases (p == [47])
    · cases hasS l p
      · simp
      · cases l.any (kidS p)
        · simpa using this
        · simp
    · simp
end Go.Proofs.YtipeaopaiplhiaaGreatDoor
