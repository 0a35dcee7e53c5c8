/-
  UtilHeads: head writes a prefix of its input.
-/
import Derived.Test.YteagcbkkonabbaaGreatDoorUc
namespace Go.Proofs.YteagcbkkonabbaaGreatDoor
open Go.RT
set_option linter.all false

/-- How many bytes: through the k-th line feed. -/
def cutLen : Nat → List UInt8 → Nat
  | _, [] => 0
  | k, b :: l => if b = 10 then (if k ≤ 1 then 1 else 1 + cutLen (k - 1) l) else 1 + cutLen k l
theorem cutLen_ok : ∀ (l : List UInt8) (k : Nat), 1 ≤ k → k ≤ l.count 10 → 1 ≤ cutLen k l ∧ cutLen k l ≤ l.length ∧ (l.take (cutLen k l)).count 10 = k ∧ l.getD (cutLen k l - 1) 0 = 10
  | [], k, h1, h2 => by simp at h2; omega
  | b :: l, k, h1, h2 => by
    unfold cutLen
    by_cases hb : b = 10
    · subst hb
      rw [if_pos rfl]
      by_cases hk : k ≤ 1
      · rw [if_pos hk]
        have : k = 1 := by omega
        subst this
        simp
      · rw [if_neg hk]
        have hc : k - 1 ≤ l.count 10 := by rw [List.count_cons_self] at h2; omega
        obtain ⟨q1, q2, q3, q4⟩ := cutLen_ok l (k - 1) (by omega) hc
        refine ⟨by omega, by simp only [List.length_cons]; omega, ?_, ?_⟩
        · rw [Nat.add_comm, List.take_succ_cons, List.count_cons_self, q3]; omega
        · rw [show 1 + cutLen (k - 1) l - 1 = (cutLen (k - 1) l - 1) + 1 by omega, List.getD_cons_succ]; exact q4
    · rw [if_neg hb]
      have hc : k ≤ l.count 10 := by rw [List.count_cons_of_ne hb] at h2; exact h2
      obtain ⟨q1, q2, q3, q4⟩ := cutLen_ok l k h1 hc
      refine ⟨by omega, by simp only [List.length_cons]; omega, ?_, ?_⟩
      · rw [Nat.add_comm, List.take_succ_cons, List.count_cons_of_ne hb, q3]
      · rw [show 1 + cutLen k l - 1 = (cutLen k l - 1) + 1 by omega, List.getD_cons_succ]; exact q4

theorem feeds_eq (F : Nat) (l : List UInt8) (hF : l.length < F) (hl : l.length ≤ 1000000) : law31_feeds F l = some ((l.count 10 : Nat) : Int) := by
  unfold law31_feeds
  refine loopF_seq (fun i => ((((l.take i).count 10 : Nat) : Int), (i : Int))) l.length hF rfl (fun i rc hi => ?_) (fun rc => ?_)
  · dsimp only
    have hcl : (l.take i).count 10 ≤ i := Nat.le_trans List.count_le_length (by simp; omega)
    rw [ct (by omega), rq2 (by omega) (by omega), Int.toNat_natCast, gd hi, w64_nat (by omega), w64_nat (by omega), List.take_succ_eq_append_getElem hi, List.count_append]
    rw [show (((l[i].toNat : Int)) == 10) = (l[i] == 10) from u8lit l[i] 10 (by omega)]
    by_cases hb : l[i] = 10
    · rw [hb]
      rfl
    · have e1 : (l[i] == (10 : UInt8)) = false := beq_false_of_ne hb
      rw [e1, cond_false, List.count_singleton, e1]
      rfl
  · dsimp only
    rw [cf (by omega), List.take_length]

abbrev nmHead : List UInt8 := [104, 101, 97, 100]
def hArgs (n : Nat) : List (List UInt8) := [nmHead, [45, 110], Lib.itoa (n : Int)]
def hu (n : Nat) (st : Int) (out : List UInt8) (ls : List (List UInt8)) : TUtil := TUtil.mk nmHead (hArgs n) [] st 0 [] ls out
def hw (n : Nat) : Twords := Twords.mk [] [110] (n : Int) false
def hr (af fd it lf sp : Nat) : TAinti648 := ((af : Int), ((fd : Int), (0, ((it : Int), (0, (0, ((lf : Int), ((sp : Int), ()))))))))
theorem smR_hr {af fd it lf sp : Nat} (h1 : af < 1000) (h2 : fd < 1000) (h3 : it < 1000) (h4 : lf < 1000) (h5 : sp < 1000) : smR (hr af fd it lf sp) := by
  intro n hn
  simp only [rl, hr, List.mem_cons, List.not_mem_nil, or_false] at hn
  unfold sm
  omega
abbrev KF : Nat := 12000
def splitOk (n : Nat) : Bool := match util_split KF nmHead [[45, 110], Lib.itoa (n : Int)] with
  | some w => w.foperands.isEmpty && (w.fletters == [110] && (w.fcount == (n : Int) && (!w.fbad && Nat.ble (Lib.itoa (n : Int)).length 10)))
  | none => false
set_option maxRecDepth 100000 in
theorem split101 : ∀ n : Fin 101, splitOk n.val = true := by decide +kernel
theorem h_split {n : Nat} (hn : n ≤ 100) : util_split KF nmHead (sl (hArgs n) 1 ((hArgs n).length : Int)) = some (hw n) ∧ (Lib.itoa (n : Int)).length ≤ 10 := by
  have h := split101 ⟨n, by omega⟩
  unfold splitOk at h
  dsimp only at h
  have e : sl (hArgs n) 1 ((hArgs n).length : Int) = [[45, 110], Lib.itoa (n : Int)] := rfl
  rw [e]
  cases hs : util_split KF nmHead [[45, 110], Lib.itoa (n : Int)] with
  | none => rw [hs] at h; cases h
  | some w =>
    rw [hs] at h
    obtain ⟨o, l, c, b⟩ := w
    simp only [Bool.and_eq_true, List.isEmpty_iff, Bool.not_eq_true'] at h
    obtain ⟨h1, h2, h3, h4, h5⟩ := h
    have h2 : l = [110] := by simpa using h2
    have h3 : c = (n : Int) := by simpa using h3
    subst h1 h2 h3 h4
    exact ⟨rfl, Nat.le_of_ble_eq_true h5⟩

section
variable {F n : Nat} {a : TAns} {af fd it lf sp : Nat} {ls : List (List UInt8)}
theorem h_ins (st : Int) (out : List UInt8) (r : TAinti648) : util_engine_inputs F (hu n st out ls) (hw n) r [] = some [[45]] := rfl

/-- What head does with bytes that were read. -/
theorem head_eq {d : List UInt8} (hd : d.length < F) (hd2 : d.length ≤ 1000) (h1 : 1 ≤ lf) (hl : lf < 1000) (hne : d ≠ []) :
    util_engine_head F d (hu n 13 [] ls) (hw n) (hr af fd it lf 0) [] =
      some (if d.count 10 < lf then (hu n 1 d ls, hw n, hr 12 1 it (lf - d.count 10) 0, []) else (hu n 1 (d.take (cutLen lf d)) ls, hw n, hr 15 1 it 0 1, [])) := by
  unfold util_engine_head
  have key : ∀ (l : List UInt8) (i k G : Nat), d.drop i = l → i + l.length = d.length → 1 ≤ k → k ≤ lf → l.length < G →
      loopF (σ := Int × TUtil × Twords × TAinti648 × (List Int)) (R := TUtil × Twords × TAinti648 × (List Int)) (fun rc2 x1 =>
 cond (decide (x1.1 < (d.length : Int)))
 (rq ((decide (0 ≤ x1.1)) && (decide (x1.1 < (d.length : Int)))) (cond (((d.getD (Int.toNat x1.1) 0).toNat : Int) != 10)
 (rc2 (w64 (x1.1 + 1), x1.2.1, x1.2.2.1, x1.2.2.2.1, x1.2.2.2.2))
 (cond ((w64 (x1.2.2.2.1.2.2.2.2.2.2.1 - 1)) == 0)
 (rq ((decide (0 ≤ w64 (x1.1 + 1))) && (decide (w64 (x1.1 + 1) ≤ (d.length : Int)))) ((util_engine_write F 1 (sl d 0 (w64 (x1.1 + 1))) 15 x1.2.1 x1.2.2.1 (x1.2.2.2.1.1, (x1.2.2.2.1.2.1, (x1.2.2.2.1.2.2.1, (x1.2.2.2.1.2.2.2.1, (x1.2.2.2.1.2.2.2.2.1, (x1.2.2.2.1.2.2.2.2.2.1, (w64 (x1.2.2.2.1.2.2.2.2.2.2.1 - 1), (1, ())))))))) x1.2.2.2.2).bind fun x3 =>
 some (x3.1, x3.2.1, x3.2.2.1, x3.2.2.2)))
 (rc2 (w64 (x1.1 + 1), x1.2.1, x1.2.2.1, (x1.2.2.2.1.1, (x1.2.2.2.1.2.1, (x1.2.2.2.1.2.2.1, (x1.2.2.2.1.2.2.2.1, (x1.2.2.2.1.2.2.2.2.1, (x1.2.2.2.1.2.2.2.2.2.1, (w64 (x1.2.2.2.1.2.2.2.2.2.2.1 - 1), x1.2.2.2.1.2.2.2.2.2.2.2))))))), x1.2.2.2.2)))))
 ((util_engine_write F 1 d 12 x1.2.1 x1.2.2.1 x1.2.2.2.1 x1.2.2.2.2).bind fun x4 =>
 some (x4.1, x4.2.1, x4.2.2.1, x4.2.2.2))) G ((i : Int), hu n 13 [] ls, hw n, hr af fd it k 0, []) =
      some (if l.count 10 < k then (hu n 1 d ls, hw n, hr 12 1 it (k - l.count 10) 0, []) else (hu n 1 (d.take (i + cutLen k l)) ls, hw n, hr 15 1 it 0 1, [])) := by
    intro l
    induction l with
    | nil =>
      intro i k G hdr hil hk hkl hG
      obtain ⟨G, rfl⟩ : ∃ g, G = g + 1 := ⟨G - 1, by omega⟩
      show cond _ _ _ = _
      dsimp only
      have : i = d.length := by simpa using hil
      rw [cf (by omega), if_pos (by show 0 < k; omega)]
      unfold util_engine_write
      have e : (d == []) = false := by cases d with | nil => exact absurd rfl hne | cons _ _ => rfl
      rw [e]
      rfl
    | cons b l ih =>
      intro i k G hdr hil hk hkl hG
      obtain ⟨G, rfl⟩ : ∃ g, G = g + 1 := ⟨G - 1, by omega⟩
      have hi : i < d.length := by simp only [List.length_cons] at hil; omega
      have hb : d.getD i 0 = b := by
        have h0 : (d.drop i)[0]? = some b := by rw [hdr]; rfl
        rw [List.getElem?_drop, Nat.add_zero] at h0
        simp [List.getD, h0]
      have hdr' : d.drop (i + 1) = l := by rw [← List.drop_drop, hdr]; rfl
      have hG' : l.length < G := by simp only [List.length_cons] at hG; omega
      have hil' : i + 1 + l.length = d.length := by simp only [List.length_cons] at hil; omega
      show cond _ _ _ = _
      dsimp only
      rw [ct (by omega), rq2 (by omega) (by omega), Int.toNat_natCast, hb, show (((b.toNat : Int)) != 10) = !(b == 10) from u8litn b 10 (by omega), w64_nat (by omega)]
      by_cases hb10 : b = 10
      · subst hb10
        rw [show (!((10 : UInt8) == 10)) = false from rfl, cond_false]
        have ew : w64 ((hr af fd it k 0).2.2.2.2.2.2.1 - 1) = ((k - 1 : Nat) : Int) := by
          show w64 ((k : Int) - 1) = _
          rw [w64_in (by omega)]; omega
        rw [ew, List.count_cons_self]
        unfold cutLen
        by_cases hk1 : k ≤ 1
        · have : k = 1 := by omega
          subst this
          rw [show (((1 - 1 : Nat) : Int) == 0) = true from rfl, cond_true, rq2 (by omega) (by omega), if_neg (by omega), if_pos rfl, if_pos (by omega)]
          have es : sl d 0 (((i + 1 : Nat)) : Int) = d.take (i + 1) := by simp [sl]
          rw [es]
          unfold util_engine_write
          have e : (d.take (i + 1) == []) = false := by cases d with | nil => exact absurd rfl hne | cons _ _ => rfl
          rw [e]
          rfl
        · have e0 : (((k - 1 : Nat) : Int) == 0) = false := beq_false_of_ne (by omega)
          rw [e0, cond_false]
          have := ih (i + 1) (k - 1) G hdr' hil' (by omega) (by omega) hG'
          refine Eq.trans this ?_
          by_cases hc : l.count 10 < k - 1
          · rw [if_pos hc, if_pos (by omega)]
            rw [show k - 1 - l.count 10 = k - (l.count 10 + 1) by omega]
          · rw [if_neg hc, if_neg (by omega), if_pos rfl, if_neg hk1]
            rw [show i + 1 + cutLen (k - 1) l = i + (1 + cutLen (k - 1) l) by omega]
      · have e1 : (b == (10 : UInt8)) = false := beq_false_of_ne hb10
        rw [e1, show (!false) = true from rfl, cond_true]
        have := ih (i + 1) k G hdr' hil' hk hkl hG'
        refine Eq.trans this ?_
        rw [List.count_cons_of_ne hb10]
        have ec : cutLen k (b :: l) = 1 + cutLen k l := by rw [cutLen, if_neg hb10]
        rw [ec, show i + 1 + cutLen k l = i + (1 + cutLen k l) by omega]
  have := key d 0 lf F rfl (by omega) h1 (Nat.le_refl _) hd
  rw [Nat.zero_add] at this
  exact this
end

end Go.Proofs.YteagcbkkonabbaaGreatDoor
