import Derived.Test.YteagcbkkonabbaaGreatDoorVk
namespace Go.Proofs.YteagcbkkonabbaaGreatDoor
open Go.RT
set_option linter.all false
set_option maxRecDepth 100000
theorem split_nw {nm : List UInt8} {ops : List (List UInt8)} {x : List UInt8 × Bool} (hx : util_letters KB nm = some x) (hn : NWL ops) : util_split KB nm ops = some (Twords.mk ops [] 10 false) := by
  unfold util_split
  rw [hx, Option.bind_some]
  cases x.2 with
  | false => rfl
  | true =>
    rw [show (!true) = false from rfl, cond_false, show KB = 11999 + 1 from rfl, loopF_succ]
    dsimp only
    by_cases h0 : (0 : Int) < (ops.length : Int)
    · rw [ct h0, rq1 h0]
      have hp := hn.getD 0
      have e : (cond (decide (((ops.getD 0 []).length : Int) < 2)) (some true) (rq (decide (0 < ((ops.getD 0 []).length : Int))) (some ((((ops.getD 0 []).getD 0 0).toNat : Int) != 45))) : Option Bool) = some true := by
        by_cases h2 : ((ops.getD 0 []).length : Int) < 2
        · rw [ct h2]
        · rw [cf h2, rq1 (by omega)]
          cases hq : ops.getD 0 [] with
          | nil => rfl
          | cons b t =>
            have hb := (hp.ne b t hq).2.2
            show some (((b.toNat : Nat) : Int) != 45) = some true
            rw [u8litn b 45 (by decide)]
            have : (b == (45 : UInt8)) = false := beq_false_of_ne hb
            rw [show (b == (OfNat.ofNat 45 : UInt8)) = false from this]
            rfl
      rw [e]
      rfl
    · rw [cf h0]
theorem contains_eq' (F : Nat) (l : List (List UInt8)) (x : List UInt8) (hF : l.length < F) (hl : l.length ≤ 1000000) : slices_Contains F l x = some (l.any fun y => x == y) := by
  unfold slices_Contains slices_Index
  rw [loopF_srch l (fun i => (i : Int)) (fun y => x == y) (fun i _ => some (i : Int)) (some (-1)) (s := (0 : Int)) hF rfl (fun i h rc => ?_) (fun rc => ?_)]
  · have : ∀ (p : List UInt8 → Bool) (l : List (List UInt8)) (i : Nat), ((srch p (fun i _ => some (i : Int)) (some (-1 : Int)) l i).bind fun x1 => some (decide (0 ≤ x1))) = some (l.any p) := by
      intro p l
      induction l with
      | nil => intro i; rfl
      | cons a l ih =>
        intro i
        simp only [srch, List.any_cons]
        cases h : p a
        · rw [cond_false, ih]; rfl
        · rw [cond_true, Option.bind_some, dT (by omega)]; rfl
    exact this _ l 0
  · rw [ct (by omega), rq2 (by omega) (by omega), Int.toNat_natCast, gd h, w64_nat (by omega)]
  · rw [cf (by omega)]
theorem known_eq' (x : List UInt8) : util_Known KB x = some (tab0.any fun y => x == y) := by
  unfold util_Known
  rw [rq_true (c := Nat.beq tab0.length 28) rfl, show (tab0.take 28).drop 0 = tab0 from rfl, contains_eq' KB tab0 x (by show 28 < 12000; omega) (by show 28 ≤ 1000000; omega)]
  rfl
theorem ends_known {nm : List UInt8} {ops : List (List UInt8)} (h : nm ∈ tab0) (hy : nm ≠ [121, 101, 115]) (hf : nm ≠ [112, 114, 105, 110, 116, 102]) (hn : NWL ops) (hl : ops.length ≤ 19) : (∃ x, util_letters KB nm = some x) ∧ Ends nm ops := by
  simp only [tab0, List.mem_cons, List.not_mem_nil, or_false] at h
  rcases h with rfl | rfl | rfl | rfl | rfl | rfl | rfl | rfl | rfl | rfl | rfl | rfl | rfl | rfl | rfl | rfl | rfl | rfl | rfl | rfl | rfl | rfl | rfl | rfl | rfl | rfl | rfl | rfl
  · exact ⟨⟨_, rfl⟩, ends_true⟩
  · exact ⟨⟨_, rfl⟩, ends_false⟩
  · exact ⟨⟨_, rfl⟩, ends_echo hn hl⟩
  · exact absurd rfl hf
  · exact ⟨⟨_, rfl⟩, ends_cat hn hl⟩
  · exact ⟨⟨_, rfl⟩, ends_head hn hl⟩
  · exact ⟨⟨_, rfl⟩, ends_tail hn hl⟩
  · exact ⟨⟨_, rfl⟩, ends_wc hn hl⟩
  · exact ⟨⟨_, rfl⟩, ends_sort hn hl⟩
  · exact ⟨⟨_, rfl⟩, ends_uniq hn hl⟩
  · exact ⟨⟨_, rfl⟩, ends_grep hn hl⟩
  · exact ⟨⟨_, rfl⟩, ends_tee hn hl⟩
  · exact ⟨⟨_, rfl⟩, ends_seq hn hl⟩
  · exact ⟨⟨_, rfl⟩, ends_sleep hn hl⟩
  · exact absurd rfl hy
  · exact ⟨⟨_, rfl⟩, ends_touch hn hl⟩
  · exact ⟨⟨_, rfl⟩, ends_rm hn hl⟩
  · exact ⟨⟨_, rfl⟩, ends_mkdir hn hl⟩
  · exact ⟨⟨_, rfl⟩, ends_rmdir hn hl⟩
  · exact ⟨⟨_, rfl⟩, ends_mv hn hl⟩
  · exact ⟨⟨_, rfl⟩, ends_cp hn hl⟩
  · exact ⟨⟨_, rfl⟩, ends_ls hn hl⟩
  · exact ⟨⟨_, rfl⟩, ends_test hn hl⟩
  · exact ⟨⟨_, rfl⟩, ends_br hn hl⟩
  · exact ⟨⟨_, rfl⟩, ends_env hn hl⟩
  · exact ⟨⟨_, rfl⟩, ends_kill hn hl⟩
  · exact ⟨⟨_, rfl⟩, ends_rev hn hl⟩
  · exact ⟨⟨_, rfl⟩, ends_pwd⟩
theorem start_env {nm : List UInt8} {l : List (List UInt8)} (hk : util_Known KB nm = some true) (hl : l.length ≤ 1000) : util_Start KB (nm :: l) envP = some ((E0 nm l).1, true) := by
  unfold util_Start
  have hl0 : ((nm :: l).length : Int) = (l.length : Int) + 1 := by simp
  have e0 : (((nm :: l).length : Int) == 0) = false := by rw [hl0]; exact beq_false_of_ne (by omega)
  rw [e0, cond_false, rq1 (by rw [hl0]; omega), show (nm :: l).getD 0 [] = nm from rfl, hk, Option.bind_some, Option.bind_some]
  show rq _ _ = _
  rw [rq1 (by rw [hl0]; omega), clone_ok (by unfold okL; simp; omega), Option.bind_some, clone_ok (by unfold okL; simp), Option.bind_some]
  rfl
theorem play_ends {nm : List UInt8} {ops : List (List UInt8)} (hk : util_Known KB nm = some true) (hy : nm ≠ [121, 101, 115]) (hf : nm ≠ [112, 114, 105, 110, 116, 102]) (hn : NWL ops) (hl : ops.length ≤ 19) {s : List UInt8} (hs : s.length ≤ 200) {part : Nat} (hp : 1 ≤ part) :
    endsWell (law31_play KB (nm :: ops) envP s (part : Int)) := by
  have hm : nm ∈ tab0 := by
    rw [known_eq'] at hk
    have hk := Option.some.inj hk
    obtain ⟨y, h1, h2⟩ := List.any_eq_true.1 hk
    rw [beq_iff_eq] at h2
    rw [h2]; exact h1
  obtain ⟨⟨x, hx⟩, he⟩ := ends_known hm hy hf hn hl
  have hsl : sl (nm :: ops) 1 ((nm :: ops).length : Int) = ops := by simp [sl]
  have hC : Cx.Ok KB (cx nm ops) := ⟨by show util_split KB nm (sl (nm :: ops) 1 ((nm :: ops).length : Int)) = _; rw [hsl]; exact split_nw hx hn, by show 0 < (nm :: ops).length; simp, by show (nm :: ops).length ≤ 1000000; simp; omega, by show 1 ≤ 1000000; decide⟩
  exact fin_all (F := KB) (C := cx nm ops) (by decide) hC hp (start_env hk (by omega)) (inE (st := 0) (n := 0) (buf := []) (out := []) (ls := []) r0_ok so0) rfl (he part s hp hs) (by omega) (by omega)
theorem word_ok (p : List UInt8) (k : Nat) (i n : Nat) (hk : i < n) : ∃ b9, (rq ((decide (0 ≤ (i : Int))) && (decide ((i : Int) < (n : Int)))) (cond (decide (30 < (p.length : Int)))
 (some true)
 (cond (decide (0 < (i : Int)))
 (rq ((decide (0 ≤ (i : Int))) && (decide ((i : Int) < (n : Int)))) (cond (!(p == []))
 (rq ((decide (0 ≤ (i : Int))) && (decide ((i : Int) < (n : Int)))) (rq (decide (0 < (p.length : Int))) (cond (decide (49 ≤ ((p.getD 0 0).toNat : Int)))
 (rq ((decide (0 ≤ (i : Int))) && (decide ((i : Int) < (n : Int)))) (rq (decide (0 < (p.length : Int))) (cond (decide (((p.getD 0 0).toNat : Int) ≤ 57))
 (some true)
 (rq ((decide (0 ≤ (i : Int))) && (decide ((i : Int) < (n : Int)))) (rq (decide (0 < (p.length : Int))) (cond (((p.getD 0 0).toNat : Int) == 37)
 (some true)
 (rq ((decide (0 ≤ (i : Int))) && (decide ((i : Int) < (n : Int)))) (rq (decide (0 < (p.length : Int))) (some (((p.getD 0 0).toNat : Int) == 45))))))))))
 (rq ((decide (0 ≤ (i : Int))) && (decide ((i : Int) < (n : Int)))) (rq (decide (0 < (p.length : Int))) (cond (((p.getD 0 0).toNat : Int) == 37)
 (some true)
 (rq ((decide (0 ≤ (i : Int))) && (decide ((i : Int) < (n : Int)))) (rq (decide (0 < (p.length : Int))) (some (((p.getD 0 0).toNat : Int) == 45))))))))))
 (some false)))
 (some false))) : Option Bool) = some b9 ∧ (b9 = false → p.length ≤ 30 ∧ (0 < i → NW p)) := by
  rw [rq2 (by omega) (by omega)]
  by_cases h1 : (30 : Int) < (p.length : Int)
  · rw [ct h1]; exact ⟨true, rfl, fun h => (by cases h)⟩
  rw [cf h1]
  have hlen : p.length ≤ 30 := by omega
  by_cases h2 : (0 : Int) < (i : Int)
  · rw [ct h2, rq2 (by omega) (by omega)]
    cases p with
    | nil => exact ⟨false, rfl, fun _ => ⟨hlen, fun _ => NW.nil⟩⟩
    | cons b t =>
      have hpos : (0 : Int) < ((b :: t).length : Int) := by rw [List.length_cons]; omega
      have e0 : (!((b :: t : List UInt8) == [])) = true := rfl
      rw [e0, cond_true, rq2 (by omega) (by omega), rq1 hpos]
      show ∃ b9, cond (decide (49 ≤ ((b.toNat : Nat) : Int))) _ _ = some b9 ∧ _
      have last : ∃ b9, (rq ((decide (0 ≤ (i : Int))) && (decide ((i : Int) < (n : Int)))) (rq (decide (0 < ((b :: t).length : Int))) (cond (((b.toNat : Nat) : Int) == 37) (some true)
 (rq ((decide (0 ≤ (i : Int))) && (decide ((i : Int) < (n : Int)))) (rq (decide (0 < ((b :: t).length : Int))) (some (((b.toNat : Nat) : Int) == 45)))))) : Option Bool) = some b9 ∧ (b9 = false → b ≠ 37 ∧ b ≠ 45) := by
        rw [rq2 (by omega) (by omega), rq1 hpos]
        cases hc : (((b.toNat : Nat) : Int) == 37) with
        | true => exact ⟨true, rfl, fun h => (by cases h)⟩
        | false =>
          rw [cond_false, rq2 (by omega) (by omega), rq1 hpos]
          refine ⟨_, rfl, fun h => ⟨fun hb => ?_, fun hb => ?_⟩⟩
          · subst hb; cases hc
          · subst hb; cases h
      obtain ⟨b9, l1, l2⟩ := last
      have e1 : ∀ x : UInt8, (b :: t : List UInt8).getD 0 x = b := fun x => rfl
      rw [e1]
      by_cases h49 : (49 : Int) ≤ ((b.toNat : Nat) : Int)
      · rw [ct h49, rq2 (by omega) (by omega), rq1 hpos]
        by_cases h57 : ((b.toNat : Nat) : Int) ≤ 57
        · rw [ct h57]; exact ⟨true, rfl, fun h => (by cases h)⟩
        · rw [cf h57, l1]
          refine ⟨b9, rfl, fun h => ⟨hlen, fun _ => ⟨hlen, fun b' t' hb => ?_⟩⟩⟩
          injection hb with hb1 hb2
          subst hb1
          exact ⟨by omega, (l2 h).1, (l2 h).2⟩
      · rw [cf h49, l1]
        refine ⟨b9, rfl, fun h => ⟨hlen, fun _ => ⟨hlen, fun b' t' hb => ?_⟩⟩⟩
        injection hb with hb1 hb2
        subst hb1
        exact ⟨by omega, (l2 h).1, (l2 h).2⟩
  · rw [cf h2]
    exact ⟨false, rfl, fun _ => ⟨hlen, fun h => absurd h (by omega)⟩⟩
theorem utilEnds (a0 : List (List UInt8)) (a1 : List UInt8) (a2 : Int) : ∃ F, law31_UtilEnds F a0 a1 a2 = some true := by
  refine ⟨KB, ?_⟩
  unfold law31_UtilEnds
  rw [awake_ok]
  have aw : ∀ (x : Option Bool), x = some true → ((some true : Option Bool).bind fun x6 => some x6) = some true := fun _ _ => rfl
  cases a0 with
  | nil => rfl
  | cons nm ops =>
    have hll : ((nm :: ops).length : Int) = (ops.length : Int) + 1 := by simp
    have e0 : (((nm :: ops).length : Int) == 0) = false := by rw [hll]; exact beq_false_of_ne (by omega)
    rw [e0, cond_false, Option.bind_some]
    by_cases h1 : (20 : Int) < ((nm :: ops).length : Int)
    · rw [dT h1]; rfl
    rw [dF h1, cond_false, Option.bind_some]
    by_cases h2 : (200 : Int) < (a1.length : Int)
    · rw [dT h2]; rfl
    rw [dF h2, cond_false, Option.bind_some]
    by_cases h3 : a2 < 1
    · rw [dT h3]; rfl
    rw [dF h3, cond_false, rq1 (by rw [hll]; omega), show (nm :: ops).getD 0 [] = nm from rfl, Option.bind_some]
    cases hy : (nm == ([121, 101, 115] : List UInt8)) with
    | true => rfl
    | false =>
      rw [cond_false, rq1 (by rw [hll]; omega), Option.bind_some]
      cases hf : (nm == ([112, 114, 105, 110, 116, 102] : List UInt8)) with
      | true => rfl
      | false =>
        rw [cond_false]
        have hol : ops.length ≤ 19 := by omega
        obtain ⟨part, rfl⟩ : ∃ p : Nat, a2 = (p : Int) := ⟨a2.toNat, by omega⟩
        suffices h : ∃ r, r = true ∧ loopF _ KB (0 : Int) = some r by
          obtain ⟨r, rfl, h⟩ := h
          exact h
        refine loopF_tot (fun r => r = true) (fun x : Int => ∃ k : Nat, x = (k : Int) ∧ k ≤ ops.length + 1 ∧ ∀ i, i < k → ((nm :: ops).getD i []).length ≤ 30 ∧ (0 < i → NW ((nm :: ops).getD i []))) (fun x => ops.length + 1 - x.toNat) ?_ KB 0 ⟨0, rfl, Nat.zero_le _, fun i hi => absurd hi (Nat.not_lt_zero _)⟩ (by show ops.length + 1 - 0 < 12000; omega)
        rintro x ⟨k, rfl, hk, hall⟩ rc hrc
        by_cases hlt : k < ops.length + 1
        · rw [ct (by rw [hll]; omega)]
          obtain ⟨b9, hb1, hb2⟩ := word_ok ((nm :: ops).getD (Int.toNat (k : Int)) []) 0 k (nm :: ops).length (by rw [List.length_cons]; omega)
          rw [Int.toNat_natCast] at *
          rw [hb1, Option.bind_some]
          cases b9 with
          | true => exact ⟨true, rfl, rfl⟩
          | false =>
            rw [cond_false, w64s (by omega)]
            refine hrc _ ⟨k + 1, rfl, hlt, fun i hi => ?_⟩ ?_
            · rcases Nat.lt_or_ge i k with h | h
              · exact hall i h
              · obtain rfl : i = k := by omega
                exact hb2 rfl
            · rw [Int.toNat_natCast]; omega
        · rw [cf (by rw [hll]; omega), rq1 (by rw [hll]; omega), known_eq', Option.bind_some]
          cases hkn : (tab0.any fun y => nm == y) with
          | false => exact ⟨true, rfl, rfl⟩
          | true =>
            have hn : NWL ops := fun p hp => by
              obtain ⟨i, hi, rfl⟩ := List.getElem_of_mem hp
              have := (hall (i + 1) (by omega)).2 (by omega)
              rw [show (nm :: ops).getD (i + 1) [] = ops.getD i [] from rfl, gd hi] at this
              exact this
            obtain ⟨o, m, hp1, hp2, hp3⟩ := play_ends (nm := nm) (by rw [known_eq', hkn]) (fun h => by rw [h] at hy; cases hy) (fun h => by rw [h] at hf; cases hf) hn hol (s := a1) (by omega) (part := part) (by omega)
            rw [show (!true) = false from rfl, cond_false]
            have hp1 : law31_play KB (nm :: ops) [[80, 87, 68, 61, 47, 97]] a1 (part : Int) = some (Tplayed.mk o m true) := hp1
            rw [hp1, Option.bind_some]
            dsimp only
            rw [cond_true, dT hp2, Option.bind_some, cond_true, dT hp3]
            exact ⟨true, rfl, rfl⟩
end Go.Proofs.YteagcbkkonabbaaGreatDoor
