/-
  UtilHeads: the run of head.
-/
import Derived.Test.YteagcbkkonabbaaGreatDoorUf
namespace Go.Proofs.YteagcbkkonabbaaGreatDoor
open Go.RT
set_option linter.all false

section
variable {n : Nat} {a : TAns} {af fd lf sp : Nat} {ls : List (List UInt8)}
theorem hel0 {F : Nat} : util_element F [[45]] ((0 : Nat) : Int) = some [45] := el_in (l := [[45]]) (i := 0) (by decide) F

/-- The operand is closed, no other is left: head exits. -/
theorem h_close {F : Nat} (hsp : sp ≤ 1) : Runs F a 4 (hu n 15 [] ls, hw n, hr af fd 0 lf sp) (TReq.mk 9 0 0 0 0 0 0 0 [] [] [] []) (hu n 4 [] ls, hw n, hr af fd 1 lf sp) := by
  refine Runs.go (e1 := (hu n 16 [] ls, hw n, hr af fd 0 lf sp)) (t15dash rfl (h_ins _ _ _) hel0) ?_
  refine Runs.go (q0 := rq0) (e1 := (hu n 10 [] ls, hw n, hr af fd 1 lf sp)) ?_ ?_
  · have := t16 (F := F) (a := a) (u := hu n 16 [] ls) (w := hw n) (r := hr af fd 0 lf sp) rfl (h_ins _ _ _) hel0
    exact this
  refine Runs.go (e1 := (hu n 3 [] ls, hw n, hr af fd 1 lf sp)) (t10end (p := []) rfl (h_ins _ _ _) (el_out (l := [[45]]) (i := 1) (by decide) F) (.inl (by show (1 : Int) ≤ ((1 : Nat) : Int); decide)) rfl) ?_
  refine Runs.go (e1 := (hu n 4 [] ls, hw n, hr af fd 1 lf sp)) (t3 rfl) ?_
  exact Runs.stop (e := (hu n 4 [] ls, hw n, hr af fd 1 lf sp)) (e' := (hu n 4 [] ls, hw n, hr af fd 1 lf sp)) (t4 rfl)
theorem h_eof {F : Nat} (hda : a.fData = []) (he : a.fErr = 0) : Runs F a 5 (hu n 13 [] ls, hw n, hr af fd 0 lf 0) (TReq.mk 9 0 0 0 0 0 0 0 [] [] [] []) (hu n 4 [] ls, hw n, hr af fd 1 lf 0) :=
  Runs.go (e1 := (hu n 15 [] ls, hw n, hr af fd 0 lf 0)) (t13empty rfl he hda rfl (h_ins _ _ _) hel0) (h_close (by omega))
theorem h_consume {F : Nat} {d : List UInt8} {z : Option (TUtil × Twords × TAinti648 × (List Int))} (h : util_engine_head F d (hu n 13 [] ls) (hw n) (hr af fd 0 lf 0) [] = z) :
    util_engine_consume F d (hu n 13 [] ls) (hw n) (hr af fd 0 lf 0) [] = z.bind fun x => some (x.1, x.2.1, x.2.2.1, x.2.2.2) := by
  subst h
  unfold util_engine_consume
  rfl
/-- Bytes that are all written. -/
theorem h_data {F : Nat} {d : List UInt8} (hda : a.fData = d) (he : a.fErr = 0) (hne : d ≠ []) (hd : d.length < F) (hd2 : d.length ≤ 1000) (h1 : 1 ≤ lf) (hl : lf < 1000) (hc : d.count 10 < lf) :
    Runs F a 1 (hu n 13 [] ls, hw n, hr af fd 0 lf 0) (TReq.mk 2 1 0 0 0 0 0 0 [] d [] []) (hu n 2 d ls, hw n, hr 12 1 0 (lf - d.count 10) 0) := by
  have hn2 : (d == []) = false := by cases d with | nil => exact absurd rfl hne | cons _ _ => rfl
  refine Runs.go (e1 := (hu n 1 d ls, hw n, hr 12 1 0 (lf - d.count 10) 0)) (t13data rfl he (by rw [hda]; exact hn2) rfl (h_ins _ _ _) hel0 ?_) (Runs.stop (t1 rfl))
  rw [hda, h_consume (head_eq hd hd2 h1 hl hne), if_pos hc]
  rfl
/-- The last line feed is among them. -/
theorem h_last {F : Nat} {d : List UInt8} (hda : a.fData = d) (he : a.fErr = 0) (hne : d ≠ []) (hd : d.length < F) (hd2 : d.length ≤ 1000) (h1 : 1 ≤ lf) (hl : lf < 1000) (hc : ¬ d.count 10 < lf) :
    Runs F a 1 (hu n 13 [] ls, hw n, hr af fd 0 lf 0) (TReq.mk 2 1 0 0 0 0 0 0 [] (d.take (cutLen lf d)) [] []) (hu n 2 (d.take (cutLen lf d)) ls, hw n, hr 15 1 0 0 1) := by
  have hn2 : (d == []) = false := by cases d with | nil => exact absurd rfl hne | cons _ _ => rfl
  refine Runs.go (e1 := (hu n 1 (d.take (cutLen lf d)) ls, hw n, hr 15 1 0 0 1)) (t13data rfl he (by rw [hda]; exact hn2) rfl (h_ins _ _ _) hel0 ?_) (Runs.stop (t1 rfl))
  rw [hda, h_consume (head_eq hd hd2 h1 hl hne), if_neg hc]
  rfl
theorem h_more {F : Nat} {d : List UInt8} {m : Nat} (ha : a.fN = (m : Int)) (he : a.fErr = 0) (hn : m < d.length) :
    Runs F a 1 (hu n 2 d ls, hw n, hr af fd 0 lf sp) (TReq.mk 2 (fd : Int) 0 0 0 0 0 0 [] (d.drop m) [] []) (hu n 2 (d.drop m) ls, hw n, hr af fd 0 lf sp) := by
  refine Runs.go (q0 := rq0) (e1 := (hu n 1 (d.drop m) ls, hw n, hr af fd 0 lf sp)) ?_ (Runs.stop (t1 rfl))
  have := t2more (F := F) (u := hu n 2 d ls) (w := hw n) (r := hr af fd 0 lf sp) (a := a) rfl he (by omega) (by rw [ha]; show (m : Int) < (d.length : Int); omega)
  rw [this, ha]
  have e : sl d (m : Int) (d.length : Int) = d.drop m := by simp [sl, List.take_of_length_le]
  show some (_, _, ({ hu n 2 d ls with fState := 1, fOut := sl d (m : Int) (d.length : Int) } : TUtil), _) = _
  rw [e]
  rfl
theorem h_again {F : Nat} {d : List UInt8} {m : Nat} (ha : a.fN = (m : Int)) (he : a.fErr = 0) (hn : d.length ≤ m) :
    Runs F a 1 (hu n 2 d ls, hw n, hr 12 fd 0 lf sp) (TReq.mk 1 0 0 0 0 0 32 0 [] [] [] []) (hu n 13 [] ls, hw n, hr 12 fd 0 lf sp) := by
  refine Runs.go (e1 := (hu n 12 [] ls, hw n, hr 12 fd 0 lf sp)) (t2done rfl he (by rw [ha]; show ¬ (m : Int) < (d.length : Int); omega)) ?_
  exact Runs.stop (t12 rfl (h_ins _ _ _) hel0)
theorem h_stop {F : Nat} {d : List UInt8} {m : Nat} (ha : a.fN = (m : Int)) (he : a.fErr = 0) (hn : d.length ≤ m) (hsp : sp ≤ 1) :
    Runs F a 5 (hu n 2 d ls, hw n, hr 15 fd 0 lf sp) (TReq.mk 9 0 0 0 0 0 0 0 [] [] [] []) (hu n 4 [] ls, hw n, hr 15 fd 1 lf sp) :=
  Runs.go (e1 := (hu n 15 [] ls, hw n, hr 15 fd 0 lf sp)) (t2done rfl he (by rw [ha]; show ¬ (m : Int) < (d.length : Int); omega)) (h_close hsp)
theorem h_step (hn100 : n ≤ 100) {k : Nat} {st : Int} {out : List UInt8} {r : TAinti648} (hr1 : smR r) {q : TReq} {st' : Int} {out' : List UInt8} {r' : TAinti648}
    (h : Runs KF a k (hu n st out (linesOf r), hw n, r) q (hu n st' out' (linesOf r), hw n, r')) (hk : k < 100) (hr2 : smR r') :
    util_Step KF (hu n st out (linesOf r)) a = some (hu n st' out' (linesOf r'), q) :=
  step_eq (e := (hu n st out (linesOf r), hw n, r)) (load_eq KF _ (hw n) r (by decide) (by show 0 < 3; decide) (h_split hn100).1 hr1 rfl) h hk (by decide) hr2 (by show 3 ≤ 1000000; decide) (by show ([] : List (List UInt8)).length ≤ 1000000; decide)
end

/-- What head may have written. -/
def Good (n : Nat) (S o : List UInt8) : Prop := (∃ t, o ++ t = S) ∧ ((o = S ∧ S.count 10 ≤ n) ∨ (o.count 10 = n ∧ (o = [] ∨ o.getD (o.length - 1) 0 = 10)))

inductive HI (n : Nat) (S : List UInt8) : Nat → List UInt8 → List UInt8 → TUtil → TAns → Prop
  | got {af fd lf : Nat} {s o d : List UInt8} {u : TUtil} {a : TAns} (h1 : af < 1000) (h2 : fd < 1000) (hu' : u = hu n 13 [] (linesOf (hr af fd 0 lf 0))) (ha : a = anR (d.length : Int) d) (hs : o ++ d ++ s = S) (hd : d = [] → s = []) (h3 : 1 ≤ lf) (h4 : o.count 10 + lf = n) :
      HI n S (3 * s.length + 2 * d.length + 10) s o u a
  | put {m lf : Nat} {s o d : List UInt8} {u : TUtil} {a : TAns} (hu' : u = hu n 2 d (linesOf (hr 12 1 0 lf 0))) (ha : a = anN (m : Int)) (hs : o ++ d.drop m ++ s = S) (hn : m ≤ d.length) (hd : d.length ≤ 300) (h3 : 1 ≤ lf) (h4 : (o ++ d.drop m).count 10 + lf = n) :
      HI n S (3 * s.length + 2 * (d.length - m) + 11) s o u a
  | end {m : Nat} {s o d : List UInt8} {u : TUtil} {a : TAns} (hu' : u = hu n 2 d (linesOf (hr 15 1 0 0 1))) (ha : a = anN (m : Int)) (hn : m ≤ d.length) (hd : d.length ≤ 300) (ho : o.length ≤ 300) (h4 : Good n S (o ++ d.drop m)) :
      HI n S ((d.length - m) + 1) s o u a

theorem head_run {n : Nat} (hn : n ≤ 100) {S : List UInt8} (hS : S.length ≤ 300) {part : Nat} (hp : 1 ≤ part) :
    ∀ (k : Nat) (s o : List UInt8) (u : TUtil) (a : TAns), HI n S k s o u a → ∀ (G i : Nat), i + k ≤ 11000 → k + 30 ≤ G → ∃ o', loopF (pbody KF (part : Int)) G (s, (i : Int), Tplayed.mk o 0 false, u, a) = some (Tplayed.mk o' 0 true) ∧ Good n S o' := by
  intro k
  induction k using Nat.strongRecOn with
  | _ k ih =>
    intro s o u a hI G i hi hG
    obtain ⟨G, rfl⟩ : ∃ g, G = g + 1 := ⟨G - 1, by omega⟩
    cases hI with
    | @got af fd lf _ _ d _ _ h1 h2 hu' ha hs hd h3 h4 =>
      have hlen : o.length + d.length + s.length = S.length := by have := congrArg List.length hs; simp only [List.length_append] at this; omega
      have hlf : lf < 1000 := by omega
      subst hu'
      by_cases hdn : d = []
      · have hsn := hd hdn
        subst hdn hsn
        simp only [List.append_nil] at hs
        subst hs
        have hst := h_step (a := a) hn (smR_hr h1 h2 (by omega) (by omega) (by omega)) (h_eof (F := KF) (ls := linesOf (hr af fd 0 lf 0)) (af := af) (fd := fd) (lf := lf) (by rw [ha]) (by rw [ha])) (by omega) (smR_hr h1 h2 (by omega) (by omega) (by omega))
        refine ⟨o, ?_, ⟨[], by simp⟩, .inl ⟨rfl, by omega⟩⟩
        rw [loopS, p_exit (by omega) hst]
      · have hdl : 0 < d.length := by cases d with | nil => exact absurd rfl hdn | cons _ _ => simp
        by_cases hc : d.count 10 < lf
        · have hst := h_step (a := a) hn (smR_hr h1 h2 (by omega) (by omega) (by omega)) (h_data (F := KF) (ls := linesOf (hr af fd 0 lf 0)) (af := af) (fd := fd) (by rw [ha]) (by rw [ha]) hdn (by show d.length < 12000; omega) (by omega) h3 hlf hc) (by omega) (smR_hr (by omega) (by omega) (by omega) (by omega) (by omega))
          rw [loopS, p_write (by omega) (by show o.length ≤ 1000000; omega) (by omega) hst]
          refine ih _ ?_ s (o ++ d.take (min part d.length)) _ _ (HI.put (d := d) (m := min part d.length) (lf := lf - d.count 10) rfl rfl ?_ (Nat.min_le_right _ _) (by omega) (by omega) ?_) G (i + 1) ?_ ?_
          · omega
          · rw [List.append_assoc o, List.take_append_drop]; exact hs
          · rw [List.append_assoc o, List.take_append_drop, List.count_append]; omega
          · omega
          · omega
        · obtain ⟨c1, c2, c3, c4⟩ := cutLen_ok d lf h3 (by omega)
          have hst := h_step (a := a) hn (smR_hr h1 h2 (by omega) (by omega) (by omega)) (h_last (F := KF) (ls := linesOf (hr af fd 0 lf 0)) (af := af) (fd := fd) (by rw [ha]) (by rw [ha]) hdn (by show d.length < 12000; omega) (by omega) h3 hlf hc) (by omega) (smR_hr (by omega) (by omega) (by omega) (by omega) (by omega))
          have hpl : (d.take (cutLen lf d)).length = cutLen lf d := by simp; omega
          rw [loopS, p_write (by omega) (by show o.length ≤ 1000000; omega) (by omega) hst]
          refine ih _ ?_ s (o ++ (d.take (cutLen lf d)).take (min part (d.take (cutLen lf d)).length)) _ _ (HI.end (d := d.take (cutLen lf d)) (m := min part (d.take (cutLen lf d)).length) rfl rfl (Nat.min_le_right _ _) (by omega) (by simp only [List.length_append, List.length_take]; omega) ?_) G (i + 1) ?_ ?_
          · omega
          · rw [List.append_assoc o, List.take_append_drop]
            refine ⟨⟨d.drop (cutLen lf d) ++ s, ?_⟩, .inr ⟨by rw [List.count_append, c3]; omega, .inr ?_⟩⟩
            · rw [← hs, List.append_assoc o, ← List.append_assoc (d.take _), List.take_append_drop, List.append_assoc]
            · have e1 : (o ++ d.take (cutLen lf d)).length - 1 = o.length + (cutLen lf d - 1) := by simp only [List.length_append, hpl]; omega
              rw [e1]
              have e2 : (o ++ d.take (cutLen lf d)).getD (o.length + (cutLen lf d - 1)) 0 = d.getD (cutLen lf d - 1) 0 := by
                simp only [List.getD]
                rw [List.getElem?_append_right (by omega), show o.length + (cutLen lf d - 1) - o.length = cutLen lf d - 1 by omega, List.getElem?_take_of_lt (by omega)]
              rw [e2]; exact c4
          · omega
          · omega
    | @put m lf _ _ d _ _ hu' ha hs hm hd h3 h4 =>
      have hlen : o.length + (d.length - m) + s.length = S.length := by have := congrArg List.length hs; simp only [List.length_append, List.length_drop] at this; omega
      subst hu'
      have hlf : lf < 1000 := by omega
      by_cases hlt : m < d.length
      · have hst := h_step (a := a) hn (smR_hr (af := 12) (fd := 1) (by omega) (by omega) (by omega) (by omega) (by omega)) (h_more (F := KF) (ls := linesOf (hr 12 1 0 lf 0)) (af := 12) (fd := 1) (lf := lf) (sp := 0) (by rw [ha]) (by rw [ha]) hlt) (by omega) (smR_hr (by omega) (by omega) (by omega) (by omega) (by omega))
        have hdr : (d.drop m).length = d.length - m := List.length_drop
        rw [loopS, p_write (by omega) (by show o.length ≤ 1000000; omega) (by omega) hst]
        refine ih _ ?_ s (o ++ (d.drop m).take (min part (d.drop m).length)) _ _ (HI.put (d := d.drop m) (m := min part (d.drop m).length) (lf := lf) rfl rfl ?_ (Nat.min_le_right _ _) (by omega) h3 ?_) G (i + 1) ?_ ?_
        · omega
        · rw [List.append_assoc o, List.take_append_drop]; exact hs
        · rw [List.append_assoc o, List.take_append_drop]; exact h4
        · omega
        · omega
      · have hnd : m = d.length := by omega
        have hst := h_step (a := a) hn (smR_hr (af := 12) (fd := 1) (by omega) (by omega) (by omega) (by omega) (by omega)) (h_again (F := KF) (ls := linesOf (hr 12 1 0 lf 0)) (fd := 1) (lf := lf) (sp := 0) (by rw [ha]) (by rw [ha]) (by omega : d.length ≤ m)) (by omega) (smR_hr (by omega) (by omega) (by omega) (by omega) (by omega))
        rw [loopS, p_read (by omega) hst]
        have hr1 : rdN part s ≤ s.length := by unfold rdN; omega
        have hl1 : (s.take (rdN part s)).length = rdN part s := by simp; omega
        have hl2 : (s.drop (rdN part s)).length = s.length - rdN part s := List.length_drop
        rw [hnd, List.drop_length, List.append_nil] at hs h4
        refine ih _ ?_ (s.drop (rdN part s)) o _ _ (HI.got (d := s.take (rdN part s)) (af := 12) (fd := 1) (lf := lf) (by omega) (by omega) rfl ?_ ?_ ?_ h3 h4) G (i + 1) ?_ ?_
        · omega
        · rw [hl1]
        · rw [List.append_assoc, List.take_append_drop]; exact hs
        · intro h0
          have : rdN part s = 0 := by rw [← hl1, h0]; rfl
          unfold rdN at this
          have : s.length = 0 := by omega
          rw [List.eq_nil_of_length_eq_zero this, List.drop_nil]
        · omega
        · omega
    | @«end» m _ _ d _ _ hu' ha hm hd ho h4 =>
      subst hu'
      by_cases hlt : m < d.length
      · have hst := h_step (a := a) hn (smR_hr (af := 15) (fd := 1) (by omega) (by omega) (by omega) (by omega) (by omega)) (h_more (F := KF) (ls := linesOf (hr 15 1 0 0 1)) (af := 15) (fd := 1) (lf := 0) (sp := 1) (by rw [ha]) (by rw [ha]) hlt) (by omega) (smR_hr (by omega) (by omega) (by omega) (by omega) (by omega))
        have hdr : (d.drop m).length = d.length - m := List.length_drop
        obtain ⟨⟨t, ht⟩, hgood⟩ := h4
        have hl4 : o.length + (d.length - m) ≤ S.length := by rw [← ht]; simp only [List.length_append, List.length_drop]; omega
        rw [loopS, p_write (by omega) (by show o.length ≤ 1000000; omega) (by omega) hst]
        refine ih _ ?_ s (o ++ (d.drop m).take (min part (d.drop m).length)) _ _ (HI.end (d := d.drop m) (m := min part (d.drop m).length) rfl rfl (Nat.min_le_right _ _) (by omega) (by simp only [List.length_append, List.length_take]; omega) ?_) G (i + 1) ?_ ?_
        · omega
        · rw [List.append_assoc o, List.take_append_drop]; exact ⟨⟨t, ht⟩, hgood⟩
        · omega
        · omega
      · have hst := h_step (a := a) hn (smR_hr (af := 15) (fd := 1) (by omega) (by omega) (by omega) (by omega) (by omega)) (h_stop (F := KF) (ls := linesOf (hr 15 1 0 0 1)) (fd := 1) (lf := 0) (sp := 1) (by rw [ha]) (by rw [ha]) (by omega : d.length ≤ m) (by omega)) (by omega) (smR_hr (by omega) (by omega) (by omega) (by omega) (by omega))
        have hnd : m = d.length := by omega
        rw [hnd, List.drop_length, List.append_nil] at h4
        refine ⟨o, ?_, h4⟩
        rw [loopS, p_exit (by omega) hst]

theorem known_head : util_Known KF nmHead = some true := by rfl
theorem start_head {n : Nat} (hn : n ≤ 100) : util_Start KF (hArgs n) [] = some (hu n 0 [] [], true) := by
  unfold util_Start
  rw [show (((hArgs n).length : Int) == 0) = false from rfl, cond_false, show (hArgs n).getD 0 [] = nmHead from rfl, known_head]
  have hq : ∀ {R : Type} (k : Option R), rq (decide ((0 : Int) < ((hArgs n).length : Int))) k = k := fun k => rq1 (by show (0 : Int) < 3; decide)
  simp only [hq, Option.bind_some, Bool.not_true, cond_false]
  rw [clone_ok (by show 3 ≤ 1000000; decide), Option.bind_some, clone_ok (by show 0 ≤ 1000000; decide), Option.bind_some]
  rfl
theorem begin_head {n : Nat} (h1 : 1 ≤ n) {a : TAns} : adv KF a (hu n 0 [] [], hw n, hr 0 0 0 0 0) = some (rq0, false, hu n 10 [] [], hw n, hr 0 0 0 n 0, []) := by
  have e : ((n : Int) == 0) = false := beq_false_of_ne (by omega)
  unfold adv util_engine_advance util_engine_begin util_engine_start
  simp only [hu, hw, hr, e]
  rfl
theorem begin_head0 {a : TAns} : adv KF a (hu 0 0 [] [], hw 0, hr 0 0 0 0 0) = some (rq0, false, hu 0 3 [] [], hw 0, hr 0 0 0 0 0, []) := by rfl

theorem head_play {n : Nat} (hn : n ≤ 100) {S : List UInt8} (hS : S.length ≤ 300) {part : Nat} (hp : 1 ≤ part) : ∃ o, law31_play KF (hArgs n) [] S (part : Int) = some (Tplayed.mk o 0 true) ∧ Good n S o := by
  rw [play_eq KF _ _ _ _ _ (start_head hn), show KF = 11999 + 1 from rfl, loopS]
  have hl := load_first KF (hu n 0 [] []) (hw n) (by decide) (by show 0 < 3; decide) (h_split hn).1 rfl
  by_cases h0 : n = 0
  · subst h0
    have hst : util_Step KF (hu 0 0 [] []) an0 = some (hu 0 4 [] (linesOf (hr 0 0 0 0 0)), TReq.mk 9 0 0 0 0 0 0 0 [] [] [] []) :=
      step_eq (e := (hu 0 0 [] [], hw 0, hr 0 0 0 0 0)) (e' := (hu 0 4 [] [], hw 0, hr 0 0 0 0 0)) hl
        (Runs.go (e1 := (hu 0 3 [] [], hw 0, hr 0 0 0 0 0)) begin_head0 (Runs.go (e1 := (hu 0 4 [] [], hw 0, hr 0 0 0 0 0)) (t3 rfl) (Runs.stop (e := (hu 0 4 [] [], hw 0, hr 0 0 0 0 0)) (e' := (hu 0 4 [] [], hw 0, hr 0 0 0 0 0)) (t4 rfl))))
        (by omega) (by decide) (smR_hr (by omega) (by omega) (by omega) (by omega) (by omega)) (by show 3 ≤ 1000000; decide) (by show 0 ≤ 1000000; decide)
    refine ⟨[], ?_, ⟨S, rfl⟩, .inr ⟨rfl, .inl rfl⟩⟩
    exact p_exit (F := KF) (by omega) hst
  · have hst : util_Step KF (hu n 0 [] []) an0 = some (hu n 13 [] (linesOf (hr 0 0 0 n 0)), TReq.mk 1 0 0 0 0 0 32 0 [] [] [] []) :=
      step_eq (e := (hu n 0 [] [], hw n, hr 0 0 0 0 0)) (e' := (hu n 13 [] [], hw n, hr 0 0 0 n 0)) hl
        (Runs.go (e1 := (hu n 10 [] [], hw n, hr 0 0 0 n 0)) (begin_head (by omega)) (Runs.go (e1 := (hu n 12 [] [], hw n, hr 0 0 0 n 0)) (t10dash rfl (h_ins _ _ _) hel0 (by show ((0 : Nat) : Int) < 1; decide) rfl) (Runs.stop (t12 rfl (h_ins _ _ _) hel0))))
        (by omega) (by decide) (smR_hr (by omega) (by omega) (by omega) (by omega) (by omega)) (by show 3 ≤ 1000000; decide) (by show 0 ≤ 1000000; decide)
    rw [p_read (F := KF) (by omega) hst]
    have hr1 : rdN part S ≤ S.length := by unfold rdN; omega
    have hl1 : (S.take (rdN part S)).length = rdN part S := by simp; omega
    have hl2 : (S.drop (rdN part S)).length = S.length - rdN part S := List.length_drop
    refine head_run hn hS hp _ _ _ _ _ (HI.got (d := S.take (rdN part S)) (af := 0) (fd := 0) (lf := n) (by omega) (by omega) rfl ?_ ?_ ?_ (by omega) (by show 0 + n = n; omega)) 11999 (0 + 1) (by omega) (by omega)
    · rw [hl1]
    · rw [List.nil_append, List.take_append_drop]
    · intro h0
      have : rdN part S = 0 := by rw [← hl1, h0]; rfl
      unfold rdN at this
      have : S.length = 0 := by omega
      rw [List.eq_nil_of_length_eq_zero this, List.drop_nil]

theorem utilHeads (a0 : List UInt8) (a1 a2 : Int) : ∃ F, law31_UtilHeads F a0 a1 a2 = some true := by
  refine ⟨KF, ?_⟩
  unfold law31_UtilHeads
  rw [awake_ok]
  by_cases h : (300 : Int) < (a0.length : Int)
  · rw [ct h]; rfl
  rw [cf h, Option.bind_some]
  by_cases h1 : a2 < 1
  · rw [dT h1]; rfl
  rw [dF h1, cond_false, Option.bind_some]
  by_cases h2 : a1 < 0
  · rw [dT h2]; rfl
  rw [dF h2, cond_false, Option.bind_some]
  by_cases h3 : 100 < a1
  · rw [dT h3]; rfl
  rw [dF h3, cond_false]
  obtain ⟨part, rfl⟩ : ∃ p : Nat, a2 = (p : Int) := ⟨a2.toNat, by omega⟩
  obtain ⟨n, rfl⟩ : ∃ p : Nat, a1 = (p : Int) := ⟨a1.toNat, by omega⟩
  obtain ⟨o, ho, ⟨t, ht⟩, hg⟩ := head_play (n := n) (by omega) (S := a0) (by omega) (part := part) (by omega)
  have ho' : law31_play KF ([([104, 101, 97, 100] : List UInt8), ([45, 110] : List UInt8), Lib.itoa (n : Int)] : List (List UInt8)) [] a0 (part : Int) = some (Tplayed.mk o 0 true) := ho
  rw [itoa_small ⟨by omega, by omega⟩, Option.bind_some, ho', Option.bind_some]
  dsimp only
  have hlen : o.length + t.length = a0.length := by rw [← ht]; simp
  have htk : sl a0 0 (o.length : Int) = o := by rw [← ht]; simp [sl]
  have e1 : (sl a0 0 (o.length : Int) == o) = true := by rw [htk]; exact beq_self_eq_true _
  have hfe : ∀ l : List UInt8, l.length ≤ 300 → law31_feeds KF l = some ((l.count 10 : Nat) : Int) := fun l hl => feeds_eq KF l (by show l.length < 12000; omega) (by omega)
  rw [cf (by omega), rq2 (by omega) (by omega), e1]
  rw [show (cond (!true) (some true) (cond (!true) (some true) (some ((0 : Int) != 0))) : Option Bool) = some false from rfl, Option.bind_some, cond_false, hfe a0 (by omega), hfe o (by omega)]
  have hfin : ∀ b : Bool, b = true → (((cond b (some true) (some false) : Option Bool)).bind fun x12 => some x12) = some true := fun b hb => by subst hb; rfl
  rcases hg with ⟨hoS, hc⟩ | ⟨hc, hz⟩
  · have e2 : ((o.length : Int) == (a0.length : Int)) = true := by rw [hoS]; exact beq_self_eq_true _
    rw [e2, cond_true, Option.bind_some, dT (by omega)]
    rfl
  · have e3 : (((o.count 10 : Nat) : Int) == (n : Int)) = true := by rw [hc]; exact beq_self_eq_true _
    have hx : ∃ b, ((cond ((o.length : Int) == (a0.length : Int)) ((some ((a0.count 10 : Nat) : Int)).bind fun x9 => some (decide (x9 ≤ (n : Int)))) (some false) : Option Bool)) = some b := by
      cases ((o.length : Int) == (a0.length : Int))
      · exact ⟨_, rfl⟩
      · exact ⟨_, rfl⟩
    obtain ⟨b, hb⟩ := hx
    rw [hb, Option.bind_some]
    cases b with
    | true => rfl
    | false =>
      rw [cond_false, Option.bind_some, e3, cond_true]
      by_cases ho0 : o = []
      · rw [show ((o.length : Int) == 0) = true by rw [ho0]; rfl]
        rfl
      · have hpos : 0 < o.length := by cases o with | nil => exact absurd rfl ho0 | cons _ _ => simp
        have e4 : ((o.length : Int) == 0) = false := beq_false_of_ne (by omega)
        have e5 : w64 ((o.length : Int) - 1) = ((o.length - 1 : Nat) : Int) := by rw [w64_in (by omega)]; omega
        have e6 : a0.getD (o.length - 1) 0 = 10 := by
          rw [← ht]
          have : (o ++ t).getD (o.length - 1) 0 = o.getD (o.length - 1) 0 := by simp only [List.getD]; rw [List.getElem?_append_left (by omega)]
          rw [this]
          exact hz.resolve_left ho0
        rw [e4, cond_false, e5, rq2 (by omega) (by omega), Int.toNat_natCast, e6]
        rfl

end Go.Proofs.YteagcbkkonabbaaGreatDoor
