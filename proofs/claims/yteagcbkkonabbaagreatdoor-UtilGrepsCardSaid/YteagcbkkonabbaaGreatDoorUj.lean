/-
  UtilGreps: grep and grep -v share the lines of the input between them.
-/
import Derived.Test.YteagcbkkonabbaaGreatDoorUh
import Derived.Test.YteagcbkkonabbaaGreatDoorUi
import Derived.Test.YteagcbkkonabbaaGreatDoorPw
import Derived.KernelRfl
namespace Go.Proofs.YteagcbkkonabbaaGreatDoor
open Go.RT
set_option linter.all false
set_option maxRecDepth 100000

/-! ### What holds for every utility that reads all first -/
theorem start_gen {nm : List UInt8} {l : List (List UInt8)} (hk : util_Known KB nm = some true) (hl : l.length ≤ 1000) : util_Start KB (nm :: l) [] = some (bu nm (nm :: l) 0 0 [] [] [], true) := by
  unfold util_Start
  have hl0 : ((nm :: l).length : Int) = (l.length : Int) + 1 := by simp
  have e0 : (((nm :: l).length : Int) == 0) = false := by rw [hl0]; exact beq_false_of_ne (by omega)
  rw [e0, cond_false, rq1 (by rw [hl0]; omega), show (nm :: l).getD 0 [] = nm from rfl, hk, Option.bind_some, Option.bind_some]
  show rq _ _ = _
  rw [rq1 (by rw [hl0]; omega), clone_ok (by unfold okL; simp; omega), Option.bind_some, clone_ok (by unfold okL; simp), Option.bind_some]
  rfl
theorem con_gen {nm : List UInt8} {args : List (List UInt8)} {w : Twords} (h1 : (nm == ([99, 97, 116] : List UInt8)) = false) (h2 : (nm == ([104, 101, 97, 100] : List UInt8)) = false) (h3 : (nm == ([116, 101, 101] : List UInt8)) = false) (h4 : (nm == ([99, 112] : List UInt8)) = false)
    (b e : List UInt8) (ls : List (List UInt8)) (h : b.length + e.length ≤ 300) : util_engine_consume KB e (bu nm args 13 0 b [] ls) w (br 0 0 0) [] = some (bu nm args 12 0 (b ++ e) [] ls, w, br 0 0 0, []) := by
  unfold util_engine_consume
  rw [show (bu nm args 13 0 b [] ls).fName = nm from rfl, h1, h2, h3, h4, cond_false, cond_false, cond_false, cond_false, show (bu nm args 13 0 b [] ls).fBuf = b from rfl]
  rw [w64_in (by omega), cf (by omega), rq1 (by omega)]
  rfl

/-! ### grep -/
abbrev nmGrep : List UInt8 := [103, 114, 101, 112]
abbrev star : TPatItem := TPatItem.mk 3 [] false []
noncomputable def mt (x : List TPatItem) (n : List UInt8) : Bool := (pattern_Match KB x n).getD false
noncomputable def its (p : List UInt8) : List TPatItem := ([star] ++ ((pattern_Compile KB [TRun.mk p 2]).getD [])) ++ [star]
noncomputable def sel (p : List UInt8) (v : Bool) (S : List UInt8) : List (List UInt8) := (lnB S).filter fun l => !(mt (its p) l == v)

theorem comp_ok (p : List UInt8) (hp : p.length ≤ 30) : ∃ x, pattern_Compile KB [TRun.mk p 2] = some x ∧ x.length ≤ 30 ∧ ∀ it ∈ x, ItOk it := by
  have hs : szL [TRun.mk p 2] = p.length := by simp [szL]
  obtain ⟨x, ⟨h1, h2⟩, h3⟩ := compile_tot KB [TRun.mk p 2] (by show 1 < 12000; omega) (by rw [hs]; show p.length + 1000 < 12000; omega) (by show 1 < 1000000000; omega) (by rw [hs]; omega)
  exact ⟨x, h3, by omega, h1⟩
theorem its_ok (p : List UInt8) (hp : p.length ≤ 30) : (its p).length ≤ 32 ∧ ∀ it ∈ its p, ItOk it := by
  obtain ⟨x, h1, h2, h3⟩ := comp_ok p hp
  have hst : ItOk star := ⟨fun h => absurd h (by decide), by decide, by decide⟩
  unfold its
  rw [h1]
  refine ⟨by simp; omega, fun it hit => ?_⟩
  simp only [Option.getD_some, List.cons_append, List.nil_append, List.mem_cons, List.mem_append, List.not_mem_nil, or_false] at hit
  rcases hit with rfl | hit | rfl
  · exact hst
  · exact h3 it hit
  · exact hst
theorem mt_eq (p : List UInt8) (hp : p.length ≤ 30) (n : List UInt8) (hn : n.length ≤ 400) : pattern_Match KB (its p) n = some (mt (its p) n) := by
  obtain ⟨h1, h2⟩ := its_ok p hp
  obtain ⟨b, hb⟩ := match_tot KB (its p) n (by show _ + 300 < 12000; omega) (by show _ < 12000; omega) (by omega) (by omega) h2
  unfold mt
  rw [hb]
  rfl
theorem lnB_mem_len {s p : List UInt8} (h : p ∈ lnB s) : p.length ≤ s.length := by
  have h1 := joB_sub (List.singleton_sublist.2 h)
  have h2 := (joB_ln s).1
  have h3 : (joB [p]).length = p.length + 1 := by simp [joB]
  omega
theorem lnB_len (s : List UInt8) : (lnB s).length ≤ s.length + 1 := Nat.le_trans (len_joB _) (joB_ln s).1
theorem sel_sub (p : List UInt8) (v : Bool) (S : List UInt8) : (sel p v S).Sublist (lnB S) := List.filter_sublist
theorem sel_jo (p : List UInt8) (v : Bool) (S : List UInt8) : (joB (sel p v S)).length ≤ S.length + 1 := Nat.le_trans (joB_sub (sel_sub p v S)) (joB_ln S).1
theorem sel_len (p : List UInt8) (v : Bool) (S : List UInt8) : (sel p v S).length ≤ S.length + 1 := Nat.le_trans (sel_sub p v S).length_le (lnB_len S)

/-- The exit status. -/
def gN (l : List (List UInt8)) : Int := cond l.isEmpty 1 0

theorem grep_eq {p S : List UInt8} (hp : p.length ≤ 30) (hS : S.length ≤ 300) {v c : Bool} {u : TUtil} {w : Twords} {r : TAinti648} (hb : u.fBuf = S) (hw : w.foperands = [p]) (hr : r.2.2.1 = 0)
    (h118 : util_words_has KB w 118 = some v) (h113 : util_words_has KB w 113 = some false) (h99 : util_words_has KB w 99 = some c) :
    util_engine_grep KB u w r [] = util_engine_write KB 1 (cond c (Lib.itoa ((sel p v S).length : Int) ++ [10]) (joB (sel p v S))) 4 { u with fN := gN (sel p v S) } w r [] := by
  obtain ⟨x, hx, hxl, hxi⟩ := comp_ok p hp
  have hits : its p = ([star] ++ x) ++ [star] := by unfold its; rw [hx]; rfl
  subst hb
  have hsl := sel_len p v u.fBuf
  have hsj := sel_jo p v u.fBuf
  unfold util_engine_grep
  rw [hw, show util_element KB [p] 0 = some p from rfl, Option.bind_some, hx, Option.bind_some, agree_self, agree_self, rq_cap (by simp; omega) (by omega), rq_cap (by simp; omega) (by omega), Option.bind_some, lines_eq KB u.fBuf (by omega), Option.bind_some, Option.bind_some, ← hits]
  have hll := lnB_len u.fBuf
  refine loopF_flat (lnB u.fBuf) (fun i o => (o, (i : Int))) (fun l => cond (!(mt (its p) l == v)) [l] []) (by show _ < 12000; omega) rfl (fun i hi rc o ho => ?_) (fun rc => ?_)
  · dsimp only
    have hol : o.length ≤ 1 * (lnB u.fBuf).length := by
      rw [ho]
      refine Nat.le_trans (flat_le _ 1 (fun a => by cases (!(mt (its p) a == v)) <;> simp) _) ?_
      simp
      omega
    rw [ct (by omega), rq_ix hi, Int.toNat_natCast, gd hi, mt_eq p hp _ (by have := lnB_mem_len (List.getElem_mem hi); omega), Option.bind_some, h118, Option.bind_some, w64s (by omega)]
    cases (!(mt (its p) (lnB u.fBuf)[i] == v)) with
    | true => rw [cond_true, cond_true, rq_cap (by simp; omega) (by omega)]
    | false => rw [cond_false, cond_false, List.append_nil]
  · dsimp only
    have hfl : ((lnB u.fBuf).flatMap fun l => cond (!(mt (its p) l == v)) [l] []) = sel p v u.fBuf := by
      rw [flat_filter (fun l => !(mt (its p) l == v)) (fun l => l), List.map_id']
      rfl
    rw [hfl, cf (by omega)]
    have hN : (cond (decide ((0 : Int) < ((sel p v u.fBuf).length : Int))) (some ({ u with fN := 0 }, w, r, ([] : List Int))) (some ({ u with fN := 1 }, w, r, [])) : Option (TUtil × Twords × TAinti648 × (List Int))) = some ({ u with fN := gN (sel p v u.fBuf) }, w, r, []) := by
      cases sel p v u.fBuf with
      | nil => rfl
      | cons a l => rw [ct (by simp)]; rfl
    rw [hN, Option.bind_some]
    dsimp only
    rw [hr]
    have e0 : ((0 : Int) != 0) = false := rfl
    rw [e0, cond_false, Option.bind_some]
    dsimp only
    rw [h113, Option.bind_some, cond_false, h99, Option.bind_some]
    cases c with
    | true =>
      have hit : (Lib.itoa ((sel p v u.fBuf).length : Int)).length ≤ 3 := by
        have h1 := rt1000 ⟨(sel p v u.fBuf).length, by omega⟩
        unfold rtOk at h1
        dsimp only at h1
        split at h1
        · rw [Bool.and_eq_true] at h1; exact Nat.le_of_ble_eq_true h1.2
        · cases h1
      rw [cond_true, cond_true, itoa_small ⟨by omega, by omega⟩, Option.bind_some, rq1 (by simp only [List.length_cons, List.length_nil]; omega)]
      exact bsome _
    | false =>
      rw [cond_false, cond_false, joined_eq KB _ (by show _ < 12000; omega) (by omega), Option.bind_some]
      exact bsome _

structure GrepW (p : List UInt8) (args : List (List UInt8)) (w : Twords) (v c : Bool) : Prop where
  start : util_Start KB args [] = some (bu nmGrep args 0 0 [] [] [], true)
  split : util_split KB nmGrep (sl args 1 (args.length : Int)) = some w
  pos : 0 < args.length
  ok : okL args
  beg : ∀ a, adv KB a (bu nmGrep args 0 0 [] [] [], w, br 0 0 0) = some (rq0, false, bu nmGrep args 10 0 [] [] [], w, br 0 0 0, [])
  ops : w.foperands = [p]
  h118 : util_words_has KB w 118 = some v
  h113 : util_words_has KB w 113 = some false
  h99 : util_words_has KB w 99 = some c

theorem grepU {p S : List UInt8} (hp : p.length ≤ 30) (hS : S.length ≤ 300) {args : List (List UInt8)} {w : Twords} {v c : Bool} (h : GrepW p args w v c) :
    BufU nmGrep args w S (cond c (Lib.itoa ((sel p v S).length : Int) ++ [10]) (joB (sel p v S))) 4 (gN (sel p v S)) where
  start := h.start
  split := h.split
  pos := h.pos
  ok := h.ok
  ins := fun u r hu => by unfold util_engine_inputs; rw [hu, h.ops]; rfl
  beg := h.beg
  con := con_gen (by rfl) (by rfl) (by rfl) (by rfl)
  fin := fun ls => by
    have e : util_engine_finish KB (bu nmGrep args 10 0 S [] ls) w (br 0 0 1) [] = (util_engine_grep KB (bu nmGrep args 10 0 S [] ls) w (br 0 0 1) []).bind fun x5 => some (x5.1, x5.2.1, x5.2.2.1, x5.2.2.2) := rfl
    rw [e, grep_eq hp hS rfl h.ops rfl h.h118 h.h113 h.h99]
    unfold util_engine_write
    rw [cond_som, Option.bind_some]
    cases ((cond c (Lib.itoa ((sel p v S).length : Int) ++ [10]) (joB (sel p v S))) == []) <;> rfl
  cp := rfl
  nx34 := .inr rfl
  dl := by
    have h1 := sel_jo p v S
    have h2 := sel_len p v S
    cases c with
    | true =>
      rw [cond_true]
      have h1 := rt1000 ⟨(sel p v S).length, by omega⟩
      unfold rtOk at h1
      dsimp only at h1
      split at h1
      · rw [Bool.and_eq_true] at h1; have := Nat.le_of_ble_eq_true h1.2; simp only [List.length_append, List.length_cons, List.length_nil]; omega
      · cases h1
    | false => rw [cond_false]; omega

theorem grep1 (p : List UInt8) : GrepW p [nmGrep, [45, 45], p] (Twords.mk [p] [] 10 false) false false where
  start := start_gen (by kernel_rfl) (by show 2 ≤ 1000; decide)
  split := by kernel_rfl
  pos := by show 0 < 3; decide
  ok := by show 3 ≤ 1000000; decide
  beg := fun a => by kernel_rfl
  ops := rfl
  h118 := by kernel_rfl
  h113 := by kernel_rfl
  h99 := by kernel_rfl
theorem grep2 (p : List UInt8) : GrepW p [nmGrep, [45, 118], [45, 45], p] (Twords.mk [p] [118] 10 false) true false where
  start := start_gen (by kernel_rfl) (by show 3 ≤ 1000; decide)
  split := by kernel_rfl
  pos := by show 0 < 4; decide
  ok := by show 4 ≤ 1000000; decide
  beg := fun a => by kernel_rfl
  ops := rfl
  h118 := by kernel_rfl
  h113 := by kernel_rfl
  h99 := by kernel_rfl
theorem grep3 (p : List UInt8) : GrepW p [nmGrep, [45, 99], [45, 45], p] (Twords.mk [p] [99] 10 false) false true where
  start := start_gen (by kernel_rfl) (by show 3 ≤ 1000; decide)
  split := by kernel_rfl
  pos := by show 0 < 4; decide
  ok := by show 4 ≤ 1000000; decide
  beg := fun a => by kernel_rfl
  ops := rfl
  h118 := by kernel_rfl
  h113 := by kernel_rfl
  h99 := by kernel_rfl

/-! ### The law -/
theorem filt_at {α : Type} [BEq α] {f : α → Bool} {l : List α} {n : Nat} (hn : n < l.length) (hf : f l[n] = true) (d : α) : ((l.take n).filter f).length < (l.filter f).length ∧ (l.filter f).getD ((l.take n).filter f).length d = l[n] := by
  have e : l.filter f = (l.take n).filter f ++ l[n] :: (l.drop (n + 1)).filter f := by
    conv => lhs; rw [← List.take_append_drop n l, List.drop_eq_getElem_cons hn]
    rw [List.filter_append, List.filter_cons, if_pos hf]
  refine ⟨?_, ?_⟩
  · rw [e]; simp only [List.length_append, List.length_cons]; omega
  · rw [e]; simp [List.getD]
theorem filt_succ {α : Type} {f : α → Bool} {l : List α} {n : Nat} (hn : n < l.length) : ((l.take (n + 1)).filter f).length = ((l.take n).filter f).length + cond (f l[n]) 1 0 := by
  rw [List.take_succ_eq_append_getElem hn, List.filter_append, List.length_append, List.filter_cons]
  cases f l[n] <;> simp
theorem filt_get {α : Type} {f : α → Bool} {l : List α} {i : Nat} {d : α} (h : i < (l.filter f).length) : f ((l.filter f).getD i d) = true := by
  rw [show (l.filter f).getD i d = (l.filter f)[i] by simp [List.getD, h]]
  exact (List.mem_filter.1 (List.getElem_mem h)).2

theorem filt_ne {f : List UInt8 → Bool} {l : List (List UInt8)} {n : Nat} (hn : n < l.length) (hf : f l[n] = false) {i : Nat} {d : List UInt8} (hi : i < (l.filter f).length) : ((l.filter f).getD i d == l[n]) = false := by
  apply beq_false_of_ne
  intro he
  have := filt_get (d := d) hi
  rw [he, hf] at this
  cases this

theorem utilGreps (a0 a1 : List UInt8) (a2 : Int) : ∃ F, law31_UtilGreps F a0 a1 a2 = some true := by
  refine ⟨KB, ?_⟩
  unfold law31_UtilGreps
  rw [awake_ok]
  by_cases h : (300 : Int) < (a1.length : Int)
  · rw [ct h]; rfl
  rw [cf h, Option.bind_some]
  by_cases h1 : a2 < 1
  · rw [dT h1]; rfl
  rw [dF h1, cond_false, Option.bind_some]
  by_cases h2 : (30 : Int) < (a0.length : Int)
  · rw [dT h2]; rfl
  rw [dF h2, cond_false]
  obtain ⟨part, rfl⟩ : ∃ p : Nat, a2 = (p : Int) := ⟨a2.toNat, by omega⟩
  have hp : a0.length ≤ 30 := by omega
  have hS : a1.length ≤ 300 := by omega
  have p1 := b_play (grepU hp hS (grep1 a0)) hS (part := part) (by omega)
  have p2 := b_play (grepU hp hS (grep2 a0)) hS (part := part) (by omega)
  have p3 := b_play (grepU hp hS (grep3 a0)) hS (part := part) (by omega)
  rw [cond_false] at p1 p2
  rw [cond_true] at p3
  have hno : ∀ v, ∀ q ∈ sel a0 v a1, (10 : UInt8) ∉ q := fun v q hq => lnB_no a1 q ((sel_sub a0 v a1).subset hq)
  have l1 := sel_jo a0 false a1
  have l2 := sel_jo a0 true a1
  have l3 := lnB_len a1
  have s1 := sel_len a0 false a1
  have s2 := sel_len a0 true a1
  rw [show ([([103, 114, 101, 112] : List UInt8), ([45, 45] : List UInt8), a0] : List (List UInt8)) = [nmGrep, [45, 45], a0] from rfl, p1, Option.bind_some]
  rw [show ([([103, 114, 101, 112] : List UInt8), ([45, 118] : List UInt8), ([45, 45] : List UInt8), a0] : List (List UInt8)) = [nmGrep, [45, 118], [45, 45], a0] from rfl, p2, Option.bind_some]
  dsimp only
  rw [refLines_eq KB _ (by show _ < 12000; omega) (by omega), Option.bind_some, refLines_eq KB _ (by show _ < 12000; omega) (by omega), Option.bind_some, refLines_eq KB _ (by show _ < 12000; omega) (by omega), Option.bind_some, lnB_joB _ (hno false), lnB_joB _ (hno true)]
  have hAB : (sel a0 false a1).length + (sel a0 true a1).length = (lnB a1).length := by
    unfold sel
    have : ∀ l : List (List UInt8), (l.filter fun q => !(mt (its a0) q == false)).length + (l.filter fun q => !(mt (its a0) q == true)).length = l.length := by
      intro l
      induction l with
      | nil => rfl
      | cons q l ih =>
        rw [List.filter_cons, List.filter_cons]
        cases mt (its a0) q <;> simp at ih ⊢ <;> omega
    exact this _
  have hgN : ∀ l : List (List UInt8), (!((gN l == 0) == decide ((0 : Int) < (l.length : Int)))) = false ∧ decide (1 < gN l) = false := by
    intro l
    cases l with
    | nil => exact ⟨rfl, rfl⟩
    | cons q l => rw [dT (by simp)]; exact ⟨rfl, rfl⟩
  have hst : ∀ l : List (List UInt8), stN 4 (gN l) = gN l := fun l => rfl
  rw [hst, hst, (hgN _).1, (hgN _).1, (hgN _).2, (hgN _).2]
  have hle : (w64 (((sel a0 false a1).length : Int) + ((sel a0 true a1).length : Int)) != ((lnB a1).length : Int)) = false := by
    rw [w64_in (by omega), bne, show (((sel a0 false a1).length : Int) + ((sel a0 true a1).length : Int)) = ((lnB a1).length : Int) by omega, beq_self_eq_true]
    rfl
  rw [hle]
  simp only [Bool.not_true, cond_false, Option.bind_some]
  refine loopF_seq (fun n => (((((lnB a1).take n).filter (fun l => !(mt (its a0) l == false))).length : Int), ((((lnB a1).take n).filter (fun l => !(mt (its a0) l == true))).length : Int), (n : Int))) (lnB a1).length (by show _ < 12000; omega) rfl (fun n rc hn => ?_) (fun rc => ?_)
  · dsimp only
    rw [ct (by omega)]
    have q1 := filt_succ (f := fun l => !(mt (its a0) l == false)) hn
    have q2 := filt_succ (f := fun l => !(mt (its a0) l == true)) hn
    have i1 : (((lnB a1).take n).filter (fun l => !(mt (its a0) l == false))).length ≤ n := Nat.le_trans (List.length_filter_le _ _) (by simp; omega)
    have i2 : (((lnB a1).take n).filter (fun l => !(mt (its a0) l == true))).length ≤ n := Nat.le_trans (List.length_filter_le _ _) (by simp; omega)
    rw [q1, q2]
    cases hm : mt (its a0) (lnB a1)[n] with
    | true =>
      have hf : (fun l => !(mt (its a0) l == false)) (lnB a1)[n] = true := by simp [hm]
      obtain ⟨c1, c2⟩ := filt_at (f := fun l => !(mt (its a0) l == false)) hn hf []
      have c1 : (((lnB a1).take n).filter (fun l => !(mt (its a0) l == false))).length < (sel a0 false a1).length := c1
      have c2 : (sel a0 false a1).getD (((lnB a1).take n).filter (fun l => !(mt (its a0) l == false))).length [] = (lnB a1)[n] := c2
      rw [ct (by omega), rq_ix c1, rq_ix hn, Int.toNat_natCast, Int.toNat_natCast, c2, gd hn, beq_self_eq_true, Option.bind_some, cond_true, w64s (by omega), w64s (by omega)]
      simp
    | false =>
      have hf : (fun l => !(mt (its a0) l == true)) (lnB a1)[n] = true := by simp [hm]
      obtain ⟨c1, c2⟩ := filt_at (f := fun l => !(mt (its a0) l == true)) hn hf []
      have c1 : (((lnB a1).take n).filter (fun l => !(mt (its a0) l == true))).length < (sel a0 true a1).length := c1
      have c2 : (sel a0 true a1).getD (((lnB a1).take n).filter (fun l => !(mt (its a0) l == true))).length [] = (lnB a1)[n] := c2
      have e1 : ∀ i : Nat, i < 100000 → (cond (decide ((i : Int) < ((sel a0 false a1).length : Int))) (rq ((decide (0 ≤ (i : Int))) && (decide ((i : Int) < ((sel a0 false a1).length : Int)))) (rq ((decide (0 ≤ (n : Int))) && (decide ((n : Int) < ((lnB a1).length : Int)))) (some (((sel a0 false a1).getD (Int.toNat (i : Int)) []) == ((lnB a1).getD (Int.toNat (n : Int)) []))))) (some false) : Option Bool) = some false := by
        intro i _
        by_cases hi : i < (sel a0 false a1).length
        · rw [ct (by omega), rq_ix hi, rq_ix hn, Int.toNat_natCast, Int.toNat_natCast, gd hn]
          rw [show ((sel a0 false a1).getD i [] == (lnB a1)[n]) = false from filt_ne (f := fun l => !(mt (its a0) l == false)) hn (by simp [hm]) hi]
        · rw [cf (by omega)]
      rw [e1 _ (by omega), Option.bind_some, cond_false, ct (by omega), rq_ix c1, rq_ix hn, Int.toNat_natCast, Int.toNat_natCast, c2, gd hn, beq_self_eq_true, Option.bind_some, cond_true, w64s (by omega), w64s (by omega)]
      simp
  · dsimp only
    rw [cf (by omega)]
    rw [show ([([103, 114, 101, 112] : List UInt8), ([45, 99] : List UInt8), ([45, 45] : List UInt8), a0] : List (List UInt8)) = [nmGrep, [45, 99], [45, 45], a0] from rfl, p3, Option.bind_some, itoa_small ⟨by omega, by omega⟩, Option.bind_some]
    have hit : (Lib.itoa ((sel a0 false a1).length : Int)).length ≤ 3 := by
      have h1 := rt1000 ⟨(sel a0 false a1).length, by omega⟩
      unfold rtOk at h1
      dsimp only at h1
      split at h1
      · rw [Bool.and_eq_true] at h1; exact Nat.le_of_ble_eq_true h1.2
      · cases h1
    rw [rq1 (by simp only [List.length_cons, List.length_nil]; omega)]
    dsimp only
    rw [hst, beq_self_eq_true, beq_self_eq_true]
    rfl

end Go.Proofs.YteagcbkkonabbaaGreatDoor
