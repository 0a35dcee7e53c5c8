import Derived.Test.YtmklhkmeampamaaGreatDoorPq
namespace Go.Proofs.YtmklhkmeampamaaGreatDoor
open Go.RT
set_option linter.all false
set_option maxRecDepth 100000
theorem cut_parts : ∀ s : List UInt8, (Lib.cut s [47] = (s, [], false) ∧ partsS s = [s]) ∨ ∃ a r, Lib.cut s [47] = (a, r, true) ∧ partsS s = a :: partsS r ∧ a.length + r.length + 1 = s.length
  | [] => .inl ⟨rfl, rfl⟩
  | b :: l => by
    have ih := cut_parts l
    have hge := Lib.indexByte_ge l 47
    by_cases hb : b = 47
    · right
      subst hb
      have h0 : Lib.index ((47 : UInt8) :: l) [47] = 0 := by rw [Lib.index_one]; simp [Lib.indexByte]
      exact ⟨[], l, by unfold Lib.cut; rw [h0]; simp, rfl, by simp⟩
    · have hbb : (b == 47) = false := by simpa using hb
      have h0 : Lib.index (b :: l) [47] = if Lib.index l [47] == -1 then -1 else Lib.index l [47] + 1 := by
        rw [Lib.index_one, Lib.index_one, Lib.indexByte]
        simp [hb]
      have hp : partsS (b :: l) = (match partsS l with
        | [] => [[b]]
        | p :: ps => (b :: p) :: ps) := by rw [partsS, hbb, cond_false]; cases partsS l <;> rfl
      rw [← Lib.index_one] at hge
      unfold Lib.cut at ih ⊢
      rw [hp, h0]
      rcases ih with ⟨h1, h2⟩ | ⟨a, r, h1, h2, h3⟩
      · left
        by_cases hi : 0 ≤ Lib.index l [47]
        · rw [if_pos hi] at h1
          have := congrArg (fun x => x.2.2) h1
          cases this
        · have e : Lib.index l [47] = -1 := by omega
          rw [e, h2]
          exact ⟨rfl, rfl⟩
      · right
        by_cases hi : 0 ≤ Lib.index l [47]
        · rw [if_pos hi] at h1
          have e1 : (Lib.index l [47] == -1) = false := by simp; omega
          refine ⟨b :: a, r, ?_, by rw [h2], by simp; omega⟩
          rw [e1]
          simp only [Bool.false_eq_true, if_false]
          rw [if_pos (by omega), show (Lib.index l [47] + 1).toNat = (Lib.index l [47]).toNat + 1 by omega]
          simp only [Prod.mk.injEq] at h1
          obtain ⟨g1, g2, -⟩ := h1
          rw [List.take_succ_cons, g1]
          simp only [Prod.mk.injEq, true_and, and_true]
          rw [← g2, Nat.add_right_comm, List.drop_succ_cons]
        · rw [if_neg hi] at h1
          have := congrArg (fun x => x.2.2) h1
          cases this
theorem cutF_eq (F : Nat) (s : List UInt8) (h : s.length ≤ 1000000) : cutF F s [47] = some (Lib.cut s [47]) := by
  unfold cutF
  rw [rq1 (by omega)]
theorem join_eqS (F : Nat) (l : List (List UInt8)) (h1 : l.length ≤ 1000000) (h2 : (joinR l).length ≤ 1000000) : joinSF F [47] l = some (joinR l, l) := by
  unfold joinSF joinF
  rw [join_eq, rq2 (by omega) (by omega)]
  rfl
def txt (l : List TRun) : List UInt8 := l.flatMap fun r => r.fText
theorem txt_len : ∀ l : List TRun, (txt l).length = szL l
  | [] => rfl
  | r :: l => by
    have := txt_len l
    unfold txt szL at *
    simp only [List.flatMap_cons, List.length_append, List.map_cons, List.sum_cons]
    omega
theorem byteOk_ti (s : List UInt8) : byteOk (toInts s) = true := by
  unfold byteOk toInts
  rw [List.all_eq_true]
  intro x hx
  obtain ⟨b, -, rfl⟩ := List.mem_map.1 hx
  have := b.toNat_lt
  simp
  omega
theorem wStr (F : Nat) (s : List UInt8) (c : Bool) (buf : List Int) (h : buf.length + s.length ≤ 100000000) : strings_Builder_WriteString F s c buf = some ((s.length : Int), true, buf ++ toInts s) := by
  unfold strings_Builder_WriteString
  rw [show strings_Builder_copyCheck F c buf = some (true, buf) by cases c <;> rfl, Option.bind_some, rq_cap (by simp [toInts]; omega) (by omega)]
theorem text_eq (F : Nat) (l : List TRun) (hF : l.length < F) (h1 : l.length < 1000000000) (h2 : szL l ≤ 1000000) : split_Text F l = some (txt l) := by
  unfold split_Text
  refine loopF_hoare (fun x => ∃ k : Nat, x.1 = (k : Int) ∧ k ≤ l.length ∧ x.2.2 = toInts (txt (l.take k))) (fun x => l.length - x.1.toNat) ?_ F _ ⟨0, rfl, by omega, by simp [txt, toInts]⟩ (by simp; omega)
  rintro ⟨ii, c, buf⟩ ⟨k, h0, hk, ha⟩
  dsimp only at h0 ha ⊢
  subst h0
  by_cases hk : k < l.length
  · left
    have hs := szL_take_succ l k hk
    have hle := szL_take_le l (k + 1)
    refine ⟨(((k + 1 : Nat) : Int), true, toInts (txt (l.take (k + 1)))), ⟨k + 1, rfl, by omega, rfl⟩, by simp; omega, fun rc => ?_⟩
    have hbl : buf.length = szL (l.take k) := by rw [ha, toInts, List.length_map, txt_len]
    rw [ct (by omega), rq_ix hk, Int.toNat_natCast, gd hk, wStr F _ c buf (by omega), Option.bind_some, w64s (by omega)]
    show rc (((k + 1 : Nat) : Int), true, buf ++ toInts l[k].fText) = _
    rw [ha, txt, txt, flat_take _ _ _ hk]
    simp [toInts]
  · right
    obtain rfl : k = l.length := by omega
    intro rc
    rw [List.take_length] at ha
    subst ha
    have : (toInts (txt l)).length = szL l := by rw [toInts, List.length_map, txt_len]
    rw [cf (by omega)]
    unfold strings_Builder_String
    rw [rq_true (by rw [decide_eq_true rfl, byteOk_ti, decide_eq_true (by omega)]; rfl), bytes_rt]
    rfl
def pcQ (c : Int) (o : List (List TRun) × List TRun) (q : List UInt8) : List (List TRun) × List TRun := (o.1 ++ [o.2], [TRun.mk q c])
def pcP (c : Int) (o : List (List TRun) × List TRun) : List (List UInt8) → List (List TRun) × List TRun
  | [] => o
  | p :: ps => ps.foldl (pcQ c) (o.1, o.2 ++ [TRun.mk p c])
def pcR (o : List (List TRun) × List TRun) (r : TRun) : List (List TRun) × List TRun := cond (clsB r.fClass) o (pcP r.fClass o (partsS r.fText))
def pcO (l : List TRun) : List (List TRun) × List TRun := l.foldl pcR ([], [])
def pcL (l : List TRun) : List (List TRun) := (pcO l).1 ++ [(pcO l).2]
theorem pcQ_pre (c : Int) : ∀ (ps : List (List UInt8)) (o : List (List TRun) × List TRun), o.1 <+: (ps.foldl (pcQ c) o).1
  | [], o => List.prefix_rfl
  | q :: ps, o => (List.prefix_append o.1 [o.2]).trans (pcQ_pre c ps (pcQ c o q))
theorem pcR_pre (o : List (List TRun) × List TRun) (r : TRun) : o.1 <+: (pcR o r).1 := by
  unfold pcR
  cases clsB r.fClass
  · rw [cond_false]
    cases partsS r.fText with
    | nil => exact List.prefix_rfl
    | cons p ps => exact pcQ_pre r.fClass ps (o.1, o.2 ++ [TRun.mk p r.fClass])
  · exact List.prefix_rfl
theorem pcF_pre : ∀ (l : List TRun) (o : List (List TRun) × List TRun), o.1 <+: (l.foldl pcR o).1
  | [], o => List.prefix_rfl
  | r :: l, o => (pcR_pre o r).trans (pcF_pre l (pcR o r))
section
variable {F : Nat} {pat : List TRun → List TPatItem} {lit : List TRun → Bool}
def cmpP (pat : List TRun → List TPatItem) (lit : List TRun → Bool) (t : List TRun) : Tcomponent := Tcomponent.mk (txt t) (pat t) (lit t)
def PcK (F : Nat) (pat : List TRun → List TPatItem) (lit : List TRun → Bool) (t : List TRun) : Prop := pattern_Compile F t = some (pat t) ∧ (∃ x, pattern_Literal F (pat t) = some (x, lit t)) ∧ t.length < F ∧ t.length < 1000000 ∧ szL t ≤ 1000000
theorem y_eq {t : List TRun} (hK : PcK F pat lit t) (fs : List TFile) (ds : List (List TRun)) (dead : List (Tplace × Bool)) (found : List (List UInt8)) (hd : ds.length ≤ 1000000) :
    pathname_Expand_y F t fs (ds.map (cmpP pat lit)) (ds.all lit) dead (ds.map txt) found = some (fs, (ds ++ [t]).map (cmpP pat lit), (ds ++ [t]).all lit, (ds ++ [t]).map txt, found) := by
  obtain ⟨h1, ⟨x, h2⟩, h3, h4, h5⟩ := hK
  unfold pathname_Expand_y
  rw [text_eq F t h3 (by omega) h5, Option.bind_some, h1, Option.bind_some]
  show ((pattern_Literal F (pat t)).bind _) = _
  rw [h2, Option.bind_some, cond_som, Option.bind_some]
  have e : cond (ds.all lit) ((x, lit t).2, ds.map txt, found) (false, ds.map txt, found) = (ds.all lit && lit t, ds.map txt, found) := by cases ds.all lit <;> rfl
  rw [e]
  dsimp only
  rw [rq_cap (by simp; omega) (by omega), rq_cap (by simp; omega) (by omega)]
  simp [cmpP, List.all_append]
abbrev PSt := (List TRun) × Int × (List TFile) × (List Tcomponent) × Bool × (List (List UInt8)) × (List (List UInt8))
def pSt (pat : List TRun → List TPatItem) (lit : List TRun → Bool) (fs : List TFile) (i : Nat) (o : List (List TRun) × List TRun) : PSt := (o.2, (i : Int), fs, o.1.map (cmpP pat lit), o.1.all lit, o.1.map txt, [])
theorem pieces_eq {l : List TRun} {fs : List TFile} {dead : List (Tplace × Bool)} (hF : l.length < F) (hF2 : szL l + 1 < F) (h1 : l.length < 1000000) (h2 : szL l ≤ 1000000) (hn : (pcL l).length ≤ 1000000) (hnow : ∀ k, ((l.take k).foldl pcR ([], [])).2.length ≤ 1000000) (hK : ∀ t ∈ pcL l, PcK F pat lit t) :
    pathname_pieces_1 F l fs [] true dead [] [] = some (fs, (pcL l).map (cmpP pat lit), (pcL l).all lit, (pcL l).map txt, []) := by
  have hmem : ∀ t, t ∈ (pcO l).1 → PcK F pat lit t := fun t ht => hK t (by unfold pcL; simp [ht])
  have hlast : PcK F pat lit (pcO l).2 := hK _ (by unfold pcL; simp)
  have hlen : (pcO l).1.length + 1 ≤ 1000000 := by have := hn; unfold pcL at this; simpa using this
  unfold pathname_pieces_1
  refine loopF_hoare (fun x : PSt => ∃ k : Nat, k ≤ l.length ∧ x = pSt pat lit fs k ((l.take k).foldl pcR ([], []))) (fun x => l.length - x.2.1.toNat) ?_ F _ ⟨0, by omega, rfl⟩ (by simp; omega)
  rintro x ⟨k, hk, rfl⟩
  have hpre : ((l.take k).foldl pcR ([], [])).1 <+: (pcO l).1 := by
    have := pcF_pre (l.drop k) ((l.take k).foldl pcR ([], []))
    rwa [← List.foldl_append, List.take_append_drop] at this
  have hnk := hnow k
  by_cases hk : k < l.length
  · left
    have hsucc : (l.take (k + 1)).foldl pcR ([], []) = pcR ((l.take k).foldl pcR ([], [])) l[k] := by rw [List.take_succ_eq_append_getElem hk, List.foldl_append]; rfl
    refine ⟨pSt pat lit fs (k + 1) ((l.take (k + 1)).foldl pcR ([], [])), ⟨k + 1, by omega, rfl⟩, by simp only [pSt]; omega, fun rc => ?_⟩
    have hpre2 : (pcR ((l.take k).foldl pcR ([], [])) l[k]).1 <+: (pcO l).1 := by
      rw [← hsucc]
      have := pcF_pre (l.drop (k + 1)) ((l.take (k + 1)).foldl pcR ([], []))
      rwa [← List.foldl_append, List.take_append_drop] at this
    have htl : l[k].fText.length ≤ szL l := szL_mem (List.getElem_mem hk)
    rw [hsucc]
    generalize (l.take k).foldl pcR ([], []) = o at hpre hpre2 hnk
    unfold pSt
    dsimp only
    rw [ct (by omega), rq_ix hk, Int.toNat_natCast, gd hk, cond_som, Option.bind_some]
    have e1 : cond (l[k].fClass != 0) (l[k].fClass != 1, o.1.map txt, ([] : List (List UInt8))) (false, o.1.map txt, []) = (l[k].fClass != 0 && l[k].fClass != 1, o.1.map txt, []) := by cases (l[k].fClass != 0) <;> rfl
    rw [e1]
    dsimp only
    rw [cond_som, Option.bind_some]
    have e2 : cond (l[k].fClass != 0 && l[k].fClass != 1) (l[k].fClass != 2, o.1.map txt, ([] : List (List UInt8))) (false, o.1.map txt, []) = (clsB l[k].fClass, o.1.map txt, []) := by rw [← clsB_eq]; cases (l[k].fClass != 0 && l[k].fClass != 1) <;> rfl
    rw [e2]
    dsimp only
    rw [w64s (by omega)]
    unfold pcR at hpre2 ⊢
    cases hc : clsB l[k].fClass with
    | true => rfl
    | false =>
      rw [hc] at hpre2
      rw [cond_false, cond_false] at *
      rw [cutF_eq F _ (by omega), Option.bind_some, rq_cap (by simp; omega) (by omega)]
      generalize hfin : pcP l[k].fClass o (partsS l[k].fText) = fin at hpre2
      have hfinl : fin.1.length ≤ 1000000 := by have := hpre2.length_le; omega
      refine loopF_hoare (R := (List TFile) × (List Tcomponent) × Bool × (List (List UInt8)) × (List (List UInt8)))
        (fun x => ∃ (o2 : List (List TRun) × List TRun) (rest : List UInt8) (sl : Bool), x = (o2.2, rest, sl, fs, o2.1.map (cmpP pat lit), o2.1.all lit, o2.1.map txt, []) ∧ rest.length ≤ l[k].fText.length ∧
          ((sl = false ∧ o2 = fin) ∨ (sl = true ∧ (partsS rest).foldl (pcQ l[k].fClass) o2 = fin))) (fun x => cond x.2.2.1 (x.2.1.length + 1) 0) ?_ F _ ?_ ?_
      · rintro x ⟨o2, rest, sl, rfl, hrl, hcase⟩
        dsimp only
        rcases hcase with ⟨rfl, rfl⟩ | ⟨rfl, hf⟩
        · right
          intro rc2
          rfl
        · left
          have hne := parts_ne rest
          have hy : o2.2 ∈ (pcO l).1 ∧ o2.1.length ≤ 1000000 := by
            cases hp : partsS rest with
            | nil => exact absurd hp hne
            | cons p ps =>
              rw [hp] at hf
              have hpp : (o2.1 ++ [o2.2]) <+: fin.1 := by rw [← hf]; exact pcQ_pre l[k].fClass ps (pcQ l[k].fClass o2 p)
              refine ⟨(hpp.trans hpre2).subset (by simp), ?_⟩
              have := hpp.length_le
              simp at this
              omega
          have hyy := y_eq (hmem _ hy.1) fs o2.1 dead [] hy.2
          rcases cut_parts rest with ⟨g1, g2⟩ | ⟨a, r, g1, g2, g3⟩
          · refine ⟨_, ⟨(o2.1 ++ [o2.2], [TRun.mk rest l[k].fClass]), [], false, rfl, by simp, .inl ⟨rfl, ?_⟩⟩, by simp, fun rc2 => ?_⟩
            · rw [g2] at hf; exact hf
            · rw [cond_true, hyy, Option.bind_some, cutF_eq F _ (by omega), g1, Option.bind_some]
          · refine ⟨_, ⟨(o2.1 ++ [o2.2], [TRun.mk a l[k].fClass]), r, true, rfl, by omega, .inr ⟨rfl, ?_⟩⟩, by simp; omega, fun rc2 => ?_⟩
            · rw [g2] at hf; exact hf
            · rw [cond_true, hyy, Option.bind_some, cutF_eq F _ (by omega), g1, Option.bind_some]
      · rcases cut_parts l[k].fText with ⟨g1, g2⟩ | ⟨a, r, g1, g2, g3⟩
        · refine ⟨(o.1, o.2 ++ [TRun.mk l[k].fText l[k].fClass]), [], false, by rw [g1], by simp, .inl ⟨rfl, ?_⟩⟩
          rw [g2] at hfin; exact hfin
        · refine ⟨(o.1, o.2 ++ [TRun.mk a l[k].fClass]), r, true, by rw [g1], by omega, .inr ⟨rfl, ?_⟩⟩
          rw [g2] at hfin; exact hfin
      · rcases cut_parts l[k].fText with ⟨g1, g2⟩ | ⟨a, r, g1, g2, g3⟩
        · rw [g1]; show 0 < F; omega
        · rw [g1]; show r.length + 1 < F; omega
  · right
    obtain rfl : k = l.length := by omega
    intro rc
    have ht : (l.take l.length).foldl pcR ([], []) = pcO l := by rw [List.take_length]; rfl
    rw [ht]
    unfold pSt
    dsimp only
    rw [cf (by omega), y_eq hlast fs (pcO l).1 dead [] (by omega)]
    rfl
end
theorem lsmall {F : Nat} {l : List TFile} {cwd : List UInt8} {r : List TRun} {P P2 : Prop} (hF : 1000 ≤ F) (h1 : ∃ b, (b = true → P) ∧ ref04_Small F r 10 80 = some b) (h2 : P → ∃ b, (b = true → P2) ∧ ref20_Bounded F r = some b) :
    ∃ b, (b = true → l.length ≤ 40 ∧ cwd.length ≤ 200 ∧ P ∧ VL l ∧ P2) ∧ law20_small F l cwd r = some b := by
  unfold law20_small
  simp only [cond_som, Option.bind_some, cF]
  obtain ⟨b1, hb1, e1⟩ := h1
  obtain ⟨b2, hb2, e2⟩ := small_eq F l (by omega)
  by_cases ha : l.length ≤ 40 ∧ cwd.length ≤ 200
  · rw [dT (show (l.length : Int) ≤ 40 by omega), dT (show (cwd.length : Int) ≤ 200 by omega)]
    simp only [Bool.and_self, cond_true, e1, Option.bind_some]
    cases b1 with
    | false => exact ⟨false, (fun h => by cases h), rfl⟩
    | true =>
      simp only [cond_true, e2, Option.bind_some]
      cases b2 with
      | false => exact ⟨false, (fun h => by cases h), rfl⟩
      | true =>
        simp only [cond_true, ref_valid F l (by omega) (hb2 rfl), Option.bind_some]
        cases hv : (validS l == 0) with
        | false => exact ⟨false, (fun h => by cases h), rfl⟩
        | true =>
          obtain ⟨b3, hb3, e3⟩ := h2 (hb1 rfl)
          simp only [cond_true, e3, Option.bind_some]
          exact ⟨b3, fun h => ⟨ha.1, ha.2, hb1 rfl, (valid_iff l).1 (eq_of_beq hv), hb3 h⟩, rfl⟩
  · refine ⟨false, (fun h => by cases h), ?_⟩
    have e : (decide ((l.length : Int) ≤ 40) && decide ((cwd.length : Int) ≤ 200)) = false := by
      rw [Bool.and_eq_false_iff]; simp only [decide_eq_false_iff_not]; omega
    rw [e]
    rfl
end Go.Proofs.YtmklhkmeampamaaGreatDoor
