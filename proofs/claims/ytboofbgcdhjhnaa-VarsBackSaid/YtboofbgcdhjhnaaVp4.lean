/-
  Layer 15 (vars), plain: the models of the seven laws give true.
-/
import Derived.Test.YtboofbgcdhjhnaaVp3
namespace Go.Proofs.Ytboofbgcdhjhnaa
set_option linter.unusedVariables false
open Go.AL

theorem texts_le (a : List (List UInt8)) (h : ∀ x, x ∈ a → x.length ≤ maxLen) : ∀ i, i < a.length → (a.getD i default).length ≤ 9223372036854775807 := by
  intro i hi
  have e : a.getD i default = a[i] := by simp [List.getD, hi]
  have := h a[i] (List.getElem_mem hi)
  rw [e]
  unfold maxLen at this
  omega
theorem ok_nil : Ok [] := ⟨by simp, by simp, by simp, by simp, List.Pairwise.nil⟩
theorem ok_of (l : List TVar) (h : rValid l = 0) : Ok l := (valid_iff l).1 h

theorem awake_eq (n : Nat) (hn : 2000 ≤ n) : law15_awake n = some true := by
  unfold law15_awake
  have hr : Ok [TVar.mk ([114] : List UInt8) [] false false true] := ok_of _ (by decide)
  have hf := vfrom_eq n 10 [([65, 61, 49] : List UInt8), ([66] : List UInt8), ([57, 61, 120] : List UInt8), ([65, 61, 50, 61, 51] : List UInt8)] (by decide) (by decide) (by decide) (by omega)
  have e0 : rFrom [([65, 61, 49] : List UInt8), ([66] : List UInt8), ([57, 61, 120] : List UInt8), ([65, 61, 50, 61, 51] : List UInt8)] = ([TVar.mk [65] [50, 61, 51] true true false], 0) := by decide
  have e1 : rSet [] ([97] : List UInt8) ([49] : List UInt8) = ([TVar.mk [97] [49] true false false], 0) := by decide
  have e2 : rMark [] ([120] : List UInt8) true false = ([TVar.mk [120] [] false true false], 0) := by decide
  have e3 : rSet [TVar.mk ([114] : List UInt8) [] false false true] ([114] : List UInt8) [] = ([TVar.mk ([114] : List UInt8) [] false false true], 11) := by decide
  have e4 : rGet [TVar.mk [65] [50, 61, 51] true true false] ([65] : List UInt8) = (TVar.mk [65] [50, 61, 51] true true false, true) := by decide
  have hA : Ok [TVar.mk [65] [50, 61, 51] true true false] := ok_of _ (by decide)
  have e5 : rEnv [TVar.mk [65] [50, 61, 51] true true false] = [[65, 61, 50, 61, 51]] := by decide
  have e6 : rValid [TVar.mk ([49] : List UInt8) [] false false false] = 10 := by decide
  rw [vset_eq n [] _ _ ok_nil (by omega), vmark_eq n [] _ _ _ ok_nil (by omega), hf, vset_eq n _ _ _ hr (by omega), e0, e1, e2, e3]
  simp only [Option.bind_some]
  rw [vget_eq n _ _ (by simp; omega) (by simp), e4, venv_eq n _ hA (by omega), e5, vvalid_eq n _ (by omega), e6]
  rfl

theorem short_iff (s : List UInt8) : law15_short s = true ∨ law15_short s = false := by cases law15_short s <;> simp

theorem VarsValid_eq (n : Nat) (l : List TVar) (name : List UInt8) (hn : 2000 ≤ n) : law15_VarsValid n l name = some true := by
  unfold law15_VarsValid
  rw [small_eq n l (by omega), awake_eq n hn]
  simp only [Option.bind_some]
  cases hs : rSmall l with
  | false => rfl
  | true =>
    have := (small_ok hs).1
    rw [vget_eq n l name (by omega) (by omega), get_eq n l name (by omega) (by omega), vvalid_eq n l (by omega), valid_eq n l (by omega)]
    simp

theorem VarsSets_eq (n : Nat) (l : List TVar) (name value : List UInt8) (hn : 2000 ≤ n) : law15_VarsSets n l name value = some true := by
  unfold law15_VarsSets
  rw [small_eq n l (by omega), awake_eq n hn, valid_eq n l (by omega)]
  simp only [Option.bind_some]
  cases hs : rSmall l with
  | false => rfl
  | true =>
    cases law15_short value with
    | false => rfl
    | true =>
      by_cases hv : rValid l = 0
      · have h := ok_of l hv
        have h2 := set_ok (name := name) (value := value) h
        have hl2 := h2.len
        rw [hv, vset_eq n l name value h (by omega), set_eq n l name value h (by omega)]
        simp only [Option.bind_some]
        rw [same_eq n _ _ (by omega) (by omega), valid_eq n _ (by omega), (valid_iff _).2 h2]
        simp
      · have hb : (rValid l != 0) = true := by simpa using hv
        simp [hb]
theorem VarsUnsets_eq (n : Nat) (l : List TVar) (name : List UInt8) (hn : 2000 ≤ n) : law15_VarsUnsets n l name = some true := by
  unfold law15_VarsUnsets
  rw [small_eq n l (by omega), awake_eq n hn, valid_eq n l (by omega)]
  simp only [Option.bind_some]
  cases hs : rSmall l with
  | false => rfl
  | true =>
    by_cases hv : rValid l = 0
    · have h := ok_of l hv
      have hl := h.len
      have h2 := unset_ok (name := name) h
      have hl2 := h2.len
      rw [hv, vunset_eq n l name h (by omega), unset_eq n l name (by omega) (by omega)]
      simp only [Option.bind_some]
      rw [same_eq n _ _ (by omega) (by omega), valid_eq n _ (by omega), (valid_iff _).2 h2]
      simp
    · have hb : (rValid l != 0) = true := by simpa using hv
      simp [hb]
theorem VarsMarks_eq (n : Nat) (l : List TVar) (name : List UInt8) (m : Bool × Bool) (hn : 2000 ≤ n) : law15_VarsMarks n l name m = some true := by
  unfold law15_VarsMarks
  rw [small_eq n l (by omega), awake_eq n hn, valid_eq n l (by omega)]
  simp only [Option.bind_some]
  cases hs : rSmall l with
  | false => rfl
  | true =>
    by_cases hv : rValid l = 0
    · have h := ok_of l hv
      have h2 := mark_ok (name := name) (ex := m.1) (ro := m.2) h
      have hl2 := h2.len
      rw [hv, vmark_eq n l name _ _ h (by omega), mark_eq n l name _ _ h (by omega)]
      simp only [Option.bind_some]
      rw [same_eq n _ _ (by omega) (by omega), valid_eq n _ (by omega), (valid_iff _).2 h2]
      simp
    · have hb : (rValid l != 0) = true := by simpa using hv
      simp [hb]
theorem from_len (l : List (List UInt8)) : (rFrom l).1.length ≤ 128 := by
  unfold rFrom
  (repeat' split) <;> simp
  omega
theorem VarsEnvirons_eq (n M : Nat) (l : List TVar) (es : List (List UInt8)) (hM : ∀ i, i < es.length → (es.getD i default).length ≤ M) (hM2 : M ≤ 9223372036854775807) (hn : 2000 + M ≤ n) : law15_VarsEnvirons n l es = some true := by
  unfold law15_VarsEnvirons
  rw [small_eq n l (by omega), few_eq n es (by omega), awake_eq n (by omega), valid_eq n l (by omega)]
  simp only [Option.bind_some]
  cases hs : rSmall l with
  | false => rfl
  | true =>
    simp only [Bool.not_true, Bool.false_beq, Bool.not_false, cond_true, Option.bind_some]
    cases hf : rFew es with
    | false => rfl
    | true =>
      have hfl := few_ok hf
      have hfr := from_len es
      rw [vfrom_eq n M es hfl hM (by omega) (by omega), from_eq n M es hfl hM (by omega) (by omega)]
      simp only [Option.bind_some]
      rw [same_eq n _ _ (by omega) (by omega)]
      by_cases hv : rValid l = 0
      · have h := ok_of l hv
        have hl := h.len
        have hel : (rEnv l).length ≤ 128 := by
          unfold rEnv
          rw [List.length_map]
          exact Nat.le_trans List.filter_sublist.length_le h.len
        rw [hv, venv_eq n l h (by omega), env_eq n l h (by omega)]
        simp only [bne_self_eq_false, beq_self_eq_true, cond_true, Option.bind_some]
        rw [sameTexts_eq n _ _ (by omega) (by omega)]
        simp
      · have : (rValid l != 0) = true := by simpa using hv
        rw [this]
        simp

theorem get_set (l : List TVar) (name value : List UInt8) (h : Ok l) (x : List UInt8) : (x ≠ name → rGet (rSet l name value).1 x = rGet l x) ∧ ((rSet l name value).2 ≠ 0 → rGet (rSet l name value).1 x = rGet l x) ∧
    ((rSet l name value).2 = 0 → rGet (rSet l name value).1 name = (TVar.mk name value true (rGet l name).1.fExport false, true)) ∧ ((rGet l name).1.fReadonly = true → rGet (rSet l name value).1 name = rGet l name) := by
  unfold rSet
  (repeat' split)
  · exact ⟨fun _ => rfl, fun _ => rfl, (fun h => by cases h), fun _ => rfl⟩
  · exact ⟨fun _ => rfl, fun _ => rfl, (fun h => by cases h), fun _ => rfl⟩
  · exact ⟨fun _ => rfl, fun _ => rfl, (fun h => by cases h), fun _ => rfl⟩
  · rename_i hn hr hv h8
    refine ⟨fun hx => ?_, fun h => absurd rfl h, fun _ => ?_, fun hro => absurd hro hr⟩
    · unfold rGet
      rw [find_ins x h.sorted, if_neg (fun e => hx e.symm)]
    · show rGet (ins _ l) name = _
      generalize hvv : TVar.mk name value true (rGet l name).1.fExport false = v
      have : v.fName = name := by rw [← hvv]
      unfold rGet
      rw [find_ins name h.sorted, if_pos this]
  · exact ⟨fun _ => rfl, fun _ => rfl, (fun h => by cases h), fun _ => rfl⟩
theorem VarsKeeps_eq (n : Nat) (l : List TVar) (names : List UInt8 × List UInt8) (value : List UInt8) (hn : 2000 ≤ n) : law15_VarsKeeps n l names value = some true := by
  unfold law15_VarsKeeps
  rw [small_eq n l (by omega), awake_eq n hn, valid_eq n l (by omega)]
  simp only [Option.bind_some]
  cases hs : rSmall l with
  | false => rfl
  | true =>
    cases law15_short value with
    | false => rfl
    | true =>
      by_cases hv : rValid l = 0
      · have h := ok_of l hv
        have hl := h.len
        have h2 := set_ok (name := names.1) (value := value) h
        have hl2 := h2.len
        rw [hv, vset_eq n l names.1 value h (by omega), vget_eq n l names.2 (by omega) (by omega), vget_eq n l names.1 (by omega) (by omega)]
        simp only [Option.bind_some]
        rw [vget_eq n _ names.2 (by omega) (by omega), vget_eq n _ names.1 (by omega) (by omega)]
        simp only [Option.bind_some, var_eq]
        obtain ⟨g1, g2, g3, g4⟩ := get_set l names.1 value h names.2
        have c1 : (cond (cond (!(names.1 == names.2)) (cond (!(decide ((rGet (rSet l names.1 value).1 names.2).1 = (rGet l names.2).1))) true (!((rGet (rSet l names.1 value).1 names.2).2 == (rGet l names.2).2))) false) true (cond (rGet l names.1).1.fReadonly (!(decide ((rGet (rSet l names.1 value).1 names.1).1 = (rGet l names.1).1))) false)) = false := by
          have a1 : (cond (!(names.1 == names.2)) (cond (!(decide ((rGet (rSet l names.1 value).1 names.2).1 = (rGet l names.2).1))) true (!((rGet (rSet l names.1 value).1 names.2).2 == (rGet l names.2).2))) false) = false := by
            by_cases he : names.1 = names.2
            · rw [he]; simp
            · rw [g1 (fun e => he e.symm)]; simp
          have a2 : (cond (rGet l names.1).1.fReadonly (!(decide ((rGet (rSet l names.1 value).1 names.1).1 = (rGet l names.1).1))) false) = false := by
            cases hr : (rGet l names.1).1.fReadonly with
            | false => rfl
            | true => rw [g4 hr]; simp
          rw [a1, a2]; rfl
        have c2 : (cond ((rSet l names.1 value).2 == 0) (cond (!(rGet (rSet l names.1 value).1 names.1).2) true (!((rGet (rSet l names.1 value).1 names.1).1.fName == names.1 && ((rGet (rSet l names.1 value).1 names.1).1.fValue == value && ((rGet (rSet l names.1 value).1 names.1).1.fSet == true && ((rGet (rSet l names.1 value).1 names.1).1.fExport == (rGet l names.1).1.fExport && ((rGet (rSet l names.1 value).1 names.1).1.fReadonly == false && true))))))) false) = false := by
          by_cases h0 : (rSet l names.1 value).2 = 0
          · rw [g3 h0]; simp
          · have : ((rSet l names.1 value).2 == 0) = false := by simpa using h0
            rw [this]; rfl
        rw [c1, c2]
        rfl
      · have hb : (rValid l != 0) = true := by simpa using hv
        simp [hb]

/-! ### From after Environ -/
theorem find_eq {a b : List UInt8} (ha : ∀ x, x ∈ a → wordB x = true) : (a ++ [61] ++ b).findIdx? (· == 61) = some a.length := by
  rw [List.findIdx?_eq_some_iff_getElem]
  refine ⟨by simp, ?_, fun j hj => ?_⟩
  · simp
  · have hja : j < a.length := hj
    have hx : (a ++ [61] ++ b)[j]'(by simp; omega) = a[j] := by simp [hja]
    rw [hx]
    have := ha a[j] (List.getElem_mem hja)
    unfold wordB at this
    rw [word_iff] at this
    simp only [beq_iff_eq]
    intro e
    rw [e] at this
    revert this
    decide
theorem ent_entry {v : TVar} (hn : rName v.fName = true) : ent (entry v) = some (v.fName, v.fValue) := by
  unfold ent cut entry
  rw [find_eq (rName_word hn)]
  simp [hn]
theorem ins_last {v : TVar} : ∀ {o : List TVar}, (∀ x, x ∈ o → x.fName < v.fName) → ins v o = o ++ [v]
  | [], _ => rfl
  | x :: xs, h => by
    rw [ins_lt (h x (by simp)), ins_last (fun y hy => h y (by simp [hy]))]; rfl
def pub (v : TVar) : TVar := mkV (v.fName, v.fValue)
theorem out_env : ∀ (l o : List TVar), (∀ v, v ∈ l → rName v.fName = true) → Srt (o ++ l.map pub) → (l.map entry).foldl (fun o s => addO s o) o = o ++ l.map pub
  | [], o, _, _ => by simp
  | v :: l, o, hn, hs => by
    have e : addO (entry v) o = o ++ [pub v] := by
      unfold addO
      rw [ent_entry (hn v (by simp))]
      refine ins_last fun x hx => ?_
      exact (List.pairwise_append.1 hs).2.2 x hx (pub v) (by simp)
    rw [List.map_cons, List.foldl_cons, e, out_env l _ (fun x hx => hn x (by simp [hx])) (by simpa using hs)]
    simp
theorem from_env {l : List TVar} (h : Ok l) : rFrom (rEnv l) = ((l.filter shown).map pub, 0) := by
  have hsub : (l.filter shown).Sublist l := List.filter_sublist
  have hn : ∀ v, v ∈ l.filter shown → rName v.fName = true := fun v hv => h.name v (hsub.subset hv)
  have hsrt : Srt ((l.filter shown).map pub) := List.pairwise_map.2 (h.sorted.sublist hsub)
  have ho : outOf (rEnv l) = (l.filter shown).map pub := by
    have := out_env (l.filter shown) [] hn (by simpa using hsrt)
    rw [List.nil_append] at this
    exact this
  have hlong : (rEnv l).any long = false := by
    apply Bool.eq_false_iff.2
    intro ha
    obtain ⟨s, hs, hl⟩ := List.any_eq_true.1 ha
    obtain ⟨v, hv, rfl⟩ := List.mem_map.1 hs
    unfold long at hl
    rw [ent_entry (hn v hv)] at hl
    have := h.value v (hsub.subset hv)
    have := of_decide_eq_true hl
    simp only at this
    omega
  unfold rFrom
  rw [hlong, ho, if_neg (by simp), if_neg (by
    rw [List.length_map]
    have := Nat.le_trans hsub.length_le h.len
    omega)]
theorem env_pub (l : List TVar) : rEnv ((l.filter shown).map pub) = rEnv l := by
  unfold rEnv
  rw [List.filter_map]
  have : (shown ∘ pub) = fun _ => true := by funext v; rfl
  rw [this, List.filter_eq_self.2 (fun _ _ => rfl), List.map_map]
  rfl
theorem pub_ok {l : List TVar} (h : Ok l) : Ok ((l.filter shown).map pub) := by
  have hsub : (l.filter shown).Sublist l := List.filter_sublist
  refine ⟨by rw [List.length_map]; exact Nat.le_trans hsub.length_le h.len, fun v hv => ?_, fun v hv => ?_, fun v hv => ?_, List.pairwise_map.2 (h.sorted.sublist hsub)⟩
  · obtain ⟨x, hx, rfl⟩ := List.mem_map.1 hv; exact h.name x (hsub.subset hx)
  · obtain ⟨x, hx, rfl⟩ := List.mem_map.1 hv; exact h.value x (hsub.subset hx)
  · obtain ⟨x, hx, rfl⟩ := List.mem_map.1 hv; intro e; cases e

/-- The law's own loop: it walks both lists. -/
theorem back_loop (l : List TVar) (hl : l.length ≤ 128) (m : List TVar) (hm : m = (l.filter shown).map pub) : ∀ n i, i ≤ l.length → l.length - i < n →
    law15_VarsBack_l0 l (m, 0) n (((((l.take i).filter shown).length : Nat) : Int), (i : Int)) = some (.go ((m.length : Nat) : Int)) := by
  intro n
  induction n with
  | zero => intro i h1 h2; omega
  | succ n ih =>
    intro i hi hn
    show law15_VarsBack_l0_b l (m, 0) n (law15_VarsBack_l0 l (m, 0) n) _ = _
    unfold law15_VarsBack_l0_b
    simp only
    by_cases h : i < l.length
    · have hg : l.getD i default = l[i] := by simp [List.getD, h]
      have htake : (l.take (i + 1)).filter shown = (l.take i).filter shown ++ [l[i]].filter shown := by
        rw [List.take_succ_eq_append_getElem h, List.filter_append]
      have hfl : ((l.take i).filter shown).length ≤ 128 := by
        have h1 : ((l.take i).filter shown).length ≤ (l.take i).length := List.length_filter_le _ _
        have h2 : (l.take i).length ≤ l.length := by simp; omega
        omega
      rw [dec_t (by omega), cond_true, req_pos ⟨by omega, by omega⟩, toNat_cast, w64 (x := (i : Int) + 1) (by omega), hg]
      have ih1 := ih (i + 1) (by omega) (by omega)
      cases hsh : shown l[i] with
      | false =>
        have hc : (cond (!l[i].fSet) true (!l[i].fExport)) = true := by
          unfold shown at hsh
          cases h1 : l[i].fSet <;> cases h2 : l[i].fExport <;> rw [h1, h2] at hsh <;> first | rfl | cases hsh
        rw [hc]
        rw [htake] at ih1
        simp only [List.filter_cons, hsh, List.filter_nil, List.append_nil, Bool.false_eq_true, if_false] at ih1
        simp only [cond_true, jn_go]
        exact ih1
      | true =>
        have hc : (cond (!l[i].fSet) true (!l[i].fExport)) = false := by
          unfold shown at hsh
          cases h1 : l[i].fSet <;> cases h2 : l[i].fExport <;> rw [h1, h2] at hsh <;> first | rfl | cases hsh
        rw [hc]
        have hsplit : l.filter shown = (l.take i).filter shown ++ (l[i] :: (l.drop (i + 1)).filter shown) := by
          conv => lhs; rw [← List.take_append_drop i l, List.filter_append, List.drop_eq_getElem_cons h, List.filter_cons]
          simp [hsh]
        have hlt : ((l.take i).filter shown).length < m.length := by rw [hm, List.length_map, hsplit]; simp
        have hat : m.getD ((l.take i).filter shown).length default = pub l[i] := by
          rw [hm, hsplit, List.map_append]
          simp [List.getD]
        simp only [cond_false]
        rw [dec_f (show ¬ ((m.length : Nat) : Int) ≤ ((((l.take i).filter shown).length : Nat) : Int) by omega)]
        rw [req_pos ⟨fun _ => by omega, fun _ => by omega⟩, toNat_cast, hat]
        rw [htake] at ih1
        simp only [List.filter_cons, hsh, List.filter_nil, List.length_append, List.length_cons, List.length_nil, if_true] at ih1
        rw [w64 (by omega)]
        have hsame : ((pub l[i]).fName == l[i].fName && ((pub l[i]).fValue == l[i].fValue && ((pub l[i]).fSet == true && ((pub l[i]).fExport == true && ((pub l[i]).fReadonly == false && true))))) = true := by
          simp [pub, mkV]
        rw [hsame]
        simp only [Bool.not_true, cond_false, jn_go]
        exact ih1
    · have : i = l.length := by omega
      subst this
      rw [dec_f (by omega), cond_false, List.take_length, hm, List.length_map]
theorem VarsBack_eq (n : Nat) (l : List TVar) (hn : 20000 ≤ n) : law15_VarsBack n l = some true := by
  unfold law15_VarsBack
  rw [small_eq n l (by omega), awake_eq n (by omega), valid_eq n l (by omega)]
  simp only [Option.bind_some]
  cases hs : rSmall l with
  | false => rfl
  | true =>
    by_cases hv : rValid l = 0
    · have h := ok_of l hv
      have hl := h.len
      have hsub : (l.filter shown).Sublist l := List.filter_sublist
      have hfl : (l.filter shown).length ≤ 128 := Nat.le_trans hsub.length_le h.len
      have hel : (rEnv l).length = (l.filter shown).length := by unfold rEnv; rw [List.length_map]
      have hM : ∀ i, i < (rEnv l).length → ((rEnv l).getD i default).length ≤ 5000 := fun i hi => by
        have : (rEnv l).getD i default ∈ rEnv l := by
          have e : (rEnv l).getD i default = (rEnv l)[i] := by simp [List.getD, hi]
          rw [e]; exact List.getElem_mem hi
        obtain ⟨v, hv, e⟩ := List.mem_map.1 this
        rw [← e]
        have h1 := (rName_len (h.name v (hsub.subset hv))).2
        have h2 := h.value v (hsub.subset hv)
        unfold entry
        simp only [List.length_append, List.length_cons, List.length_nil]
        omega
      rw [hv, venv_eq n l h (by omega)]
      simp only [Option.bind_some]
      rw [vfrom_eq n 5000 (rEnv l) (by omega) hM (by omega) (by omega), from_env h]
      simp only [Option.bind_some]
      rw [venv_eq n _ (pub_ok h) (by omega), env_pub]
      have hb := back_loop l hl _ rfl n 0 (Nat.zero_le _) (by omega)
      have hb' : law15_VarsBack_l0 l ((l.filter shown).map pub, 0) n ((0 : Int), (0 : Int)) = some (.go ((((l.filter shown).map pub).length : Nat) : Int)) := hb
      have hlen : ((((l.filter shown).map pub).length : Nat) : Int) = (((rEnv l).length : Nat) : Int) := by rw [hel, List.length_map]
      simp only [bne_self_eq_false, beq_self_eq_true, hlen, cond_true, cond_false, Option.bind_some, Bool.not_true]
      rw [sameTexts_eq n _ _ (by omega) (by omega)]
      simp [hb', hel]
    · have hb : (rValid l != 0) = true := by simpa using hv
      simp [hb]

end Go.Proofs.Ytboofbgcdhjhnaa
