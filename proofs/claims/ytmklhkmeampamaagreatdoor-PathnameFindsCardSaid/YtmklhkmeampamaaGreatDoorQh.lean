import Derived.Test.YtmklhkmeampamaaGreatDoorPb
import Derived.Test.YtmklhkmeampamaaGreatDoorQb
namespace Go.Proofs.YtmklhkmeampamaaGreatDoor
open Go.RT
set_option linter.all false
set_option maxRecDepth 100000
theorem bracket_kind (F : Nat) (x : List Tchar) (i : Nat) (hF : x.length + 1000 < F) (hx : x.length < 100000) (hc : ChOk x) (hi : i < x.length) :
    ∃ r : TPatItem × Int × Bool, (r.2.2 = true → r.1.fKind = 4) ∧ pattern_bracket F x (i : Int) = some r := by
  unfold pattern_bracket
  have hw1 : w64 ((i : Int) + 1) = ((i + 1 : Nat) : Int) := w64s (by omega)
  rw [hw1, pis_eq, Option.bind_some, pis_eq, Option.bind_some, cond_som, Option.bind_some, w64s (by omega), cond_som, Option.bind_some]
  obtain ⟨s0, hs0, hs1, hs2⟩ : ∃ s0 : Nat, cond (cond (isC x (i + 1) 33) true (isC x (i + 1) 94)) (((i + 1 + 1 : Nat) : Int)) ((i + 1 : Nat) : Int) = (s0 : Int) ∧ i < s0 ∧ s0 ≤ i + 2 := by
    cases (cond (isC x (i + 1) 33) true (isC x (i + 1) 94))
    · exact ⟨i + 1, rfl, by omega, by omega⟩
    · exact ⟨i + 2, rfl, by omega, by omega⟩
  rw [hs0]
  refine loopF_tot _ (fun s : Int × Bool × List Bool => ∃ k : Nat, s.1 = (k : Int) ∧ i < k ∧ k ≤ x.length + 2 ∧ s.2.2.length = 256) (fun s => x.length + 2 - s.1.toNat) ?_ F _ ⟨s0, rfl, hs1, by omega, by simp⟩ (by simp; omega)
  rintro ⟨ii, fi, st⟩ ⟨k, h0, hk, hk2, hl⟩ rc hrc
  dsimp only at h0 hl ⊢
  subst h0
  by_cases hk3 : k < x.length
  · rw [ct (by omega), pis_eq, Option.bind_some, cond_som, Option.bind_some]
    have e2 : cond (isC x k 93) (!fi, st) (false, st) = ((isC x k 93 && !fi), st) := by cases isC x k 93 <;> rfl
    rw [e2]
    dsimp only
    cases (isC x k 93 && !fi) with
    | true =>
      obtain ⟨l, h1, h2⟩ := spans_tot F st (by omega) hl
      rw [cond_true, rq_true (by rw [hl]; rfl), h2, Option.bind_some]
      exact ⟨_, fun _ => rfl, rfl⟩
    | false =>
      obtain ⟨r, ⟨e, h1, h2, h3, h4⟩, h5⟩ := member_tot F x k st (by omega) (by omega) hc hk3 hl
      rw [cond_false, h5, Option.bind_some]
      exact hrc _ ⟨e, h1, by omega, by omega, h4⟩ (by dsimp only; rw [h1]; simp; omega)
  · rw [cf (by omega)]
    exact ⟨_, (fun h => by cases h), rfl⟩
theorem compile_bytes (F : Nat) (l : List TRun) (hF : l.length < F) (hF2 : szL l + 1000 < F) (h1 : l.length < 1000000000) (h2 : szL l ≤ 10000) : ∃ p : List TPatItem, (p.all byP = true → p = (l.flatMap chR).map fun e => pb e.fb) ∧ pattern_Compile F l = some p := by
  unfold pattern_Compile
  rw [chars_eq F l hF (by omega) h1 (by omega), Option.bind_some]
  have hx : (l.flatMap chR).length ≤ szL l := fl_len _ chR_len _
  have hc := chars_ok l
  generalize (l.flatMap chR) = x at hx hc
  refine loopF_tot _ (fun s : List TPatItem × Int => ∃ k : Nat, s.2 = (k : Int) ∧ k ≤ x.length ∧ s.1.length ≤ k ∧ (s.1.all byP = true → s.1 = (x.take k).map fun e => pb e.fb)) (fun s => x.length - s.2.toNat) ?_ F _ ⟨0, rfl, by omega, by simp, fun _ => by simp⟩ (by simp; omega)
  rintro ⟨acc, ii⟩ ⟨k, h0, hk, ha, hit⟩ rc hrc
  dsimp only at h0 ha hit ⊢
  subst h0
  have hadd : ∀ (it : TPatItem) (e : Nat), byP it = false → k < e → e ≤ x.length → ∃ p : List TPatItem, (p.all byP = true → p = x.map fun e => pb e.fb) ∧ rc (acc ++ [it], (e : Int)) = some p := by
    intro it e h3 h4 h5
    refine hrc _ ⟨e, rfl, h5, by simp; omega, fun hall => ?_⟩ (by simp; omega)
    dsimp only at hall
    rw [List.all_append, Bool.and_eq_true] at hall
    have := hall.2
    simp [h3] at this
  by_cases hk3 : k < x.length
  · rw [ct (by omega)]
    have hrest : ∃ p : List TPatItem, (p.all byP = true → p = x.map fun e => pb e.fb) ∧ ((pattern_is F x (k : Int) 42).bind fun x7 =>
        cond x7
        (rq ((decide (acc.length + ([(TPatItem.mk 3 [] false [])] : List TPatItem).length ≤ 9223372036854775807)) && (decide ((acc.length + ([(TPatItem.mk 3 [] false [])] : List TPatItem).length) * 56 ≤ 140737488355328))) (rc (acc ++ ([(TPatItem.mk 3 [] false [])] : List TPatItem), w64 ((k : Int) + 1))))
        ((pattern_is F x (k : Int) 63).bind fun x8 =>
        cond x8
        (rq ((decide (acc.length + ([(TPatItem.mk 2 [] false [])] : List TPatItem).length ≤ 9223372036854775807)) && (decide ((acc.length + ([(TPatItem.mk 2 [] false [])] : List TPatItem).length) * 56 ≤ 140737488355328))) (rc (acc ++ ([(TPatItem.mk 2 [] false [])] : List TPatItem), w64 ((k : Int) + 1))))
        (rq ((decide (0 ≤ (k : Int))) && (decide ((k : Int) < (x.length : Int)))) (rq ((decide (acc.length + ([(TPatItem.mk 1 (toBytes ([(x.getD (Int.toNat (k : Int)) dTchar).fb] : List Int)) false [])] : List TPatItem).length ≤ 9223372036854775807)) && (decide ((acc.length + ([(TPatItem.mk 1 (toBytes ([(x.getD (Int.toNat (k : Int)) dTchar).fb] : List Int)) false [])] : List TPatItem).length) * 56 ≤ 140737488355328))) (rc (acc ++ ([(TPatItem.mk 1 (toBytes ([(x.getD (Int.toNat (k : Int)) dTchar).fb] : List Int)) false [])] : List TPatItem), w64 ((k : Int) + 1))))))) = some p := by
      rw [pis_eq, Option.bind_some, pis_eq, Option.bind_some, rq_cap (by simp; omega) (by omega), rq_cap (by simp; omega) (by omega), rq_ix hk3, rq_cap (by simp; omega) (by omega), w64s (by omega), Int.toNat_natCast]
      cases isC x k 42 with
      | true => exact hadd _ _ rfl (by omega) (by omega)
      | false =>
        cases isC x k 63 with
        | true => exact hadd _ _ rfl (by omega) (by omega)
        | false =>
          refine hrc _ ⟨k + 1, rfl, by omega, by simp; omega, fun hall => ?_⟩ (by simp; omega)
          dsimp only at hall ⊢
          rw [List.all_append, Bool.and_eq_true] at hall
          rw [hit hall.1, List.take_succ_eq_append_getElem hk3, List.map_append, gd hk3]
          rfl
    rw [pis_eq, Option.bind_some]
    cases isC x k 91 with
    | false => exact hrest
    | true =>
      obtain ⟨r, h3, h4⟩ := bracket_tot F x k (by omega) (by omega) hc hk3
      obtain ⟨r', h3', h4'⟩ := bracket_kind F x k (by omega) (by omega) hc hk3
      have hrr : r' = r := Option.some.inj (h4'.symm.trans h4)
      subst hrr
      rw [cond_true, h4, Option.bind_some]
      cases h5 : r'.2.2 with
      | false => exact hrest
      | true =>
        obtain ⟨g1, e, g2, g3, g4⟩ := h3 h5
        rw [cond_true, rq_cap (by simp; omega) (by omega), g2]
        obtain ⟨p, hp, hq⟩ := hadd r'.1 e (by unfold byP; rw [h3' h5]; rfl) g3 g4
        rw [hq]
        exact ⟨p, hp, rfl⟩
  · obtain rfl : k = x.length := by omega
    rw [cf (by omega)]
    exact ⟨_, (fun h => by rw [hit h, List.take_length]), rfl⟩
end Go.Proofs.YtmklhkmeampamaaGreatDoor
namespace Go.Proofs.YtmklhkmeampamaaGreatDoor
open Go.RT
set_option linter.all false
set_option maxRecDepth 100000
def ClsO (o : List (List TRun) × List TRun) : Prop := (∀ c ∈ o.1, ∀ r ∈ c, clsB r.fClass = false) ∧ ∀ r ∈ o.2, clsB r.fClass = false
theorem ClsO_Q (c : Int) (hc : clsB c = false) : ∀ (ps : List (List UInt8)) (o : List (List TRun) × List TRun), ClsO o → ClsO (ps.foldl (pcQ c) o)
  | [], o, h => h
  | q :: ps, o, h => ClsO_Q c hc ps _ ⟨fun x hx => by
      rcases List.mem_append.1 hx with hx | hx
      · exact h.1 x hx
      · obtain rfl := List.mem_singleton.1 hx; exact h.2, fun r hr => by
      obtain rfl := List.mem_singleton.1 (show r ∈ [TRun.mk q c] from hr)
      exact hc⟩
theorem ClsO_F : ∀ (l : List TRun) (o : List (List TRun) × List TRun), ClsO o → ClsO (l.foldl pcR o)
  | [], o, h => h
  | r :: l, o, h => ClsO_F l _ (by
    unfold pcR
    cases hc : clsB r.fClass
    · rw [cond_false]
      cases hp : partsS r.fText with
      | nil => exact absurd hp (parts_ne _)
      | cons p ps =>
        refine ClsO_Q r.fClass hc ps (o.1, o.2 ++ [TRun.mk p r.fClass]) ⟨h.1, fun x hx => ?_⟩
        rcases List.mem_append.1 hx with hx | hx
        · exact h.2 x hx
        · obtain rfl := List.mem_singleton.1 hx; exact hc
    · exact h)
theorem pc_cls (l : List TRun) : ∀ t ∈ pcL l, ∀ r ∈ t, clsB r.fClass = false := by
  have h := ClsO_F l ([], []) ⟨fun c hc => (by cases hc), fun r hr => (by cases hr)⟩
  intro t ht
  rcases List.mem_append.1 ht with ht | ht
  · exact h.1 t ht
  · obtain rfl := List.mem_singleton.1 ht; exact h.2
theorem ch_txt : ∀ (t : List TRun), (∀ r ∈ t, clsB r.fClass = false) → txP ((t.flatMap chR).map fun e => pb e.fb) = txt t
  | [], _ => rfl
  | r :: t, h => by
    have ih := ch_txt t fun x hx => h x (by simp [hx])
    have hc := h r (by simp)
    rw [List.flatMap_cons, List.map_append]
    have e : txP ((chR r).map fun e => pb e.fb) = r.fText := by
      unfold chR
      rw [hc, cond_false, List.map_map]
      unfold txP
      rw [List.flatMap_map]
      conv => rhs; rw [← List.flatMap_singleton' r.fText]
      refine congrArg (fun f => List.flatMap f r.fText) (funext fun b => ?_)
      show toBytes [(b.toNat : Int)] = [b]
      simp [toBytes]
    have e2 : ∀ a b : List TPatItem, txP (a ++ b) = txP a ++ txP b := fun a b => by unfold txP; rw [List.flatMap_append]
    rw [e2, e, ih]
    unfold txt
    rw [List.flatMap_cons]
theorem lit_text (t : List TRun) (h1 : t.length ≤ 1000) (h2 : szL t ≤ 1000) (hcl : ∀ r ∈ t, clsB r.fClass = false) (h : litF t = true) : ref04_Literal 100000 (patF t) = some (txt t, true) := by
  obtain ⟨g1, g2, g3⟩ := patF_ok t h1 h2
  obtain ⟨b, hb⟩ := valid_tot 100000 (patF t) (by omega) (by omega) g2
  have hl := pliteral_eq 100000 (patF t) (by omega) (by omega) g2 hb
  obtain ⟨x, hx⟩ := litF_ok t h1 h2
  rw [h] at hx
  rw [← literal_eq2 100000 (patF t) (by omega) (by omega) g2, hx]
  rw [hl] at hx
  have he := Option.some.inj hx
  unfold litV at he
  cases ha : ((patF t).all byP && b) with
  | false =>
    rw [ha] at he
    have := congrArg (·.2) he
    cases this
  | true =>
    rw [ha] at he
    rw [Bool.and_eq_true] at ha
    obtain ⟨p, hp1, hp2⟩ := compile_bytes 100000 t (by omega) (by omega) (by omega) (by omega)
    have hpp : p = patF t := Option.some.inj (hp2.symm.trans g1)
    rw [hpp] at hp1
    have h3 : txP (patF t) = txt t := by rw [hp1 ha.1, ch_txt t hcl]
    have h4 : txP (patF t) = x := congrArg (·.1) he
    rw [← h4, h3]
def wildT (t : List TRun) : Bool := !litF t
def upT (t : List TRun) : Bool := litF t && txt t == [46, 46]
theorem bounded_sem (r : List TRun) (h1 : r.length ≤ 100) (h2 : szL r ≤ 300) : ref20_Bounded 100000 r = some (decide (((pcL r).filter wildT).length ≤ 2) || ((pcL r).filter upT).length == 0) := by
  have hmap := comp_pc r
  have hlen : (compL r).length = (pcL r).length := by have := congrArg List.length hmap; simpa using this
  have hcl := comp_len r
  have hdoc : ∀ k, ∀ hk : k < (pcL r).length, ∃ x, ref04_Compile 100000 ((compL r).getD k []) = some (patF (pcL r)[k]) ∧ ref04_Literal 100000 (patF (pcL r)[k]) = some (x, litF (pcL r)[k]) ∧ (litF (pcL r)[k] = true → x = txt (pcL r)[k]) := by
    intro k hk
    have hk' : k < (compL r).length := by omega
    have e : bits (compL r)[k] = bits (pcL r)[k] := by
      have := congrArg (fun L => L[k]?) hmap
      simp only [List.getElem?_map, List.getElem?_eq_getElem hk, List.getElem?_eq_getElem hk', Option.map_some] at this
      exact Option.some.inj this
    have c1 := comp_g r _ (List.getElem_mem hk')
    have t1 := pc_len (l := r) _ (List.getElem_mem hk)
    have t2 := (pc_sz (l := r)).2 _ (List.getElem_mem hk)
    obtain ⟨x, g1, g2⟩ := lit_doc (compL r)[k] (pcL r)[k] e (by omega) (by omega) (by omega) (by omega)
    rw [gd hk']
    refine ⟨x, g1, g2, fun hl => ?_⟩
    have h3 := lit_text (pcL r)[k] (by omega) (by omega) (pc_cls r _ (List.getElem_mem hk)) hl
    rw [hl, h3] at g2
    exact (congrArg (·.1) (Option.some.inj g2)).symm
  unfold ref20_Bounded compF
  rw [rq2 (by omega) (by omega), Option.bind_some, hlen]
  refine loopF_hoare (fun x : Int × Int × Int => ∃ k : Nat, x = (((((pcL r).take k).filter wildT).length : Int), ((((pcL r).take k).filter upT).length : Int), (k : Int)) ∧ k ≤ (pcL r).length) (fun x => (pcL r).length - x.2.2.toNat) ?_ 100000 _ ⟨0, by simp, by omega⟩ (by simp; omega)
  rintro x ⟨k, rfl, hk⟩
  dsimp only
  have hw := List.length_filter_le wildT ((pcL r).take k)
  have hu := List.length_filter_le upT ((pcL r).take k)
  rw [List.length_take] at hw hu
  by_cases hk : k < (pcL r).length
  · left
    obtain ⟨x, g1, g2, g3⟩ := hdoc k hk
    refine ⟨_, ⟨k + 1, rfl, by omega⟩, by simp; omega, fun rc => ?_⟩
    rw [ct (by omega), rq_ix hk, Int.toNat_natCast, g1, Option.bind_some, g2, Option.bind_some, w64s (by omega), w64s (by omega), w64s (by omega), List.take_succ_eq_append_getElem hk, List.filter_append, List.filter_append]
    cases hl : litF (pcL r)[k] with
    | false =>
      have e1 : wildT (pcL r)[k] = true := by unfold wildT; rw [hl]; rfl
      have e2 : upT (pcL r)[k] = false := by unfold upT; rw [hl]; rfl
      simp [e1, e2]
    | true =>
      have hx := g3 hl
      subst hx
      have e1 : wildT (pcL r)[k] = false := by unfold wildT; rw [hl]; rfl
      have e2 : upT (pcL r)[k] = (txt (pcL r)[k] == [46, 46]) := by unfold upT; rw [hl]; rfl
      dsimp only
      rw [Bool.not_true, cond_false]
      cases hd : (txt (pcL r)[k] == [46, 46]) with
      | true => rw [hd] at e2; simp [e1, e2]
      | false => rw [hd] at e2; simp [e1, e2]
  · right
    obtain rfl : k = (pcL r).length := by omega
    intro rc
    rw [cf (by omega), cond_som, Option.bind_some, List.take_length]
    congr 1
    have e : decide ((((pcL r).filter wildT).length : Int) ≤ 2) = decide (((pcL r).filter wildT).length ≤ 2) := decide_eq_decide.2 (by omega)
    rw [e]
    have e2 : ((((pcL r).filter upT).length : Int) == 0) = (((pcL r).filter upT).length == 0) := by
      rw [Bool.eq_iff_iff]; simp only [beq_iff_eq]; omega
    rw [e2]
    cases decide (((pcL r).filter wildT).length ≤ 2) <;> rfl
end Go.Proofs.YtmklhkmeampamaaGreatDoor
namespace Go.Proofs.YtmklhkmeampamaaGreatDoor
open Go.RT
set_option linter.all false
set_option maxRecDepth 100000
theorem start_path {cwd : List UInt8} (hc : pathS cwd = true) (f : List UInt8) : ∃ ns, Names ns ∧ startP cwd f = pathOf ns := by
  unfold startP
  cases (f.take 1 == [47]) with
  | true => exact ⟨[], fun c h => (by cases h), rfl⟩
  | false =>
    obtain ⟨n, h1, h2, -⟩ := path_ex hc
    exact ⟨n, h1, h2⟩
theorem W_small {l : List TFile} (hv : VL l) (h40 : l.length ≤ 40) {cwd : List UInt8} (hc : pathS cwd = true) (r : List TRun) (hb : (decide (((pcL r).filter wildT).length ≤ 2) || ((pcL r).filter upT).length == 0) = true) (f : List UInt8) :
    (W l mtF (partsOf patF litF r) (startP cwd f)).length ≤ 1600 := by
  rw [Bool.or_eq_true, decide_eq_true_eq, beq_iff_eq] at hb
  rcases hb with hb | hb
  · have hf : ((partsOf patF litF r).filter fun c => !c.fliteral).length = ((pcL r).filter wildT).length := by
      unfold partsOf
      rw [List.filter_map, List.length_map]
      rfl
    rcases W_count (l := l) (mt := mtF) (partsOf patF litF r) (startP cwd f) with h | h
    · rw [hf] at h
      have hp := hv.pos
      have h2 : l.length ^ ((pcL r).filter wildT).length ≤ l.length ^ 2 := Nat.pow_le_pow_right hp hb
      have h3 : l.length ^ 2 ≤ 40 ^ 2 := Nat.pow_le_pow_left h40 2
      omega
    · have := hv.pos
      omega
  · obtain ⟨ns, hn, e⟩ := start_path hc f
    rw [e]
    cases hd : dirD l (pathOf ns) with
    | true =>
      refine Nat.le_trans (W_files hv hn (fun c hcm => ?_) (fun c hcm hl => ?_) (dirD_some hd)) (by omega)
      · obtain ⟨t, ht, rfl⟩ := List.mem_map.1 hcm
        exact pc_noSl r t ht
      · obtain ⟨t, ht, rfl⟩ := List.mem_map.1 hcm
        intro e2
        have hm : t ∈ (pcL r).filter upT := List.mem_filter.2 ⟨ht, by
          unfold upT
          rw [show litF t = true from hl, show txt t = [46, 46] from e2]
          rfl⟩
        rw [List.length_eq_zero_iff.1 hb] at hm
        cases hm
    | false =>
      have hne : partsOf patF litF r ≠ [] := by unfold partsOf pcL; simp
      cases hp : partsOf patF litF r with
      | nil => exact absurd hp hne
      | cons c cs => rw [W_cons, hd]; exact Nat.zero_le _
end Go.Proofs.YtmklhkmeampamaaGreatDoor
namespace Go.Proofs.YtmklhkmeampamaaGreatDoor
open Go.RT
set_option linter.all false
set_option maxRecDepth 100000
theorem beg_cons (x : List UInt8) (hx : noSl x) (w : List (List UInt8)) : ((joinR (x :: w)).getD 0 0 == 47) = (x == [] && !(w == [])) := by
  cases x with
  | nil =>
    cases w with
    | nil => rfl
    | cons y w => rfl
  | cons b x =>
    have hb : (b == 47) = false := by simpa using hx b (by simp)
    cases w with
    | nil => show (b == 47) = _; rw [hb]; rfl
    | cons y w => show (b == 47) = _; rw [hb]; rfl
theorem take_beg (s : List UInt8) : (s.take 1 == [47]) = (s.getD 0 0 == 47) := by
  cases s with
  | nil => rfl
  | cons b s => simp
theorem litF_empty (t : List TRun) (h1 : t.length ≤ 1000) (h2 : szL t ≤ 1000) (he : txt t = []) : litF t = true := by
  have h3 : szL t = 0 := by rw [← txt_len, he]; rfl
  have h4 : (t.flatMap chR) = [] := by
    have := fl_len chR chR_len t
    exact List.length_eq_zero_iff.1 (by omega)
  have hq : ∀ e ∈ t.flatMap chR, e.factive = false := by rw [h4]; intro e h; cases h
  have hc := pcompileQ 100000 t (by omega) (by omega) (by omega) (by omega) hq
  unfold litF patF
  rw [hc, h4]
  rfl
end Go.Proofs.YtmklhkmeampamaaGreatDoor
namespace Go.Proofs.YtmklhkmeampamaaGreatDoor
open Go.RT
set_option linter.all false
set_option maxRecDepth 100000
theorem found_ok {l : List TFile} (hv : VL l) {cwd : List UInt8} (hc : pathS cwd = true) {r : List TRun} (h1 : r.length ≤ 100) (h2 : szL r ≤ 300) (hall : (pcL r).all litF = false) {w : List (List UInt8)} (hw : w ∈ W l mtF (partsOf patF litF r) (startP cwd (fieldOf r))) :
    ∃ p, cleanS cwd (joinR w) = (p, 0) ∧ (findS l p).isSome = true ∧ ((joinR w).getLast? = some 47 → dirD l p = true) := by
  have hns : ∀ c ∈ partsOf patF litF r, noSl c.ftext := by
    intro c hcm
    obtain ⟨t, ht, rfl⟩ := List.mem_map.1 hcm
    exact pc_noSl r t ht
  have hwl := W_len _ _ w hw
  have hwn := W_noSl hv _ _ hns w hw
  have hszt : ∀ t ∈ pcL r, t.length ≤ 1000 ∧ szL t ≤ 1000 := fun t ht => ⟨by have := pc_len t ht; omega, by have := (pc_sz (l := r)).2 t ht; omega⟩
  cases hp : pcL r with
  | nil => have : pcL r ≠ [] := by unfold pcL; simp
           exact absurd hp this
  | cons t ts =>
    have hP : partsOf patF litF r = cmpP patF litF t :: ts.map (cmpP patF litF) := by unfold partsOf; rw [hp]; rfl
    have ht := hszt t (by rw [hp]; simp)
    cases w with
    | nil => rw [hP] at hwl; simp at hwl
    | cons x w =>
      have hlen : w.length = ts.length := by rw [hP] at hwl; simpa using hwl
      obtain ⟨hd, hxx⟩ : dirD l (startP cwd (fieldOf r)) = true ∧ ((litF t = true ∧ x = txt t) ∨ (litF t = false ∧ nameS x = true)) := by
        rw [hP, W_cons] at hw
        cases hdd : dirD l (startP cwd (fieldOf r)) with
        | false => rw [hdd] at hw; cases hw
        | true =>
          refine ⟨rfl, ?_⟩
          rw [hdd, Bool.not_true, cond_false] at hw
          have hone : ∀ q, (x :: w) ∈ (W l mtF (ts.map (cmpP patF litF)) q).map ((cmpP patF litF t).ftext :: ·) → x = txt t := by
            intro q hq
            obtain ⟨w', -, e⟩ := List.mem_map.1 hq
            exact ((List.cons.inj e).1).symm
          cases hl : litF t with
          | true =>
            left
            refine ⟨rfl, ?_⟩
            rw [show (cmpP patF litF t).fliteral = true from hl, Bool.not_true, cond_false] at hw
            cases g1 : ((cmpP patF litF t).ftext == [] || (cmpP patF litF t).ftext == [46]) <;> rw [g1] at hw
            · cases g2 : ((cmpP patF litF t).ftext == [46, 46]) <;> rw [g2] at hw
              · cases g3 : (findS l (joinP (startP cwd (fieldOf r)) (cmpP patF litF t).ftext)).isNone <;> rw [g3] at hw
                · exact hone _ hw
                · cases hw
              · exact hone _ hw
            · exact hone _ hw
          | false =>
            right
            refine ⟨rfl, ?_⟩
            rw [show (cmpP patF litF t).fliteral = false from hl, Bool.not_false, cond_true] at hw
            obtain ⟨k, hk, hw⟩ := List.mem_flatMap.1 hw
            obtain ⟨w', -, e⟩ := List.mem_map.1 hw
            rw [← (List.cons.inj e).1]
            exact (kid_len hv (List.mem_filter.1 hk).1).1
      have hbeg : ((joinR (x :: w)).getD 0 0 == 47) = ((fieldOf r).take 1 == [47]) := by
        rw [take_beg]
        unfold fieldOf
        rw [hp, List.map_cons, beg_cons x (hwn x (by simp)), beg_cons (txt t) (pc_noSl r t (by rw [hp]; simp))]
        have e1 : (w == []) = (ts.map txt == []) := by
          rw [Bool.eq_iff_iff, beq_iff_eq, beq_iff_eq, List.map_eq_nil_iff, ← List.length_eq_zero_iff, ← List.length_eq_zero_iff, hlen]
        rw [e1]
        rcases hxx with ⟨-, rfl⟩ | ⟨hl, hx⟩
        · rfl
        · have e2 : (x == []) = false := (name_dots hx).1
          have e3 : (txt t == []) = false := by
            cases hb : (txt t == []) with
            | false => rfl
            | true =>
              have := litF_empty t ht.1 ht.2 (eq_of_beq hb)
              rw [hl] at this; cases this
          rw [e2, e3]
      have hst : pathOf (startS cwd (joinR (x :: w))) = startP cwd (fieldOf r) := by
        rw [start_eq hc, hbeg]
        rfl
      have hn0 := (start_names (path := joinR (x :: w)) hc).1
      have hPl := W_place (mt := mtF) hv (partsOf patF litF r) (startS cwd (joinR (x :: w))) hn0 hns (by rw [hst]; exact dirD_some hd) (x :: w) (by rw [hst]; exact hw)
      have hj : joinR (x :: w) ≠ [] := by
        cases w with
        | cons y w => rw [joinR]; simp
        | nil =>
          have hts : ts = [] := List.length_eq_zero_iff.1 hlen.symm
          rw [hp, hts] at hall
          rcases hxx with ⟨hl, -⟩ | ⟨-, hx⟩
          · simp [hl] at hall
          · have := (name_len hx).1
            intro e
            have e : x = [] := e
            rw [e] at this; simp at this
      obtain ⟨ns', c1, c2, c3⟩ := clean_place hv hc (by simp) hwn hj rfl hPl
      exact ⟨pathOf ns', c1, c2, fun hlast => c3 (joinR_last _ hwn hlast)⟩
end Go.Proofs.YtmklhkmeampamaaGreatDoor
namespace Go.Proofs.YtmklhkmeampamaaGreatDoor
open Go.RT
set_option linter.all false
set_option maxRecDepth 100000
def JO (o : List (List TRun) × List TRun) : List UInt8 := joinR ((o.1 ++ [o.2]).map txt)
theorem joinR_ext : ∀ (L : List (List UInt8)) (a b : List UInt8), joinR (L ++ [a ++ b]) = joinR (L ++ [a]) ++ b
  | [], a, b => rfl
  | x :: L, a, b => by
    rw [List.cons_append, List.cons_append, joinR_cons x (by simp), joinR_cons x (by simp), joinR_ext L a b]
    simp
theorem JO_Q (c : Int) (o : List (List TRun) × List TRun) (q : List UInt8) : JO (pcQ c o q) = JO o ++ 47 :: q := by
  unfold JO pcQ
  rw [List.map_append, List.map_cons, List.map_nil, txt_one, joinR_snoc _ _ (by simp)]
theorem JO_Qs (c : Int) : ∀ (ps : List (List UInt8)) (o : List (List TRun) × List TRun) (p : List UInt8) (A : List UInt8), JO o = A ++ p → JO (ps.foldl (pcQ c) o) = A ++ joinR (p :: ps)
  | [], o, p, A, h => h
  | q :: ps, o, p, A, h => by
    rw [List.foldl_cons, JO_Qs c ps (pcQ c o q) q (A ++ p ++ [47]) (by rw [JO_Q, h]; simp), joinR_cons p (by simp)]
    simp
def txR (r : TRun) : List UInt8 := cond (clsB r.fClass) [] r.fText
theorem JO_R (o : List (List TRun) × List TRun) (r : TRun) : JO (pcR o r) = JO o ++ txR r := by
  unfold pcR txR
  cases clsB r.fClass
  · rw [cond_false, cond_false]
    have hj := join_parts r.fText
    cases hp : partsS r.fText with
    | nil => exact absurd hp (parts_ne _)
    | cons p ps =>
      rw [hp] at hj
      show JO (ps.foldl (pcQ r.fClass) (o.1, o.2 ++ [TRun.mk p r.fClass])) = _
      rw [JO_Qs r.fClass ps _ p (JO o) (by
        unfold JO
        rw [List.map_append, List.map_append, List.map_cons, List.map_nil, txt_app, txt_one, joinR_ext]
        rfl), hj]
  · rw [cond_true, cond_true, List.append_nil]
theorem JO_F : ∀ (l : List TRun) (o : List (List TRun) × List TRun), JO (l.foldl pcR o) = JO o ++ l.flatMap txR
  | [], o => by simp
  | r :: l, o => by rw [List.foldl_cons, JO_F l, JO_R, List.flatMap_cons, List.append_assoc]
theorem field_eq (r : List TRun) : fieldOf r = r.flatMap txR := by
  have := JO_F r ([], [])
  rw [show JO ([], []) = [] from rfl, List.nil_append] at this
  exact this
theorem refText_eq (F : Nat) (r : List TRun) (hF : r.length < F) (h1 : r.length < 1000000) (h2 : szL r ≤ 1000000) : ref20_Text F r = some (fieldOf r) := by
  rw [field_eq]
  unfold ref20_Text
  have hle : ∀ k : Nat, ((r.take k).flatMap txR).length ≤ szL (r.take k) := fun k => fl_len txR (fun x => by unfold txR; cases clsB x.fClass <;> simp) _
  refine loopF_hoare (fun x => ∃ k : Nat, x = ((r.take k).flatMap txR, (k : Int)) ∧ k ≤ r.length) (fun x => r.length - x.2.toNat) ?_ F _ ⟨0, rfl, by omega⟩ (by simp; omega)
  rintro x ⟨k, rfl, hk⟩
  dsimp only
  by_cases hk : k < r.length
  · left
    refine ⟨_, ⟨k + 1, rfl, by omega⟩, by simp; omega, fun rc => ?_⟩
    have hs := szL_take_succ r k hk
    have hl2 := szL_take_le r (k + 1)
    have hh := hle k
    rw [ct (by omega), rq_ix hk, rq_ix hk, Int.toNat_natCast, gd hk, cond_som, Option.bind_some, rq_ix hk, cond_som, Option.bind_some, rq_ix hk, rq_str (by omega), w64s (by omega), flat_take txR r k hk]
    unfold txR clsB
    simp only [bne]
    cases (r[k].fClass == 0) <;> cases (r[k].fClass == 1) <;> cases (r[k].fClass == 2) <;> simp
  · right
    obtain rfl : k = r.length := by omega
    intro rc
    rw [cf (by omega), List.take_length]
end Go.Proofs.YtmklhkmeampamaaGreatDoor
namespace Go.Proofs.YtmklhkmeampamaaGreatDoor
open Go.RT
set_option linter.all false
set_option maxRecDepth 100000
theorem smallN (F : Nat) (r : List TRun) (hF : 30 ≤ F) (h : ∀ x ∈ r, x.fText.length ≤ 140737488351232) : ∃ b, (b = true → r.length ≤ 10 ∧ szL r ≤ 80) ∧ ref04_Small F r 10 80 = some b := by
  unfold ref04_Small
  refine loopF_post (fun b : Bool => b = true → r.length ≤ 10 ∧ szL r ≤ 80) (fun x : Int × Int => ∃ k : Nat, x = ((szL (r.take k) : Int), (k : Int)) ∧ k ≤ r.length ∧ k ≤ 11 ∧ szL (r.take k) ≤ 140737488351232 + 80) (fun x => 12 - x.2.toNat) ?_ F _ ⟨0, rfl, by omega, by omega, by simp [szL]⟩ (by simp; omega)
  rintro x ⟨k, rfl, hk, hk11, hs⟩
  dsimp only
  by_cases hgo : k < r.length ∧ k ≤ 10 ∧ szL (r.take k) ≤ 80
  · left
    obtain ⟨h1, h2, h3⟩ := hgo
    have hsz := szL_take_succ r k h1
    have hx := h _ (List.getElem_mem h1)
    refine ⟨_, ⟨k + 1, rfl, by omega, by omega, by omega⟩, by simp; omega, fun rc => ?_⟩
    rw [ct (show ((k : Int)) < (r.length : Int) by omega), Option.bind_some, ct (show ((k : Int)) ≤ 10 by omega), Option.bind_some, ct (show ((szL (r.take k) : Nat) : Int) ≤ 80 by omega), rq_ix h1, Int.toNat_natCast, gd h1, w64s (by omega)]
    rw [show w64 (((szL (r.take k) : Nat) : Int) + (r[k].fText.length : Int)) = ((szL (r.take (k + 1)) : Nat) : Int) by rw [w64_in (by omega)]; omega]
  · right
    refine ⟨decide (r.length ≤ 10) && decide (szL (r.take k) ≤ 80), fun hb => ?_, fun rc => ?_⟩
    · simp only [Bool.and_eq_true, decide_eq_true_eq] at hb
      have hkl : ¬ k < r.length := fun h1 => hgo ⟨h1, by omega, hb.2⟩
      obtain rfl : k = r.length := by omega
      rw [List.take_length] at hb
      exact hb
    · have e : ((cond (decide ((k : Int) < (r.length : Int))) (some (decide ((k : Int) ≤ 10))) (some false) : Option Bool).bind fun x3 => (cond x3 (some (decide (((szL (r.take k) : Nat) : Int) ≤ 80))) (some false) : Option Bool)) = some false := by
        by_cases h1 : k < r.length
        · rw [dT (show ((k : Int)) < (r.length : Int) by omega), cond_true, Option.bind_some]
          by_cases h2 : k ≤ 10
          · rw [dT (show ((k : Int)) ≤ 10 by omega), cond_true, dF (show ¬ ((szL (r.take k) : Nat) : Int) ≤ 80 from fun h3 => hgo ⟨h1, h2, by omega⟩)]
          · rw [dF (show ¬ ((k : Int)) ≤ 10 by omega)]; rfl
        · rw [dF (show ¬ ((k : Int)) < (r.length : Int) by omega)]; rfl
      have e2 : ∀ {β : Type} (A : Option Bool) (B : Bool → Option Bool) (k : Bool → Option β), (A.bind fun x6 => (B x6).bind k) = (A.bind B).bind k := by
        intro β A B k
        cases A <;> rfl
      rw [e2, e, Option.bind_some, cond_false, cond_som, Option.bind_some]
      congr 1
      have a1 : decide ((r.length : Int) ≤ 10) = decide (r.length ≤ 10) := decide_eq_decide.2 (by omega)
      have a2 : decide (((szL (r.take k) : Nat) : Int) ≤ 80) = decide (szL (r.take k) ≤ 80) := decide_eq_decide.2 (by omega)
      rw [a1, a2]
      cases decide (r.length ≤ 10) <;> rfl
def costL (w : List (List UInt8)) : Nat := (w.map fun n => n.length + 1).sum
def costT (cs : List Tcomponent) : Nat := (cs.map fun c => c.ftext.length + 1).sum
theorem joinR_cost : ∀ w : List (List UInt8), (joinR w).length ≤ costL w
  | [] => by simp [joinR, costL]
  | [a] => by simp [joinR, costL]
  | a :: b :: w => by
    have ih := joinR_cost (b :: w)
    rw [joinR_cons a (by simp)]
    unfold costL at *
    simp only [List.map_cons, List.sum_cons, List.length_append, List.length_cons] at *
    omega
theorem costL_cons (x : List UInt8) (w : List (List UInt8)) : costL (x :: w) = x.length + 1 + costL w := by unfold costL; simp
theorem costT_cons (c : Tcomponent) (cs : List Tcomponent) : costT (c :: cs) = c.ftext.length + 1 + costT cs := by unfold costT; simp
theorem pathOf_cost {ns : List (List UInt8)} (h : (pathOf ns).length ≤ 128) : costL ns ≤ 128 := by
  cases ns with
  | nil => simp [costL]
  | cons a w =>
    have : ∀ (a : List UInt8) (w : List (List UInt8)), (pathOf (a :: w)).length = costL (a :: w) := by
      intro a w
      have hj : ∀ (w : List (List UInt8)) (a : List UInt8), (joinR (a :: w)).length + 1 = costL (a :: w) := by
        intro w
        induction w with
        | nil => intro a; simp [joinR, costL]
        | cons b w ih =>
          intro a
          rw [joinR_cons a (by simp), costL_cons]
          have := ih b
          simp only [List.length_append, List.length_cons]
          omega
      show (47 :: joinR (a :: w)).length = _
      rw [List.length_cons]
      exact hj w a
    rw [← this]; exact h
section
variable {l : List TFile} {mt : List TPatItem → List UInt8 → Bool}
theorem find_len (hv : VL l) {q : List UInt8} (h : (findS l q).isSome = true) : q.length ≤ 128 := by
  cases hf : findS l q with
  | none => rw [hf] at h; cases h
  | some f =>
    exact (find_dir hv hf).1
theorem W_cost1 (hv : VL l) : ∀ (cs : List Tcomponent) (p : List UInt8), ∀ w ∈ W l mt cs p, costL w ≤ costT cs + 40 * (cs.filter fun c => !c.fliteral).length
  | [], p, w, hw => by
    obtain rfl := List.mem_singleton.1 (show w ∈ [([] : List (List UInt8))] from hw)
    simp [costL]
  | c :: cs, p, w, hw => by
    have ih := W_cost1 hv cs
    rw [costT_cons, List.filter_cons]
    rw [W_cons] at hw
    cases h1 : (!dirD l p) <;> rw [h1] at hw
    · have hone : ∀ q, w ∈ (W l mt cs q).map (c.ftext :: ·) → costL w ≤ c.ftext.length + 1 + costT cs + 40 * (cs.filter fun c => !c.fliteral).length := by
        intro q hq
        obtain ⟨w', hw', rfl⟩ := List.mem_map.1 hq
        have := ih q w' hw'
        rw [costL_cons]
        omega
      cases h2 : (!c.fliteral) <;> rw [h2] at hw
      · simp only [Bool.false_eq_true, if_false]
        cases h3 : (c.ftext == [] || c.ftext == [46]) <;> rw [h3] at hw
        · cases h4 : (c.ftext == [46, 46]) <;> rw [h4] at hw
          · cases h5 : (findS l (joinP p c.ftext)).isNone <;> rw [h5] at hw
            · exact hone _ hw
            · cases hw
          · exact hone _ hw
        · exact hone _ hw
      · simp only [if_true, List.length_cons]
        obtain ⟨k, hk, hw⟩ := List.mem_flatMap.1 (show w ∈ ((kidsL l p).filter (keepN mt c)).flatMap _ from hw)
        obtain ⟨w', hw', rfl⟩ := List.mem_map.1 hw
        have := ih _ w' hw'
        have := (kid_len hv (List.mem_filter.1 hk).1).2
        rw [costL_cons]
        omega
    · cases hw
theorem W_cost2 (hv : VL l) : ∀ (cs : List Tcomponent) (ns : List (List UInt8)), Names ns → costL ns ≤ 128 → (∀ c ∈ cs, noSl c.ftext) → (∀ c ∈ cs, c.fliteral = true → c.ftext ≠ [46, 46]) → ∀ w ∈ W l mt cs (pathOf ns), costL w + costL ns ≤ costT cs + 128
  | [], ns, hn, hs, _, _, w, hw => by
    obtain rfl := List.mem_singleton.1 (show w ∈ [([] : List (List UInt8))] from hw)
    simp [costL, costT] at *
    omega
  | c :: cs, ns, hn, hs, hns, hup, w, hw => by
    have ih := W_cost2 hv cs
    have hns' : ∀ c ∈ cs, noSl c.ftext := fun x hx => hns x (by simp [hx])
    have hup' : ∀ c ∈ cs, c.fliteral = true → c.ftext ≠ [46, 46] := fun x hx => hup x (by simp [hx])
    have hsn : ∀ k : List UInt8, costL (ns ++ [k]) = costL ns + k.length + 1 := by intro k; unfold costL; simp; omega
    rw [costT_cons]
    rw [W_cons] at hw
    cases h1 : (!dirD l (pathOf ns)) <;> rw [h1] at hw
    · cases h2 : (!c.fliteral) <;> rw [h2] at hw
      · cases h3 : (c.ftext == [] || c.ftext == [46]) <;> rw [h3] at hw
        · cases h4 : (c.ftext == [46, 46]) <;> rw [h4] at hw
          · cases h5 : (findS l (joinP (pathOf ns) c.ftext)).isNone <;> rw [h5] at hw
            · have hsome : (findS l (joinP (pathOf ns) c.ftext)).isSome = true := by
                cases hf : findS l (joinP (pathOf ns) c.ftext) with
                | none => rw [hf] at h5; cases h5
                | some f => rfl
              obtain ⟨w', hw', rfl⟩ := List.mem_map.1 (show w ∈ (W l mt cs (joinP (pathOf ns) c.ftext)).map (c.ftext :: ·) from hw)
              have hlen := find_len hv hsome
              rw [joinP_path hn] at hw' hlen
              have hc := pathOf_cost hlen
              rw [hsn] at hc
              have hne : c.ftext ≠ [] := by
                intro e; rw [e] at h3; cases h3
              have hnm := lit_name hv hn (hns c (by simp)) hne (by rw [joinP_path hn]; rw [joinP_path hn] at hsome; exact hsome)
              have hg : costL w' + costL (ns ++ [c.ftext]) ≤ costT cs + 128 := ih _ (hn.snoc hnm) (by rw [hsn]; exact hc) hns' hup' w' hw'
              rw [hsn] at hg
              rw [costL_cons]
              omega
            · cases hw
          · exact absurd (eq_of_beq h4) (hup c (by simp) (by simpa using h2))
        · obtain ⟨w', hw', rfl⟩ := List.mem_map.1 (show w ∈ (W l mt cs (pathOf ns)).map (c.ftext :: ·) from hw)
          have := ih ns hn hs hns' hup' w' hw'
          rw [costL_cons]
          omega
      · obtain ⟨k, hk, hw⟩ := List.mem_flatMap.1 (show w ∈ ((kidsL l (pathOf ns)).filter (keepN mt c)).flatMap _ from hw)
        obtain ⟨w', hw', rfl⟩ := List.mem_map.1 hw
        have hkm := (List.mem_filter.1 hk).1
        have hnm := (kid_len hv hkm).1
        have hlen := find_len hv (kid_there hv hkm)
        rw [joinP_path hn] at hw' hlen
        have hc := pathOf_cost hlen
        rw [hsn] at hc
        have := ih _ (hn.snoc hnm) (by rw [hsn]; exact hc) hns' hup' w' hw'
        rw [hsn] at this
        rw [costL_cons]
        omega
    · cases hw
end
end Go.Proofs.YtmklhkmeampamaaGreatDoor
namespace Go.Proofs.YtmklhkmeampamaaGreatDoor
open Go.RT
set_option linter.all false
set_option maxRecDepth 100000
theorem costT_parts (r : List TRun) : costT (partsOf patF litF r) ≤ szL r + (pcL r).length * 1 + szL r + 1 := by
  have h1 := muP_F r ([], [])
  have e : costT (partsOf patF litF r) = ((pcL r).map fun t => szL t + 1).sum := by
    unfold costT partsOf
    rw [List.map_map]
    congr 1
    refine List.map_congr_left fun t ht => ?_
    show (txt t).length + 1 = _
    rw [txt_len]
  rw [e]
  unfold pcL
  rw [List.map_append, List.sum_append]
  have : muP (pcO r) ≤ szL r := by
    have := h1
    simp only [muP, List.map_nil, List.sum_nil, szL] at this
    unfold pcO muP szL
    omega
  unfold muP at this
  simp only [List.map_cons, List.map_nil, List.sum_cons, List.sum_nil]
  omega
theorem found_len {l : List TFile} (hv : VL l) {cwd : List UInt8} (hc : pathS cwd = true) {r : List TRun} (h2 : szL r ≤ 80) (hb : (decide (((pcL r).filter wildT).length ≤ 2) || ((pcL r).filter upT).length == 0) = true) (f : List UInt8) :
    ∀ w ∈ W l mtF (partsOf patF litF r) (startP cwd f), (joinR w).length ≤ 600 := by
  intro w hw
  have hj := joinR_cost w
  have hT := costT_parts r
  have hp := (pc_sz (l := r)).1
  rw [Bool.or_eq_true, decide_eq_true_eq, beq_iff_eq] at hb
  rcases hb with hb | hb
  · have hf : ((partsOf patF litF r).filter fun c => !c.fliteral).length = ((pcL r).filter wildT).length := by
      unfold partsOf
      rw [List.filter_map, List.length_map]
      rfl
    have := W_cost1 hv _ _ w hw
    rw [hf] at this
    omega
  · obtain ⟨ns, hn, e⟩ := start_path hc f
    rw [e] at hw
    have hd : dirD l (pathOf ns) = true := by
      cases hp : partsOf patF litF r with
      | nil => have : partsOf patF litF r ≠ [] := by unfold partsOf pcL; simp
               exact absurd hp this
      | cons c cs =>
        rw [hp, W_cons] at hw
        cases hdd : dirD l (pathOf ns) with
        | true => rfl
        | false => rw [hdd] at hw; cases hw
    have hlen := find_len hv (dirD_some hd)
    have := W_cost2 hv (partsOf patF litF r) ns hn (pathOf_cost hlen) (fun c hcm => by
      obtain ⟨t, ht, rfl⟩ := List.mem_map.1 hcm
      exact pc_noSl r t ht) (fun c hcm hl => by
      obtain ⟨t, ht, rfl⟩ := List.mem_map.1 hcm
      intro e2
      have hm : t ∈ (pcL r).filter upT := List.mem_filter.2 ⟨ht, by
        unfold upT
        rw [show litF t = true from hl, show txt t = [46, 46] from e2]
        rfl⟩
      rw [List.length_eq_zero_iff.1 hb] at hm
      cases hm) w hw
    omega
theorem field_len (r : List TRun) : (fieldOf r).length ≤ szL r := by
  rw [field_eq]
  exact fl_len txR (fun x => by unfold txR; cases clsB x.fClass <;> simp) r
structure FindsOk (l : List TFile) (cwd f : List UInt8) (A : List (List UInt8)) : Prop where
  ne : 0 < A.length
  few : A.length ≤ 1600
  asc : A.Pairwise (· < ·)
  short : ∀ x ∈ A, x.length ≤ 600
  there : ∀ x ∈ A, (1 < A.length ∨ x ≠ f) → ∃ p, cleanS cwd x = (p, 0) ∧ (findS l p).isSome = true ∧ (x.getLast? = some 47 → dirD l p = true)
theorem finds_ok {l : List TFile} (hv : VL l) (h40 : l.length ≤ 40) {cwd : List UInt8} (hc : pathS cwd = true) {r : List TRun} (h1 : r.length ≤ 10) (h2 : szL r ≤ 80) (hb : (decide (((pcL r).filter wildT).length ≤ 2) || ((pcL r).filter upT).length == 0) = true) :
    FindsOk l cwd (fieldOf r) (expS l mtF patF litF cwd r) := by
  have hsm := W_small hv h40 hc r hb (fieldOf r)
  have hln := found_len hv hc h2 hb (fieldOf r)
  have hfl := field_len r
  have hasc := expS_asc (mt := mtF) hv patF litF cwd r
  unfold expS at hasc ⊢
  cases hC : ((pcL r).all litF || (W l mtF (partsOf patF litF r) (startP cwd (fieldOf r))).isEmpty) with
  | true =>
    rw [hC] at hasc
    exact ⟨by simp, by simp, hasc, fun x hx => by
      obtain rfl := List.mem_singleton.1 hx
      omega, fun x hx h => by
      obtain rfl := List.mem_singleton.1 hx
      simp at h⟩
  | false =>
    rw [hC, cond_false] at hasc
    rw [cond_false]
    rw [Bool.or_eq_false_iff] at hC
    have hp := sortK_perm ((W l mtF (partsOf patF litF r) (startP cwd (fieldOf r))).map joinR)
    refine ⟨?_, ?_, hasc, fun x hx => ?_, fun x hx _ => ?_⟩
    · rw [hp.length_eq, List.length_map]
      cases hW : W l mtF (partsOf patF litF r) (startP cwd (fieldOf r)) with
      | nil => rw [hW] at hC; cases hC.2
      | cons a b => simp
    · rw [hp.length_eq, List.length_map]; exact hsm
    · rw [hp.mem_iff] at hx
      obtain ⟨w, hw, rfl⟩ := List.mem_map.1 hx
      exact hln w hw
    · rw [hp.mem_iff] at hx
      obtain ⟨w, hw, rfl⟩ := List.mem_map.1 hx
      exact found_ok hv hc (by omega) (by omega) hC.1 hw
theorem pathnameFinds (a0 : List TFile) (a1 : List UInt8) (a2 : List TRun) (q2 : ∀ x ∈ a2, x.fText.length ≤ 140737488351232) : ∃ F, law20_PathnameFinds F a0 a1 a2 = some true := by
  refine ⟨100000, ?_⟩
  unfold law20_PathnameFinds
  obtain ⟨b, hb, e⟩ := lsmall (F := 100000) (l := a0) (cwd := a1) (r := a2) (P := a2.length ≤ 10 ∧ szL a2 ≤ 80) (P2 := (decide (((pcL a2).filter wildT).length ≤ 2) || ((pcL a2).filter upT).length == 0) = true) (by omega) (smallN _ _ (by omega) q2) (fun h => ⟨_, fun h => h, bounded_sem a2 (by omega) (by omega)⟩)
  rw [e, awake_ok]
  simp only [Option.bind_some]
  cases b with
  | false => rfl
  | true =>
    obtain ⟨h1, h2, ⟨h3, h4⟩, hv, hB⟩ := hb rfl
    rw [Bool.not_true, cond_false, ref_path _ a1 (by omega), Option.bind_some]
    cases hp : pathS a1 with
    | false => rfl
    | true =>
      rw [Bool.not_true, Option.bind_some, cond_false]
      have hWs := W_small hv h1 hp a2 hB (fieldOf a2)
      have hOk := finds_ok hv h1 hp h3 h4 hB
      rw [expand_all hv hp (by omega) (by omega) (by omega), Option.bind_some]
      generalize expS a0 mtF patF litF a1 a2 = A at hOk
      obtain ⟨g1, g2, g3, g4, g5⟩ := hOk
      dsimp only
      rw [show ((0 : Int) != 0) = false from rfl, cond_false, Option.bind_some, show (((A.length : Int)) == 0) = false from beq_eq_false_iff_ne.2 (by omega), cond_false, Option.bind_some, cf (show ¬ (1600 : Int) < (A.length : Int) by omega)]
      refine loopF_hoare (fun x : Int => ∃ k : Nat, x = (k : Int) ∧ k ≤ A.length) (fun x => A.length - x.toNat) ?_ 100000 _ ⟨0, rfl, by omega⟩ (by simp; omega)
      rintro ii ⟨k, rfl, hk⟩
      by_cases hk : k < A.length
      · left
        refine ⟨((k + 1 : Nat) : Int), ⟨k + 1, rfl, by omega⟩, by simp; omega, fun rc => ?_⟩
        have hm := List.getElem_mem hk
        have hl := g4 _ hm
        have e1 : (cond (decide (0 < (k : Int))) (rq ((decide (0 ≤ w64 ((k : Int) - 1))) && (decide (w64 ((k : Int) - 1) < (A.length : Int)))) (rq ((decide (0 ≤ (k : Int))) && (decide ((k : Int) < (A.length : Int)))) (some (!(Op.bytesLess (A.getD (Int.toNat (w64 ((k : Int) - 1))) []) (A.getD (Int.toNat (k : Int)) [])))))) (some false) : Option Bool) = some false := by
          by_cases h0 : 0 < k
          · rw [w64p (by omega) h0, ct (show (0 : Int) < (k : Int) by omega), rq2 (by omega) (by omega), rq_ix hk, Int.toNat_natCast, Int.toNat_natCast, gd hk, gd (show k - 1 < A.length by omega)]
            have hlt : A[k - 1]'(by omega) < A[k] := List.pairwise_iff_getElem.1 g3 (k - 1) k (by omega) hk (by omega)
            rw [(bl_lt _ _).2 hlt]
            rfl
          · rw [cf (show ¬ (0 : Int) < (k : Int) by omega)]
        rw [ct (by omega), e1, Option.bind_some, cond_false]
        simp only [rq_ix hk, Int.toNat_natCast, gd hk]
        rw [ref_clean _ a1 A[k] (by omega) hl, Option.bind_some, ref_Find _ a0 _ (by omega) (by omega), Option.bind_some]
        have e2 : (cond (!(A[k] == [])) (rq ((decide (0 ≤ w64 ((A[k].length : Int) - 1))) && (decide (w64 ((A[k].length : Int) - 1) < (A[k].length : Int)))) (some (((A[k].getD (Int.toNat (w64 ((A[k].length : Int) - 1))) 0).toNat : Int) == 47))) (some false) : Option Bool) = some (A[k].getLast? == some 47) := by
          cases hx : (A[k] == []) with
          | true => rw [eq_of_beq hx]; rfl
          | false =>
            have hlp : 0 < A[k].length := by
              cases hx2 : A[k] with
              | nil => rw [hx2] at hx; cases hx
              | cons a b => simp
            rw [Bool.not_false, cond_true, w64p (by omega) hlp, rq2 (by omega) (by omega), Int.toNat_natCast, gd (show A[k].length - 1 < A[k].length by omega), u8lit _ 47 (by omega), List.getLast?_eq_getElem?, List.getElem?_eq_getElem (show A[k].length - 1 < A[k].length by omega)]
            rfl
        rw [e2, Option.bind_some, refText_eq _ a2 (by omega) (by omega) (by omega), Option.bind_some, w64s (by omega)]
        by_cases hneed : 1 < A.length ∨ A[k] ≠ fieldOf a2
        · obtain ⟨p, c1, c2, c3⟩ := g5 _ hm hneed
          have hgo : (cond (((cleanS a1 A[k]).2 : Int) != 0) (some false) (cond (!((findS a0 (cleanS a1 A[k]).1).elim (TFile.mk [] false [], false) fun f => (f, true)).2) (some false) (cond (A[k].getLast? == some 47) (cond (!((findS a0 (cleanS a1 A[k]).1).elim (TFile.mk [] false [], false) fun f => (f, true)).1.fDir) (some false) (rc ((k + 1 : Nat) : Int))) (rc ((k + 1 : Nat) : Int)))) : Option Bool) = rc ((k + 1 : Nat) : Int) := by
            rw [c1]
            cases hf : findS a0 p with
            | none => rw [hf] at c2; cases c2
            | some f =>
              cases hs : (A[k].getLast? == some 47) with
              | false => rfl
              | true =>
                have := c3 (eq_of_beq hs)
                unfold dirD at this
                rw [hf] at this
                have h : f.fDir = true := this
                simp only [hf, Option.elim, h]
                rfl
          by_cases h1l : 1 < A.length
          · rw [ct (by omega)]; exact hgo
          · have hx : (A[k] == fieldOf a2) = false := by
              rcases hneed with h | h
              · exact absurd h h1l
              · simpa using h
            rw [cf (by omega), hx, Bool.not_false, cond_true]
            exact hgo
        · simp only [not_or, Decidable.not_not] at hneed
          rw [cf (by omega), hneed.2, beq_self_eq_true]
          rfl
      · right
        intro rc
        rw [cf (by omega)]
end Go.Proofs.YtmklhkmeampamaaGreatDoor
