import Derived.Test.YtmklhkmeampamaaGreatDoorPb
import Derived.Test.YtmklhkmeampamaaGreatDoorQb
namespace Go.Proofs.YtmklhkmeampamaaGreatDoor
open Go.RT
set_option linter.all false
set_option maxRecDepth 100000
theorem bracket_kind (F : Nat) (x : List Tchar) (i : Nat) (hF : x.length + 1000 < F) (hx : x.length < 100000) (hc : ChOk x) (hi : i < x.length) :
    ∃ r : TPatItem × Int × Bool, (r.2.2 = true → r.1.fKind = 4) ∧ pattern_bracket F x (i : Int) = some r := by
  unfold pattern_bracket
  have hw1 : w64 ((i : Int) + 1) = ((i + 1 : Nat) : Int) := w64s (by omega)
  rw [hw1, pis_eq, Option.bind_some, pis_eq, Option.bind_some, cond_som, Option.bind_some, w64s (by omega), cond_som, Option.bind_some]
  obtain ⟨s0, hs0, hs1, hs2⟩ : ∃ s0 : Nat, cond (cond (isC x (i + 1) 33) true (isC x (i + 1) 94)) (((i + 1 + 1 : Nat) : Int)) ((i + 1 : Nat) : Int) = (s0 : Int) ∧ i < s0 ∧ s0 ≤ i + 2 := by
    cases (cond (isC x (i + 1) 33) true (isC x (i + 1) 94))
    · exact ⟨i + 1, rfl, by omega, by omega⟩
    · exact ⟨i + 2, rfl, by omega, by omega⟩
  rw [hs0]
  refine loopF_tot _ (fun s : Int × Bool × List Bool => ∃ k : Nat, s.1 = (k : Int) ∧ i < k ∧ k ≤ x.length + 2 ∧ s.2.2.length = 256) (fun s => x.length + 2 - s.1.toNat) ?_ F _ ⟨s0, rfl, hs1, by omega, by simp⟩ (by simp; omega)
  rintro ⟨ii, fi, st⟩ ⟨k, h0, hk, hk2, hl⟩ rc hrc
  dsimp only at h0 hl ⊢
  subst h0
  by_cases hk3 : k < x.length
  · rw [ct (by omega), pis_eq, Option.bind_some, cond_som, Option.bind_some]
    have e2 : cond (isC x k 93) (!fi, st) (false, st) = ((isC x k 93 && !fi), st) := by cases isC x k 93 <;> rfl
    rw [e2]
    dsimp only
    cases (isC x k 93 && !fi) with
    | true =>
      obtain ⟨l, h1, h2⟩ := spans_tot F st (by omega) hl
      rw [cond_true, rq_true (by rw [hl]; rfl), h2, Option.bind_some]
      exact ⟨_, fun _ => rfl, rfl⟩
    | false =>
      obtain ⟨r, ⟨e, h1, h2, h3, h4⟩, h5⟩ := member_tot F x k st (by omega) (by omega) hc hk3 hl
      rw [cond_false, h5, Option.bind_some]
      exact hrc _ ⟨e, h1, by omega, by omega, h4⟩ (by dsimp only; rw [h1]; simp; omega)
  · rw [cf (by omega)]
    exact ⟨_, (fun h => by cases h), rfl⟩
theorem compile_bytes (F : Nat) (l : List TRun) (hF : l.length < F) (hF2 : szL l + 1000 < F) (h1 : l.length < 1000000000) (h2 : szL l ≤ 10000) : ∃ p : List TPatItem, (p.all byP = true → p = (l.flatMap chR).map fun e => pb e.fb) ∧ pattern_Compile F l = some p := by
  unfold pattern_Compile
  rw [chars_eq F l hF (by omega) h1 (by omega), Option.bind_some]
  have hx : (l.flatMap chR).length ≤ szL l := fl_len _ chR_len _
  have hc := chars_ok l
  generalize (l.flatMap chR) = x at hx hc
  refine loopF_tot _ (fun s : List TPatItem × Int => ∃ k : Nat, s.2 = (k : Int) ∧ k ≤ x.length ∧ s.1.length ≤ k ∧ (s.1.all byP = true → s.1 = (x.take k).map fun e => pb e.fb)) (fun s => x.length - s.2.toNat) ?_ F _ ⟨0, rfl, by omega, by simp, fun _ => by simp⟩ (by simp; omega)
  rintro ⟨acc, ii⟩ ⟨k, h0, hk, ha, hit⟩ rc hrc
  dsimp only at h0 ha hit ⊢
  subst h0
  have hadd : ∀ (it : TPatItem) (e : Nat), byP it = false → k < e → e ≤ x.length → ∃ p : List TPatItem, (p.all byP = true → p = x.map fun e => pb e.fb) ∧ rc (acc ++ [it], (e : Int)) = some p := by
    intro it e h3 h4 h5
    refine hrc _ ⟨e, rfl, h5, by simp; omega, fun hall => ?_⟩ (by simp; omega)
    dsimp only at hall
    rw [List.all_append, Bool.and_eq_true] at hall
    have := hall.2
    simp [h3] at this
  by_cases hk3 : k < x.length
  · rw [ct (by omega)]
    have hrest : ∃ p : List TPatItem, (p.all byP = true → p = x.map fun e => pb e.fb) ∧ ((pattern_is F x (k : Int) 42).bind fun x7 =>
        cond x7
        (rq ((decide (acc.length + ([(TPatItem.mk 3 [] false [])] : List TPatItem).length ≤ 9223372036854775807)) && (decide ((acc.length + ([(TPatItem.mk 3 [] false [])] : List TPatItem).length) * 56 ≤ 140737488355328))) (rc (acc ++ ([(TPatItem.mk 3 [] false [])] : List TPatItem), w64 ((k : Int) + 1))))
        ((pattern_is F x (k : Int) 63).bind fun x8 =>
        cond x8
        (rq ((decide (acc.length + ([(TPatItem.mk 2 [] false [])] : List TPatItem).length ≤ 9223372036854775807)) && (decide ((acc.length + ([(TPatItem.mk 2 [] false [])] : List TPatItem).length) * 56 ≤ 140737488355328))) (rc (acc ++ ([(TPatItem.mk 2 [] false [])] : List TPatItem), w64 ((k : Int) + 1))))
        (rq ((decide (0 ≤ (k : Int))) && (decide ((k : Int) < (x.length : Int)))) (rq ((decide (acc.length + ([(TPatItem.mk 1 (toBytes ([(x.getD (Int.toNat (k : Int)) dTchar).fb] : List Int)) false [])] : List TPatItem).length ≤ 9223372036854775807)) && (decide ((acc.length + ([(TPatItem.mk 1 (toBytes ([(x.getD (Int.toNat (k : Int)) dTchar).fb] : List Int)) false [])] : List TPatItem).length) * 56 ≤ 140737488355328))) (rc (acc ++ ([(TPatItem.mk 1 (toBytes ([(x.getD (Int.toNat (k : Int)) dTchar).fb] : List Int)) false [])] : List TPatItem), w64 ((k : Int) + 1))))))) = some p := by
      rw [pis_eq, Option.bind_some, pis_eq, Option.bind_some, rq_cap (by simp; omega) (by omega), rq_cap (by simp; omega) (by omega), rq_ix hk3, rq_cap (by simp; omega) (by omega), w64s (by omega), Int.toNat_natCast]
      cases isC x k 42 with
      | true => exact hadd _ _ rfl (by omega) (by omega)
      | false =>
        cases isC x k 63 with
        | true => exact hadd _ _ rfl (by omega) (by omega)
        | false =>
          refine hrc _ ⟨k + 1, rfl, by omega, by simp; omega, fun hall => ?_⟩ (by simp; omega)
          dsimp only at hall ⊢
          rw [List.all_append, Bool.and_eq_true] at hall
          rw [hit hall.1, List.take_succ_eq_append_getElem hk3, List.map_append, gd hk3]
          rfl
    rw [pis_eq, Option.bind_some]
    cases isC x k 91 with
    | false => exact hrest
    | true =>
      obtain ⟨r, h3, h4⟩ := bracket_tot F x k (by omega) (by omega) hc hk3
      obtain ⟨r', h3', h4'⟩ := bracket_kind F x k (by omega) (by omega) hc hk3
      have hrr : r' = r := Option.some.inj (h4'.symm.trans h4)
      subst hrr
      rw [cond_true, h4, Option.bind_some]
      cases h5 : r'.2.2 with
      | false => exact hrest
      | true =>
        obtain ⟨g1, e, g2, g3, g4⟩ := h3 h5
        rw [cond_true, rq_cap (by simp; omega) (by omega), g2]
        obtain ⟨p, hp, hq⟩ := hadd r'.1 e (by unfold byP; rw [h3' h5]; rfl) g3 g4
        rw [hq]
        exact ⟨p, hp, rfl⟩
  · obtain rfl : k = x.length := by omega
    rw [cf (by omega)]
    exact ⟨_, (fun h => by rw [hit h, List.take_length]), rfl⟩
end Go.Proofs.YtmklhkmeampamaaGreatDoor
namespace Go.Proofs.YtmklhkmeampamaaGreatDoor
open Go.RT
set_option linter.all false
set_option maxRecDepth 100000
def ClsO (o : List (List TRun) × List TRun) : Prop := (∀ c ∈ o.1, ∀ r ∈ c, clsB r.fClass = false) ∧ ∀ r ∈ o.2, clsB r.fClass = false
theorem ClsO_Q (c : Int) (hc : clsB c = false) : ∀ (ps : List (List UInt8)) (o : List (List TRun) × List TRun), ClsO o → ClsO (ps.foldl (pcQ c) o)
  | [], o, h => h
  | q :: ps, o, h => ClsO_Q c hc ps _ ⟨fun x hx => by
      rcases List.mem_append.1 hx with hx | hx
      · exact h.1 x hx
      · obtain rfl := List.mem_singleton.1 hx; exact h.2, fun r hr => by
      obtain rfl := List.mem_singleton.1 (show r ∈ [TRun.mk q c] from hr)
      exact hc⟩
theorem ClsO_F : ∀ (l : List TRun) (o : List (List TRun) × List TRun), ClsO o → ClsO (l.foldl pcR o)
  | [], o, h => h
  | r :: l, o, h => ClsO_F l _ (by
    unfold pcR
    cases hc : clsB r.fClass
    · rw [cond_false]
      cases hp : partsS r.fText with
      | nil => exact absurd hp (parts_ne _)
      | cons p ps =>
        refine ClsO_Q r.fClass hc ps (o.1, o.2 ++ [TRun.mk p r.fClass]) ⟨h.1, fun x hx => ?_⟩
        rcases List.mem_append.1 hx with hx | hx
        · exact h.2 x hx
        · obtain rfl := List.mem_singleton.1 hx; exact hc
    · exact h)
theorem pc_cls (l : List TRun) : ∀ t ∈ pcL l, ∀ r ∈ t, clsB r.fClass = false := by
  have h := ClsO_F l ([], []) ⟨fun c hc => (by cases hc), fun r hr => (by cases hr)⟩
  intro t ht
  rcases List.mem_append.1 ht with ht | ht
  · exact h.1 t ht
  · obtain rfl := List.mem_singleton.1 ht; exact h.2
theorem ch_txt : ∀ (t : List TRun), (∀ r ∈ t, clsB r.fClass = false) → txP ((t.flatMap chR).map fun e => pb e.fb) = txt t
  | [], _ => rfl
  | r :: t, h => by
    have ih := ch_txt t fun x hx => h x (by simp [hx])
    have hc := h r (by simp)
    rw [List.flatMap_cons, List.map_append]
    have e : txP ((chR r).map fun e => pb e.fb) = r.fText := by
      unfold chR
      rw [hc, cond_false, List.map_map]
      unfold txP
      rw [List.flatMap_map]
      conv => rhs; rw [← List.flatMap_singleton' r.fText]
      refine congrArg (fun f => List.flatMap f r.fText) (funext fun b => ?_)
      show toBytes [(b.toNat : Int)] = [b]
      simp [toBytes]
    have e2 : ∀ a b : List TPatItem, txP (a ++ b) = txP a ++ txP b := fun a b => by unfold txP; rw [List.flatMap_append]
    rw [e2, e, ih]
    unfold txt
    rw [List.flatMap_cons]
theorem lit_text (t : List TRun) (h1 : t.length ≤ 1000) (h2 : szL t ≤ 1000) (hcl : ∀ r ∈ t, clsB r.fClass = false) (h : litF t = true) : ref04_Literal 100000 (patF t) = some (txt t, true) := by
  obtain ⟨g1, g2, g3⟩ := patF_ok t h1 h2
  obtain ⟨b, hb⟩ := valid_tot 100000 (patF t) (by omega) (by omega) g2
  have hl := pliteral_eq 100000 (patF t) (by omega) (by omega) g2 hb
  obtain ⟨x, hx⟩ := litF_ok t h1 h2
  rw [h] at hx
  rw [← literal_eq2 100000 (patF t) (by omega) (by omega) g2, hx]
  rw [hl] at hx
  have he := Option.some.inj hx
  unfold litV at he
  cases ha : ((patF t).all byP && b) with
  | false =>
    rw [ha] at he
    have := congrArg (·.2) he
    cases this
  | true =>
    rw [ha] at he
    rw [Bool.and_eq_true] at ha
    obtain ⟨p, hp1, hp2⟩ := compile_bytes 100000 t (by omega) (by omega) (by omega) (by omega)
    have hpp : p = patF t := Option.some.inj (hp2.symm.trans g1)
    rw [hpp] at hp1
    have h3 : txP (patF t) = txt t := by rw [hp1 ha.1, ch_txt t hcl]
    have h4 : txP (patF t) = x := congrArg (·.1) he
    rw [← h4, h3]
def wildT (t : List TRun) : Bool := !litF t
def upT (t : List TRun) : Bool := litF t && txt t == [46, 46]
theorem bounded_sem (r : List TRun) (h1 : r.length ≤ 100) (h2 : szL r ≤ 300) : ref20_Bounded 100000 r = some (decide (((pcL r).filter wildT).length ≤ 2) || ((pcL r).filter upT).length == 0) := by
  have hmap := comp_pc r
  have hlen : (compL r).length = (pcL r).length := by have := congrArg List.length hmap; simpa using this
  have hcl := comp_len r
  have hdoc : ∀ k, ∀ hk : k < (pcL r).length, ∃ x, ref04_Compile 100000 ((compL r).getD k []) = some (patF (pcL r)[k]) ∧ ref04_Literal 100000 (patF (pcL r)[k]) = some (x, litF (pcL r)[k]) ∧ (litF (pcL r)[k] = true → x = txt (pcL r)[k]) := by
    intro k hk
    have hk' : k < (compL r).length := by omega
    have e : bits (compL r)[k] = bits (pcL r)[k] := by
      have := congrArg (fun L => L[k]?) hmap
      simp only [List.getElem?_map, List.getElem?_eq_getElem hk, List.getElem?_eq_getElem hk', Option.map_some] at this
      exact Option.some.inj this
    have c1 := comp_g r _ (List.getElem_mem hk')
    have t1 := pc_len (l := r) _ (List.getElem_mem hk)
    have t2 := (pc_sz (l := r)).2 _ (List.getElem_mem hk)
    obtain ⟨x, g1, g2⟩ := lit_doc (compL r)[k] (pcL r)[k] e (by omega) (by omega) (by omega) (by omega)
    rw [gd hk']
    refine ⟨x, g1, g2, fun hl => ?_⟩
    have h3 := lit_text (pcL r)[k] (by omega) (by omega) (pc_cls r _ (List.getElem_mem hk)) hl
    rw [hl, h3] at g2
    exact (congrArg (·.1) (Option.some.inj g2)).symm
  unfold ref20_Bounded compF
  rw [rq2 (by omega) (by omega), Option.bind_some, hlen]
  refine loopF_hoare (fun x : Int × Int × Int => ∃ k : Nat, x = (((((pcL r).take k).filter wildT).length : Int), ((((pcL r).take k).filter upT).length : Int), (k : Int)) ∧ k ≤ (pcL r).length) (fun x => (pcL r).length - x.2.2.toNat) ?_ 100000 _ ⟨0, by simp, by omega⟩ (by simp; omega)
  rintro x ⟨k, rfl, hk⟩
  dsimp only
  have hw := List.length_filter_le wildT ((pcL r).take k)
  have hu := List.length_filter_le upT ((pcL r).take k)
  rw [List.length_take] at hw hu
  by_cases hk : k < (pcL r).length
  · left
    obtain ⟨x, g1, g2, g3⟩ := hdoc k hk
    refine ⟨_, ⟨k + 1, rfl, by omega⟩, by simp; omega, fun rc => ?_⟩
    rw [ct (by omega), rq_ix hk, Int.toNat_natCast, g1, Option.bind_some, g2, Option.bind_some, w64s (by omega), w64s (by omega), w64s (by omega), List.take_succ_eq_append_getElem hk, List.filter_append, List.filter_append]
    cases hl : litF (pcL r)[k] with
    | false =>
      have e1 : wildT (pcL r)[k] = true := by unfold wildT; rw [hl]; rfl
      have e2 : upT (pcL r)[k] = false := by unfold upT; rw [hl]; rfl
      simp [e1, e2]
    | true =>
      have hx := g3 hl
      subst hx
      have e1 : wildT (pcL r)[k] = false := by unfold wildT; rw [hl]; rfl
      have e2 : upT (pcL r)[k] = (txt (pcL r)[k] == [46, 46]) := by unfold upT; rw [hl]; rfl
      dsimp only
      rw [Bool.not_true, cond_false]
      cases hd : (txt (pcL r)[k] == [46, 46]) with
      | true => rw [hd] at e2; simp [e1, e2]
      | false => rw [hd] at e2; simp [e1, e2]
  · right
    obtain rfl : k = (pcL r).length := by omega
    intro rc
    rw [cf (by omega), cond_som, Option.bind_some, List.take_length]
    congr 1
    have e : decide ((((pcL r).filter wildT).length : Int) ≤ 2) = decide (((pcL r).filter wildT).length ≤ 2) := decide_eq_decide.2 (by omega)
    rw [e]
    have e2 : ((((pcL r).filter upT).length : Int) == 0) = (((pcL r).filter upT).length == 0) := by
      rw [Bool.eq_iff_iff]; simp only [beq_iff_eq]; omega
    rw [e2]
    cases decide (((pcL r).filter wildT).length ≤ 2) <;> rfl
end Go.Proofs.YtmklhkmeampamaaGreatDoor
namespace Go.Proofs.YtmklhkmeampamaaGreatDoor
open Go.RT
set_option linter.all false
set_option maxRecDepth 100000
theorem start_path {cwd : List UInt8} (hc : pathS cwd = true) (f : List UInt8) : ∃ ns, Names ns ∧ startP cwd f = pathOf ns := by
  unfold startP
  cases (f.take 1 == [47]) with
  | true => exact ⟨[], fun c h => (by cases h), rfl⟩
  | false =>
    obtain ⟨n, h1, h2, -⟩ := path_ex hc
    exact ⟨n, h1, h2⟩
theorem W_small {l : List TFile} (hv : VL l) (h40 : l.length ≤ 40) {cwd : List UInt8} (hc : pathS cwd = true) (r : List TRun) (hb : (decide (((pcL r).filter wildT).length ≤ 2) || ((pcL r).filter upT).length == 0) = true) (f : List UInt8) :
    (W l mtF (partsOf patF litF r) (startP cwd f)).length ≤ 1600 := by
  rw [Bool.or_eq_true, decide_eq_true_eq, beq_iff_eq] at hb
  rcases hb with hb | hb
  · have hf : ((partsOf patF litF r).filter fun c => !c.fliteral).length = ((pcL r).filter wildT).length := by
      unfold partsOf
      rw [List.filter_map, List.length_map]
      rfl
    rcases W_count (l := l) (mt := mtF) (partsOf patF litF r) (startP cwd f) with h | h
    · rw [hf] at h
      have hp := hv.pos
      have h2 : l.length ^ ((pcL r).filter wildT).length ≤ l.length ^ 2 := Nat.pow_le_pow_right hp hb
      have h3 : l.length ^ 2 ≤ 40 ^ 2 := Nat.pow_le_pow_left h40 2
      omega
    · have := hv.pos
      omega
  · obtain ⟨ns, hn, e⟩ := start_path hc f
    rw [e]
    cases hd : dirD l (pathOf ns) with
    | true =>
      refine Nat.le_trans (W_files hv hn (fun c hcm => ?_) (fun c hcm hl => ?_) (dirD_some hd)) (by omega)
      · obtain ⟨t, ht, rfl⟩ := List.mem_map.1 hcm
        exact pc_noSl r t ht
      · obtain ⟨t, ht, rfl⟩ := List.mem_map.1 hcm
        intro e2
        have hm : t ∈ (pcL r).filter upT := List.mem_filter.2 ⟨ht, by
          unfold upT
          rw [show litF t = true from hl, show txt t = [46, 46] from e2]
          rfl⟩
        rw [List.length_eq_zero_iff.1 hb] at hm
        cases hm
    | false =>
      have hne : partsOf patF litF r ≠ [] := by unfold partsOf pcL; simp
      cases hp : partsOf patF litF r with
      | nil => exact absurd hp hne
      | cons c cs => rw [W_cons, hd]; exact Nat.zero_le _
end Go.Proofs.YtmklhkmeampamaaGreatDoor
namespace Go.Proofs.YtmklhkmeampamaaGreatDoor
open Go.RT
set_option linter.all false
set_option maxRecDepth 100000
theorem litF_empty (t : List TRun) (h1 : t.length ≤ 1000) (h2 : szL t ≤ 1000) (he : txt t = []) : litF t = true := by
  have h3 : szL t = 0 := by rw [← txt_len, he]; rfl
  have h4 : (t.flatMap chR) = [] := by
    have := fl_len chR chR_len t
    exact List.length_eq_zero_iff.1 (by omega)
  have hq : ∀ e ∈ t.flatMap chR, e.factive = false := by rw [h4]; intro e h; cases h
  have hc := pcompileQ 100000 t (by omega) (by omega) (by omega) (by omega) hq
  unfold litF patF
  rw [hc, h4]
  rfl
end Go.Proofs.YtmklhkmeampamaaGreatDoor
namespace Go.Proofs.YtmklhkmeampamaaGreatDoor
open Go.RT
set_option linter.all false
set_option maxRecDepth 100000
end Go.Proofs.YtmklhkmeampamaaGreatDoor
namespace Go.Proofs.YtmklhkmeampamaaGreatDoor
open Go.RT
set_option linter.all false
set_option maxRecDepth 100000
def JO (o : List (List TRun) × List TRun) : List UInt8 := joinR ((o.1 ++ [o.2]).map txt)
theorem joinR_ext : ∀ (L : List (List UInt8)) (a b : List UInt8), joinR (L ++ [a ++ b]) = joinR (L ++ [a]) ++ b
  | [], a, b => rfl
  | x :: L, a, b => by
    rw [List.cons_append, List.cons_append, joinR_cons x (by simp), joinR_cons x (by simp), joinR_ext L a b]
    simp
theorem JO_Q (c : Int) (o : List (List TRun) × List TRun) (q : List UInt8) : JO (pcQ c o q) = JO o ++ 47 :: q := by
  unfold JO pcQ
  rw [List.map_append, List.map_cons, List.map_nil, txt_one, joinR_snoc _ _ (by simp)]
theorem JO_Qs (c : Int) : ∀ (ps : List (List UInt8)) (o : List (List TRun) × List TRun) (p : List UInt8) (A : List UInt8), JO o = A ++ p → JO (ps.foldl (pcQ c) o) = A ++ joinR (p :: ps)
  | [], o, p, A, h => h
  | q :: ps, o, p, A, h => by
    rw [List.foldl_cons, JO_Qs c ps (pcQ c o q) q (A ++ p ++ [47]) (by rw [JO_Q, h]; simp), joinR_cons p (by simp)]
    simp
def txR (r : TRun) : List UInt8 := cond (clsB r.fClass) [] r.fText
theorem JO_R (o : List (List TRun) × List TRun) (r : TRun) : JO (pcR o r) = JO o ++ txR r := by
  unfold pcR txR
  cases clsB r.fClass
  · rw [cond_false, cond_false]
    have hj := join_parts r.fText
    cases hp : partsS r.fText with
    | nil => exact absurd hp (parts_ne _)
    | cons p ps =>
      rw [hp] at hj
      show JO (ps.foldl (pcQ r.fClass) (o.1, o.2 ++ [TRun.mk p r.fClass])) = _
      rw [JO_Qs r.fClass ps _ p (JO o) (by
        unfold JO
        rw [List.map_append, List.map_append, List.map_cons, List.map_nil, txt_app, txt_one, joinR_ext]
        rfl), hj]
  · rw [cond_true, cond_true, List.append_nil]
theorem JO_F : ∀ (l : List TRun) (o : List (List TRun) × List TRun), JO (l.foldl pcR o) = JO o ++ l.flatMap txR
  | [], o => by simp
  | r :: l, o => by rw [List.foldl_cons, JO_F l, JO_R, List.flatMap_cons, List.append_assoc]
theorem field_eq (r : List TRun) : fieldOf r = r.flatMap txR := by
  have := JO_F r ([], [])
  rw [show JO ([], []) = [] from rfl, List.nil_append] at this
  exact this
theorem refText_eq (F : Nat) (r : List TRun) (hF : r.length < F) (h1 : r.length < 1000000) (h2 : szL r ≤ 1000000) : ref20_Text F r = some (fieldOf r) := by
  rw [field_eq]
  unfold ref20_Text
  have hle : ∀ k : Nat, ((r.take k).flatMap txR).length ≤ szL (r.take k) := fun k => fl_len txR (fun x => by unfold txR; cases clsB x.fClass <;> simp) _
  refine loopF_hoare (fun x => ∃ k : Nat, x = ((r.take k).flatMap txR, (k : Int)) ∧ k ≤ r.length) (fun x => r.length - x.2.toNat) ?_ F _ ⟨0, rfl, by omega⟩ (by simp; omega)
  rintro x ⟨k, rfl, hk⟩
  dsimp only
  by_cases hk : k < r.length
  · left
    refine ⟨_, ⟨k + 1, rfl, by omega⟩, by simp; omega, fun rc => ?_⟩
    have hs := szL_take_succ r k hk
    have hl2 := szL_take_le r (k + 1)
    have hh := hle k
    rw [ct (by omega), rq_ix hk, rq_ix hk, Int.toNat_natCast, gd hk, cond_som, Option.bind_some, rq_ix hk, cond_som, Option.bind_some, rq_ix hk, rq_str (by omega), w64s (by omega), flat_take txR r k hk]
    unfold txR clsB
    simp only [bne]
    cases (r[k].fClass == 0) <;> cases (r[k].fClass == 1) <;> cases (r[k].fClass == 2) <;> simp
  · right
    obtain rfl : k = r.length := by omega
    intro rc
    rw [cf (by omega), List.take_length]
end Go.Proofs.YtmklhkmeampamaaGreatDoor
namespace Go.Proofs.YtmklhkmeampamaaGreatDoor
open Go.RT
set_option linter.all false
set_option maxRecDepth 100000
theorem smallN (F : Nat) (r : List TRun) (hF : 30 ≤ F) (h : ∀ x ∈ r, x.fText.length ≤ 140737488351232) : ∃ b, (b = true → r.length ≤ 10 ∧ szL r ≤ 80) ∧ ref04_Small F r 10 80 = some b := by
  unfold ref04_Small
  refine loopF_post (fun b : Bool => b = true → r.length ≤ 10 ∧ szL r ≤ 80) (fun x : Int × Int => ∃ k : Nat, x = ((szL (r.take k) : Int), (k : Int)) ∧ k ≤ r.length ∧ k ≤ 11 ∧ szL (r.take k) ≤ 140737488351232 + 80) (fun x => 12 - x.2.toNat) ?_ F _ ⟨0, rfl, by omega, by omega, by simp [szL]⟩ (by simp; omega)
  rintro x ⟨k, rfl, hk, hk11, hs⟩
  dsimp only
  by_cases hgo : k < r.length ∧ k ≤ 10 ∧ szL (r.take k) ≤ 80
  · left
    obtain ⟨h1, h2, h3⟩ := hgo
    have hsz := szL_take_succ r k h1
    have hx := h _ (List.getElem_mem h1)
    refine ⟨_, ⟨k + 1, rfl, by omega, by omega, by omega⟩, by simp; omega, fun rc => ?_⟩
    rw [ct (show ((k : Int)) < (r.length : Int) by omega), Option.bind_some, ct (show ((k : Int)) ≤ 10 by omega), Option.bind_some, ct (show ((szL (r.take k) : Nat) : Int) ≤ 80 by omega), rq_ix h1, Int.toNat_natCast, gd h1, w64s (by omega)]
    rw [show w64 (((szL (r.take k) : Nat) : Int) + (r[k].fText.length : Int)) = ((szL (r.take (k + 1)) : Nat) : Int) by rw [w64_in (by omega)]; omega]
  · right
    refine ⟨decide (r.length ≤ 10) && decide (szL (r.take k) ≤ 80), fun hb => ?_, fun rc => ?_⟩
    · simp only [Bool.and_eq_true, decide_eq_true_eq] at hb
      have hkl : ¬ k < r.length := fun h1 => hgo ⟨h1, by omega, hb.2⟩
      obtain rfl : k = r.length := by omega
      rw [List.take_length] at hb
      exact hb
    · have e : ((cond (decide ((k : Int) < (r.length : Int))) (some (decide ((k : Int) ≤ 10))) (some false) : Option Bool).bind fun x3 => (cond x3 (some (decide (((szL (r.take k) : Nat) : Int) ≤ 80))) (some false) : Option Bool)) = some false := by
        by_cases h1 : k < r.length
        · rw [dT (show ((k : Int)) < (r.length : Int) by omega), cond_true, Option.bind_some]
          by_cases h2 : k ≤ 10
          · rw [dT (show ((k : Int)) ≤ 10 by omega), cond_true, dF (show ¬ ((szL (r.take k) : Nat) : Int) ≤ 80 from fun h3 => hgo ⟨h1, h2, by omega⟩)]
          · rw [dF (show ¬ ((k : Int)) ≤ 10 by omega)]; rfl
        · rw [dF (show ¬ ((k : Int)) < (r.length : Int) by omega)]; rfl
      have e2 : ∀ {β : Type} (A : Option Bool) (B : Bool → Option Bool) (k : Bool → Option β), (A.bind fun x6 => (B x6).bind k) = (A.bind B).bind k := by
        intro β A B k
        cases A <;> rfl
      rw [e2, e, Option.bind_some, cond_false, cond_som, Option.bind_some]
      congr 1
      have a1 : decide ((r.length : Int) ≤ 10) = decide (r.length ≤ 10) := decide_eq_decide.2 (by omega)
      have a2 : decide (((szL (r.take k) : Nat) : Int) ≤ 80) = decide (szL (r.take k) ≤ 80) := decide_eq_decide.2 (by omega)
      rw [a1, a2]
      cases decide (r.length ≤ 10) <;> rfl
def costL (w : List (List UInt8)) : Nat := (w.map fun n => n.length + 1).sum
def costT (cs : List Tcomponent) : Nat := (cs.map fun c => c.ftext.length + 1).sum
theorem joinR_cost : ∀ w : List (List UInt8), (joinR w).length ≤ costL w
  | [] => by simp [joinR, costL]
  | [a] => by simp [joinR, costL]
  | a :: b :: w => by
    have ih := joinR_cost (b :: w)
    rw [joinR_cons a (by simp)]
    unfold costL at *
    simp only [List.map_cons, List.sum_cons, List.length_append, List.length_cons] at *
    omega
theorem costL_cons (x : List UInt8) (w : List (List UInt8)) : costL (x :: w) = x.length + 1 + costL w := by unfold costL; simp
theorem costT_cons (c : Tcomponent) (cs : List Tcomponent) : costT (c :: cs) = c.ftext.length + 1 + costT cs := by unfold costT; simp
section
variable {l : List TFile} {mt : List TPatItem → List UInt8 → Bool}
theorem find_len (hv : VL l) {q : List UInt8} (h : (findS l q).isSome = true) : q.length ≤ 128 := by
  cases hf : findS l q with
  | none => rw [hf] at h; cases h
  | some f =>
    exact (find_dir hv hf).1
theorem W_cost1 (hv : VL l) : ∀ (cs : List Tcomponent) (p : List UInt8), ∀ w ∈ W l mt cs p, costL w ≤ costT cs + 40 * (cs.filter fun c => !c.fliteral).length
  | [], p, w, hw => by
    obtain rfl := List.mem_singleton.1 (show w ∈ [([] : List (List UInt8))] from hw)
    simp [costL]
  | c :: cs, p, w, hw => by
    have ih := W_cost1 hv cs
    rw [costT_cons, List.filter_cons]
    rw [W_cons] at hw
    cases h1 : (!dirD l p) <;> rw [h1] at hw
    · have hone : ∀ q, w ∈ (W l mt cs q).map (c.ftext :: ·) → costL w ≤ c.ftext.length + 1 + costT cs + 40 * (cs.filter fun c => !c.fliteral).length := by
        intro q hq
        obtain ⟨w', hw', rfl⟩ := List.mem_map.1 hq
        have := ih q w' hw'
        rw [costL_cons]
        omega
      cases h2 : (!c.fliteral) <;> rw [h2] at hw
      · simp only [Bool.false_eq_true, if_false]
        cases h3 : (c.ftext == [] || c.ftext == [46]) <;> rw [h3] at hw
        · cases h4 : (c.ftext == [46, 46]) <;> rw [h4] at hw
          · cases h5 : (findS l (joinP p c.ftext)).isNone <;> rw [h5] at hw
            · exact hone _ hw
            · cases hw
          · exact hone _ hw
        · exact hone _ hw
      · simp only [if_true, List.length_cons]
        obtain ⟨k, hk, hw⟩ := List.mem_flatMap.1 (show w ∈ ((kidsL l p).filter (keepN mt c)).flatMap _ from hw)
        obtain ⟨w', hw', rfl⟩ := List.mem_map.1 hw
        have := ih _ w' hw'
        have := (kid_len hv (List.mem_filter.1 hk).1).2
        rw [costL_cons]
        omega
    · cases hw
end
theorem costT_parts (r : List TRun) : costT (partsOf patF litF r) ≤ szL r + (pcL r).length * 1 + szL r + 1 := by
  have h1 := muP_F r ([], [])
  have e : costT (partsOf patF litF r) = ((pcL r).map fun t => szL t + 1).sum := by
    unfold costT partsOf
    rw [List.map_map]
    congr 1
    refine List.map_congr_left fun t ht => ?_
    show (txt t).length + 1 = _
    rw [txt_len]
  rw [e]
  unfold pcL
  rw [List.map_append, List.sum_append]
  have : muP (pcO r) ≤ szL r := by
    have := h1
    simp only [muP, List.map_nil, List.sum_nil, szL] at this
    unfold pcO muP szL
    omega
  unfold muP at this
  simp only [List.map_cons, List.map_nil, List.sum_cons, List.sum_nil]
  omega
theorem field_len (r : List TRun) : (fieldOf r).length ≤ szL r := by
  rw [field_eq]
  exact fl_len txR (fun x => by unfold txR; cases clsB x.fClass <;> simp) r
end Go.Proofs.YtmklhkmeampamaaGreatDoor
namespace Go.Proofs.YtmklhkmeampamaaGreatDoor
open Go.RT
set_option linter.all false
set_option maxRecDepth 100000
def tlJ (w : List (List UInt8)) : List UInt8 := w.flatMap fun n => 47 :: n
def hJ (b : Bool) : List (List UInt8) → List UInt8
  | [] => []
  | n :: w => cond b (47 :: n) n ++ tlJ w
theorem hJ_true : ∀ w : List (List UInt8), hJ true w = tlJ w
  | [] => rfl
  | n :: w => by simp [hJ, tlJ]
theorem joinR_hJ : ∀ w : List (List UInt8), joinR w = hJ false w
  | [] => rfl
  | [a] => by simp [joinR, hJ, tlJ]
  | a :: b :: w => by
    rw [joinR_cons a (by simp), joinR_hJ (b :: w)]
    simp [hJ, tlJ]
def updT (b : Bool) (x : Tfind) : Tfind := cond b (Tfind.mk x.fpath (x.ftext ++ [47])) x
theorem updT_path (b : Bool) (x : Tfind) : (updT b x).fpath = x.fpath := by cases b <;> rfl
def stp (l : List TFile) (c : Tcomponent) (x : Tfind) : List Tfind :=
  cond (!c.fliteral) (((kidsL l x.fpath).filter (keepN mtF c)).map fun n => Tfind.mk (joinP x.fpath n) (x.ftext ++ n))
   (cond (c.ftext == [] || c.ftext == [46]) [Tfind.mk x.fpath (x.ftext ++ c.ftext)]
   (cond (c.ftext == [46, 46]) [Tfind.mk (parentS x.fpath) (x.ftext ++ c.ftext)]
   (cond (findS l (joinP x.fpath c.ftext)).isNone [] [Tfind.mk (joinP x.fpath c.ftext) (x.ftext ++ c.ftext)])))
def gstp (l : List TFile) (c : Tcomponent) (b : Bool) (x : Tfind) : List Tfind := cond (dirD l x.fpath) (stp l c (updT b x)) []
def runF (l : List TFile) : Bool → List Tcomponent → List Tfind → List Tfind
  | _, [], xs => xs
  | b, c :: cs, xs => runF l true cs (xs.flatMap (gstp l c b))
theorem run_text (l : List TFile) : ∀ (b : Bool) (cs : List Tcomponent) (xs : List Tfind), (runF l b cs xs).map (fun y => y.ftext) = xs.flatMap fun x => (W l mtF cs x.fpath).map fun w => x.ftext ++ hJ b w
  | b, [], xs => by
    rw [runF]
    have : (fun x : Tfind => (W l mtF [] x.fpath).map fun w => x.ftext ++ hJ b w) = fun x => [x.ftext] := by
      funext x
      show [x.ftext ++ []] = _
      rw [List.append_nil]
    rw [this]
    induction xs with
    | nil => rfl
    | cons x xs ih => rw [List.map_cons, List.flatMap_cons, ih]; rfl
  | b, c :: cs, xs => by
    rw [runF, run_text l true cs, List.flatMap_assoc]
    congr 1
    funext x
    have key : ∀ (n q : List UInt8) (y : Tfind), y = Tfind.mk q ((updT b x).ftext ++ n) → ((W l mtF cs y.fpath).map fun w => y.ftext ++ hJ true w) = ((W l mtF cs q).map (n :: ·)).map fun w => x.ftext ++ hJ b w := by
      rintro n q y rfl
      rw [List.map_map]
      refine List.map_congr_left fun w _ => ?_
      show ((updT b x).ftext ++ n) ++ hJ true w = x.ftext ++ hJ b (n :: w)
      rw [hJ_true]
      cases b <;> simp [updT, hJ]
    have one : ∀ (n q : List UInt8), ([Tfind.mk q ((updT b x).ftext ++ n)].flatMap fun y => (W l mtF cs y.fpath).map fun w => y.ftext ++ hJ true w) = ((W l mtF cs q).map (n :: ·)).map fun w => x.ftext ++ hJ b w := by
      intro n q
      rw [List.flatMap_cons, List.flatMap_nil, List.append_nil]
      exact key n q _ rfl
    unfold gstp stp
    rw [updT_path, W_cons]
    cases dirD l x.fpath with
    | false => rfl
    | true =>
      rw [cond_true, Bool.not_true, cond_false]
      cases c.fliteral with
      | false =>
        rw [Bool.not_false, cond_true, cond_true, List.flatMap_map, List.map_flatMap]
        congr 1
        funext n
        exact key n _ _ rfl
      | true =>
        rw [Bool.not_true, cond_false, cond_false]
        cases (c.ftext == [] || c.ftext == [46]) with
        | true => exact one _ _
        | false =>
          rw [cond_false, cond_false]
          cases (c.ftext == [46, 46]) with
          | true => exact one _ _
          | false =>
            rw [cond_false, cond_false]
            cases (findS l (joinP x.fpath c.ftext)).isNone with
            | true => rfl
            | false => exact one _ _
theorem run_snoc (l : List TFile) (c : Tcomponent) : ∀ (cs : List Tcomponent) (b : Bool) (xs : List Tfind), runF l b (cs ++ [c]) xs = (runF l b cs xs).flatMap (gstp l c (b || !cs.isEmpty))
  | [], b, xs => by
    show runF l true [] (xs.flatMap (gstp l c b)) = _
    rw [runF, runF]
    simp
  | d :: cs, b, xs => by
    rw [List.cons_append, runF, run_snoc l c cs true, runF]
    simp
theorem sorted_eq (F : Nat) (a : List (List UInt8)) (hn : a.Nodup) (ha : a.length ≤ 10000) (hF : 20000 ≤ F) : ref20_sorted F a = some (sortK a) := by
  unfold ref20_sorted
  refine loopF_hoare (fun s : List (List UInt8) × Int => ∃ i : Nat, s.2 = (i : Int) ∧ i ≤ a.length ∧ s.1.Pairwise (· < ·) ∧ (∀ x, x ∈ s.1 ↔ x ∈ a.take i) ∧ s.1.length ≤ i) (fun s => a.length - s.2.toNat) ?_ F _ ⟨0, rfl, by omega, List.Pairwise.nil, fun x => by simp, by simp⟩ (by simp; omega)
  rintro ⟨out, ii⟩ ⟨i, h0, hi, hasc, hmem, hlen⟩
  dsimp only at h0 hasc hmem hlen ⊢
  subst h0
  by_cases hi : i < a.length
  · left
    have hk : ∃ k : Nat, k ≤ out.length ∧ (∀ j, ∀ hj : j < out.length, j < k → out[j] < a[i]) ∧ (∀ hj : k < out.length, ¬ out[k] < a[i]) := by
      have : ∀ (L : List (List UInt8)), ∃ k : Nat, k ≤ L.length ∧ (∀ j, ∀ hj : j < L.length, j < k → L[j] < a[i]) ∧ (∀ hj : k < L.length, ¬ L[k] < a[i]) := by
        intro L
        induction L with
        | nil => exact ⟨0, by simp, fun j hj => by simp at hj, fun hj => by simp at hj⟩
        | cons y L ih =>
          by_cases hy : y < a[i]
          · obtain ⟨k, h1, h2, h3⟩ := ih
            refine ⟨k + 1, by simpa using h1, fun j hj hjk => ?_, fun hj => ?_⟩
            · cases j with
              | zero => exact hy
              | succ j => exact h2 j (by simpa using hj) (by omega)
            · exact h3 (by simpa using hj)
          · exact ⟨0, by simp, fun j hj hjk => by omega, fun hj => hy⟩
      exact this out
    obtain ⟨k, hk1, hk2, hk3⟩ := hk
    have hnin : a[i] ∉ out := by
      intro hm
      have := (hmem _).1 hm
      obtain ⟨j, hj, e⟩ := List.getElem_of_mem this
      rw [List.length_take] at hj
      rw [List.getElem_take] at e
      exact List.pairwise_iff_getElem.1 hn j i (by omega) hi (by omega) e
    have hgt : ∀ j, ∀ hj : j < out.length, k ≤ j → a[i] < out[j] := by
      intro j hj hkj
      have hkl : k < out.length := by omega
      have h1 := hk3 hkl
      have h2 : a[i] < out[k] := by
        rcases lt_tri out[k] a[i] with h | h | h
        · exact absurd h h1
        · exact absurd (h ▸ List.getElem_mem hkl) hnin
        · exact h
      rcases Nat.eq_or_lt_of_le hkj with e | e
      · subst e; exact h2
      · exact lt_trans' h2 (List.pairwise_iff_getElem.1 hasc k j hkl hj e)
    refine ⟨(out.take k ++ (a[i] :: out.drop k), ((i + 1 : Nat) : Int)), ⟨i + 1, rfl, by omega, ?_, fun x => ?_, ?_⟩, by simp; omega, fun rc => ?_⟩
    · rw [List.pairwise_append]
      refine ⟨hasc.sublist (List.take_sublist k out), List.pairwise_cons.2 ⟨fun y hy => ?_, hasc.sublist (List.drop_sublist k out)⟩, fun x hx y hy => ?_⟩
      · obtain ⟨j, hj, rfl⟩ := List.getElem_of_mem hy
        rw [List.getElem_drop]
        exact hgt _ (by rw [List.length_drop] at hj; omega) (by omega)
      · obtain ⟨j, hj, rfl⟩ := List.getElem_of_mem hx
        rw [List.length_take] at hj
        rw [List.getElem_take]
        have hlt := hk2 j (by omega) (by omega)
        rcases List.mem_cons.1 hy with rfl | hy
        · exact hlt
        · obtain ⟨m, hm, rfl⟩ := List.getElem_of_mem hy
          rw [List.getElem_drop]
          exact lt_trans' hlt (hgt _ (by rw [List.length_drop] at hm; omega) (by omega))
    · rw [List.take_succ_eq_append_getElem hi]
      simp only [List.mem_append, List.mem_cons, List.mem_singleton, List.not_mem_nil, or_false]
      rw [← hmem x]
      conv => rhs; rw [← List.take_append_drop k out]
      rw [List.mem_append]
      constructor
      · rintro (h | h | h)
        · exact .inl (.inl h)
        · exact .inr h
        · exact .inl (.inr h)
      · rintro ((h | h) | h)
        · exact .inl h
        · exact .inr (.inr h)
        · exact .inr (.inl h)
    · dsimp only
      rw [List.length_append, List.length_cons, List.length_take, List.length_drop]; omega
    · rw [ct (by omega)]
      refine loopF_hoare (fun s : Int => ∃ j : Nat, s = (j : Int) ∧ j ≤ k) (fun s => k - s.toNat) ?_ F _ ⟨0, rfl, by omega⟩ (by simp; omega)
      rintro s ⟨j, rfl, hj⟩
      by_cases hjk : j < k
      · left
        refine ⟨((j + 1 : Nat) : Int), ⟨j + 1, rfl, by omega⟩, by simp; omega, fun rc2 => ?_⟩
        have hjl : j < out.length := by omega
        rw [ct (by omega), rq_ix hjl, rq_ix hi, Int.toNat_natCast, Int.toNat_natCast, gd hjl, gd hi, (bl_lt _ _).2 (hk2 j hjl hjk), Option.bind_some, cond_true, w64s (by omega)]
      · right
        obtain rfl : j = k := by omega
        intro rc2
        have e1 : (cond (decide ((j : Int) < (out.length : Int))) (rq ((decide (0 ≤ (j : Int))) && (decide ((j : Int) < (out.length : Int)))) (rq ((decide (0 ≤ (i : Int))) && (decide ((i : Int) < (a.length : Int)))) (some (Op.bytesLess (out.getD (Int.toNat (j : Int)) []) (a.getD (Int.toNat (i : Int)) []))))) (some false) : Option Bool) = some false := by
          by_cases hjl : j < out.length
          · rw [ct (by omega), rq_ix hjl, rq_ix hi, Int.toNat_natCast, Int.toNat_natCast, gd hjl, gd hi, (bl_not _ _).2 (hk3 hjl)]
          · rw [cf (by omega)]
        have e2 : (cond ((j : Int) == (out.length : Int)) (some true) (rq ((decide (0 ≤ (j : Int))) && (decide ((j : Int) < (out.length : Int)))) (rq ((decide (0 ≤ (i : Int))) && (decide ((i : Int) < (a.length : Int)))) (some (!((out.getD (Int.toNat (j : Int)) []) == (a.getD (Int.toNat (i : Int)) [])))))) : Option Bool) = some true := by
          by_cases hjl : j < out.length
          · rw [show ((j : Int) == (out.length : Int)) = false from beq_eq_false_iff_ne.2 (by omega), cond_false, rq_ix hjl, rq_ix hi, Int.toNat_natCast, Int.toNat_natCast, gd hjl, gd hi]
            have : (out[j] == a[i]) = false := beq_eq_false_iff_ne.2 fun e => hnin (e ▸ List.getElem_mem hjl)
            rw [this]; rfl
          · rw [show ((j : Int) == (out.length : Int)) = true from beq_iff_eq.2 (by omega)]; rfl
        have s1 : sl out (j : Int) (out.length : Int) = out.drop j := by unfold sl; simp
        have s2 : sl out 0 (j : Int) = out.take j := by unfold sl; simp
        rw [e1, Option.bind_some, cond_false, e2, Option.bind_some, cond_true, rq_ix hi, Int.toNat_natCast, gd hi, s1, s2]
        rw [rq3 (by omega) (by omega) (by omega), rq_cap (by simp <;> omega) (by simp <;> omega), rq2 (by omega) (by omega), rq_cap (by simp <;> omega) (by simp <;> omega), rq_cap (by simp <;> omega) (by simp <;> omega), w64s (by omega)]
        rfl
  · right
    obtain rfl : i = a.length := by omega
    intro rc
    rw [cf (by omega)]
    have hp := sortK_perm a
    rw [List.take_length] at hmem
    rw [asc_ext (f := id) (a := out) (b := sortK a) hasc (sortK_srt hn) fun x => (hmem x).trans hp.mem_iff.symm]
end Go.Proofs.YtmklhkmeampamaaGreatDoor
namespace Go.Proofs.YtmklhkmeampamaaGreatDoor
open Go.RT
set_option linter.all false
set_option maxRecDepth 100000
def ClsC (o : List (List TRun) × List TRun) : Prop := (∀ c ∈ o.1, ∀ r ∈ c, clsB r.fClass = false) ∧ ∀ r ∈ o.2, clsB r.fClass = false
theorem ClsC_B (cl : Int) (hc : clsB cl = false) : ∀ (t : List UInt8) (o : List (List TRun) × List TRun), ClsC o → ClsC (t.foldl (stepB cl) o)
  | [], o, h => h
  | b :: t, o, h => by
    rw [List.foldl_cons]
    refine ClsC_B cl hc t _ ?_
    unfold stepB
    cases (b == 47) with
    | true =>
      refine ⟨fun c hcm r hr => ?_, fun r hr => by cases hr⟩
      rcases List.mem_append.1 hcm with hcm | hcm
      · exact h.1 c hcm r hr
      · obtain rfl := List.mem_singleton.1 hcm; exact h.2 r hr
    | false =>
      refine ⟨h.1, fun r hr => ?_⟩
      rcases List.mem_append.1 hr with hr | hr
      · exact h.2 r hr
      · obtain rfl := List.mem_singleton.1 hr; exact hc
theorem ClsC_F : ∀ (l : List TRun) (o : List (List TRun) × List TRun), ClsC o → ClsC (l.foldl stepR o)
  | [], o, h => h
  | r :: l, o, h => by
    rw [List.foldl_cons]
    refine ClsC_F l _ ?_
    show ClsC (cond (clsB r.fClass) o (r.fText.foldl (stepB r.fClass) o))
    cases hc : clsB r.fClass with
    | true => exact h
    | false => exact ClsC_B _ hc _ _ h
theorem comp_cls (l : List TRun) : ∀ c ∈ compL l, ∀ r ∈ c, clsB r.fClass = false := by
  have h := ClsC_F l ([], []) ⟨fun c hc => (by cases hc), fun r hr => (by cases hr)⟩
  intro c hc r hr
  unfold compL at hc
  rcases List.mem_append.1 hc with hc | hc
  · exact h.1 c hc r hr
  · obtain rfl := List.mem_singleton.1 hc; exact h.2 r hr
theorem bits_len : ∀ t : List TRun, (∀ r ∈ t, clsB r.fClass = false) → (bits t).length = szL t
  | [], _ => rfl
  | r :: t, h => by
    have ih := bits_len t fun x hx => h x (by simp [hx])
    unfold bits at *
    rw [List.flatMap_cons, List.length_append, ih]
    unfold elR szL
    rw [h r (by simp), cond_false, List.length_map]
    simp
theorem below_eq (F : Nat) (p n : List UInt8) (h1 : p.length ≤ 1000000) (h2 : n.length ≤ 1000000) : ref20_below F p n = some (joinP p n) := by
  unfold ref20_below joinP
  cases (p == [47]) with
  | true => rw [cond_true, cond_true, rq_str (by simp; omega)]
  | false => rw [cond_false, cond_false, rq_str (by simp; omega), rq_str (by simp; omega)]
theorem pat_ne (t : List TRun) (h : litF t = false) : 0 < (patF t).length := by
  cases hp : patF t with
  | nil =>
    unfold litF at h
    rw [hp] at h
    exact absurd h (by rw [show pattern_Literal 100000 [] = some ([], true) from rfl]; decide)
  | cons a b => simp
theorem dir_eq (F : Nat) (l : List TFile) (p : List UInt8) (hF : l.length < F) (hl : l.length < 1000000000) : ref20_directory F l p = some (dirD l p) := by
  unfold ref20_directory dirD
  rw [ref_Find F l p hF hl, Option.bind_some]
  cases findS l p <;> rfl
theorem step_eq {l : List TFile} (hv : VL l) (h40 : l.length ≤ 40) {c t : List TRun} (e : bits c = bits t) (hc1 : c.length = szL c) (hc2 : szL c ≤ 1000) (ht1 : t.length ≤ 1000) (ht2 : szL t ≤ 1000) (hcc : ∀ r ∈ c, clsB r.fClass = false) (htc : ∀ r ∈ t, clsB r.fClass = false)
    (x : Tfind) (hd : dirD l x.fpath = true) (hx : x.ftext.length ≤ 1000000) : ref20_step 100000 l x c = some (stp l (cmpP patF litF t) x) := by
  obtain ⟨s, e1, e2⟩ := lit_doc c t e (by omega) hc2 ht1 ht2
  have hlen : c.length = (txt t).length := by
    have g1 := bits_len c hcc
    have g2 := bits_len t htc
    rw [e] at g1
    rw [txt_len]; omega
  have hz : ((c.length : Int) == 0) = (txt t == []) := by
    rw [hlen]
    cases txt t with
    | nil => rfl
    | cons a b => rw [beq_eq_false_iff_ne.2 (by simp; omega)]; rfl
  have htl : (txt t).length ≤ 1000 := by rw [txt_len]; exact ht2
  have hxp : x.fpath.length ≤ 128 := find_len hv (dirD_some hd)
  unfold ref20_step stp
  rw [e1, Option.bind_some, e2, Option.bind_some, hz]
  show _ = some (cond (!litF t) _ (cond (txt t == [] || txt t == [46]) _ (cond (txt t == [46, 46]) _ _)))
  cases hl : litF t with
  | false =>
    have h0 : (txt t == []) = false := by
      cases hb : (txt t == []) with
      | false => rfl
      | true =>
        have := litF_empty t ht1 ht2 (eq_of_beq hb)
        rw [hl] at this; cases this
    rw [h0]
    simp only [cond_false, cond_true, Option.bind_some, Bool.not_false]
    have hls : listS l x.fpath = (kidsL l x.fpath, 0) := Option.some.inj ((list_eq 100000 l x.fpath (by omega) hv).symm.trans (list_dir (by omega) hv hd))
    rw [ref_list 100000 l x.fpath (by omega) hv, hls, Option.bind_some]
    dsimp only
    have hkl : (kidsL l x.fpath).length ≤ 40 := by
      unfold kidsL
      rw [List.length_map]
      exact Nat.le_trans (List.length_filter_le _ _) h40
    have hkn : ∀ n ∈ kidsL l x.fpath, nameS n = true ∧ n.length ≤ 32 := fun n hn => kid_len hv hn
    generalize kidsL l x.fpath = K at hkl hkn
    have hpl := pat_ne t hl
    obtain ⟨g1, g2, g3⟩ := patF_ok t ht1 ht2
    have hdot : (rq (decide (0 < ((patF t).length : Int))) (cond (((patF t).getD 0 dTPatItem).fKind == 1) (rq (decide (0 < ((patF t).length : Int))) (some (((patF t).getD 0 dTPatItem).fText == ([46] : List UInt8)))) (some false)) : Option Bool) = some (dotC (cmpP patF litF t)) := by
      rw [rq1 (by omega), rq1 (by omega), cond_som]
      unfold dotC
      show _ = some (decide (0 < (patF t).length) && ((((patF t).getD 0 dTPatItem).fKind == 1) && (((patF t).getD 0 dTPatItem).fText == [46])))
      rw [dT hpl, Bool.true_and]
      cases (((patF t).getD 0 dTPatItem).fKind == 1) <;> rfl
    rw [hdot]
    refine loopF_hoare (fun s : List Tfind × Int => ∃ k : Nat, s = ((((K.take k).filter (keepN mtF (cmpP patF litF t))).map fun n => Tfind.mk (joinP x.fpath n) (x.ftext ++ n)), (k : Int)) ∧ k ≤ K.length) (fun s => K.length - s.2.toNat) ?_ 100000 _ ⟨0, rfl, by omega⟩ (by simp; omega)
    rintro s ⟨k, rfl, hk⟩
    dsimp only
    by_cases hk : k < K.length
    · left
      refine ⟨_, ⟨k + 1, rfl, by omega⟩, by simp; omega, fun rc => ?_⟩
      have hnm := hkn _ (List.getElem_mem hk)
      have hnl := name_len hnm.1
      have hm : ref04_Match 100000 (patF t) K[k] = some (mtF (patF t) K[k]) := by
        rw [match_eq2 100000 (patF t) K[k] (by omega) (by omega) (by omega) (by omega) g2]
        exact mtF_ok t ht1 ht2 K[k] (by omega)
      have hpre : ((((K[k]).getD 0 0).toNat : Int) != 46) = !preDot K[k] := by
        cases hn : K[k] with
        | nil => rw [hn] at hnl; simp at hnl
        | cons b n =>
          show (((b.toNat : Int)) != 46) = !((b :: n).take 1 == [46])
          rw [bne, u8lit b 46 (by omega)]
          simp
      have hkeep : ∀ A : Bool, (cond (mtF (patF t) K[k]) (cond (((((K[k]).getD 0 0).toNat : Int)) != 46) (some true) (some A)) (some false) : Option Bool) = some (mtF (patF t) K[k] && (!preDot K[k] || A)) := by
        intro A
        rw [hpre]
        cases mtF (patF t) K[k] <;> cases preDot K[k] <;> rfl
      have hkeep2 : (mtF (patF t) K[k] && (!preDot K[k] || dotC (cmpP patF litF t))) = keepN mtF (cmpP patF litF t) K[k] := by
        unfold keepN
        show _ = !((preDot K[k] && !dotC (cmpP patF litF t)) || !mtF (patF t) K[k])
        cases mtF (patF t) K[k] <;> cases preDot K[k] <;> cases dotC (cmpP patF litF t) <;> rfl
      rw [ct (by omega), Option.bind_some, rq_ix hk, Int.toNat_natCast, gd hk, hm, Option.bind_some, rq_ix hk, rq1 (by omega), hkeep, hkeep2, Option.bind_some, rq_ix hk, rq_ix hk, rq_str (by omega), below_eq 100000 x.fpath K[k] (by omega) (by omega), Option.bind_some, w64s (by omega)]
      have hfl : (((K.take k).filter (keepN mtF (cmpP patF litF t))).map fun n => Tfind.mk (joinP x.fpath n) (x.ftext ++ n)).length ≤ 40 := by
        rw [List.length_map]
        refine Nat.le_trans (List.length_filter_le _ _) ?_
        rw [List.length_take]; omega
      rw [rq_cap (by rw [List.length_singleton]; omega) (by omega), List.take_succ_eq_append_getElem hk, List.filter_append, List.map_append, List.filter_cons]
      cases keepN mtF (cmpP patF litF t) K[k] <;> simp
    · right
      obtain rfl : k = K.length := by omega
      intro rc
      rw [cf (by omega), List.take_length]
  | true =>
    have hs : s = txt t := by
      have h1 := lit_text t ht1 ht2 htc hl
      rw [h1] at e2
      exact ((Prod.mk.inj (Option.some.inj e2)).1).symm
    subst hs
    simp only [cond_true, cond_false, Option.bind_some, Bool.not_true]
    have e3 : (cond (txt t == []) (some true) (some (txt t == [46])) : Option Bool) = some (txt t == [] || txt t == [46]) := by cases (txt t == []) <;> rfl
    rw [e3, Option.bind_some]
    cases (txt t == [] || txt t == [46]) with
    | true => rw [cond_true, cond_true, rq_str (by omega)]; rfl
    | false =>
      rw [cond_false, cond_false]
      cases (txt t == [46, 46]) with
      | true => rw [cond_true, cond_true, rq_str (by omega), ref_parent 100000 x.fpath (by omega) (by omega)]; rfl
      | false =>
        rw [cond_false, cond_false, below_eq 100000 x.fpath (txt t) (by omega) (by omega), Option.bind_some, ref_Find 100000 l _ (by omega) (by omega), Option.bind_some]
        show _ = some (cond (findS l (joinP x.fpath (txt t))).isNone [] [Tfind.mk (joinP x.fpath (txt t)) (x.ftext ++ txt t)])
        cases findS l (joinP x.fpath (txt t)) with
        | none => rfl
        | some f =>
          dsimp only [Option.elim, Option.isNone]
          rw [cond_true, rq_str (by omega)]
          rfl
end Go.Proofs.YtmklhkmeampamaaGreatDoor
namespace Go.Proofs.YtmklhkmeampamaaGreatDoor
open Go.RT
set_option linter.all false
set_option maxRecDepth 100000
theorem W_take {l : List TFile} (hv : VL l) (h40 : l.length ≤ 40) {cwd : List UInt8} (hc : pathS cwd = true) (r : List TRun) (hb : (decide (((pcL r).filter wildT).length ≤ 2) || ((pcL r).filter upT).length == 0) = true) (f : List UInt8) (i : Nat) :
    (W l mtF ((partsOf patF litF r).take i) (startP cwd f)).length ≤ 1600 := by
  rw [Bool.or_eq_true, decide_eq_true_eq, beq_iff_eq] at hb
  rcases hb with hb | hb
  · have hf : ((partsOf patF litF r).filter fun c => !c.fliteral).length = ((pcL r).filter wildT).length := by
      unfold partsOf
      rw [List.filter_map, List.length_map]
      rfl
    have hsub := ((List.take_sublist i (partsOf patF litF r)).filter fun c => !c.fliteral).length_le
    rcases W_count (l := l) (mt := mtF) ((partsOf patF litF r).take i) (startP cwd f) with h | h
    · have hp := hv.pos
      have h2 : l.length ^ (((partsOf patF litF r).take i).filter fun c => !c.fliteral).length ≤ l.length ^ 2 := Nat.pow_le_pow_right hp (by omega)
      have h3 : l.length ^ 2 ≤ 40 ^ 2 := Nat.pow_le_pow_left h40 2
      omega
    · have := hv.pos
      omega
  · obtain ⟨ns, hn, e⟩ := start_path hc f
    rw [e]
    cases hd : dirD l (pathOf ns) with
    | true =>
      refine Nat.le_trans (W_files hv hn (fun c hcm => ?_) (fun c hcm hl => ?_) (dirD_some hd)) (by omega)
      · obtain ⟨t, ht, rfl⟩ := List.mem_map.1 (List.mem_of_mem_take hcm)
        exact pc_noSl r t ht
      · obtain ⟨t, ht, rfl⟩ := List.mem_map.1 (List.mem_of_mem_take hcm)
        intro e2
        have hm : t ∈ (pcL r).filter upT := List.mem_filter.2 ⟨ht, by
          unfold upT
          rw [show litF t = true from hl, show txt t = [46, 46] from e2]
          rfl⟩
        rw [List.length_eq_zero_iff.1 hb] at hm
        cases hm
    | false =>
      cases hp : (partsOf patF litF r).take i with
      | nil => simp [W]
      | cons c cs => rw [W_cons, hd]; exact Nat.zero_le _
theorem take_cost {l : List TFile} (hv : VL l) {r : List TRun} (h2 : szL r ≤ 80) (p : List UInt8) (i : Nat) : ∀ w ∈ W l mtF ((partsOf patF litF r).take i) p, costL w ≤ 10000 := by
  intro w hw
  have h1 := W_cost1 hv _ _ w hw
  have hT := costT_parts r
  have hp := (pc_sz (l := r)).1
  have hl : (partsOf patF litF r).length = (pcL r).length := by unfold partsOf; rw [List.length_map]
  have hs := ((List.take_sublist i (partsOf patF litF r))).length_le
  have hs2 := (List.length_filter_le (fun c : Tcomponent => !c.fliteral) ((partsOf patF litF r).take i))
  have hs3 : costT ((partsOf patF litF r).take i) ≤ costT (partsOf patF litF r) := by
    conv => rhs; rw [← List.take_append_drop i (partsOf patF litF r)]
    unfold costT
    rw [List.map_append, List.sum_append]
    omega
  omega
def Fr0 (l : List TFile) (cwd : List UInt8) (r : List TRun) (i : Nat) : List Tfind := runF l false ((partsOf patF litF r).take i) [Tfind.mk (startP cwd (fieldOf r)) []]
theorem Fr0_text (l : List TFile) (cwd : List UInt8) (r : List TRun) (i : Nat) : (Fr0 l cwd r i).map (fun y => y.ftext) = (W l mtF ((partsOf patF litF r).take i) (startP cwd (fieldOf r))).map joinR := by
  unfold Fr0
  rw [run_text, List.flatMap_cons, List.flatMap_nil, List.append_nil]
  refine List.map_congr_left fun w _ => ?_
  rw [joinR_hJ]
  rfl
theorem Fr0_next (l : List TFile) (cwd : List UInt8) (r : List TRun) (i : Nat) (h : i < (partsOf patF litF r).length) : Fr0 l cwd r (i + 1) = (Fr0 l cwd r i).flatMap (gstp l ((partsOf patF litF r)[i]) (decide (0 < i))) := by
  unfold Fr0
  rw [List.take_succ_eq_append_getElem h, run_snoc]
  congr 2
  cases i with
  | zero => rfl
  | succ i =>
    have : (((partsOf patF litF r).take (i + 1)).isEmpty) = false := by
      rw [List.isEmpty_eq_false_iff]
      intro e
      have h2 := congrArg List.length e
      rw [List.length_take, List.length_nil] at h2
      omega
    rw [this]
    simp
def updL (b : Bool) (xs : List Tfind) (k : Nat) : List Tfind := (xs.take k).map (updT b) ++ xs.drop k
theorem updL_len (b : Bool) (xs : List Tfind) (k : Nat) : (updL b xs k).length = xs.length := by
  unfold updL
  rw [List.length_append, List.length_map, List.length_take, List.length_drop]; omega
theorem updL_at (b : Bool) (xs : List Tfind) (k : Nat) (h : k < xs.length) : (updL b xs k).getD k dTfind = xs[k] := by
  unfold updL
  rw [List.getD_eq_getElem?_getD, List.getElem?_append_right (by rw [List.length_map, List.length_take]; omega), List.length_map, List.length_take, List.getElem?_drop]
  rw [show k + (k - min k xs.length) = k by omega, List.getElem?_eq_getElem h]
  rfl
theorem updL_set (b : Bool) (xs : List Tfind) (k : Nat) (h : k < xs.length) : (updL b xs k).set k (updT b xs[k]) = updL b xs (k + 1) := by
  unfold updL
  have hl : ((xs.take k).map (updT b)).length = k := by rw [List.length_map, List.length_take]; omega
  rw [List.set_append_right _ _ (by omega), hl, Nat.sub_self, List.take_succ_eq_append_getElem h, List.map_append, List.append_assoc]
  congr 1
  have hd : xs.drop k = xs[k] :: xs.drop (k + 1) := List.drop_eq_getElem_cons h
  rw [hd]
  rfl
theorem updL_next (xs : List Tfind) (k : Nat) (h : k < xs.length) : updL false xs (k + 1) = updL false xs k := by
  unfold updL
  rw [List.take_succ_eq_append_getElem h, List.map_append, List.append_assoc]
  congr 1
  rw [List.drop_eq_getElem_cons h]
  rfl
theorem updL_at1 (b : Bool) (xs : List Tfind) (k : Nat) (h : k < xs.length) : (updL b xs (k + 1)).getD k dTfind = updT b xs[k] := by
  rw [← updL_set b xs k h, List.getD_eq_getElem?_getD, List.getElem?_set_self (by rw [updL_len]; exact h)]
  rfl
theorem refexp_eq {l : List TFile} (hv : VL l) (h40 : l.length ≤ 40) {cwd : List UInt8} (hc : pathS cwd = true) {r : List TRun} (h1 : r.length ≤ 10) (h2 : szL r ≤ 80) (hb : (decide (((pcL r).filter wildT).length ≤ 2) || ((pcL r).filter upT).length == 0) = true) :
    ref20_Expand 100000 l cwd r = some (expS l mtF patF litF cwd r, 0) := by
  unfold ref20_Expand compF
  rw [ref_path _ cwd (by omega), Option.bind_some, hc, Bool.not_true, cond_false, rq2 (by omega) (by omega), Option.bind_some, refText_eq _ r (by omega) (by omega) (by omega)]
  have hcp := comp_pc r
  have hcl : (compL r).length = (pcL r).length := by have := congrArg List.length hcp; simpa using this
  have hpl : (partsOf patF litF r).length = (pcL r).length := by unfold partsOf; rw [List.length_map]
  have hps := (pc_sz (l := r)).1
  have hfl := field_len r
  simp only [Option.bind_some]
  have hst : ((cond (!(fieldOf r == [])) (rq (decide (0 < ((fieldOf r).length : Int))) (some ((((fieldOf r).getD 0 0).toNat : Int) == 47, ([(Tfind.mk cwd [])] : List Tfind)))) (some (false, ([(Tfind.mk cwd [])] : List Tfind))) : Option (Bool × (List Tfind))).bind fun x5 =>
      cond x5.1 (some ([(Tfind.mk ([47] : List UInt8) [])] : List Tfind)) (some x5.2) : Option (List Tfind)) = some (Fr0 l cwd r 0) := by
    show _ = some [Tfind.mk (startP cwd (fieldOf r)) []]
    unfold startP
    cases hf : fieldOf r with
    | nil => rfl
    | cons b n =>
      rw [show ((b :: n : List UInt8) == []) = false from rfl, Bool.not_false, cond_true, rq1 (by simp <;> omega), Option.bind_some]
      dsimp only
      rw [show (((b :: n : List UInt8).getD 0 0).toNat : Int) = (b.toNat : Int) from rfl, u8lit b 47 (by omega)]
      rw [show ((b :: n : List UInt8).take 1 == [47]) = (b == 47) by simp]
      cases (b == 47) <;> rfl
  rw [hst, Option.bind_some]
  have hwf : (partsOf patF litF r).take (partsOf patF litF r).length = partsOf patF litF r := List.take_length
  refine loopF_hoare (fun s : Bool × Int × List Tfind => ∃ i : Nat, s = (!((pcL r).take i).all litF, (i : Int), Fr0 l cwd r i) ∧ i ≤ (compL r).length) (fun s => (compL r).length - s.2.1.toNat) ?_ 100000 _ ⟨0, rfl, by omega⟩ (by simp; omega)
  rintro s ⟨i, rfl, hi⟩
  dsimp only
  by_cases hi : i < (compL r).length
  · left
    refine ⟨(!((pcL r).take (i + 1)).all litF, ((i + 1 : Nat) : Int), Fr0 l cwd r (i + 1)), ⟨i + 1, rfl, by omega⟩, by simp; omega, fun rc => ?_⟩
    have hip : i < (pcL r).length := by omega
    have hib : bits (compL r)[i] = bits (pcL r)[i] := by
      have h3 := congrArg (fun L => L[i]?) hcp
      simp only [List.getElem?_map, List.getElem?_eq_getElem hi, List.getElem?_eq_getElem hip, Option.map_some] at h3
      exact Option.some.inj h3
    have hcm := List.getElem_mem hi
    have htm := List.getElem_mem hip
    obtain ⟨q1, q2⟩ := comp_g r _ hcm
    have q3 := comp_cls r _ hcm
    have q4 := pc_len _ htm
    have q5 := (pc_sz (l := r)).2 _ htm
    have q6 := pc_cls r _ htm
    obtain ⟨sx, e1, e2⟩ := lit_doc (compL r)[i] (pcL r)[i] hib (by omega) (by omega) (by omega) (by omega)
    have hpi : (partsOf patF litF r)[i]'(by omega) = cmpP patF litF (pcL r)[i] := by unfold partsOf; rw [List.getElem_map]
    have hsp : (!((pcL r).take (i + 1)).all litF) = (!litF (pcL r)[i] || !((pcL r).take i).all litF) := by
      rw [List.take_succ_eq_append_getElem hip, List.all_append]
      simp only [List.all_cons, List.all_nil, Bool.and_true]
      cases litF (pcL r)[i] <;> cases ((pcL r).take i).all litF <;> rfl
    have hnx := Fr0_next l cwd r i (by omega)
    rw [hpi] at hnx
    have hFl : (Fr0 l cwd r i).length ≤ 1600 := by
      have := congrArg List.length (Fr0_text l cwd r i)
      rw [List.length_map, List.length_map] at this
      rw [this]
      exact W_take hv h40 hc r hb _ i
    have hFn : (Fr0 l cwd r (i + 1)).length ≤ 1600 := by
      have := congrArg List.length (Fr0_text l cwd r (i + 1))
      rw [List.length_map, List.length_map] at this
      rw [this]
      exact W_take hv h40 hc r hb _ (i + 1)
    have hFt : ∀ x ∈ Fr0 l cwd r i, x.ftext.length ≤ 10000 := by
      intro x hx
      have hm : x.ftext ∈ (Fr0 l cwd r i).map (fun y => y.ftext) := List.mem_map_of_mem hx
      rw [Fr0_text] at hm
      obtain ⟨w, hw, e⟩ := List.mem_map.1 hm
      rw [← e]
      exact Nat.le_trans (joinR_cost w) (take_cost hv h2 _ i w hw)
    rw [hsp, hnx]
    rw [hnx] at hFn
    generalize Fr0 l cwd r i = xs at hFl hFn hFt
    rw [ct (by omega), rq_ix hi, Int.toNat_natCast, gd hi, e1, Option.bind_some, e2, Option.bind_some, w64s (by omega)]
    have e3 : ((cond (!litF (pcL r)[i]) (some (true, xs)) (some (!((pcL r).take i).all litF, xs))) : Option (Bool × List Tfind)) = some (!litF (pcL r)[i] || !((pcL r).take i).all litF, xs) := by cases litF (pcL r)[i] <;> rfl
    rw [e3, Option.bind_some]
    dsimp only
    refine loopF_hoare (fun s : Int × List Tfind × List Tfind => ∃ k : Nat, s = ((k : Int), updL (decide (0 < i)) xs k, (xs.take k).flatMap (gstp l (cmpP patF litF (pcL r)[i]) (decide (0 < i)))) ∧ k ≤ xs.length) (fun s => xs.length - s.1.toNat) ?_ 100000 _ ⟨0, rfl, by omega⟩ (by simp; omega)
    rintro s ⟨k, rfl, hk⟩
    dsimp only
    by_cases hk : k < xs.length
    · left
      refine ⟨_, ⟨k + 1, rfl, by omega⟩, by simp; omega, fun rc2 => ?_⟩
      have hxk := hFt _ (List.getElem_mem hk)
      have hul := updL_len (decide (0 < i)) xs k
      have hu1 : (cond (decide (0 < (i : Int)))
          (rq ((decide (0 ≤ (k : Int))) && (decide ((k : Int) < ((updL (decide (0 < i)) xs k).length : Int)))) (rq (decide ((((updL (decide (0 < i)) xs k).getD (Int.toNat (k : Int)) dTfind).ftext).length + ([47] : List UInt8).length ≤ 9223372036854775807)) (rq ((decide (0 ≤ (k : Int))) && (decide ((k : Int) < ((updL (decide (0 < i)) xs k).length : Int))))
            (some ((updL (decide (0 < i)) xs k).set (Int.toNat (k : Int)) (Tfind.mk ((updL (decide (0 < i)) xs k).getD (Int.toNat (k : Int)) dTfind).fpath (((updL (decide (0 < i)) xs k).getD (Int.toNat (k : Int)) dTfind).ftext ++ ([47] : List UInt8))), (xs.take k).flatMap (gstp l (cmpP patF litF (pcL r)[i]) (decide (0 < i))))))))
          (some (updL (decide (0 < i)) xs k, (xs.take k).flatMap (gstp l (cmpP patF litF (pcL r)[i]) (decide (0 < i))))) : Option ((List Tfind) × (List Tfind))) = some (updL (decide (0 < i)) xs (k + 1), (xs.take k).flatMap (gstp l (cmpP patF litF (pcL r)[i]) (decide (0 < i)))) := by
        by_cases h0 : 0 < i
        · rw [ct (show (0 : Int) < (i : Int) by omega), rq2 (by omega) (by rw [hul]; omega), Int.toNat_natCast, updL_at _ _ _ hk, rq_str (by simp; omega), rq2 (by omega) (by rw [hul]; omega)]
          rw [← updL_set _ xs k hk, dT h0]
          rfl
        · rw [cf (show ¬ (0 : Int) < (i : Int) by omega), dF h0, updL_next xs k hk]
      have hul1 := updL_len (decide (0 < i)) xs (k + 1)
      have hgl : ((xs.take (k + 1)).flatMap (gstp l (cmpP patF litF (pcL r)[i]) (decide (0 < i)))).length ≤ 1600 := by
        refine Nat.le_trans ?_ hFn
        conv => rhs; rw [← List.take_append_drop (k + 1) xs]
        rw [List.flatMap_append, List.length_append]
        omega
      rw [List.take_succ_eq_append_getElem hk, List.flatMap_append, List.flatMap_cons, List.flatMap_nil, List.append_nil] at hgl ⊢
      rw [ct (by omega), hu1, Option.bind_some]
      dsimp only
      rw [rq2 (by omega) (by rw [hul1]; omega), Int.toNat_natCast, updL_at1 _ _ _ hk, updT_path, dir_eq _ l _ (by omega) (by omega), Option.bind_some, w64s (by omega)]
      unfold gstp at hgl ⊢
      cases hd : dirD l xs[k].fpath with
      | false => simp only [hd, cond_false, List.append_nil]
      | true =>
        rw [hd, cond_true] at hgl
        have hut : (updT (decide (0 < i)) xs[k]).ftext.length ≤ 1000000 := by
          cases decide (0 < i) with
          | false => show xs[k].ftext.length ≤ _; omega
          | true =>
            show (xs[k].ftext ++ [47]).length ≤ _
            rw [List.length_append]; simp; omega
        rw [cond_true, rq2 (by omega) (by rw [hul1]; omega), rq_ix hi, step_eq hv h40 hib (by omega) (by omega) (by omega) (by omega) q3 q6 _ (by rw [updT_path]; exact hd) hut, Option.bind_some]
        rw [rq_cap (by rw [List.length_append] at hgl; omega) (by omega), cond_true]
    · right
      obtain rfl : k = xs.length := by omega
      intro rc2
      rw [cf (by rw [updL_len]; omega), List.take_length]
  · right
    obtain rfl : i = (compL r).length := by omega
    intro rc
    have hFx : Fr0 l cwd r (compL r).length = runF l false (partsOf patF litF r) [Tfind.mk (startP cwd (fieldOf r)) []] := by
      unfold Fr0
      rw [hcl, ← hpl, List.take_length]
    have htx := Fr0_text l cwd r (compL r).length
    have hta : (partsOf patF litF r).take (compL r).length = partsOf patF litF r := by rw [hcl, ← hpl, List.take_length]
    have htp : (pcL r).take (compL r).length = pcL r := by rw [hcl, List.take_length]
    rw [hta] at htx
    have hWs := W_take hv h40 hc r hb (fieldOf r) (compL r).length
    rw [hta] at hWs
    have hFl : (Fr0 l cwd r (compL r).length).length = (W l mtF (partsOf patF litF r) (startP cwd (fieldOf r))).length := by
      have := congrArg List.length htx
      rwa [List.length_map, List.length_map] at this
    have hnd : ((W l mtF (partsOf patF litF r) (startP cwd (fieldOf r))).map joinR).Nodup := by
      have hne : pcL r ≠ [] := by unfold pcL; simp
      have hns : ∀ c ∈ partsOf patF litF r, noSl c.ftext := by
        intro c hcm
        obtain ⟨t, ht, rfl⟩ := List.mem_map.1 hcm
        exact pc_noSl r t ht
      refine inj_nodup (W_nodup hv _ _) fun a ha b hb2 e => ?_
      have hla := W_len _ _ a ha
      have hlb := W_len _ _ b hb2
      have hl0 : 0 < (partsOf patF litF r).length := by unfold partsOf; rw [List.length_map]; exact List.length_pos_iff.2 hne
      exact joinR_inj (by intro h; rw [h] at hla; simp at hla; omega) (by intro h; rw [h] at hlb; simp at hlb; omega) (W_noSl hv _ _ hns a ha) (W_noSl hv _ _ hns b hb2) e
    rw [cf (by omega), htp]
    unfold expS
    have hem : ((W l mtF (partsOf patF litF r) (startP cwd (fieldOf r))).isEmpty) = ((((Fr0 l cwd r (compL r).length).length : Int)) == 0) := by
      rw [hFl]
      cases W l mtF (partsOf patF litF r) (startP cwd (fieldOf r)) with
      | nil => rfl
      | cons a b => rw [beq_eq_false_iff_ne.2 (by simp; omega)]; rfl
    rw [hem]
    generalize Fr0 l cwd r (compL r).length = ys at htx hFl
    have e4 : (cond (!(!(pcL r).all litF)) (some (true, ys)) (some ((ys.length : Int) == 0, ys)) : Option (Bool × List Tfind)) = some ((pcL r).all litF || ((ys.length : Int) == 0), ys) := by
      cases (pcL r).all litF <;> rfl
    rw [e4, Option.bind_some]
    dsimp only
    cases ((pcL r).all litF || ((ys.length : Int) == 0)) with
    | true => rfl
    | false =>
      rw [cond_false, cond_false, ← htx]
      refine loopF_hoare (fun s : List (List UInt8) × Int × List Tfind => ∃ k : Nat, s = ((ys.take k).map (fun y => y.ftext), (k : Int), ys) ∧ k ≤ ys.length) (fun s => ys.length - s.2.1.toNat) ?_ 100000 _ ⟨0, rfl, by omega⟩ (by simp; omega)
      rintro s ⟨k, rfl, hk⟩
      dsimp only
      by_cases hk : k < ys.length
      · left
        refine ⟨_, ⟨k + 1, rfl, by omega⟩, by simp; omega, fun rc2 => ?_⟩
        rw [ct (by omega), rq_ix hk, Int.toNat_natCast, gd hk, rq_cap (by simp; omega) (by omega), w64s (by omega), List.take_succ_eq_append_getElem hk, List.map_append]
        rfl
      · right
        obtain rfl : k = ys.length := by omega
        intro rc2
        rw [cf (by omega), List.take_length, sorted_eq 100000 _ (by rw [htx]; exact hnd) (by rw [List.length_map]; omega) (by omega), Option.bind_some]
theorem pathnameExpands (a0 : List TFile) (a1 : List UInt8) (a2 : List TRun) (q2 : ∀ x ∈ a2, x.fText.length ≤ 140737488351232) : ∃ F, law20_PathnameExpands F a0 a1 a2 = some true := by
  refine ⟨100000, ?_⟩
  unfold law20_PathnameExpands
  obtain ⟨b, hb, e⟩ := lsmall (F := 100000) (l := a0) (cwd := a1) (r := a2) (P := a2.length ≤ 10 ∧ szL a2 ≤ 80) (P2 := (decide (((pcL a2).filter wildT).length ≤ 2) || ((pcL a2).filter upT).length == 0) = true) (by omega) (smallN _ _ (by omega) q2) (fun h => ⟨_, fun h => h, bounded_sem a2 (by omega) (by omega)⟩)
  rw [e, awake_ok]
  simp only [Option.bind_some]
  cases b with
  | false => rfl
  | true =>
    obtain ⟨h1, h2, ⟨h3, h4⟩, hv, hB⟩ := hb rfl
    rw [Bool.not_true, cond_false]
    have hsame : ∀ (A : List (List UInt8)) (n : Int), A.length ≤ 90000 → ((ref03_SameTexts 100000 A A).bind fun x6 => cond x6 (some (n == n)) (some false) : Option Bool) = some true := by
      intro A n hA
      have : ref03_SameTexts 100000 A A = some true := by
        unfold ref03_SameTexts
        rw [show ((A.length : Int) != (A.length : Int)) = false by simp, cond_false]
        refine loopF_hoare (fun x : Int => ∃ k : Nat, x = (k : Int) ∧ k ≤ A.length) (fun x => A.length - x.toNat) ?_ 100000 _ ⟨0, rfl, by omega⟩ (by simp; omega)
        rintro ii ⟨k, rfl, hk⟩
        by_cases hk : k < A.length
        · left
          refine ⟨_, ⟨k + 1, rfl, by omega⟩, by simp; omega, fun rc => ?_⟩
          rw [ct (by omega), rq_ix hk, rq_ix hk, beq_self_eq_true, Bool.not_true, cond_false, w64s (by omega)]
        · right
          intro rc
          rw [cf (by omega)]
      rw [this, Option.bind_some, cond_true, beq_self_eq_true]
    cases hp : pathS a1 with
    | false =>
      have e1 : pathname_Expand 100000 a0 a1 a2 = some ([], 10) := by
        unfold pathname_Expand
        rw [clean_eq 100000 a1 [47] (by omega) (by simp)]
        unfold cleanS
        rw [hp]
        rfl
      have e2 : ref20_Expand 100000 a0 a1 a2 = some ([], 10) := by
        unfold ref20_Expand
        rw [ref_path _ a1 (by omega), Option.bind_some, hp]
        rfl
      rw [e1, e2, Option.bind_some, Option.bind_some, hsame [] 10 (by simp)]
      rfl
    | true =>
      have hWs := W_small hv h1 hp a2 hB (fieldOf a2)
      have hAl : (expS a0 mtF patF litF a1 a2).length ≤ 1600 := by
        unfold expS
        cases ((pcL a2).all litF || (W a0 mtF (partsOf patF litF a2) (startP a1 (fieldOf a2))).isEmpty) with
        | true => simp
        | false => rw [cond_false, (sortK_perm _).length_eq, List.length_map]; exact hWs
      rw [expand_all hv hp (by omega) (by omega) (by omega), refexp_eq hv h1 hp h3 h4 hB, Option.bind_some, Option.bind_some]
      dsimp only
      rw [hsame _ 0 (by omega)]
      rfl
end Go.Proofs.YtmklhkmeampamaaGreatDoor
