/-
  Pathname, plain part 10: Expand for all runs; Enters.
-/
import Derived.Test.YtmklhkmeampamaaGreatDoorPx
import Derived.Test.YtmklhkmeampamaaGreatDoorPz
import Derived.Test.YtmklhkmeampamaaGreatDoorFt
namespace Go.Proofs.YtmklhkmeampamaaGreatDoor
open Go.RT
set_option linter.all false
set_option maxRecDepth 100000

/-! ### What the program makes of a piece -/
def patF (t : List TRun) : List TPatItem := (pattern_Compile 100000 t).getD []
def litF (t : List TRun) : Bool := ((pattern_Literal 100000 (patF t)).getD ([], false)).2
def mtF (p : List TPatItem) (n : List UInt8) : Bool := (pattern_Match 100000 p n).getD false
theorem patF_ok (t : List TRun) (h1 : t.length ≤ 1000) (h2 : szL t ≤ 1000) : pattern_Compile 100000 t = some (patF t) ∧ (∀ it ∈ patF t, ItOk it) ∧ (patF t).length ≤ 1000 := by
  obtain ⟨p, ⟨g1, g2⟩, h⟩ := compile_tot 100000 t (by omega) (by omega) (by omega) (by omega)
  unfold patF
  rw [h]
  exact ⟨rfl, g1, by show p.length ≤ _; omega⟩
theorem litF_ok (t : List TRun) (h1 : t.length ≤ 1000) (h2 : szL t ≤ 1000) : ∃ x, pattern_Literal 100000 (patF t) = some (x, litF t) := by
  obtain ⟨-, g1, g2⟩ := patF_ok t h1 h2
  obtain ⟨r, h⟩ := literal_tot 100000 (patF t) (by omega) (by omega) g1
  unfold litF
  rw [h]
  exact ⟨r.1, rfl⟩
theorem mtF_ok (t : List TRun) (h1 : t.length ≤ 1000) (h2 : szL t ≤ 1000) (n : List UInt8) (hn : n.length ≤ 1000) : pattern_Match 100000 (patF t) n = some (mtF (patF t) n) := by
  obtain ⟨-, g1, g2⟩ := patF_ok t h1 h2
  obtain ⟨r, h⟩ := match_tot 100000 (patF t) n (by omega) (by omega) (by omega) (by omega) g1
  unfold mtF
  rw [h]
  rfl
theorem expand_all {l : List TFile} {cwd : List UInt8} {r : List TRun} (hv : VL l) (hc : pathS cwd = true) (h1 : r.length ≤ 20) (h2 : szL r ≤ 250) (hW : (W l mtF (partsOf patF litF r) (startP cwd (fieldOf r))).length ≤ 1000000) : pathname_Expand 100000 l cwd r = some (expS l mtF patF litF cwd r, 0) := by
  have hsz : ∀ t ∈ pcL r, t.length ≤ 1000 ∧ szL t ≤ 1000 := fun t ht => ⟨by have := pc_len t ht; omega, by have := (pc_sz (l := r)).2 t ht; omega⟩
  exact expand_eq (by omega) hv hc h1 h2 (fun t ht => ⟨(patF_ok t (hsz t ht).1 (hsz t ht).2).1, litF_ok t (hsz t ht).1 (hsz t ht).2⟩) (fun t ht _ n hn => mtF_ok t (hsz t ht).1 (hsz t ht).2 n (by omega)) hW
theorem litF_q (p : List UInt8) (hp : p.length ≤ 80) : litF [TRun.mk p 1] = true := by
  obtain ⟨h1, ⟨x, h2⟩, -⟩ := pck_q 100000 p (by omega) hp
  unfold litF patF
  rw [h1]
  show ((pattern_Literal 100000 (patQ [TRun.mk p 1])).getD ([], false)).2 = true
  rw [h2]
  rfl
theorem chR_nil (c : Int) : chR (TRun.mk [] c) = [] := by unfold chR; cases clsB (TRun.mk [] c).fClass <;> rfl
theorem patF_nil (s : List UInt8) (hs : s.length ≤ 300) : patF [TRun.mk [] 1, TRun.mk s 0] = patF [TRun.mk s 0] := by
  have e1 : szL [TRun.mk [] 1, TRun.mk s 0] = s.length := by simp [szL]
  have e2 : szL [TRun.mk s 0] = s.length := by simp [szL]
  unfold patF pattern_Compile
  rw [chars_eq 100000 [TRun.mk [] 1, TRun.mk s 0] (by simp) (by omega) (by simp) (by omega), chars_eq 100000 [TRun.mk s 0] (by simp) (by omega) (by simp) (by omega)]
  rw [List.flatMap_cons, chR_nil, List.nil_append]

/-! ### The document's components, in general -/
def GI (n : Nat) (o : List (List TRun) × List TRun) : Prop := (∀ c ∈ o.1, (∀ r ∈ c, r.fText.length = 1) ∧ c.length ≤ n) ∧ (∀ r ∈ o.2, r.fText.length = 1) ∧ o.2.length ≤ n
theorem GI.up {n m : Nat} {o : List (List TRun) × List TRun} (h : GI n o) (hm : n ≤ m) : GI m o := ⟨fun c hc => ⟨(h.1 c hc).1, by have := (h.1 c hc).2; omega⟩, h.2.1, by have := h.2.2; omega⟩
theorem GI_foldB (cl : Int) : ∀ (t : List UInt8) (n : Nat) (o : List (List TRun) × List TRun), GI n o → GI (n + t.length) (t.foldl (stepB cl) o)
  | [], n, o, h => h
  | b :: t, n, o, h => by
    have h2 : GI (n + 1) (stepB cl o b) := by
      obtain ⟨h1, h2, h3⟩ := h
      unfold stepB
      cases (b == 47)
      · refine ⟨fun c hc => ⟨(h1 c hc).1, by have := (h1 c hc).2; omega⟩, fun r hr => ?_, by simp; omega⟩
        rcases List.mem_append.1 hr with hr | hr
        · exact h2 r hr
        · obtain rfl := List.mem_singleton.1 hr; rfl
      · refine ⟨fun c hc => ?_, fun r hr => (by cases hr), by simp⟩
        rcases List.mem_append.1 hc with hc | hc
        · exact ⟨(h1 c hc).1, by have := (h1 c hc).2; omega⟩
        · obtain rfl := List.mem_singleton.1 hc; exact ⟨h2, by omega⟩
    have := GI_foldB cl t (n + 1) _ h2
    rwa [show n + 1 + t.length = n + (b :: t).length by simp; omega] at this
theorem GI_F : ∀ (l : List TRun) (n : Nat) (o : List (List TRun) × List TRun), GI n o → GI (n + szL l) (l.foldl stepR o)
  | [], n, o, h => h
  | r :: l, n, o, h => by
    have h2 : GI (n + r.fText.length) (stepR o r) := by
      unfold stepR
      cases (r.fClass != 0 && (r.fClass != 1 && r.fClass != 2))
      · exact GI_foldB _ _ _ _ h
      · exact h.up (by omega)
    have := GI_F l _ _ h2
    rwa [show n + r.fText.length + szL l = n + szL (r :: l) by simp [szL]; omega] at this
theorem comp_g (l : List TRun) : ∀ c ∈ compL l, szL c = c.length ∧ c.length ≤ szL l := by
  have h := GI_F l 0 ([], []) ⟨fun c hc => (by cases hc), fun r hr => (by cases hr), by simp⟩
  rw [Nat.zero_add] at h
  intro c hc
  rcases List.mem_append.1 hc with hc | hc
  · exact ⟨szL_q (h.1 c hc).1, (h.1 c hc).2⟩
  · obtain rfl := List.mem_singleton.1 hc; exact ⟨szL_q h.2.1, h.2.2⟩
theorem refcl_tot (c : List TRun) (h1 : c.length ≤ 1000) (h2 : szL c ≤ 1000) : ∃ p x, ref04_Compile 100000 c = some p ∧ ref04_Literal 100000 p = some x := by
  obtain ⟨p, ⟨g1, g2⟩, h⟩ := rcompile_tot 100000 c (by omega) (by omega) (by omega) (by omega)
  obtain ⟨x, hx⟩ := rliteral_tot 100000 p (by omega) (by omega) g1
  exact ⟨p, x, h, hx⟩
theorem bounded_g (r : List TRun) (h1 : r.length ≤ 100) (h2 : szL r ≤ 300) : ∃ b, (b = true → True) ∧ ref20_Bounded 100000 r = some b := by
  have hcl := comp_len r
  exact bounded_of (by omega) (by omega) (by omega) (by omega) fun c hc => by
    have := comp_g r c hc
    exact refcl_tot c (by omega) (by omega)

/-! ### A directory prefix -/
theorem dir_pre {l : List TFile} (hv : VL l) {n done rest : List (List UInt8)} (hn : Names n) (hd : dirD l (pathOf n) = true) (e : n = done ++ rest) : dirD l (pathOf done) = true := by
  have hV := hv.tree
  cases rest with
  | nil => rw [List.append_nil] at e; rw [← e]; exact hd
  | cons c r =>
    unfold dirD at hd
    cases hf : findS l (pathOf n) with
    | none => rw [hf] at hd; cases hd
    | some f =>
      obtain ⟨h1, h2⟩ := find_path hf
      have hdn : Names done := fun x hx => hn x (by rw [e]; simp [hx])
      have hp := hv.path f h1
      rw [h2] at hp
      obtain ⟨p, hp1, hp2, hp3, -⟩ := hV.above (a := pathOf done) (by
        have hl2 : (pathOf n).length ≤ 128 := by rw [← h2]; exact hv.small f h1
        refine pathS_of hdn ?_
        have : (pathOf done).length ≤ (pathOf n).length := by
          rw [e]
          unfold pathOf
          have hj : ∀ (a b : List (List UInt8)), (joinR a).length ≤ (joinR (a ++ b)).length := by
            intro a
            induction a with
            | nil => intro b; simp [joinR]
            | cons x a ih =>
              intro b
              cases a with
              | nil =>
                cases b with
                | nil => simp
                | cons y b => simp [joinR]
              | cons z a =>
                have := ih b
                simp only [List.cons_append, joinR, List.length_append, List.length_cons] at this ⊢
                omega
          have := hj done (c :: r)
          simp only [List.length_append]
          omega
        omega) h1 (by rw [h2]; exact (above_names hdn hn).2 ⟨c, r, e⟩)
      unfold dirD
      rw [← hp2, find_of_asc hv.asc hp1]
      exact hp3
theorem joinP_path {d : List (List UInt8)} (hd : Names d) (c : List UInt8) : joinP (pathOf d) c = pathOf (d ++ [c]) := by
  rw [pathOf_snoc hd]
  unfold joinP
  cases h : (pathOf d == [47]) <;> simp
def cQ (p : List UInt8) : Tcomponent := cmpP patF litF [TRun.mk p 1]
theorem W_dir {l : List TFile} (hv : VL l) {n : List (List UInt8)} (hn : Names n) (hd : dirD l (pathOf n) = true) (cs : List Tcomponent) : ∀ (rest done : List (List UInt8)), n = done ++ rest → W l mtF (rest.map cQ ++ cs) (pathOf done) = (W l mtF cs (pathOf n)).map (rest ++ ·)
  | [], done, e => by
    rw [List.append_nil] at e
    subst e
    simp
  | c :: rest, done, e => by
    have hc : nameS c = true := hn c (by rw [e]; simp)
    have hdn : Names done := fun x hx => hn x (by rw [e]; simp [hx])
    have e2 : n = (done ++ [c]) ++ rest := by rw [e]; simp
    have h1 := dir_pre hv hn hd e
    have h2 := dir_pre hv hn hd e2
    obtain ⟨q1, q2, q3⟩ := name_dots hc
    have ht : (cQ c).ftext = c := txt_one c 1
    have hl : (cQ c).fliteral = true := litF_q c (by have := name_len hc; omega)
    rw [List.map_cons, List.cons_append, W_cons, h1, hl, ht, q1, q2, q3, joinP_path hdn]
    have hs : (findS l (pathOf (done ++ [c]))).isNone = false := by
      unfold dirD at h2
      cases hf : findS l (pathOf (done ++ [c])) with
      | none => rw [hf] at h2; cases h2
      | some f => rfl
    rw [hs, W_dir hv hn hd cs rest (done ++ [c]) e2]
    simp only [Bool.not_true, cond_false, Bool.or_self, List.map_map]
    rfl
theorem pcL_two (a s : List UInt8) (hs : noSl s) : pcL [TRun.mk (a ++ [47]) 1, TRun.mk s 0] = (partsS a).map (fun p => [TRun.mk p 1]) ++ [[TRun.mk [] 1, TRun.mk s 0]] := by
  have h1 : ∀ a : List UInt8, partsS (a ++ [47]) = partsS a ++ [[]] := by
    intro a
    induction a with
    | nil => rfl
    | cons b a ih =>
      rw [List.cons_append]
      unfold partsS
      rw [ih]
      cases (b == 47)
      · simp only [cond_false]
        cases h : partsS a with
        | nil => exact absurd h (parts_ne a)
        | cons p ps => rfl
      · rfl
  unfold pcL pcO
  rw [List.foldl_cons, List.foldl_cons, List.foldl_nil]
  have h2 : pcR ([], []) (TRun.mk (a ++ [47]) 1) = ((partsS a).map (fun p => [TRun.mk p 1]), [TRun.mk [] 1]) := by
    have h3 := pcL_one (a ++ [47]) 1 rfl
    rw [h1, List.map_append] at h3
    have h4 : pcL [TRun.mk (a ++ [47]) 1] = (pcR ([], []) (TRun.mk (a ++ [47]) 1)).1 ++ [(pcR ([], []) (TRun.mk (a ++ [47]) 1)).2] := rfl
    rw [h4] at h3
    obtain ⟨g1, g2⟩ := List.append_inj' h3 rfl
    exact Prod.ext g1 (List.singleton_inj.1 g2)
  rw [h2]
  have h5 : ∀ o, pcR o (TRun.mk s 0) = pcP 0 o (partsS s) := fun o => rfl
  rw [h5, parts_noSl s hs]
  rfl
theorem W_one (l : List TFile) (c : Tcomponent) (hl : c.fliteral = false) (p : List UInt8) : W l mtF [c] p = (cond (dirD l p) ((kidsL l p).filter (keepN mtF c)) []).map fun n => [n] := by
  rw [W_cons, hl]
  cases dirD l p with
  | false => rfl
  | true =>
    show (((kidsL l p).filter (keepN mtF c)).flatMap fun n => [[n]]) = _
    rw [flat_one]
    rfl
theorem expS_dir {l : List TFile} (hv : VL l) {n : List (List UInt8)} (hn : Names n) (hne : n ≠ []) (hd : dirD l (pathOf n) = true) {s : List UInt8} (hs : noSl s) (hs80 : s.length ≤ 80) :
    expS l mtF patF litF [47] [TRun.mk (pathOf n ++ [47]) 1, TRun.mk s 0] = (expS l mtF patF litF (pathOf n) [TRun.mk s 0]).map ((pathOf n ++ [47]) ++ ·) ∧
    (W l mtF (partsOf patF litF [TRun.mk (pathOf n ++ [47]) 1, TRun.mk s 0]) (startP [47] (fieldOf [TRun.mk (pathOf n ++ [47]) 1, TRun.mk s 0]))).length ≤ 128 ∧ (W l mtF (partsOf patF litF [TRun.mk s 0]) (startP (pathOf n) (fieldOf [TRun.mk s 0]))).length ≤ 128 := by
  have hp1 : pcL [TRun.mk s 0] = [[TRun.mk s 0]] := by rw [pcL_one s 0 rfl, parts_noSl s hs]; rfl
  have hpn : partsS (pathOf n) = [] :: n := by
    show partsS (47 :: joinR n) = _
    rw [partsS]
    show [] :: partsS (joinR n) = _
    rw [parts_join n hne fun c hc => name_noSl (hn c hc)]
  have hp2 : pcL [TRun.mk (pathOf n ++ [47]) 1, TRun.mk s 0] = ([] :: n).map (fun p => [TRun.mk p 1]) ++ [[TRun.mk [] 1, TRun.mk s 0]] := by rw [pcL_two _ s hs, hpn]
  have hf1 : fieldOf [TRun.mk s 0] = s := by unfold fieldOf; rw [hp1]; exact txt_one s 0
  have htx : (([] :: n).map (fun p => [TRun.mk p 1])).map txt = [] :: n := by
    rw [List.map_map]
    conv => rhs; rw [← List.map_id ([] :: n)]
    exact List.map_congr_left fun p _ => txt_one p 1
  have hjn : joinR ([] :: n) = pathOf n := by rw [joinR_cons [] hne]; rfl
  have hf2 : fieldOf [TRun.mk (pathOf n ++ [47]) 1, TRun.mk s 0] = (pathOf n ++ [47]) ++ s := by
    unfold fieldOf
    rw [hp2, List.map_append, htx]
    show joinR (([] :: n) ++ [txt [TRun.mk [] 1, TRun.mk s 0]]) = _
    rw [joinR_snoc _ _ (by simp), hjn, show txt [TRun.mk [] 1, TRun.mk s 0] = s by simp [txt]]
    simp
  have hst1 : startP (pathOf n) s = pathOf n := by
    unfold startP
    cases s with
    | nil => rfl
    | cons b s =>
      have : b ≠ 47 := hs b (by simp)
      have e : ((b :: s).take 1 == [47]) = false := by simp [this]
      rw [e]; rfl
  have hst2 : ∀ x, startP [47] x = [47] := fun x => by unfold startP; cases (List.take 1 x == [47]) <;> rfl
  have hcc : cmpP patF litF [TRun.mk [] 1, TRun.mk s 0] = cmpP patF litF [TRun.mk s 0] := by
    have e1 := patF_nil s (by omega)
    unfold cmpP
    rw [e1, show txt [TRun.mk [] 1, TRun.mk s 0] = txt [TRun.mk s 0] by simp [txt], show litF [TRun.mk [] 1, TRun.mk s 0] = litF [TRun.mk s 0] by unfold litF; rw [e1]]
  have hP1 : partsOf patF litF [TRun.mk s 0] = [cmpP patF litF [TRun.mk s 0]] := by unfold partsOf; rw [hp1]; rfl
  have hP2 : partsOf patF litF [TRun.mk (pathOf n ++ [47]) 1, TRun.mk s 0] = cQ [] :: (n.map cQ ++ [cmpP patF litF [TRun.mk s 0]]) := by
    unfold partsOf
    rw [hp2, List.map_append, List.map_map, ← hcc]
    rfl
  have hroot : dirD l (pathOf []) = true := dir_pre hv hn hd rfl
  have hW2 : W l mtF (cQ [] :: (n.map cQ ++ [cmpP patF litF [TRun.mk s 0]])) [47] = (W l mtF [cmpP patF litF [TRun.mk s 0]] (pathOf n)).map (([] :: n) ++ ·) := by
    have hl : (cQ []).fliteral = true := litF_q [] (by simp)
    have ht : (cQ []).ftext = [] := rfl
    rw [W_cons, show dirD l [47] = true from hroot, hl, ht]
    show (W l mtF (n.map cQ ++ _) (pathOf [])).map _ = _
    rw [W_dir hv hn hd _ n [] rfl, List.map_map]
    rfl
  have hall : (pcL [TRun.mk (pathOf n ++ [47]) 1, TRun.mk s 0]).all litF = litF [TRun.mk s 0] := by
    rw [hp2, List.all_append]
    have e1 : (([] :: n).map fun p => [TRun.mk p 1]).all litF = true := by
      rw [List.all_eq_true]
      intro t ht
      obtain ⟨p, hp, rfl⟩ := List.mem_map.1 ht
      refine litF_q p ?_
      rcases List.mem_cons.1 hp with rfl | hp
      · simp
      · have := name_len (hn p hp); omega
    rw [e1, Bool.true_and]
    show (litF [TRun.mk [] 1, TRun.mk s 0] && true) = _
    rw [Bool.and_true]
    unfold litF
    rw [patF_nil s (by omega)]
  have hkl : ∀ c : Tcomponent, c.fliteral = false → (W l mtF [c] (pathOf n)).length ≤ 128 := by
    intro c hc
    rw [W_one l c hc, hd, cond_true, List.length_map]
    have h1 := List.length_filter_le (keepN mtF c) (kidsL l (pathOf n))
    have h2 : (kidsL l (pathOf n)).length ≤ l.length := by unfold kidsL; rw [List.length_map]; exact List.length_filter_le _ _
    have := hv.len
    omega
  have hkl2 : (W l mtF [cmpP patF litF [TRun.mk s 0]] (pathOf n)).length ≤ 128 := by
    cases hL : litF [TRun.mk s 0] with
    | false => exact hkl _ hL
    | true =>
      have hl2 : (cmpP patF litF [TRun.mk s 0]).fliteral = true := hL
      rw [W_cons, hl2]
      cases dirD l (pathOf n) <;> cases ((cmpP patF litF [TRun.mk s 0]).ftext == [] || (cmpP patF litF [TRun.mk s 0]).ftext == [46]) <;> cases ((cmpP patF litF [TRun.mk s 0]).ftext == [46, 46]) <;> cases (findS l (joinP (pathOf n) (cmpP patF litF [TRun.mk s 0]).ftext)).isNone <;> simp [W]
  refine ⟨?_, ?_, ?_⟩
  · unfold expS
    rw [hall, hf1, hf2, hst1, hst2, hP1, hP2, hW2, hp1]
    show _ = List.map _ (cond ((litF [TRun.mk s 0] && true) || _) _ _)
    rw [Bool.and_true, List.isEmpty_map]
    cases hL : litF [TRun.mk s 0] with
    | true => rfl
    | false =>
      rw [Bool.false_or]
      cases hE : (W l mtF [cmpP patF litF [TRun.mk s 0]] (pathOf n)).isEmpty with
      | true => rfl
      | false =>
        rw [cond_false, cond_false, W_one l _ hL, hd, cond_true, List.map_map, List.map_map, List.map_map]
        have hK : ((kidsL l (pathOf n)).filter (keepN mtF (cmpP patF litF [TRun.mk s 0]))).Pairwise (· < ·) := (kids_asc hv _).filter _
        generalize (kidsL l (pathOf n)).filter (keepN mtF (cmpP patF litF [TRun.mk s 0])) = K at hK
        have e1 : ((joinR ∘ (([] :: n) ++ ·)) ∘ fun k => [k]) = fun k => (pathOf n ++ [47]) ++ k := by
          funext k
          show joinR (([] :: n) ++ [k]) = _
          rw [joinR_snoc _ _ (by simp), hjn]
          simp
        have e2 : (joinR ∘ fun k : List UInt8 => [k]) = id := rfl
        rw [e1, e2, List.map_id, sortK_id hK, sortK_id]
        rw [List.pairwise_map]
        exact hK.imp fun {a b} hab => (app_lt _ _ _).2 hab
  · rw [hP2, hst2, hW2, List.length_map]; exact hkl2
  · rw [hP1, hf1, hst1]; exact hkl2
end Go.Proofs.YtmklhkmeampamaaGreatDoor
