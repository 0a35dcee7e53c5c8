import Derived.Test.YtmklhkmeampamaaGreatDoorPe
namespace Go.Proofs.YtmklhkmeampamaaGreatDoor
open Go.RT
set_option linter.all false
set_option maxRecDepth 100000
theorem joinR_inj {a b : List (List UInt8)} (ha : a ≠ []) (hb : b ≠ []) (h1 : ∀ c ∈ a, noSl c) (h2 : ∀ c ∈ b, noSl c) (e : joinR a = joinR b) : a = b := by
  rw [← parts_join a ha h1, ← parts_join b hb h2, e]
theorem parts_mem_noSl : ∀ (s : List UInt8), ∀ p ∈ partsS s, noSl p
  | [], p, hp => by
    obtain rfl := List.mem_singleton.1 (show p ∈ [([] : List UInt8)] from hp)
    intro b hb; cases hb
  | b :: l, p, hp => by
    have ih := parts_mem_noSl l
    have hne := parts_ne l
    unfold partsS at hp
    cases hb : (b == 47) with
    | true =>
      rw [hb, cond_true] at hp
      rcases List.mem_cons.1 hp with rfl | hp
      · intro x hx; cases hx
      · exact ih p hp
    | false =>
      rw [hb, cond_false] at hp
      cases h : partsS l with
      | nil => exact absurd h hne
      | cons q qs =>
        rw [h] at hp
        rcases List.mem_cons.1 hp with rfl | hp
        · intro x hx
          rcases List.mem_cons.1 hx with rfl | hx
          · simpa using hb
          · exact ih q (by rw [h]; simp) x hx
        · exact ih p (by rw [h]; simp [hp])
def NoS (o : List (List TRun) × List TRun) : Prop := (∀ c ∈ o.1, noSl (txt c)) ∧ noSl (txt o.2)
theorem txt_app (a b : List TRun) : txt (a ++ b) = txt a ++ txt b := by unfold txt; rw [List.flatMap_append]
theorem noSl_app {a b : List UInt8} (ha : noSl a) (hb : noSl b) : noSl (a ++ b) := fun x hx => by
  rcases List.mem_append.1 hx with h | h
  · exact ha x h
  · exact hb x h
theorem NoS_Q (c : Int) : ∀ (ps : List (List UInt8)) (o : List (List TRun) × List TRun), (∀ p ∈ ps, noSl p) → NoS o → NoS (ps.foldl (pcQ c) o)
  | [], o, _, h => h
  | q :: ps, o, hp, h => NoS_Q c ps _ (fun p hq => hp p (by simp [hq])) ⟨fun x hx => by
      rcases List.mem_append.1 hx with hx | hx
      · exact h.1 x hx
      · obtain rfl := List.mem_singleton.1 hx; exact h.2, by
      show noSl (txt [TRun.mk q c])
      rw [txt_one]
      exact hp q (by simp)⟩
theorem NoS_F : ∀ (l : List TRun) (o : List (List TRun) × List TRun), NoS o → NoS (l.foldl pcR o)
  | [], o, h => h
  | r :: l, o, h => NoS_F l _ (by
    unfold pcR
    cases clsB r.fClass
    · rw [cond_false]
      have hps := parts_mem_noSl r.fText
      cases hp : partsS r.fText with
      | nil => exact absurd hp (parts_ne _)
      | cons p ps =>
        rw [hp] at hps
        refine NoS_Q r.fClass ps (o.1, o.2 ++ [TRun.mk p r.fClass]) (fun q hq => hps q (by simp [hq])) ⟨h.1, ?_⟩
        show noSl (txt (o.2 ++ [TRun.mk p r.fClass]))
        rw [txt_app, txt_one]
        exact noSl_app h.2 (hps p (by simp))
    · exact h)
theorem pc_noSl (l : List TRun) : ∀ t ∈ pcL l, noSl (txt t) := by
  have h := NoS_F l ([], []) ⟨fun c hc => (by cases hc), fun x hx => (by cases hx)⟩
  intro t ht
  rcases List.mem_append.1 ht with ht | ht
  · exact h.1 t ht
  · obtain rfl := List.mem_singleton.1 ht; exact h.2
section
variable {l : List TFile} {mt : List TPatItem → List UInt8 → Bool}
theorem W_noSl (hv : VL l) : ∀ (cs : List Tcomponent) (p : List UInt8), (∀ c ∈ cs, noSl c.ftext) → ∀ w ∈ W l mt cs p, ∀ n ∈ w, noSl n
  | [], p, _, w, hw, n, hn => by
    obtain rfl := List.mem_singleton.1 (show w ∈ [([] : List (List UInt8))] from hw)
    cases hn
  | c :: cs, p, hc, w, hw, n, hn => by
    have ih := W_noSl hv cs
    have hcs : ∀ c ∈ cs, noSl c.ftext := fun x hx => hc x (by simp [hx])
    have hct := hc c (by simp)
    have hone : ∀ q, w ∈ (W l mt cs q).map (c.ftext :: ·) → noSl n := by
      intro q hq
      obtain ⟨w', hw', rfl⟩ := List.mem_map.1 hq
      rcases List.mem_cons.1 hn with rfl | hn
      · exact hct
      · exact ih q hcs w' hw' n hn
    rw [W_cons] at hw
    cases h1 : (!dirD l p) <;> rw [h1] at hw
    · cases h2 : (!c.fliteral) <;> rw [h2] at hw
      · cases h3 : (c.ftext == [] || c.ftext == [46]) <;> rw [h3] at hw
        · cases h4 : (c.ftext == [46, 46]) <;> rw [h4] at hw
          · cases h5 : (findS l (joinP p c.ftext)).isNone <;> rw [h5] at hw
            · exact hone _ hw
            · cases hw
          · exact hone _ hw
        · exact hone _ hw
      · obtain ⟨k, hk, hw⟩ := List.mem_flatMap.1 (show w ∈ ((kidsL l p).filter (keepN mt c)).flatMap _ from hw)
        obtain ⟨w', hw', rfl⟩ := List.mem_map.1 hw
        rcases List.mem_cons.1 hn with rfl | hn
        · exact name_noSl (kid_len hv (List.mem_filter.1 hk).1).1
        · exact ih _ hcs w' hw' n hn
    · cases hw
theorem W_len : ∀ (cs : List Tcomponent) (p : List UInt8), ∀ w ∈ W l mt cs p, w.length = cs.length
  | [], p, w, hw => by
    obtain rfl := List.mem_singleton.1 (show w ∈ [([] : List (List UInt8))] from hw)
    rfl
  | c :: cs, p, w, hw => by
    have ih := W_len cs
    have hone : ∀ q (x : List UInt8), w ∈ (W l mt cs q).map (x :: ·) → w.length = (c :: cs).length := by
      intro q x hq
      obtain ⟨w', hw', rfl⟩ := List.mem_map.1 hq
      rw [List.length_cons, List.length_cons, ih q w' hw']
    rw [W_cons] at hw
    cases h1 : (!dirD l p) <;> rw [h1] at hw
    · cases h2 : (!c.fliteral) <;> rw [h2] at hw
      · cases h3 : (c.ftext == [] || c.ftext == [46]) <;> rw [h3] at hw
        · cases h4 : (c.ftext == [46, 46]) <;> rw [h4] at hw
          · cases h5 : (findS l (joinP p c.ftext)).isNone <;> rw [h5] at hw
            · exact hone _ _ hw
            · cases hw
          · exact hone _ _ hw
        · exact hone _ _ hw
      · obtain ⟨k, hk, hw⟩ := List.mem_flatMap.1 (show w ∈ ((kidsL l p).filter (keepN mt c)).flatMap _ from hw)
        exact hone _ _ hw
    · cases hw
theorem map_cons_nodup {x : List UInt8} {L : List (List (List UInt8))} (h : L.Nodup) : (L.map (x :: ·)).Nodup := by
  unfold List.Nodup at *
  rw [List.pairwise_map]
  exact h.imp fun {a b} hab e => hab (List.cons.inj e).2
theorem flat_nodup {f : List UInt8 → List (List (List UInt8))} : ∀ {K : List (List UInt8)}, K.Nodup → (∀ k, (f k).Nodup) → (K.flatMap fun n => (f n).map (n :: ·)).Nodup
  | [], _, _ => List.nodup_nil
  | k :: K, hK, hf => by
    obtain ⟨h1, h2⟩ := List.nodup_cons.1 hK
    rw [List.flatMap_cons, List.nodup_append]
    refine ⟨map_cons_nodup (hf k), flat_nodup h2 hf, fun a ha b hb e => ?_⟩
    subst e
    obtain ⟨a', -, rfl⟩ := List.mem_map.1 ha
    obtain ⟨k', hk', hb⟩ := List.mem_flatMap.1 hb
    obtain ⟨b', -, e⟩ := List.mem_map.1 hb
    exact h1 ((List.cons.inj e).1 ▸ hk')
theorem W_nodup (hv : VL l) : ∀ (cs : List Tcomponent) (p : List UInt8), (W l mt cs p).Nodup
  | [], p => by show [([] : List (List UInt8))].Nodup; simp
  | c :: cs, p => by
    have ih := W_nodup hv cs
    rw [W_cons]
    cases (!dirD l p)
    · cases (!c.fliteral)
      · cases (c.ftext == [] || c.ftext == [46])
        · cases (c.ftext == [46, 46])
          · cases (findS l (joinP p c.ftext)).isNone
            · exact map_cons_nodup (ih _)
            · exact List.nodup_nil
          · exact map_cons_nodup (ih _)
        · exact map_cons_nodup (ih _)
      · have hK : (kidsL l p).Nodup := (kids_asc hv p).imp fun {a b} hab e => by subst e; exact lt_irrefl' _ hab
        exact flat_nodup (hK.filter _) fun k => ih _
    · exact List.nodup_nil
theorem inj_nodup {f : List (List UInt8) → List UInt8} : ∀ {L : List (List (List UInt8))}, L.Nodup → (∀ a ∈ L, ∀ b ∈ L, f a = f b → a = b) → (L.map f).Nodup
  | [], _, _ => List.nodup_nil
  | a :: L, h, hi => by
    obtain ⟨h1, h2⟩ := List.nodup_cons.1 h
    rw [List.map_cons, List.nodup_cons]
    refine ⟨fun hm => ?_, inj_nodup h2 fun x hx y hy => hi x (by simp [hx]) y (by simp [hy])⟩
    obtain ⟨b, hb, e⟩ := List.mem_map.1 hm
    have := hi a (by simp) b (by simp [hb]) e.symm
    exact h1 (this ▸ hb)
theorem W_count : ∀ (cs : List Tcomponent) (p : List UInt8), (W l mt cs p).length ≤ l.length ^ (cs.filter fun c => !c.fliteral).length ∨ l.length = 0
  | [], p => .inl (by simp [W])
  | c :: cs, p => by
    by_cases h0 : l.length = 0
    · exact .inr h0
    have ih : ∀ q, (W l mt cs q).length ≤ l.length ^ (cs.filter fun c => !c.fliteral).length := fun q => (W_count cs q).resolve_right h0
    left
    rw [W_cons]
    cases hd : (!dirD l p)
    · cases hl : (!c.fliteral)
      · have hf : ((c :: cs).filter fun c => !c.fliteral) = cs.filter fun c => !c.fliteral := by rw [List.filter_cons, hl]; rfl
        rw [hf]
        cases (c.ftext == [] || c.ftext == [46])
        · cases (c.ftext == [46, 46])
          · cases (findS l (joinP p c.ftext)).isNone
            · show ((W l mt cs _).map _).length ≤ _; rw [List.length_map]; exact ih _
            · exact Nat.zero_le _
          · show ((W l mt cs _).map _).length ≤ _; rw [List.length_map]; exact ih _
        · show ((W l mt cs _).map _).length ≤ _; rw [List.length_map]; exact ih _
      · have hf : ((c :: cs).filter fun c => !c.fliteral) = c :: cs.filter fun c => !c.fliteral := by rw [List.filter_cons, hl]; rfl
        rw [hf, List.length_cons, Nat.pow_succ]
        show (((kidsL l p).filter (keepN mt c)).flatMap fun n => (W l mt cs (joinP p n)).map (n :: ·)).length ≤ _
        have h1 := flat_le (fun n => (W l mt cs (joinP p n)).map (n :: ·)) (l.length ^ (cs.filter fun c => !c.fliteral).length) (fun n => by rw [List.length_map]; exact ih _) ((kidsL l p).filter (keepN mt c))
        refine Nat.le_trans h1 (Nat.mul_le_mul_left _ ?_)
        refine Nat.le_trans (List.length_filter_le _ _) ?_
        unfold kidsL
        rw [List.length_map]
        exact List.length_filter_le _ _
    · exact Nat.zero_le _
end
end Go.Proofs.YtmklhkmeampamaaGreatDoor
namespace Go.Proofs.YtmklhkmeampamaaGreatDoor
open Go.RT
set_option linter.all false
set_option maxRecDepth 100000
section
variable {l : List TFile} {mt : List TPatItem → List UInt8 → Bool}
theorem dirD_some {p : List UInt8} (h : dirD l p = true) : (findS l p).isSome = true := by
  unfold dirD at h
  cases hf : findS l p with
  | none => rw [hf] at h; cases h
  | some f => rfl
theorem kid_there (hv : VL l) {p k : List UInt8} (h : k ∈ kidsL l p) : (findS l (joinP p k)).isSome = true := by
  unfold kidsL at h
  obtain ⟨f, hf, rfl⟩ := List.mem_map.1 h
  rw [List.mem_filter] at hf
  have hk := hf.2
  unfold kidS at hk
  simp only [Bool.and_eq_true, Bool.not_eq_true', beq_iff_eq] at hk
  obtain ⟨-, c, -, -, -, -, e1, e2, -⟩ := path_snoc (hv.path f hf.1) hk.1
  have e3 : joinP p (baseS f.fPath) = f.fPath := by
    rw [e1]
    conv => rhs; rw [e2, hk.2]
    unfold joinP preS
    cases (p == [47]) <;> simp
  rw [e3, find_of_asc hv.asc hf.1]
  rfl
theorem lit_name (hv : VL l) {ns : List (List UInt8)} (hn : Names ns) {c : List UInt8} (hc : noSl c) (hne : c ≠ []) (h : (findS l (joinP (pathOf ns) c)).isSome = true) : nameS c = true := by
  cases hf : findS l (joinP (pathOf ns) c) with
  | none => rw [hf] at h; cases h
  | some f =>
    obtain ⟨-, hps, -⟩ := find_dir hv hf
    rw [joinP_path hn] at hps
    have hns : ∀ x ∈ ns ++ [c], noSl x := by
      intro x hx
      rcases List.mem_append.1 hx with hx | hx
      · exact name_noSl (hn x hx)
      · obtain rfl := List.mem_singleton.1 hx; exact hc
    have hpj : partsS ((pathOf (ns ++ [c])).drop 1) = ns ++ [c] := parts_join (ns ++ [c]) (by simp) hns
    have hr : (pathOf (ns ++ [c]) == [47]) = false := by
      cases hb : (pathOf (ns ++ [c]) == [47]) with
      | false => rfl
      | true =>
        have e := eq_of_beq hb
        rw [e] at hpj
        have : ([([] : List UInt8)] : List (List UInt8)) = ns ++ [c] := hpj
        have h2 : c ∈ [([] : List UInt8)] := by rw [this]; simp
        exact absurd (List.mem_singleton.1 h2) hne
    obtain ⟨h1, -⟩ := path_names hps hr
    rw [hpj] at h1
    exact h1 c (by simp)
def PlaceOk (l : List TFile) (w : List (List UInt8)) (ns : List (List UInt8)) : Prop := ∃ ns', clS w ns = some ns' ∧ Names ns' ∧ (findS l (pathOf ns')).isSome = true ∧ (w.getLast? = some [] → dirD l (pathOf ns') = true)
theorem W_place (hv : VL l) : ∀ (cs : List Tcomponent) (ns : List (List UInt8)), Names ns → (∀ c ∈ cs, noSl c.ftext) → (findS l (pathOf ns)).isSome = true → ∀ w ∈ W l mt cs (pathOf ns), PlaceOk l w ns
  | [], ns, hn, _, hs, w, hw => by
    obtain rfl := List.mem_singleton.1 (show w ∈ [([] : List (List UInt8))] from hw)
    exact ⟨ns, rfl, hn, hs, fun h => by cases h⟩
  | c :: cs, ns, hn, hc, hs, w, hw => by
    have ih := W_place hv cs
    have hcs : ∀ c ∈ cs, noSl c.ftext := fun x hx => hc x (by simp [hx])
    have hct := hc c (by simp)
    have hone : ∀ (x : List UInt8) (q : List UInt8) (n2 : List (List UInt8)), q = pathOf n2 → Names n2 → (findS l (pathOf n2)).isSome = true → (∀ w', clS (x :: w') ns = clS w' n2) → (x = [] → dirD l (pathOf n2) = true) → w ∈ (W l mt cs q).map (x :: ·) → PlaceOk l w ns := by
      intro x q n2 e h1 h2 h3 h4 hq
      subst e
      obtain ⟨w', hw', rfl⟩ := List.mem_map.1 hq
      obtain ⟨ns', g1, g2, g3, g4⟩ := ih n2 h1 hcs h2 w' hw'
      refine ⟨ns', by rw [h3]; exact g1, g2, g3, fun hlast => ?_⟩
      cases w' with
      | nil =>
        have hx : x = [] := by simpa using hlast
        have : n2 = ns' := Option.some.inj g1
        rw [← this]; exact h4 hx
      | cons y w' => exact g4 (by rw [List.getLast?_cons_cons] at hlast; exact hlast)
    rw [W_cons] at hw
    cases h1 : (!dirD l (pathOf ns)) <;> rw [h1] at hw
    · have hd : dirD l (pathOf ns) = true := by simpa using h1
      cases h2 : (!c.fliteral) <;> rw [h2] at hw
      · cases h3 : (c.ftext == [] || c.ftext == [46]) <;> rw [h3] at hw
        · have hne : c.ftext ≠ [] := by
            intro e; rw [e] at h3; cases h3
          cases h4 : (c.ftext == [46, 46]) <;> rw [h4] at hw
          · cases h5 : (findS l (joinP (pathOf ns) c.ftext)).isNone <;> rw [h5] at hw
            · have hsome : (findS l (joinP (pathOf ns) c.ftext)).isSome = true := by
                cases hf : findS l (joinP (pathOf ns) c.ftext) with
                | none => rw [hf] at h5; cases h5
                | some f => rfl
              have hnm := lit_name hv hn hct hne hsome
              refine hone c.ftext _ (ns ++ [c.ftext]) (joinP_path hn _) (hn.snoc hnm) (by rw [← joinP_path hn]; exact hsome) (fun w' => ?_) (fun e => absurd e hne) hw
              rw [clS, h3, h4, hnm]
              rfl
            · cases hw
          · have hdl : dirD l (pathOf ns.dropLast) = true := by
              rcases List.eq_nil_or_concat ns with rfl | ⟨m, x, rfl⟩
              · exact hd
              · rw [List.concat_eq_append, List.dropLast_concat]
                rw [List.concat_eq_append] at hn hd
                exact dir_pre hv hn hd rfl
            refine hone c.ftext _ ns.dropLast (parent_names hn) hn.dropLast (dirD_some hdl) (fun w' => ?_) (fun e => absurd e hne) hw
            rw [clS, h3, h4]
            rfl
        · refine hone c.ftext _ ns rfl hn hs (fun w' => ?_) (fun _ => hd) hw
          rw [clS, h3]
          rfl
      · obtain ⟨k, hk, hw⟩ := List.mem_flatMap.1 (show w ∈ ((kidsL l (pathOf ns)).filter (keepN mt c)).flatMap _ from hw)
        have hkm := (List.mem_filter.1 hk).1
        have hnm := (kid_len hv hkm).1
        obtain ⟨d1, d2, d3⟩ := name_dots hnm
        refine hone k _ (ns ++ [k]) (joinP_path hn _) (hn.snoc hnm) (by rw [← joinP_path hn]; exact kid_there hv hkm) (fun w' => ?_) (fun e => by rw [e] at hnm; cases hnm) hw
        rw [clS, d1, d2, d3, hnm]
        rfl
    · cases hw
end
end Go.Proofs.YtmklhkmeampamaaGreatDoor
namespace Go.Proofs.YtmklhkmeampamaaGreatDoor
open Go.RT
set_option linter.all false
set_option maxRecDepth 100000
section
variable {l : List TFile} {mt : List TPatItem → List UInt8 → Bool}
def NdW (l : List TFile) (mt : List TPatItem → List UInt8 → Bool) (cs : List Tcomponent) (ns : List (List UInt8)) : Prop :=
  ((W l mt cs (pathOf ns)).map fun w => clS w ns).Nodup ∧ ∀ w ∈ W l mt cs (pathOf ns), ∃ t, clS w ns = some (ns ++ t)
theorem kids_nd {cs : List Tcomponent} {ns : List (List UInt8)} (hn : Names ns) : ∀ (K : List (List UInt8)), (∀ k ∈ K, nameS k = true) → K.Nodup → (∀ k ∈ K, NdW l mt cs (ns ++ [k])) →
    (((K.flatMap fun n => (W l mt cs (joinP (pathOf ns) n)).map (n :: ·))).map fun w => clS w ns).Nodup ∧ ∀ w ∈ (K.flatMap fun n => (W l mt cs (joinP (pathOf ns) n)).map (n :: ·)), ∃ k ∈ K, ∃ t, clS w ns = some (ns ++ k :: t)
  | [], _, _, _ => ⟨List.nodup_nil, fun w hw => by cases hw⟩
  | k :: K, hk, hnd, hI => by
    obtain ⟨h1, h2⟩ := List.nodup_cons.1 hnd
    obtain ⟨i1, i2⟩ := kids_nd hn K (fun x hx => hk x (by simp [hx])) h2 fun x hx => hI x (by simp [hx])
    obtain ⟨j1, j2⟩ := hI k (by simp)
    have hkn := hk k (by simp)
    obtain ⟨d1, d2, d3⟩ := name_dots hkn
    have hcl : ∀ w', clS (k :: w') ns = clS w' (ns ++ [k]) := fun w' => by rw [clS, d1, d2, d3, hkn]; rfl
    have hj : joinP (pathOf ns) k = pathOf (ns ++ [k]) := joinP_path hn k
    have hhead : ∀ w ∈ (W l mt cs (joinP (pathOf ns) k)).map (k :: ·), ∃ t, clS w ns = some (ns ++ k :: t) := by
      intro w hw
      obtain ⟨w', hw', rfl⟩ := List.mem_map.1 hw
      rw [hj] at hw'
      obtain ⟨t, ht⟩ := j2 w' hw'
      exact ⟨t, by rw [hcl, ht]; simp⟩
    rw [List.flatMap_cons]
    refine ⟨?_, fun w hw => ?_⟩
    · rw [List.map_append, List.nodup_append]
      refine ⟨?_, i1, fun a ha b hb e => ?_⟩
      · rw [List.map_map, hj]
        have : ((fun w => clS w ns) ∘ (k :: ·)) = fun w' => clS w' (ns ++ [k]) := funext hcl
        rw [this]; exact j1
      · subst e
        obtain ⟨w1, hw1, e1⟩ := List.mem_map.1 ha
        obtain ⟨w2, hw2, e2⟩ := List.mem_map.1 hb
        obtain ⟨t1, q1⟩ := hhead w1 hw1
        obtain ⟨k', hk', t2, q2⟩ := i2 w2 hw2
        have e3 : ns ++ k :: t1 = ns ++ k' :: t2 := Option.some.inj (q1.symm.trans (e1.trans (e2.symm.trans q2)))
        have e4 := List.append_cancel_left e3
        exact h1 ((List.cons.inj e4).1 ▸ hk')
    · rcases List.mem_append.1 hw with hw | hw
      · obtain ⟨t, ht⟩ := hhead w hw
        exact ⟨k, by simp, t, ht⟩
      · obtain ⟨k', hk', t, ht⟩ := i2 w hw
        exact ⟨k', by simp [hk'], t, ht⟩
theorem W_nd (hv : VL l) : ∀ (cs : List Tcomponent) (ns : List (List UInt8)), Names ns → (∀ c ∈ cs, noSl c.ftext) → (∀ c ∈ cs, c.fliteral = true → c.ftext ≠ [46, 46]) → NdW l mt cs ns
  | [], ns, hn, _, _ => ⟨by show ([clS [] ns]).Nodup; simp, fun w hw => by
      obtain rfl := List.mem_singleton.1 (show w ∈ [([] : List (List UInt8))] from hw)
      exact ⟨[], by simp [clS]⟩⟩
  | c :: cs, ns, hn, hc, hd => by
    have ih := fun n2 h => W_nd hv cs n2 h (fun x hx => hc x (by simp [hx])) (fun x hx => hd x (by simp [hx]))
    have hct := hc c (by simp)
    have hdt := hd c (by simp)
    have hone : ∀ (q : List UInt8) (n2 t0 : List (List UInt8)), q = pathOf n2 → Names n2 → n2 = ns ++ t0 → (∀ w', clS (c.ftext :: w') ns = clS w' n2) → ((((W l mt cs q).map (c.ftext :: ·)).map fun w => clS w ns).Nodup ∧ ∀ w ∈ (W l mt cs q).map (c.ftext :: ·), ∃ t, clS w ns = some (ns ++ t)) := by
      intro q n2 t0 e h1 h2 h3
      subst e
      obtain ⟨j1, j2⟩ := ih n2 h1
      refine ⟨?_, fun w hw => ?_⟩
      · rw [List.map_map]
        have : ((fun w => clS w ns) ∘ (c.ftext :: ·)) = fun w' => clS w' n2 := funext h3
        rw [this]; exact j1
      · obtain ⟨w', hw', rfl⟩ := List.mem_map.1 hw
        obtain ⟨t, ht⟩ := j2 w' hw'
        exact ⟨t0 ++ t, by rw [h3, ht, h2]; simp⟩
    have hnil : (([] : List (List (List UInt8))).map fun w => clS w ns).Nodup ∧ ∀ w ∈ ([] : List (List (List UInt8))), ∃ t, clS w ns = some (ns ++ t) := ⟨List.nodup_nil, fun w hw => by cases hw⟩
    unfold NdW
    rw [W_cons]
    cases h1 : (!dirD l (pathOf ns))
    · cases h2 : (!c.fliteral)
      · have hlit : c.fliteral = true := by simpa using h2
        cases h3 : (c.ftext == [] || c.ftext == [46])
        · have h4 : (c.ftext == [46, 46]) = false := by simpa using hdt hlit
          rw [h4]
          have hne : c.ftext ≠ [] := by
            intro e; rw [e] at h3; cases h3
          cases h5 : (findS l (joinP (pathOf ns) c.ftext)).isNone
          · have hsome : (findS l (joinP (pathOf ns) c.ftext)).isSome = true := by
              cases hf : findS l (joinP (pathOf ns) c.ftext) with
              | none => rw [hf] at h5; cases h5
              | some f => rfl
            have hnm := lit_name hv hn hct hne hsome
            exact hone _ (ns ++ [c.ftext]) [c.ftext] (joinP_path hn _) (hn.snoc hnm) rfl fun w' => by rw [clS, h3, h4, hnm]; rfl
          · exact hnil
        · exact hone _ ns [] rfl hn (by simp) fun w' => by rw [clS, h3]; rfl
      · have hK : (kidsL l (pathOf ns)).Nodup := (kids_asc hv _).imp fun {a b} hab e => by subst e; exact lt_irrefl' _ hab
        have hkn : ∀ k ∈ (kidsL l (pathOf ns)).filter (keepN mt c), nameS k = true := fun k hk => (kid_len hv (List.mem_filter.1 hk).1).1
        obtain ⟨j1, j2⟩ := kids_nd (cs := cs) (mt := mt) (l := l) hn _ hkn (hK.filter _) fun k hk => ih (ns ++ [k]) (hn.snoc (hkn k hk))
        refine ⟨j1, fun w hw => ?_⟩
        obtain ⟨k, -, t, ht⟩ := j2 w hw
        exact ⟨k :: t, ht⟩
    · exact hnil
end
end Go.Proofs.YtmklhkmeampamaaGreatDoor
namespace Go.Proofs.YtmklhkmeampamaaGreatDoor
open Go.RT
set_option linter.all false
set_option maxRecDepth 100000
end Go.Proofs.YtmklhkmeampamaaGreatDoor
namespace Go.Proofs.YtmklhkmeampamaaGreatDoor
open Go.RT
set_option linter.all false
set_option maxRecDepth 100000
theorem nd_len {α : Type} [BEq α] [LawfulBEq α] : ∀ (a b : List α), a.Nodup → (∀ x ∈ a, x ∈ b) → a.length ≤ b.length
  | [], b, _, _ => by simp
  | x :: a, b, h, hs => by
    obtain ⟨h1, h2⟩ := List.nodup_cons.1 h
    have hx := hs x (by simp)
    have ih := nd_len a (b.erase x) h2 fun y hy => by
      have hne : y ≠ x := fun e => h1 (e ▸ hy)
      exact (List.mem_erase_of_ne hne).2 (hs y (by simp [hy]))
    rw [List.length_erase_of_mem hx] at ih
    have : 0 < b.length := List.length_pos_of_mem hx
    rw [List.length_cons]
    omega
theorem nd_inj {α β : Type} {g : α → β} : ∀ {L : List α}, (L.map g).Nodup → ∀ a ∈ L, ∀ b ∈ L, g a = g b → a = b
  | [], _, a, ha, _, _, _ => by cases ha
  | x :: L, h, a, ha, b, hb, e => by
    rw [List.map_cons, List.nodup_cons] at h
    rcases List.mem_cons.1 ha with ha | ha
    · rcases List.mem_cons.1 hb with hb | hb
      · rw [ha, hb]
      · rw [ha] at e
        exact absurd (List.mem_map.2 ⟨b, hb, e.symm⟩ : g x ∈ L.map g) h.1
    · rcases List.mem_cons.1 hb with hb | hb
      · rw [hb] at e
        exact absurd (List.mem_map.2 ⟨a, ha, e⟩ : g x ∈ L.map g) h.1
      · exact nd_inj h.2 a ha b hb e
theorem pathOf_inj {a b : List (List UInt8)} (ha : Names a) (hb : Names b) (e : pathOf a = pathOf b) : a = b := by
  have e2 : joinR a = joinR b := by simpa [pathOf] using e
  cases a with
  | nil =>
    cases b with
    | nil => rfl
    | cons y b => exact absurd e2.symm (join_ne hb (by simp))
  | cons x a =>
    cases b with
    | nil => exact absurd e2 (join_ne ha (by simp))
    | cons y b => exact joinR_inj (by simp) (by simp) (fun c hc => name_noSl (ha c hc)) (fun c hc => name_noSl (hb c hc)) e2
theorem W_files {l : List TFile} {mt : List TPatItem → List UInt8 → Bool} (hv : VL l) {cs : List Tcomponent} {ns : List (List UInt8)} (hn : Names ns) (hc : ∀ c ∈ cs, noSl c.ftext) (hd : ∀ c ∈ cs, c.fliteral = true → c.ftext ≠ [46, 46]) (hs : (findS l (pathOf ns)).isSome = true) : (W l mt cs (pathOf ns)).length ≤ l.length := by
  obtain ⟨h1, -⟩ := W_nd (mt := mt) hv cs ns hn hc hd
  have hP := W_place (mt := mt) hv cs ns hn hc hs
  have hnd : ((W l mt cs (pathOf ns)).map fun w => (clS w ns).elim [] pathOf).Nodup := by
    refine inj_nodup (W_nodup hv cs _) fun a ha b hb e => ?_
    obtain ⟨na, a1, a2, -⟩ := hP a ha
    obtain ⟨nb, b1, b2, -⟩ := hP b hb
    rw [a1, b1] at e
    have e2 : na = nb := pathOf_inj a2 b2 e
    exact nd_inj h1 a ha b hb (by rw [a1, b1, e2])
  have hsub : ∀ x ∈ ((W l mt cs (pathOf ns)).map fun w => (clS w ns).elim [] pathOf), x ∈ l.map fun f => f.fPath := by
    intro x hx
    obtain ⟨w, hw, rfl⟩ := List.mem_map.1 hx
    obtain ⟨n2, a1, a2, a3, -⟩ := hP w hw
    rw [a1]
    cases hf : findS l (pathOf n2) with
    | none => rw [hf] at a3; cases a3
    | some f =>
      obtain ⟨g1, g2⟩ := find_path hf
      exact List.mem_map.2 ⟨f, g1, g2⟩
  have := nd_len _ _ hnd hsub
  simpa using this
end Go.Proofs.YtmklhkmeampamaaGreatDoor
