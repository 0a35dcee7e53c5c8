import Derived.Test.YtmklhkmeampamaaGreatDoorPr
namespace Go.Proofs.YtmklhkmeampamaaGreatDoor
open Go.RT
set_option linter.all false
set_option maxRecDepth 100000
def joinP (p n : List UInt8) : List UInt8 := cond (p == [47]) ([47] ++ n) ((p ++ [47]) ++ n)
def dirD (l : List TFile) (p : List UInt8) : Bool := (findS l p).elim false fun f => f.fDir
def preDot (n : List UInt8) : Bool := n.take 1 == [46]
def dotC (c : Tcomponent) : Bool := decide (0 < c.fpattern.length) && ((c.fpattern.getD 0 dTPatItem).fKind == 1 && (c.fpattern.getD 0 dTPatItem).fText == [46])
def keepN (mt : List TPatItem → List UInt8 → Bool) (c : Tcomponent) (n : List UInt8) : Bool := !((preDot n && !dotC c) || !mt c.fpattern n)
def W (l : List TFile) (mt : List TPatItem → List UInt8 → Bool) : List Tcomponent → List UInt8 → List (List (List UInt8))
  | [], p => [[]]
  | c :: cs, p => cond (!dirD l p) [] (cond (!c.fliteral) (((kidsL l p).filter (keepN mt c)).flatMap fun n => (W l mt cs (joinP p n)).map (n :: ·))
      (cond (c.ftext == [] || c.ftext == [46]) ((W l mt cs p).map (c.ftext :: ·)) (cond (c.ftext == [46, 46]) ((W l mt cs (parentS p)).map (c.ftext :: ·))
      (cond (findS l (joinP p c.ftext)).isNone [] ((W l mt cs (joinP p c.ftext)).map (c.ftext :: ·))))))
theorem W_cons (l : List TFile) (mt : List TPatItem → List UInt8 → Bool) (c : Tcomponent) (cs : List Tcomponent) (p : List UInt8) : W l mt (c :: cs) p = cond (!dirD l p) [] (cond (!c.fliteral) (((kidsL l p).filter (keepN mt c)).flatMap fun n => (W l mt cs (joinP p n)).map (n :: ·))
      (cond (c.ftext == [] || c.ftext == [46]) ((W l mt cs p).map (c.ftext :: ·)) (cond (c.ftext == [46, 46]) ((W l mt cs (parentS p)).map (c.ftext :: ·))
      (cond (findS l (joinP p c.ftext)).isNone [] ((W l mt cs (joinP p c.ftext)).map (c.ftext :: ·)))))) := rfl
theorem pre46_eq (F : Nat) (n : List UInt8) : strings_HasPrefix F n [46] = some (preDot n) := by
  cases n with
  | nil => rfl
  | cons b n =>
    unfold strings_HasPrefix stringslite_HasPrefix preDot
    rw [ct (by simp; omega), rq2 (by simp) (by simp; omega)]
    rfl
theorem pre47_eq (F : Nat) (n : List UInt8) : strings_HasPrefix F n [47] = some (n.take 1 == [47]) := by
  cases n with
  | nil => rfl
  | cons b n =>
    unfold strings_HasPrefix stringslite_HasPrefix
    rw [ct (by simp; omega), rq2 (by simp) (by simp; omega)]
    rfl
theorem joinP_eq (F : Nat) (p n : List UInt8) (hp : p.length ≤ 1000000) (hn : n.length ≤ 1000000) : pathname_join F p n = some (joinP p n) := by
  unfold pathname_join joinP
  rw [rq1 (by simp; omega), rq1 (by simp; omega), rq1 (by simp; omega), cond_som]
theorem pparent_eq (F : Nat) (p : List UInt8) (hs : p.length < 1000000000) : pathname_parent F p = some (parentS p) := parent_eq F p hs
section
variable {F : Nat} {l : List TFile} {mt : List TPatItem → List UInt8 → Bool} {parts : List Tcomponent}
abbrev SRes := Bool × (List TFile) × (List Tcomponent) × (List (Tplace × Bool)) × (List (List UInt8)) × (List (List UInt8))
def flBody (F : Nat) (rb : Int → (List UInt8) → (List TFile) → (List Tcomponent) → (List (Tplace × Bool)) → (List (List UInt8)) → (List (List UInt8)) → Option SRes) (a2 : List TFile) (a3 : List Tcomponent) (a4 : List (Tplace × Bool)) (rc2 : (List UInt8) × Int × (List (List UInt8)) × (List (List UInt8)) → Option SRes) (x1 : (List UInt8) × Int × (List (List UInt8)) × (List (List UInt8))) : Option SRes :=
 cond (decide (x1.2.1 < (a3.length : Int)))
 ((files_Find F a2 x1.1).bind fun x3 =>
 (cond (!x3.2)
 (some (true, x1.2.2.1, x1.2.2.2))
 (some (!x3.1.fDir, x1.2.2.1, x1.2.2.2)) : Option (Bool × (List (List UInt8)) × (List (List UInt8)))).bind fun x4 =>
 cond x4.1
 (some (false, a2, a3, a4, x4.2.1, x4.2.2))
 (rq ((decide (0 ≤ x1.2.1)) && (decide (x1.2.1 < (a3.length : Int)))) (cond (!((a3.getD (Int.toNat x1.2.1) dTcomponent).fliteral))
 ((rb x1.2.1 x1.1 a2 a3 a4 x4.2.1 x4.2.2).bind fun x5 =>
 some (x5.1, x5.2.1, x5.2.2.1, x5.2.2.2.1, x5.2.2.2.2.1, x5.2.2.2.2.2))
 ((cond (((a3.getD (Int.toNat x1.2.1) dTcomponent).ftext) == [])
 (some (true, x4.2.1, x4.2.2))
 (some (((a3.getD (Int.toNat x1.2.1) dTcomponent).ftext) == ([46] : List UInt8), x4.2.1, x4.2.2)) : Option (Bool × (List (List UInt8)) × (List (List UInt8)))).bind fun x6 =>
 cond x6.1
 (rc2 (x1.1, w64 (x1.2.1 + 1), x6.2.1, x6.2.2))
 (cond (((a3.getD (Int.toNat x1.2.1) dTcomponent).ftext) == ([46, 46] : List UInt8))
 ((pathname_parent F x1.1).bind fun x7 =>
 rc2 (x7, w64 (x1.2.1 + 1), x6.2.1, x6.2.2))
 ((pathname_join F x1.1 ((a3.getD (Int.toNat x1.2.1) dTcomponent).ftext)).bind fun x8 =>
 (files_Find F a2 x8).bind fun x9 =>
 cond (!x9.2)
 (some (false, a2, a3, a4, x6.2.1, x6.2.2))
 (rc2 (x8, w64 (x1.2.1 + 1), x6.2.1, x6.2.2))))))))
 ((joinSF F ([47] : List UInt8) x1.2.2.1).bind fun x10 =>
 rq ((decide (x1.2.2.2.length + ([x10.1] : List (List UInt8)).length ≤ 9223372036854775807)) && (decide ((x1.2.2.2.length + ([x10.1] : List (List UInt8)).length) * 16 ≤ 140737488355328))) (some (true, a2, a3, a4, x10.2, x1.2.2.2 ++ ([x10.1] : List (List UInt8)))))
theorem follow_def (n : Nat) (a0 : Int) (a1 : List UInt8) (a2 : List TFile) (a3 : List Tcomponent) (a4 : List (Tplace × Bool)) (a5 a6 : List (List UInt8)) :
    pathname_search_follow_n F (n + 1) a0 a1 a2 a3 a4 a5 a6 = loopF (flBody F (pathname_search_branch_n F n) a2 a3 a4) F (a1, a0, a5, a6) := rfl
theorem from_def (n : Nat) (a0 : Int) (a1 : List UInt8) (a2 : List TFile) (a3 : List Tcomponent) (a4 : List (Tplace × Bool)) (a5 a6 : List (List UInt8)) :
    pathname_search_from_n F (n + 1) a0 a1 a2 a3 a4 a5 a6 = cond (mget keq a4 (Tplace.mk a0 a1) false)
 (some (false, a2, a3, a4, a5, a6))
 ((pathname_search_follow_n F n a0 a1 a2 a3 a4 a5 a6).bind fun x1 =>
 cond (!x1.1)
 (some (x1.1, x1.2.1, x1.2.2.1, mset keq x1.2.2.2.1 (Tplace.mk a0 a1) true, x1.2.2.2.2.1, x1.2.2.2.2.2))
 (some (x1.1, x1.2.1, x1.2.2.1, x1.2.2.2.1, x1.2.2.2.2.1, x1.2.2.2.2.2))) := rfl
def DeadOk (l : List TFile) (mt : List TPatItem → List UInt8 → Bool) (parts : List Tcomponent) (dead : List (Tplace × Bool)) : Prop := ∀ (i : Nat) p, mget keq dead (Tplace.mk (i : Int) p) false = true → W l mt (parts.drop i) p = []
structure NamOk (parts : List Tcomponent) (i : Nat) (names : List (List UInt8)) : Prop where
  len : names.length = parts.length
  lit : ∀ j, i ≤ j → ∀ h : j < parts.length, parts[j].fliteral = true → names.getD j [] = parts[j].ftext
  sz : ∀ n ∈ names, n.length ≤ 300
def Sz (l : List TFile) (parts : List Tcomponent) : Prop := VL l ∧ parts.length ≤ 300 ∧ (∀ c ∈ parts, c.ftext.length ≤ 300)
theorem joinR_le : ∀ (l : List (List UInt8)), (∀ n ∈ l, n.length ≤ 300) → (joinR l).length ≤ 301 * l.length
  | [], _ => by simp [joinR]
  | x :: l, h => by
    have ih := joinR_le l fun n hn => h n (by simp [hn])
    have hx := h x (by simp)
    cases l with
    | nil => simp only [joinR, List.length_cons, List.length_nil] at *; omega
    | cons y l =>
      rw [joinR_cons x (by simp)]
      simp only [List.length_append, List.length_cons] at *
      omega
theorem find_dir {p : List UInt8} {f : TFile} (hv : VL l) (h : findS l p = some f) : p.length ≤ 128 ∧ pathS p = true ∧ f ∈ l := by
  obtain ⟨h1, h2⟩ := find_path h
  subst h2
  exact ⟨hv.small f h1, hv.path f h1, h1⟩
theorem kid_len (hv : VL l) {p n : List UInt8} (h : n ∈ kidsL l p) : nameS n = true ∧ n.length ≤ 32 := by
  unfold kidsL at h
  obtain ⟨f, hf, rfl⟩ := List.mem_map.1 h
  rw [List.mem_filter] at hf
  unfold kidS at hf
  simp only [Bool.and_eq_true, Bool.not_eq_true', beq_iff_eq] at hf
  obtain ⟨-, c, -, hc, -, -, e1, -, -⟩ := path_snoc (hv.path f hf.1) hf.2.1
  rw [e1]
  exact ⟨hc, (name_len hc).2⟩
theorem list_dir (hF : 1000 ≤ F) (hv : VL l) {p : List UInt8} (h : dirD l p = true) : files_List F l p = some (kidsL l p, 0) := by
  rw [list_eq F l p hF hv]
  unfold dirD at h
  cases hf : findS l p with
  | none => rw [hf] at h; cases h
  | some f =>
    rw [hf] at h
    have h : f.fDir = true := h
    unfold listS
    rw [(find_dir hv hf).2.1, hf]
    simp [h]
def SOk (l : List TFile) (mt : List TPatItem → List UInt8 → Bool) (parts : List Tcomponent) (i : Nat) (path : List UInt8) (names found : List (List UInt8)) (r : SRes) : Prop :=
  ∃ dead' names', r = (!(W l mt (parts.drop i) path).isEmpty, l, parts, dead', names', found ++ (W l mt (parts.drop i) path).map fun ws => joinR (names.take i ++ ws)) ∧ DeadOk l mt parts dead' ∧ NamOk parts i names' ∧ names'.take i = names.take i
theorem NamOk.up {i : Nat} {names : List (List UInt8)} (h : NamOk parts i names) : NamOk parts (i + 1) names := ⟨h.len, fun j hj => h.lit j (by omega), h.sz⟩
theorem take_lit {i : Nat} {names : List (List UInt8)} (h : NamOk parts i names) (hi : i < parts.length) (hl : parts[i].fliteral = true) : names.take (i + 1) = names.take i ++ [parts[i].ftext] := by
  have h1 : i < names.length := by rw [h.len]; exact hi
  rw [List.take_succ_eq_append_getElem h1]
  have := h.lit i (Nat.le_refl _) hi hl
  rw [gd h1] at this
  rw [this]
theorem SOk.lit {i : Nat} {path path' : List UInt8} {names found : List (List UInt8)} {r : SRes} (hn : NamOk parts i names) (hi : i < parts.length) (hl : parts[i].fliteral = true)
    (hW : W l mt (parts.drop i) path = (W l mt (parts.drop (i + 1)) path').map (parts[i].ftext :: ·)) (h : SOk l mt parts (i + 1) path' names found r) : SOk l mt parts i path names found r := by
  obtain ⟨d, n', rfl, h1, h2, h3⟩ := h
  have h4 : n'.take i = names.take i := by
    have := congrArg (List.take i) h3
    rwa [List.take_take, List.take_take, Nat.min_eq_left (by omega)] at this
  refine ⟨d, n', ?_, h1, ⟨h2.len, fun j hj hlt hlj => ?_, h2.sz⟩, h4⟩
  · rw [hW, take_lit hn hi hl]
    simp only [List.map_map, List.isEmpty_map, List.append_assoc, List.singleton_append]
    rfl
  · by_cases e : j = i
    · subst e
      have h5 := take_lit hn hi hl
      rw [← h3] at h5
      have h6 : j < n'.length := by rw [h2.len]; exact hi
      rw [List.take_succ_eq_append_getElem h6, h4] at h5
      have h7 := List.append_cancel_left h5
      rw [gd h6]
      exact List.singleton_inj.1 h7
    · exact h2.lit j (by omega) hlt hlj
theorem search_spec (hF : 100000 ≤ F) (hS : Sz l parts) (hM : ∀ c ∈ parts, c.fliteral = false → ∀ n : List UInt8, n.length ≤ 32 → pattern_Match F c.fpattern n = some (mt c.fpattern n)) :
    ∀ (k i : Nat) (path : List UInt8) (dead : List (Tplace × Bool)) (names found : List (List UInt8)), i + k = parts.length → DeadOk l mt parts dead → NamOk parts i names → found.length + (W l mt (parts.drop i) path).length ≤ 1000000 →
      (∀ n G, 3 * k + 1 ≤ n → k < G → ∃ r, loopF (flBody F (pathname_search_branch_n F n) l parts dead) G (path, (i : Int), names, found) = some r ∧ SOk l mt parts i path names found r) ∧
      (∀ n, 3 * k + 3 ≤ n → ∃ r, pathname_search_from_n F n (i : Int) path l parts dead names found = some r ∧ SOk l mt parts i path names found r) := by
  obtain ⟨hv, hp100, ht100⟩ := hS
  have hll := hv.len
  intro k
  induction k with
  | zero =>
    intro i path dead names found hi hD hN hsz
    have hd : parts.drop i = [] := List.drop_eq_nil_of_le (by omega)
    have key : ∀ n G, 3 * 0 + 1 ≤ n → 0 < G → ∃ r, loopF (flBody F (pathname_search_branch_n F n) l parts dead) G (path, (i : Int), names, found) = some r ∧ SOk l mt parts i path names found r := by
      intro n G hn hG
      obtain ⟨G, rfl⟩ : ∃ H, G = H + 1 := ⟨G - 1, by omega⟩
      have hj := joinR_le names hN.sz
      have hln := hN.len
      have hw : W l mt (parts.drop i) path = [[]] := by rw [hd]; rfl
      rw [hw] at hsz
      simp only [List.length_singleton] at hsz
      refine ⟨(true, l, parts, dead, names, found ++ [joinR names]), ?_, dead, names, ?_, hD, hN, rfl⟩
      · show flBody F _ l parts dead _ (path, (i : Int), names, found) = _
        unfold flBody
        dsimp only
        rw [cf (by omega), join_eqS F names (by omega) (by omega), Option.bind_some, rq_cap (by simp; omega) (by omega)]
      · rw [hw, List.take_of_length_le (by omega)]
        simp
    refine ⟨key, fun n hn => ?_⟩
    obtain ⟨n, rfl⟩ : ∃ m, n = m + 2 := ⟨n - 2, by omega⟩
    rw [from_def]
    cases hg : mget keq dead (Tplace.mk (i : Int) path) false with
    | true =>
      have := hD i path hg
      rw [hd] at this
      cases this
    | false =>
      rw [cond_false, follow_def]
      obtain ⟨r, h1, h2⟩ := key n F (by omega) (by omega)
      rw [h1, Option.bind_some]
      obtain ⟨d, n', rfl, h3, h4, h5⟩ := h2
      refine ⟨_, ?_, d, n', rfl, h3, h4, h5⟩
      rw [hd]
      rfl
  | succ k ih =>
    intro i path dead names found hi hD hN hsz
    have hil : i < parts.length := by omega
    have hd : parts.drop i = parts[i] :: parts.drop (i + 1) := List.drop_eq_getElem_cons hil
    have hg : parts.getD i dTcomponent = parts[i] := gd hil
    have hmemp : parts[i] ∈ parts := List.getElem_mem hil
    have htl := ht100 _ hmemp
    have hbr : parts[i].fliteral = false → dirD l path = true → ∀ n, 3 * k + 4 ≤ n → ∃ r, pathname_search_branch_n F n (i : Int) path l parts dead names found = some r ∧ SOk l mt parts i path names found r := by
      intro hl hdir n hn
      obtain ⟨n, rfl⟩ : ∃ m, n = m + 1 := ⟨n - 1, by omega⟩
      have hplen : path.length ≤ 128 := by
        unfold dirD at hdir
        cases hf : findS l path with
        | none => rw [hf] at hdir; cases hdir
        | some f => exact (find_dir hv hf).1
      have hw : W l mt (parts.drop i) path = ((kidsL l path).filter (keepN mt parts[i])).flatMap fun n => (W l mt (parts.drop (i + 1)) (joinP path n)).map (n :: ·) := by
        rw [hd, W_cons, hdir, hl]
        rfl
      show ∃ r, pathname_search_branch_m F (pathname_search_from_n F n) (pathname_search_follow_n F n) (pathname_search_branch_n F n) (i : Int) path l parts dead names found = some r ∧ _
      unfold pathname_search_branch_m
      rw [rq_ix hil, Int.toNat_natCast, hg]
      have e1 : ((cond (decide (0 < ((parts[i].fpattern).length : Int))) (rq (decide (0 < ((parts[i].fpattern).length : Int))) (some (((parts[i].fpattern.getD 0 dTPatItem).fKind) == 1, names, found))) (some (false, names, found)) : Option (Bool × (List (List UInt8)) × (List (List UInt8)))).bind fun x1 =>
          (cond x1.1 (rq (decide (0 < ((parts[i].fpattern).length : Int))) (some (((parts[i].fpattern.getD 0 dTPatItem).fText) == ([46] : List UInt8), x1.2.1, x1.2.2))) (some (false, x1.2.1, x1.2.2)) : Option (Bool × (List (List UInt8)) × (List (List UInt8))))) = some (dotC parts[i], names, found) := by
        unfold dotC
        by_cases h0 : 0 < parts[i].fpattern.length
        · rw [ct (by omega), rq1 (by omega), Option.bind_some, dT h0]
          dsimp only
          rw [rq1 (by omega)]
          cases ((parts[i].fpattern.getD 0 dTPatItem).fKind == 1) <;> rfl
        · rw [cf (by omega), Option.bind_some, dF h0]
          rfl
      rw [← Option.bind_assoc, e1, Option.bind_some, list_dir (by omega) hv hdir, Option.bind_some]
      have hkl : (kidsL l path).length ≤ 128 := by unfold kidsL; rw [List.length_map]; exact Nat.le_trans (List.length_filter_le _ _) hll
      have hswap : ∀ x : Option SRes, (∃ r, SOk l mt parts i path names found r ∧ x = some r) → ∃ r, x = some r ∧ SOk l mt parts i path names found r := fun x ⟨r, h1, h2⟩ => ⟨r, h2, h1⟩
      refine hswap _ (loopF_post (R := SRes) (SOk l mt parts i path names found)
        (fun x : Bool × Int × (List TFile) × (List Tcomponent) × (List (Tplace × Bool)) × (List (List UInt8)) × (List (List UInt8)) => ∃ (j : Nat) (d : List (Tplace × Bool)) (ns : List (List UInt8)), j ≤ (kidsL l path).length ∧ DeadOk l mt parts d ∧ NamOk parts (i + 1) ns ∧ ns.take i = names.take i ∧
          x = (!((((kidsL l path).take j).filter (keepN mt parts[i])).flatMap fun n => (W l mt (parts.drop (i + 1)) (joinP path n)).map (n :: ·)).isEmpty, (j : Int), l, parts, d, ns, found ++ ((((kidsL l path).take j).filter (keepN mt parts[i])).flatMap fun n => (W l mt (parts.drop (i + 1)) (joinP path n)).map (n :: ·)).map fun ws => joinR (names.take i ++ ws)))
        (fun x => (kidsL l path).length - x.2.1.toNat) ?_ F (false, 0, l, parts, dead, names, found) ⟨0, dead, names, by omega, hD, hN.up, rfl, by simp⟩ (by simp; omega))
      · rintro x ⟨j, d, ns, hj, hD2, hN2, ht2, rfl⟩
        dsimp only
        by_cases hjl : j < (kidsL l path).length
        · left
          have hgj : (kidsL l path).getD j [] = (kidsL l path)[j] := gd hjl
          have hkm : (kidsL l path)[j] ∈ kidsL l path := List.getElem_mem hjl
          obtain ⟨hkn, hk32⟩ := kid_len hv hkm
          have htk : (kidsL l path).take (j + 1) = (kidsL l path).take j ++ [(kidsL l path)[j]] := List.take_succ_eq_append_getElem hjl
          cases hkeep : keepN mt parts[i] (kidsL l path)[j] with
          | false =>
            have hf : ((kidsL l path).take (j + 1)).filter (keepN mt parts[i]) = ((kidsL l path).take j).filter (keepN mt parts[i]) := by rw [htk, List.filter_append]; simp [hkeep]
            refine ⟨_, ⟨j + 1, d, ns, by omega, hD2, hN2, ht2, rfl⟩, by simp; omega, fun rc => ?_⟩
            rw [hf, ct (by omega), rq_ix hjl, Int.toNat_natCast, hgj, pre46_eq, Option.bind_some, w64s (by omega), cond_som, Option.bind_some]
            unfold keepN at hkeep
            cases h1 : preDot (kidsL l path)[j] with
            | true =>
              rw [h1] at hkeep
              rw [cond_true]
              dsimp only
              cases h2 : dotC parts[i] with
              | false => rfl
              | true =>
                rw [h2] at hkeep
                simp only [Bool.not_true, cond_false, hM _ hmemp hl _ hk32, Option.bind_some]
                have : mt parts[i].fpattern (kidsL l path)[j] = false := by simpa using hkeep
                rw [this]
                rfl
            | false =>
              rw [h1] at hkeep
              rw [cond_false]
              dsimp only
              simp only [cond_false, hM _ hmemp hl _ hk32, Option.bind_some]
              have : mt parts[i].fpattern (kidsL l path)[j] = false := by simpa using hkeep
              rw [this]
              rfl
          | true =>
            have hf : ((kidsL l path).take (j + 1)).filter (keepN mt parts[i]) = ((kidsL l path).take j).filter (keepN mt parts[i]) ++ [(kidsL l path)[j]] := by rw [htk, List.filter_append]; simp [hkeep]
            have hns : (ns.set i (kidsL l path)[j]).take (i + 1) = names.take i ++ [(kidsL l path)[j]] := by
              have h1 : i < (ns.set i (kidsL l path)[j]).length := by rw [List.length_set, hN2.len]; exact hil
              rw [List.take_succ_eq_append_getElem h1, List.getElem_set_self, List.take_set_of_le (Nat.le_refl _), ht2]
            have hN3 : NamOk parts (i + 1) (ns.set i (kidsL l path)[j]) := ⟨by rw [List.length_set]; exact hN2.len, fun q hq hqi hql => by
              have := hN2.lit q hq hqi hql
              rw [List.getD_eq_getElem?_getD, List.getElem?_set_ne (by omega), ← List.getD_eq_getElem?_getD]
              exact this, fun n hn => by
              rcases List.mem_or_eq_of_mem_set hn with h | rfl
              · exact hN2.sz n h
              · omega⟩
            have hsub : found.length + (((((kidsL l path).take j).filter (keepN mt parts[i])).flatMap fun n => (W l mt (parts.drop (i + 1)) (joinP path n)).map (n :: ·)).length) + (W l mt (parts.drop (i + 1)) (joinP path (kidsL l path)[j])).length ≤ 1000000 := by
              rw [hw] at hsz
              have h1 : kidsL l path = (kidsL l path).take (j + 1) ++ (kidsL l path).drop (j + 1) := (List.take_append_drop _ _).symm
              rw [h1, List.filter_append, List.flatMap_append, hf, List.flatMap_append] at hsz
              simp only [List.length_append, List.flatMap_cons, List.flatMap_nil, List.append_nil, List.length_map] at hsz
              omega
            obtain ⟨-, hfrom⟩ := ih (i + 1) (joinP path (kidsL l path)[j]) d (ns.set i (kidsL l path)[j]) (found ++ ((((kidsL l path).take j).filter (keepN mt parts[i])).flatMap fun n => (W l mt (parts.drop (i + 1)) (joinP path n)).map (n :: ·)).map fun ws => joinR (names.take i ++ ws)) (by omega) hD2 hN3 (by rw [List.length_append, List.length_map]; omega)
            obtain ⟨r, hr, d', n', rfl, g1, g2, g3⟩ := hfrom n (by omega)
            have htk2 : n'.take i = names.take i := by
              have h1 := congrArg (List.take i) g3
              rw [hns, List.take_take, Nat.min_eq_left (by omega), List.take_append_of_le_length (by rw [List.length_take, hN.len]; omega), List.take_take, Nat.min_self] at h1
              exact h1
            refine ⟨_, ⟨j + 1, d', n', by omega, g1, g2, htk2, rfl⟩, by simp; omega, fun rc => ?_⟩
            rw [hf, ct (by omega), rq_ix hjl, Int.toNat_natCast, hgj, pre46_eq, Option.bind_some, w64s (by omega), cond_som, Option.bind_some]
            have hk2 := hkeep
            unfold keepN at hk2
            simp only [Bool.not_eq_true', Bool.or_eq_false_iff, Bool.not_eq_false'] at hk2
            have e2 : cond (preDot (kidsL l path)[j]) (!dotC parts[i], ns, found ++ ((((kidsL l path).take j).filter (keepN mt parts[i])).flatMap fun n => (W l mt (parts.drop (i + 1)) (joinP path n)).map (n :: ·)).map fun ws => joinR (names.take i ++ ws)) (false, ns, found ++ ((((kidsL l path).take j).filter (keepN mt parts[i])).flatMap fun n => (W l mt (parts.drop (i + 1)) (joinP path n)).map (n :: ·)).map fun ws => joinR (names.take i ++ ws)) = (false, ns, found ++ ((((kidsL l path).take j).filter (keepN mt parts[i])).flatMap fun n => (W l mt (parts.drop (i + 1)) (joinP path n)).map (n :: ·)).map fun ws => joinR (names.take i ++ ws)) := by
              have h1 := hk2.1
              revert h1
              cases preDot (kidsL l path)[j]
              · intro _; rfl
              · intro h1; rw [cond_true, show (!dotC parts[i]) = false from h1]
            rw [e2]
            dsimp only
            rw [cond_false, hM _ hmemp hl _ hk32, Option.bind_some, Option.bind_some, hk2.2]
            dsimp only
            rw [Bool.not_true, cond_false, rq_ix (by rw [hN2.len]; exact hil), joinP_eq F _ _ (by omega) (by omega), Option.bind_some, w64s (by omega), hr, Option.bind_some]
            dsimp only
            rw [hns, List.flatMap_append, List.map_append]
            cases hW : W l mt (parts.drop (i + 1)) (joinP path (kidsL l path)[j]) with
            | nil =>
              simp only [List.isEmpty_nil, Bool.not_true, cond_false, List.map_nil, List.append_nil, List.flatMap_cons, List.flatMap_nil, hW]
            | cons a b =>
              have e3 : (((((kidsL l path).take j).filter (keepN mt parts[i])).flatMap fun n => (W l mt (parts.drop (i + 1)) (joinP path n)).map (n :: ·)) ++ ([(kidsL l path)[j]].flatMap fun n => (W l mt (parts.drop (i + 1)) (joinP path n)).map (n :: ·))).isEmpty = false := by
                rw [List.flatMap_cons, List.flatMap_nil, hW]
                simp
              rw [e3]
              simp only [List.isEmpty_cons, Bool.not_false, cond_true, List.flatMap_cons, List.flatMap_nil, List.append_nil, hW, List.map_map, List.append_assoc]
              congr 8
        · right
          obtain rfl : j = (kidsL l path).length := by omega
          rw [List.take_length]
          refine ⟨_, ⟨d, ns, rfl, hD2, ⟨hN2.len, fun q hq hqi hql => ?_, hN2.sz⟩, ht2⟩, fun rc => ?_⟩
          · by_cases e : q = i
            · subst e; rw [hl] at hql; cases hql
            · exact hN2.lit q (by omega) hqi hql
          · rw [cf (by omega), hw]
    have key : ∀ n G, 3 * (k + 1) + 1 ≤ n → k + 1 < G → ∃ r, loopF (flBody F (pathname_search_branch_n F n) l parts dead) G (path, (i : Int), names, found) = some r ∧ SOk l mt parts i path names found r := by
      intro n G hn hG
      obtain ⟨G, rfl⟩ : ∃ H, G = H + 1 := ⟨G - 1, by omega⟩
      show ∃ r, flBody F _ l parts dead (loopF _ G) (path, (i : Int), names, found) = some r ∧ _
      have hdead : dirD l path = false → SOk l mt parts i path names found (false, l, parts, dead, names, found) := by
        intro h
        have hw : W l mt (parts.drop i) path = [] := by rw [hd, W_cons, h]; rfl
        exact ⟨dead, names, by rw [hw]; simp, hD, hN, rfl⟩
      unfold flBody
      dsimp only
      rw [ct (by omega), find_eq F l path (by omega) (by omega), Option.bind_some]
      cases hf : findS l path with
      | none => exact ⟨_, rfl, hdead (by unfold dirD; rw [hf]; rfl)⟩
      | some f =>
        obtain ⟨hpl, hps, hfl⟩ := find_dir hv hf
        have hp1 : 1 ≤ path.length := by
          cases path with
          | nil => cases hps
          | cons b p => simp
        dsimp only [Option.elim]
        rw [Bool.not_true, cond_false, Option.bind_some]
        dsimp only
        cases hfd : f.fDir with
        | false => exact ⟨_, rfl, hdead (by unfold dirD; rw [hf]; exact hfd)⟩
        | true =>
          have hdir : dirD l path = true := by unfold dirD; rw [hf]; exact hfd
          rw [Bool.not_true, cond_false, rq_ix hil, Int.toNat_natCast, hg]
          cases hl : parts[i].fliteral with
          | false =>
            obtain ⟨r, hr, hok⟩ := hbr hl hdir n (by omega)
            rw [Bool.not_false, cond_true, hr, Option.bind_some]
            exact ⟨r, rfl, hok⟩
          | true =>
            rw [Bool.not_true, cond_false, cond_som, Option.bind_some]
            have e3 : cond (parts[i].ftext == []) (true, names, found) (parts[i].ftext == [46], names, found) = ((parts[i].ftext == [] || parts[i].ftext == [46]), names, found) := by cases (parts[i].ftext == []) <;> rfl
            rw [e3]
            dsimp only
            rw [w64s (by omega)]
            cases h1 : (parts[i].ftext == [] || parts[i].ftext == [46]) with
            | true =>
              have hw : W l mt (parts.drop i) path = (W l mt (parts.drop (i + 1)) path).map (parts[i].ftext :: ·) := by
                rw [hd, W_cons, hdir, hl, h1]; rfl
              rw [hw, List.length_map] at hsz
              rw [cond_true]
              obtain ⟨r, hr, hok⟩ := (ih (i + 1) path dead names found (by omega) hD hN.up hsz).1 n G (by omega) (by omega)
              exact ⟨r, hr, hok.lit hN hil hl hw⟩
            | false =>
              rw [cond_false]
              cases h2 : (parts[i].ftext == [46, 46]) with
              | true =>
                have hw : W l mt (parts.drop i) path = (W l mt (parts.drop (i + 1)) (parentS path)).map (parts[i].ftext :: ·) := by
                  rw [hd, W_cons, hdir, hl, h1, h2]; rfl
                rw [hw, List.length_map] at hsz
                rw [cond_true, pparent_eq F path (by omega), Option.bind_some]
                obtain ⟨r, hr, hok⟩ := (ih (i + 1) (parentS path) dead names found (by omega) hD hN.up hsz).1 n G (by omega) (by omega)
                exact ⟨r, hr, hok.lit hN hil hl hw⟩
              | false =>
                rw [cond_false, joinP_eq F path _ (by omega) (by omega), Option.bind_some, find_eq F l _ (by omega) (by omega), Option.bind_some]
                cases hf2 : findS l (joinP path parts[i].ftext) with
                | none =>
                  have hw : W l mt (parts.drop i) path = [] := by
                    rw [hd, W_cons, hdir, hl, h1, h2, hf2]; rfl
                  exact ⟨_, rfl, dead, names, by rw [hw]; simp, hD, hN, rfl⟩
                | some f2 =>
                  have hw : W l mt (parts.drop i) path = (W l mt (parts.drop (i + 1)) (joinP path parts[i].ftext)).map (parts[i].ftext :: ·) := by
                    rw [hd, W_cons, hdir, hl, h1, h2, hf2]; rfl
                  rw [hw, List.length_map] at hsz
                  obtain ⟨r, hr, hok⟩ := (ih (i + 1) (joinP path parts[i].ftext) dead names found (by omega) hD hN.up hsz).1 n G (by omega) (by omega)
                  exact ⟨r, hr, hok.lit hN hil hl hw⟩
    refine ⟨key, fun n hn => ?_⟩
    obtain ⟨n, rfl⟩ : ∃ m, n = m + 2 := ⟨n - 2, by omega⟩
    rw [from_def]
    cases hg2 : mget keq dead (Tplace.mk (i : Int) path) false with
    | true =>
      have hw := hD i path hg2
      exact ⟨_, rfl, dead, names, by rw [hw]; simp, hD, hN, rfl⟩
    | false =>
      rw [cond_false, follow_def]
      obtain ⟨r, h1, h2⟩ := key n F (by omega) (by omega)
      rw [h1, Option.bind_some]
      obtain ⟨d, n', rfl, h3, h4, h5⟩ := h2
      cases hW : W l mt (parts.drop i) path with
      | nil =>
        refine ⟨_, rfl, mset keq d (Tplace.mk (i : Int) path) true, n', by rw [hW], fun q p hq => ?_, h4, h5⟩
        rw [mget_mset] at hq
        cases he : (Tplace.mk (i : Int) path == Tplace.mk (q : Int) p) with
        | true =>
          have := eq_of_beq he
          simp only [Tplace.mk.injEq] at this
          obtain rfl : i = q := by omega
          rw [← this.2]; exact hW
        | false => rw [he] at hq; exact h3 q p hq
      | cons a b => exact ⟨_, rfl, d, n', by rw [hW], h3, h4, h5⟩
end
end Go.Proofs.YtmklhkmeampamaaGreatDoor
