/-
  Layer 15 (vars), plain: Environ and From.
-/
import Derived.Test.YtboofbgcdhjhnaaVp2
namespace Go.Proofs.Ytboofbgcdhjhnaa
set_option linter.unusedVariables false
open Go.AL

/-! ### Environ -/
def shown (v : TVar) : Bool := cond v.fSet v.fExport false
def entry (v : TVar) : List UInt8 := (v.fName ++ [61]) ++ v.fValue
def rEnv (l : List TVar) : List (List UInt8) := (l.filter shown).map entry
theorem env_fold : ∀ (l : List TVar) (o : List (List UInt8)), l.foldl (fun s x => bif shown x then s ++ [entry x] else s) o = o ++ rEnv l
  | [], o => by simp [rEnv]
  | x :: xs, o => by
    rw [List.foldl_cons, env_fold xs]
    unfold rEnv
    rw [List.filter_cons]
    cases shown x <;> simp
theorem env_loop (l : List TVar) (h : Ok l) (f : Nat → List (List UInt8) × Int → Option (List (List UInt8)))
    (hf : ∀ n s i, i < l.length → s.length ≤ 200 → (l.getD i default).fName.length ≤ 32 → (l.getD i default).fValue.length ≤ 4096 → f (n + 1) (s, (i : Int)) = f n (bif shown (l.getD i default) then s ++ [entry (l.getD i default)] else s, (i : Int) + 1))
    (he : ∀ n s, f (n + 1) (s, (l.length : Int)) = some s) (n : Nat) (hn : 200 ≤ n) : f n ([], (0 : Int)) = some (rEnv l) := by
  have hl := h.len
  have hm : ∀ i, i < l.length → l.getD i default ∈ l := fun i hi => by
    have : l.getD i default = l[i] := by simp [List.getD, hi]
    rw [this]; exact List.getElem_mem hi
  have := iter_loop (fun n s i => f n (s, i)) l.length (fun i s => (fun (x : TVar) (s : List (List UInt8)) => bif shown x then s ++ [entry x] else s) (l.getD i default) s) (fun i s => s.length ≤ i) (fun s => s) (fun m i s hi hI => by
      refine ⟨?_, ?_⟩
      · simp only
        rw [hf m s i hi (by omega) (rName_len (h.name _ (hm i hi))).2 (h.value _ (hm i hi))]
        rfl
      · simp only
        cases shown (l.getD i default) <;> simp <;> omega) (fun m s hI => he m s) n 0 [] (Nat.zero_le _) (by omega) (by simp)
  have h1 := this.1
  rw [Nat.sub_zero] at h1
  have e : iter (fun i s => (fun (x : TVar) (s : List (List UInt8)) => bif shown x then s ++ [entry x] else s) (l.getD i default) s) l.length 0 [] = (l.drop 0).foldl (fun s x => bif shown x then s ++ [entry x] else s) [] :=
    iter_list (fun (x : TVar) (s : List (List UInt8)) => bif shown x then s ++ [entry x] else s) l l.length 0 [] (by omega)
  rw [e, List.drop_zero, env_fold, List.nil_append] at h1
  exact h1
theorem venv_eq (n : Nat) (l : List TVar) (h : Ok l) (hn : 200 ≤ n) : vars_Environ n l = some (rEnv l) := by
  have hl := h.len
  unfold vars_Environ
  rw [env_loop l h (vars_Environ_l0 l) (fun m s i hi hs h1 h2 => by
    show vars_Environ_l0_b l m (vars_Environ_l0 l m) (s, (i : Int)) = _
    unfold vars_Environ_l0_b
    simp only
    have h3 : (i : Int) < (l.length : Int) := by omega
    rw [dec_t h3, cond_true, req_pos ⟨by omega, h3⟩, toNat_cast, w64 (by omega), req_pos ⟨by simp only [List.length_cons, List.length_nil]; omega, by simp only [List.length_append, List.length_cons, List.length_nil]; omega, by omega, by omega⟩]
    show Option.bind (cond (shown (l.getD i default)) _ _) _ = _
    cases shown (l.getD i default) <;> rfl) (fun m s => by
    show vars_Environ_l0_b l m (vars_Environ_l0 l m) (s, (l.length : Int)) = _
    unfold vars_Environ_l0_b
    simp) n hn]
  rfl
theorem env_eq (n : Nat) (l : List TVar) (h : Ok l) (hn : 200 ≤ n) : ref15_Environ n l = some (rEnv l) := by
  have hl := h.len
  unfold ref15_Environ
  rw [env_loop l h (ref15_Environ_l0 l) (fun m s i hi hs h1 h2 => by
    show ref15_Environ_l0_b l m (ref15_Environ_l0 l m) (s, (i : Int)) = _
    unfold ref15_Environ_l0_b
    simp only
    have h3 : (i : Int) < (l.length : Int) := by omega
    rw [dec_t h3, cond_true, req_pos ⟨by omega, h3⟩, toNat_cast, w64 (by omega), req_pos ⟨by simp only [List.length_cons, List.length_nil]; omega, by simp only [List.length_append, List.length_cons, List.length_nil]; omega⟩, req_pos ⟨by omega, by omega⟩]
    show Option.bind (cond (shown (l.getD i default)) _ _) _ = _
    cases shown (l.getD i default) <;> rfl) (fun m s => by
    show ref15_Environ_l0_b l m (ref15_Environ_l0 l m) (s, (l.length : Int)) = _
    unfold ref15_Environ_l0_b
    simp) n hn]
  rfl

/-! ### entries -/
theorem indexByte_eq (c : UInt8) : ∀ s : List UInt8, Lib.indexByte s c = match s.findIdx? (· == c) with | some i => (i : Int) | none => -1
  | [] => rfl
  | b :: l => by
    rw [Lib.indexByte, List.findIdx?_cons, indexByte_eq c l]
    cases (b == c) with
    | true => rfl
    | false =>
      simp only [Bool.false_eq_true, if_false]
      cases l.findIdx? (· == c) with
      | none => rfl
      | some i =>
        simp only [Option.map_some]
        rw [if_neg (by simp)]
        simp
/-- An entry, divided at its first equals sign. -/
def cut (s : List UInt8) : Option (List UInt8 × List UInt8) := (s.findIdx? (· == 61)).map fun i => (s.take i, s.drop (i + 1))
theorem idx_lt {s : List UInt8} {i : Nat} (h : s.findIdx? (· == 61) = some i) : i < s.length := (List.findIdx?_eq_some_iff_getElem.1 h).1
theorem cut_eq (s : List UInt8) (hs : s.length ≤ 9223372036854775807) : strings_Cut_i0 s = some (match cut s with | some p => (p.1, p.2, true) | none => (s, [], false)) := by
  unfold strings_Cut_i0 internal_stringslite_Cut_i0 internal_stringslite_Index_i0 internal_stringslite_IndexByte_i0
  have e : Lib.indexByte s (61 : Int).toNat.toUInt8 = match s.findIdx? (· == 61) with | some i => (i : Int) | none => -1 := indexByte_eq 61 s
  have hidx : (cond (cond false true (([61] : List UInt8) == s)) (some 0) (req ((0 < (([61] : List UInt8).length : Int))) (some (Lib.indexByte s (61 : Int).toNat.toUInt8)))) = some (match s.findIdx? (· == 61) with | some i => (i : Int) | none => -1) := by
    rw [req_pos (by decide), e]
    by_cases h : ([61] : List UInt8) = s
    · subst h; rfl
    · have : (([61] : List UInt8) == s) = false := by simpa using h
      rw [this]; rfl
  rw [hidx]
  unfold cut
  simp only [Option.bind_some]
  cases hf : s.findIdx? (· == 61) with
  | none => rfl
  | some i =>
    have hi := idx_lt hf
    simp only [Option.map_some]
    rw [dec_t (by omega), cond_true, w64 (by omega), req_pos ⟨by omega, by omega, by omega, by omega, by omega⟩]
    have e1 : ((i : Int) + 1).toNat = i + 1 := by omega
    rw [toNat_cast, e1, List.take_length, List.drop_zero]
    rfl
theorem cut_len {s : List UInt8} {p : List UInt8 × List UInt8} (h : cut s = some p) : p.1.length < s.length ∧ p.2.length < s.length := by
  unfold cut at h
  obtain ⟨i, hi, rfl⟩ := Option.map_eq_some_iff.1 h
  have := idx_lt hi
  simp; omega
theorem divide_eq (n : Nat) (s : List UInt8) (hs : s.length ≤ 9223372036854775807) (hn : s.length + 40 ≤ n) : ref15_Divide n s = some (match cut s with | some p => (p.1, p.2, rName p.1) | none => ([], [], false)) := by
  have key : ∀ n i, i ≤ s.length → s.length + 40 - i ≤ n → (∀ j, j < i → ((s.getD j 0) == 61) = false) →
      jn (ref15_Divide_l0 s n (i : Int)) (fun _ => some ([], [], false)) = some (match cut s with | some p => (p.1, p.2, rName p.1) | none => ([], [], false)) := by
    intro n
    induction n with
    | zero => intro i h1 h2; omega
    | succ n ih =>
      intro i hi hn hj
      show jn (ref15_Divide_l0_b s n (ref15_Divide_l0 s n) i) _ = _
      unfold ref15_Divide_l0_b
      by_cases h : i < s.length
      · rw [dec_t (by omega), cond_true, req_pos ⟨by omega, by omega⟩, toNat_cast]
        have hb : ((((s.getD i 0).toNat : Nat) : Int) == 61) = ((s.getD i 0) == 61) := by
          rw [Bool.eq_iff_iff]
          simp only [beq_iff_eq]
          constructor
          · intro h
            apply UInt8.toNat_inj.1
            show (s.getD i 0).toNat = 61
            omega
          · intro h; rw [h]; rfl
        rw [hb]
        cases hc : ((s.getD i 0) == 61) with
        | true =>
          have hf : s.findIdx? (· == 61) = some i := by
            rw [List.findIdx?_eq_some_iff_getElem]
            refine ⟨h, by simpa [List.getD, h] using hc, fun j hji => ?_⟩
            have := hj j hji
            simpa [List.getD, show j < s.length by omega] using this
          have e1 : ((i : Int) + 1).toNat = i + 1 := by omega
          rw [cond_true, w64 (by omega), req_pos ⟨by omega, by omega, by omega, by omega⟩, e1, ref01_Name_eq _ _ (by omega)]
          unfold cut
          rw [hf]
          simp
        | false =>
          rw [cond_false, w64 (by omega)]
          have := ih (i + 1) (by omega) (by omega) (fun j hji => by
            by_cases hjj : j < i
            · exact hj j hjj
            · have : j = i := by omega
              subst this; exact hc)
          exact this
      · have : i = s.length := by omega
        subst this
        have hf : s.findIdx? (· == 61) = none := by
          rw [List.findIdx?_eq_none_iff]
          intro b hb
          obtain ⟨j, hjl, rfl⟩ := List.getElem_of_mem hb
          have := hj j hjl
          simpa [List.getD, hjl] using this
        unfold cut
        rw [hf]
        simp
  unfold ref15_Divide
  exact key n 0 (Nat.zero_le _) (by omega) (fun j hj => by omega)

/-- What an entry tells. -/
def ent (s : List UInt8) : Option (List UInt8 × List UInt8) := match cut s with | some p => if rName p.1 then some p else none | none => none
def long (s : List UInt8) : Bool := match ent s with | some p => decide (4096 < p.2.length) | none => false
theorem ent_len {s : List UInt8} {p : List UInt8 × List UInt8} (h : ent s = some p) : p.1.length < s.length ∧ p.2.length < s.length ∧ rName p.1 = true := by
  unfold ent at h
  cases hc : cut s with
  | none => rw [hc] at h; cases h
  | some q =>
    rw [hc] at h
    simp only at h
    split at h
    · rename_i hr
      cases h
      exact ⟨(cut_len hc).1, (cut_len hc).2, hr⟩
    · cases h

/-- Loops over entries that end at the first long one. -/
theorem from_loop {σ τ : Type} (l : List (List UInt8)) (f : Nat → σ → Int → Option (J τ (List TVar × Int))) (g : List UInt8 → σ → σ) (Inv : Nat → σ → Prop) (out : σ → τ)
    (hs : ∀ n i s, i < l.length → Inv i s → 200 + (l.getD i default).length ≤ n → f (n + 1) s (i : Int) = if long (l.getD i default) then some (.ret ([], 3)) else f n (g (l.getD i default) s) ((i + 1 : Nat) : Int))
    (hi : ∀ i s, i < l.length → Inv i s → Inv (i + 1) (g (l.getD i default) s))
    (he : ∀ n s, f (n + 1) s (l.length : Int) = some (.go (out s))) (M : Nat) (hM : ∀ i, i < l.length → (l.getD i default).length ≤ M) :
    ∀ n i s, i ≤ l.length → l.length - i + 201 + M ≤ n → Inv i s →
      f n s (i : Int) = some (if (l.drop i).any long then .ret ([], 3) else .go (out ((l.drop i).foldl (fun s x => g x s) s))) ∧ Inv l.length ((l.drop i).foldl (fun s x => g x s) s) := by
  intro n
  induction n with
  | zero => intro i s h1 h2; omega
  | succ n ih =>
    intro i s hil hn hI
    by_cases h : i < l.length
    · have hg : l.getD i default = l[i] := by simp [List.getD, h]
      have hI' := hi i s h hI
      have := ih (i + 1) (g (l.getD i default) s) (by omega) (by omega) hI'
      rw [hs n i s h hI (by have := hM i h; omega), List.drop_eq_getElem_cons h, List.any_cons, List.foldl_cons, ← hg]
      refine ⟨?_, this.2⟩
      cases long (l.getD i default)
      · simp only [Bool.false_eq_true, if_false, Bool.false_or]; exact this.1
      · rfl
    · have : i = l.length := by omega
      subst this
      rw [he, List.drop_length]
      exact ⟨rfl, hI⟩

abbrev Tab := List (List UInt8 × List UInt8)
def addM (s : List UInt8) (m : Tab) : Tab := match ent s with | some p => mset m p.1 p.2 | none => m
def mkV (p : List UInt8 × List UInt8) : TVar := ⟨p.1, p.2, true, true, false⟩
def addO (s : List UInt8) (o : List TVar) : List TVar := match ent s with | some p => ins (mkV p) o | none => o
def outOf (l : List (List UInt8)) : List TVar := l.foldl (fun o s => addO s o) []
def rFrom (l : List (List UInt8)) : List TVar × Int := if l.any long then ([], 3) else if 128 < (outOf l).length then ([], 4) else (outOf l, 0)

theorem addO_srt {s : List UInt8} {o : List TVar} (h : Srt o) : Srt (addO s o) := by
  unfold addO
  split
  · exact ins_srt h
  · exact h
theorem addO_len {s : List UInt8} {o : List TVar} (h : Srt o) : (addO s o).length ≤ o.length + 1 := by
  unfold addO
  split
  · rw [ins_len h]; split <;> omega
  · omega
theorem from_eq (n M : Nat) (l : List (List UInt8)) (hl : l.length ≤ 138) (hM : ∀ i, i < l.length → (l.getD i default).length ≤ M) (hs : M ≤ 9223372036854775807) (hn : 1000 + M ≤ n) : ref15_From n l = some (rFrom l) := by
  have := from_loop l (fun n s i => ref15_From_l0 l n (s, i)) addO (fun i s => Srt s ∧ s.length ≤ i) (fun s => s) (fun m i s hi hI hm => by
      show ref15_From_l0_b l m (ref15_From_l0 l m) (s, (i : Int)) = _
      unfold ref15_From_l0_b
      simp only
      have h3 : (i : Int) < (l.length : Int) := by omega
      have hlen := hM i hi
      rw [dec_t h3, cond_true, req_pos ⟨by omega, h3⟩, toNat_cast, divide_eq m _ (by omega) (by omega), w64 (by omega)]
      simp only [Option.bind_some]
      unfold long addO ent
      cases hc : cut (l.getD i default) with
      | none => rfl
      | some p =>
        simp only
        cases hr : rName p.1
        · rfl
        · simp only [cond_true, if_true]
          by_cases hv : 4096 < p.2.length
          · rw [dec_t (by omega), dec_t hv]; rfl
          · rw [dec_f (by omega), dec_f hv, put_eq m s _ hI.1 (by omega) (by omega)]
            rfl) (fun i s hi hI => ⟨addO_srt hI.1, by have := addO_len (s := l.getD i default) hI.1; omega⟩) (fun m s => by
      show ref15_From_l0_b l m (ref15_From_l0 l m) (s, (l.length : Int)) = _
      unfold ref15_From_l0_b
      simp) M hM n 0 [] (Nat.zero_le _) (by omega) ⟨List.Pairwise.nil, by simp⟩
  rw [List.drop_zero] at this
  have h1 : ref15_From_l0 l n ([], (0 : Int)) = _ := this.1
  unfold ref15_From rFrom
  rw [h1]
  cases l.any long
  · simp only [Bool.false_eq_true, if_false, jn_go]
    show cond (decide (128 < ((outOf l).length : Int))) _ _ = _
    by_cases h8 : 128 < (outOf l).length
    · rw [dec_t (by omega), if_pos h8]; rfl
    · rw [dec_f (by omega), if_neg h8]; rfl
  · rfl

/-! ### the map's way -/
def conv (m : Tab) (k : List UInt8) : TVar := ⟨k, mget m k [], true, true, false⟩
def tabOf (l : List (List UInt8)) : Tab := l.foldl (fun m s => addM s m) []
theorem mset_keys (m : Tab) (k v : List UInt8) (x : List UInt8) : x ∈ (mset m k v).map (·.1) ↔ x = k ∨ x ∈ m.map (·.1) := by
  unfold mset
  cases ha : m.any (fun p => p.1 == k) with
  | true =>
    obtain ⟨p, hp, he⟩ := List.any_eq_true.1 ha
    rw [cond_true, List.map_map]
    have : (m.map ((·.1) ∘ fun p => bif p.1 == k then (k, v) else p)) = m.map (·.1) := by
      refine List.map_congr_left fun q _ => ?_
      simp only [Function.comp]
      cases hq : (q.1 == k)
      · rfl
      · exact (eq_of_beq hq).symm
    rw [this]
    constructor
    · exact .inr
    · rintro (rfl | h)
      · exact List.mem_map.2 ⟨p, hp, eq_of_beq he⟩
      · exact h
  | false =>
    rw [cond_false]
    simp [or_comm]
theorem mset_nodup {m : Tab} (h : (m.map (·.1)).Nodup) (k v : List UInt8) : ((mset m k v).map (·.1)).Nodup := by
  unfold mset
  cases ha : m.any (fun p => p.1 == k) with
  | true =>
    rw [cond_true, List.map_map]
    have : (m.map ((·.1) ∘ fun p => bif p.1 == k then (k, v) else p)) = m.map (·.1) := by
      refine List.map_congr_left fun q _ => ?_
      simp only [Function.comp]
      cases hq : (q.1 == k)
      · rfl
      · exact (eq_of_beq hq).symm
    rw [this]; exact h
  | false =>
    rw [cond_false, List.map_append]
    refine List.nodup_append.2 ⟨h, by simp, fun a ha' b hb e => ?_⟩
    simp at hb
    subst hb; subst e
    obtain ⟨p, hp, he⟩ := List.mem_map.1 ha'
    have := List.any_eq_false.1 ha p hp
    simp [he] at this
theorem mget_mset (m : Tab) (k v x : List UInt8) : mget (mset m k v) x [] = if x = k then v else mget m x [] := by
  unfold mget mset
  cases ha : m.any (fun p => p.1 == k) with
  | true =>
    rw [cond_true]
    induction m with
    | nil => simp at ha
    | cons p m ih =>
      simp only [List.map_cons, List.find?_cons]
      cases hp : (p.1 == k) with
      | true =>
        simp only [cond_true]
        by_cases hx : x = k
        · subst hx; simp
        · have h1 : (k == x) = false := by simpa using fun e => hx e.symm
          have h2 : (p.1 == x) = false := by rw [eq_of_beq hp]; exact h1
          rw [h1, h2, if_neg hx]
          simp only
          cases hm : m.any (fun p => p.1 == k) with
          | true =>
            have := ih hm
            rw [if_neg hx] at this
            exact this
          | false =>
            have : m.map (fun p => bif p.1 == k then (k, v) else p) = m := by
              refine (List.map_congr_left fun q hq => ?_).trans (List.map_id _)
              have := List.any_eq_false.1 hm q hq
              have h3 : (q.1 == k) = false := by simpa using this
              rw [h3]; rfl
            rw [this]
      | false =>
        simp only [cond_false]
        have hm : m.any (fun p => p.1 == k) = true := by simpa [List.any_cons, hp] using ha
        cases hx : (p.1 == x) with
        | true =>
          have : ¬ x = k := fun e => by rw [e] at hx; rw [hx] at hp; cases hp
          simp only [if_neg this]
        | false => exact ih hm
  | false =>
    rw [cond_false, List.find?_append]
    by_cases hx : x = k
    · subst hx
      have : m.find? (fun p => p.1 == x) = none := by
        rw [List.find?_eq_none]
        intro p hp he
        have := List.any_eq_false.1 ha p hp
        exact this he
      rw [this]; simp
    · rw [if_neg hx]
      have h1 : (k == x) = false := by simpa using fun e => hx e.symm
      cases m.find? (fun p => p.1 == x) with
      | none => simp [h1]
      | some p => rfl

theorem srt_ext {a b : List TVar} (ha : Srt a) (hb : Srt b) (h : ∀ x, x ∈ a ↔ x ∈ b) : a = b := by
  have nd : ∀ {l : List TVar}, Srt l → l.Nodup := fun hl => hl.imp fun h e => by rw [e] at h; exact lt_irrefl' _ h
  have hp := (List.perm_ext_iff_of_nodup (nd ha) (nd hb)).2 h
  exact hp.eq_of_pairwise (le := fun a b => a.fName < b.fName) (fun x y _ _ h1 h2 => absurd (lt_trans' h1 h2) (lt_irrefl' _)) ha hb
theorem ins_mem_iff {v : TVar} {l : List TVar} (hs : Srt l) (x : TVar) : x ∈ ins v l ↔ x = v ∨ (x ∈ l ∧ x.fName ≠ v.fName) := by
  induction l with
  | nil => simp [ins]
  | cons y ys ih =>
    have hs' := List.pairwise_cons.1 hs
    have big : ∀ z, z ∈ ys → v.fName < y.fName ∨ v.fName = y.fName → z.fName ≠ v.fName := fun z hz h e => by
      have h1 := hs'.1 z hz
      rcases h with h | h
      · have := lt_trans' h h1; rw [e] at this; exact lt_irrefl' _ this
      · rw [e, h] at h1; exact lt_irrefl' _ h1
    rcases lt_tri y.fName v.fName with h | h | h
    · rw [ins_lt h, List.mem_cons, List.mem_cons, ih hs'.2]
      have : y.fName ≠ v.fName := fun e => by rw [e] at h; exact lt_irrefl' _ h
      constructor
      · rintro (rfl | rfl | ⟨h1, h2⟩)
        · exact .inr ⟨.inl rfl, this⟩
        · exact .inl rfl
        · exact .inr ⟨.inr h1, h2⟩
      · rintro (rfl | ⟨rfl | h1, h2⟩)
        · exact .inr (.inl rfl)
        · exact .inl rfl
        · exact .inr (.inr ⟨h1, h2⟩)
    · rw [ins_same h, List.mem_cons, List.mem_cons]
      constructor
      · rintro (rfl | h1)
        · exact .inl rfl
        · exact .inr ⟨.inr h1, big x h1 (.inr h.symm)⟩
      · rintro (rfl | ⟨rfl | h1, h2⟩)
        · exact .inl rfl
        · exact absurd h h2
        · exact .inr h1
    · rw [ins_gt h, List.mem_cons, List.mem_cons]
      constructor
      · rintro (rfl | rfl | h1)
        · exact .inl rfl
        · exact .inr ⟨.inl rfl, fun e => by rw [e] at h; exact lt_irrefl' _ h⟩
        · exact .inr ⟨.inr h1, big x h1 (.inl h)⟩
      · rintro (rfl | ⟨rfl | h1, h2⟩)
        · exact .inl rfl
        · exact .inr (.inl rfl)
        · exact .inr (.inr h1)
theorem sortK_perm (l : List (List UInt8)) : (sortK l).Perm l := List.mergeSort_perm l _
theorem sortK_srt {l : List (List UInt8)} (h : l.Nodup) : (sortK l).Pairwise (· < ·) := by
  have tr : ∀ a b c : List UInt8, (decide (a ≤ b)) = true → (decide (b ≤ c)) = true → (decide (a ≤ c)) = true := fun a b c h1 h2 => by simp only [decide_eq_true_eq] at *; exact List.le_trans h1 h2
  have to : ∀ a b : List UInt8, ((decide (a ≤ b)) || (decide (b ≤ a))) = true := fun a b => by simp only [Bool.or_eq_true, decide_eq_true_eq]; exact List.le_total a b
  have h1 : (sortK l).Pairwise (fun a b => decide (a ≤ b) = true) := List.pairwise_mergeSort tr to l
  have h2 : (sortK l).Nodup := (sortK_perm l).nodup_iff.2 h
  refine (h1.and h2).imp fun {a b} hab => ?_
  obtain ⟨h3, h4⟩ := hab
  have h5 : a ≤ b := of_decide_eq_true h3
  rcases lt_tri a b with h | h | h
  · exact h
  · exact absurd h h4
  · exact absurd h (List.not_lt.2 h5)
theorem tab_srt {m : Tab} (h : (m.map (·.1)).Nodup) : Srt ((sortK (m.map (·.1))).map (conv m)) := by
  refine List.pairwise_map.2 ((sortK_srt h).imp fun hab => ?_)
  exact hab
theorem tab_mem (m : Tab) (x : TVar) : x ∈ (sortK (m.map (·.1))).map (conv m) ↔ ∃ k, k ∈ m.map (·.1) ∧ x = conv m k := by
  rw [List.mem_map]
  constructor
  · rintro ⟨k, hk, rfl⟩
    exact ⟨k, (sortK_perm _).mem_iff.1 hk, rfl⟩
  · rintro ⟨k, hk, rfl⟩
    exact ⟨k, (sortK_perm _).mem_iff.2 hk, rfl⟩
theorem tab_step {m : Tab} (h : (m.map (·.1)).Nodup) (s : List UInt8) : ((addM s m).map (·.1)).Nodup ∧ addO s ((sortK (m.map (·.1))).map (conv m)) = (sortK ((addM s m).map (·.1))).map (conv (addM s m)) := by
  unfold addM addO
  cases ent s with
  | none => exact ⟨h, rfl⟩
  | some p =>
    refine ⟨mset_nodup h _ _, srt_ext (ins_srt (tab_srt h)) (tab_srt (mset_nodup h _ _)) fun x => ?_⟩
    rw [ins_mem_iff (tab_srt h), tab_mem, tab_mem]
    constructor
    · rintro (rfl | ⟨⟨k, hk, rfl⟩, hne⟩)
      · refine ⟨p.1, (mset_keys ..).2 (.inl rfl), ?_⟩
        unfold conv mkV
        rw [mget_mset, if_pos rfl]
      · refine ⟨k, (mset_keys ..).2 (.inr hk), ?_⟩
        have hne' : ¬ k = p.1 := hne
        unfold conv
        rw [mget_mset, if_neg hne']
    · rintro ⟨k, hk, rfl⟩
      by_cases hkp : k = p.1
      · subst hkp
        left
        unfold conv mkV
        rw [mget_mset, if_pos rfl]
      · right
        rcases (mset_keys ..).1 hk with e | hk
        · exact absurd e hkp
        · refine ⟨⟨k, hk, ?_⟩, fun e => hkp e⟩
          unfold conv
          rw [mget_mset, if_neg hkp]
theorem tab_out (l : List (List UInt8)) : ((tabOf l).map (·.1)).Nodup ∧ outOf l = (sortK ((tabOf l).map (·.1))).map (conv (tabOf l)) := by
  have key : ∀ (l : List (List UInt8)) (m : Tab), (m.map (·.1)).Nodup → ((l.foldl (fun m s => addM s m) m).map (·.1)).Nodup ∧
      l.foldl (fun o s => addO s o) ((sortK (m.map (·.1))).map (conv m)) = (sortK ((l.foldl (fun m s => addM s m) m).map (·.1))).map (conv (l.foldl (fun m s => addM s m) m)) := by
    intro l
    induction l with
    | nil => intro m h; exact ⟨h, rfl⟩
    | cons s l ih =>
      intro m h
      obtain ⟨h1, h2⟩ := tab_step h s
      rw [List.foldl_cons, List.foldl_cons, h2]
      exact ih _ h1
  have := key l [] List.nodup_nil
  refine ⟨this.1, ?_⟩
  have h2 := this.2
  have e : (sortK (([] : Tab).map (·.1))).map (conv []) = [] := by
    have := sortK_perm ([] : List (List UInt8))
    simp at this
    simp [this]
  rw [e] at h2
  exact h2
theorem tab_len (l : List (List UInt8)) : (outOf l).length = (tabOf l).length := by
  rw [(tab_out l).2, List.length_map, (sortK_perm _).length_eq, List.length_map]

theorem addM_len (s : List UInt8) (m : Tab) : (addM s m).length ≤ m.length + 1 := by
  unfold addM
  split
  · unfold mset
    cases m.any _ <;> simp
  · omega
theorem addM_keys {s : List UInt8} {m : Tab} {M : Nat} (hs : s.length ≤ M) (h : ∀ p ∈ m, p.1.length ≤ M) : ∀ p ∈ addM s m, p.1.length ≤ M := by
  intro p hp
  unfold addM at hp
  cases he : ent s with
  | none => rw [he] at hp; exact h p hp
  | some q =>
    rw [he] at hp
    have := (mset_keys m q.1 q.2 p.1).1 (List.mem_map.2 ⟨p, hp, rfl⟩)
    rcases this with e | hm
    · rw [e]; have := (ent_len he).1; omega
    · obtain ⟨r, hr, e⟩ := List.mem_map.1 hm
      rw [← e]; exact h r hr
theorem vfrom_eq (n M : Nat) (l : List (List UInt8)) (hl : l.length ≤ 138) (hM : ∀ i, i < l.length → (l.getD i default).length ≤ M) (hs : M ≤ 9223372036854775807) (hn : 1000 + M ≤ n) : vars_From n l = some (rFrom l) := by
  have := from_loop l (fun n s i => vars_From_l0 l n (s, i)) addM (fun i s => s.length ≤ i ∧ ∀ p ∈ s, p.1.length ≤ M) (fun s => s) (fun m i s hi hI hm => by
      show vars_From_l0_b l m (vars_From_l0 l m) (s, (i : Int)) = _
      unfold vars_From_l0_b
      simp only
      have h3 : (i : Int) < (l.length : Int) := by omega
      have hlen := hM i hi
      rw [dec_t h3, cond_true, req_pos ⟨by omega, h3⟩, toNat_cast, cut_eq _ (by omega), w64 (by omega)]
      simp only [Option.bind_some]
      unfold long addM ent
      cases hc : cut (l.getD i default) with
      | none => rfl
      | some p =>
        simp only
        rw [chars_Name_eq m p.1 (by omega)]
        cases hr : rName p.1
        · rfl
        · simp only [if_true]
          by_cases hv : 4096 < p.2.length
          · rw [dec_t hv, dec_t (show (4096 : Int) < (p.2.length : Int) by omega)]; rfl
          · rw [dec_f hv, dec_f (show ¬ (4096 : Int) < (p.2.length : Int) by omega)]; rfl) (fun i s hi hI => ⟨by have := addM_len (l.getD i default) s; omega, addM_keys (hM i hi) hI.2⟩) (fun m s => by
      show vars_From_l0_b l m (vars_From_l0 l m) (s, (l.length : Int)) = _
      unfold vars_From_l0_b
      simp) M hM n 0 [] (Nat.zero_le _) (by omega) ⟨by simp, by simp⟩
  rw [List.drop_zero] at this
  obtain ⟨h1, hI⟩ := this
  have h1' : vars_From_l0 l n ([], (0 : Int)) = _ := h1
  unfold vars_From rFrom
  rw [h1']
  cases l.any long
  · simp only [Bool.false_eq_true, if_false, jn_go]
    have hlen := tab_len l
    show cond (decide (128 < ((tabOf l).length : Int))) _ _ = _
    by_cases h8 : 128 < (outOf l).length
    · rw [dec_t (by omega), if_pos h8]; rfl
    · rw [dec_f (by omega), if_neg h8, cond_false]
      have hI2 : ∀ p ∈ tabOf l, p.1.length ≤ M := hI.2
      rw [req_pos ⟨fun p hp => by have := hI2 p hp; unfold maxLen; omega, by omega⟩]
      have hk : (sortK ((tabOf l).map (·.1))).length = (tabOf l).length := by rw [(sortK_perm _).length_eq, List.length_map]
      have := iter_loop (fun n (s : List TVar) i => vars_From_l1 (tabOf l) n (s, i)) (sortK ((tabOf l).map (·.1))).length (fun i s => (fun (k : List UInt8) (s : List TVar) => s ++ [conv (tabOf l) k]) ((sortK ((tabOf l).map (·.1))).getD i default) s) (fun i s => s.length = i) (fun s => s) (fun m i s hi hI => by
          refine ⟨?_, by simp [hI]⟩
          show vars_From_l1_b (tabOf l) m (vars_From_l1 (tabOf l) m) (s, (i : Int)) = _
          unfold vars_From_l1_b
          simp only
          have h3 : (i : Int) < ((sortK ((tabOf l).map (·.1))).length : Int) := by omega
          rw [dec_t h3, cond_true, req_pos ⟨by omega, h3⟩, toNat_cast, w64 (by omega), req_pos ⟨by omega, by omega⟩]
          rfl) (fun m s hI => by
          show vars_From_l1_b (tabOf l) m (vars_From_l1 (tabOf l) m) (s, _) = _
          unfold vars_From_l1_b
          simp) n 0 [] (Nat.zero_le _) (by omega) rfl
      have h2 := this.1
      rw [Nat.sub_zero] at h2
      have e : iter (fun i s => (fun (k : List UInt8) (s : List TVar) => s ++ [conv (tabOf l) k]) ((sortK ((tabOf l).map (·.1))).getD i default) s) (sortK ((tabOf l).map (·.1))).length 0 [] = ((sortK ((tabOf l).map (·.1))).drop 0).foldl (fun s k => s ++ [conv (tabOf l) k]) [] :=
        iter_list (fun (k : List UInt8) (s : List TVar) => s ++ [conv (tabOf l) k]) _ _ 0 [] (by omega)
      have key : ∀ (ks : List (List UInt8)) (o : List TVar), ks.foldl (fun s k => s ++ [conv (tabOf l) k]) o = o ++ ks.map (conv (tabOf l)) := by
        intro ks
        induction ks with
        | nil => intro o; simp
        | cons k ks ih => intro o; rw [List.foldl_cons, ih]; simp
      rw [e, List.drop_zero, key, List.nil_append, ← (tab_out l).2] at h2
      have h2' : vars_From_l1 (tabOf l) n ([], (0 : Int)) = some (outOf l) := h2
      show (vars_From_l1 (tabOf l) n ([], (0 : Int))).bind _ = _
      rw [h2']
      rfl
  · rfl

end Go.Proofs.Ytboofbgcdhjhnaa
