/-
  Layer 15 (vars), plain: Set, Unset and Mark of the program and of the reference, on valid lists.
-/
import Derived.Test.YtboofbgcdhjhnaaVp1
namespace Go.Proofs.Ytboofbgcdhjhnaa
set_option linter.unusedVariables false
open Go.AL

abbrev Srt (l : List TVar) : Prop := l.Pairwise (fun a b => a.fName < b.fName)

/-- A variable put into a list in order. -/
def ins (v : TVar) : List TVar → List TVar
  | [] => [v]
  | x :: xs => bif Op.bytesLess x.fName v.fName then x :: ins v xs else bif x.fName == v.fName then v :: xs else v :: x :: xs

theorem ins_lt {v x : TVar} {xs : List TVar} (h : x.fName < v.fName) : ins v (x :: xs) = x :: ins v xs := by
  rw [ins, (bl_lt _ _).2 h]; rfl
theorem ins_same {v x : TVar} {xs : List TVar} (h : x.fName = v.fName) : ins v (x :: xs) = v :: xs := by
  rw [ins, h, (bl_not _ _).2 (lt_irrefl' _)]; simp
theorem ins_gt {v x : TVar} {xs : List TVar} (h : v.fName < x.fName) : ins v (x :: xs) = v :: x :: xs := by
  have h1 : Op.bytesLess x.fName v.fName = false := (bl_not _ _).2 fun h' => lt_irrefl' _ (lt_trans' h h')
  have h2 : (x.fName == v.fName) = false := by
    apply Bool.eq_false_iff.2; intro e; rw [eq_of_beq e] at h; exact lt_irrefl' _ h
  rw [ins, h1, h2]; rfl

theorem ins_replace {v : TVar} : ∀ {l : List TVar} {i : Nat}, Srt l → i < l.length → (l.getD i default).fName = v.fName → ins v l = l.take i ++ [v] ++ l.drop (i + 1)
  | [], i, _, h, _ => by simp at h
  | x :: xs, 0, _, _, he => by
    have he' : x.fName = v.fName := by simpa using he
    rw [ins_same he']; simp
  | x :: xs, i + 1, hs, hi, he => by
    have hi' : i < xs.length := by simpa using hi
    have he' : (xs.getD i default).fName = v.fName := by simpa using he
    have hx : x.fName < v.fName := by
      rw [← he']
      have := (List.pairwise_cons.1 hs).1 (xs[i]) (List.getElem_mem hi')
      simpa [List.getD, hi'] using this
    rw [ins_lt hx, ins_replace (List.pairwise_cons.1 hs).2 hi' he']
    simp
theorem ins_insert {v : TVar} : ∀ {l : List TVar} {i : Nat}, i ≤ l.length → (∀ j, j < i → (l.getD j default).fName < v.fName) → (∀ j, i ≤ j → j < l.length → v.fName < (l.getD j default).fName) → ins v l = l.take i ++ [v] ++ l.drop i
  | [], i, h, _, _ => by
    have : i = 0 := by simpa using h
    subst this; rfl
  | x :: xs, 0, _, _, h2 => by
    have := h2 0 (Nat.le_refl _) (by simp)
    rw [ins_gt (by simpa using this)]; simp
  | x :: xs, i + 1, hi, h1, h2 => by
    have hx := h1 0 (by omega)
    rw [ins_lt (by simpa using hx), ins_insert (i := i) (by simpa using hi) (fun j hj => by have := h1 (j + 1) (by omega); simpa using this) (fun j hj hl => by have := h2 (j + 1) (by omega) (by simpa using hl); simpa using this)]
    simp

/-! ### the reference's put -/
def putStep (v x : TVar) (s : List TVar × Bool) : List TVar × Bool :=
  (bif x.fName == v.fName then (bif !s.2 && !(Op.bytesLess x.fName v.fName) then s.1 ++ [v] else s.1) else (bif !s.2 && !(Op.bytesLess x.fName v.fName) then s.1 ++ [v] else s.1) ++ [x],
   (!s.2 && !(Op.bytesLess x.fName v.fName)) || s.2)
def fin (v : TVar) (s : List TVar × Bool) : List TVar := bif s.2 then s.1 else s.1 ++ [v]
theorem put_after {v : TVar} : ∀ (l o : List TVar), (∀ x, x ∈ l → v.fName < x.fName) → l.foldl (fun s x => putStep v x s) (o, true) = (o ++ l, true)
  | [], o, _ => by simp
  | x :: xs, o, h => by
    have hx := h x (by simp)
    have h2 : (x.fName == v.fName) = false := by
      apply Bool.eq_false_iff.2; intro e; rw [eq_of_beq e] at hx; exact lt_irrefl' _ hx
    rw [List.foldl_cons]
    have : putStep v x (o, true) = (o ++ [x], true) := by unfold putStep; rw [h2]; rfl
    rw [this, put_after xs _ (fun y hy => h y (by simp [hy]))]
    simp
theorem put_ins {v : TVar} : ∀ (l o : List TVar), Srt l → fin v (l.foldl (fun s x => putStep v x s) (o, false)) = o ++ ins v l
  | [], o, _ => by simp [fin, ins]
  | x :: xs, o, hs => by
    have hs' := List.pairwise_cons.1 hs
    rw [List.foldl_cons]
    rcases lt_tri x.fName v.fName with h | h | h
    · have h1 := (bl_lt _ _).2 h
      have h2 : (x.fName == v.fName) = false := by
        apply Bool.eq_false_iff.2; intro e; rw [eq_of_beq e] at h; exact lt_irrefl' _ h
      have : putStep v x (o, false) = (o ++ [x], false) := by unfold putStep; rw [h1, h2]; rfl
      rw [this, put_ins xs _ hs'.2, ins_lt h]
      simp
    · have h1 : Op.bytesLess x.fName v.fName = false := by rw [h]; exact (bl_not _ _).2 (lt_irrefl' _)
      have : putStep v x (o, false) = (o ++ [v], true) := by unfold putStep; rw [h1, h]; simp
      rw [this, put_after xs _ (fun y hy => by rw [← h]; exact hs'.1 y hy), ins_same h]
      simp [fin]
    · have h1 : Op.bytesLess x.fName v.fName = false := (bl_not _ _).2 fun h' => lt_irrefl' _ (lt_trans' h h')
      have h2 : (x.fName == v.fName) = false := by
        apply Bool.eq_false_iff.2; intro e; rw [eq_of_beq e] at h; exact lt_irrefl' _ h
      have : putStep v x (o, false) = (o ++ [v] ++ [x], true) := by unfold putStep; rw [h1, h2]; rfl
      rw [this, put_after xs _ (fun y hy => lt_trans' h (hs'.1 y hy)), ins_gt h]
      simp [fin]
theorem putStep_len (v x : TVar) (s : List TVar × Bool) : (putStep v x s).1.length ≤ s.1.length + 1 + ((putStep v x s).2.toNat - s.2.toNat) ∧ s.2.toNat ≤ (putStep v x s).2.toNat := by
  obtain ⟨o, d⟩ := s
  unfold putStep
  cases d <;> cases Op.bytesLess x.fName v.fName <;> cases (x.fName == v.fName) <;> simp
theorem put_eq (n : Nat) (l : List TVar) (v : TVar) (hs : Srt l) (hn : l.length < n) (hl : l.length ≤ 1000) : ref15_put n l v = some (ins v l) := by
  unfold ref15_put
  have := iter_loop (fun n (s : List TVar × Bool) i => ref15_put_l0 l v n (s.1, s.2, i)) l.length (fun i => putStep v (l.getD i default)) (fun i s => s.1.length ≤ i + s.2.toNat) (fun s => s) (fun m i s hi hI => by
      have hb := Bool.toNat_le s.2
      refine ⟨?_, ?_⟩
      · show ref15_put_l0_b l v m (ref15_put_l0 l v m) (s.1, s.2, (i : Int)) = _
        unfold ref15_put_l0_b
        simp only
        have h1 : (i : Int) < (l.length : Int) := by omega
        rw [dec_t h1, cond_true, req_pos ⟨fun _ => by omega, fun _ => h1⟩, toNat_cast, w64 (by omega)]
        have hc : (cond (cond (!s.2) (!(Op.bytesLess (l.getD i default).fName v.fName)) false) (req ((s.1.length + 1 ≤ 9223372036854775807) ∧ ((s.1.length + 1) * 40 ≤ 140737488355328)) (some (s.1 ++ [v], true))) (some (s.1, s.2)))
            = some ((bif !s.2 && !(Op.bytesLess (l.getD i default).fName v.fName) then s.1 ++ [v] else s.1), (!s.2 && !(Op.bytesLess (l.getD i default).fName v.fName)) || s.2) := by
          rw [req_pos ⟨by omega, by omega⟩]
          obtain ⟨o, d⟩ := s
          cases d <;> cases Op.bytesLess (l.getD i default).fName v.fName <;> rfl
        rw [hc]
        simp only [Option.bind_some]
        rw [req_pos ⟨by omega, h1⟩]
        have hlen : (bif !s.2 && !(Op.bytesLess (l.getD i default).fName v.fName) then s.1 ++ [v] else s.1).length ≤ s.1.length + 1 := by
          cases (!s.2 && !(Op.bytesLess (l.getD i default).fName v.fName)) <;> simp
        rw [req_pos ⟨by omega, by omega⟩]
        unfold putStep
        cases ((l.getD i default).fName == v.fName) <;> rfl
      · have := putStep_len v (l.getD i default) s
        have hb2 := Bool.toNat_le (putStep v (l.getD i default) s).2
        show (putStep v (l.getD i default) s).1.length ≤ i + 1 + (putStep v (l.getD i default) s).2.toNat
        omega) (fun m s hI => by
      show ref15_put_l0_b l v m (ref15_put_l0 l v m) (s.1, s.2, (l.length : Int)) = _
      unfold ref15_put_l0_b
      simp) n 0 ([], false) (Nat.zero_le _) (by omega) (by simp)
  have e : iter (fun i => putStep v (l.getD i default)) l.length 0 ([], false) = (l.drop 0).foldl (fun s x => putStep v x s) ([], false) := iter_list (putStep v) l l.length 0 ([], false) (by omega)
  simp only [Nat.sub_zero, e, List.drop_zero] at this
  obtain ⟨h1, h2⟩ := this
  have h1' : ref15_put_l0 l v n ([], false, (0 : Int)) = some (l.foldl (fun s x => putStep v x s) ([], false)) := h1
  rw [h1']
  have hp := put_ins (v := v) l [] hs
  rw [List.nil_append] at hp
  rw [← hp]
  simp only [Option.bind_some]
  generalize l.foldl (fun s x => putStep v x s) ([], false) = s at h2
  have hb := Bool.toNat_le s.2
  rw [req_pos ⟨by omega, by omega⟩]
  unfold fin
  cases s.2 <;> rfl

/-! ### lists in order -/
theorem ins_mem {v : TVar} : ∀ {l : List TVar} {x : TVar}, x ∈ ins v l → x = v ∨ x ∈ l
  | [], x, h => by simp [ins] at h; exact .inl h
  | y :: ys, x, h => by
    rcases lt_tri y.fName v.fName with h1 | h1 | h1
    · rw [ins_lt h1] at h
      rcases List.mem_cons.1 h with h | h
      · exact .inr (by rw [h]; exact List.mem_cons_self ..)
      · exact (ins_mem h).imp id (List.mem_cons_of_mem _)
    · rw [ins_same h1] at h
      exact (List.mem_cons.1 h).imp id (List.mem_cons_of_mem _)
    · rw [ins_gt h1] at h
      exact List.mem_cons.1 h
theorem ins_srt {v : TVar} : ∀ {l : List TVar}, Srt l → Srt (ins v l)
  | [], _ => by simp [ins, Srt]
  | x :: xs, hs => by
    have hs' := List.pairwise_cons.1 hs
    rcases lt_tri x.fName v.fName with h | h | h
    · rw [ins_lt h]
      refine List.pairwise_cons.2 ⟨fun y hy => ?_, ins_srt hs'.2⟩
      rcases ins_mem hy with rfl | hy
      · exact h
      · exact hs'.1 y hy
    · rw [ins_same h]
      exact List.pairwise_cons.2 ⟨fun y hy => by rw [← h]; exact hs'.1 y hy, hs'.2⟩
    · rw [ins_gt h]
      refine List.pairwise_cons.2 ⟨fun y hy => ?_, hs⟩
      rcases List.mem_cons.1 hy with rfl | hy
      · exact h
      · exact lt_trans' h (hs'.1 y hy)
theorem find_lt {l : List TVar} {name : List UInt8} (h : ∀ y, y ∈ l → name < y.fName) : l.find? (fun v => v.fName == name) = none := by
  rw [List.find?_eq_none]
  intro y hy he
  have := h y hy
  rw [eq_of_beq he] at this
  exact lt_irrefl' _ this
theorem find_ins {v : TVar} (name : List UInt8) : ∀ {l : List TVar}, Srt l → (ins v l).find? (fun x => x.fName == name) = if v.fName = name then some v else l.find? (fun x => x.fName == name)
  | [], _ => by
    by_cases h : v.fName = name
    · simp [ins, h]
    · simp [ins, h]
  | x :: xs, hs => by
    have hs' := List.pairwise_cons.1 hs
    rcases lt_tri x.fName v.fName with h | h | h
    · rw [ins_lt h, List.find?_cons, List.find?_cons, find_ins name hs'.2]
      cases hx : (x.fName == name) with
      | false => rfl
      | true =>
        have hne : ¬ v.fName = name := fun e => by rw [e, ← eq_of_beq hx] at h; exact lt_irrefl' _ h
        simp only [if_neg hne]
    · rw [ins_same h, List.find?_cons, List.find?_cons, h]
      by_cases hv : v.fName = name
      · rw [if_pos hv, hv]; simp
      · rw [if_neg hv]
        have : (v.fName == name) = false := by simpa using hv
        rw [this]
    · rw [ins_gt h, List.find?_cons]
      by_cases hv : v.fName = name
      · rw [if_pos hv, hv]; simp
      · rw [if_neg hv]
        have : (v.fName == name) = false := by simpa using hv
        rw [this]
theorem ins_len {v : TVar} : ∀ {l : List TVar}, Srt l → (ins v l).length = l.length + (if (l.find? (fun x => x.fName == v.fName)).isSome then 0 else 1)
  | [], _ => by simp [ins]
  | x :: xs, hs => by
    have hs' := List.pairwise_cons.1 hs
    rcases lt_tri x.fName v.fName with h | h | h
    · have hx : (x.fName == v.fName) = false := by
        apply Bool.eq_false_iff.2; intro e; rw [eq_of_beq e] at h; exact lt_irrefl' _ h
      rw [ins_lt h, List.find?_cons, hx]
      simp only [List.length_cons]
      rw [ins_len hs'.2]
      omega
    · rw [ins_same h, List.find?_cons, h]; simp
    · have hx : (x.fName == v.fName) = false := by
        apply Bool.eq_false_iff.2; intro e; rw [eq_of_beq e] at h; exact lt_irrefl' _ h
      rw [ins_gt h, List.find?_cons, hx, find_lt (l := xs) (fun y hy => lt_trans' h (hs'.1 y hy))]
      simp
theorem ok_ins {v : TVar} {l : List TVar} (h : Ok l) (hn : rName v.fName = true) (hv : v.fValue.length ≤ 4096) (hs : v.fSet = false → v.fValue = []) (hl : (rGet l v.fName).2 = true ∨ l.length < 128) : Ok (ins v l) := by
  refine ⟨?_, fun x hx => ?_, fun x hx => ?_, fun x hx => ?_, ins_srt h.sorted⟩
  · rw [ins_len h.sorted]
    have := h.len
    unfold rGet at hl
    cases hf : l.find? (fun x => x.fName == v.fName) with
    | none => rw [hf] at hl; simp at hl ⊢; omega
    | some y => simp; omega
  · rcases ins_mem hx with rfl | hx
    · exact hn
    · exact h.name x hx
  · rcases ins_mem hx with rfl | hx
    · exact hv
    · exact h.value x hx
  · rcases ins_mem hx with rfl | hx
    · exact hs
    · exact h.set x hx

/-! ### place, splice -/
def ixEq (l : List TVar) (name : List UInt8) : Int := ixOf (fun v => v.fName == name) l
def ixGt (l : List TVar) (name : List UInt8) : Int := ixOf (fun v => !(Op.bytesLess v.fName name || v.fName == name)) l
theorem place_eq (n : Nat) (l : List TVar) (name : List UInt8) (hn : l.length < n) (hl : l.length ≤ 9223372036854775806) :
    vars_place n l name = some (if 0 ≤ ixEq l name then (ixEq l name, true) else if 0 ≤ ixGt l name then (ixGt l name, false) else ((l.length : Int), false)) := by
  unfold vars_place
  have h1 : vars_find_i1 n l name = some (ixEq l name) := by
    unfold vars_find_i1
    exact ix_loop (fun v => v.fName == name) l (vars_find_i1_l0 l name) hl (fun n x => rfl) n hn
  have h2 : vars_find_i2 n l name = some (ixGt l name) := by
    unfold vars_find_i2
    exact ix_loop (fun v => !(Op.bytesLess v.fName name || v.fName == name)) l (vars_find_i2_l0 l name) hl (fun n x => rfl) n hn
  rw [h1, h2]
  simp only [Option.bind_some]
  by_cases ha : 0 ≤ ixEq l name
  · rw [dec_t ha, if_pos ha]; rfl
  · rw [dec_f ha, if_neg ha]
    by_cases hb : 0 ≤ ixGt l name
    · rw [dec_t hb, if_pos hb]; rfl
    · rw [dec_f hb, if_neg hb]; rfl
theorem splice_eq (l w : List TVar) (i k : Nat) (hl : l.length ≤ 1000) (hw : w.length ≤ 1000) (hi : i + k ≤ l.length) : vars_splice l (i : Int) (k : Int) w = some (l.take i ++ w ++ l.drop (i + k)) := by
  unfold vars_splice
  have e1 : ((i : Int) + (k : Int)).toNat = i + k := by omega
  have ht : (l.take i).length ≤ 1000 := by simp; omega
  have hd : (l.drop (i + k)).length ≤ 1000 := by simp; omega
  rw [w64 (x := (l.length : Int) + (w.length : Int)) (by omega), w64 (x := (i : Int) + (k : Int)) (by omega), req_pos ⟨by omega, by omega, by omega⟩, toNat_cast, e1,
    req_pos ⟨by omega, by omega, by omega, by omega⟩, req_pos ⟨by omega, by omega⟩, req_pos ⟨by omega, by omega, by simp only [List.length_append]; omega, by simp only [List.length_append]; omega⟩]
/-- Where a name stands in a list in order, or belongs. -/
theorem place_cases {l : List TVar} (hs : Srt l) (name : List UInt8) :
    (∃ i : Nat, ixEq l name = (i : Int) ∧ i < l.length ∧ (l.getD i default).fName = name ∧ rGet l name = (l.getD i default, true)) ∨
    (ixEq l name = -1 ∧ rGet l name = (zVar, false) ∧ ∃ i : Nat, i ≤ l.length ∧ (if 0 ≤ ixGt l name then (ixGt l name, false) else ((l.length : Int), false)) = ((i : Int), false) ∧
      (∀ j, j < i → (l.getD j default).fName < name) ∧ ∀ j, i ≤ j → j < l.length → name < (l.getD j default).fName) := by
  rcases ix_cases (fun v => v.fName == name) l with ⟨h, hq⟩ | ⟨i, h, hi, hp, hq⟩
  · right
    refine ⟨h, by unfold rGet; rw [find_none hq], ?_⟩
    have hne : ∀ j, j < l.length → (l.getD j default).fName ≠ name := fun j hj e => by have := hq j hj; rw [e] at this; simp at this
    have hgt : ∀ j, (!(Op.bytesLess (l.getD j default).fName name || (l.getD j default).fName == name)) = false → (l.getD j default).fName < name ∨ (l.getD j default).fName = name := fun j h => by
      simp only [Bool.not_eq_false', Bool.or_eq_true, bl_lt, beq_iff_eq] at h
      exact h
    rcases ix_cases (fun v => !(Op.bytesLess v.fName name || v.fName == name)) l with ⟨h2, hq2⟩ | ⟨i, h2, hi2, hp2, hq2⟩
    · refine ⟨l.length, Nat.le_refl _, ?_, fun j hj => ?_, fun j h1 h2 => by omega⟩
      · unfold ixGt; rw [h2]; rfl
      · exact (hgt j (hq2 j hj)).resolve_right (hne j hj)
    · refine ⟨i, by omega, ?_, fun j hj => ?_, fun j h1 h3 => ?_⟩
      · unfold ixGt; rw [h2, if_pos (by omega)]
      · exact (hgt j (hq2 j hj)).resolve_right (hne j (by omega))
      · have hg : name < (l.getD i default).fName := by
          simp only [Bool.not_eq_true', Bool.or_eq_false_iff] at hp2
          rcases lt_tri (l.getD i default).fName name with h | h | h
          · rw [(bl_lt _ _).2 h] at hp2; simp at hp2
          · exact absurd h (hne i hi2)
          · exact h
        rcases Nat.eq_or_lt_of_le h1 with rfl | h1
        · exact hg
        · have := List.pairwise_iff_getElem.1 hs i j hi2 h3 h1
          have e : (l.getD i default).fName < (l.getD j default).fName := by simpa [List.getD, hi2, h3] using this
          exact lt_trans' hg e
  · left
    have hp' : (l.getD i default).fName = name := by simpa using hp
    exact ⟨i, h, hi, hp', by unfold rGet; rw [find_at hi hp hq]⟩

/-! ### Set -/
def rSet (l : List TVar) (name value : List UInt8) : List TVar × Int :=
  if rName name then
    if (rGet l name).1.fReadonly then (l, 11)
    else if 4096 < value.length then (l, 3)
    else if (rGet l name).2 = false ∧ 128 ≤ l.length then (l, 4)
    else (ins ⟨name, value, true, (rGet l name).1.fExport, false⟩ l, 0)
  else (l, 10)
theorem set_eq (n : Nat) (l : List TVar) (name value : List UInt8) (h : Ok l) (hn : 200 ≤ n) : ref15_Set n l name value = some (rSet l name value) := by
  have hl := h.len
  unfold ref15_Set rSet
  rw [get_eq n l name (by omega) (by omega), ref01_Name_eq n name (by omega)]
  simp only [Option.bind_some]
  cases rName name
  · rfl
  simp only [Bool.not_true, cond_false, if_true]
  cases (rGet l name).1.fReadonly
  · simp only [cond_false, Bool.false_eq_true, if_false]
    by_cases hv : 4096 < value.length
    · rw [dec_t (by omega), if_pos hv]; rfl
    rw [dec_f (by omega), if_neg hv, cond_false]
    rw [put_eq n l _ h.sorted (by omega) (by omega)]
    cases (rGet l name).2
    · by_cases h8 : 128 ≤ l.length
      · rw [dec_t (by omega), if_pos ⟨rfl, h8⟩]; rfl
      · rw [dec_f (by omega), if_neg (fun h => h8 h.2)]; rfl
    · rw [if_neg (fun h => by cases h.1)]; rfl
  · rfl
theorem vset_eq (n : Nat) (l : List TVar) (name value : List UInt8) (h : Ok l) (hn : 200 ≤ n) : vars_Set n l name value = some (rSet l name value) := by
  have hl := h.len
  unfold vars_Set rSet
  rw [chars_Name_eq n name (by omega), place_eq n l name (by omega) (by omega)]
  simp only [Option.bind_some]
  cases rName name
  · rfl
  simp only [Bool.not_true, cond_false, if_true]
  rcases place_cases h.sorted name with ⟨i, hi, hlt, he, hg⟩ | ⟨hi, hg, i, hle, hp, h1, h2⟩
  · rw [hi, if_pos (by omega), hg]
    simp only
    rw [req_pos ⟨fun _ => by omega, fun _ => by omega⟩, toNat_cast]
    simp only [cond_true]
    cases hr : (l.getD i default).fReadonly
    · simp only [cond_false, Bool.false_eq_true, if_false]
      by_cases hv : 4096 < value.length
      · rw [dec_t (by omega), if_pos hv]; rfl
      rw [dec_f (by omega), if_neg hv, if_neg (fun h => by cases h.1)]
      simp only [Bool.not_true, cond_false]
      rw [req_pos ⟨by omega, by omega⟩]
      have := splice_eq l [TVar.mk (l.getD i default).fName value true (l.getD i default).fExport false] i 1 (by omega) (by simp) (by omega)
      rw [show ((1 : Nat) : Int) = 1 from rfl] at this
      rw [this, ins_replace h.sorted hlt (by simpa using he), he]
      rfl
    · rfl
  · rw [hi, if_neg (by omega), hp, hg]
    simp only
    rw [req_pos ⟨(fun h => by cases h), (fun h => by cases h)⟩]
    simp only [cond_false, zVar, Bool.false_eq_true, if_false]
    by_cases hv : 4096 < value.length
    · rw [dec_t (by omega), if_pos hv]; rfl
    rw [dec_f (by omega), if_neg hv]
    simp only [cond_false, Bool.not_false, cond_true]
    by_cases h8 : 128 ≤ l.length
    · rw [dec_t (by omega), if_pos ⟨trivial, h8⟩]; rfl
    · rw [dec_f (by omega), if_neg (fun h => h8 h.2)]
      simp only [cond_false]
      have := splice_eq l [TVar.mk name value true false false] i 0 (by omega) (by simp) (by omega)
      rw [show ((0 : Nat) : Int) = 0 from rfl] at this
      rw [this, ins_insert hle h1 h2]
      rfl
theorem set_ok {l : List TVar} {name value : List UInt8} (h : Ok l) : Ok (rSet l name value).1 := by
  unfold rSet
  (repeat' split) <;> try exact h
  rename_i hn hr hv h8
  refine ok_ins h hn (by simpa using Nat.le_of_not_lt hv) (fun e => by cases e) ?_
  cases hg : (rGet l name).2
  · right
    rw [hg] at h8
    have : ¬ 128 ≤ l.length := fun h => h8 ⟨rfl, h⟩
    omega
  · left; rfl

/-! ### Mark -/
def rMark (l : List TVar) (name : List UInt8) (ex ro : Bool) : List TVar × Int :=
  if rName name then
    if (rGet l name).2 = false ∧ 128 ≤ l.length then (l, 4)
    else (ins ⟨name, (rGet l name).1.fValue, (rGet l name).1.fSet, cond (rGet l name).1.fExport true ex, cond (rGet l name).1.fReadonly true ro⟩ l, 0)
  else (l, 10)
theorem mark_eq (n : Nat) (l : List TVar) (name : List UInt8) (ex ro : Bool) (h : Ok l) (hn : 200 ≤ n) : ref15_Mark n l name ex ro = some (rMark l name ex ro) := by
  have hl := h.len
  unfold ref15_Mark rMark
  rw [ref01_Name_eq n name (by omega)]
  simp only [Option.bind_some]
  cases rName name
  · rfl
  simp only [Bool.not_true, cond_false, if_true]
  rw [get_eq n l name (by omega) (by omega)]
  simp only [Option.bind_some]
  rw [put_eq n l _ h.sorted (by omega) (by omega)]
  cases (rGet l name).2
  · by_cases h8 : 128 ≤ l.length
    · rw [dec_t (by omega), if_pos ⟨rfl, h8⟩]; rfl
    · rw [dec_f (by omega), if_neg (fun h => h8 h.2)]; rfl
  · rw [if_neg (fun h => by cases h.1)]; rfl
theorem vmark_eq (n : Nat) (l : List TVar) (name : List UInt8) (ex ro : Bool) (h : Ok l) (hn : 200 ≤ n) : vars_Mark n l name ex ro = some (rMark l name ex ro) := by
  have hl := h.len
  unfold vars_Mark rMark
  rw [chars_Name_eq n name (by omega), place_eq n l name (by omega) (by omega)]
  simp only [Option.bind_some]
  cases rName name
  · rfl
  simp only [Bool.not_true, cond_false, if_true]
  rcases place_cases h.sorted name with ⟨i, hi, hlt, he, hg⟩ | ⟨hi, hg, i, hle, hp, h1, h2⟩
  · rw [hi, if_pos (by omega), hg]
    simp only
    rw [toNat_cast]
    simp only [Bool.not_true, cond_false]
    rw [req_pos ⟨by omega, by omega⟩, if_neg (fun h => by cases h.1)]
    have := splice_eq l [TVar.mk (l.getD i default).fName (l.getD i default).fValue (l.getD i default).fSet (cond (l.getD i default).fExport true ex) (cond (l.getD i default).fReadonly true ro)] i 1 (by omega) (by simp) (by omega)
    rw [show ((1 : Nat) : Int) = 1 from rfl] at this
    rw [this, ins_replace h.sorted hlt (by simpa using he), he]
    rfl
  · rw [hi, if_neg (by omega), hp, hg]
    simp only [Bool.not_false, cond_true]
    by_cases h8 : 128 ≤ l.length
    · rw [dec_t (by omega), if_pos ⟨trivial, h8⟩]; rfl
    · rw [dec_f (by omega), if_neg (fun h => h8 h.2)]
      simp only [cond_false]
      have := splice_eq l [TVar.mk name [] false ex ro] i 0 (by omega) (by simp) (by omega)
      rw [show ((0 : Nat) : Int) = 0 from rfl] at this
      rw [this, ins_insert hle h1 h2]
      rfl
theorem get_mem {l : List TVar} {name : List UInt8} : rGet l name = (zVar, false) ∨ ((rGet l name).2 = true ∧ (rGet l name).1 ∈ l ∧ (rGet l name).1.fName = name) := by
  unfold rGet
  cases hf : l.find? (fun v => v.fName == name) with
  | none => exact .inl rfl
  | some v => exact .inr ⟨rfl, List.mem_of_find?_eq_some hf, by have := List.find?_some hf; simpa using this⟩
theorem mark_ok {l : List TVar} {name : List UInt8} {ex ro : Bool} (h : Ok l) : Ok (rMark l name ex ro).1 := by
  unfold rMark
  (repeat' split) <;> try exact h
  rename_i hn h8
  have hgl : (rGet l name).2 = true ∨ l.length < 128 := by
    cases hg : (rGet l name).2
    · right
      rw [hg] at h8
      have : ¬ 128 ≤ l.length := fun h => h8 ⟨rfl, h⟩
      omega
    · exact .inl rfl
  rcases get_mem (l := l) (name := name) with hz | ⟨-, hm, -⟩
  · refine ok_ins h hn (by simp [hz, zVar]) (fun _ => by simp [hz, zVar]) hgl
  · exact ok_ins h hn (h.value (rGet l name).1 hm) (fun e => h.set (rGet l name).1 hm e) hgl

/-! ### Unset -/
def rUnset (l : List TVar) (name : List UInt8) : List TVar × Int :=
  if (rGet l name).1.fReadonly then (l, 11) else (l.filter (fun v => !(v.fName == name)), 0)
theorem unset_eq (n : Nat) (l : List TVar) (name : List UInt8) (hl : l.length ≤ 1000) (hn : l.length < n) : ref15_Unset n l name = some (rUnset l name) := by
  unfold ref15_Unset rUnset
  rw [get_eq n l name (by omega) (by omega)]
  simp only [Option.bind_some]
  cases (rGet l name).1.fReadonly
  · simp only [cond_false, Bool.false_eq_true, if_false]
    have := iter_loop (fun n (s : List TVar) i => ref15_Unset_l0 l name n (s, i)) l.length (fun i s => (fun (x : TVar) (s : List TVar) => bif !(x.fName == name) then s ++ [x] else s) (l.getD i default) s) (fun i s => s.length ≤ i) (fun s => s) (fun m i s hi hI => by
        refine ⟨?_, ?_⟩
        · show ref15_Unset_l0_b l name m (ref15_Unset_l0 l name m) (s, (i : Int)) = _
          unfold ref15_Unset_l0_b
          simp only
          have h1 : (i : Int) < (l.length : Int) := by omega
          rw [dec_t h1, cond_true, req_pos ⟨by omega, h1⟩, toNat_cast, w64 (by omega), req_pos ⟨by omega, by omega⟩]
          cases (!((l.getD i default).fName == name)) <;> rfl
        · simp only
          cases (!((l.getD i default).fName == name)) <;> simp <;> omega) (fun m s hI => by
        show ref15_Unset_l0_b l name m (ref15_Unset_l0 l name m) (s, (l.length : Int)) = _
        unfold ref15_Unset_l0_b
        simp) n 0 [] (Nat.zero_le _) (by omega) (by simp)
    have h1 := this.1
    rw [Nat.sub_zero] at h1
    have e : iter (fun i s => (fun (x : TVar) (s : List TVar) => bif !(x.fName == name) then s ++ [x] else s) (l.getD i default) s) l.length 0 [] = (l.drop 0).foldl (fun s x => bif !(x.fName == name) then s ++ [x] else s) [] :=
      iter_list (fun (x : TVar) (s : List TVar) => bif !(x.fName == name) then s ++ [x] else s) l l.length 0 [] (by omega)
    rw [e, List.drop_zero] at h1
    have h2 : ref15_Unset_l0 l name n ([], (0 : Int)) = some (l.foldl (fun s x => bif !(x.fName == name) then s ++ [x] else s) []) := h1
    rw [h2]
    have key : ∀ (l o : List TVar), l.foldl (fun s x => bif !(x.fName == name) then s ++ [x] else s) o = o ++ l.filter (fun v => !(v.fName == name)) := by
      intro l
      induction l with
      | nil => intro o; simp
      | cons x xs ih =>
        intro o
        rw [List.foldl_cons, ih, List.filter_cons]
        cases (!(x.fName == name)) <;> simp
    rw [key]
    rfl
  · rfl
theorem filter_all {l : List TVar} {name : List UInt8} (h : ∀ x, x ∈ l → x.fName ≠ name) : l.filter (fun v => !(v.fName == name)) = l := by
  rw [List.filter_eq_self]
  intro x hx
  simpa using h x hx
theorem filter_at {name : List UInt8} : ∀ {l : List TVar} {i : Nat}, Srt l → i < l.length → (l.getD i default).fName = name → l.filter (fun v => !(v.fName == name)) = l.take i ++ l.drop (i + 1)
  | [], i, _, h, _ => by simp at h
  | x :: xs, 0, hs, _, he => by
    have hx : x.fName = name := by simpa using he
    have hs' := List.pairwise_cons.1 hs
    rw [List.filter_cons, hx, filter_all (l := xs) (fun y hy e => by have := hs'.1 y hy; rw [hx, e] at this; exact lt_irrefl' _ this)]
    simp
  | x :: xs, i + 1, hs, hi, he => by
    have hi' : i < xs.length := by simpa using hi
    have he' : (xs.getD i default).fName = name := by simpa using he
    have hs' := List.pairwise_cons.1 hs
    have hx : (x.fName == name) = false := by
      apply Bool.eq_false_iff.2
      intro e
      have := hs'.1 (xs[i]) (List.getElem_mem hi')
      have e2 : (xs[i]).fName = name := by simpa [List.getD, hi'] using he'
      rw [e2, eq_of_beq e] at this
      exact lt_irrefl' _ this
    rw [List.filter_cons, hx, filter_at hs'.2 hi' he']
    simp
theorem vunset_eq (n : Nat) (l : List TVar) (name : List UInt8) (h : Ok l) (hn : 200 ≤ n) : vars_Unset n l name = some (rUnset l name) := by
  have hl := h.len
  unfold vars_Unset rUnset
  rw [place_eq n l name (by omega) (by omega)]
  simp only [Option.bind_some]
  rcases place_cases h.sorted name with ⟨i, hi, hlt, he, hg⟩ | ⟨hi, hg, i, hle, hp, h1, h2⟩
  · rw [hi, if_pos (by omega), hg]
    simp only [Bool.not_true, cond_false]
    rw [req_pos ⟨by omega, by omega⟩, toNat_cast]
    cases (l.getD i default).fReadonly
    · simp only [cond_false, Bool.false_eq_true, if_false]
      have := splice_eq l [] i 1 (by omega) (by simp) (by omega)
      rw [show ((1 : Nat) : Int) = 1 from rfl] at this
      rw [this, filter_at h.sorted hlt he]
      simp
    · rfl
  · rw [hi, if_neg (by omega), hp, hg]
    simp only [Bool.not_false, cond_true, zVar, Bool.false_eq_true, if_false]
    rw [filter_all (fun x hx e => by
      obtain ⟨j, hj, rfl⟩ := List.getElem_of_mem hx
      have e1 : (l.getD j default).fName = name := by simpa [List.getD, hj] using e
      by_cases hji : j < i
      · have := h1 j hji; rw [e1] at this; exact lt_irrefl' _ this
      · have := h2 j (by omega) hj; rw [e1] at this; exact lt_irrefl' _ this)]
theorem unset_ok {l : List TVar} {name : List UInt8} (h : Ok l) : Ok (rUnset l name).1 := by
  unfold rUnset
  split
  · exact h
  · have hs : (l.filter (fun v => !(v.fName == name))).Sublist l := List.filter_sublist
    exact ⟨Nat.le_trans hs.length_le h.len, fun v hv => h.name v (hs.subset hv), fun v hv => h.value v (hs.subset hv), fun v hv => h.set v (hs.subset hv), h.sorted.sublist hs⟩

end Go.Proofs.Ytboofbgcdhjhnaa
