/-
  Calc: environments: the program's map and the reference's ascending bindings.
-/
import Derived.Test.YtamjncikmfpihaaGreatDoorNu
import Derived.Test.YtamjncikmfpihaaGreatDoorSo
import Derived.Test.YtamjncikmfpihaaGreatDoorEw
namespace Go.Proofs.YtamjncikmfpihaaGreatDoor
open Go.RT
set_option linter.all false
set_option maxRecDepth 100000

abbrev Env := List (List UInt8 × List UInt8)
def Bk (m : Env) (k : List UInt8) : TBinding := ⟨k, mget keq m k []⟩
/-- The bindings of a map, ascending. -/
def toB (m : Env) : List TBinding := (sortK (m.map (·.1))).map (Bk m)
def Nd (m : Env) : Prop := (m.map (·.1)).Nodup
def Asc (l : List TBinding) : Prop := l.Pairwise fun x y => x.fName < y.fName

theorem toB_asc {m : Env} (h : Nd m) : Asc (toB m) := List.pairwise_map.2 ((sortK_srt h).imp fun h => h)
theorem toB_mem (m : Env) (x : TBinding) : x ∈ toB m ↔ ∃ k, k ∈ m.map (·.1) ∧ x = Bk m k := by
  unfold toB
  rw [List.mem_map]
  constructor
  · rintro ⟨k, hk, rfl⟩
    exact ⟨k, (sortK_perm _).mem_iff.1 hk, rfl⟩
  · rintro ⟨k, hk, rfl⟩
    exact ⟨k, (sortK_perm _).mem_iff.2 hk, rfl⟩
theorem toB_len (m : Env) : (toB m).length = m.length := by
  unfold toB
  rw [List.length_map, (sortK_perm _).length_eq, List.length_map]

/-- A binding put into a list. -/
def insB (k v : List UInt8) : List TBinding → Bool → List TBinding
  | [], put => cond put [] [⟨k, v⟩]
  | x :: l, put => cond (!put && !(Op.bytesLess x.fName k)) [⟨k, v⟩] [] ++ (cond (x.fName == k) [] [x] ++ insB k v l (put || !(Op.bytesLess x.fName k)))
def bstep (k v : List UInt8) (t : List TBinding × Bool) (x : TBinding) : List TBinding × Bool :=
  (t.1 ++ (cond (!t.2 && !(Op.bytesLess x.fName k)) [⟨k, v⟩] [] ++ cond (x.fName == k) [] [x]), t.2 || !(Op.bytesLess x.fName k))
theorem bstep_fold (k v : List UInt8) : ∀ (l : List TBinding) (t : List TBinding × Bool), (l.foldl (bstep k v) t).1 ++ cond (l.foldl (bstep k v) t).2 [] [⟨k, v⟩] = t.1 ++ insB k v l t.2
  | [], t => rfl
  | x :: l, t => by
    rw [List.foldl_cons, bstep_fold k v l]
    simp only [bstep, insB, List.append_assoc]

theorem bind_eq (F : Nat) (l : List TBinding) (k v : List UInt8) (hF : l.length < F) (hl : l.length ≤ 1000000) : ref06_bind F l k v = some (insB k v l false) := by
  unfold ref06_bind
  refine loopF_foldI l (fun i (t : List TBinding × Bool) => (t.1, t.2, (i : Int))) (bstep k v) (fun i t => t.1.length ≤ 2 * i) (t := ([], false)) hF rfl (by simp) ?_ ?_ ?_
  · intro i h t rc hI
    simp only [dlt h, dnn, Bool.and_self, cond_true, rq_tt, Int.toNat_natCast, gd h, w64_nat (i := i) (by omega), bstep]
    rw [rq_cap (by simp; omega) (by omega)]
    cases t.2 <;> cases Op.bytesLess l[i].fName k <;> cases (l[i].fName == k) <;>
      simp only [cond_true, cond_false, Option.bind_some, Bool.not_true, Bool.not_false, Bool.and_true, Bool.and_false, Bool.true_and, Bool.false_and, Bool.or_true, Bool.or_false, List.append_nil, List.nil_append, List.append_assoc]
    all_goals (try rw [rq_cap (by simp; omega) (by omega)])
    all_goals rfl
  · intro i h t hI
    simp only [bstep]
    cases (!t.2 && !Op.bytesLess l[i].fName k) <;> cases (l[i].fName == k) <;> simp <;> omega
  · intro rc hI
    have hb := bstep_fold k v l ([], false)
    generalize l.foldl (bstep k v) ([], false) = t at hI hb ⊢
    simp only [dltn, cond_false]
    rw [rq_cap (by simp; omega) (by omega)]
    simp only [List.nil_append] at hb
    rw [← hb]
    cases t.2 <;> simp

theorem insB_mem (k v : List UInt8) : ∀ (l : List TBinding) (put : Bool) (x : TBinding), x ∈ insB k v l put ↔ (put = false ∧ x = ⟨k, v⟩) ∨ (x ∈ l ∧ x.fName ≠ k)
  | [], put, x => by cases put <;> simp [insB]
  | y :: l, put, x => by
    have e1 : ∀ c : Bool, x ∈ (cond c [⟨k, v⟩] [] : List TBinding) ↔ c = true ∧ x = ⟨k, v⟩ := fun c => by cases c <;> simp
    have e2 : x ∈ (cond (y.fName == k) [] [y] : List TBinding) ↔ x = y ∧ y.fName ≠ k := by
      cases h : (y.fName == k) with
      | true => simp [eq_of_beq h]
      | false => rw [beq_eq_false_iff_ne] at h; simp [h]
    simp only [insB, List.mem_append, insB_mem k v l, e1, e2, List.mem_cons]
    constructor
    · rintro (⟨h1, h2⟩ | ⟨rfl, h2⟩ | ⟨h1, h2⟩ | ⟨h1, h2⟩)
      · left; exact ⟨by cases put <;> simp_all, h2⟩
      · right; exact ⟨.inl rfl, h2⟩
      · left; exact ⟨by cases put <;> simp_all, h2⟩
      · right; exact ⟨.inr h1, h2⟩
    · rintro (⟨rfl, h2⟩ | ⟨rfl | h1, h2⟩)
      · cases Op.bytesLess y.fName k
        · left; simp [h2]
        · right; right; left; simp [h2]
      · right; left; exact ⟨rfl, h2⟩
      · right; right; right; exact ⟨h1, h2⟩
theorem insB_asc {k v : List UInt8} : ∀ {l : List TBinding} {put : Bool}, Asc l → (put = true → ∀ x, x ∈ l → k < x.fName) → Asc (insB k v l put)
  | [], put, _, _ => by cases put <;> simp [insB, Asc]
  | y :: l, put, h, hp => by
    obtain ⟨h1, h2⟩ := List.pairwise_cons.1 h
    unfold insB
    cases put with
    | true =>
      have hy := hp rfl y (by simp)
      have hn : (y.fName == k) = false := by rw [beq_eq_false_iff_ne]; rintro e; rw [e] at hy; exact lt_irrefl' _ hy
      simp only [Bool.not_true, Bool.false_and, cond_false, List.nil_append, Bool.true_or, hn, List.singleton_append]
      refine List.pairwise_cons.2 ⟨fun x hx => ?_, insB_asc h2 fun _ x hx => hp rfl x (List.mem_cons_of_mem _ hx)⟩
      rw [insB_mem] at hx
      rcases hx with ⟨e, _⟩ | ⟨hx, _⟩
      · cases e
      · exact h1 x hx
    | false =>
      rcases lt_tri y.fName k with hlt | he | hgt
      · have e1 := (bl_lt _ _).2 hlt
        have hn : (y.fName == k) = false := by rw [beq_eq_false_iff_ne]; rintro e; rw [e] at hlt; exact lt_irrefl' _ hlt
        simp only [e1, Bool.not_true, Bool.and_false, cond_false, List.nil_append, Bool.or_false, hn, List.singleton_append]
        refine List.pairwise_cons.2 ⟨fun x hx => ?_, insB_asc h2 fun e => by cases e⟩
        rw [insB_mem] at hx
        rcases hx with ⟨_, rfl⟩ | ⟨hx, _⟩
        · exact hlt
        · exact h1 x hx
      · have e1 : Op.bytesLess y.fName k = false := (bl_not _ _).2 (by rw [he]; exact lt_irrefl' _)
        have hn : (y.fName == k) = true := by rw [beq_iff_eq]; exact he
        simp only [e1, Bool.not_false, Bool.and_true, cond_true, List.nil_append, Bool.or_true, hn, List.singleton_append]
        refine List.pairwise_cons.2 ⟨fun x hx => ?_, insB_asc h2 fun _ x hx => by rw [← he]; exact h1 x hx⟩
        rw [insB_mem] at hx
        rcases hx with ⟨e, _⟩ | ⟨hx, _⟩
        · cases e
        · show k < x.fName
          rw [← he]; exact h1 x hx
      · have e1 : Op.bytesLess y.fName k = false := (bl_not _ _).2 fun h' => lt_irrefl' _ (lt_trans' h' hgt)
        have hn : (y.fName == k) = false := by rw [beq_eq_false_iff_ne]; rintro e; rw [e] at hgt; exact lt_irrefl' _ hgt
        simp only [e1, Bool.not_false, Bool.and_true, cond_true, cond_false, Bool.or_true, hn, List.singleton_append]
        have hrest : ∀ x, x ∈ insB k v l true → y.fName < x.fName := fun x hx => by
          rw [insB_mem] at hx
          rcases hx with ⟨e, _⟩ | ⟨hx, _⟩
          · cases e
          · exact h1 x hx
        refine List.pairwise_cons.2 ⟨fun x hx => ?_, List.pairwise_cons.2 ⟨hrest, insB_asc h2 fun _ x hx => lt_trans' hgt (h1 x hx)⟩⟩
        rcases List.mem_cons.1 hx with rfl | hx
        · exact hgt
        · exact lt_trans' hgt (hrest x hx)

theorem toB_set {m : Env} (h : Nd m) (k v : List UInt8) : toB (mset keq m k v) = insB k v (toB m) false := by
  refine asc_ext (f := fun x : TBinding => x.fName) (toB_asc (mset_nodup h k v)) (insB_asc (toB_asc h) fun e => by cases e) fun x => ?_
  rw [insB_mem, toB_mem, toB_mem]
  constructor
  · rintro ⟨q, hq, rfl⟩
    by_cases hk : q = k
    · subst hk
      left
      refine ⟨rfl, ?_⟩
      unfold Bk
      rw [mget_mset, beq_self_eq_true]
      rfl
    · right
      rcases (mset_keys_iff ..).1 hq with e | hq
      · exact absurd e hk
      · refine ⟨⟨q, hq, ?_⟩, hk⟩
        unfold Bk
        rw [mget_mset, show (k == q) = false by rw [beq_eq_false_iff_ne]; exact fun e => hk e.symm]
        rfl
  · rintro (⟨_, rfl⟩ | ⟨⟨q, hq, rfl⟩, hk⟩)
    · refine ⟨k, (mset_keys_iff ..).2 (.inl rfl), ?_⟩
      unfold Bk
      rw [mget_mset, beq_self_eq_true]
      rfl
    · have hk : ¬ q = k := hk
      refine ⟨q, (mset_keys_iff ..).2 (.inr hq), ?_⟩
      unfold Bk
      rw [mget_mset, show (k == q) = false by rw [beq_eq_false_iff_ne]; exact fun e => hk e.symm]
      rfl

/-- The last value of a name. -/
def lookB (l : List TBinding) (k : List UInt8) : List UInt8 := match l.reverse.find? (fun x => x.fName == k) with | some x => x.fValue | none => []
theorem look_run (k : List UInt8) : ∀ l : List TBinding, lrun (fun (_ : Unit) (x : TBinding) => cond (x.fName == k) (some (.inr x.fValue)) (some (.inl ()))) (fun _ => some []) l () = some (match l.find? (fun x => x.fName == k) with | some x => x.fValue | none => [])
  | [] => rfl
  | x :: l => by
    simp only [lrun, List.find?_cons]
    cases (x.fName == k)
    · exact look_run k l
    · rfl
theorem lookup_eq (F : Nat) (l : List TBinding) (k : List UInt8) (hF : l.length < F) (hl : l.length ≤ 1000000) : ref06_Lookup F l k = some (lookB l k) := by
  unfold ref06_Lookup lookB
  rw [← look_run]
  refine loopF_lrun l.reverse (fun i (_ : Unit) => ((l.length : Int) - 1 - (i : Int))) _ _ (by simpa using hF) ?_ ?_ ?_
  · rw [w64_in (by omega)]; simp
  · intro i h t rc
    have hi : i < l.length := by simpa using h
    have e : (l.length : Int) - 1 - (i : Int) = ((l.length - 1 - i : Nat) : Int) := by omega
    have hj : l.length - 1 - i < l.length := by omega
    have hw : w64 (((l.length - 1 - i : Nat) : Int) - 1) = (l.length : Int) - 1 - ((i + 1 : Nat) : Int) := by rw [w64_in (by omega)]; omega
    simp only [e, dlt hj, dnn, Bool.and_self, cond_true, rq_tt, Int.toNat_natCast, gd hj, hw, List.getElem_reverse]
    cases (l[l.length - 1 - i].fName == k) <;> rfl
  · intro t rc
    have e : decide (0 ≤ (l.length : Int) - 1 - ((l.reverse.length : Nat) : Int)) = false := decide_eq_false (by rw [List.length_reverse]; omega)
    simp only [e, cond_false]
theorem lookB_toB (m : Env) (k : List UInt8) : lookB (toB m) k = mget keq m k [] := by
  unfold lookB
  cases h : (toB m).reverse.find? (fun x => x.fName == k) with
  | some x =>
    have h1 := List.mem_of_find?_eq_some h
    have h2 := List.find?_some h
    rw [List.mem_reverse, toB_mem] at h1
    obtain ⟨q, hq, rfl⟩ := h1
    have : q = k := by simpa [Bk] using h2
    subst this
    rfl
  | none =>
    rcases mget_mem m k ([] : List UInt8) with ⟨p, hp, h1, h2⟩ | ⟨_, h2⟩
    · have := List.find?_eq_none.1 h (Bk m k) (by rw [List.mem_reverse, toB_mem]; exact ⟨k, List.mem_map.2 ⟨p, hp, h1⟩, rfl⟩)
      simp [Bk] at this
    · exact h2.symm

/-- Environments of a size. -/
structure Eo (c : Nat) (m : Env) : Prop where
  nd : Nd m
  len : m.length ≤ c
  sz : ∀ p, p ∈ m → p.1.length ≤ 60 ∧ p.2.length ≤ 60
theorem Eo.mono {c d : Nat} {m : Env} (h : Eo c m) (hd : c ≤ d) : Eo d m := ⟨h.nd, Nat.le_trans h.len hd, h.sz⟩
theorem Eo.set {c : Nat} {m : Env} (h : Eo c m) {k v : List UInt8} (hk : k.length ≤ 60) (hv : v.length ≤ 60) : Eo (c + 1) (mset keq m k v) :=
  ⟨mset_nodup h.nd k v, Nat.le_trans (mset_len m k v) (by have := h.len; omega), fun p hp => by
    rcases mset_mem hp with rfl | hp
    · exact ⟨hk, hv⟩
    · exact h.sz p hp⟩
theorem Eo.get {c : Nat} {m : Env} (h : Eo c m) (k : List UInt8) : (mget keq m k []).length ≤ 60 := by
  rcases mget_mem m k ([] : List UInt8) with ⟨p, hp, _, h2⟩ | ⟨_, h2⟩
  · rw [← h2]; exact (h.sz p hp).2
  · rw [h2]; simp

/-- The map of a list of bindings. -/
def envOf (l : List TBinding) : Env := l.foldl (fun m b => mset keq m b.fName b.fValue) []
theorem env_fold {c : Nat} : ∀ (l : List TBinding) (m : Env), Eo c m → (∀ b, b ∈ l → b.fName.length ≤ 60 ∧ b.fValue.length ≤ 60) →
    Eo (c + l.length) (l.foldl (fun m b => mset keq m b.fName b.fValue) m) ∧ toB (l.foldl (fun m b => mset keq m b.fName b.fValue) m) = l.foldl (fun o b => insB b.fName b.fValue o false) (toB m)
  | [], m, h, _ => ⟨h, rfl⟩
  | b :: l, m, h, hb => by
    have h1 := h.set (hb b (by simp)).1 (hb b (by simp)).2
    obtain ⟨h2, h3⟩ := env_fold (c := c + 1) l _ h1 fun b hm => hb b (List.mem_cons_of_mem _ hm)
    refine ⟨h2.mono (by simp; omega), ?_⟩
    rw [List.foldl_cons, List.foldl_cons, h3, toB_set h.nd]
theorem Eo_nil : Eo 0 [] := ⟨by simp [Nd], by simp, by simp⟩
theorem toB_nil : toB [] = [] := by
  have := sortK_perm ([] : List (List UInt8))
  simp at this
  simp [toB, this]
theorem envOf_ok {l : List TBinding} (h : ∀ b, b ∈ l → b.fName.length ≤ 60 ∧ b.fValue.length ≤ 60) : Eo l.length (envOf l) := by
  have := (env_fold l [] Eo_nil h).1
  rw [Nat.zero_add] at this
  exact this

theorem insB_len (k v : List UInt8) : ∀ (l : List TBinding) (put : Bool), (insB k v l put).length ≤ l.length + cond put 0 1
  | [], put => by cases put <;> simp [insB]
  | x :: l, put => by
    have h1 := insB_len k v l (put || !(Op.bytesLess x.fName k))
    simp only [insB, List.length_append, List.length_cons]
    generalize Op.bytesLess x.fName k = b at h1 ⊢
    cases put <;> cases b <;> cases (x.fName == k) <;> simp at h1 ⊢ <;> omega
theorem sorted_eq (F : Nat) (l : List TBinding) (hF : l.length < F) (hl : l.length ≤ 1000) (h : ∀ b, b ∈ l → b.fName.length ≤ 60 ∧ b.fValue.length ≤ 60) : ref06_Sorted F l = some (toB (envOf l)) := by
  unfold ref06_Sorted
  refine loopF_foldI l (fun i (t : List TBinding) => (t, (i : Int))) (fun o b => insB b.fName b.fValue o false) (fun i t => t.length ≤ i) (t := []) hF rfl (by simp) ?_ ?_ ?_
  · intro i h t rc hI
    simp only [dlt h, dnn, Bool.and_self, cond_true, rq_tt, Int.toNat_natCast, gd h, w64_nat (i := i) (by omega)]
    rw [bind_eq F t _ _ (by omega) (by omega)]
    rfl
  · intro i h t hI
    have := insB_len l[i].fName l[i].fValue t false
    simp at this
    omega
  · intro rc hI
    simp only [dltn, cond_false]
    have := (env_fold l [] Eo_nil h).2
    rw [toB_nil] at this
    unfold envOf
    rw [this]

theorem sk_eq {c : Nat} {m : Env} (h : Eo c m) (hc : c ≤ 1000000) (F : Nat) : skF F m = some (sortK (m.map (·.1))) := by
  unfold skF
  have h1 : (m.all fun p => decide (p.1.length ≤ 9223372036854775807)) = true := List.all_eq_true.2 fun p hp => decide_eq_true (by have := (h.sz p hp).1; omega)
  rw [rq_true]
  rw [h1, decide_eq_true (by have := h.len; omega)]
  rfl
end Go.Proofs.YtamjncikmfpihaaGreatDoor
