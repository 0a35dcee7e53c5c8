import Derived.Test.YtmklhkmeampamaaGreatDoorRh
import Derived.IntWalk
import Derived.Test.YtmklhkmeampamaaGreatDoorRi
import Derived.Sort.Walk0
namespace Go.RT
set_option linter.unusedVariables false
theorem w64_in {x : Int} (h : -9223372036854775808 ≤ x ∧ x ≤ 9223372036854775807) : w64 x = x := IntWalk.i64_in _ (by omega)
theorem w64_nat {i : Nat} (h : i < 9223372036854775807) : w64 ((i : Int) + 1) = ((i + 1 : Nat) : Int) := by
  rw [w64_in (by omega)]; omega
end Go.RT
namespace Go.RT
set_option linter.unusedVariables false
set_option linter.unusedSimpArgs false
set_option linter.all false
theorem loopF_seq_from {σ R : Type} {body : (σ → Option R) → σ → Option R} {z : Option R} (st : Nat → σ) {n : Nat} (hs : ∀ (i : Nat) rc, i < n → body rc (st i) = rc (st (i + 1))) (he : ∀ rc, body rc (st n) = z) :
    ∀ (k i F : Nat), i + k = n → k < F → loopF body F (st i) = z
  | 0, i, F, h, hF => by
    cases F with
    | zero => omega
    | succ F =>
      obtain rfl : i = n := by omega
      exact he _
  | k + 1, i, F, h, hF => by
    cases F with
    | zero => omega
    | succ F =>
      show body (loopF body F) (st i) = z
      rw [hs i _ (by omega)]
      exact loopF_seq_from st hs he k (i + 1) F (by omega) (by omega)
theorem loopF_seq {σ R : Type} {body : (σ → Option R) → σ → Option R} {z : Option R} {s : σ} {F : Nat} (st : Nat → σ) (n : Nat) (hF : n < F) (h0 : s = st 0) (hs : ∀ (i : Nat) rc, i < n → body rc (st i) = rc (st (i + 1))) (he : ∀ rc, body rc (st n) = z) :
    loopF body F s = z := by
  rw [h0]; exact loopF_seq_from st hs he n 0 F (by omega) hF
theorem find_set_same {α β : Type} [BEq α] [LawfulBEq α] (k : α) (v : β) : ∀ (m : List (α × β)), m.any (fun p => p.1 == k) = true → (m.map fun p => bif p.1 == k then (k, v) else p).find? (fun p => p.1 == k) = some (k, v)
  | [], h => by simp at h
  | p :: m, h => by
    simp only [List.map_cons, List.find?_cons]
    cases hp : (p.1 == k) with
    | true => simp
    | false =>
      simp only [cond_false, hp]
      exact find_set_same k v m (by simpa [hp] using h)
theorem find_set_other {α β : Type} [BEq α] [LawfulBEq α] (k x : α) (v : β) (hx : (k == x) = false) : ∀ (m : List (α × β)), (m.map fun p => bif p.1 == k then (k, v) else p).find? (fun p => p.1 == x) = m.find? fun p => p.1 == x
  | [] => rfl
  | p :: m => by
    simp only [List.map_cons, List.find?_cons]
    cases hp : (p.1 == k) with
    | true =>
      obtain rfl := eq_of_beq hp
      simp only [cond_true, hx]
      exact find_set_other _ x v hx m
    | false =>
      simp only [cond_false]
      cases (p.1 == x)
      · exact find_set_other k x v hx m
      · rfl
theorem mget_mset {α β : Type} [BEq α] [LawfulBEq α] (m : List (α × β)) (k x : α) (v z : β) : mget keq (mset keq m k v) x z = cond (k == x) v (mget keq m x z) := by
  unfold mget mset keq
  cases h : m.any (fun p => p.1 == k) with
  | true =>
    simp only [cond_true]
    cases hx : (k == x) with
    | true =>
      obtain rfl := eq_of_beq hx
      rw [find_set_same k v m h]
      rfl
    | false => rw [find_set_other k x v hx m]; rfl
  | false =>
    simp only [cond_false, List.find?_append]
    cases hx : (k == x) with
    | true =>
      obtain rfl := eq_of_beq hx
      have : m.find? (fun p => p.1 == k) = none := by
        rw [List.find?_eq_none]
        intro p hp hh
        have : m.any (fun p => p.1 == k) = true := List.any_eq_true.2 ⟨p, hp, hh⟩
        rw [h] at this; cases this
      rw [this]
      simp
    | false =>
      have : [(k, v)].find? (fun p => p.1 == x) = none := by simp [hx]
      rw [this]
      cases m.find? (fun p => p.1 == x) <;> rfl
def Evt (p : Nat → Nat → Prop) : Prop := ∃ N, ∀ F n, N ≤ F → N ≤ n → p F n
theorem Evt.of {p : Nat → Nat → Prop} (h : ∀ F n, p F n) : Evt p := ⟨0, fun F n _ _ => h F n⟩
theorem Evt.mono {p q : Nat → Nat → Prop} (h : Evt p) (f : ∀ F n, p F n → q F n) : Evt q := by
  obtain ⟨N, h⟩ := h; exact ⟨N, fun F n a b => f F n (h F n a b)⟩
theorem Evt.and {p q : Nat → Nat → Prop} (h : Evt p) (g : Evt q) : Evt fun F n => p F n ∧ q F n := by
  obtain ⟨N, h⟩ := h; obtain ⟨M, g⟩ := g
  exact ⟨N + M, fun F n a b => ⟨h F n (by omega) (by omega), g F n (by omega) (by omega)⟩⟩
theorem Evt.map2 {p q r : Nat → Nat → Prop} (h : Evt p) (g : Evt q) (f : ∀ F n, p F n → q F n → r F n) : Evt r :=
  (h.and g).mono fun F n x => f F n x.1 x.2
theorem Evt.succ {p : Nat → Nat → Prop} (h : Evt fun F n => p F (n + 1)) : Evt p := by
  obtain ⟨N, h⟩ := h
  refine ⟨N + 1, fun F n a b => ?_⟩
  cases n with
  | zero => omega
  | succ n => exact h F n (by omega) (by omega)
theorem Evt.all {α : Type} {p : α → Nat → Nat → Prop} : ∀ {l : List α}, (∀ a, a ∈ l → Evt (p a)) → Evt fun F n => ∀ a, a ∈ l → p a F n
  | [], _ => Evt.of fun F n a h => by cases h
  | x :: l, h => (h x (by simp)).map2 (Evt.all (l := l) fun a ha => h a (List.mem_cons_of_mem _ ha)) fun F n h1 h2 a ha => by
      rcases List.mem_cons.1 ha with rfl | ha
      · exact h1
      · exact h2 a ha
theorem gd {α : Type} {l : List α} {i : Nat} {d : α} (h : i < l.length) : l.getD i d = l[i] := by simp [List.getD, h]
theorem rq_true {R : Type} {c : Bool} {k : Option R} (h : c = true) : rq c k = k := by subst h; rfl
end Go.RT
namespace Go.RT
set_option linter.all false
theorem Evt.up {p : Nat → Nat → Prop} (h : Evt p) : Evt fun F n => p F (n + 1) := by
  obtain ⟨N, h⟩ := h
  exact ⟨N, fun F n a b => h F (n + 1) a (by omega)⟩
theorem capk {n k : Nat} (h : n ≤ 1000000000) (hk : k ≤ 100000) : (decide (n ≤ 9223372036854775807) && decide (n * k ≤ 140737488355328)) = true := by
  have : n * k ≤ 1000000000 * 100000 := Nat.mul_le_mul h hk
  rw [decide_eq_true (by omega), decide_eq_true (by omega)]; rfl
theorem rq_cap {R : Type} {n k : Nat} (h : n ≤ 1000000000) (hk : k ≤ 100000) (x : Option R) : rq (decide (n ≤ 9223372036854775807) && decide (n * k ≤ 140737488355328)) x = x := rq_true (capk h hk)
theorem rq_str {R : Type} {n : Nat} (h : n ≤ 1000000000) (x : Option R) : rq (decide (n ≤ 9223372036854775807)) x = x := rq_true (decide_eq_true (by omega))
theorem rq_ix {R : Type} {i n : Nat} (h : i < n) (x : Option R) : rq (decide (0 ≤ (i : Int)) && decide ((i : Int) < (n : Int))) x = x := rq_true (by rw [decide_eq_true (by omega), decide_eq_true (by omega)]; rfl)
end Go.RT
namespace Go.RT
set_option linter.all false
theorem cond_som {α : Type} (c : Bool) (x y : α) : cond c (some x) (some y) = some (cond c x y) := by cases c <;> rfl
theorem cT (c b : Bool) : cond c true b = (c || b) := by cases c <;> rfl
theorem cF (c b : Bool) : cond c b false = (c && b) := by cases c <;> rfl
theorem cN (c : Bool) : cond c false true = !c := by cases c <;> rfl
theorem cI (c : Bool) : cond c true false = c := by cases c <;> rfl
theorem u8lit (b : UInt8) (k : Nat) (hk : k < 256) : (((b.toNat : Int)) == (no_index (OfNat.ofNat k : Int))) = (b == (OfNat.ofNat k : UInt8)) := by
  rw [Bool.eq_iff_iff]
  simp only [beq_iff_eq]
  constructor
  · intro h
    have h' : (b.toNat : Int) = (k : Int) := h
    have h : b.toNat = k := by omega
    show b = UInt8.ofNat k
    rw [← h]; simp
  · intro h
    have h' : b = UInt8.ofNat k := h
    subst h'
    show (((UInt8.ofNat k).toNat : Nat) : Int) = (k : Int)
    rw [UInt8.toNat_ofNat', Nat.mod_eq_of_lt hk]
theorem u8litn (b : UInt8) (k : Nat) (hk : k < 256) : (((b.toNat : Int)) != (no_index (OfNat.ofNat k : Int))) = !(b == (OfNat.ofNat k : UInt8)) := by
  rw [bne, u8lit b k hk]
theorem w64s {i : Nat} (h : i < 9223372036854775807) : w64 ((i : Int) + 1) = ((i + 1 : Nat) : Int) := w64_nat h
theorem w64p {i : Nat} (h : i < 9223372036854775807) (h0 : 0 < i) : w64 ((i : Int) - 1) = ((i - 1 : Nat) : Int) := by rw [w64_in (by omega)]; omega
theorem rq1 {R : Type} {p : Prop} {i : Decidable p} {k : Option R} (h : p) : rq (@decide p i) k = k := rq_true (decide_eq_true h)
theorem rq2 {R : Type} {p q : Prop} {i : Decidable p} {j : Decidable q} {k : Option R} (h : p) (h' : q) : rq (@decide p i && @decide q j) k = k := rq_true (by rw [decide_eq_true h, decide_eq_true h']; rfl)
theorem rq3 {R : Type} {p q r : Prop} {i : Decidable p} {j : Decidable q} {l : Decidable r} {k : Option R} (h : p) (h' : q) (h2 : r) : rq (@decide p i && (@decide q j && @decide r l)) k = k := rq_true (by rw [decide_eq_true h, decide_eq_true h', decide_eq_true h2]; rfl)
theorem dT {p : Prop} {i : Decidable p} (h : p) : @decide p i = true := decide_eq_true h
theorem dF {p : Prop} {i : Decidable p} (h : ¬ p) : @decide p i = false := decide_eq_false h
theorem ct {α : Type} {p : Prop} {i : Decidable p} {x y : α} (h : p) : cond (@decide p i) x y = x := by rw [decide_eq_true h]; rfl
theorem cf {α : Type} {p : Prop} {i : Decidable p} {x y : α} (h : ¬ p) : cond (@decide p i) x y = y := by rw [decide_eq_false h]; rfl
theorem blt_t {i n : Nat} (h : i < n) : Nat.blt i n = true := Nat.ble_eq_true_of_le h
theorem blt_f {i n : Nat} (h : ¬ i < n) : Nat.blt i n = false := by
  cases e : Nat.blt i n with
  | false => rfl
  | true => exact absurd (Nat.le_of_ble_eq_true e) h
def srch {α R : Type} (p : α → Bool) (r : Nat → α → Option R) (fin : Option R) : List α → Nat → Option R
  | [], _ => fin
  | a :: l, i => cond (p a) (r i a) (srch p r fin l (i + 1))
theorem loopF_srch {α σ R : Type} {body : (σ → Option R) → σ → Option R} (l : List α) (st : Nat → σ) (p : α → Bool) (r : Nat → α → Option R) (fin : Option R) {F : Nat} {s : σ}
    (hF : l.length < F) (h0 : s = st 0)
    (hs : ∀ (i : Nat) (h : i < l.length) rc, body rc (st i) = cond (p l[i]) (r i l[i]) (rc (st (i + 1))))
    (he : ∀ rc, body rc (st l.length) = fin) : loopF body F s = srch p r fin l 0 := by
  subst h0
  have key : ∀ (k i F : Nat), i + k = l.length → k < F → loopF body F (st i) = srch p r fin (l.drop i) i := by
    intro k
    induction k with
    | zero =>
      intro i F h hF
      cases F with
      | zero => omega
      | succ F =>
        obtain rfl : i = l.length := by omega
        rw [List.drop_length]
        exact he _
    | succ k ih =>
      intro i F h hF
      cases F with
      | zero => omega
      | succ F =>
        rw [List.drop_eq_getElem_cons (by omega)]
        show body (loopF body F) (st i) = cond (p l[i]) (r i l[i]) _
        rw [hs i (by omega), ih (i + 1) F (by omega) (by omega)]
  have := key l.length 0 F (by omega) hF
  rwa [List.drop_zero] at this
theorem srch_any {α R : Type} (p : α → Bool) (r fin : Option R) : ∀ (l : List α) (i : Nat), srch p (fun _ _ => r) fin l i = cond (l.any p) r fin
  | [], i => rfl
  | a :: l, i => by
    simp only [srch, List.any_cons]
    rw [srch_any p r fin l]
    cases p a <;> rfl
theorem srch_find {α R : Type} (p : α → Bool) (g : α → Option R) (fin : Option R) : ∀ (l : List α) (i : Nat), srch p (fun _ a => g a) fin l i = (l.find? p).elim fin g
  | [], i => rfl
  | a :: l, i => by
    simp only [srch, List.find?_cons]
    rw [srch_find p g fin l]
    cases p a <;> rfl
theorem srch_idx {α R : Type} (p : α → Bool) (r : Nat → α → Option R) (fin : Option R) (d : α) : ∀ (l : List α) (i : Nat), srch p r fin l i = (l.findIdx? p).elim fin fun j => r (i + j) (l.getD j d)
  | [], i => rfl
  | a :: l, i => by
    simp only [srch, List.findIdx?_cons]
    rw [srch_idx p r fin d l]
    cases h : p a with
    | true => simp
    | false =>
      simp only [cond_false, Bool.false_eq_true, if_false]
      cases l.findIdx? p with
      | none => rfl
      | some j => simp [Nat.add_assoc, Nat.add_comm 1 j]
theorem take_flat {α β : Type} (f : α → List β) (l : List α) (i : Nat) (h : i < l.length) : (l.take (i + 1)).flatMap f = (l.take i).flatMap f ++ f l[i] := by
  rw [List.take_succ_eq_append_getElem h, List.flatMap_append]
  simp
theorem flat_le {α β : Type} (f : α → List β) (k : Nat) (hk : ∀ a, (f a).length ≤ k) : ∀ (l : List α), (l.flatMap f).length ≤ k * l.length
  | [] => by simp
  | a :: l => by
    have := flat_le f k hk l
    have := hk a
    simp only [List.flatMap_cons, List.length_append, List.length_cons, Nat.mul_add, Nat.mul_one]
    omega
theorem loopF_flat {α β σ R : Type} {body : (σ → Option R) → σ → Option R} (l : List α) (st : Nat → List β → σ) (f : α → List β) {z : Option R} {F : Nat} {s : σ}
    (hF : l.length < F) (h0 : s = st 0 [])
    (hs : ∀ (i : Nat) (h : i < l.length) rc (o : List β), o = (l.take i).flatMap f → body rc (st i o) = rc (st (i + 1) (o ++ f l[i])))
    (he : ∀ rc, body rc (st l.length (l.flatMap f)) = z) : loopF body F s = z := by
  refine loopF_seq (fun i => st i ((l.take i).flatMap f)) l.length hF (by simpa using h0) (fun i rc h => ?_) (fun rc => ?_)
  · rw [hs i h rc _ rfl, take_flat f l i h]
  · rw [List.take_length]; exact he rc
theorem flat_filter {α β : Type} (p : α → Bool) (g : α → β) : ∀ (l : List α), (l.flatMap fun a => cond (p a) [g a] []) = (l.filter p).map g
  | [] => rfl
  | a :: l => by
    rw [List.flatMap_cons, flat_filter p g l, List.filter_cons]
    cases p a <;> simp
theorem loopF_hoare {σ R : Type} {body : (σ → Option R) → σ → Option R} {z : Option R} (P : σ → Prop) (m : σ → Nat)
    (hs : ∀ s, P s → (∃ s', P s' ∧ m s' < m s ∧ ∀ rc, body rc s = rc s') ∨ ∀ rc, body rc s = z) : ∀ (F : Nat) (s : σ), P s → m s < F → loopF body F s = z
  | 0, s, _, h => by omega
  | F + 1, s, hP, h => by
    show body (loopF body F) s = z
    rcases hs s hP with ⟨s', h1, h2, h3⟩ | h3
    · rw [h3]; exact loopF_hoare P m hs F s' h1 (by omega)
    · exact h3 _
theorem loopF_post {σ R : Type} {body : (σ → Option R) → σ → Option R} (Q : R → Prop) (P : σ → Prop) (m : σ → Nat)
    (hs : ∀ s, P s → (∃ s', P s' ∧ m s' < m s ∧ ∀ rc, body rc s = rc s') ∨ ∃ r, Q r ∧ ∀ rc, body rc s = some r) : ∀ (F : Nat) (s : σ), P s → m s < F → ∃ r, Q r ∧ loopF body F s = some r
  | 0, s, _, h => by omega
  | F + 1, s, hP, h => by
    show ∃ r, Q r ∧ body (loopF body F) s = some r
    rcases hs s hP with ⟨s', h1, h2, h3⟩ | ⟨r, h1, h3⟩
    · rw [h3]; exact loopF_post Q P m hs F s' h1 (by omega)
    · exact ⟨r, h1, h3 _⟩
end Go.RT
namespace Go.RT
set_option linter.all false
theorem bl_lt (a b : List UInt8) : Op.bytesLess a b = true ↔ a < b := by rw [Go.Proofs.bytesLess_eq]; simp
theorem lt_irrefl' (a : List UInt8) : ¬ a < a := List.lt_irrefl a
theorem lt_trans' {a b c : List UInt8} (h : a < b) (h' : b < c) : a < c := List.lt_trans h h'
theorem lt_tri (a b : List UInt8) : a < b ∨ a = b ∨ b < a := by
  by_cases h : a < b
  · exact .inl h
  · by_cases h' : b < a
    · exact .inr (.inr h')
    · exact .inr (.inl (List.le_antisymm (List.not_lt.1 h') (List.not_lt.1 h)))
theorem bl_not (a b : List UInt8) : Op.bytesLess a b = false ↔ ¬ a < b := by rw [← bl_lt]; simp
theorem bl_le (a b : List UInt8) : (!(Op.bytesLess a b)) = (Op.bytesLess b a || b == a) := by
  rcases lt_tri a b with h | h | h
  · have h1 := (bl_lt a b).2 h
    have h2 : Op.bytesLess b a = false := (bl_not _ _).2 fun h' => lt_irrefl' _ (lt_trans' h h')
    have h3 : (b == a) = false := by simp; rintro rfl; exact lt_irrefl' _ h
    simp [h1, h2, h3]
  · subst h
    have h1 : Op.bytesLess a a = false := (bl_not _ _).2 (lt_irrefl' _)
    simp [h1]
  · have h1 := (bl_lt b a).2 h
    have h2 : Op.bytesLess a b = false := (bl_not _ _).2 fun h' => lt_irrefl' _ (lt_trans' h h')
    simp [h1, h2]
theorem sortK_perm (l : List (List UInt8)) : (sortK l).Perm l := sortK_perm0 l
theorem sortK_srt {l : List (List UInt8)} (h : l.Nodup) : (sortK l).Pairwise (· < ·) := by
  have tr : ∀ a b c : List UInt8, (decide (a ≤ b)) = true → (decide (b ≤ c)) = true → (decide (a ≤ c)) = true := fun a b c h1 h2 => by simp only [decide_eq_true_eq] at *; exact List.le_trans h1 h2
  have to : ∀ a b : List UInt8, ((decide (a ≤ b)) || (decide (b ≤ a))) = true := fun a b => by simp only [Bool.or_eq_true, decide_eq_true_eq]; exact List.le_total a b
  have h1 : (sortK l).Pairwise (fun a b => decide (a ≤ b) = true) := sortK_asc0 l
  have h2 : (sortK l).Nodup := (sortK_perm l).nodup_iff.2 h
  refine (h1.and h2).imp fun {a b} hab => ?_
  obtain ⟨h3, h4⟩ := hab
  have h5 : a ≤ b := of_decide_eq_true h3
  rcases lt_tri a b with h | h | h
  · exact h
  · exact absurd h h4
  · exact absurd h (List.not_lt.2 h5)
theorem asc_ext {α : Type} {f : α → List UInt8} : ∀ {a b : List α}, a.Pairwise (fun x y => f x < f y) → b.Pairwise (fun x y => f x < f y) → (∀ x, x ∈ a ↔ x ∈ b) → a = b
  | [], [], _, _, _ => rfl
  | [], y :: b, _, _, h => by have := (h y).2 (by simp); cases this
  | x :: a, [], _, _, h => by have := (h x).1 (by simp); cases this
  | x :: a, y :: b, ha, hb, h => by
    rw [List.pairwise_cons] at ha hb
    have hxy : x = y := by
      have h1 := (h x).1 (by simp)
      have h2 := (h y).2 (by simp)
      rcases List.mem_cons.1 h1 with h1 | h1
      · exact h1
      · rcases List.mem_cons.1 h2 with h2 | h2
        · exact h2.symm
        · exact absurd (lt_trans' (ha.1 y h2) (hb.1 x h1)) (lt_irrefl' _)
    subst hxy
    rw [asc_ext ha.2 hb.2 fun z => ?_]
    constructor
    · intro hz
      rcases List.mem_cons.1 ((h z).1 (List.mem_cons_of_mem _ hz)) with e | e
      · subst e; exact absurd (ha.1 z hz) (lt_irrefl' _)
      · exact e
    · intro hz
      rcases List.mem_cons.1 ((h z).2 (List.mem_cons_of_mem _ hz)) with e | e
      · subst e; exact absurd (hb.1 z hz) (lt_irrefl' _)
      · exact e
end Go.RT
