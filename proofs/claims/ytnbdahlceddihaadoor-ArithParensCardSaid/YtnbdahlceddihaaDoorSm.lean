/-
  Trees: small ones, equal ones, their names: the models' answers as plain functions; the plain law of ArithSame.
-/
import Derived.Test.YtnbdahlceddihaaDoorPw
import Derived.Test.YtnbdahlceddihaaDoorEv
namespace Go.Proofs.YtnbdahlceddihaaDoor
open Go.RT
set_option linter.unusedVariables false
set_option linter.unusedSimpArgs false
set_option linter.all false

theorem TExpr.ind {P : TExpr → Prop} (h : ∀ op n name kids, (∀ k, k ∈ kids → P k) → P (.mk op n name kids)) (e : TExpr) : P e := by
  match e with
  | .mk op n name kids => exact h op n name kids fun k hk => TExpr.ind h k
termination_by SizeOf.sizeOf e
decreasing_by
  have := List.sizeOf_lt_of_mem hk
  simp only [TExpr.mk.sizeOf_spec]
  omega

theorem okTExpr.ind {P : TExpr → Prop} (h : ∀ e, e.fKids.length ≤ 9223372036854775807 → (∀ k, k ∈ e.fKids → okTExpr k) → (∀ k, k ∈ e.fKids → P k) → P e) : ∀ e, okTExpr e → P e := by
  intro e ho
  induction ho with
  | mk op n name kids h1 h2 h3 h4 h5 ih => exact h (.mk op n name kids) (Nat.le_trans h4 (by decide)) h5 ih

mutual
def nodes : TExpr → Nat
  | .mk _ _ _ kids => nodesL kids + 1
def nodesL : List TExpr → Nat
  | [] => 0
  | k :: l => nodes k + nodesL l
end
theorem nodes_eq (e : TExpr) : nodes e = nodesL e.fKids + 1 := by cases e; rfl
theorem nodes_pos (e : TExpr) : 0 < nodes e := by cases e; simp [nodes]
theorem nodesL_len : ∀ l, List.length l ≤ nodesL l
  | [] => Nat.le_refl _
  | k :: l => by have := nodes_pos k; have := nodesL_len l; simp only [nodesL, List.length_cons]; omega
theorem nodes_mem : ∀ {l : List TExpr} {k : TExpr}, k ∈ l → nodes k ≤ nodesL l
  | x :: l, k, h => by
    rcases List.mem_cons.1 h with rfl | h
    · simp only [nodesL]; omega
    · have := nodes_mem h; simp only [nodesL]; omega

/-- All names have at most 60 bytes. -/
inductive Nms : TExpr → Prop
  | mk (op n : Int) (name : List UInt8) (kids : List TExpr) (h : name.length ≤ 60) (hk : ∀ k, k ∈ kids → Nms k) : Nms (.mk op n name kids)

theorem small_form (F n : Nat) (e : TExpr) (a b : Int) (hF : e.fKids.length < F) (hl : e.fKids.length ≤ 9223372036854775807) : ref05_small_n F (n + 1) e a b =
    cond (decide (a < 1) || decide (b < 1) || decide (60 < (e.fName.length : Int))) (some (-1))
      (lrun (fun t k => cond (decide (0 ≤ t)) ((ref05_small_n F n k t (w64 (b - 1))).bind fun x => some (.inl x)) (some (.inr t))) some e.fKids (w64 (a - 1))) := by
  show ref05_small_m F (ref05_small_n F n) e a b = _
  unfold ref05_small_m
  rw [loopF_lrun e.fKids (fun i (t : Int) => (t, (i : Int))) (fun t k => cond (decide (0 ≤ t)) ((ref05_small_n F n k t (w64 (b - 1))).bind fun x => some (.inl x)) (some (.inr t))) some hF ?_ ?_ ?_]
  · cases decide (a < 1) <;> cases decide (b < 1) <;> rfl
  · rfl
  · intro i h t rc
    simp only [dlt h, dnn, Bool.and_self, cond_true, Option.bind_some, rq_tt, Int.toNat_natCast, gd h, w64_nat (i := i) (by omega)]
    cases decide (0 ≤ t)
    · rfl
    · simp only [cond_true, Option.bind_assoc, Option.bind_some, sm]
  · intro t rc
    simp only [dltn, cond_false, Option.bind_some]

mutual
def smallS : TExpr → Int → Int → Int
  | .mk _ _ name kids, a, b => cond (decide (a < 1) || decide (b < 1) || decide (60 < (name.length : Int))) (-1) (smallL kids (a - 1) (b - 1))
def smallL : List TExpr → Int → Int → Int
  | [], t, _ => t
  | k :: l, t, b => cond (decide (0 ≤ t)) (smallL l (smallS k t b) b) t
end

theorem smallS_eq (e : TExpr) (a b : Int) : smallS e a b = cond (decide (a < 1) || decide (b < 1) || decide (60 < (e.fName.length : Int))) (-1) (smallL e.fKids (a - 1) (b - 1)) := by cases e; rfl
theorem smallL_le {B : Int} : ∀ (l : List TExpr) (t b : Int), (∀ k, k ∈ l → ∀ a, a ≤ B → smallS k a b ≤ B) → t ≤ B → smallL l t b ≤ B
  | [], t, b, _, h => h
  | k :: l, t, b, hk, h => by
    simp only [smallL]
    cases decide (0 ≤ t)
    · exact h
    · exact smallL_le l _ b (fun k h => hk k (List.mem_cons_of_mem _ h)) (hk k (by simp) t h)
theorem smallS_le {B : Int} (hB : -1 ≤ B) (e : TExpr) : ∀ a b, a ≤ B → smallS e a b ≤ B := by
  induction e using TExpr.ind with
  | h op n name kids ih =>
    intro a b h
    simp only [smallS]
    cases (decide (a < 1) || decide (b < 1) || decide (60 < (name.length : Int)))
    · exact smallL_le kids _ _ (fun k hk a h => ih k hk a _ h) (by omega)
    · exact hB

theorem small_eq {e : TExpr} (ho : okTExpr e) : Evt fun F n => ∀ a b, a ≤ 60 → b ≤ 40 → ref05_small_n F n e a b = some (smallS e a b) := by
  revert e
  apply okTExpr.ind
  intro e h4' h5 ih
  refine Evt.succ ((Evt.all ih).map2 (Evt.ge (p := fun F _ => e.fKids.length < F) (e.fKids.length + 1) fun F n h _ => h) fun F m ih hF a b ha hb => ?_)
  rw [small_form F m e a b hF h4', smallS_eq]
  cases hc : (decide (a < 1) || decide (b < 1) || decide (60 < (e.fName.length : Int))) with
  | true => rfl
  | false =>
    simp only [Bool.or_eq_false_iff, decide_eq_false_iff_not] at hc
    simp only [cond_false]
    rw [w64_in (x := a - 1) (by omega), w64_in (x := b - 1) (by omega)]
    have key : ∀ (l : List TExpr) (t : Int), t ≤ 60 → (∀ k, k ∈ l → k ∈ e.fKids) → lrun (fun t k => cond (decide (0 ≤ t)) ((ref05_small_n F m k t (b - 1)).bind fun x => some (.inl x)) (some (.inr t))) some l t = some (smallL l t (b - 1)) := by
      intro l
      induction l with
      | nil => intro t _ _; rfl
      | cons k l ihl =>
        intro t ht hm
        simp only [lrun, smallL]
        cases decide (0 ≤ t)
        · rfl
        · simp only [cond_true]
          rw [ih k (hm k (by simp)) t (b - 1) ht (by omega)]
          exact ihl _ (smallS_le (by omega) k _ _ ht) fun k hk => hm k (List.mem_cons_of_mem _ hk)
    exact key e.fKids (a - 1) (by omega) fun _ h => h

theorem smallL_fact : ∀ (l : List TExpr) (t b : Int), (∀ k, k ∈ l → ∀ a, 0 ≤ smallS k a b → (nodes k : Int) ≤ a - smallS k a b ∧ Nms k) → 0 ≤ smallL l t b → (nodesL l : Int) ≤ t - smallL l t b ∧ ∀ k, k ∈ l → Nms k
  | [], t, b, _, h => ⟨by simp [nodesL, smallL], fun k hk => by cases hk⟩
  | k :: l, t, b, hk, h => by
    simp only [smallL] at h ⊢
    cases ht : decide (0 ≤ t) with
    | false => rw [ht] at h; simp at ht h; omega
    | true =>
      rw [ht] at h
      simp only [cond_true] at h ⊢
      obtain ⟨h1, h2⟩ := smallL_fact l _ b (fun k h => hk k (List.mem_cons_of_mem _ h)) h
      obtain ⟨h3, h4⟩ := hk k (by simp) t (by omega)
      refine ⟨by simp only [nodesL]; omega, fun z hz => ?_⟩
      rcases List.mem_cons.1 hz with rfl | hz
      · exact h4
      · exact h2 z hz
theorem smallS_fact (e : TExpr) : ∀ a b, 0 ≤ smallS e a b → (nodes e : Int) ≤ a - smallS e a b ∧ Nms e := by
  induction e using TExpr.ind with
  | h op n name kids ih =>
    intro a b h
    simp only [smallS] at h ⊢
    cases hc : (decide (a < 1) || decide (b < 1) || decide (60 < (name.length : Int))) with
    | true => rw [hc] at h; simp at h
    | false =>
      rw [hc] at h
      simp only [Bool.or_eq_false_iff, decide_eq_false_iff_not] at hc
      simp only [cond_false] at h ⊢
      obtain ⟨h1, h2⟩ := smallL_fact kids _ _ (fun k hk a h => ih k hk a _ h) h
      exact ⟨by simp only [nodes]; omega, .mk op n name kids (by omega) h2⟩

/-- What Small(e, 60) gives and tells. -/
def SmallS (e : TExpr) : Bool := decide (0 ≤ smallS e 60 40)
theorem Small_eq {e : TExpr} (ho : okTExpr e) : Evt fun F _ => ref05_Small F e 60 = some (SmallS e) :=
  (small_eq ho).fst.mono fun F _ h => by
    unfold ref05_Small ref05_small
    rw [TExpr.eta, h 60 40 (by omega) (by omega)]
    rfl
theorem SmallS_fact {e : TExpr} (h : SmallS e = true) : nodes e ≤ 60 ∧ Nms e := by
  have h : 0 ≤ smallS e 60 40 := by simpa [SmallS] using h
  obtain ⟨h1, h2⟩ := smallS_fact e 60 40 h
  exact ⟨by omega, h2⟩

/-! ### Same -/
mutual
def sameB : TExpr → TExpr → Bool
  | .mk o n s k, .mk o' n' s' k' => o == o' && n == n' && s == s' && sameL k k'
def sameL : List TExpr → List TExpr → Bool
  | [], [] => true
  | k :: l, k' :: l' => sameB k k' && sameL l l'
  | _, _ => false
end
theorem sameB_eq (e x : TExpr) : sameB e x = (e.fOp == x.fOp && e.fN == x.fN && e.fName == x.fName && sameL e.fKids x.fKids) := by cases e; cases x; rfl
theorem sameL_iff : ∀ (l l' : List TExpr), (∀ k, k ∈ l → ∀ x, sameB k x = true ↔ k = x) → (sameL l l' = true ↔ l = l')
  | [], [], _ => by simp [sameL]
  | [], _ :: _, _ => by simp [sameL]
  | _ :: _, [], _ => by simp [sameL]
  | k :: l, k' :: l', h => by
    simp only [sameL, Bool.and_eq_true, List.cons.injEq]
    rw [h k (by simp), sameL_iff l l' fun k hk => h k (List.mem_cons_of_mem _ hk)]
theorem sameB_iff (e : TExpr) : ∀ x, sameB e x = true ↔ e = x := by
  induction e using TExpr.ind with
  | h op n name kids ih =>
    intro x
    cases x with
    | mk o m s k =>
      simp only [sameB, Bool.and_eq_true, beq_iff_eq, TExpr.mk.injEq]
      rw [sameL_iff kids k ih]
      constructor
      · rintro ⟨⟨⟨h1, h2⟩, h3⟩, h4⟩; exact ⟨h1, h2, h3, h4⟩
      · rintro ⟨h1, h2, h3, h4⟩; exact ⟨⟨⟨h1, h2⟩, h3⟩, h4⟩
theorem sameB_refl (e : TExpr) : sameB e e = true := (sameB_iff e e).2 rfl
theorem sameB_comm (a b : TExpr) : sameB a b = sameB b a := by
  rw [Bool.eq_iff_iff, sameB_iff, sameB_iff]; exact eq_comm

theorem same_lrun {r : TExpr → TExpr → Option Bool} : ∀ (l l' : List TExpr), l.length = l'.length → (∀ k, k ∈ l → ∀ x, r k x = some (sameB k x)) →
    lrun (fun (_ : Unit) (p : TExpr × TExpr) => (r p.1 p.2).bind fun x => cond (!x) (some (.inr false)) (some (.inl ()))) (fun _ => some true) (l.zip l') () = some (sameL l l')
  | [], [], _, _ => rfl
  | [], _ :: _, h, _ => by simp at h
  | _ :: _, [], h, _ => by simp at h
  | k :: l, k' :: l', h, hk => by
    simp only [List.zip_cons_cons, lrun, sameL, hk k (by simp), Option.bind_some]
    cases sameB k k'
    · rfl
    · simp only [Bool.not_true, cond_false, Option.bind_some, sm, Bool.true_and]
      exact same_lrun l l' (by simpa using h) fun k h => hk k (List.mem_cons_of_mem _ h)

theorem same_loop {r : TExpr → TExpr → Option Bool} {F : Nat} {l l' : List TExpr} (hl : l.length = l'.length) (hF : l.length < F) (hb : l.length ≤ 9223372036854775807) (hr : ∀ k, k ∈ l → ∀ x, r k x = some (sameB k x)) :
    loopF (σ := Int) (R := Bool) (fun rc x1 =>
      cond (decide (x1 < (l.length : Int)))
        (rq ((decide (0 ≤ x1)) && (decide (x1 < (l.length : Int)))) (rq ((decide (0 ≤ x1)) && (decide (x1 < (l'.length : Int)))) ((r (l.getD (Int.toNat x1) dTExpr) (l'.getD (Int.toNat x1) dTExpr)).bind fun x3 =>
          cond (!x3) (some false) (rc (w64 (x1 + 1))))))
        (some true)) F 0 = some (sameL l l') := by
  rw [loopF_lrun (l.zip l') (fun i (_ : Unit) => (i : Int)) (fun (_ : Unit) (p : TExpr × TExpr) => (r p.1 p.2).bind fun x => cond (!x) (some (.inr false)) (some (.inl ()))) (fun _ => some true) (t := ()) (by simp; omega) ?_ ?_ ?_]
  · exact same_lrun l l' hl hr
  · rfl
  · intro i h t rc
    have hi : i < l.length := by simp at h; omega
    have hi' : i < l'.length := by omega
    simp only [dlt hi, dlt hi', dnn, Bool.and_self, cond_true, rq_tt, Int.toNat_natCast, gd hi, gd hi', w64_nat (i := i) (by omega), List.getElem_zip]
    cases r l[i] l'[i] with
    | none => rfl
    | some b => cases b <;> rfl
  · intro t rc
    have : (l.zip l').length = l.length := by simp; omega
    rw [this]
    simp only [dltn, cond_false]
theorem sameL_len {l l' : List TExpr} (h : l.length ≠ l'.length) : ((l.length : Int) == (l'.length : Int)) = false ∧ sameL l l' = false := by
  refine ⟨by rw [beq_eq_false_iff_ne]; omega, ?_⟩
  apply Bool.eq_false_iff.2
  intro hh
  rw [sameL_iff l l' fun k _ => sameB_iff k] at hh
  exact h (congrArg List.length hh)

theorem ref05_Same_eq {e : TExpr} (ho : okTExpr e) : Evt fun F n => ∀ x, ref05_Same_n F n e x = some (sameB e x) := by
  revert e
  apply okTExpr.ind
  intro e h4' h5 ih
  refine Evt.succ ((Evt.all ih).map2 (Evt.ge (p := fun F _ => e.fKids.length < F) (e.fKids.length + 1) fun F n h _ => h) fun F m ih hF x => ?_)
  show ref05_Same_m F (ref05_Same_n F m) _ x = _
  unfold ref05_Same_m
  simp only [sameB_eq, bne]
  by_cases hl : e.fKids.length = x.fKids.length
  · rw [same_loop hl hF h4' ih, hl]
    cases (e.fOp == x.fOp) <;> cases (e.fN == x.fN) <;> cases (e.fName == x.fName) <;> simp
  · obtain ⟨e1, e2⟩ := sameL_len hl
    rw [e1, e2]
    cases (e.fOp == x.fOp) <;> cases (e.fN == x.fN) <;> cases (e.fName == x.fName) <;> simp

theorem arith_Same_eq {e : TExpr} (ho : okTExpr e) : Evt fun F n => ∀ x, arith_Same_n F n e x = some (sameB e x) := by
  revert e
  apply okTExpr.ind
  intro e h4' h5 ih
  refine Evt.succ (Evt.succ ((Evt.all ih).map2 (Evt.ge (p := fun F _ => e.fKids.length < F) (e.fKids.length + 1) fun F n h _ => h) fun F m ih hF x => ?_))
  have eqf : slices_EqualFunc_n F (m + 1) e.fKids x.fKids = some (sameL e.fKids x.fKids) := by
    show slices_EqualFunc_m F (arith_Same_n F m) (slices_EqualFunc_n F m) e.fKids x.fKids = _
    unfold slices_EqualFunc_m
    simp only [TExpr.eta, bne]
    by_cases hl : e.fKids.length = x.fKids.length
    · rw [same_loop hl hF h4' ih, hl]
      simp
    · obtain ⟨e1, e2⟩ := sameL_len hl
      rw [e1, e2]
      rfl
  show arith_Same_m F (arith_Same_n F (m + 1)) (slices_EqualFunc_n F (m + 1)) _ x = _
  unfold arith_Same_m
  simp only [sameB_eq, eqf]
  cases (e.fOp == x.fOp) <;> cases (e.fN == x.fN) <;> cases (e.fName == x.fName) <;> simp

/-! ### Names -/
def addN (l : List (List UInt8)) (x : List UInt8) : List (List UInt8) := if x ∈ l then l else l ++ [x]
def addNs (l xs : List (List UInt8)) : List (List UInt8) := xs.foldl addN l
theorem mem_addN {l : List (List UInt8)} {x y : List UInt8} : y ∈ addN l x ↔ y ∈ l ∨ y = x := by
  unfold addN
  split
  · constructor
    · exact .inl
    · rintro (h | rfl)
      · exact h
      · assumption
  · simp
theorem mem_addNs : ∀ {xs l : List (List UInt8)} {y : List UInt8}, y ∈ addNs l xs ↔ y ∈ l ∨ y ∈ xs
  | [], l, y => by simp [addNs]
  | x :: xs, l, y => by
    show y ∈ addNs (addN l x) xs ↔ _
    rw [mem_addNs, mem_addN, List.mem_cons, or_assoc]
theorem addNs_add (acc l : List (List UInt8)) (x : List UInt8) : addNs acc (addN l x) = addN (addNs acc l) x := by
  unfold addN
  by_cases h : x ∈ l
  · rw [if_pos h, if_pos (mem_addNs.2 (.inr h))]
  · rw [if_neg h, addNs, List.foldl_append]; rfl
theorem addNs_addNs : ∀ (xs acc l : List (List UInt8)), addNs acc (addNs l xs) = addNs (addNs acc l) xs
  | [], acc, l => rfl
  | x :: xs, acc, l => by
    show addNs acc (addNs (addN l x) xs) = addNs (addN (addNs acc l) x) xs
    rw [addNs_addNs xs acc (addN l x), addNs_add]
theorem addNs_append (acc l m : List (List UInt8)) : addNs acc (l ++ m) = addNs (addNs acc l) m := List.foldl_append
theorem addN_len (l : List (List UInt8)) (x : List UInt8) : (addN l x).length ≤ l.length + 1 := by
  unfold addN; split <;> simp
theorem addNs_len : ∀ (xs l : List (List UInt8)), (addNs l xs).length ≤ l.length + xs.length
  | [], l => Nat.le_refl _
  | x :: xs, l => by
    have h1 := addNs_len xs (addN l x)
    have h2 := addN_len l x
    show (addNs (addN l x) xs).length ≤ _
    simp only [List.length_cons]; omega

def isNm (op : Int) : Bool := op == 2 || op == 26
mutual
/-- All names, in preorder. -/
def pre : TExpr → List (List UInt8)
  | .mk op _ name kids => cond (isNm op) [name] [] ++ preL kids
def preL : List TExpr → List (List UInt8)
  | [] => []
  | k :: l => pre k ++ preL l
end
theorem pre_eq (e : TExpr) : pre e = cond (isNm e.fOp) [e.fName] [] ++ preL e.fKids := by cases e; rfl
theorem preL_len : ∀ (l : List TExpr), (∀ k, k ∈ l → (pre k).length ≤ nodes k) → (preL l).length ≤ nodesL l
  | [], _ => Nat.le_refl _
  | k :: l, h => by
    have h1 := h k (by simp)
    have h2 := preL_len l fun k hk => h k (List.mem_cons_of_mem _ hk)
    simp only [preL, nodesL, List.length_append]; omega
theorem pre_len (e : TExpr) : (pre e).length ≤ nodes e := by
  induction e using TExpr.ind with
  | h op n name kids ih =>
    have := preL_len kids ih
    simp only [pre, nodes, List.length_append]
    cases isNm op <;> simp <;> omega

theorem take_last {α : Type} {l : List α} {i : Nat} (h : i < l.length) : l.take (i + 1) = l.take i ++ [l[i]] := by
  rw [List.take_succ_eq_append_getElem h]
theorem preL_app : ∀ (l m : List TExpr), preL (l ++ m) = preL l ++ preL m
  | [], m => rfl
  | k :: l, m => by simp only [List.cons_append, preL, preL_app l m, List.append_assoc]
theorem nodesL_app : ∀ (l m : List TExpr), nodesL (l ++ m) = nodesL l + nodesL m
  | [], m => by simp [nodesL]
  | k :: l, m => by simp only [List.cons_append, nodesL, nodesL_app l m, Nat.add_assoc]
theorem nodesL_take (l : List TExpr) (i : Nat) : nodesL (l.take i) ≤ nodesL l := by
  have := nodesL_app (l.take i) (l.drop i)
  rw [List.take_append_drop] at this
  omega

abbrev Seen := List ((List UInt8) × Bool)
def visA (op : Int) (name : List UInt8) (s : List (List UInt8) × Seen) : List (List UInt8) × Seen :=
  cond (isNm op && !(mget keq s.2 name false)) (s.1 ++ [name], mset keq s.2 name true) s
mutual
def visV : TExpr → List (List UInt8) × Seen → List (List UInt8) × Seen
  | .mk op _ name kids, s => visL kids (visA op name s)
def visL : List TExpr → List (List UInt8) × Seen → List (List UInt8) × Seen
  | [], s => s
  | k :: l, s => visL l (visV k s)
end
theorem visV_eq (e : TExpr) (s : List (List UInt8) × Seen) : visV e s = visL e.fKids (visA e.fOp e.fName s) := by cases e; rfl
theorem visL_app : ∀ (l m : List TExpr) s, visL (l ++ m) s = visL m (visL l s)
  | [], m, s => rfl
  | k :: l, m, s => by simp only [List.cons_append, visL, visL_app l m]
theorem visA_len (op : Int) (name : List UInt8) (s : List (List UInt8) × Seen) : (visA op name s).1.length ≤ s.1.length + 1 := by
  unfold visA; cases (isNm op && !(mget keq s.2 name false)) <;> simp
theorem visL_len : ∀ (l : List TExpr) s, (∀ k, k ∈ l → ∀ s, (visV k s).1.length ≤ s.1.length + nodes k) → (visL l s).1.length ≤ s.1.length + nodesL l
  | [], s, _ => Nat.le_refl _
  | k :: l, s, h => by
    have h1 := h k (by simp) s
    have h2 := visL_len l (visV k s) fun k hk => h k (List.mem_cons_of_mem _ hk)
    simp only [visL, nodesL]; omega
theorem visV_len (e : TExpr) : ∀ s, (visV e s).1.length ≤ s.1.length + nodes e := by
  induction e using TExpr.ind with
  | h op n name kids ih =>
    intro s
    have h1 := visL_len kids (visA op name s) ih
    have h2 := visA_len op name s
    simp only [visV, nodes]; omega

/-- The map tells which names are there. -/
def SeenOk (s : List (List UInt8) × Seen) : Prop := ∀ x, mget keq s.2 x false = decide (x ∈ s.1)
theorem visA_fact {op : Int} {name : List UInt8} {s : List (List UInt8) × Seen} (h : SeenOk s) : SeenOk (visA op name s) ∧ (visA op name s).1 = addNs s.1 (cond (isNm op) [name] []) := by
  unfold visA
  cases isNm op with
  | false => exact ⟨h, rfl⟩
  | true =>
    rw [h name]
    by_cases hm : name ∈ s.1
    · simp only [hm, decide_true, Bool.not_true, Bool.and_false, cond_false, cond_true]
      exact ⟨h, by simp [addNs, addN, hm]⟩
    · simp only [hm, decide_false, Bool.not_false, Bool.and_true, cond_true]
      refine ⟨fun x => ?_, by simp [addNs, addN, hm]⟩
      rw [mget_mset, h x]
      cases hx : (name == x) with
      | true => simp [eq_of_beq hx]
      | false =>
        have : x ≠ name := fun e => by rw [e] at hx; simp at hx
        simp [this]
theorem visL_fact : ∀ (l : List TExpr) s, (∀ k, k ∈ l → ∀ s, SeenOk s → SeenOk (visV k s) ∧ (visV k s).1 = addNs s.1 (pre k)) → SeenOk s → SeenOk (visL l s) ∧ (visL l s).1 = addNs s.1 (preL l)
  | [], s, _, h => ⟨h, rfl⟩
  | k :: l, s, hk, h => by
    obtain ⟨h1, h2⟩ := hk k (by simp) s h
    obtain ⟨h3, h4⟩ := visL_fact l (visV k s) (fun k h => hk k (List.mem_cons_of_mem _ h)) h1
    exact ⟨h3, by simp only [visL, preL, h4, h2, addNs_append]⟩
theorem visV_fact (e : TExpr) : ∀ s, SeenOk s → SeenOk (visV e s) ∧ (visV e s).1 = addNs s.1 (pre e) := by
  induction e using TExpr.ind with
  | h op n name kids ih =>
    intro s h
    obtain ⟨h1, h2⟩ := visA_fact (op := op) (name := name) h
    obtain ⟨h3, h4⟩ := visL_fact kids _ ih h1
    exact ⟨h3, by simp only [visV, pre, h4, h2, addNs_append]⟩

theorem names1_eq {e : TExpr} (ho : okTExpr e) : Evt fun F n => ∀ names seen, names.length + nodes e ≤ 1000 → arith_Names_1_n F n e names seen = some (visV e (names, seen)) := by
  revert e
  apply okTExpr.ind
  intro e h4' h5 ih
  refine Evt.succ ((Evt.all ih).map2 (Evt.ge (p := fun F _ => e.fKids.length < F) (e.fKids.length + 1) fun F n h _ => h) fun F m ih hF names seen hb => ?_)
  rw [nodes_eq] at hb
  rw [visV_eq]
  show arith_Names_1_m F (arith_Names_1_n F m) _ names seen = _
  unfold arith_Names_1_m
  simp only [TExpr.eta]
  have hfirst : ((cond (e.fOp == 2) (some true) (some (e.fOp == 26)) : Option Bool).bind fun x2 => (cond x2 (some (!(mget keq seen e.fName false))) (some false) : Option Bool).bind fun x3 =>
      cond x3 (rq ((decide (names.length + ([e.fName] : List (List UInt8)).length ≤ 9223372036854775807)) && (decide ((names.length + ([e.fName] : List (List UInt8)).length) * 16 ≤ 140737488355328))) (some (names ++ ([e.fName] : List (List UInt8)), mset keq seen e.fName true))) (some (names, seen)) : Option ((List (List UInt8)) × Seen)) = some (visA e.fOp e.fName (names, seen)) := by
    have : ((decide (names.length + ([e.fName] : List (List UInt8)).length ≤ 9223372036854775807)) && (decide ((names.length + ([e.fName] : List (List UInt8)).length) * 16 ≤ 140737488355328))) = true := by
      simp only [List.length_singleton, Bool.and_eq_true, decide_eq_true_eq]; omega
    rw [this]
    unfold visA isNm
    cases (e.fOp == 2) <;> cases (e.fOp == 26) <;> cases (mget keq seen e.fName false) <;> rfl
  rw [hfirst]
  simp only [Option.bind_some]
  have hA := visA_len e.fOp e.fName (names, seen)
  refine loopF_seq (fun i => ((i : Int), (visL (e.fKids.take i) (visA e.fOp e.fName (names, seen))).1, (visL (e.fKids.take i) (visA e.fOp e.fName (names, seen))).2)) e.fKids.length hF rfl ?_ ?_
  · intro i rc hi
    simp only [dlt hi, dnn, Bool.and_self, cond_true, rq_tt, Int.toNat_natCast, gd hi, w64_nat (i := i) (by omega)]
    have hl := visL_len (e.fKids.take i) (visA e.fOp e.fName (names, seen)) fun k _ => visV_len k
    have hn := nodesL_app (e.fKids.take i) [e.fKids[i]]
    rw [← take_last hi] at hn
    have hn2 := nodesL_take e.fKids (i + 1)
    simp only [nodesL, Nat.add_zero] at hn
    rw [ih e.fKids[i] (List.getElem_mem hi) _ _ (by simp only at hA hl ⊢; omega)]
    rw [take_last hi, visL_app]
    rfl
  · intro rc
    simp only [dltn, cond_false, List.take_length]

theorem has_eq (F : Nat) (l : List (List UInt8)) (x : List UInt8) (hF : l.length < F) (hl : l.length ≤ 3000) : ref05_has F l x = some (decide (x ∈ l)) := by
  unfold ref05_has
  rw [loopF_lrun l (fun i (_ : Unit) => (i : Int)) (fun (_ : Unit) a => cond (a == x) (some (.inr true)) (some (.inl ()))) (fun _ => some false) (t := ()) hF ?_ ?_ ?_]
  · induction l with
    | nil => rfl
    | cons a l ih =>
      simp only [lrun]
      cases h : (a == x) with
      | true => simp [eq_of_beq h, sm]
      | false =>
        have : x ≠ a := fun e => by rw [e] at h; simp at h
        simp only [cond_false, Option.bind_some, sm]
        rw [ih (by simp at hF; omega) (by simp at hl; omega)]
        simp [this]
  · rfl
  · intro i h t rc
    simp only [dlt h, dnn, Bool.and_self, cond_true, rq_tt, Int.toNat_natCast, gd h, w64_nat (i := i) (by omega)]
    cases (l[i] == x) <;> rfl
  · intro t rc
    simp only [dltn, cond_false]

theorem addNs_take {xs : List (List UInt8)} {i : Nat} (h : i < xs.length) (acc : List (List UInt8)) : addNs acc (xs.take (i + 1)) = addN (addNs acc (xs.take i)) xs[i] := by
  rw [take_last h, addNs_append]; rfl

theorem refNames_eq {e : TExpr} (ho : okTExpr e) : Evt fun F n => nodes e ≤ 1000 → ref05_Names_n F n e = some (addNs [] (pre e)) := by
  revert e
  apply okTExpr.ind
  intro e h4' h5 ih
  refine Evt.succ ((Evt.all ih).map2 (Evt.ge (p := fun F _ => e.fKids.length + 2000 < F) (e.fKids.length + 2001) fun F n h _ => h) fun F m ih hF hb => ?_)
  rw [nodes_eq] at hb
  rw [pre_eq]
  show ref05_Names_m F (ref05_Names_n F m) _ = _
  unfold ref05_Names_m
  have hfirst : ((cond (e.fOp == 2) (some true) (some (e.fOp == 26)) : Option Bool).bind fun x2 => cond x2 (rq ((decide (([] : List (List UInt8)).length + ([e.fName] : List (List UInt8)).length ≤ 9223372036854775807)) && (decide ((([] : List (List UInt8)).length + ([e.fName] : List (List UInt8)).length) * 16 ≤ 140737488355328))) (some (([] : List (List UInt8)) ++ ([e.fName] : List (List UInt8))))) (some ([] : List (List UInt8))) : Option (List (List UInt8))) = some (addNs [] (cond (isNm e.fOp) [e.fName] [])) := by
    unfold isNm
    cases (e.fOp == 2) <;> cases (e.fOp == 26) <;> rfl
  rw [hfirst]
  simp only [Option.bind_some]
  have e0 : ∀ i, addNs (addNs [] (cond (isNm e.fOp) [e.fName] [])) (preL (e.fKids.take i)) = addNs [] (cond (isNm e.fOp) [e.fName] [] ++ preL (e.fKids.take i)) := fun i => (addNs_append _ _ _).symm
  have hlen0 : ∀ i, (cond (isNm e.fOp) [e.fName] ([] : List (List UInt8)) ++ preL (e.fKids.take i)).length ≤ 1 + nodesL e.fKids := by
    intro i
    have h1 := preL_len (e.fKids.take i) fun k _ => pre_len k
    have h2 := nodesL_take e.fKids i
    rw [List.length_append]
    cases isNm e.fOp <;> simp <;> omega
  refine loopF_seq (fun i => (addNs (addNs [] (cond (isNm e.fOp) [e.fName] [])) (preL (e.fKids.take i)), (i : Int))) e.fKids.length (by omega) rfl ?_ ?_
  · intro i rc hi
    simp only [dlt hi, dnn, Bool.and_self, cond_true, rq_tt, Int.toNat_natCast, gd hi, w64_nat (i := i) (by omega)]
    have hk : nodes e.fKids[i] ≤ nodesL e.fKids := nodes_mem (List.getElem_mem hi)
    rw [ih e.fKids[i] (List.getElem_mem hi) (by omega)]
    simp only [Option.bind_some]
    have hxs : (addNs [] (pre e.fKids[i])).length ≤ nodes e.fKids[i] := by
      have := addNs_len (pre e.fKids[i]) []
      have := pre_len e.fKids[i]
      simp only [List.length_nil] at *; omega
    have hacc : (addNs (addNs [] (cond (isNm e.fOp) [e.fName] [])) (preL (e.fKids.take i))).length ≤ 1 + nodesL e.fKids := by
      rw [e0]
      have := addNs_len (cond (isNm e.fOp) [e.fName] [] ++ preL (e.fKids.take i)) []
      have := hlen0 i
      simp only [List.length_nil] at *; omega
    have hfin : addNs (addNs (addNs [] (cond (isNm e.fOp) [e.fName] [])) (preL (e.fKids.take i))) (addNs [] (pre e.fKids[i])) = addNs (addNs [] (cond (isNm e.fOp) [e.fName] [])) (preL (e.fKids.take (i + 1))) := by
      rw [addNs_addNs, take_last hi, preL_app, addNs_append _ (preL (e.fKids.take i))]
      simp only [preL, List.append_nil]
      rfl
    rw [← hfin]
    generalize hA : addNs (addNs [] (cond (isNm e.fOp) [e.fName] [])) (preL (e.fKids.take i)) = acc at hacc ⊢
    generalize hX : addNs [] (pre e.fKids[i]) = xs at hxs ⊢
    refine loopF_seq (fun j => (addNs acc (xs.take j), (j : Int))) xs.length (by omega) rfl ?_ ?_
    · intro j rc' hj
      have hl := addNs_len (xs.take j) acc
      have hl2 : (xs.take j).length ≤ xs.length := by simp; omega
      rw [addNs_take hj]
      simp only [dlt hj, dnn, Bool.and_self, cond_true, rq_tt, Int.toNat_natCast, gd hj, w64_nat (i := j) (by omega)]
      rw [has_eq F _ _ (by omega) (by omega)]
      simp only [Option.bind_some]
      have hr : (decide ((addNs acc (xs.take j)).length + ([xs[j]] : List (List UInt8)).length ≤ 9223372036854775807) && decide (((addNs acc (xs.take j)).length + ([xs[j]] : List (List UInt8)).length) * 16 ≤ 140737488355328)) = true := by
        simp only [List.length_singleton, Bool.and_eq_true, decide_eq_true_eq]; omega
      rw [hr]
      unfold addN
      by_cases hm : xs[j] ∈ addNs acc (xs.take j)
      · simp [hm]
      · simp [hm, rq_tt]
    · intro rc'
      simp only [dltn, cond_false, List.take_length]
  · intro rc
    simp only [dltn, cond_false, List.take_length]
    rw [← addNs_append]

theorem arithSame_plain (a0 : TExpr) (q0 : okTExpr a0) (a1 : TExpr) (q1 : okTExpr a1) : ∃ F, law05_ArithSame F a0 a1 = some true := by
  refine Evt.diag (p := fun F _ => law05_ArithSame F a0 a1 = some true) ?_
  refine ((((Small_eq q0).and (Small_eq q1)).and ((names1_eq q0).fst.and (refNames_eq q0).fst)).and ((((arith_Same_eq q0).fst.and (arith_Same_eq q1).fst)).and ((ref05_Same_eq q0).fst.and (Evt.ge (p := fun F _ => 100 < F) 101 fun F n h _ => h)))).mono ?_
  rintro F n ⟨⟨⟨s0, s1⟩, n0, m0⟩, ⟨a0s, a1s⟩, r0, hF⟩
  unfold law05_ArithSame arith_Names arith_Names_1 ref05_Names arith_Same ref05_Same
  simp only [TExpr.eta]
  rw [s0, s1, awake60]
  cases h0 : SmallS a0 with
  | false => rfl
  | true =>
    cases h1 : SmallS a1 with
    | false => rfl
    | true =>
      obtain ⟨b0, _⟩ := SmallS_fact h0
      obtain ⟨_, hv⟩ := visV_fact a0 ([], []) (fun x => by simp [mget])
      have hlen : (addNs [] (pre a0)).length ≤ 60 := by
        have := addNs_len (pre a0) []
        have := pre_len a0
        simp only [List.length_nil] at *; omega
      rw [n0 [] [] (by simp; omega), m0 (by omega)]
      simp only [Option.bind_some, hv, a0s, a1s, r0, Bool.not_true, cond_false, bne_self_eq_false, beq_self_eq_true, sameB_refl, sameB_comm a1 a0]
      generalize addNs [] (pre a0) = xs at hlen ⊢
      refine loopF_seq (fun i => (i : Int)) xs.length (by omega) rfl ?_ ?_
      · intro i rc hi
        simp only [dlt hi, dnn, Bool.and_self, cond_true, rq_tt, Int.toNat_natCast, gd hi, w64_nat (i := i) (by omega), beq_self_eq_true, Bool.not_true, cond_false]
      · intro rc
        simp only [dltn, cond_false]
end Go.Proofs.YtnbdahlceddihaaDoor
