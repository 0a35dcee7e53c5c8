/-
  Trees: small ones, equal ones: the models' answers as plain functions.
-/
import Derived.Test.YtamjncikmfpihaaGreatDoorPv
import Derived.Test.YtamjncikmfpihaaGreatDoorEv
namespace Go.Proofs.YtamjncikmfpihaaGreatDoor
open Go.RT
set_option linter.unusedVariables false
set_option linter.unusedSimpArgs false
set_option linter.all false

theorem TExpr.ind {P : TExpr → Prop} (h : ∀ op n name kids, (∀ k, k ∈ kids → P k) → P (.mk op n name kids)) (e : TExpr) : P e := by
  match e with
  | .mk op n name kids => exact h op n name kids fun k hk => TExpr.ind h k
termination_by SizeOf.sizeOf e
decreasing_by
  have := List.sizeOf_lt_of_mem hk
  simp only [TExpr.mk.sizeOf_spec]
  omega

theorem okTExpr.ind {P : TExpr → Prop} (h : ∀ e, e.fKids.length ≤ 9223372036854775807 → (∀ k, k ∈ e.fKids → okTExpr k) → (∀ k, k ∈ e.fKids → P k) → P e) : ∀ e, okTExpr e → P e := by
  intro e ho
  induction ho with
  | mk op n name kids h1 h2 h3 h4 h5 ih => exact h (.mk op n name kids) (Nat.le_trans h4 (by decide)) h5 ih

mutual
def nodes : TExpr → Nat
  | .mk _ _ _ kids => nodesL kids + 1
def nodesL : List TExpr → Nat
  | [] => 0
  | k :: l => nodes k + nodesL l
end
theorem nodes_eq (e : TExpr) : nodes e = nodesL e.fKids + 1 := by cases e; rfl
theorem nodes_pos (e : TExpr) : 0 < nodes e := by cases e; simp [nodes]
theorem nodesL_len : ∀ l, List.length l ≤ nodesL l
  | [] => Nat.le_refl _
  | k :: l => by have := nodes_pos k; have := nodesL_len l; simp only [nodesL, List.length_cons]; omega
theorem nodes_mem : ∀ {l : List TExpr} {k : TExpr}, k ∈ l → nodes k ≤ nodesL l
  | x :: l, k, h => by
    rcases List.mem_cons.1 h with rfl | h
    · simp only [nodesL]; omega
    · have := nodes_mem h; simp only [nodesL]; omega

/-- All names have at most 60 bytes. -/
inductive Nms : TExpr → Prop
  | mk (op n : Int) (name : List UInt8) (kids : List TExpr) (h : name.length ≤ 60) (hk : ∀ k, k ∈ kids → Nms k) : Nms (.mk op n name kids)

theorem small_form (F n : Nat) (e : TExpr) (a b : Int) (hF : e.fKids.length < F) (hl : e.fKids.length ≤ 9223372036854775807) : ref05_small_n F (n + 1) e a b =
    cond (decide (a < 1) || decide (b < 1) || decide (60 < (e.fName.length : Int))) (some (-1))
      (lrun (fun t k => cond (decide (0 ≤ t)) ((ref05_small_n F n k t (w64 (b - 1))).bind fun x => some (.inl x)) (some (.inr t))) some e.fKids (w64 (a - 1))) := by
  show ref05_small_m F (ref05_small_n F n) e a b = _
  unfold ref05_small_m
  rw [loopF_lrun e.fKids (fun i (t : Int) => (t, (i : Int))) (fun t k => cond (decide (0 ≤ t)) ((ref05_small_n F n k t (w64 (b - 1))).bind fun x => some (.inl x)) (some (.inr t))) some hF ?_ ?_ ?_]
  · cases decide (a < 1) <;> cases decide (b < 1) <;> rfl
  · rfl
  · intro i h t rc
    simp only [dlt h, dnn, Bool.and_self, cond_true, Option.bind_some, rq_tt, Int.toNat_natCast, gd h, w64_nat (i := i) (by omega)]
    cases decide (0 ≤ t)
    · rfl
    · simp only [cond_true, Option.bind_assoc, Option.bind_some, sm]
  · intro t rc
    simp only [dltn, cond_false, Option.bind_some]

mutual
def smallS : TExpr → Int → Int → Int
  | .mk _ _ name kids, a, b => cond (decide (a < 1) || decide (b < 1) || decide (60 < (name.length : Int))) (-1) (smallL kids (a - 1) (b - 1))
def smallL : List TExpr → Int → Int → Int
  | [], t, _ => t
  | k :: l, t, b => cond (decide (0 ≤ t)) (smallL l (smallS k t b) b) t
end

theorem smallS_eq (e : TExpr) (a b : Int) : smallS e a b = cond (decide (a < 1) || decide (b < 1) || decide (60 < (e.fName.length : Int))) (-1) (smallL e.fKids (a - 1) (b - 1)) := by cases e; rfl
theorem smallL_le {B : Int} : ∀ (l : List TExpr) (t b : Int), (∀ k, k ∈ l → ∀ a, a ≤ B → smallS k a b ≤ B) → t ≤ B → smallL l t b ≤ B
  | [], t, b, _, h => h
  | k :: l, t, b, hk, h => by
    simp only [smallL]
    cases decide (0 ≤ t)
    · exact h
    · exact smallL_le l _ b (fun k h => hk k (List.mem_cons_of_mem _ h)) (hk k (by simp) t h)
theorem smallS_le {B : Int} (hB : -1 ≤ B) (e : TExpr) : ∀ a b, a ≤ B → smallS e a b ≤ B := by
  induction e using TExpr.ind with
  | h op n name kids ih =>
    intro a b h
    simp only [smallS]
    cases (decide (a < 1) || decide (b < 1) || decide (60 < (name.length : Int)))
    · exact smallL_le kids _ _ (fun k hk a h => ih k hk a _ h) (by omega)
    · exact hB

theorem small_eq {e : TExpr} (ho : okTExpr e) : Evt fun F n => ∀ a b, a ≤ 60 → b ≤ 40 → ref05_small_n F n e a b = some (smallS e a b) := by
  revert e
  apply okTExpr.ind
  intro e h4' h5 ih
  refine Evt.succ ((Evt.all ih).map2 (Evt.ge (p := fun F _ => e.fKids.length < F) (e.fKids.length + 1) fun F n h _ => h) fun F m ih hF a b ha hb => ?_)
  rw [small_form F m e a b hF h4', smallS_eq]
  cases hc : (decide (a < 1) || decide (b < 1) || decide (60 < (e.fName.length : Int))) with
  | true => rfl
  | false =>
    simp only [Bool.or_eq_false_iff, decide_eq_false_iff_not] at hc
    simp only [cond_false]
    rw [w64_in (x := a - 1) (by omega), w64_in (x := b - 1) (by omega)]
    have key : ∀ (l : List TExpr) (t : Int), t ≤ 60 → (∀ k, k ∈ l → k ∈ e.fKids) → lrun (fun t k => cond (decide (0 ≤ t)) ((ref05_small_n F m k t (b - 1)).bind fun x => some (.inl x)) (some (.inr t))) some l t = some (smallL l t (b - 1)) := by
      intro l
      induction l with
      | nil => intro t _ _; rfl
      | cons k l ihl =>
        intro t ht hm
        simp only [lrun, smallL]
        cases decide (0 ≤ t)
        · rfl
        · simp only [cond_true]
          rw [ih k (hm k (by simp)) t (b - 1) ht (by omega)]
          exact ihl _ (smallS_le (by omega) k _ _ ht) fun k hk => hm k (List.mem_cons_of_mem _ hk)
    exact key e.fKids (a - 1) (by omega) fun _ h => h

theorem smallL_fact : ∀ (l : List TExpr) (t b : Int), (∀ k, k ∈ l → ∀ a, 0 ≤ smallS k a b → (nodes k : Int) ≤ a - smallS k a b ∧ Nms k) → 0 ≤ smallL l t b → (nodesL l : Int) ≤ t - smallL l t b ∧ ∀ k, k ∈ l → Nms k
  | [], t, b, _, h => ⟨by simp [nodesL, smallL], fun k hk => by cases hk⟩
  | k :: l, t, b, hk, h => by
    simp only [smallL] at h ⊢
    cases ht : decide (0 ≤ t) with
    | false => rw [ht] at h; simp at ht h; omega
    | true =>
      rw [ht] at h
      simp only [cond_true] at h ⊢
      obtain ⟨h1, h2⟩ := smallL_fact l _ b (fun k h => hk k (List.mem_cons_of_mem _ h)) h
      obtain ⟨h3, h4⟩ := hk k (by simp) t (by omega)
      refine ⟨by simp only [nodesL]; omega, fun z hz => ?_⟩
      rcases List.mem_cons.1 hz with rfl | hz
      · exact h4
      · exact h2 z hz
theorem smallS_fact (e : TExpr) : ∀ a b, 0 ≤ smallS e a b → (nodes e : Int) ≤ a - smallS e a b ∧ Nms e := by
  induction e using TExpr.ind with
  | h op n name kids ih =>
    intro a b h
    simp only [smallS] at h ⊢
    cases hc : (decide (a < 1) || decide (b < 1) || decide (60 < (name.length : Int))) with
    | true => rw [hc] at h; simp at h
    | false =>
      rw [hc] at h
      simp only [Bool.or_eq_false_iff, decide_eq_false_iff_not] at hc
      simp only [cond_false] at h ⊢
      obtain ⟨h1, h2⟩ := smallL_fact kids _ _ (fun k hk a h => ih k hk a _ h) h
      exact ⟨by simp only [nodes]; omega, .mk op n name kids (by omega) h2⟩

/-- What Small(e, 60) gives and tells. -/
def SmallS (e : TExpr) : Bool := decide (0 ≤ smallS e 60 40)
theorem Small_eq {e : TExpr} (ho : okTExpr e) : Evt fun F _ => ref05_Small F e 60 = some (SmallS e) :=
  (small_eq ho).fst.mono fun F _ h => by
    unfold ref05_Small ref05_small
    rw [TExpr.eta, h 60 40 (by omega) (by omega)]
    rfl
theorem SmallS_fact {e : TExpr} (h : SmallS e = true) : nodes e ≤ 60 ∧ Nms e := by
  have h : 0 ≤ smallS e 60 40 := by simpa [SmallS] using h
  obtain ⟨h1, h2⟩ := smallS_fact e 60 40 h
  exact ⟨by omega, h2⟩

/-! ### Same -/
mutual
def sameB : TExpr → TExpr → Bool
  | .mk o n s k, .mk o' n' s' k' => o == o' && n == n' && s == s' && sameL k k'
def sameL : List TExpr → List TExpr → Bool
  | [], [] => true
  | k :: l, k' :: l' => sameB k k' && sameL l l'
  | _, _ => false
end
theorem sameB_eq (e x : TExpr) : sameB e x = (e.fOp == x.fOp && e.fN == x.fN && e.fName == x.fName && sameL e.fKids x.fKids) := by cases e; cases x; rfl
theorem sameL_iff : ∀ (l l' : List TExpr), (∀ k, k ∈ l → ∀ x, sameB k x = true ↔ k = x) → (sameL l l' = true ↔ l = l')
  | [], [], _ => by simp [sameL]
  | [], _ :: _, _ => by simp [sameL]
  | _ :: _, [], _ => by simp [sameL]
  | k :: l, k' :: l', h => by
    simp only [sameL, Bool.and_eq_true, List.cons.injEq]
    rw [h k (by simp), sameL_iff l l' fun k hk => h k (List.mem_cons_of_mem _ hk)]
theorem sameB_iff (e : TExpr) : ∀ x, sameB e x = true ↔ e = x := by
  induction e using TExpr.ind with
  | h op n name kids ih =>
    intro x
    cases x with
    | mk o m s k =>
      simp only [sameB, Bool.and_eq_true, beq_iff_eq, TExpr.mk.injEq]
      rw [sameL_iff kids k ih]
      constructor
      · rintro ⟨⟨⟨h1, h2⟩, h3⟩, h4⟩; exact ⟨h1, h2, h3, h4⟩
      · rintro ⟨h1, h2, h3, h4⟩; exact ⟨⟨⟨h1, h2⟩, h3⟩, h4⟩
theorem sameB_refl (e : TExpr) : sameB e e = true := (sameB_iff e e).2 rfl
theorem sameB_comm (a b : TExpr) : sameB a b = sameB b a := by
  rw [Bool.eq_iff_iff, sameB_iff, sameB_iff]; exact eq_comm

theorem same_lrun {r : TExpr → TExpr → Option Bool} : ∀ (l l' : List TExpr), l.length = l'.length → (∀ k, k ∈ l → ∀ x, r k x = some (sameB k x)) →
    lrun (fun (_ : Unit) (p : TExpr × TExpr) => (r p.1 p.2).bind fun x => cond (!x) (some (.inr false)) (some (.inl ()))) (fun _ => some true) (l.zip l') () = some (sameL l l')
  | [], [], _, _ => rfl
  | [], _ :: _, h, _ => by simp at h
  | _ :: _, [], h, _ => by simp at h
  | k :: l, k' :: l', h, hk => by
    simp only [List.zip_cons_cons, lrun, sameL, hk k (by simp), Option.bind_some]
    cases sameB k k'
    · rfl
    · simp only [Bool.not_true, cond_false, Option.bind_some, sm, Bool.true_and]
      exact same_lrun l l' (by simpa using h) fun k h => hk k (List.mem_cons_of_mem _ h)

theorem same_loop {r : TExpr → TExpr → Option Bool} {F : Nat} {l l' : List TExpr} (hl : l.length = l'.length) (hF : l.length < F) (hb : l.length ≤ 9223372036854775807) (hr : ∀ k, k ∈ l → ∀ x, r k x = some (sameB k x)) :
    loopF (σ := Int) (R := Bool) (fun rc x1 =>
      cond (decide (x1 < (l.length : Int)))
        (rq ((decide (0 ≤ x1)) && (decide (x1 < (l.length : Int)))) (rq ((decide (0 ≤ x1)) && (decide (x1 < (l'.length : Int)))) ((r (l.getD (Int.toNat x1) dTExpr) (l'.getD (Int.toNat x1) dTExpr)).bind fun x3 =>
          cond (!x3) (some false) (rc (w64 (x1 + 1))))))
        (some true)) F 0 = some (sameL l l') := by
  rw [loopF_lrun (l.zip l') (fun i (_ : Unit) => (i : Int)) (fun (_ : Unit) (p : TExpr × TExpr) => (r p.1 p.2).bind fun x => cond (!x) (some (.inr false)) (some (.inl ()))) (fun _ => some true) (t := ()) (by simp; omega) ?_ ?_ ?_]
  · exact same_lrun l l' hl hr
  · rfl
  · intro i h t rc
    have hi : i < l.length := by simp at h; omega
    have hi' : i < l'.length := by omega
    simp only [dlt hi, dlt hi', dnn, Bool.and_self, cond_true, rq_tt, Int.toNat_natCast, gd hi, gd hi', w64_nat (i := i) (by omega), List.getElem_zip]
    cases r l[i] l'[i] with
    | none => rfl
    | some b => cases b <;> rfl
  · intro t rc
    have : (l.zip l').length = l.length := by simp; omega
    rw [this]
    simp only [dltn, cond_false]
theorem sameL_len {l l' : List TExpr} (h : l.length ≠ l'.length) : ((l.length : Int) == (l'.length : Int)) = false ∧ sameL l l' = false := by
  refine ⟨by rw [beq_eq_false_iff_ne]; omega, ?_⟩
  apply Bool.eq_false_iff.2
  intro hh
  rw [sameL_iff l l' fun k _ => sameB_iff k] at hh
  exact h (congrArg List.length hh)

theorem ref05_Same_eq {e : TExpr} (ho : okTExpr e) : Evt fun F n => ∀ x, ref05_Same_n F n e x = some (sameB e x) := by
  revert e
  apply okTExpr.ind
  intro e h4' h5 ih
  refine Evt.succ ((Evt.all ih).map2 (Evt.ge (p := fun F _ => e.fKids.length < F) (e.fKids.length + 1) fun F n h _ => h) fun F m ih hF x => ?_)
  show ref05_Same_m F (ref05_Same_n F m) _ x = _
  unfold ref05_Same_m
  simp only [sameB_eq, bne]
  by_cases hl : e.fKids.length = x.fKids.length
  · rw [same_loop hl hF h4' ih, hl]
    cases (e.fOp == x.fOp) <;> cases (e.fN == x.fN) <;> cases (e.fName == x.fName) <;> simp
  · obtain ⟨e1, e2⟩ := sameL_len hl
    rw [e1, e2]
    cases (e.fOp == x.fOp) <;> cases (e.fN == x.fN) <;> cases (e.fName == x.fName) <;> simp

def isNm (op : Int) : Bool := op == 2 || op == 26
theorem take_last {α : Type} {l : List α} {i : Nat} (h : i < l.length) : l.take (i + 1) = l.take i ++ [l[i]] := by
  rw [List.take_succ_eq_append_getElem h]
theorem nodesL_app : ∀ (l m : List TExpr), nodesL (l ++ m) = nodesL l + nodesL m
  | [], m => by simp [nodesL]
  | k :: l, m => by simp only [List.cons_append, nodesL, nodesL_app l m, Nat.add_assoc]
theorem nodesL_take (l : List TExpr) (i : Nat) : nodesL (l.take i) ≤ nodesL l := by
  have := nodesL_app (l.take i) (l.drop i)
  rw [List.take_append_drop] at this
  omega

end Go.Proofs.YtamjncikmfpihaaGreatDoor
