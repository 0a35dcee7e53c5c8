/-
  RT, part 33: regions that draw their order and hold calls or write memory: quiet operations first, the others one by one.
-/
import Derived.Test.YtnbdahlceddihaaDoorR32
import Derived.OrdersHeld
namespace Go.RT
set_option linter.unusedVariables false

section
variable {P : Program} {ops : Array Oper} {Q : Exit → Act → World → Prop} {S : World → Prop} {lo hi : Nat}

/-- The first i operations have come up. -/
def pre (n i : Nat) : Array Bool := ((List.range n).map fun k => Nat.blt k i).toArray
theorem blt_iff {a b : Nat} : Nat.blt a b = true ↔ a < b := by
  rw [Nat.blt, Nat.ble_eq]; exact Nat.succ_le_iff
theorem blt_not {a b : Nat} (h : b ≤ a) : Nat.blt a b = false := by
  apply Bool.eq_false_iff.2
  rw [Ne, blt_iff]; omega
theorem pre_zero (n : Nat) : Array.replicate n false = pre n 0 := by
  apply Array.ext'
  apply List.ext_getElem
  · simp [pre]
  · intro k h1 h2
    simp [pre, blt_not]
theorem pre_succ {n i : Nat} : (pre n i).setIfInBounds i true = pre n (i + 1) := by
  apply Array.ext'
  apply List.ext_getElem
  · simp [pre]
  · intro k h1 h2
    simp only [pre, List.setIfInBounds_toArray, List.getElem_set, List.getElem_map, List.getElem_range]
    by_cases hk : i = k
    · subst hk; rw [if_pos rfl]; exact (blt_iff.2 (by omega)).symm
    · rw [if_neg hk]
      rw [Bool.eq_iff_iff, blt_iff, blt_iff]
      omega
theorem pre_get {n i k : Nat} (h : i ≤ k) (hk : k < n) : (pre n i).getD k true = false := by
  simp [pre, hk, blt_not h]
theorem pre_get_lt {n i k : Nat} (h : k < i) (hk : k < n) (d : Bool) : (pre n i).getD k d = true := by
  simp [pre, hk, blt_iff.2 h]

/-- Whether operation j waits for operation i, directly or through others. -/
def waits (ops : Array Oper) : Nat → Nat → Nat → Bool
  | 0, _, _ => false
  | fuel + 1, j, i => match ops[j]? with
    | none => false
    | some o => o.after.any (fun e => Region.binds .any e && e.on == i) || o.after.any (fun e => Region.binds .any e && (Nat.blt i e.on && waits ops fuel e.on i))

/-- What has come up came up behind what it waits for. -/
def Closed (ops : Array Oper) (listed : Array Bool) : Prop := ∀ (j : Nat) (o : Oper), ops[j]? = some o → listed.getD j false = true → ∀ e ∈ o.after, Region.binds .any e = true → listed.getD e.on false = true

theorem waits_listed {listed : Array Bool} (hc : Closed ops listed) {i : Nat} : ∀ (fuel j : Nat), waits ops fuel j i = true →
    (∀ o, ops[j]? = some o → ∀ e ∈ o.after, Region.binds .any e = true → listed.getD e.on false = true) → listed.getD i false = true
  | 0, _, h, _ => by cases h
  | fuel + 1, j, h, hj => by
    unfold waits at h
    cases ho : ops[j]? with
    | none => rw [ho] at h; cases h
    | some o =>
      rw [ho] at h
      simp only [Bool.or_eq_true] at h
      rcases h with h | h
      · obtain ⟨e, he, hb⟩ := Array.any_eq_true'.1 h
        simp only [Bool.and_eq_true, beq_iff_eq] at hb
        rw [← hb.2]
        exact hj o ho e he hb.1
      · obtain ⟨e, he, hb⟩ := Array.any_eq_true'.1 h
        simp only [Bool.and_eq_true] at hb
        refine waits_listed hc fuel e.on hb.2.2 fun o' ho' => hc e.on o' ho' (hj o ho e he hb.1)

theorem getD_set_cases {listed : Array Bool} {i k : Nat} (h : (listed.setIfInBounds i true).getD k false = true) : k = i ∨ listed.getD k false = true := by
  by_cases hik : i = k
  · exact .inl hik.symm
  · rw [getD_set_ne false hik] at h; exact .inr h
theorem Closed.step {listed : Array Bool} (hc : Closed ops listed) {i : Nat} (hr : i ∈ Region.ready .any ops listed) : Closed ops (listed.setIfInBounds i true) := by
  intro j o ho hj e he hb
  obtain ⟨_, oi, hoi, hall⟩ := mem_ready.1 hr
  rcases getD_set_cases hj with rfl | hj
  · rw [hoi] at ho; cases ho
    exact getD_set_true (hall e he hb)
  · exact getD_set_true (hc j o ho hj e he hb)

/-- Whatever order is picked, and each operation from lo to hi keeps S. -/
def wpAnyS (P : Program) (ops : Array Oper) (Q : Exit → Act → World → Prop) (S : World → Prop) (lo hi : Nat) : Nat → Array Bool → Act → World → Prop
  | 0, listed, a, w => Region.ready .any ops listed = [] ∧ Q .normal a w
  | fuel + 1, listed, a, w =>
    (Region.ready .any ops listed = [] → Q .normal a w) ∧
    ∀ i ∈ Region.ready .any ops listed, wpOp P ops Q i (fun a' w' => (lo ≤ i ∧ i < hi → S w → S w') ∧ wpAnyS P ops Q S lo hi fuel (listed.setIfInBounds i true) a' w') a w

theorem wpAny_of_S : ∀ (fuel : Nat) (listed : Array Bool) (a : Act) (w : World), wpAnyS P ops Q S lo hi fuel listed a w → wpAny P .any ops Q fuel listed a w
  | 0, _, _, _, h => h
  | fuel + 1, _, _, _, h => ⟨h.1, fun i hi => wpOp_mono (fun a' w' h' => wpAny_of_S fuel _ a' w' h'.2) (h.2 i hi)⟩

theorem S_of_wpAny : ∀ (fuel : Nat) (listed : Array Bool) (a : Act) (w : World), (∀ k, lo ≤ k → k < hi → listed.getD k true = true) → wpAny P .any ops Q fuel listed a w → wpAnyS P ops Q S lo hi fuel listed a w
  | 0, _, _, _, _, h => h
  | fuel + 1, listed, _, _, hp, h => ⟨h.1, fun i hm => wpOp_mono (fun a' w' h' => by
      have hun := (mem_ready.1 hm).1
      refine ⟨fun hx _ => ?_, S_of_wpAny fuel _ a' w' (fun k h1 h2 => ?_) h'⟩
      · rw [hp i hx.1 hx.2] at hun; cases hun
      · by_cases hik : i = k
        · subst hik; rw [hp i h1 h2] at hun; cases hun
        · rw [getD_set_ne true hik]; exact hp k h1 h2) (h.2 i hm)⟩

theorem wpAnyS_first {i : Nat} {oi : Oper} {v : Value} (hoi : ops[i]? = some oi) (hsel : ∀ (j : Nat) (o : Oper) cs b, ops[j]? = some o → o.op ≠ .select cs b)
    (hQ : ∀ c a w, Q (.panic c) (a.put oi.dst v) w → Q (.panic c) a w) (hW : ∀ j, hi ≤ j → j < ops.size → waits ops ops.size j i = true) :
    ∀ (fuel : Nat) (listed : Array Bool) (a : Act) (w : World), Closed ops listed → (∀ k, k < lo → k < ops.size → listed.getD k true = true) →
      (∀ j oj, ops[j]? = some oj → j ≠ i → listed.getD j true = false → (∀ e ∈ oj.after, Region.binds .any e = true → e.on ≠ i) → oi.apart ops oj = true) →
      i ∈ Region.ready .any ops listed → YieldsIf P ops S oi v a → S w →
      wpAnyS P ops Q S lo hi fuel (listed.setIfInBounds i true) (a.put oi.dst v) w → wpAnyS P ops Q S lo hi (fuel + 1) listed a w := by
  intro fuel
  induction fuel with
  | zero =>
    intro listed a w _ _ _ hr hy hS H
    refine ⟨fun h => (by rw [h] at hr; cases hr), fun j hj => ?_⟩
    by_cases hji : j = i
    · subst hji; exact hy.wpOp hoi hS ⟨fun _ h => h, H⟩
    · have := ready_mono hj hji
      rw [H.1] at this
      cases this
  | succ fuel ih =>
    intro listed a w hcl hlo hfree hr hy hS H
    refine ⟨fun h => (by rw [h] at hr; cases hr), fun j hj => ?_⟩
    by_cases hji : j = i
    · subst hji; exact hy.wpOp hoi hS ⟨fun _ h => h, H⟩
    · have h1 := H.2 j (ready_mono hj hji)
      obtain ⟨hjun, oj, hoj, hall⟩ := mem_ready.1 hj
      have hpi : listed.getD i true = false := (mem_ready.1 hr).1
      have hnot : ∀ e ∈ oj.after, Region.binds .any e = true → e.on ≠ i := fun e he hb heq => by
        have h1 := hall e he hb
        rw [heq] at h1
        rcases Nat.lt_or_ge i listed.size with h' | h'
        · simp [h'] at hpi h1; rw [hpi] at h1; cases h1
        · simp [Array.getElem?_eq_none h'] at h1
      have hjl : j < ops.size := (Array.getElem?_eq_some_iff.1 hoj).1
      have hrange : lo ≤ j ∧ j < hi := by
        refine ⟨?_, ?_⟩
        · rcases Nat.lt_or_ge j lo with h' | h'
          · rw [hlo j h' hjl] at hjun; cases hjun
          · exact h'
        · rcases Nat.lt_or_ge j hi with h' | h'
          · exact h'
          · have := waits_listed hcl ops.size j (hW j h' hjl) (fun o ho e he hb => by rw [hoj] at ho; cases ho; exact hall e he hb)
            rcases Nat.lt_or_ge i listed.size with h'' | h''
            · simp [h''] at hpi this; rw [hpi] at this; cases this
            · simp [Array.getElem?_eq_none h''] at this
      have h2 := wpOp_putIf hoj (hfree j oj hoj hji hjun hnot) (fun cs b => hsel i oi cs b hoi) (fun cs b => hsel j oj cs b hoj) hQ hy h1
      have hfree' : ∀ k ok, ops[k]? = some ok → k ≠ i → (listed.setIfInBounds j true).getD k true = false →
          (∀ e ∈ ok.after, Region.binds .any e = true → e.on ≠ i) → oi.apart ops ok = true := fun k ok hk hki hun hno => by
        refine hfree k ok hk hki ?_ hno
        by_cases hjk : j = k
        · subst hjk; exact hjun
        · rw [getD_set_ne true hjk] at hun; exact hun
      have hlo' : ∀ k, k < lo → k < ops.size → (listed.setIfInBounds j true).getD k true = true := fun k h1 h2 => by
        by_cases hjk : j = k
        · subst hjk; omega
        · rw [getD_set_ne true hjk]; exact hlo k h1 h2
      refine wpOp_mono (fun a' w' h3 => ⟨fun _ _ => h3.2.1 hrange hS, ih (listed.setIfInBounds j true) a' w' (hcl.step hj) hlo' hfree' (ready_mono hr (Ne.symm hji)) h3.1 (h3.2.1 hrange hS) ?_⟩) h2
      rw [Array.setIfInBounds_comm _ _ hji]
      exact h3.2.2

/-- The same for an operation that reads no memory: it may be taken ahead of whatever else. -/
theorem wpAnyS_free {i : Nat} {oi : Oper} {v : Value} (hoi : ops[i]? = some oi) (hsel : ∀ (j : Nat) (o : Oper) cs b, ops[j]? = some o → o.op ≠ .select cs b)
    (hQ : ∀ c a w, Q (.panic c) (a.put oi.dst v) w → Q (.panic c) a w) :
    ∀ (fuel : Nat) (listed : Array Bool) (a : Act) (w : World),
      (∀ j oj, ops[j]? = some oj → j ≠ i → listed.getD j true = false → (∀ e ∈ oj.after, Region.binds .any e = true → e.on ≠ i) → oi.apart ops oj = true) →
      i ∈ Region.ready .any ops listed → YieldsIf P ops (fun _ => True) oi v a →
      wpAnyS P ops Q S lo hi fuel (listed.setIfInBounds i true) (a.put oi.dst v) w → wpAnyS P ops Q S lo hi (fuel + 1) listed a w := by
  intro fuel
  induction fuel with
  | zero =>
    intro listed a w _ hr hy H
    refine ⟨fun h => (by rw [h] at hr; cases hr), fun j hj => ?_⟩
    by_cases hji : j = i
    · subst hji; exact hy.wpOp hoi trivial ⟨fun _ h => h, H⟩
    · have := ready_mono hj hji
      rw [H.1] at this
      cases this
  | succ fuel ih =>
    intro listed a w hfree hr hy H
    refine ⟨fun h => (by rw [h] at hr; cases hr), fun j hj => ?_⟩
    by_cases hji : j = i
    · subst hji; exact hy.wpOp hoi trivial ⟨fun _ h => h, H⟩
    · have h1 := H.2 j (ready_mono hj hji)
      obtain ⟨hjun, oj, hoj, hall⟩ := mem_ready.1 hj
      have hpi : listed.getD i true = false := (mem_ready.1 hr).1
      have hnot : ∀ e ∈ oj.after, Region.binds .any e = true → e.on ≠ i := fun e he hb heq => by
        have h1 := hall e he hb
        rw [heq] at h1
        rcases Nat.lt_or_ge i listed.size with h' | h'
        · simp [h'] at hpi h1; rw [hpi] at h1; cases h1
        · simp [Array.getElem?_eq_none h'] at h1
      have h2 := wpOp_putIf hoj (hfree j oj hoj hji hjun hnot) (fun cs b => hsel i oi cs b hoi) (fun cs b => hsel j oj cs b hoj) hQ hy h1
      have hfree' : ∀ k ok, ops[k]? = some ok → k ≠ i → (listed.setIfInBounds j true).getD k true = false →
          (∀ e ∈ ok.after, Region.binds .any e = true → e.on ≠ i) → oi.apart ops ok = true := fun k ok hk hki hun hno => by
        refine hfree k ok hk hki ?_ hno
        by_cases hjk : j = k
        · subst hjk; exact hjun
        · rw [getD_set_ne true hjk] at hun; exact hun
      refine wpOp_mono (fun a' w' h3 => ⟨h3.2.1, ih (listed.setIfInBounds j true) a' w' hfree' (ready_mono hr (Ne.symm hji)) h3.1 ?_⟩) h2
      rw [Array.setIfInBounds_comm _ _ hji]
      exact h3.2.2

theorem Oper.wp_mono2 {o : Oper} {a : Act} {w : World} {K K' : Act → World → Prop} {Q' : Exit → Act → World → Prop} (h : ∀ a w, K a w → K' a w) (hq : ∀ e a w, e ≠ .normal → Q e a w → Q' e a w)
    (hh : o.wp P a w K Q) : o.wp P a w K' Q' := by
  have hout : LetsOut Q → LetsOut Q' := fun ⟨a, w, h⟩ => ⟨a, w, hq _ _ _ (by simp) h⟩
  unfold Oper.wp at *
  generalize (execOp a.eval o).run P w = r at *
  cases r with
  | ok n w' =>
    cases n <;> simp only [Oper.upon] at hh ⊢
    case value u => exact h _ _ hh
    case skip => exact h _ _ hh
    case defer d => exact h _ _ hh
    case enter f args =>
      refine Calls.mono hh fun e w'' he => ?_
      cases e with
      | returned u => exact h _ _ he
      | panicked c => exact hq _ _ _ (by simp) he
      | outgrown => exact hout he
    case row row args => exact Rows.mono hh fun u w'' he => h _ _ he
  | halt x w' =>
    cases x <;> simp only [Oper.upon] at hh ⊢
    case panic u => exact hq _ _ _ (by simp) hh

/-- Operations that come up one by one. -/
def forced (ops : Array Oper) (i : Nat) : Nat → Bool
  | 0 => true
  | m + 1 => (Region.ready .any ops (pre ops.size i) == [i]) && forced ops (i + 1) m

theorem wpAny_seg {R Q' : Exit → Act → World → Prop} : ∀ (seg : List Oper) (i fuel : Nat), (∀ k, k < seg.length → ops[i + k]? = seg[k]?) → forced ops i seg.length = true → ∀ a w, wpList P ops R seg a w →
    (∀ e a w, R e a w → e = .normal ∧ wpAny P .any ops Q' fuel (pre ops.size (i + seg.length)) a w) → wpAny P .any ops Q' (seg.length + fuel) (pre ops.size i) a w
  | [], i, fuel, _, _, a, w, h, hR => by
    have := (hR _ a w h).2
    simpa using this
  | o :: seg, i, fuel, hs, hf, a, w, h, hR => by
    simp only [List.length_cons, forced, Bool.and_eq_true, beq_iff_eq] at hf
    have hoi : ops[i]? = some o := by simpa using hs 0 (by simp)
    rw [show (o :: seg).length + fuel = (seg.length + fuel) + 1 by simp; omega]
    refine wpAny_all hf.1 (by simp) fun j hj => ?_
    have : j = i := by simpa using hj
    subst this
    have ih : ∀ a w, wpList P ops R seg a w → wpAny P .any ops Q' (seg.length + fuel) ((pre ops.size j).setIfInBounds j true) a w := fun a w hw => by
      rw [pre_succ]
      refine wpAny_seg seg (j + 1) fuel (fun k hk => ?_) hf.2 a w hw (fun e a w hr => ?_)
      · have := hs (k + 1) (by simpa using hk)
        rw [show j + 1 + k = j + (k + 1) by omega]
        simpa using this
      · have := hR e a w hr
        rw [show j + 1 + seg.length = j + (o :: seg).length by simp; omega]
        exact this
    have hq : ∀ e a w, e ≠ .normal → R e a w → Q' e a w := fun e a w hne hr => absurd (hR e a w hr).1 hne
    unfold wpOp
    simp only [hoi]
    have h' : (if Region.wanted o (yielded ops a.tmps) then o.wp P a w (wpList P ops R seg) R ∨ (o.asks P a w ∧ LetsOut R) else wpList P ops R seg (a.put o.dst undef) w) := h
    split
    · rename_i hw
      rw [if_pos hw] at h'
      rcases h' with h' | ⟨_, a1, w1, h1⟩
      · exact .inl (Oper.wp_mono2 ih hq h')
      · exact absurd (hR _ _ _ h1).1 (by simp)
    · rename_i hw
      rw [if_neg hw] at h'
      exact ih _ _ h'

end
end Go.RT
