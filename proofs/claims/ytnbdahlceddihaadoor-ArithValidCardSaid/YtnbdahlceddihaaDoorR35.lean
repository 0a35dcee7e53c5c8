/-
  RT, part 35: code, run on abstract states with continuations; soundness.
-/
import Derived.Test.YtnbdahlceddihaaDoorR34
namespace Go.RT
set_option linter.unusedVariables false

variable {E : TEnv}

/-- A join with early ends. -/
def jj {σ R : Type} (x : Option (σ ⊕ R)) (k : σ → Option R) : Option R := x.bind (sm k some)
def loopF {σ R : Type} (body : (σ → Option R) → σ → Option R) : Nat → σ → Option R
  | 0, _ => none
  | n + 1, s => body (loopF body n) s

/-- Nil slices that become growable rows: in a slot, in a cell of a box. -/
inductive Own where
  | slot (i : Nat) (e : TypeId) (t : Ty)
  | cell (r c : Nat) (e : TypeId) (t : Ty)
def adoptT (W : List Nat) : List Own → TS E → Option (TS E)
  | [], st => some st
  | .slot i e T :: os, st => match st.t[i]? with
    | some (.val (.slice none 0 0)) => cond (W.elem i) (adoptT W os { st with t := st.t.set i (.gsl st.g.length 0 T []), g := st.g ++ [⟨0, e, T.size E⟩] }) none
    | _ => none
  | .cell r c e T :: os, st => match st.H[r]? with
    | some (.cells t cs) => match cs[c]? with
      | some (.val (.slice none 0 0)) => adoptT W os { st with H := st.H.set r (.cells t (cs.set c (.gsl st.g.length 0 T []))), g := st.g ++ [⟨0, e, T.size E⟩], d := r :: st.d }
      | _ => none
    | _ => none

inductive Plan where
  | leaf
  | region (l : List (Nat × Cut × Bool))
  | draw (l : List DSeg)
  | drawP (R Z : List Nat) (l : List SSeg)
  | seq (ow : List Own) (c : Option (Cut × Bool)) (p q : Plan)
  | cond (p q : Plan)
  | loop (ow : List Own) (c : Cut) (p : Plan)
def Plan.l : Plan → Plan
  | .cond p _ => p
  | _ => .leaf
def Plan.r : Plan → Plan
  | .cond _ q => q
  | _ => .leaf

def wr : Code → List Nat
  | .region _ ops _ => wrL ops ops.toList
  | .seq a b => wr a ++ wr b
  | .cond _ a b => wr a ++ wr b
  | .block _ a => wr a
  | .loop a => wr a
  | _ => []
def noDef : Code → Bool
  | .region _ ops _ => noDefL ops.toList
  | .seq a b => noDef a && noDef b
  | .cond _ a b => noDef a && noDef b
  | .block _ a => noDef a
  | .loop a => noDef a
  | _ => true

def goK {σ R : Type} (x : Option σ) : Option (σ ⊕ R) := x.bind fun s => some (.inl s)
def retK {σ R : Type} (x : Option R) : Option (σ ⊕ R) := x.bind fun r => some (.inr r)

def segs {R : Type} (X : Cx E) (all : Array Oper) : List (Nat × Cut × Bool) → List Oper → TS E → (Ex E → TS E → Option R) → Option R
  | [], l, st, k => opsT X all l st k
  | s :: cs, l, st, k => rq (s.2.1.okW (wrL all (l.take s.1)) && noDefL (l.take s.1)) (cond s.2.2
      (jj (opsT X all (l.take s.1) st (thenK (fun st' => goK (s.2.1.pack st st')) fun e st' => retK (k e st'))) fun x => segs X all cs (l.drop s.1) (s.2.1.un (wrL all (l.take s.1)) st x) k)
      ((opsT X all (l.take s.1) st (thenK (fun st' => s.2.1.pack st st') fun _ _ => none)).bind fun x => segs X all cs (l.drop s.1) (s.2.1.un (wrL all (l.take s.1)) st x) k))

def blockK {R : Type} (i : Nat) (k : Ex E → TS E → Option R) : Ex E → TS E → Option R
  | .exit j, st => cond (Nat.beq j i) (k .normal st) (k (.exit j) st)
  | e, st => k e st

def runT (X : Cx E) (F : Nat) : Code → Plan → {R : Type} → TS E → (Ex E → TS E → Option R) → Option R
  | .skip, _, _, st, k => k .normal st
  | .label _, _, _, st, k => k .normal st
  | .exit i, _, _, st, k => k (.exit i) st
  | .ret, _, _, st, k => k .ret st
  | .region _ ops dr, p, _, st, k => cond dr (match p with
      | .draw ss => drawT X ops.toList 0 ss st (k .normal)
      | .drawP R Z ss => drawP X R Z ops ss st (k .normal)
      | _ => none) (match p with
      | .region cs => segs X ops cs ops.toList st k
      | _ => opsT X ops ops.toList st k)
  | .seq a b, p, _, st, k => match p with
    | .seq ow c p q => match adoptT (wr a ++ wr b) ow st with
      | none => none
      | some st => match c with
        | none => runT X F a p st (thenK (fun st' => runT X F b q st' k) k)
        | some (c, j) => rq (c.okW (wr a) && noDef a) (_root_.cond j
          (jj (runT X F a p st (thenK (fun st' => goK (c.pack st st')) fun e st' => retK (k e st'))) fun x => runT X F b q (c.un (wr a) st x) k)
          ((runT X F a p st (thenK (fun st' => c.pack st st') fun _ _ => none)).bind fun x => runT X F b q (c.un (wr a) st x) k))
    | _ => runT X F a .leaf st (thenK (fun st' => runT X F b .leaf st' k) k)
  | .cond c a b, p, _, st, k => match st.ev c with
    | .dat .bool v => _root_.cond v (runT X F a p.l st k) (runT X F b p.r st k)
    | _ => none
  | .block i a, p, _, st, k => runT X F a p st (blockK i k)
  | .loop a, p, _, st, k => match p with
    | .loop ow c p => match adoptT (wr a) ow st with
      | none => none
      | some st => rq (c.okW (wr a) && noDef a) ((c.pack st st).bind fun s => loopF (fun rc s => runT X F a p (c.un (wr a) st s) (thenK (fun st' => (c.pack st st').bind rc) k)) F s)
    | _ => none
  | _, _, _, _, _ => none

section
variable {X : Cx E} {st : TS E}

theorem AWp.mono {P : Program} {c : Code} {Q Q' : Ex E → TS E → Prop} (h : AWp E P c st Q) (hq : ∀ x s, Q x s → Q' x s) : AWp E P c st Q' := fun w0 G0 a w G hr =>
  wp_mono (h w0 G0 a w G hr) fun _ _ _ hp => CPost.mono hq hp

theorem adoptT_sound {W : List Nat} {w0 w : World} {G0 : Ghost} {a : Act} : ∀ {os : List Own} {st st' : TS E} {G : Ghost}, adoptT W os st = some st' → Rel E w0 G0 st a w G → (∃ G', Rel E w0 G0 st' a w G') ∧ Fr W true st st'
  | [], st, st', G, h, hr => by cases h; exact ⟨⟨G, hr⟩, Fr.refl _ _ _⟩
  | .slot i e T :: os, st, st', G, h, hr => by
    simp only [adoptT] at h
    split at h <;> try (cases h; done)
    rename_i hi
    cases hw : W.elem i <;> rw [hw] at h <;> simp only [cond_true, cond_false] at h
    · cases h
    obtain ⟨G1, hr1⟩ := hr.adopt hi e T
    obtain ⟨h1, h2⟩ := adoptT_sound h hr1
    have f1 : Fr [i] true st { st with t := st.t.set i (.gsl st.g.length 0 T []), g := st.g ++ [⟨0, e, T.size E⟩] } := ⟨by simp, fun j hj => by
      show (st.t.set i _)[j]? = _
      rw [List.getElem?_set_ne (fun e => hj (by simp [e]))], ⟨[], rfl, fun _ _ _ => rfl⟩, Nat.le_refl _, fun _ => rfl⟩
    exact ⟨h1, f1.trans h2 (fun j hj => by simp at hj; subst hj; exact List.mem_of_elem_eq_true hw) (fun _ h => h) (fun _ => ⟨rfl, rfl⟩)⟩
  | .cell r c e T :: os, st, st', G, h, hr => by
    simp only [adoptT] at h
    split at h <;> try (cases h; done)
    rename_i t cs hH
    split at h <;> try (cases h; done)
    rename_i hc
    obtain ⟨G1, hr1⟩ := hr.adoptCell hH hc e T
    obtain ⟨h1, h2⟩ := adoptT_sound h hr1
    have f1 : Fr [] true st { st with H := st.H.set r (.cells t (cs.set c (.gsl st.g.length 0 T []))), g := st.g ++ [⟨0, e, T.size E⟩], d := r :: st.d } := ⟨rfl, fun _ _ => rfl, ⟨[r], rfl, set_same _ _ _⟩, by simp, fun _ => rfl⟩
    exact ⟨h1, f1.trans h2 (fun j hj => by cases hj) (fun _ h => h) (fun _ => ⟨rfl, rfl⟩)⟩

theorem wpList_append {P : Program} {ops : Array Oper} {Q : Exit → Act → World → Prop} : ∀ (l1 l2 : List Oper) (a : Act) (w : World), wpList P ops (Exit.then (wpList P ops Q l2) Q) l1 a w → wpList P ops Q (l1 ++ l2) a w
  | [], l2, a, w, h => h
  | o :: l1, l2, a, w, h => by
    rw [List.cons_append]
    unfold wpList at h ⊢
    split
    · rename_i hw
      rw [if_pos hw] at h
      rcases h with h | ⟨h, a1, w1, h2⟩
      · exact .inl (Oper.wp_mono2 (fun a w h => wpList_append l1 l2 a w h) (fun e a w hne hq => by cases e <;> first | exact (hne rfl).elim | exact hq) h)
      · exact .inr ⟨h, a1, w1, h2⟩
    · rename_i hw
      rw [if_neg hw] at h
      exact wpList_append l1 l2 _ w h

theorem wpList_mono {P : Program} {ops : Array Oper} : ∀ (l : List Oper) (a : Act) (w : World) {Q1 Q2 : Exit → Act → World → Prop}, (∀ e a w, Q1 e a w → Q2 e a w) → wpList P ops Q1 l a w → wpList P ops Q2 l a w
  | [], a, w, Q1, Q2, hq, h => hq _ _ _ h
  | o :: l, a, w, Q1, Q2, hq, h => by
    unfold wpList at h ⊢
    split
    · rename_i hw
      rw [if_pos hw] at h
      rcases h with h | ⟨h, a1, w1, h2⟩
      · exact .inl (upon_mono (fun a w h => wpList_mono l a w hq h) hq h)
      · exact .inr ⟨h, a1, w1, hq _ _ _ h2⟩
    · rename_i hw
      rw [if_neg hw] at h
      exact wpList_mono l _ _ hq h

theorem goK_some {σ R : Type} {x : Option σ} {j : σ ⊕ R} (h : goK x = some j) : ∃ s, x = some s ∧ j = .inl s := by
  unfold goK at h
  cases x with
  | none => cases h
  | some s => cases h; exact ⟨s, rfl, rfl⟩
theorem retK_some {σ R : Type} {x : Option R} {j : σ ⊕ R} (h : retK x = some j) : ∃ r, x = some r ∧ j = .inr r := by
  unfold retK at h
  cases x with
  | none => cases h
  | some s => cases h; exact ⟨s, rfl, rfl⟩

/-- What a join says. -/
theorem jj_some {σ R : Type} {x : Option (σ ⊕ R)} {k : σ → Option R} {r : R} (h : jj x k = some r) : ∃ j, x = some j ∧ (∀ s, j = .inl s → k s = some r) ∧ ∀ r', j = .inr r' → r' = r := by
  unfold jj at h
  cases x with
  | none => cases h
  | some j =>
    refine ⟨j, rfl, fun s hs => ?_, fun r' hr => ?_⟩
    · subst hs; exact h
    · subst hr; exact Option.some.inj h

/-- A first part with a cut behind it, and a second part: the cases of the two kinds of joins, brought together. -/
theorem cut_cases {σ R : Type} {j : Bool} {A : {R' : Type} → (Ex E → TS E → Option R') → Option R'} {pk : TS E → Option σ} {B : σ → Option R} {k : Ex E → TS E → Option R} {r : R}
    (h : cond j (jj (A (thenK (fun st' => goK (pk st')) fun e st' => retK (k e st'))) B) ((A (thenK pk fun _ _ => none)).bind B) = some r) {C : (Ex E → TS E → Prop) → Prop} (hA : ∀ {R' : Type} {k' : Ex E → TS E → Option R'} {r' : R'}, A k' = some r' → C (fun x s => k' x s = some r')) :
    ∃ Q : Ex E → TS E → Prop, C Q ∧ (∀ s, Q .normal s → ∃ x, pk s = some x ∧ B x = some r) ∧ ∀ x s, x ≠ .normal → Q x s → k x s = some r := by
  cases j <;> simp only [cond_true, cond_false] at h
  · cases hx : A (thenK pk fun _ _ => none) with
    | none => rw [hx] at h; cases h
    | some x =>
      rw [hx] at h
      refine ⟨_, hA hx, fun s hs => ⟨x, hs, h⟩, fun e s hne hs => ?_⟩
      cases e <;> first | exact (hne rfl).elim | cases hs
  · obtain ⟨jv, hx, h1, h2⟩ := jj_some h
    refine ⟨_, hA hx, fun s hs => ?_, fun e s hne hs => ?_⟩
    · obtain ⟨x, hp, rfl⟩ := goK_some hs
      exact ⟨x, hp, h1 x rfl⟩
    · have : retK (k e s) = some jv := by cases e <;> first | exact (hne rfl).elim | exact hs
      obtain ⟨r', hk, rfl⟩ := retK_some this
      rw [hk, h2 r' rfl]

theorem segs_sound {R : Type} (hX : X.Ok) {all : Array Oper} {k : Ex E → TS E → Option R} {r : R} : ∀ (cs : List (Nat × Cut × Bool)) {l : List Oper} {st : TS E}, segs X all cs l st k = some r →
    AOps E X.P all l st (fun x st' => k x st' = some r ∧ Fr (wrL all l) (noDefL l) st st')
  | [], l, st, h => opsT_sound hX h
  | s :: cs, l, st, h => by
    simp only [segs] at h
    obtain ⟨hc, h⟩ := rq_some h
    rw [Bool.and_eq_true] at hc
    intro w0 G0 a w G hr
    have hpre := hr.pre
    obtain ⟨Q, hC, hN, hX'⟩ := cut_cases (A := fun {R'} k' => opsT (R := R') X all (l.take s.1) st k') h (C := fun Q => AOps E X.P all (l.take s.1) st (fun x st' => Q x st' ∧ Fr (wrL all (l.take s.1)) (noDefL (l.take s.1)) st st')) (fun h' => opsT_sound hX h')
    rw [← List.take_append_drop s.1 l]
    refine wpList_append _ _ a w (wpList_mono _ a w (fun e a' w' hp => ?_) (hC w0 G0 a w G hr))
    obtain ⟨x, s', G', he, hr', hq, hf⟩ := hp
    have hsub1 : ∀ i, i ∈ wrL all (l.take s.1) → i ∈ wrL all (l.take s.1 ++ l.drop s.1) := fun i hi => by
      rw [List.take_append_drop]; exact wrL_sub l 0 s.1 i (by simpa using hi)
    have hsub2 : ∀ i, i ∈ wrL all (l.drop s.1) → i ∈ wrL all (l.take s.1 ++ l.drop s.1) := fun i hi => by
      rw [List.take_append_drop]; exact wrL_sub l s.1 l.length i (by rw [List.take_of_length_le (by simp)]; exact hi)
    have hnd2 : noDefL (l.take s.1 ++ l.drop s.1) = true → noDefL (l.drop s.1) = true := fun hn => by
      rw [List.take_append_drop] at hn
      have := noDefL_sub l s.1 l.length hn
      rwa [List.take_of_length_le (by simp)] at this
    cases x with
    | normal =>
      cases e <;> try (exact he.elim)
      obtain ⟨y, hp, hB⟩ := hN s' hq
      obtain ⟨⟨G2, hR⟩, hF⟩ := cut_step hpre hr' (hf.wide (fun _ h => h) (fun _ => hc.2)) hc.1 hp
      show wpList _ _ _ _ _ _
      exact wpList_mono _ _ _ (fun e a w hp => CPost.mono (fun x s'' hh => ⟨hh.1, hF.trans hh.2 hsub1 hsub2 (fun hn => ⟨rfl, hnd2 hn⟩)⟩) hp) (segs_sound hX cs hB w0 G0 a' w' G2 hR)
    | _ =>
      have hk := hX' _ s' (by intro h; cases h) hq
      have hcp : CPost E w0 G0 (fun x st' => k x st' = some r ∧ Fr (wrL all (l.take s.1 ++ l.drop s.1)) (noDefL (l.take s.1 ++ l.drop s.1)) st st') e a' w' := ⟨_, s', G', he, hr', hk, hf.wide hsub1 (fun _ => hc.2)⟩
      cases e <;> first | exact he.elim | exact hcp

theorem wp_loop_ix {ι : Type} {P : Program} {c : Code} {a : Act} {w : World} {Q : Exit → Act → World → Prop} (I : ι → Act → World → Prop) (μ : ι → Nat) (x0 : ι) (h₀ : I x0 a w)
    (round : ∀ x a w, I x a w → c.wp P (Exit.then (fun a' w' => ∃ y, I y a' w' ∧ μ y < μ x) Q) a w) : (Code.loop c).wp P Q a w := by
  intro b k cs
  have key : ∀ n x a w, μ x = n → I x a w →
      ∃ e a' w', Q e a' w' ∧ Arrives P (lone (b.at a (.code c :: .inLoop c :: k)) cs w) b k cs e a' w' := by
    intro n
    induction n using Nat.strongRecOn with
    | _ n ih =>
      intro x a w hn hI
      obtain ⟨e, a₁, w₁, hq, harr⟩ := round x a w hI b (.inLoop c :: k) cs
      cases e with
      | normal =>
        obtain ⟨y, hI₁, hlt⟩ := hq
        obtain ⟨e₂, a₂, w₂, hq₂, harr₂⟩ := ih (μ y) (hn ▸ hlt) y a₁ w₁ rfl hI₁
        exact ⟨e₂, a₂, w₂, hq₂, .of_steps (Steps.trans harr (.one step_inLoop)) harr₂⟩
      | exit id => exact ⟨_, a₁, w₁, hq, .pass (x := .inLoop c) rfl (fun _ _ => .inl (by simp)) harr⟩
      | goto l => exact ⟨_, a₁, w₁, hq, .pass (x := .inLoop c) rfl (fun _ _ => .inl (by simp)) harr⟩
      | ret => exact ⟨_, a₁, w₁, hq, .pass (x := .inLoop c) rfl (fun _ _ => .inl (by simp)) harr⟩
      | panic ch => exact ⟨_, a₁, w₁, hq, .pass (x := .inLoop c) rfl (fun _ _ => .inl (by simp)) harr⟩
      | outgrown => exact ⟨_, a₁, w₁, hq, .pass (x := .inLoop c) rfl (fun _ _ => .inl (by simp)) harr⟩
  obtain ⟨e, a', w', hq, harr⟩ := key _ x0 a w rfl h₀
  exact ⟨e, a', w', hq, .of_steps (.one step_loop) harr⟩

/-- One part of code behind another. -/
theorem seq_ok {P : Program} {a b : Code} {w0 w : World} {G0 G : Ghost} {ac : Act} {Q1 Q : Ex E → TS E → Prop} (hr : Rel E w0 G0 st ac w G) (h : AWp E P a st Q1) (hN : ∀ s a' w' G', Q1 .normal s → Rel E w0 G0 s a' w' G' → b.wp P (CPost E w0 G0 Q) a' w')
    (hX : ∀ x s, x ≠ .normal → Q1 x s → Q x s) : (Code.seq a b).wp P (CPost E w0 G0 Q) ac w := by
  refine wp_seq (wp_mono (h w0 G0 ac w G hr) fun e a' w' hp => ?_)
  obtain ⟨x, s, G', he, hr', hq⟩ := hp
  cases x with
  | normal =>
    cases e <;> try (exact he.elim)
    exact hN s a' w' G' hq hr'
  | _ =>
    have hcp : CPost E w0 G0 Q e a' w' := ⟨_, s, G', he, hr', hX _ s (by intro h; cases h) hq⟩
    cases e <;> first | exact he.elim | exact hcp

theorem runT_sound (hX : X.Ok) {F : Nat} : ∀ (c : Code) (p : Plan) {R : Type} {st : TS E} {k : Ex E → TS E → Option R} {r : R}, runT X F c p st k = some r → AWp E X.P c st (fun x st' => k x st' = some r ∧ Fr (wr c) (noDef c) st st') := by
  intro c
  induction c with
  | skip => intro p R st k r h w0 G0 a w G hr; exact wp_skip ⟨.normal, st, G, trivial, hr, h, Fr.refl _ _ _⟩
  | label l => intro p R st k r h w0 G0 a w G hr; exact wp_label ⟨.normal, st, G, trivial, hr, h, Fr.refl _ _ _⟩
  | exit i => intro p R st k r h w0 G0 a w G hr; exact wp_exit ⟨.exit i, st, G, rfl, hr, h, Fr.refl _ _ _⟩
  | ret => intro p R st k r h w0 G0 a w G hr; exact wp_ret ⟨.ret, st, G, trivial, hr, h, Fr.refl _ _ _⟩
  | goto l => intro p R st k r h; cases h
  | refuse s => intro p R st k r h; cases h
  | scope c _ => intro p R st k r h; cases h
  | rangeFunc f ps a b _ _ => intro p R st k r h; cases h
  | region id ops dr =>
    intro p R st k r h
    simp only [runT] at h
    cases dr <;> simp only [cond_true, cond_false] at h
    · split at h
      · intro w0 G0 a w G hr
        exact wp_region_list (segs_sound hX _ h w0 G0 a w G hr)
      · intro w0 G0 a w G hr
        exact wp_region_list (opsT_sound hX h w0 G0 a w G hr)
    · split at h <;> try (cases h; done)
      · exact AWp.mono (draw_sound hX h) fun x s hh => by rw [hh.1]; exact hh.2
      · exact AWp.mono (drawP_sound hX h) fun x s hh => by rw [hh.1]; exact hh.2
  | block i a ih =>
    intro p R st k r h
    simp only [runT] at h
    have h1 := ih p h
    intro w0 G0 ac w G hr
    refine wp_block (wp_mono (h1 w0 G0 ac w G hr) fun e a' w' hp => ?_)
    obtain ⟨x, s, G', he, hr', hq, hf⟩ := hp
    cases x with
    | exit j =>
      cases e <;> try (exact he.elim)
      rename_i i'
      have he : i' = j := he
      subst he
      simp only [blockK] at hq
      simp only [Exit.inBlock]
      cases hb : Nat.beq i' i <;> rw [hb] at hq <;> simp only [cond_true, cond_false] at hq
      · have : i' ≠ i := fun e => by subst e; rw [Nat.beq_refl] at hb; cases hb
        rw [if_neg this]
        exact ⟨.exit i', s, G', rfl, hr', hq, hf⟩
      · rw [if_pos (Nat.eq_of_beq_eq_true hb)]
        exact ⟨.normal, s, G', trivial, hr', hq, hf⟩
    | _ =>
      have hcp : CPost E w0 G0 (fun x st' => k x st' = some r ∧ Fr (wr (.block i a)) (noDef (.block i a)) st st') e a' w' := ⟨_, s, G', he, hr', hq, hf⟩
      cases e <;> first | exact he.elim | exact hcp
  | cond c a b iha ihb =>
    intro p R st k r h
    simp only [runT] at h
    split at h <;> try (cases h; done)
    rename_i v hv
    intro w0 G0 ac w G hr
    have hvv := hr.ev c
    rw [hv] at hvv
    have hvv := hvv.bool_inv
    cases v <;> simp only [cond_true, cond_false] at h
    · exact wp_cond_false hvv (wp_mono (ihb p.r h w0 G0 ac w G hr) fun _ _ _ hp => CPost.mono (fun x s hh => ⟨hh.1, hh.2.wide (fun i hi => by simp [wr, hi]) (fun hn => by simp only [noDef, Bool.and_eq_true] at hn; exact hn.2)⟩) hp)
    · exact wp_cond_true hvv (wp_mono (iha p.l h w0 G0 ac w G hr) fun _ _ _ hp => CPost.mono (fun x s hh => ⟨hh.1, hh.2.wide (fun i hi => by simp [wr, hi]) (fun hn => by simp only [noDef, Bool.and_eq_true] at hn; exact hn.1)⟩) hp)
  | seq a b iha ihb =>
    have plain : ∀ (p q : Plan) {R : Type} {st : TS E} {k : Ex E → TS E → Option R} {r : R}, runT X F a p st (thenK (fun st' => runT X F b q st' k) k) = some r → AWp E X.P (.seq a b) st (fun x st' => k x st' = some r ∧ Fr (wr (.seq a b)) (noDef (.seq a b)) st st') := by
      intro p q R st k r h w0 G0 ac w G hr
      refine seq_ok hr (iha p h) (fun s a' w' G' hq hr' => ?_) (fun x s hne hq => ?_)
      · exact wp_mono (ihb q hq.1 w0 G0 a' w' G' hr') fun _ _ _ hp => CPost.mono (fun x s' hh => ⟨hh.1, hq.2.trans hh.2 (fun i hi => by simp [wr, hi]) (fun i hi => by simp [wr, hi]) (fun hn => by simp only [noDef, Bool.and_eq_true] at hn; exact hn)⟩) hp
      · refine ⟨by cases x <;> first | exact (hne rfl).elim | exact hq.1, hq.2.wide (fun i hi => by simp [wr, hi]) (fun hn => by simp only [noDef, Bool.and_eq_true] at hn; exact hn.1)⟩
    intro p R st k r h
    simp only [runT] at h
    split at h
    · rename_i ow c p q
      split at h <;> try (cases h; done)
      rename_i st1 had
      intro w0 G0 ac w G hr
      obtain ⟨⟨G1, hr1⟩, hF0⟩ := adoptT_sound had hr
      split at h
      · exact wp_mono (plain p q h w0 G0 ac w G1 hr1) fun _ _ _ hp => CPost.mono (fun x s' hh => ⟨hh.1, hF0.trans hh.2 (fun i hi => hi) (fun i hi => hi) (fun hn => ⟨rfl, hn⟩)⟩) hp
      · rename_i c j
        obtain ⟨hc, h⟩ := rq_some h
        rw [Bool.and_eq_true] at hc
        have hpre := hr1.pre
        obtain ⟨Q, hC, hN, hXn⟩ := cut_cases (A := fun {R'} k' => runT X F a p (R := R') st1 k') h (C := fun Q => AWp E X.P a st1 (fun x st' => Q x st' ∧ Fr (wr a) (noDef a) st1 st')) (fun h' => iha p h')
        refine seq_ok hr1 hC (fun s a' w' G' hq hr' => ?_) (fun x s hne hq => ?_)
        · obtain ⟨y, hp, hB⟩ := hN s hq.1
          obtain ⟨⟨G2, hR⟩, hF⟩ := cut_step hpre hr' (hq.2.wide (fun _ h => h) (fun _ => hc.2)) hc.1 hp
          exact wp_mono (ihb q hB w0 G0 a' w' G2 hR) fun _ _ _ hp => CPost.mono (fun x s' hh => ⟨hh.1, hF0.trans (hF.trans hh.2 (W := wr a ++ wr b) (n := noDef b) (fun i hi => by simp [hi]) (fun i hi => by simp [hi]) (fun hn => ⟨rfl, hn⟩)) (fun i hi => hi) (fun i hi => hi) (fun hn => by
            simp only [noDef, Bool.and_eq_true] at hn; exact ⟨rfl, hn.2⟩)⟩) hp
        · exact ⟨hXn x s hne hq.1, hF0.trans hq.2 (fun i hi => hi) (fun i hi => by simp [wr, hi]) (fun hn => ⟨rfl, hc.2⟩)⟩
    · exact plain .leaf .leaf h
  | loop a ih =>
    intro p R st k r h
    simp only [runT] at h
    split at h <;> try (cases h; done)
    rename_i ow c p
    split at h <;> try (cases h; done)
    rename_i st1 had
    obtain ⟨hc, h⟩ := rq_some h
    rw [Bool.and_eq_true] at hc
    intro w0 G0 ac w G hr
    obtain ⟨⟨G1, hr1⟩, hF0⟩ := adoptT_sound had hr
    have hpre := hr1.pre
    cases hs : c.pack st1 st1 with
    | none => rw [hs] at h; cases h
    | some s0 =>
      rw [hs] at h
      dsimp only [Option.bind] at h
      obtain ⟨hR0, hFu⟩ := cut_step (W := wr a) hpre hr1 (Fr.refl _ _ _) hc.1 hs
      refine wp_loop_ix (ι := Nat × dens E c.tys) (fun x a' w' => loopF (fun rc s => runT X F a p (c.un (wr a) st1 s) (thenK (fun st' => (c.pack st1 st').bind rc) k)) x.1 x.2 = some r ∧ ∃ G', Rel E w0 G0 (c.un (wr a) st1 x.2) a' w' G') (fun x => x.1) (F, s0) ⟨h, hR0⟩ ?_
      rintro ⟨n, s⟩ a' w' ⟨hl, G', hr'⟩
      cases n with
      | zero => cases hl
      | succ n =>
        simp only [loopF] at hl
        have hFs : Fr (wr a) true st1 (c.un (wr a) st1 s) := by
          unfold Cut.pack at hs
          split at hs <;> try (cases hs; done)
          rename_i ls hls
          exact Cut.unpack_fr hc.1 hls
        refine wp_mono (ih p hl w0 G0 a' w' G' hr') fun e a2 w2 hp => ?_
        obtain ⟨x, s2, G2, he, hr2, hq, hf⟩ := hp
        have hF2 : Fr (wr a) true st1 s2 := hFs.trans hf (fun _ h => h) (fun _ h => h) (fun _ => ⟨rfl, hc.2⟩)
        cases x with
        | normal =>
          cases e <;> try (exact he.elim)
          simp only [thenK] at hq
          cases hp2 : c.pack st1 s2 with
          | none => rw [hp2] at hq; cases hq
          | some y =>
            rw [hp2] at hq
            obtain ⟨hR2, -⟩ := cut_step hpre hr2 hF2 hc.1 hp2
            exact ⟨(n, y), ⟨hq, hR2⟩, Nat.lt_succ_self n⟩
        | _ =>
          have hcp : CPost E w0 G0 (fun x st' => k x st' = some r ∧ Fr (wr (.loop a)) (noDef (.loop a)) st st') e a2 w2 := ⟨_, s2, G2, he, hr2, hq, hF0.trans hF2 (fun _ h => h) (fun _ h => h) (fun _ => ⟨rfl, rfl⟩)⟩
          cases e <;> first | exact he.elim | exact hcp
end

end Go.RT
