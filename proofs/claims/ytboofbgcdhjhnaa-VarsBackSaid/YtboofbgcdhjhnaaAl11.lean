/-
  AL, part 11: the rules: runs of operations, regions, control, calls, a function's contract out of its body.
-/
import Derived.Test.YtboofbgcdhjhnaaAl10
namespace Go.AL
set_option linter.unusedVariables false

/-- Whether a guarded operation is carried out. -/
def gcond : DV → Bool → Option Bool
  | .bool b, want => some (b == want)
  | .whn g d, want => match gcond d want with
    | some c => some (g && c)
    | none => none
  | _, _ => none

/-- Hints: what the value of a slot is to be written as. -/
abbrev Hints := List (Nat × DV)

def hintOf (H : Hints) : Option Nat → Option DV
  | some i => H.lookup i
  | none => none

def execG (P : Program) (H : Hints) (ops : Array Oper) (st : St) (o : Oper) (j : Nat) (want : Bool) : Option (St × Prop) :=
  match (ops[j]?).bind (·.dst) with
  | some t => match gcond (st.t.getD t .any) want, evalOp P st o.op with
    | some g, some (d, ob) => match hintOf H o.dst with
      | some d' => some ({ st with t := setO st.t o.dst (.whn g d'), own := st.own.filterMap (renOwn (renDst o.dst)) }, g = true → ob ∧ d = d')
      | none => some ({ st with t := setO st.t o.dst (.whn g d), own := st.own.filterMap (renOwn (renDst o.dst)) }, g = true → ob)
    | _, _ => none
  | none => none

/-- The value of slot i written as the hint says. -/
def hinted (H : Hints) (dst : Option Nat) (x : St × Prop) : St × Prop :=
  match hintOf H dst with
  | some d' => ({ x.1 with t := setO x.1.t dst d' }, x.2 ∧ x.1.t.getD (dst.getD 0) .any = d')
  | none => x

def execs (P : Program) (tg : List Nat) (H : Hints) (ops : Array Oper) : List Oper → St → Option (St × Prop)
  | [], st => some (st, True)
  | o :: rest, st =>
    match (match o.guard with
      | none => (exec1 P tg st o).map (hinted H o.dst)
      | some (j, want) => execG P H ops st o j want) with
    | some (st1, ob1) => match execs P tg H ops rest st1 with
      | some (st2, ob2) => some (st2, ob1 ∧ ob2)
      | none => none
    | none => none

/-- The same where the order is open: operations that leave memory alone. -/
def execQ (P : Program) (tg : List Nat) (H : Hints) (ops : Array Oper) : List Oper → St → Option (St × Prop)
  | [], st => some (st, True)
  | o :: rest, st =>
    match (match o.guard with
      | none => (pureExec P tg st o).map (hinted H o.dst)
      | some (j, want) => execG P H ops st o j want) with
    | some (st1, ob1) => match execQ P tg H ops rest st1 with
      | some (st2, ob2) => some (st2, ob1 ∧ ob2)
      | none => none
    | none => none

theorem hinted_eq {H : Hints} {dst : Option Nat} {x : St × Prop} (h : (hinted H dst x).2) : x.2 ∧ (hinted H dst x).1 = x.1 := by
  unfold hinted at h ⊢
  split at h
  · rename_i d' hd
    refine ⟨h.1, ?_⟩
    cases dst with
    | none => cases hd
    | some i =>
      have he : x.1.t.getD i .any = d' := h.2
      have : setO x.1.t (some i) d' = x.1.t := by
        simp only [setO]
        by_cases hi : i < x.1.t.length
        · rw [← he]
          apply List.ext_getElem (by simp)
          intro q h1 h2
          rw [List.getElem_set]
          split
          · rename_i e; subst e; simp [List.getD, hi]
          · rfl
        · exact List.set_eq_of_length_le (Nat.le_of_not_lt hi)
      rw [this]
  · exact ⟨h, rfl⟩

section
variable {P : Program} {ops : Array Oper} {st : St} {Q : AExit → St → Prop}

def boolOf : Value → Option Bool
  | .bool b => some b
  | _ => none

theorem gcond_ok {w : World} {pr : Nat → Nat → Prop} {i : Places} {v : Value} {d : DV} (h : V w pr i v d) : ∀ {want g : Bool}, gcond d want = some g →
    (boolOf v == some want) = g := by
  induction h with
  | bool i b => intro want g hg; simp [gcond] at hg; simp [boolOf, hg]
  | whn i v b d h h0 ih =>
    intro want g hg
    simp only [gcond] at hg
    split at hg <;> try (cases hg; done)
    rename_i c hc
    cases hg
    cases hb : b with
    | true => rw [ih hb hc]; simp
    | false => rw [h0 hb]; simp [undef, boolOf]
  | any i v => intro want g hg; simp [gcond] at hg
  | int i k n => intro want g hg; simp [gcond] at hg
  | str i l => intro want g hg; simp [gcond] at hg
  | val i v => intro want g hg; simp [gcond] at hg
  | agg i vs ds hs h1 h _ => intro want g hg; simp [gcond] at hg
  | nils i a k => intro want g hg; simp [gcond] at hg
  | slice i b off cap k es c hcap hk h0 h1 h _ => intro want g hg; simp [gcond] at hg
  | iface i t v d h _ => intro want g hg; simp [gcond] at hg
  | cptr i b o off cs c h0 h1 h _ => intro want g hg; simp [gcond] at hg
  | ptr i l r off b h => intro want g hg; simp [gcond] at hg
  | func i fn vs ds hs h _ => intro want g hg; simp [gcond] at hg
  | tuple i vs ds hs h _ => intro want g hg; simp [gcond] at hg
  | mref i l r b h => intro want g hg; simp [gcond] at hg

theorem wanted_ok {B : Nat} {a : Act} {w : World} {G : Ghost} {o : Oper} (hr : Rel B st a w G) {j t : Nat} {want g : Bool} (hg : o.guard = some (j, want)) (ht : (ops[j]?).bind (·.dst) = some t)
    (hc : gcond (st.t.getD t .any) want = some g) : Region.wanted o (yielded ops a.tmps) = g := by
  have hlt : t < st.t.length := by
    rcases Nat.lt_or_ge t st.t.length with h | h
    · exact h
    · simp [List.getD, List.getElem?_eq_none h, gcond] at hc
  have hv := hr.tmps t hlt
  have h1 := gcond_ok hv hc
  unfold Region.wanted yielded
  rw [hg]
  simp only [ht, Option.bind_some]
  have h2 : a.tmps[t]? = some (a.tmps.getD t undef) := by
    have : t < a.tmps.size := by rw [hr.size]; exact hlt
    simp [Array.getD, this]
  rw [h2]
  rw [← h1]
  cases a.tmps.getD t undef <;> rfl

theorem execG_sound {B : Nat} {a : Act} {w : World} {G : Ghost} {o : Oper} (hr : Rel B st a w G) {j : Nat} {want : Bool} (hg : o.guard = some (j, want)) {st' : St} {ob : Prop}
    {H : Hints} (h : execG P H ops st o j want = some (st', ob)) (hob : ob) :
    (Region.wanted o (yielded ops a.tmps) = true ∧ ∃ v, (∀ w', SameL o w w' → (execOp a.eval o).run P w' = .ok (.value v) w') ∧ Rel B st' (a.put o.dst v) w G) ∨
    (Region.wanted o (yielded ops a.tmps) = false ∧ Rel B st' (a.put o.dst undef) w G) := by
  unfold execG at h
  split at h <;> try (cases h; done)
  rename_i t ht
  split at h <;> try (cases h; done)
  rename_i g d ob' hc he
  have hw := wanted_ok hr hg ht hc
  split at h
  · rename_i d' hd'
    cases h
    cases g with
    | true =>
      obtain ⟨o1, rfl⟩ := hob rfl
      obtain ⟨v, hv, hrun⟩ := evalOp_sound hr he o1
      exact .inl ⟨hw, v, hrun, hr.put (.whn _ _ _ _ (fun _ => hv) (fun h => by cases h)) _ _ (fun x hx l hl => renDst_ok hl)⟩
    | false => exact .inr ⟨hw, hr.put (.whn _ _ _ _ (fun h => by cases h) (fun _ => rfl)) _ _ (fun x hx l hl => renDst_ok hl)⟩
  · cases h
    cases g with
    | true =>
      obtain ⟨v, hv, hrun⟩ := evalOp_sound hr he (hob rfl)
      exact .inl ⟨hw, v, hrun, hr.put (.whn _ _ _ _ (fun _ => hv) (fun h => by cases h)) _ _ (fun x hx l hl => renDst_ok hl)⟩
    | false => exact .inr ⟨hw, hr.put (.whn _ _ _ _ (fun h => by cases h) (fun _ => rfl)) _ _ (fun x hx l hl => renDst_ok hl)⟩

theorem AOps.nil (h : Q .normal st) : AOps P ops [] st Q := fun _ _ _ _ G hE hr => ⟨.normal, st, G, trivial, hE, hr, h⟩

theorem AOps.execs {tg : List Nat} {H : Hints} {l : List Oper} {rest : List Oper} {st' : St} {ob : Prop} (h : Go.AL.execs P tg H ops l st = some (st', ob)) (hob : ob) (hrest : AOps P ops rest st' Q) : AOps P ops (l ++ rest) st Q := by
  induction l generalizing st ob with
  | nil => cases h; exact hrest
  | cons o l ih =>
    simp only [Go.AL.execs] at h
    intro w0 G0 a w G hE hr
    cases hg : o.guard with
    | none =>
      rw [hg] at h
      simp only at h
      split at h <;> try (cases h; done)
      rename_i st1 ob1 h1
      split at h <;> try (cases h; done)
      rename_i st2 ob2 h2
      cases h
      obtain ⟨⟨sx, obx⟩, hx, hxe⟩ := Option.map_eq_some_iff.1 h1
      have hh := hinted_eq (H := H) (dst := o.dst) (x := (sx, obx)) (by rw [hxe]; exact hob.1)
      rw [hxe] at hh
      obtain ⟨hobx, rfl⟩ := hh
      obtain ⟨nx, v, w', G', hrun, hnx, hr', hE'⟩ := exec1_sound tg hr hE.size hx hobx
      have hrest' := ih h2 hob.2 w0 G0 (a.put o.dst v) w' G' (hE' w0 G0 rfl hE) hr'
      refine wpList_plain hg fun K hK => ?_
      unfold Oper.wp
      rw [hrun]
      rcases hnx with rfl | ⟨rfl, rfl⟩
      · exact hK _ _ hrest'
      · exact hK _ _ hrest'
    | some jw =>
      obtain ⟨j, want⟩ := jw
      rw [hg] at h
      simp only at h
      split at h <;> try (cases h; done)
      rename_i st1 ob1 h1
      split at h <;> try (cases h; done)
      rename_i st2 ob2 h2
      cases h
      rcases execG_sound (P := P) (ops := ops) hr hg h1 hob.1 with ⟨hw, v, hrun, hr'⟩ | ⟨hw, hr'⟩
      · have hrest' := ih h2 hob.2 w0 G0 (a.put o.dst v) w G hE hr'
        show (if _ then _ else _)
        rw [if_pos hw]
        refine .inl ?_
        unfold Oper.wp
        rw [hrun w (SameL.refl _ w)]
        exact hrest'
      · have hrest' := ih h2 hob.2 w0 G0 (a.put o.dst undef) w G hE hr'
        show (if _ then _ else _)
        rw [if_neg (by rw [hw]; simp)]
        exact hrest'

theorem AWp.region {id : Nat} {l : List Oper} (h : AOps P l.toArray l st Q) : AWp P (.region id l.toArray false) st Q :=
  fun w0 G0 a w G hE hr => wp_region_lit (h w0 G0 a w G hE hr)

/-- A region of operations that leave memory alone, in whatever order. -/
theorem AWp.regionQ {id : Nat} {tg : List Nat} {H : Hints} {l : List Oper} {st' : St} {ob : Prop} (hm : P.follows .mixedOrders = true) (hB : Region.lexB .any l.toArray = true)
    (h : execQ P tg H l.toArray l st = some (st', ob)) (hob : ob) (hQ : Q .normal st') : AWp P (.region id l.toArray true) st Q := by
  intro w0 G0 a w G hE hr
  refine wp_region_quiet (C := fun w' => Same w w' ∧ w'.os = w.os ∧ w'.tape = w.tape ∧ w'.output = w.output) hm hB ⟨⟨Nat.le_refl _, fun _ _ => rfl⟩, rfl, rfl, rfl⟩ ?_
  have key : ∀ (l' : List Oper) (st : St) (a : Act) (ob : Prop), Rel w0.heap.size st a w G → execQ P tg H l.toArray l' st = some (st', ob) → ob →
      wpQuiet P l.toArray (fun w' => Same w w' ∧ w'.os = w.os ∧ w'.tape = w.tape ∧ w'.output = w.output)
        (fun a' => ∀ w', (Same w w' ∧ w'.os = w.os ∧ w'.tape = w.tape ∧ w'.output = w.output) → CPost w0 G0 Q .normal a' w') l' a := by
    intro l'
    induction l' with
    | nil =>
      intro st a ob hr h hob
      cases h
      intro w' ⟨hs, h1, h2, h3⟩
      refine ⟨.normal, st', { G with pr := G.pr }, trivial, ?_, ?_, hQ⟩
      · exact hE.grow hs h1 h2 h3 rfl (fun _ _ h => h) (fun _ _ _ h => h)
      · exact hr.grow hs G.pr (fun _ _ h => h) (fun _ _ _ h => h) (fun b o hp => Nat.lt_of_lt_of_le (hr.boxes.prok b o hp).1 hs.1)
    | cons o l' ih =>
      intro st a ob hr h hob
      simp only [execQ] at h
      cases hg : o.guard with
      | none =>
        rw [hg] at h
        simp only at h
        split at h <;> try (cases h; done)
        rename_i st1 ob1 h1
        split at h <;> try (cases h; done)
        rename_i st2 ob2 h2
        cases h
        obtain ⟨⟨sx, obx⟩, hx, hxe⟩ := Option.map_eq_some_iff.1 h1
        have hh := hinted_eq (H := H) (dst := o.dst) (x := (sx, obx)) (by rw [hxe]; exact hob.1)
        rw [hxe] at hh
        obtain ⟨hobx, rfl⟩ := hh
        unfold pureExec at hx
        split at hx <;> try (cases hx; done)
        rename_i d ob' he
        cases hx
        obtain ⟨v, hv, hrun⟩ := evalOp_sound hr he hobx
        have hr' := hr.put hv o.dst _ (fun x hx l hl => renOf_ok hr.size tg (hrun w (SameL.refl _ w)) hl)
        show (if _ then _ else _)
        rw [if_pos (by simp [Region.wanted, hg])]
        refine ⟨v, fun w' hw' => ?_, ih _ _ _ hr' h2 hob.2⟩
        unfold Oper.quietAt
        rw [hrun w' (fun _ => hw'.1)]
        exact ⟨rfl, rfl⟩
      | some jw =>
        obtain ⟨j, want⟩ := jw
        rw [hg] at h
        simp only at h
        split at h <;> try (cases h; done)
        rename_i st1 ob1 h1
        split at h <;> try (cases h; done)
        rename_i st2 ob2 h2
        cases h
        rcases execG_sound (P := P) hr hg h1 hob.1 with ⟨hw, v, hrun, hr'⟩ | ⟨hw, hr'⟩
        · show (if _ then _ else _)
          rw [if_pos hw]
          refine ⟨v, fun w' hw' => ?_, ih _ _ _ hr' h2 hob.2⟩
          unfold Oper.quietAt
          rw [hrun w' (fun _ => hw'.1)]
          exact ⟨rfl, rfl⟩
        · show (if _ then _ else _)
          rw [if_neg (by rw [hw]; simp)]
          exact ih _ _ _ hr' h2 hob.2
  have := key l st a ob hr h hob
  simpa using this

def thenQ (P : Program) (y : Code) (Q : AExit → St → Prop) : AExit → St → Prop
  | .normal, st => AWp P y st Q
  | x, st => Q x st

theorem AWp.seq {x y : Code} (h : AWp P x st (thenQ P y Q)) : AWp P (.seq x y) st Q := by
  intro w0 G0 a w G hE hr
  refine wp_seq (wp_mono (h w0 G0 a w G hE hr) fun e a' w' hp => ?_)
  obtain ⟨x', st', G', he, hE', hr', hQ⟩ := hp
  have he' := he
  cases e <;> cases x' <;> simp only [ERel] at he'
  case normal.normal => exact hQ w0 G0 a' w' G' hE' hr'
  all_goals exact ⟨_, st', G', he, hE', hr', hQ⟩

theorem AWp.cond {c : Operand} {x y : Code} {b : Bool} (hb : strip (st.ev c) = .bool b) (ho : stripOb (st.ev c)) (ht : b = true → AWp P x st Q) (hf : b = false → AWp P y st Q) : AWp P (.cond c x y) st Q := by
  intro w0 G0 a w G hE hr
  have hv := hr.arg c ho
  rw [hb] at hv
  refine wp_cond_split hv.bool_inv (fun h => ht h w0 G0 a w G hE hr) (fun h => hf h w0 G0 a w G hE hr)

theorem AWp.skip (h : Q .normal st) : AWp P .skip st Q := fun _ _ _ _ G hE hr => wp_skip ⟨.normal, st, G, trivial, hE, hr, h⟩
theorem AWp.ret (h : Q .ret st) : AWp P .ret st Q := fun _ _ _ _ G hE hr => wp_ret ⟨.ret, st, G, trivial, hE, hr, h⟩
theorem AWp.exit {id : Nat} (h : Q (.exit id) st) : AWp P (.exit id) st Q := fun _ _ _ _ G hE hr => wp_exit ⟨.exit id, st, G, rfl, hE, hr, h⟩

def blockQ (id : Nat) (Q : AExit → St → Prop) : AExit → St → Prop
  | .exit id', st => match Nat.beq id' id with
    | true => Q .normal st
    | false => Q (.exit id') st
  | x, st => Q x st

theorem AWp.block {id : Nat} {c : Code} (h : AWp P c st (blockQ id Q)) : AWp P (.block id c) st Q := by
  intro w0 G0 a w G hE hr
  refine wp_block (wp_mono (h w0 G0 a w G hE hr) fun e a' w' hp => ?_)
  obtain ⟨x', st', G', he, hE', hr', hQ⟩ := hp
  have he' := he
  cases e <;> cases x' <;> simp only [ERel] at he'
  case exit.exit i j =>
    subst he'
    simp only [Exit.inBlock, blockQ] at hQ ⊢
    by_cases hid : i = id
    · subst hid
      simp only [Nat.beq_refl] at hQ
      rw [if_pos rfl]; exact ⟨.normal, st', G', trivial, hE', hr', hQ⟩
    · have : Nat.beq i id = false := by
        cases hb : Nat.beq i id
        · rfl
        · exact (hid (Nat.eq_of_beq_eq_true hb)).elim
      rw [this] at hQ
      rw [if_neg hid]; exact ⟨.exit i, st', G', rfl, hE', hr', hQ⟩
  all_goals exact ⟨_, st', G', he, hE', hr', hQ⟩

theorem AWp.mono {c : Code} {Q' : AExit → St → Prop} (h : AWp P c st Q) (hq : ∀ x st, Q x st → Q' x st) : AWp P c st Q' := fun w0 G0 a w G hE hr =>
  wp_mono (h w0 G0 a w G hE hr) fun _ _ _ ⟨x, st', G', he, hE', hr', hQ⟩ => ⟨x, st', G', he, hE', hr', hq _ _ hQ⟩

end
end Go.AL
