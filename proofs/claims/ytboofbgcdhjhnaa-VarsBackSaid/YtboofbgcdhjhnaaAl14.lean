/-
  AL, part 14: sparse states; rules that forget the slots that are not read again.
-/
import Derived.Test.YtboofbgcdhjhnaaAl13
namespace Go.AL
set_option linter.unusedVariables false

/-- A frame of n slots of which a few are told. -/
def sp (l : List (Nat × DV)) : Nat → Nat → List DV
  | _, 0 => []
  | i, n + 1 => (match l.lookup i with | some d => d | none => .any) :: sp l (i + 1) n

/-- Only the listed slots are kept. -/
def keepT (ks : List Nat) : Nat → List DV → List DV
  | _, [] => []
  | i, d :: ds => (cond (ks.contains i) d .any) :: keepT ks (i + 1) ds

def keepOwn (ks : List Nat) (x : Own) : Bool := match x.loc with
  | .slot i => ks.contains i
  | .tup i _ => ks.contains i
  | .cell _ _ => true
def keepSt (ks : List Nat) (x : St × Prop) : St × Prop := ({ x.1 with t := keepT ks 0 x.1.t, own := x.1.own.filter (keepOwn ks) }, x.2)

theorem andL {a b : Bool} (h : (a && b) = true) : a = true := by cases a <;> simp_all
theorem andR {a b : Bool} (h : (a && b) = true) : b = true := by cases b <;> simp_all

theorem keepT_length (ks : List Nat) : ∀ (i : Nat) (l : List DV), (keepT ks i l).length = l.length
  | _, [] => rfl
  | i, d :: ds => by simp [keepT, keepT_length ks (i + 1) ds]
theorem keepT_get (ks : List Nat) : ∀ (i j : Nat) (l : List DV), (keepT ks i l).getD j .any = .any ∨ (keepT ks i l).getD j .any = l.getD j .any
  | _, _, [] => .inl (by simp [keepT, List.getD])
  | i, 0, d :: ds => by
    simp only [keepT, List.getD_cons_zero]
    cases ks.contains i
    · exact .inl rfl
    · exact .inr rfl
  | i, j + 1, d :: ds => by simpa [keepT] using keepT_get ks (i + 1) j ds

theorem Rel.keep {B : Nat} {st : St} {a : Act} {w : World} {G : Ghost} (h : Rel B st a w G) (ks : List Nat) (p : Prop) : Rel B (keepSt ks (st, p)).1 a w G := by
  refine ⟨by simp [keepSt, keepT_length, h.size], fun j hj => ?_, h.defers, h.boxes, h.newL, fun x hx => h.own x (List.mem_filter.1 hx).1, h.dist.filter _⟩
  simp only [keepSt, keepT_length] at hj ⊢
  rcases keepT_get ks 0 j st.t with he | he
  · rw [he]; exact .any _ _
  · rw [he]; exact h.tmps j hj

section
variable {P : Program} {ops : Array Oper} {st : St} {Q : AExit → St → Prop}

theorem AWp.keep (ks : List Nat) {c : Code} {st' : St} (hs : (keepSt ks (st, True)).1 = st') (h : AWp P c st' Q) : AWp P c st Q := by
  subst hs
  exact fun w0 G0 a w G hE hr => h w0 G0 a w G hE (hr.keep ks True)
theorem AOps.keep (ks : List Nat) {l : List Oper} {st' : St} (hs : (keepSt ks (st, True)).1 = st') (h : AOps P ops l st' Q) : AOps P ops l st Q := by
  subst hs
  exact fun w0 G0 a w G hE hr => h w0 G0 a w G hE (hr.keep ks True)

/-- The rest of a post may start from a state that says less. -/
def Grows (Q : AExit → St → Prop) : Prop := ∀ st ks, Q .normal (keepSt ks (st, True)).1 → Q .normal st

theorem AOps.runK (ks : List Nat) (n : Nat) {tg : List Nat} {H : Hints} {l : List Oper} {st' : St} {ob : Prop} (h : (Go.AL.execs P tg H ops (l.take n) st).map (keepSt ks) = some (st', ob)) (hob : ob)
    (hrest : AOps P ops (l.drop n) st' Q) : AOps P ops l st Q := by
  obtain ⟨⟨s1, o1⟩, h1, h2⟩ := Option.map_eq_some_iff.1 h
  simp only [keepSt, Prod.mk.injEq] at h2
  obtain ⟨rfl, rfl⟩ := h2
  exact AOps.run n h1 hob (AOps.keep ks rfl hrest)

theorem AWp.seqX (ks : List Nat) {id : Nat} {tg : List Nat} {H : Hints} {l : List Oper} {y : Code} {st' : St} {ob : Prop} (h : (execs P tg H l.toArray l st).map (keepSt ks) = some (st', ob)) (hob : ob) (hy : AWp P y st' Q) :
    AWp P (.seq (.region id l.toArray false) y) st Q := by
  obtain ⟨⟨s1, o1⟩, h1, h2⟩ := Option.map_eq_some_iff.1 h
  simp only [keepSt, Prod.mk.injEq] at h2
  obtain ⟨rfl, rfl⟩ := h2
  exact AWp.seq (AWp.regionX h1 hob (AWp.keep ks rfl hy))

theorem AWp.seqQ (ks : List Nat) {id : Nat} {tg : List Nat} {H : Hints} {l : List Oper} {y : Code} {st' : St} {ob : Prop} (hm : P.follows .mixedOrders = true) (hB : Region.lexB .any l.toArray = true)
    (h : (execQ P tg H l.toArray l st).map (keepSt ks) = some (st', ob)) (hob : ob) (hy : AWp P y st' Q) : AWp P (.seq (.region id l.toArray true) y) st Q := by
  obtain ⟨⟨s1, o1⟩, h1, h2⟩ := Option.map_eq_some_iff.1 h
  simp only [keepSt, Prod.mk.injEq] at h2
  obtain ⟨rfl, rfl⟩ := h2
  exact AWp.seq (AWp.regionQ hm hB h1 hob (AWp.keep ks rfl hy))

theorem AWp.tailX (ks : List Nat) {id : Nat} {tg : List Nat} {H : Hints} {l : List Oper} {st' : St} {ob : Prop} (h : (execs P tg H l.toArray l st).map (keepSt ks) = some (st', ob)) (hob : ob)
    (hQ : ∀ s, (keepSt ks (s, True)).1 = st' → Q .normal s) : AWp P (.region id l.toArray false) st Q := by
  obtain ⟨⟨s1, o1⟩, h1, h2⟩ := Option.map_eq_some_iff.1 h
  simp only [keepSt, Prod.mk.injEq] at h2
  obtain ⟨h3, rfl⟩ := h2
  exact AWp.regionX h1 hob (hQ s1 h3)
theorem AWp.tailQ (ks : List Nat) {id : Nat} {tg : List Nat} {H : Hints} {l : List Oper} {st' : St} {ob : Prop} (hm : P.follows .mixedOrders = true) (hB : Region.lexB .any l.toArray = true)
    (h : (execQ P tg H l.toArray l st).map (keepSt ks) = some (st', ob)) (hob : ob) (hQ : ∀ s, (keepSt ks (s, True)).1 = st' → Q .normal s) : AWp P (.region id l.toArray true) st Q := by
  obtain ⟨⟨s1, o1⟩, h1, h2⟩ := Option.map_eq_some_iff.1 h
  simp only [keepSt, Prod.mk.injEq] at h2
  obtain ⟨h3, rfl⟩ := h2
  exact AWp.regionQ hm hB h1 hob (hQ s1 h3)

theorem weakT_keep {n : Nat} (ks : List Nat) : ∀ (i : Nat) (l m : List DV), weakT n (keepT ks i l) m → weakT n l m
  | _, [], [], _ => trivial
  | i, d :: ds, e :: es, h => by
    refine ⟨?_, weakT_keep ks (i + 1) ds es h.2⟩
    rcases h.1 with h1 | ⟨h1, h2⟩
    · exact .inl h1
    · cases hc : ks.contains i
      · rw [hc] at h1; exact .inl h1
      · rw [hc] at h1 h2; exact .inr ⟨h1, h2⟩
  | _, [], _ :: _, h => h.elim
  | _, _ :: _, [], h => h.elim

theorem SubP.filter {m l : List Own} {p : Own → Bool} (h : SubP m (l.filter p)) (_ : Unit) : SubP m l := by
  obtain ⟨s, h1, h2⟩ := h
  exact ⟨s, h1.trans List.filter_sublist, h2⟩
theorem Weak.keep {ks : List Nat} {s st' st2 : St} (hs : (keepSt ks (s, True)).1 = st') (h : Weak st' st2) : Weak s st2 := by
  subst hs
  exact ⟨weakT_keep ks 0 _ _ h.t, h.S, h.L, h.low, h.own.filter (), h.lowO⟩

/-- A region in parts, then the rest. -/
theorem AWp.seqO {id : Nat} {l : List Oper} {y : Code} (h : AOps P l.toArray l st (thenQ P y Q)) : AWp P (.seq (.region id l.toArray false) y) st Q := AWp.seq (AWp.region h)

theorem AOps.done {y : Code} (h : AWp P y st Q) : AOps P ops [] st (thenQ P y Q) := AOps.nil h

theorem ACalls.eq_of {d d' : DV} {S S' N N' : List Box} {o o' : List Own} (h : d = d') (h1 : S = S') (h2 : N = N') (h3 : o = o') : (⟨d, S, N, o⟩ : ARes) = ⟨d', S', N', o'⟩ := by subst h; subst h1; subst h2; subst h3; rfl

end
end Go.AL
