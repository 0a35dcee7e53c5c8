/-
  AL, part 20: joins; the small words of the printed models (Option with conditions).
-/
import Derived.Test.YtboofbgcdhjhnaaAl19
namespace Go.AL
set_option linter.unusedVariables false

/-- What a piece of code does: it goes on with a state, or it has its end already. -/
inductive J (σ ρ : Type) where
  | go (s : σ)
  | ret (r : ρ)
  deriving Inhabited

/-- A condition without which nothing is told. -/
def req {α : Type} (p : Prop) [Decidable p] (o : Option α) : Option α := if p then o else none
theorem req_some {α : Type} {p : Prop} [Decidable p] {o : Option α} {r : α} (h : req p o = some r) : p ∧ o = some r := by
  unfold req at h
  split at h
  · exact ⟨‹_›, h⟩
  · cases h
theorem req_pos {α : Type} {p : Prop} [Decidable p] {o : Option α} (h : p) : req p o = o := if_pos h
theorem bind_some {α β : Type} {o : Option α} {k : α → Option β} {r : β} (h : o.bind k = some r) : ∃ s, o = some s ∧ k s = some r := Option.bind_eq_some_iff.1 h

def jn {σ ρ : Type} (o : Option (J σ ρ)) (k : σ → Option ρ) : Option ρ := o.bind fun j => match j with | .go s => k s | .ret y => some y
def jk {σ ρ : Type} (k : σ → Option ρ) (r : ρ) : J σ ρ → Prop
  | .go s => k s = some r
  | .ret y => y = r
theorem jn_some {σ ρ : Type} {o : Option (J σ ρ)} {k : σ → Option ρ} {r : ρ} (h : jn o k = some r) : ∃ j, o = some j ∧ jk k r j := by
  obtain ⟨j, hj, hk⟩ := bind_some h
  refine ⟨j, hj, ?_⟩
  cases j with
  | go s => exact hk
  | ret y => exact Option.some.inj hk
theorem jk_ret {σ ρ : Type} {v : Option ρ} {j : J σ ρ} {k : σ → Option ρ} {r : ρ} (h : v.map J.ret = some j) (hk : jk k r j) : v = some r := by
  cases v with
  | none => cases h
  | some y => cases h; cases hk; rfl
theorem jk_some {σ ρ : Type} {y : ρ} {j : J σ ρ} {k : σ → Option ρ} {r : ρ} (h : some (J.ret y) = some j) (hk : jk k r j) : some y = some r := by
  cases h; cases hk; rfl
theorem jk_go {σ ρ : Type} {j : J σ ρ} {k : σ → Option ρ} {r : ρ} {s : σ} (hs : j = .go s) (hk : jk k r j) : k s = some r := by subst hs; exact hk
@[simp] theorem jn_go {σ ρ : Type} (s : σ) (k : σ → Option ρ) : jn (some (.go s)) k = k s := rfl
@[simp] theorem jn_ret {σ ρ : Type} (y : ρ) (k : σ → Option ρ) : jn (some (.ret y)) k = some y := rfl

theorem cond_t {α : Type} {b : Bool} {x y r : α} (hb : b = true) (h : cond b x y = r) : x = r := by subst hb; exact h
theorem cond_f {α : Type} {b : Bool} {x y r : α} (hb : b = false) (h : cond b x y = r) : y = r := by subst hb; exact h

theorem beqT {b : Bool} (h : b = true) : (b == true) = true := by subst h; rfl
theorem beqF {b : Bool} (h : b = false) : (b == false) = true := by subst h; rfl
theorem eqT {b : Bool} (h : (b == true) = true) : b = true := by cases b <;> first | rfl | cases h
theorem eqF {b : Bool} (h : (b == false) = true) : b = false := by cases b <;> first | rfl | cases h
theorem andI {a b : Bool} (h : a = true) (h' : b = true) : (a && b) = true := by subst h; subst h'; rfl
theorem notT {b : Bool} (h : b = false) : (!b) = true := by subst h; rfl
theorem notF {b : Bool} (h : b = true) : (!b) = false := by subst h; rfl
theorem unnotT {b : Bool} (h : (!b) = true) : b = false := by cases b <;> first | rfl | cases h
theorem unnotF {b : Bool} (h : (!b) = false) : b = true := by cases b <;> first | rfl | cases h
theorem ACalls.drop {P : Program} {f : FuncId} {ds : List DV} {S S1 : List Box} {d : DV} {ow : List Own} (h : ACalls P f ds S (fun q => q = ⟨d, S1, [], ow⟩)) : ACalls P f ds S (fun q => q = ⟨d, S1, [], []⟩) := by
  refine ACalls.noown fun w G args h1 h2 h3 h4 => Calls.mono (h w G args h1 h2 h3 h4) fun e w' hp => ?_
  obtain ⟨v, r, G', he, hE, hr, rfl⟩ := hp
  exact ⟨v, _, G', he, hE, hr, rfl, rfl, rfl⟩

theorem getD_encI {α : Type} [Inhabited α] (enc : α → List DV) (l : List α) (n : Int) (h0 : 0 ≤ n) (h1 : n < (l.length : Int)) : (l.map enc).getD n.toNat [] = enc (l.getD n.toNat default) := by
  have : n.toNat < l.length := by omega
  simp [List.getD, this]
theorem lt_map {α β : Type} {f : α → β} {l : List α} {n : Int} (h : n < (l.length : Int)) : n < ((l.map f).length : Int) := by rw [List.length_map]; exact h
theorem le_map {α β : Type} {f : α → β} {l : List α} {n : Int} (h : n ≤ (l.length : Int)) : n ≤ ((l.map f).length : Int) := by rw [List.length_map]; exact h

section
variable {P : Program} {ops : Array Oper} {st : St} {Q : AExit → St → Prop}

def sumQ {σ : Type} (mid : σ → St) (p : σ → Prop) (Q : AExit → St → Prop) : AExit → St → Prop
  | .normal, s' => ∃ s, p s ∧ Weak s' (mid s)
  | e, s' => Q e s'

/-- Two ways of a piece of code meet again. -/
theorem AWp.seqSum {σ : Type} (mid : σ → St) (p : σ → Prop) {x y : Code} (hx : AWp P x st (sumQ mid p Q)) (hy : ∀ s, p s → AWp P y (mid s) Q) : AWp P (.seq x y) st Q := by
  refine AWp.seq (AWp.mono hx fun e s' h => ?_)
  cases e with
  | normal =>
    obtain ⟨s, hp, hw⟩ := h
    intro w0 G0 a w G hE hr
    exact hy s hp w0 G0 a w _ (hE.weak _) (hr.weak hw)
  | _ => exact h

def midQ (mid : St) (Q : AExit → St → Prop) : AExit → St → Prop
  | .normal, s' => Weak s' mid
  | e, s' => Q e s'
theorem AWp.seqMid (mid : St) {x y : Code} (hx : AWp P x st (midQ mid Q)) (hy : AWp P y mid Q) : AWp P (.seq x y) st Q := by
  refine AWp.seq (AWp.mono hx fun e s' h => ?_)
  cases e with
  | normal =>
    intro w0 G0 a w G hE hr
    exact hy w0 G0 a w _ (hE.weak _) (hr.weak h)
  | _ => exact h

/-- The post may take a state that says less of the same machine. -/
theorem AWp.sem {c : Code} {Q' : AExit → St → Prop} (h : AWp P c st Q') (hq : ∀ e s, Q' e s → ∀ B a w G, Rel B s a w G → ∃ s2, Rel B s2 a w G ∧ Q e s2) : AWp P c st Q := by
  intro w0 G0 a w G hE hr
  refine wp_mono (h w0 G0 a w G hE hr) fun e a' w' hp => ?_
  obtain ⟨x, s, G', he, hE', hr', hQ⟩ := hp
  obtain ⟨s2, hr2, hQ2⟩ := hq x s hQ _ _ _ _ hr'
  exact ⟨x, s2, G', he, hE', hr2, hQ2⟩

/-- Slots that hold nil slices, read as empty rows that they own. -/
def isNil : DV → Bool
  | .val (.slice none 0 0) => true
  | _ => false
def nilOk (st : St) : List (Nat × TypeId × Nat) → Bool
  | [] => true
  | (i, e, k) :: ns => isNil (st.t.getD i .any) && Nat.blt i st.t.length && nilOk ⟨st.t.set i (.slice k []), st.L, st.S, ⟨.slot i, e, k⟩ :: st.own⟩ ns
def nilSt (st : St) : List (Nat × TypeId × Nat) → St
  | [] => st
  | (i, e, k) :: ns => nilSt ⟨st.t.set i (.slice k []), st.L, st.S, ⟨.slot i, e, k⟩ :: st.own⟩ ns
theorem isNil_eq {d : DV} (h : isNil d = true) : d = .val (.slice none 0 0) := by
  unfold isNil at h
  split at h
  · rfl
  · cases h
theorem Rel.nils {B : Nat} {a : Act} {w : World} {G : Ghost} : ∀ {ns : List (Nat × TypeId × Nat)} {st : St}, Rel B st a w G → nilOk st ns = true → Rel B (nilSt st ns) a w G
  | [], _, hr, _ => hr
  | (i, e, k) :: ns, st, hr, h => by
    simp only [nilOk, Bool.and_eq_true] at h
    have hi : i < st.t.length := by
      have := h.1.2
      simpa [Nat.blt_eq] using this
    exact Rel.nils (ns := ns) (hr.nilown (e := e) (k := k) (isNil_eq h.1.1) hi) h.2

def keepNil (ks : List Nat) (ns : List (Nat × TypeId × Nat)) (x : St × Prop) : Option (St × Prop) :=
  match nilOk (keepSt ks x).1 ns with
  | true => some (nilSt (keepSt ks x).1 ns, x.2)
  | false => none

theorem AWp.tailN (ks : List Nat) (ns : List (Nat × TypeId × Nat)) {id : Nat} {tg : List Nat} {H : Hints} {l : List Oper} {st' : St} {ob : Prop} (h : (execs P tg H l.toArray l st).bind (keepNil ks ns) = some (st', ob)) (hob : ob)
    (hQ : Q .normal st') : AWp P (.region id l.toArray false) st Q := by
  obtain ⟨⟨s1, o1⟩, h1, h2⟩ := Option.bind_eq_some_iff.1 h
  unfold keepNil at h2
  split at h2
  · rename_i hn
    cases h2
    refine AWp.sem (AWp.regionX (Q := fun e s => e = .normal ∧ s = s1) h1 hob ⟨rfl, rfl⟩) fun e s he B a w G hr => ?_
    obtain ⟨rfl, rfl⟩ := he
    exact ⟨_, (hr.keep ks o1).nils hn, hQ⟩
  · cases h2
theorem AWp.tailNQ (ks : List Nat) (ns : List (Nat × TypeId × Nat)) {id : Nat} {tg : List Nat} {H : Hints} {l : List Oper} {st' : St} {ob : Prop} (hm : P.follows .mixedOrders = true) (hB : Region.lexB .any l.toArray = true)
    (h : (execQ P tg H l.toArray l st).bind (keepNil ks ns) = some (st', ob)) (hob : ob)
    (hQ : Q .normal st') : AWp P (.region id l.toArray true) st Q := by
  obtain ⟨⟨s1, o1⟩, h1, h2⟩ := Option.bind_eq_some_iff.1 h
  unfold keepNil at h2
  split at h2
  · rename_i hn
    cases h2
    refine AWp.sem (AWp.regionQ (Q := fun e s => e = .normal ∧ s = s1) hm hB h1 hob ⟨rfl, rfl⟩) fun e s he B a w G hr => ?_
    obtain ⟨rfl, rfl⟩ := he
    exact ⟨_, (hr.keep ks o1).nils hn, hQ⟩
  · cases h2
theorem AWp.nilowns {c : Code} {st' : St} (ns : List (Nat × TypeId × Nat)) (h : nilOk st ns = true) (hst : nilSt st ns = st') (hrest : AWp P c st' Q) : AWp P c st Q := by
  subst hst
  exact fun w0 G0 a w G hE hr => hrest w0 G0 a w G hE (hr.nils h)
theorem AOps.nilowns {l : List Oper} {st' : St} (ns : List (Nat × TypeId × Nat)) (h : nilOk st ns = true) (hst : nilSt st ns = st') (hrest : AOps P ops l st' Q) : AOps P ops l st Q := by
  subst hst
  exact fun w0 G0 a w G hE hr => hrest w0 G0 a w G hE (hr.nils h)

/-- A guarded operation, by cases. -/
theorem AOps.splitG {dst : Option Nat} {op : Op} {ty : TypeId} {pos : String} {aft : Array Edge} {rest : List Oper} {j t : Nat} {want g : Bool} {d : DV} {st' : St}
    (hgt : (ops[j]?).bind (·.dst) = some t) (hgc : gcond (st.t.getD t .any) want = some g) (ht : g = true → AOps P ops (⟨dst, op, ty, pos, aft, none⟩ :: rest) st Q)
    (hst : ({ st with t := setO st.t dst (.whn g d), own := st.own.filterMap (renOwn (renDst dst)) } : St) = st') (hf : g = false → AOps P ops rest st' Q) :
    AOps P ops (⟨dst, op, ty, pos, aft, some (j, want)⟩ :: rest) st Q := by
  intro w0 G0 a w G hE hr
  have hw := wanted_ok (o := ⟨dst, op, ty, pos, aft, some (j, want)⟩) hr rfl hgt hgc
  show (if _ then _ else _)
  rw [hw]
  cases g with
  | false =>
    simp only [Bool.false_eq_true, if_false]
    refine hf rfl w0 G0 _ w G hE ?_
    rw [← hst]
    exact hr.put (.whn _ _ _ _ (fun h => by cases h) (fun _ => rfl)) _ _ (fun x hx l hl => renDst_ok hl)
  | true =>
    simp only [if_true]
    have := ht rfl w0 G0 a w G hE hr
    have h3 : (if Region.wanted ⟨dst, op, ty, pos, aft, none⟩ (yielded ops a.tmps) then _ else _) := this
    rw [if_pos (by rfl)] at h3
    exact h3

/-- How elements of slices are written as cells. -/
def ceS (s : List UInt8) : List DV := [.str s]
def ceB (b : Bool) : List DV := [.bool b]
def ceI (k : IntKind) (n : Int) : List DV := [.int k n]
def ceL {α : Type} (k : Nat) (enc : α → List DV) (l : List α) : List DV := [.slice k (l.map enc)]

end
end Go.AL
