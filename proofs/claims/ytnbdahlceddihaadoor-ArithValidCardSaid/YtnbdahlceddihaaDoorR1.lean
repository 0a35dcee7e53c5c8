/-
  RT, part 1: codes of plain types, data trees, how values read as data, abstract values and states. Generic: no program is named here.
-/
import Derived.Laws.AppendOwn
import Derived.Laws.RangeString
import Derived.Deep.Quiet
import Derived.Below
import Derived.Tactics2
import Derived.Laws.Strings
import Derived.Laws.Slices
import Derived.Laws.Cells
import Derived.Laws.StructEq
import Derived.Laws.MakeOwn
import Derived.MapKept
namespace Go.RT
set_option linter.unusedVariables false

/-- Codes of plain types. A struct is a chain of pairs that ends in unit; ext i stands for a type of the table. -/
inductive Ty where
  | int (k : IntKind) | bool | str | lst (t : Ty) | unit | pair (a b : Ty) | ext (i : Nat)
  deriving DecidableEq, Inhabited

@[reducible] def Ty.den (D : Nat → Type) : Ty → Type
  | .int _ => Int
  | .bool => Bool
  | .str => List UInt8
  | .lst t => List (t.den D)
  | .unit => Unit
  | .pair a b => a.den D × b.den D
  | .ext i => D i

/-- Data trees: a value's cells. -/
inductive DV where
  | int (k : IntKind) (n : Int)
  | bool (b : Bool)
  | str (l : List UInt8)
  | slice (k : Nat) (es : List (List DV))
  deriving Inhabited

/-- The table of named types: each stands for a struct. -/
structure TEnv where
  D : Nat → Type
  df : Nat → Ty
  size : Nat → Nat
  enc : (i : Nat) → D i → List DV
  unf : (i : Nat) → D i → (df i).den D
  fold : (i : Nat) → (df i).den D → D i
  inh : (i : Nat) → D i
  gl : Nat → Nat → Option Value
  gb : Nat → Option (Array Value)

variable (E : TEnv)

def Ty.size : Ty → Nat
  | .int _ => 1
  | .bool => 1
  | .str => 1
  | .lst _ => 1
  | .unit => 0
  | .pair a b => a.size + b.size
  | .ext i => E.size i

/-- Some value of each type. -/
def Ty.dflt : (t : Ty) → t.den E.D
  | .int _ => (0 : Int)
  | .bool => false
  | .str => []
  | .lst _ => []
  | .unit => ()
  | .pair a b => (a.dflt, b.dflt)
  | .ext i => E.inh i

def Ty.isAgg : Ty → Bool
  | .unit => true
  | .pair _ _ => true
  | .ext _ => true
  | _ => false

def Ty.cells : (t : Ty) → t.den E.D → List DV
  | .int k, n => [.int k n]
  | .bool, b => [.bool b]
  | .str, l => [.str l]
  | .lst t, xs => [.slice (t.size E) (xs.map (t.cells))]
  | .unit, _ => []
  | .pair a b, x => a.cells x.1 ++ b.cells x.2
  | .ext i, x => E.enc i x

structure TEnv.Ok : Prop where
  enc : ∀ i x, E.enc i x = (E.df i).cells E (E.unf i x)
  fold : ∀ i y, E.unf i (E.fold i y) = y
  size : ∀ i, E.size i = (E.df i).size E
  len : ∀ i x, (E.enc i x).length = E.size i

theorem Ty.cells_length (hE : E.Ok) : ∀ (t : Ty) (x : t.den E.D), (t.cells E x).length = t.size E := by
  intro t
  induction t with
  | int k => intro x; rfl
  | bool => intro x; rfl
  | str => intro x; rfl
  | lst t _ => intro x; rfl
  | unit => intro x; rfl
  | pair a b iha ihb => intro x; simp [Ty.cells, Ty.size, iha, ihb]
  | ext i => intro x; exact hE.len i x

def mkStr (l : List UInt8) : Value := .string ⟨⟨l⟩⟩

/-- The concrete value v (one cell) reads as d in the world w; what is read through a slice lies in protected cells. -/
inductive VD (w : World) (pr : Nat → Nat → Prop) : Value → DV → Prop
  | int (k : IntKind) (n : Int) : VD w pr (.int k n) (.int k n)
  | bool (b : Bool) : VD w pr (.bool b) (.bool b)
  | str (l : List UInt8) : VD w pr (mkStr l) (.str l)
  | nils (a : Option Addr) (k : Nat) : VD w pr (.slice a 0 0) (.slice k [])
  | slice (b off cap k : Nat) (es : List (List DV)) (c : Nat → Nat → Value) (hc : es.length ≤ cap)
      (hk : ∀ j, j < es.length → (es.getD j []).length = k)
      (h0 : ∀ j l, j < es.length → l < k → pr b (off + j * k + l) ∧ w.cell? ⟨b, off + j * k + l, none⟩ = some (c j l))
      (h : ∀ j l, j < es.length → l < k → VD w pr (c j l) ((es.getD j []).getD l default)) :
      VD w pr (.slice (some ⟨b, off, none⟩) es.length cap) (.slice k es)

theorem VD.mono {w w' : World} {pr pr' : Nat → Nat → Prop} (hp : ∀ b o, pr b o → pr' b o)
    (hc : ∀ b o v, pr b o → w.cell? ⟨b, o, none⟩ = some v → w'.cell? ⟨b, o, none⟩ = some v)
    {v : Value} {d : DV} (h : VD w pr v d) : VD w' pr' v d := by
  induction h with
  | int k n => exact .int k n
  | bool b => exact .bool b
  | str l => exact .str l
  | nils a k => exact .nils a k
  | slice b off cap k es c hcap hk h0 h ih =>
    exact .slice b off cap k es c hcap hk (fun j l hj hl => ⟨hp _ _ (h0 j l hj hl).1, hc _ _ _ (h0 j l hj hl).1 (h0 j l hj hl).2⟩) ih

theorem VD.one {w : World} {pr : Nat → Nat → Prop} {v : Value} {d : DV} (h : VD w pr v d) : v.oneCell' = true := by
  cases h <;> rfl

/-- A row of cells. -/
def LD (w : World) (pr : Nat → Nat → Prop) : List Value → List DV → Prop
  | [], [] => True
  | v :: vs, d :: ds => VD w pr v d ∧ LD w pr vs ds
  | _, _ => False

/-- Abstract values. -/
inductive TV where
  | any
  | dat (t : Ty) (x : t.den E.D)
  | cel (t : Ty) (x : t.den E.D) (off : Nat)
  | ptr (r off : Nat)
  | optr (b : Bool) (r off : Nat)
  | mref (r : Nat)
  | gsl (j ver : Nat) (t : Ty) (xs : List (t.den E.D))
  | sdp (j ver : Nat) (l : List Int)
  | func (fn : Fn) (caps : List TV)
  | iface (ty : TypeId) (v : TV)
  | agg (cs : List TV)
  | tuple (vs : List TV)
  | val (v : Value)

instance : Inhabited (TV E) := ⟨.any⟩

/-- Boxes: what lies in the heap and may change. -/
inductive TBox where
  | cells (ty : TypeId) (cs : List (TV E))
  | iter (s : List UInt8) (pos : Nat)
  | map (kt vt : Ty) (m : List (kt.den E.D × vt.den E.D))

instance : Inhabited (TBox E) := ⟨.iter [] 0⟩

/-- A growable row: its present version, its element's type, an element's cells. -/
structure TGrow where
  ver : Nat
  e : TypeId
  k : Nat
  deriving DecidableEq, Inhabited

/-- States: slots, boxes, growable rows, boxes that were written, deferred calls. -/
structure TS where
  t : List (TV E)
  H : List (TBox E)
  g : List TGrow
  d : List Nat
  df : List (FuncId × List (TV E))

/-- Where things lie: boxes' addresses; growable rows: the present header; protected cells. -/
structure Ghost where
  i : List Nat
  g : List (TGrow × Value)
  pr : Nat → Nat → Prop

mutual
def VT (w : World) (G : Ghost) : TV E → Value → Prop
  | .any, _ => True
  | .dat t x, v => match t.isAgg with
    | true => ∃ vs : Array Value, v = .agg vs ∧ LD w G.pr vs.toList (t.cells E x)
    | false => LD w G.pr [v] (t.cells E x)
  | .cel t x off, v => ∃ (b o : Nat) (c : List Value), v = .pointer (some ⟨b, o + off, none⟩) ∧ LD w G.pr c (t.cells E x) ∧
      ∀ l u, c[l]? = some u → G.pr b (o + l) ∧ w.cell? ⟨b, o + l, none⟩ = some u
  | .ptr r off, v => ∃ b, v = .pointer (some ⟨b, off, none⟩) ∧ G.i[r]? = some b
  | .optr c r off, v => match c with
    | true => ∃ b, v = .pointer (some ⟨b, off, none⟩) ∧ G.i[r]? = some b
    | false => v = .pointer none
  | .mref r, v => ∃ b, v = .map (some b) ∧ G.i[r]? = some b
  | .gsl j ver t xs, v => VD w G.pr v (.slice (t.size E) (xs.map (t.cells E))) ∧ ∃ x h, G.g[j]? = some (x, h) ∧ ver ≤ x.ver ∧ (ver = x.ver → v = h)
  | .sdp j ver l, v => ∃ x h u, G.g[j]? = some (x, h) ∧ ver ≤ x.ver ∧ VD w G.pr u (.slice 1 (l.map fun n => [.int .u8 n])) ∧ (ver = x.ver → u = h ∧ ((h = .slice none 0 0 ∧ l = [] ∧ v = .pointer none) ∨ ∃ b cap, h = .slice (some ⟨b, 0, none⟩) l.length cap ∧ v = .pointer (some ⟨b, 0, none⟩)))
  | .func fn caps, v => ∃ vs : Array Value, v = .func fn #[] vs ∧ VTs w G caps vs.toList
  | .iface ty d, v => ∃ u, v = .iface ty u ∧ VT w G d u
  | .agg cs, v => ∃ vs : Array Value, v = .agg vs ∧ (∀ u, u ∈ vs → u.oneCell' = true) ∧ VTs w G cs vs.toList
  | .tuple ds, v => ∃ vs : Array Value, v = .tuple vs ∧ VTs w G ds vs.toList
  | .val u, v => v = u
def VTs (w : World) (G : Ghost) : List (TV E) → List Value → Prop
  | [], vs => vs = []
  | d :: ds, vs => ∃ u us, vs = u :: us ∧ VT w G d u ∧ VTs w G ds us
end

section
variable {E : TEnv} {w w' : World} {G G' : Ghost}

theorem LD.mono {pr pr' : Nat → Nat → Prop} (hp : ∀ b o, pr b o → pr' b o)
    (hc : ∀ b o v, pr b o → w.cell? ⟨b, o, none⟩ = some v → w'.cell? ⟨b, o, none⟩ = some v) :
    ∀ {vs : List Value} {ds : List DV}, LD w pr vs ds → LD w' pr' vs ds
  | [], [], _ => trivial
  | _ :: _, _ :: _, h => ⟨h.1.mono hp hc, LD.mono hp hc h.2⟩
  | [], _ :: _, h => h.elim
  | _ :: _, [], h => h.elim

/-- How a world and its places may go on. -/
structure Goes (w : World) (G : Ghost) (w' : World) (G' : Ghost) : Prop where
  pr : ∀ b o, G.pr b o → G'.pr b o
  cells : ∀ b o v, G.pr b o → w.cell? ⟨b, o, none⟩ = some v → w'.cell? ⟨b, o, none⟩ = some v
  i : ∀ (r b : Nat), G.i[r]? = some b → G'.i[r]? = some b
  g : ∀ (j : Nat) x h, G.g[j]? = some (x, h) → ∃ x' h', G'.g[j]? = some (x', h') ∧ x.ver ≤ x'.ver ∧ (x.ver = x'.ver → h' = h)

mutual
theorem VT.mono (hg : Goes w G w' G') : ∀ {d : TV E} {v : Value}, VT E w G d v → VT E w' G' d v
  | .any, _, _ => by simp only [VT]
  | .dat t x, v, h => by
    simp only [VT] at h ⊢
    cases ha : t.isAgg <;> rw [ha] at h <;> dsimp only at h ⊢
    rotate_left
    · obtain ⟨vs, rfl, h⟩ := h
      exact ⟨vs, rfl, h.mono hg.pr hg.cells⟩
    · exact h.mono hg.pr hg.cells
  | .cel t x off, v, h => by
    simp only [VT] at h ⊢
    obtain ⟨b, o, c, rfl, h1, h2⟩ := h
    exact ⟨b, o, c, rfl, h1.mono hg.pr hg.cells, fun l u hl => ⟨hg.pr _ _ (h2 l u hl).1, hg.cells _ _ _ (h2 l u hl).1 (h2 l u hl).2⟩⟩
  | .ptr r off, v, h => by
    simp only [VT] at h ⊢
    obtain ⟨b, rfl, h⟩ := h
    exact ⟨b, rfl, hg.i r b h⟩
  | .mref r, v, h => by
    simp only [VT] at h ⊢
    obtain ⟨b, rfl, h⟩ := h
    exact ⟨b, rfl, hg.i r b h⟩
  | .optr c r off, v, h => by
    cases c <;> simp only [VT] at h ⊢
    · exact h
    · obtain ⟨b, rfl, h⟩ := h
      exact ⟨b, rfl, hg.i r b h⟩
  | .gsl j ver t xs, v, h => by
    simp only [VT] at h ⊢
    obtain ⟨h1, x, g, hgj, hle, heq⟩ := h
    obtain ⟨x', g', hg', hle', heq'⟩ := hg.g j x g hgj
    exact ⟨h1.mono hg.pr hg.cells, x', g', hg', Nat.le_trans hle hle', fun e => by
      have e1 : ver = x.ver := Nat.le_antisymm hle (e ▸ hle')
      rw [heq e1, heq' (e1.symm.trans e)]⟩
  | .sdp j ver l, v, h => by
    simp only [VT] at h ⊢
    obtain ⟨x, g, u, hgj, hle, hvd, heq⟩ := h
    obtain ⟨x', g', hg', hle', heq'⟩ := hg.g j x g hgj
    refine ⟨x', g', u, hg', Nat.le_trans hle hle', hvd.mono hg.pr hg.cells, fun e => ?_⟩
    have e1 : ver = x.ver := Nat.le_antisymm hle (e ▸ hle')
    rw [heq' (e1.symm.trans e)]
    exact heq e1
  | .func fn caps, v, h => by
    simp only [VT] at h ⊢
    obtain ⟨vs, rfl, h⟩ := h
    exact ⟨vs, rfl, VTs.mono hg h⟩
  | .iface ty d, v, h => by
    simp only [VT] at h ⊢
    obtain ⟨u, rfl, h⟩ := h
    exact ⟨u, rfl, VT.mono hg h⟩
  | .agg cs, v, h => by
    simp only [VT] at h ⊢
    obtain ⟨vs, rfl, h1, h⟩ := h
    exact ⟨vs, rfl, h1, VTs.mono hg h⟩
  | .tuple ds, v, h => by
    simp only [VT] at h ⊢
    obtain ⟨vs, rfl, h⟩ := h
    exact ⟨vs, rfl, VTs.mono hg h⟩
  | .val u, v, h => by simpa only [VT] using h
theorem VTs.mono (hg : Goes w G w' G') : ∀ {ds : List (TV E)} {vs : List Value}, VTs E w G ds vs → VTs E w' G' ds vs
  | [], _, h => by simpa only [VTs] using h
  | d :: ds, vs, h => by
    simp only [VTs] at h ⊢
    obtain ⟨u, us, rfl, h1, h2⟩ := h
    exact ⟨u, us, rfl, VT.mono hg h1, VTs.mono hg h2⟩
end
end

/-- The entries of a map. -/
def MapRel (w : World) (G : Ghost) (kt vt : Ty) : List MapEntry → List (kt.den E.D × vt.den E.D) → Prop
  | [], [] => True
  | e :: es, p :: ps => VT E w G (.dat kt p.1) e.key ∧ VT E w G (.dat vt p.2) e.val ∧ MapRel w G kt vt es ps
  | _, _ => False

/-- What a box holds. -/
def BoxOk (w : World) (G : Ghost) (b : Nat) : TBox E → Prop
  | .cells ty cs => ∃ vs : Array Value, w.heap[b]? = some (.cells vs ty (0, 0)) ∧ (∀ u, u ∈ vs → u.oneCell' = true) ∧ VTs E w G cs vs.toList
  | .iter s pos => w.heap[b]? = some (.stringIter ⟨⟨s⟩⟩ pos)
  | .map kt vt m => ∃ (es : Array MapEntry) (clock : Nat), w.heap[b]? = some (.map es clock) ∧ MapKept.Stamped es clock ∧ MapRel E w G kt vt es.toList m

/-- A growable row: it alone may be appended to in place. -/
def GrowOk (w : World) (G : Ghost) (x : TGrow) (h : Value) : Prop :=
  ∃ n xs, w.ownsRow 0 x.e x.k h n xs ∧ (∀ a m, h ≠ .slice (some a) m 0) ∧ ∀ b, h.ownBlock = some b → b < w.heap.size ∧ b ∉ G.i ∧ ∀ o, n * x.k ≤ o → ¬ G.pr b o

def Ghost.rows (G : Ghost) (b : Nat) : Prop := ∃ x h, (x, h) ∈ G.g ∧ h.ownBlock = some b
def Ghost.foot (G : Ghost) (b : Nat) : Prop := b ∈ G.i ∨ G.rows b

/-- From the world w0 (when the call began) to the world w. -/
structure Evol (w0 : World) (G0 : Ghost) (w : World) (G : Ghost) : Prop where
  os : w.os = w0.os
  tape : w.tape = w0.tape
  output : w.output = w0.output
  size : w0.heap.size ≤ w.heap.size
  old : ∀ b, b < w0.heap.size → ¬ G0.foot b → w.heap[b]? = w0.heap[b]?
  goes : Goes w0 G0 w G
  prold : ∀ b o, b < w0.heap.size → G.pr b o → G0.pr b o ∨ G0.rows b
  newB : ∀ (r b : Nat), G0.i.length ≤ r → G.i[r]? = some b → w0.heap.size ≤ b
  newG : ∀ (j : Nat) x h b, G.g[j]? = some (x, h) → h.ownBlock = some b → w0.heap.size ≤ b ∨ ∃ x0 h0, G0.g[j]? = some (x0, h0) ∧ h0.ownBlock = some b

structure Boxes (w : World) (G : Ghost) (H : List (TBox E)) (gs : List TGrow) : Prop where
  len : G.i.length = H.length
  gs : G.g.map (·.1) = gs
  box : ∀ (r b : Nat) (x : TBox E), G.i[r]? = some b → H[r]? = some x → BoxOk E w G b x
  lt : ∀ b, b ∈ G.i → b < w.heap.size
  nodup : G.i.Nodup
  prok : ∀ b o, G.pr b o → b < w.heap.size ∧ b ∉ G.i
  grow : ∀ (j : Nat) x h, G.g[j]? = some (x, h) → GrowOk w G x h
  apart : ∀ (j j' : Nat) x h x' h' b, G.g[j]? = some (x, h) → G.g[j']? = some (x', h') → h.ownBlock = some b → h'.ownBlock = some b → j = j'
  glob : ∀ b o v, E.gl b o = some v → G.pr b o ∧ w.cell? ⟨b, o, none⟩ = some v

/-- Blocks that stay as they are. -/
def Pins (w : World) (G : Ghost) : Prop := ∀ b cs, E.gb b = some cs → (∃ t m, w.heap[b]? = some (.cells cs t m)) ∧ ¬ G.foot b

/-- Deferred calls. -/
def DRel (w : World) (G : Ghost) : List Deferred → List (FuncId × List (TV E)) → Prop
  | [], [] => True
  | d :: ds, x :: xs => (∃ cap, d.target = .fn (.func x.1) cap ∧ VTs E w G x.2 (d.args ++ cap).toList) ∧ DRel w G ds xs
  | _, _ => False

structure Rel (w0 : World) (G0 : Ghost) (st : TS E) (a : Act) (w : World) (G : Ghost) : Prop where
  evol : Evol w0 G0 w G
  size : a.tmps.size = st.t.length
  tmps : ∀ (j : Nat) d, st.t[j]? = some d → VT E w G d (a.tmps.getD j undef)
  defers : DRel E w G a.defers st.df
  boxes : Boxes E w G st.H st.g
  fix : ∀ (r b : Nat), G0.i[r]? = some b → r ∉ st.d → w.heap[b]? = w0.heap[b]?
  pins : Pins E w0 G0

/-- Endings. -/
inductive Ex where
  | normal | exit (id : Nat) | goto (l : Nat) | ret | panic (d : TV E)

def ERel (w : World) (G : Ghost) : Exit → Ex E → Prop
  | .normal, .normal => True
  | .exit i, .exit j => i = j
  | .goto i, .goto j => i = j
  | .ret, .ret => True
  | .panic ch, .panic d => ∃ v, ch = [{ v := v, recovered := false }] ∧ VT E w G d v
  | _, _ => False

def CPost (w0 : World) (G0 : Ghost) (Q : Ex E → TS E → Prop) : Exit → Act → World → Prop :=
  fun e a w => ∃ x st G, ERel E w G e x ∧ Rel E w0 G0 st a w G ∧ Q x st

def AWp (P : Program) (c : Code) (st : TS E) (Q : Ex E → TS E → Prop) : Prop :=
  ∀ w0 G0 a w G, Rel E w0 G0 st a w G → c.wp P (CPost E w0 G0 Q) a w

def AOps (P : Program) (ops : Array Oper) (l : List Oper) (st : TS E) (Q : Ex E → TS E → Prop) : Prop :=
  ∀ w0 G0 a w G, Rel E w0 G0 st a w G → wpList P ops (CPost E w0 G0 Q) l a w

end Go.RT
