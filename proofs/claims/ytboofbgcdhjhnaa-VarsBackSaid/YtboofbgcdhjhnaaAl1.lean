/-
  AL, part 1: data values, how a concrete value reads as one, abstract states. Generic: no program is named here.
-/
import Derived.Laws.AppendOwn
import Derived.Laws.RangeString
import Derived.Deep.Quiet
import Derived.Below
import Derived.Tactics2
import Derived.Laws.Strings
import Derived.Laws.Slices
import Derived.Laws.Cells
import Derived.Laws.StructEq
import Derived.Laws.MakeOwn
namespace Go.AL
set_option linter.unusedVariables false

/-- Data values. -/
inductive DV where
  | any
  | int (k : IntKind) (n : Int)
  | bool (b : Bool)
  | str (l : List UInt8)
  | val (v : Value)
  | agg (cs : List DV)
  | slice (k : Nat) (es : List (List DV))
  | iface (t : TypeId) (d : DV)
  | cptr (cs : List DV) (off : Nat)
  | ptr (loc : Bool) (r off : Nat)
  | func (fn : Fn) (cap : List DV)
  | tuple (ds : List DV)
  | whn (b : Bool) (d : DV)
  | mref (l : Bool) (r : Nat)
  deriving Inhabited

def mkStr (l : List UInt8) : Value := .string ⟨⟨l⟩⟩

/-- Where boxes lie: local (true) or outer (false), by number. -/
abbrev Places := Bool → Nat → Option Nat
def noPlaces : Places := fun _ _ => none

/-- The concrete value v reads as d in the world w; what is read through a slice lies in protected cells. -/
inductive V (w : World) (pr : Nat → Nat → Prop) : Places → Value → DV → Prop
  | any (i : Places) (v : Value) : V w pr i v .any
  | int (i : Places) (k : IntKind) (n : Int) : V w pr i (.int k n) (.int k n)
  | bool (i : Places) (b : Bool) : V w pr i (.bool b) (.bool b)
  | str (i : Places) (l : List UInt8) : V w pr i (mkStr l) (.str l)
  | val (i : Places) (v : Value) : V w pr i v (.val v)
  | agg (i : Places) (vs : Array Value) (ds : List DV) (hs : vs.size = ds.length)
      (h1 : ∀ j, j < ds.length → (vs.getD j undef).oneCell' = true)
      (h : ∀ j, j < ds.length → V w pr i (vs.getD j undef) (ds.getD j .any)) : V w pr i (.agg vs) (.agg ds)
  | nils (i : Places) (a : Option Addr) (k : Nat) : V w pr i (.slice a 0 0) (.slice k [])
  | slice (i : Places) (b off cap k : Nat) (es : List (List DV)) (c : Nat → Nat → Value) (hc : es.length ≤ cap)
      (hk : ∀ j, j < es.length → (es.getD j []).length = k)
      (h0 : ∀ j l, j < es.length → l < k → pr b (off + j * k + l) ∧ w.cell? ⟨b, off + j * k + l, none⟩ = some (c j l))
      (h1 : ∀ j l, j < es.length → l < k → (c j l).oneCell' = true)
      (h : ∀ j l, j < es.length → l < k → V w pr noPlaces (c j l) ((es.getD j []).getD l .any)) :
      V w pr i (.slice (some ⟨b, off, none⟩) es.length cap) (.slice k es)
  | iface (i : Places) (t : TypeId) (v : Value) (d : DV) (h : V w pr i v d) : V w pr i (.iface t v) (.iface t d)
  | cptr (i : Places) (b o off : Nat) (cs : List DV) (c : Nat → Value)
      (h0 : ∀ l, l < cs.length → pr b (o + l) ∧ w.cell? ⟨b, o + l, none⟩ = some (c l))
      (h1 : ∀ l, l < cs.length → (c l).oneCell' = true)
      (h : ∀ l, l < cs.length → V w pr noPlaces (c l) (cs.getD l .any)) :
      V w pr i (.pointer (some ⟨b, o + off, none⟩)) (.cptr cs off)
  | ptr (i : Places) (l : Bool) (r off b : Nat) (h : i l r = some b) : V w pr i (.pointer (some ⟨b, off, none⟩)) (.ptr l r off)
  | func (i : Places) (fn : Fn) (vs : Array Value) (ds : List DV) (hs : vs.size = ds.length)
      (h : ∀ j, j < ds.length → V w pr i (vs.getD j undef) (ds.getD j .any)) : V w pr i (.func fn #[] vs) (.func fn ds)
  | tuple (i : Places) (vs : Array Value) (ds : List DV) (hs : vs.size = ds.length)
      (h : ∀ j, j < ds.length → V w pr i (vs.getD j undef) (ds.getD j .any)) : V w pr i (.tuple vs) (.tuple ds)
  | whn (i : Places) (v : Value) (b : Bool) (d : DV) (h : b = true → V w pr i v d) (h0 : b = false → v = undef) : V w pr i v (.whn b d)
  | mref (i : Places) (l : Bool) (r b : Nat) (h : i l r = some b) : V w pr i (.map (some b)) (.mref l r)

theorem V.mono {w w' : World} {pr pr' : Nat → Nat → Prop} (hp : ∀ b o, pr b o → pr' b o)
    (hc : ∀ b o v, pr b o → w.cell? ⟨b, o, none⟩ = some v → w'.cell? ⟨b, o, none⟩ = some v)
    {i : Places} {v : Value} {d : DV} (h : V w pr i v d) : ∀ (i' : Places), (∀ l r b, i l r = some b → i' l r = some b) → V w' pr' i' v d := by
  induction h with
  | any i v => exact fun i' _ => .any i' v
  | int i k n => exact fun i' _ => .int i' k n
  | bool i b => exact fun i' _ => .bool i' b
  | str i l => exact fun i' _ => .str i' l
  | val i v => exact fun i' _ => .val i' v
  | agg i vs ds hs h1 h ih => exact fun i' hi => .agg i' vs ds hs h1 fun j hj => ih j hj i' hi
  | nils i a k => exact fun i' _ => .nils i' a k
  | slice i b off cap k es c hcap hk h0 h1 h ih =>
    exact fun i' hi => .slice i' b off cap k es c hcap hk (fun j l hj hl => ⟨hp _ _ (h0 j l hj hl).1, hc _ _ _ (h0 j l hj hl).1 (h0 j l hj hl).2⟩) h1
      fun j l hj hl => ih j l hj hl noPlaces (fun _ _ _ h => h)
  | iface i t v d h ih => exact fun i' hi => .iface i' t v d (ih i' hi)
  | cptr i b o off cs c h0 h1 h ih =>
    exact fun i' hi => .cptr i' b o off cs c (fun l hl => ⟨hp _ _ (h0 l hl).1, hc _ _ _ (h0 l hl).1 (h0 l hl).2⟩) h1 fun l hl => ih l hl noPlaces (fun _ _ _ h => h)
  | ptr i l r off b h => exact fun i' hi => .ptr i' l r off b (hi l r b h)
  | func i fn vs ds hs h ih => exact fun i' hi => .func i' fn vs ds hs fun j hj => ih j hj i' hi
  | tuple i vs ds hs h ih => exact fun i' hi => .tuple i' vs ds hs fun j hj => ih j hj i' hi
  | whn i v b d h h0 ih => exact fun i' hi => .whn i' v b d (fun hb => ih hb i' hi) h0
  | mref i l r b h => exact fun i' hi => .mref i' l r b (hi l r b h)

/-- Boxes: a variable's cells, or an iterator over a string. -/
inductive Box where
  | cells (t : TypeId) (cs : List DV)
  | iter (s : List UInt8) (pos : Nat)
  | obj (p : Obj → Prop)
  deriving Inhabited

def BoxOk (w : World) (pr : Nat → Nat → Prop) (i : Places) (b : Nat) : Box → Prop
  | .cells t cs => ∃ vs : Array Value, w.heap[b]? = some (.cells vs t (0, 0)) ∧ vs.size = cs.length ∧
      (∀ j, j < cs.length → (vs.getD j undef).oneCell' = true) ∧ ∀ j, j < cs.length → V w pr i (vs.getD j undef) (cs.getD j .any)
  | .iter s pos => w.heap[b]? = some (.stringIter ⟨⟨s⟩⟩ pos)
  | .obj p => ∃ o, w.heap[b]? = some o ∧ p o

inductive OLoc where
  | slot (i : Nat)
  | tup (i j : Nat)
  | cell (r off : Nat)
  deriving DecidableEq, Inhabited

/-- An owned slice: where it stands, its element type, an element's cells. -/
structure Own where
  loc : OLoc
  e : TypeId
  k : Nat
  deriving DecidableEq

structure St where
  t : List DV
  L : List Box
  S : List Box
  own : List Own

structure Ghost where
  iL : List Nat
  iS : List Nat
  pr : Nat → Nat → Prop

def Ghost.at (G : Ghost) : Places
  | true, r => G.iL[r]?
  | false, r => G.iS[r]?

def Ghost.outer (G : Ghost) : Places
  | true, _ => none
  | false, r => G.iS[r]?
def Ghost.places (G : Ghost) (l : Bool) : Places := cond l G.at G.outer

/-- The value that stands at a place that owns. -/
def valAt (a : Act) (w : World) (G : Ghost) : OLoc → Option Value
  | .slot i => some (a.tmps.getD i undef)
  | .tup i j => match a.tmps.getD i undef with | .tuple vs => vs[j]? | _ => none
  | .cell r off => (G.iL[r]?).bind fun b => w.cell? ⟨b, off, none⟩

def OwnVal (B : Nat) (w : World) (G : Ghost) (e : TypeId) (k : Nat) (v : Value) : Prop :=
  ∃ n xs, w.ownsRow B e k v n xs ∧ ∀ g, v.ownBlock = some g → g ∉ G.iS ∧ g ∉ G.iL ∧ ∀ o, n * k ≤ o → ¬ G.pr g o

def apart (v u : Value) : Prop := ∀ g, v.ownBlock = some g → u.ownBlock ≠ some g

/-- From the world w0 (when the call began) to the world w. -/
structure Evol (w0 : World) (G0 : Ghost) (w : World) (G : Ghost) : Prop where
  os : w.os = w0.os
  tape : w.tape = w0.tape
  output : w.output = w0.output
  size : w0.heap.size ≤ w.heap.size
  old : ∀ b, b < w0.heap.size → b ∉ G0.iS → w.heap[b]? = w0.heap[b]?
  iS : G.iS = G0.iS
  pr : ∀ b o, G0.pr b o → G.pr b o
  prold : ∀ b o, b < w0.heap.size → G.pr b o → G0.pr b o

structure Boxes (w : World) (G : Ghost) (S L : List Box) : Prop where
  lenS : G.iS.length = S.length
  lenL : G.iL.length = L.length
  boxS : ∀ (r b : Nat) (x : Box), G.iS[r]? = some b → S[r]? = some x → BoxOk w G.pr G.outer b x
  boxL : ∀ (r b : Nat) (x : Box), G.iL[r]? = some b → L[r]? = some x → BoxOk w G.pr G.at b x
  nodup : (G.iS ++ G.iL).Nodup
  prok : ∀ b o, G.pr b o → b < w.heap.size ∧ b ∉ G.iS ∧ b ∉ G.iL

structure Rel (B : Nat) (st : St) (a : Act) (w : World) (G : Ghost) : Prop where
  size : a.tmps.size = st.t.length
  tmps : ∀ j, j < st.t.length → V w G.pr G.at (a.tmps.getD j undef) (st.t.getD j .any)
  defers : a.defers = []
  boxes : Boxes w G st.S st.L
  newL : ∀ b, b ∈ G.iL → B ≤ b
  own : ∀ x, x ∈ st.own → ∃ v, valAt a w G x.loc = some v ∧ OwnVal B w G x.e x.k v
  dist : st.own.Pairwise fun x y => ∀ v u, valAt a w G x.loc = some v → valAt a w G y.loc = some u → apart v u

inductive AExit where
  | normal | exit (id : Nat) | goto (l : Nat) | ret | panic (d : DV)

def ERel (w : World) (G : Ghost) : Exit → AExit → Prop
  | .normal, .normal => True
  | .exit i, .exit j => i = j
  | .goto i, .goto j => i = j
  | .ret, .ret => True
  | .panic ch, .panic d => ∃ v, ch = [{ v := v, recovered := false }] ∧ V w G.pr G.at v d
  | _, _ => False

/-- The concrete post of an abstract one. -/
def CPost (w0 : World) (G0 : Ghost) (Q : AExit → St → Prop) : Exit → Act → World → Prop :=
  fun e a w => ∃ x st G, ERel w G e x ∧ Evol w0 G0 w G ∧ Rel w0.heap.size st a w G ∧ Q x st

def AWp (P : Program) (c : Code) (st : St) (Q : AExit → St → Prop) : Prop :=
  ∀ w0 G0 a w G, Evol w0 G0 w G → Rel w0.heap.size st a w G → c.wp P (CPost w0 G0 Q) a w

def AOps (P : Program) (ops : Array Oper) (l : List Oper) (st : St) (Q : AExit → St → Prop) : Prop :=
  ∀ w0 G0 a w G, Evol w0 G0 w G → Rel w0.heap.size st a w G → wpList P ops (CPost w0 G0 Q) l a w

structure ARes where
  d : DV
  S : List Box
  N : List Box
  own : List Own

/-- The owned parts of a result. -/
def resAt (v : Value) : OLoc → Option Value
  | .slot _ => some v
  | .tup _ j => match v with | .tuple vs => vs[j]? | _ => none
  | .cell _ _ => none

structure ResOk (B : Nat) (w : World) (G : Ghost) (v : Value) (r : ARes) : Prop where
  boxes : Boxes w G r.S r.N
  val : V w G.pr G.at v r.d
  own : ∀ x, x ∈ r.own → ∃ u, resAt v x.loc = some u ∧ OwnVal B w G x.e x.k u
  dist : r.own.Pairwise fun x y => ∀ u t, resAt v x.loc = some u → resAt v y.loc = some t → apart u t

def ACalls (P : Program) (f : FuncId) (ds : List DV) (S : List Box) (R : ARes → Prop) : Prop :=
  ∀ (w : World) (G : Ghost) (args : Array Value), G.iL = [] → Boxes w G S [] → args.size = ds.length →
    (∀ j, j < ds.length → V w G.pr G.at (args.getD j undef) (ds.getD j .any)) →
    Calls P f args w fun e w' => ∃ v r G', e = .returned v ∧ Evol w G w' G' ∧ ResOk w.heap.size w' G' v r ∧ R r

end Go.AL
