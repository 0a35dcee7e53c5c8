import Derived.Laws.AppendOwn
import Derived.Laws.RangeString
import Derived.Deep.Quiet
import Derived.Below
import Derived.Tactics2
import Derived.Laws.Strings
import Derived.Laws.Slices
import Derived.Laws.Cells
import Derived.Laws.StructEq
import Derived.Laws.MakeOwn
import Derived.MapKept
import Derived.RangeFuncIn
import Derived.RangeFuncRecord
import Derived.RangeFuncLeaves
import Derived.OrdersIn
import Derived.TacticsIn
set_option linter.all false
namespace Go.RT
set_option linter.unusedVariables false
inductive Ty where
 | int (k:IntKind) | bool | str | lst (t:Ty) | unit | pair (a b:Ty) | ext (i:Nat)
 deriving DecidableEq,Inhabited
@[reducible] def Ty.den (D : Nat → Type) : Ty → Type
 | .int _=>Int
 | .bool=>Bool
 | .str=>List UInt8
 | .lst t=>List (t.den D)
 | .unit=>Unit
 | .pair a b=>a.den D × b.den D
 | .ext i=>D i
inductive DV where
 | int (k:IntKind) (n:Int)
 | bool (b:Bool)
 | str (l:List UInt8)
 | slice (k:Nat) (es:List (List DV))
 deriving Inhabited
structure YD where
 params:Array Tmp
 assign:Code
 body:Code
structure TEnv where
 D:Nat→Type
 df:Nat→Ty
 size:Nat→Nat
 enc:(i:Nat)→D i→List DV
 unf:(i:Nat)→D i→(df i).den D
 fold:(i:Nat)→(df i).den D→D i
 inh:(i:Nat)→D i
 gt:Nat→Option ((t:Ty) × List (t.den D))
 gb:Nat→Option (Array Value→Prop)
 yd:Nat→YD→Prop
 ydn:Nat→Option Nat
 zc:TypeId→Bool
variable (E : TEnv)
def Ty.size:Ty→Nat
 | .int _=>1
 | .bool=>1
 | .str=>1
 | .lst _=>1
 | .unit=>0
 | .pair a b=>a.size+b.size
 | .ext i=>E.size i
def Ty.dflt:(t:Ty)→t.den E.D
 | .int _=>(0:Int)
 | .bool=>false
 | .str=>[]
 | .lst _=>[]
 | .unit=>()
 | .pair a b=>(a.dflt,b.dflt)
 | .ext i=>E.inh i
def Ty.isAgg:Ty→Bool
 | .unit=>true
 | .pair _ _=>true
 | .ext _=>true
 | _=>false
def Ty.cells:(t:Ty)→t.den E.D→List DV
 | .int k,n=>[.int k n]
 | .bool,b=>[.bool b]
 | .str,l=>[.str l]
 | .lst t,xs=>[.slice (t.size E) (xs.map (t.cells))]
 | .unit,_=>[]
 | .pair a b,x=>a.cells x.1++b.cells x.2
 | .ext i,x=>E.enc i x
structure TEnv.Ok:Prop where
 enc:∀i x,E.enc i x=(E.df i).cells E (E.unf i x)
 fold:∀i y,E.unf i (E.fold i y)=y
 size:∀i,E.size i=(E.df i).size E
 len:∀i x,(E.enc i x).length=E.size i
 ydn:∀y Y n,E.yd y Y→E.ydn y=some n→Y.params.size=n
theorem Ty.cells_length (hE:E.Ok):∀(t:Ty) (x:t.den E.D),(t.cells E x).length=t.size E:=by
 intro t
 induction t with
 | int k=>intro x;rfl
 | bool=>intro x;rfl
 | str=>intro x;rfl
 | lst t _=>intro x;rfl
 | unit=>intro x;rfl
 | pair a b iha ihb=>intro x;simp [Ty.cells,Ty.size,iha,ihb]
 | ext i=>intro x;exact hE.len i x
def mkStr (l:List UInt8):Value:=.string ⟨⟨l⟩⟩
inductive VD (w:World) (pr:Nat→Nat→Prop):Value→DV→Prop
 | int (k:IntKind) (n:Int):VD w pr (.int k n) (.int k n)
 | bool (b:Bool):VD w pr (.bool b) (.bool b)
 | str (l:List UInt8):VD w pr (mkStr l) (.str l)
 | nils (a:Option Addr) (k:Nat):VD w pr (.slice a 0 0) (.slice k [])
 | slice (b off cap k:Nat) (es:List (List DV)) (c:Nat→Nat→Value) (hc:es.length≤cap)
   (hk:∀j,j<es.length→(es.getD j []).length=k)
   (h0:∀j l,j<es.length→l<k→pr b (off+j * k+l)∧w.cell? ⟨b,off+j * k+l,none⟩=some (c j l))
   (h:∀j l,j<es.length→l<k→VD w pr (c j l) ((es.getD j []).getD l default)) :
   VD w pr (.slice (some ⟨b,off,none⟩) es.length cap) (.slice k es)
theorem VD.mono {w w':World} {pr pr':Nat→Nat→Prop} (hp:∀b o,pr b o→pr' b o)
  (hc:∀b o v,pr b o→w.cell? ⟨b,o,none⟩=some v→w'.cell? ⟨b,o,none⟩=some v)
  {v:Value} {d:DV} (h:VD w pr v d):VD w' pr' v d:=by
 induction h with
 | int k n=>exact .int k n
 | bool b=>exact .bool b
 | str l=>exact .str l
 | nils a k=>exact .nils a k
 | slice b off cap k es c hcap hk h0 h ih =>
  exact .slice b off cap k es c hcap hk (fun j l hj hl=>⟨hp _ _ (h0 j l hj hl).1,hc _ _ _ (h0 j l hj hl).1 (h0 j l hj hl).2⟩) ih
theorem VD.one {w:World} {pr:Nat→Nat→Prop} {v:Value} {d:DV} (h:VD w pr v d):v.oneCell'=true:=by
 cases h<;>rfl
def LD (w:World) (pr:Nat→Nat→Prop):List Value→List DV→Prop
 | [],[]=>True
 | v::vs,d::ds=>VD w pr v d∧LD w pr vs ds
 | _,_=>False
def Flat (w:World) (pr:Nat→Nat→Prop) (k:Nat) (xs:List Value) (es:List (List DV)):Prop :=
 xs.length=es.length * k∧(∀j,j<es.length→(es.getD j []).length=k) ∧
 ∀j l,j<es.length→l<k→VD w pr (xs.getD (j * k+l) undef) ((es.getD j []).getD l default)
theorem Flat.mono {w w':World} {pr pr':Nat→Nat→Prop} {k:Nat} {xs:List Value} {es:List (List DV)} (h:Flat w pr k xs es) (hp:∀b o,pr b o→pr' b o)
  (hc:∀b o v,pr b o→w.cell? ⟨b,o,none⟩=some v→w'.cell? ⟨b,o,none⟩=some v):Flat w' pr' k xs es :=
 ⟨h.1,h.2.1,fun j l hj hl=>(h.2.2 j l hj hl).mono hp hc⟩
def TabOk (w:World) (pr:Nat→Nat→Prop) (b:Nat) (t:Ty) (xs:List (t.den E.D)):Prop :=
 VD w pr (.slice (some ⟨b,0,none⟩) xs.length xs.length) (.slice (t.size E) (xs.map (t.cells E)))
inductive TV where
 | any
 | dat (t:Ty) (x:t.den E.D)
 | cel (t:Ty) (x:t.den E.D) (off:Nat)
 | ptr (r off:Nat)
 | optr (b:Bool) (r off:Nat)
 | mref (r:Nat)
 | yld (r:Nat)
 | hdr (r n cap:Nat)
 | bsl (r off n:Nat)
 | gsl (j ver:Nat) (t:Ty) (xs:List (t.den E.D))
 | sdp (j ver:Nat) (l:List Int)
 | gso (j ver:Nat)
 | gsb (j ver k lo n:Nat)
 | rptr (j ver k i off:Nat)
 | aval (t:Ty) (xs:List (t.den E.D))
 | tab (t:Ty) (xs:List (t.den E.D))
 | func (fn:Fn) (caps:List TV)
 | iface (ty:TypeId) (v:TV)
 | agg (cs:List TV)
 | tuple (vs:List TV)
 | val (v:Value)
instance:Inhabited (TV E):=⟨.any⟩
inductive TBox where
 | cells (ty:TypeId) (cs:List (TV E))
 | iter (s:List UInt8) (pos:Nat)
 | map (kt vt:Ty) (m:List (kt.den E.D × vt.den E.D))
 | loop (y:Nat) (ds:List (TV E))
 | gone
 | dfr
 | nrow (e:TypeId) (cap:Nat) (t:Ty) (xs:List (t.den E.D)) (d:TV E)
instance:Inhabited (TBox E):=⟨.iter [] 0⟩
structure TGrow where
 ver:Nat
 e:TypeId
 k:Nat
 deriving DecidableEq,Inhabited
abbrev Cn (E:TEnv):=(t:Ty) × List (t.den E.D)
structure TS where
 t:List (TV E)
 H:List (TBox E)
 g:List TGrow
 d:List Nat
 df:List (FuncId × List (TV E))
 c:List (Nat × Cn E)
structure Ghost where
 i:List Nat
 g:List (TGrow × Value)
 pr:Nat→Nat→Prop
mutual
def VT (w:World) (G:Ghost):TV E→Value→Prop
 | .any,_=>True
 | .dat t x,v=>match t.isAgg with
  | true=>∃vs:Array Value,v=.agg vs∧LD w G.pr vs.toList (t.cells E x)
  | false=>LD w G.pr [v] (t.cells E x)
 | .cel t x off,v=>∃(b o:Nat) (c:List Value),v=.pointer (some ⟨b,o+off,none⟩)∧LD w G.pr c (t.cells E x) ∧
   ∀l u,c[l]? = some u→G.pr b (o+l)∧w.cell? ⟨b,o+l,none⟩=some u
 | .ptr r off,v=>∃b,v=.pointer (some ⟨b,off,none⟩)∧G.i[r]? = some b
 | .optr c r off,v=>match c with
  | true=>∃b,v=.pointer (some ⟨b,off,none⟩)∧G.i[r]? = some b
  | false=>v=.pointer none
 | .mref r,v=>∃b,v=.map (some b)∧G.i[r]? = some b
 | .yld r,v=>∃b,v=.func (.yield b) #[] #[]∧G.i[r]? = some b
 | .hdr r n cap,v=>∃b,v=.slice (some ⟨b,0,none⟩) n cap∧G.i[r]? = some b
 | .bsl r off n,v=>∃b,v=.slice (some ⟨b,off,none⟩) n n∧G.i[r]? = some b
 | .gsl j ver t xs,v=>VD w G.pr v (.slice (t.size E) (xs.map (t.cells E)))∧∃x h,G.g[j]? = some (x,h)∧ver≤x.ver∧(ver=x.ver→v=h)
 | .sdp j ver l,v=>∃x h u,G.g[j]? = some (x,h)∧ver≤x.ver∧VD w G.pr u (.slice 1 (l.map fun n=>[.int .u8 n]))∧(ver=x.ver→u=h∧((h=.slice none 0 0∧l=[]∧v=.pointer none)∨∃b cap,h=.slice (some ⟨b,0,none⟩) l.length cap∧v=.pointer (some ⟨b,0,none⟩)))
 | .gso j ver,v=>∃x h,G.g[j]? = some (x,h)∧ver≤x.ver∧v.oneCell'=true∧(ver=x.ver→v=h)
 | .gsb j ver k lo n,v=>∃x h,G.g[j]? = some (x,h)∧ver≤x.ver∧v.oneCell'=true∧(ver=x.ver→∃b m cap off cp,h=.slice (some ⟨b,0,none⟩) m cap∧lo+n≤m∧n≤cp∧v=.slice (some ⟨b,off,none⟩) n cp∧(n=0∨off=lo * k))
 | .rptr j ver k i off,v=>∃x h,G.g[j]? = some (x,h)∧ver≤x.ver∧v.oneCell'=true∧(ver=x.ver→∃b m cap,h=.slice (some ⟨b,0,none⟩) m cap∧i<m∧v=.pointer (some ⟨b,i * k+off,none⟩))
 | .aval t xs,v=>∃vs:Array Value,v=.agg vs∧(∀u,u∈vs→u.oneCell'=true)∧Flat w G.pr (t.size E) vs.toList (xs.map (t.cells E))
 | .tab t xs,v=>∃b,v=.pointer (some ⟨b,0,none⟩)∧TabOk E w G.pr b t xs
 | .func fn caps,v=>∃vs:Array Value,v=.func fn #[] vs∧VTs w G caps vs.toList
 | .iface ty d,v=>∃u,v=.iface ty u∧VT w G d u
 | .agg cs,v=>∃vs:Array Value,v=.agg vs∧(∀u,u∈vs→u.oneCell'=true)∧VTs w G cs vs.toList
 | .tuple ds,v=>∃vs:Array Value,v=.tuple vs∧VTs w G ds vs.toList
 | .val u,v=>v=u
def VTs (w:World) (G:Ghost):List (TV E)→List Value→Prop
 | [],vs=>vs=[]
 | d::ds,vs=>∃u us,vs=u::us∧VT w G d u∧VTs w G ds us
end
section
variable {E : TEnv} {w w' : World} {G G' : Ghost}
theorem LD.mono {pr pr':Nat→Nat→Prop} (hp:∀b o,pr b o→pr' b o)
  (hc:∀b o v,pr b o→w.cell? ⟨b,o,none⟩=some v→w'.cell? ⟨b,o,none⟩=some v) :
  ∀ {vs:List Value} {ds:List DV},LD w pr vs ds→LD w' pr' vs ds
 | [],[],_=>trivial
 | _::_,_::_,h=>⟨h.1.mono hp hc,LD.mono hp hc h.2⟩
 | [],_::_,h=>h.elim
 | _::_,[],h=>h.elim
structure Goes (w:World) (G:Ghost) (w':World) (G':Ghost):Prop where
 pr:∀b o,G.pr b o→G'.pr b o
 cells:∀b o v,G.pr b o→w.cell? ⟨b,o,none⟩=some v→w'.cell? ⟨b,o,none⟩=some v
 i:∀(r b:Nat),G.i[r]? = some b→G'.i[r]? = some b
 g:∀(j:Nat) x h,G.g[j]? = some (x,h)→∃x' h',G'.g[j]? = some (x',h')∧x.ver≤x'.ver∧(x.ver=x'.ver→h'=h)
mutual
theorem VT.mono (hg:Goes w G w' G'):∀ {d:TV E} {v:Value},VT E w G d v→VT E w' G' d v
 | .any,_,_=>by simp only [VT]
 | .dat t x,v,h=>by
  simp only [VT] at h ⊢
  cases ha:t.isAgg<;>rw [ha] at h<;>dsimp only at h ⊢
  rotate_left
  ·obtain⟨vs,rfl,h⟩:=h
   exact⟨vs,rfl,h.mono hg.pr hg.cells⟩
  ·exact h.mono hg.pr hg.cells
 | .cel t x off,v,h=>by
  simp only [VT] at h ⊢
  obtain⟨b,o,c,rfl,h1,h2⟩:=h
  exact⟨b,o,c,rfl,h1.mono hg.pr hg.cells,fun l u hl=>⟨hg.pr _ _ (h2 l u hl).1,hg.cells _ _ _ (h2 l u hl).1 (h2 l u hl).2⟩⟩
 | .ptr r off,v,h=>by
  simp only [VT] at h ⊢
  obtain⟨b,rfl,h⟩:=h
  exact⟨b,rfl,hg.i r b h⟩
 | .mref r,v,h=>by
  simp only [VT] at h ⊢
  obtain⟨b,rfl,h⟩:=h
  exact⟨b,rfl,hg.i r b h⟩
 | .yld r,v,h=>by
  simp only [VT] at h ⊢
  obtain⟨b,rfl,h⟩:=h
  exact⟨b,rfl,hg.i r b h⟩
 | .hdr r n cap,v,h=>by
  simp only [VT] at h ⊢
  obtain⟨b,rfl,h⟩:=h
  exact⟨b,rfl,hg.i r b h⟩
 | .bsl r off n,v,h=>by
  simp only [VT] at h ⊢
  obtain⟨b,rfl,h⟩:=h
  exact⟨b,rfl,hg.i r b h⟩
 | .optr c r off,v,h=>by
  cases c<;>simp only [VT] at h ⊢
  ·exact h
  ·obtain⟨b,rfl,h⟩:=h
   exact⟨b,rfl,hg.i r b h⟩
 | .gsl j ver t xs,v,h=>by
  simp only [VT] at h ⊢
  obtain⟨h1,x,g,hgj,hle,heq⟩:=h
  obtain⟨x',g',hg',hle',heq'⟩:=hg.g j x g hgj
  exact⟨h1.mono hg.pr hg.cells,x',g',hg',Nat.le_trans hle hle',fun e=>by
   have e1:ver=x.ver:=Nat.le_antisymm hle (e▸hle')
   rw [heq e1,heq' (e1.symm.trans e)]⟩
 | .sdp j ver l,v,h=>by
  simp only [VT] at h ⊢
  obtain⟨x,g,u,hgj,hle,hvd,heq⟩:=h
  obtain⟨x',g',hg',hle',heq'⟩:=hg.g j x g hgj
  refine⟨x',g',u,hg',Nat.le_trans hle hle',hvd.mono hg.pr hg.cells,fun e=>?_⟩
  have e1:ver=x.ver:=Nat.le_antisymm hle (e▸hle')
  rw [heq' (e1.symm.trans e)]
  exact heq e1
 | .gso j ver,v,h=>by
  simp only [VT] at h ⊢
  obtain⟨x,g,hgj,hle,h1,heq⟩:=h
  obtain⟨x',g',hg',hle',heq'⟩:=hg.g j x g hgj
  exact⟨x',g',hg',Nat.le_trans hle hle',h1,fun e=>by
   have e1:ver=x.ver:=Nat.le_antisymm hle (e▸hle')
   rw [heq e1,heq' (e1.symm.trans e)]⟩
 | .gsb j ver k lo n,v,h=>by
  simp only [VT] at h ⊢
  obtain⟨x,g,hgj,hle,h1,heq⟩:=h
  obtain⟨x',g',hg',hle',heq'⟩:=hg.g j x g hgj
  refine⟨x',g',hg',Nat.le_trans hle hle',h1,fun e=>?_⟩
  have e1:ver=x.ver:=Nat.le_antisymm hle (e▸hle')
  rw [heq' (e1.symm.trans e)]
  exact heq e1
 | .rptr j ver k i off,v,h=>by
  simp only [VT] at h ⊢
  obtain⟨x,g,hgj,hle,h1,heq⟩:=h
  obtain⟨x',g',hg',hle',heq'⟩:=hg.g j x g hgj
  refine⟨x',g',hg',Nat.le_trans hle hle',h1,fun e=>?_⟩
  have e1:ver=x.ver:=Nat.le_antisymm hle (e▸hle')
  rw [heq' (e1.symm.trans e)]
  exact heq e1
 | .aval t xs,v,h=>by
  simp only [VT] at h ⊢
  obtain⟨vs,rfl,h1,h⟩:=h
  exact⟨vs,rfl,h1,h.mono hg.pr hg.cells⟩
 | .tab t xs,v,h=>by
  simp only [VT] at h ⊢
  obtain⟨b,rfl,h⟩:=h
  exact⟨b,rfl,VD.mono hg.pr hg.cells h⟩
 | .func fn caps,v,h=>by
  simp only [VT] at h ⊢
  obtain⟨vs,rfl,h⟩:=h
  exact⟨vs,rfl,VTs.mono hg h⟩
 | .iface ty d,v,h=>by
  simp only [VT] at h ⊢
  obtain⟨u,rfl,h⟩:=h
  exact⟨u,rfl,VT.mono hg h⟩
 | .agg cs,v,h=>by
  simp only [VT] at h ⊢
  obtain⟨vs,rfl,h1,h⟩:=h
  exact⟨vs,rfl,h1,VTs.mono hg h⟩
 | .tuple ds,v,h=>by
  simp only [VT] at h ⊢
  obtain⟨vs,rfl,h⟩:=h
  exact⟨vs,rfl,VTs.mono hg h⟩
 | .val u,v,h=>by simpa only [VT] using h
theorem VTs.mono (hg:Goes w G w' G'):∀ {ds:List (TV E)} {vs:List Value},VTs E w G ds vs→VTs E w' G' ds vs
 | [],_,h=>by simpa only [VTs] using h
 | d::ds,vs,h=>by
  simp only [VTs] at h ⊢
  obtain⟨u,us,rfl,h1,h2⟩:=h
  exact⟨u,us,rfl,VT.mono hg h1,VTs.mono hg h2⟩
end
end
def MapRel (w:World) (G:Ghost) (kt vt:Ty):List MapEntry→List (kt.den E.D × vt.den E.D)→Prop
 | [],[]=>True
 | e::es,p::ps=>VT E w G (.dat kt p.1) e.key∧VT E w G (.dat vt p.2) e.val∧MapRel w G kt vt es ps
 | _,_=>False
def BoxOk (w:World) (G:Ghost) (b:Nat):TBox E→Prop
 | .cells ty cs=>∃vs:Array Value,w.heap[b]? = some (.cells vs ty (0,0))∧(∀u,u∈vs→u.oneCell'=true)∧VTs E w G cs vs.toList
 | .iter s pos=>w.heap[b]? = some (.stringIter ⟨⟨s⟩⟩ pos)
 | .map kt vt m=>∃(es:Array MapEntry) (clock:Nat),w.heap[b]? = some (.map es clock)∧MapKept.Stamped es clock∧MapRel E w G kt vt es.toList m
 | .loop y ds=>∃(Y:YD) (fn:FuncId) (tmps:Array Value) (D:Nat),E.yd y Y∧w.heap[b]? = some (.loop ⟨.ready,none,fn,tmps,Y.params,Y.assign,Y.body,D⟩)∧VTs E w G ds tmps.toList
 | .gone=>∃o,w.heap[b]? = some o∧∀cs t m,o≠.cells cs t m
 | .dfr=>w.heap[b]? = some (.deferred (some []))
 | .nrow e cap t xs d=>∃cur:Array Value,w.heap[b]? = some (.cells cur e (0,0))∧cur.size=cap∧(∀(i:Nat) x,xs[i]? = some x→VT E w G (.dat t x) (cur.getD i undef))∧VT E w G d (cur.getD xs.length undef)∧xs.length<cap
def GrowOk (w:World) (G:Ghost) (x:TGrow) (h:Value):Prop :=
 ∃n xs,w.ownsRow 0 x.e x.k h n xs∧(∀a m,h=.slice (some a) m 0→E.zc x.e=true)∧∀b,h.ownBlock=some b→b<w.heap.size∧b∉G.i∧∀o,n * x.k≤o→¬ G.pr b o
def Ghost.rows (G:Ghost) (b:Nat):Prop:=∃x h,(x,h)∈G.g∧h.ownBlock=some b
def Ghost.foot (G:Ghost) (b:Nat):Prop:=b∈G.i∨G.rows b
structure Evol (w0:World) (G0:Ghost) (w:World) (G:Ghost):Prop where
 os:w.os=w0.os
 tape:w.tape=w0.tape
 output:w.output=w0.output
 size:w0.heap.size≤w.heap.size
 old:∀b,b<w0.heap.size→¬ G0.foot b→w.heap[b]? = w0.heap[b]?
 goes:Goes w0 G0 w G
 prold:∀b o,b<w0.heap.size→G.pr b o→G0.pr b o∨G0.rows b
 newB:∀(r b:Nat),G0.i.length≤r→G.i[r]? = some b→w0.heap.size≤b
 newG:∀(j:Nat) x h b,G.g[j]? = some (x,h)→h.ownBlock=some b→w0.heap.size≤b∨∃x0 h0,G0.g[j]? = some (x0,h0)∧h0.ownBlock=some b
structure Boxes (w:World) (G:Ghost) (H:List (TBox E)) (gs:List TGrow):Prop where
 len:G.i.length=H.length
 gs:G.g.map (·.1)=gs
 box:∀(r b:Nat) (x:TBox E),G.i[r]? = some b→H[r]? = some x→BoxOk E w G b x
 lt:∀b,b∈G.i→b<w.heap.size
 nodup:G.i.Nodup
 prok:∀b o,G.pr b o→b<w.heap.size∧b∉G.i
 grow:∀(j:Nat) x h,G.g[j]? = some (x,h)→GrowOk E w G x h
 apart:∀(j j':Nat) x h x' h' b,G.g[j]? = some (x,h)→G.g[j']? = some (x',h')→h.ownBlock=some b→h'.ownBlock=some b→j=j'
 glob:∀b c,E.gt b=some c→TabOk E w G.pr b c.1 c.2
def Pins (w:World) (G:Ghost):Prop:=∀b p,E.gb b=some p→(∃cs t m,w.heap[b]? = some (.cells cs t m)∧p cs)∧¬ G.foot b
def colF:FuncId:=2000000
def DOk (w:World) (G:Ghost) (d:Deferred) (x:FuncId × List (TV E)):Prop :=
 (Nat.beq x.1 colF=false∧∃cap,d.target=.fn (.func x.1) cap∧VTs E w G x.2 (d.args++cap).toList)∨(x.1=colF∧∃b,d={ target:=.collected b,args:=#[] }∧VTs E w G x.2 [.func (.yield b) #[] #[]])
def DRel (w:World) (G:Ghost):List Deferred→List (FuncId × List (TV E))→Prop
 | [],[]=>True
 | d::ds,x::xs=>DOk E w G d x∧DRel w G ds xs
 | _,_=>False
def SoftOk (w:World) (G:Ghost) (x:TGrow) (h:Value) (c:Cn E):Prop :=
 x.k=c.1.size E∧0<x.k∧(∃vals,w.ownsRow 0 x.e x.k h c.2.length vals∧Flat w G.pr x.k vals (c.2.map (c.1.cells E)))∧∀b,h.ownBlock=some b→∀o,¬ G.pr b o
def Softs (w:World) (G:Ghost) (cs:List (Nat × Cn E)):Prop:=∀j c,(j,c)∈cs→∃x h,G.g[j]? = some (x,h)∧SoftOk E w G x h c
structure Rel (w0:World) (G0:Ghost) (st:TS E) (a:Act) (w:World) (G:Ghost):Prop where
 evol:Evol w0 G0 w G
 size:a.tmps.size=st.t.length
 tmps:∀(j:Nat) d,st.t[j]? = some d→VT E w G d (a.tmps.getD j undef)
 defers:DRel E w G a.defers st.df
 boxes:Boxes E w G st.H st.g
 fix:∀(r b:Nat),G0.i[r]? = some b→r∉st.d→w.heap[b]? = w0.heap[b]?
 pins:Pins E w0 G0
 softs:Softs E w G st.c
inductive Ex where
 | normal | exit (id:Nat) | goto (l:Nat) | ret | panic (d:TV E)
def ERel (w:World) (G:Ghost):Exit→Ex E→Prop
 | .normal,.normal=>True
 | .exit i,.exit j=>i=j
 | .goto i,.goto j=>i=j
 | .ret,.ret=>True
 | .panic ch,.panic d=>∃v,ch=[{ v:=v,recovered:=false }]∧VT E w G d v
 | _,_=>False
def CPost (w0:World) (G0:Ghost) (Q:Ex E→TS E→Prop):Exit→Act→World→Prop :=
 fun e a w=>∃x st G,ERel E w G e x∧Rel E w0 G0 st a w G∧Q x st
def AWp (P:Program) (c:Code) (st:TS E) (Q:Ex E→TS E→Prop):Prop :=
 ∀w0 G0 a w G,Rel E w0 G0 st a w G→c.wp P (CPost E w0 G0 Q) a w
def AOps (P:Program) (ops:Array Oper) (l:List Oper) (st:TS E) (Q:Ex E→TS E→Prop):Prop :=
 ∀w0 G0 a w G,Rel E w0 G0 st a w G→wpList P ops (CPost E w0 G0 Q) l a w
end Go.RT
namespace Go.RT
set_option linter.unusedVariables false
variable {E : TEnv}
section LD
variable {w : World} {pr : Nat → Nat → Prop}
theorem LD.length:∀ {vs:List Value} {ds:List DV},LD w pr vs ds→vs.length=ds.length
 | [],[],_=>rfl
 | _::_,_::_,h=>by simp [LD.length h.2]
 | [],_::_,h=>h.elim
 | _::_,[],h=>h.elim
theorem LD.one:∀ {vs:List Value} {ds:List DV},LD w pr vs ds→∀u,u∈vs→u.oneCell'=true
 | [],[],_,u,hu=>by cases hu
 | v::vs,d::ds,h,u,hu=>by
  rcases List.mem_cons.1 hu with rfl | hu
  ·exact h.1.one
  ·exact LD.one h.2 u hu
 | [],_::_,h,_,_=>h.elim
 | _::_,[],h,_,_=>h.elim
theorem LD.append:∀ {vs us:List Value} {ds es:List DV},LD w pr vs ds→LD w pr us es→LD w pr (vs++us) (ds++es)
 | [],_,[],_,_,h=>h
 | _::_,_,_::_,_,h,h'=>⟨h.1,LD.append h.2 h'⟩
 | [],_,_::_,_,h,_=>h.elim
 | _::_,_,[],_,h,_=>h.elim
theorem LD.take:∀(n:Nat) {vs:List Value} {ds:List DV},LD w pr vs ds→LD w pr (vs.take n) (ds.take n)
 | 0,_,_,_=>by simp [LD]
 | _+1,[],[],_=>trivial
 | n+1,_::_,_::_,h=>⟨h.1,LD.take n h.2⟩
 | _+1,[],_::_,h=>h.elim
 | _+1,_::_,[],h=>h.elim
theorem LD.drop:∀(n:Nat) {vs:List Value} {ds:List DV},LD w pr vs ds→LD w pr (vs.drop n) (ds.drop n)
 | 0,_,_,h=>h
 | _+1,[],[],_=>trivial
 | n+1,_::_,_::_,h=>LD.drop n h.2
 | _+1,[],_::_,h=>h.elim
 | _+1,_::_,[],h=>h.elim
theorem LD.split:∀ {ds es:List DV} {vs:List Value},LD w pr vs (ds++es)→∃us ts,vs=us++ts∧LD w pr us ds∧LD w pr ts es
 | [],_,vs,h=>⟨[],vs,rfl,trivial,h⟩
 | d::ds,es,v::vs,h=>by
  obtain⟨us,ts,rfl,h1,h2⟩:=LD.split (ds:=ds) h.2
  exact⟨v::us,ts,rfl,⟨h.1,h1⟩,h2⟩
 | _::_,_,[],h=>h.elim
theorem LD.single {v:Value} {d:DV} (h:VD w pr v d):LD w pr [v] [d]:=⟨h,trivial⟩
theorem LD.of_single {v:Value} {d:DV} (h:LD w pr [v] [d]):VD w pr v d:=h.1
end LD
section VD
variable {w : World} {pr : Nat → Nat → Prop} {v : Value}
theorem VD.int_inv {k:IntKind} {n:Int} (h:VD w pr v (.int k n)):v=.int k n:=by cases h;rfl
theorem VD.bool_inv {b:Bool} (h:VD w pr v (.bool b)):v=.bool b:=by cases h;rfl
theorem VD.str_inv {l:List UInt8} (h:VD w pr v (.str l)):v=mkStr l:=by cases h;rfl
end VD
section VT
variable {w : World} {G : Ghost} {v : Value}
theorem VT.int_inv {k:IntKind} {n:Int} (h:VT E w G (.dat (.int k) n) v):v=.int k n:=by
 simp only [VT,Ty.isAgg,Ty.cells] at h
 exact h.of_single.int_inv
theorem VT.bool_inv {b:Bool} (h:VT E w G (.dat .bool b) v):v=.bool b:=by
 simp only [VT,Ty.isAgg,Ty.cells] at h
 exact h.of_single.bool_inv
theorem VT.str_inv {l:List UInt8} (h:VT E w G (.dat .str l) v):v=mkStr l:=by
 simp only [VT,Ty.isAgg,Ty.cells] at h
 exact h.of_single.str_inv
theorem VT.int (w:World) (G:Ghost) (k:IntKind) (n:Int):VT E w G (.dat (.int k) n) (.int k n):=by
 simp only [VT,Ty.isAgg,Ty.cells]
 exact .single (.int k n)
theorem VT.bool (w:World) (G:Ghost) (b:Bool):VT E w G (.dat .bool b) (.bool b):=by
 simp only [VT,Ty.isAgg,Ty.cells]
 exact .single (.bool b)
theorem VT.str (w:World) (G:Ghost) (l:List UInt8):VT E w G (.dat .str l) (mkStr l):=by
 simp only [VT,Ty.isAgg,Ty.cells]
 exact .single (.str l)
end VT
def TV.ofV:Value→TV E
 | .int k n=>.dat (.int k) n
 | .bool b=>.dat .bool b
 | .string s=>.dat .str s.data.toList
 | v=>.val v
theorem VT_ofV (w:World) (G:Ghost) (v:Value):VT E w G (TV.ofV v) v:=by
 cases v<;>first | exact .int _ _ _ _ | exact .bool _ _ _ | exact .str w G _ | (simp only [TV.ofV,VT])
def TS.at (st:TS E) (i:Nat):TV E:=st.t.getD i .any
def TS.ev (st:TS E):Operand→TV E
 | .tmp t=>st.at t
 | .const v=>.ofV v
 | .global g=>match E.gt g with
  | some c=>.tab c.1 c.2
  | none=>.any
 | .func f=>.func (.func f) []
def setT (l:List (TV E)) (dst:Option Nat) (d:TV E):List (TV E) :=
 match dst with
 | some i=>l.set i d
 | none=>l
def softAt:List (Nat × Cn E)→Nat→Bool
 | [],_=>false
 | p::cs,j=>Nat.beq p.1 j||softAt cs j
theorem softAt_not:∀ {cs:List (Nat × Cn E)} {j:Nat},softAt cs j=false→∀c,(j,c)∉cs
 | [],j,_,c,h=>by cases h
 | p::cs,j,hs,c,h=>by
  simp only [softAt,Bool.or_eq_false_iff] at hs
  rcases List.mem_cons.1 h with h | h
  ·rw [←h,Nat.beq_refl] at hs;cases hs.1
  ·exact softAt_not hs.2 c h
def cGet:List (Nat × Cn E)→Nat→Option (Cn E)
 | [],_=>none
 | p::cs,j=>cond (Nat.beq p.1 j) (some p.2) (cGet cs j)
theorem cGet_mem:∀ {cs:List (Nat × Cn E)} {j:Nat} {c:Cn E},cGet cs j=some c→(j,c)∈cs
 | [],j,c,h=>by cases h
 | p::cs,j,c,h=>by
  simp only [cGet] at h
  cases hb:Nat.beq p.1 j<;>rw [hb] at h<;>simp only [cond_true,cond_false] at h
  ·exact List.mem_cons_of_mem _ (cGet_mem h)
  ·cases h
   have:=Nat.eq_of_beq_eq_true hb
   subst this
   simp
def cDrop (j:Nat):List (Nat × Cn E)→List (Nat × Cn E)
 | []=>[]
 | p::cs=>cond (Nat.beq p.1 j) (cDrop j cs) (p::cDrop j cs)
theorem cDrop_mem {j:Nat}:∀ {cs:List (Nat × Cn E)} {i:Nat} {c:Cn E},(i,c)∈cDrop j cs→(i,c)∈cs∧i≠j
 | [],i,c,h=>by cases h
 | p::cs,i,c,h=>by
  simp only [cDrop] at h
  cases hb:Nat.beq p.1 j<;>rw [hb] at h<;>simp only [cond_true,cond_false] at h
  ·rcases List.mem_cons.1 h with h | h
   ·refine⟨by rw [h];simp,fun e=>?_⟩
    rw [←h] at hb
    simp only at hb
    rw [e,Nat.beq_refl] at hb
    cases hb
   ·exact⟨List.mem_cons_of_mem _ (cDrop_mem h).1,(cDrop_mem h).2⟩
  ·exact⟨List.mem_cons_of_mem _ (cDrop_mem h).1,(cDrop_mem h).2⟩
section Rel
variable {w0 w : World} {G0 G : Ghost} {st : TS E} {a : Act}
theorem Rel.ev (h:Rel E w0 G0 st a w G) (x:Operand):VT E w G (st.ev x) (a.eval x):=by
 cases x with
 | tmp t =>
  simp only [TS.ev,TS.at,List.getD]
  cases ht:st.t[t]? with
  | none=>simp only [Option.getD_none,VT]
  | some d=>exact h.tmps t d ht
 | const v=>exact VT_ofV w G v
 | global g =>
  simp only [TS.ev]
  cases hg:E.gt g with
  | none=>simp only [VT]
  | some c =>
   simp only [VT]
   exact⟨g,rfl,h.boxes.glob g c hg⟩
 | func f =>
  simp only [TS.ev,VT]
  exact⟨#[],rfl,by simp [VTs]⟩
theorem put_size (a:Act) (dst:Option Nat) (v:Value):(a.put dst v).tmps.size=a.tmps.size:=by cases dst<;>simp [Act.put]
theorem put_defers (a:Act) (dst:Option Nat) (v:Value):(a.put dst v).defers=a.defers:=by cases dst<;>simp [Act.put]
theorem put_getD (a:Act) (dst:Option Nat) (v:Value) (j:Nat):(a.put dst v).tmps.getD j undef=if dst=some j∧j<a.tmps.size then v else a.tmps.getD j undef:=by
 cases dst with
 | none=>simp [Act.put]
 | some i =>
  simp only [Act.put,Option.some.injEq,Array.getD_eq_getD_getElem?,Array.getElem?_setIfInBounds]
  by_cases hij:i=j
  ·subst hij
   by_cases hi:i<a.tmps.size<;>simp [hi]
  ·simp [hij]
theorem Rel.put (h:Rel E w0 G0 st a w G) {v:Value} {d:TV E} (hv:VT E w G d v) (dst:Option Nat) :
  Rel E w0 G0 { st with t:=setT st.t dst d } (a.put dst v) w G:=by
 refine⟨h.evol,?_,?_,?_,h.boxes,h.fix,h.pins,h.softs⟩
 ·rw [put_size,h.size];cases dst<;>simp [setT]
 ·intro j d' hj
  rw [put_getD,h.size]
  cases dst with
  | none =>
   rw [if_neg (by simp)]
   exact h.tmps j d' hj
  | some i =>
   simp only [setT,List.getElem?_set] at hj
   by_cases hij:i=j
   ·subst hij
    by_cases hl:i<st.t.length
    ·rw [if_pos ⟨rfl,hl⟩]
     simp [hl] at hj
     subst hj
     exact hv
    ·simp [hl] at hj
   ·rw [if_neg (by simp [hij])]
    rw [if_neg hij] at hj
    exact h.tmps j d' hj
 ·rw [put_defers];exact h.defers
end Rel
end Go.RT
namespace Go.RT
set_option linter.unusedVariables false
structure TI where
 kind:TypeDesc
 size:Nat
 bytes:Nat
 zero:Value
def tinfo (P:Program) (t:TypeId):Option TI :=
 match P.info? t,P.underlying t with
 | some i,some d=>match i.zero with
  | some z=>some ⟨d,i.size,i.bytes,z⟩
  | none=>none
 | _,_=>none
theorem tinfo_some {P:Program} {t:TypeId} {x:TI} (h:tinfo P t=some x) :
  ∃i,P.info? t=some i∧P.underlying t=some x.kind∧i.size=x.size∧i.bytes=x.bytes∧i.zero=some x.zero:=by
 unfold tinfo at h
 split at h
 ·rename_i i d hi hd
  split at h
  ·rename_i z hz
   cases h
   exact⟨i,hi,hd,rfl,rfl,hz⟩
  ·cases h
 ·cases h
def TI.isAgg (i:TI):Bool:=match i.kind with | .struct _=>true | .array _ _=>true | _=>false
def Same (w w':World):Prop:=w.heap.size≤w'.heap.size∧∀b,b<w.heap.size→w'.heap[b]? = w.heap[b]?
theorem Same.refl (w:World):Same w w:=⟨Nat.le_refl _,fun _ _=>rfl⟩
theorem Same.cell {w w':World} (h:Same w w') {a:Addr} {v:Value} (hv:w.cell? a=some v):w'.cell? a=some v :=
 (World.cell?_of_block (h.2 a.block (World.block_lt_of_cell? w a hv))).trans hv
theorem run_underlying' {P:Program} {t:TypeId} {d:TypeDesc} (h:P.underlying t=some d) (w:World):(underlying t).run P w=.ok d w:=by
 simp [underlying,h]
theorem run_typeInfo' {P:Program} {t:TypeId} {i:TypeInfo} (h:P.info? t=some i) (w:World):(typeInfo t).run P w=.ok i w:=by
 simp [typeInfo,h]
theorem run_sizeOf' {P:Program} {t:TypeId} {i:TypeInfo} (h:P.info? t=some i) (w:World):(sizeOf t).run P w=.ok i.size w:=by
 simp [sizeOf,run_typeInfo' h]
theorem run_isAgg' {P:Program} {t:TypeId} {i:TI} (h:tinfo P t=some i) (w:World):(isAgg t).run P w=.ok i.isAgg w:=by
 obtain⟨x,hx,hu,-⟩:=tinfo_some h
 unfold isAgg
 simp only [Sem.run_bind,run_underlying' hu,Result.andThen_ok]
 unfold TI.isAgg
 cases i.kind<;>rfl
theorem run_zeroValue' {P:Program} {t:TypeId} {i:TI} (h:tinfo P t=some i) (w:World):(zeroValue t).run P w=.ok i.zero w:=by
 obtain⟨x,hx,hu,-,-,hz⟩:=tinfo_some h
 simp [zeroValue,run_typeInfo' hx,hz]
theorem add_lit (b o n:Nat):(⟨b,o,none⟩:Addr).add n=⟨b,o+n,none⟩:=by
 unfold Addr.add;split<;>simp_all
theorem run_load_part {P:Program} {w:World} {t:TypeId} {i:TI} (ht:tinfo P t=some i) (b o:Nat) (n:Nat) (c:Nat→Value)
  (hc:∀l,l<n→w.cell? ⟨b,o+l,none⟩=some (c l)) (off:Nat) (h:cond i.isAgg (off+i.size≤n) (off<n)) (w':World) (hs:Same w w') :
  (Instr.loadAt t (.pointer (some ⟨b,o+off,none⟩))).run P w' =
   .ok (cond i.isAgg (.agg ((List.range i.size).map fun l=>c (off+l)).toArray) (c off)) w':=by
 obtain⟨x,hx,hu,hsz,-⟩:=tinfo_some ht
 unfold Instr.loadAt Instr.sureAddr loadVar
 simp only [Sem.run_bind,Sem.run_pure,Result.andThen_ok,run_isAgg' ht]
 cases hag:i.isAgg
 ·simp only [hag,cond_false] at h
  have hcell:=hs.cell (hc off h)
  simp [hcell]
 ·simp only [hag,cond_true] at h
  simp only [cond_true,if_true,Sem.run_bind,run_sizeOf' hx,Result.andThen_ok,hsz]
  have:=run_loadCells (P:=P) w' ⟨b,o+off,none⟩ i.size (fun l=>c (off+l)) (fun j hj=>by
   rw [add_lit]
   have:=hs.cell (hc (off+j) (by omega))
   rw [←Nat.add_assoc] at this
   exact this)
  rw [this]
  simp
theorem mkStr_append (a b:List UInt8):mkStr (a++b)=.string (ByteArray.mk ⟨a⟩++ByteArray.mk ⟨b⟩):=by
 unfold mkStr
 congr 1
variable {E : TEnv}
def rq {R:Type} (b:Bool) (k:Option R):Option R:=cond b k none
theorem rq_some {R:Type} {b:Bool} {k:Option R} {r:R} (h:rq b k=some r):b=true∧k=some r:=by
 cases b
 ·cases h
 ·exact⟨rfl,h⟩
def strictI (a:Int) (f:Int→Int):Int:=match a with
 | .ofNat n=>f (.ofNat n)
 | .negSucc n=>f (.negSucc n)
theorem strictI_eq (a:Int) (f:Int→Int):strictI a f=f a:=by cases a<;>rfl
def bShl (k:IntKind) (a b:Int):Int:=k.wrap (a * 2 ^ (min b.toNat k.bits))
def bShr (k:IntKind) (a b:Int):Int:=strictI a fun a=>a.fdiv (2 ^ (min b.toNat k.bits))
def bAnd (k:IntKind) (a b:Int):Int:=strictI a fun a=>strictI b fun b=>k.wrap (BitVec.ofInt k.bits a &&& BitVec.ofInt k.bits b).toNat
def bOr (k:IntKind) (a b:Int):Int:=strictI a fun a=>strictI b fun b=>k.wrap (BitVec.ofInt k.bits a ||| BitVec.ofInt k.bits b).toNat
def bXor (k:IntKind) (a b:Int):Int:=strictI a fun a=>strictI b fun b=>k.wrap (BitVec.ofInt k.bits a ^^^ BitVec.ofInt k.bits b).toNat
def bAndNot (k:IntKind) (a b:Int):Int:=strictI a fun a=>strictI b fun b=>k.wrap (BitVec.ofInt k.bits a &&& ~~~ BitVec.ofInt k.bits b).toNat
def bNot (k:IntKind) (n:Int):Int:=strictI n fun n=>k.wrap (BitVec.ofInt k.bits (if k.signed then -1 else k.max) ^^^ BitVec.ofInt k.bits n).toNat
theorem bShr_eq (k:IntKind) (a b:Int):bShr k a b=a.fdiv (2 ^ (min b.toNat k.bits)):=strictI_eq _ _
theorem bAnd_eq (k:IntKind) (a b:Int):bAnd k a b=k.wrap (BitVec.ofInt k.bits a &&& BitVec.ofInt k.bits b).toNat:=by unfold bAnd;rw [strictI_eq,strictI_eq]
theorem bOr_eq (k:IntKind) (a b:Int):bOr k a b=k.wrap (BitVec.ofInt k.bits a ||| BitVec.ofInt k.bits b).toNat:=by unfold bOr;rw [strictI_eq,strictI_eq]
theorem bXor_eq (k:IntKind) (a b:Int):bXor k a b=k.wrap (BitVec.ofInt k.bits a ^^^ BitVec.ofInt k.bits b).toNat:=by unfold bXor;rw [strictI_eq,strictI_eq]
theorem bAndNot_eq (k:IntKind) (a b:Int):bAndNot k a b=k.wrap (BitVec.ofInt k.bits a &&& ~~~ BitVec.ofInt k.bits b).toNat:=by unfold bAndNot;rw [strictI_eq,strictI_eq]
theorem bNot_eq (k:IntKind) (n:Int):bNot k n=k.wrap (BitVec.ofInt k.bits (if k.signed then -1 else k.max) ^^^ BitVec.ofInt k.bits n).toNat:=strictI_eq _ _
def binV (op:BinOp) (x y:TV E):Option (Bool × TV E) :=
 match x,y with
 | .dat (.int k) a,.dat (.int k') b =>
  match op with
  | .shl=>some (decide (0≤b),.dat (.int k) (bShl k a b))
  | .shr=>some (decide (0≤b),.dat (.int k) (bShr k a b))
  | .add=>some (decide (k=k'),.dat (.int k) (k.wrap (a+b)))
  | .sub=>some (decide (k=k'),.dat (.int k) (k.wrap (a - b)))
  | .mul=>some (decide (k=k'),.dat (.int k) (k.wrap (a * b)))
  | .quo=>some (decide (k=k') && !(b==0),.dat (.int k) (k.wrap (a.tdiv b)))
  | .rem=>some (decide (k=k') && !(b==0),.dat (.int k) (a.tmod b))
  | .and=>some (decide (k=k'),.dat (.int k) (bAnd k a b))
  | .or=>some (decide (k=k'),.dat (.int k) (bOr k a b))
  | .xor=>some (decide (k=k'),.dat (.int k) (bXor k a b))
  | .andNot=>some (decide (k=k'),.dat (.int k) (bAndNot k a b))
  | .eql=>some (decide (k=k'),.dat .bool (a==b))
  | .neq=>some (decide (k=k'),.dat .bool (a != b))
  | .lss=>some (decide (k=k'),.dat .bool (decide (a<b)))
  | .leq=>some (decide (k=k'),.dat .bool (decide (a≤b)))
  | .gtr=>some (decide (k=k'),.dat .bool (decide (b<a)))
  | .geq=>some (decide (k=k'),.dat .bool (decide (b≤a)))
 | .dat .str a,.dat .str b =>
  match op with
  | .add=>some (decide (a.length+b.length≤9223372036854775807),.dat .str (a++b))
  | .eql=>some (true,.dat .bool (a==b))
  | .neq=>some (true,.dat .bool (!(a==b)))
  | .lss=>some (true,.dat .bool (Op.bytesLess a b))
  | .leq=>some (true,.dat .bool (Op.bytesLess a b||a==b))
  | .gtr=>some (true,.dat .bool (!(Op.bytesLess a b||a==b)))
  | .geq=>some (true,.dat .bool (!(Op.bytesLess a b)))
  | _=>none
 | _,_=>none
theorem binV_sound {P:Program} {w:World} {G:Ghost} {op:BinOp} {t:TypeId} {x y:Operand} {u v:Value} {du dv d:TV E} {c:Bool}
  (hu:VT E w G du u) (hv:VT E w G dv v) (h:binV op du dv=some (c,d)) (hob:c=true) :
  ∃r,VT E w G d r∧∀w',(do eqGuard op t x y u v;binOp op t u v).run P w'=.ok r w':=by
 subst hob
 unfold binV at h
 split at h
 ·rename_i k a k' b
  obtain rfl:=hu.int_inv
  obtain rfl:=hv.int_inv
  have hg:∀w',(eqGuard op t x y (.int k a) (.int k' b)).run P w'=.ok () w':=fun w'=>by cases op<;>rfl
  cases op<;>simp only [Option.some.injEq,Prod.mk.injEq,Bool.and_eq_true,decide_eq_true_eq] at h<;>obtain⟨hob,rfl⟩:=h
  case shl=>exact⟨_,.int _ _ _ _,fun w'=>by simp [bShl,hg,binOp,Op.shift,show ¬ b<0 from Int.not_lt.2 hob]⟩
  case shr=>exact⟨_,.int _ _ _ _,fun w'=>by simp [bShr_eq,hg,binOp,Op.shift,show ¬ b<0 from Int.not_lt.2 hob]⟩
  case quo=>obtain⟨rfl,hb⟩:=hob;have hb:b≠0:=by simpa using hb
            exact⟨_,.int _ _ _ _,fun w'=>by simp [hg,binOp,Op.intDiv,hb]⟩
  case rem=>obtain⟨rfl,hb⟩:=hob;have hb:b≠0:=by simpa using hb
            exact⟨_,.int _ _ _ _,fun w'=>by simp [hg,binOp,Op.intDiv,hb]⟩
  all_goals
   subst hob
   first
    | exact⟨_,.int _ _ _ _,fun w'=>by simp only [Sem.run_bind,hg,Result.andThen_ok,binOp,ne_eq,not_true,if_false];rfl⟩
    | exact⟨_,.int _ _ _ _,fun w'=>by simp only [Sem.run_bind,hg,Result.andThen_ok,binOp,ne_eq,not_true,if_false,bAnd_eq,bOr_eq,bXor_eq,bAndNot_eq];rfl⟩
    | exact⟨_,.bool _ _ _,fun w'=>by simp [hg,binOp,Op.intCmp]⟩
 ·rename_i a b
  obtain rfl:=hu.str_inv
  obtain rfl:=hv.str_inv
  have hg:∀w',(eqGuard op t x y (mkStr a) (mkStr b)).run P w'=.ok () w':=fun w'=>by cases op<;>rfl
  have hb:∀w',(do eqGuard op t x y (mkStr a) (mkStr b);binOp op t (mkStr a) (mkStr b)).run P w'=(Op.stringOp op ⟨⟨a⟩⟩ ⟨⟨b⟩⟩).run P w':=fun w'=>by
   simp only [Sem.run_bind,hg,Result.andThen_ok]
   cases op<;>rfl
  simp only [hb]
  cases op<;>simp only [Option.some.injEq,Prod.mk.injEq,reduceCtorEq,decide_eq_true_eq] at h<;>obtain⟨hob,rfl⟩:=h
  case add =>
   refine⟨_,.str _ _ _,fun w'=>?_⟩
   rw [mkStr_append]
   have hsz:∀l:List UInt8,(ByteArray.mk ⟨l⟩).size=l.length:=fun l=>rfl
   have:¬ (((⟨⟨a⟩⟩:ByteArray).size+(⟨⟨b⟩⟩:ByteArray).size:Nat):Int)>IntKind.i64.max:=by
    rw [hsz,hsz]
    have:IntKind.i64.max=9223372036854775807:=by decide
    rw [this];omega
   simp only [Op.stringOp,this,if_false];rfl
  all_goals exact⟨_,.bool _ _ _,fun w'=>by simp [Op.stringOp]⟩
 ·cases h
def isLoad:Op→Bool
 | .load _ _=>true
 | _=>false
def SameL (o:Oper) (w w':World):Prop:=isLoad o.op=true→Same w w'
theorem SameL.refl (o:Oper) (w:World):SameL o w w:=fun _=>Same.refl w
def Gives (P:Program) (a:Act) (w:World) (G:Ghost) (o:Oper) (d:TV E):Prop :=
 ∃v,VT E w G d v∧∀w',SameL o w w'→(execOp a.eval o).run P w'=.ok (.value v) w'
section
variable {P : Program} {w0 : World} {G0 : Ghost} {st : TS E} {a : Act} {w : World} {G : Ghost} {o : Oper}
theorem gives_ev (hr:Rel E w0 G0 st a w G) (x:Operand) (ho:o.op=.move x∨o.op=.assign x):Gives P a w G o (st.ev x) :=
 ⟨a.eval x,hr.ev x,fun w' _=>by rcases ho with ho | ho<;>simp [execOp,ho]⟩
theorem gives_v {f:(Operand→Value)→Sem Value} {d:TV E} (he:execOp a.eval o=(do let x ←f a.eval;pure (.value x)))
  (h:∃v,VT E w G d v∧∀w',SameL o w w'→(f a.eval).run P w'=.ok v w'):Gives P a w G o d:=by
 obtain⟨v,hv,h⟩:=h
 exact⟨v,hv,fun w' hs=>by simp [he,h w' hs]⟩
end
end Go.RT
namespace Go.RT
set_option linter.unusedVariables false
variable {E : TEnv}
def Part (E:TEnv) (w:World) (G:Ghost) (vs:List Value) (agg:Bool) (size off:Nat) (d:TV E):Prop :=
 cond agg (off+size≤vs.length∧VT E w G d (.agg ((vs.drop off).take size).toArray)) (∃u,vs[off]? = some u∧VT E w G d u)
def subP (E:TEnv) (f:(i:Nat)→E.D i→Bool→Nat→Nat→Option (TV E)):(t:Ty)→t.den E.D→Bool→Nat→Nat→Option (TV E)
 | .pair a b,x,agg,size,off=>cond (Nat.blt off (a.size E))
   (cond (Nat.beq off 0&&Nat.beq size (a.size E)&&(agg==a.isAgg)) (some (.dat a x.1)) (subP E f a x.1 agg size off))
   (subP E f b x.2 agg size (off - a.size E))
 | .ext i,x,agg,size,off=>f i x agg size off
 | _,_,_,_,_=>none
def subN (E:TEnv):Nat→(t:Ty)→t.den E.D→Bool→Nat→Nat→Option (TV E)
 | 0=>subP E fun _ _ _ _ _=>none
 | n+1=>subP E fun i x=>subN E n (E.df i) (E.unf i x)
def TV.part (t:Ty) (x:t.den E.D) (agg:Bool) (size off:Nat):Option (TV E) :=
 cond (Nat.beq off 0&&Nat.beq size (t.size E)&&(agg==t.isAgg)) (some (.dat t x)) (subN E 4 t x agg size off)
section
variable {w : World} {G : Ghost}
theorem Ty.size_atom {t:Ty} (h:t.isAgg=false):t.size E=1:=by
 cases t<;>first | rfl | cases h
theorem Part.whole (hE:E.Ok) {vs:List Value} {t:Ty} {x:t.den E.D} (h:LD w G.pr vs (t.cells E x)):Part E w G vs t.isAgg (t.size E) 0 (.dat t x):=by
 have hl:=h.length
 rw [Ty.cells_length E hE] at hl
 unfold Part
 cases ha:t.isAgg
 ·rw [Ty.size_atom ha] at hl
  obtain⟨u,rfl⟩:=List.length_eq_one_iff.1 hl
  refine⟨u,rfl,?_⟩
  simp only [VT,ha]
  exact h
 ·refine⟨by omega,?_⟩
  simp only [VT,ha]
  refine⟨_,rfl,?_⟩
  rw [←hl]
  simpa using h
theorem Part.left {us ts:List Value} {agg:Bool} {size off:Nat} {d:TV E} (h:Part E w G us agg size off d):Part E w G (us++ts) agg size off d:=by
 unfold Part at h ⊢
 cases agg
 ·obtain⟨u,hu,h⟩:=h
  refine⟨u,?_,h⟩
  have:=(List.getElem?_eq_some_iff.1 hu).1
  rw [List.getElem?_append_left this];exact hu
 ·obtain⟨hl,h⟩:=h
  refine⟨by simp;omega,?_⟩
  rw [List.drop_append_of_le_length (by omega),List.take_append_of_le_length (by simp;omega)]
  exact h
theorem Part.right {us ts:List Value} {agg:Bool} {size off n:Nat} {d:TV E} (hn:us.length=n) (ho:n≤off) (h:Part E w G ts agg size (off - n) d):Part E w G (us++ts) agg size off d:=by
 subst hn
 unfold Part at h ⊢
 cases agg
 ·obtain⟨u,hu,h⟩:=h
  exact⟨u,by rw [List.getElem?_append_right ho];exact hu,h⟩
 ·obtain⟨hl,h⟩:=h
  refine⟨by simp;omega,?_⟩
  rw [List.drop_append,List.drop_eq_nil_of_le ho,List.nil_append]
  exact h
theorem subP_sound (hE:E.Ok) {f:(i:Nat)→E.D i→Bool→Nat→Nat→Option (TV E)}
  (hf:∀i x agg size off d vs,LD w G.pr vs (E.enc i x)→f i x agg size off=some d→Part E w G vs agg size off d) :
  ∀(t:Ty) (x:t.den E.D) {agg:Bool} {size off:Nat} {d:TV E} {vs:List Value},LD w G.pr vs (t.cells E x)→subP E f t x agg size off=some d→Part E w G vs agg size off d:=by
 intro t
 induction t with
 | int k=>intro x _ _ _ _ _ _ h;cases h
 | bool=>intro x _ _ _ _ _ _ h;cases h
 | str=>intro x _ _ _ _ _ _ h;cases h
 | lst t _=>intro x _ _ _ _ _ _ h;cases h
 | unit=>intro x _ _ _ _ _ _ h;cases h
 | ext i=>intro x agg size off d vs hv h;exact hf i x agg size off d vs hv h
 | pair a b iha ihb =>
  intro x agg size off d vs hv h
  simp only [Ty.cells] at hv
  obtain⟨us,ts,rfl,h1,h2⟩:=hv.split
  have hl:=h1.length
  rw [Ty.cells_length E hE] at hl
  simp only [subP] at h
  cases hb:Nat.blt off (a.size E)<;>rw [hb] at h<;>simp only [cond_true,cond_false] at h
  ·have ho:a.size E≤off:=by
    have:¬ off<a.size E:=fun hc=>by rw [←Nat.blt_eq] at hc;rw [hc] at hb;cases hb
    omega
   exact (ihb x.2 h2 h).right hl ho
  ·cases hc:(Nat.beq off 0&&Nat.beq size (a.size E)&&(agg==a.isAgg))<;>rw [hc] at h<;>simp only [cond_true,cond_false] at h
   ·exact (iha x.1 h1 h).left
   ·cases h
    simp only [Bool.and_eq_true,beq_iff_eq] at hc
    obtain⟨⟨e1,e2⟩,rfl⟩:=hc
    rw [Nat.eq_of_beq_eq_true e1,Nat.eq_of_beq_eq_true e2]
    exact (Part.whole hE h1).left
theorem subN_sound (hE:E.Ok):∀(n:Nat) (t:Ty) (x:t.den E.D) {agg:Bool} {size off:Nat} {d:TV E} {vs:List Value},
  LD w G.pr vs (t.cells E x)→subN E n t x agg size off=some d→Part E w G vs agg size off d
 | 0,t,x,_,_,_,_,_,hv,h=>subP_sound hE (fun _ _ _ _ _ _ _ _ h=>by cases h) t x hv h
 | n+1,t,x,_,_,_,_,_,hv,h=>subP_sound hE (fun i x agg size off d vs hv h=>by
   rw [hE.enc] at hv
   exact subN_sound hE n (E.df i) (E.unf i x) hv h) t x hv h
theorem part_sound (hE:E.Ok) {t:Ty} {x:t.den E.D} {agg:Bool} {size off:Nat} {d:TV E} {vs:List Value}
  (hv:LD w G.pr vs (t.cells E x)) (h:TV.part t x agg size off=some d):Part E w G vs agg size off d:=by
 unfold TV.part at h
 cases hc:(Nat.beq off 0&&Nat.beq size (t.size E)&&(agg==t.isAgg))<;>rw [hc] at h<;>simp only [cond_true,cond_false] at h
 ·exact subN_sound hE 4 t x hv h
 ·cases h
  simp only [Bool.and_eq_true,beq_iff_eq] at hc
  obtain⟨⟨e1,e2⟩,rfl⟩:=hc
  rw [Nat.eq_of_beq_eq_true e1,Nat.eq_of_beq_eq_true e2]
  exact Part.whole hE hv
end
end Go.RT
namespace Go.RT
set_option linter.unusedVariables false
variable {E : TEnv}
def TV.get (t:Ty):TV E→Option (t.den E.D)
 | .dat t' x=>if h:t'=t then some (h▸x) else none
 | .gsl _ _ t' xs=>if h:Ty.lst t'=t then some (h▸xs) else none
 | .val (.slice none 0 0)=>match t with
  | .lst _=>some []
  | _=>none
 | _=>none
theorem TV.get_vt {t:Ty} {d:TV E} {x:t.den E.D} (h:d.get t=some x) {w:World} {G:Ghost} {v:Value} (hv:VT E w G d v):VT E w G (.dat t x) v:=by
 unfold TV.get at h
 split at h
 ·rename_i t' y
  split at h
  ·rename_i e
   subst e
   cases h
   exact hv
  ·cases h
 ·rename_i j ver t' xs
  split at h
  ·rename_i e
   subst e
   cases h
   simp only [VT] at hv
   simp only [VT,Ty.isAgg,Ty.cells]
   exact .single hv.1
  ·cases h
 ·split at h
  ·cases h
   simp only [VT] at hv
   subst hv
   simp only [VT,Ty.isAgg,Ty.cells]
   exact .single (.nils _ _)
  ·cases h
 ·cases h
def rebP (E:TEnv) (f:(i:Nat)→List (TV E)→Option (E.D i × List (TV E))):(t:Ty)→List (TV E)→Option (t.den E.D × List (TV E))
 | .unit,cs=>some ((),cs)
 | .pair a b,cs=>(rebP E f a cs).bind fun p=>(rebP E f b p.2).bind fun q=>some ((p.1,q.1),q.2)
 | .ext i,cs=>f i cs
 | .int k,cs=>match cs with | c::r=>(c.get (.int k)).bind fun x=>some (x,r) | []=>none
 | .bool,cs=>match cs with | c::r=>(c.get .bool).bind fun x=>some (x,r) | []=>none
 | .str,cs=>match cs with | c::r=>(c.get .str).bind fun x=>some (x,r) | []=>none
 | .lst t,cs=>match cs with | c::r=>(c.get (.lst t)).bind fun x=>some (x,r) | []=>none
def rebN (E:TEnv):Nat→(t:Ty)→List (TV E)→Option (t.den E.D × List (TV E))
 | 0=>rebP E fun _ _=>none
 | n+1=>rebP E fun i cs=>(rebN E n (E.df i) cs).bind fun p=>some (E.fold i p.1,p.2)
section
variable {w : World} {G : Ghost}
theorem VTs.nil:VTs E w G [] []:=by simp only [VTs]
theorem VTs.cons {d:TV E} {ds:List (TV E)} {v:Value} {vs:List Value} (h:VT E w G d v) (h':VTs E w G ds vs):VTs E w G (d::ds) (v::vs):=by
 simp only [VTs]
 exact⟨v,vs,rfl,h,h'⟩
theorem VTs.cons_inv {d:TV E} {ds:List (TV E)} {vs:List Value} (h:VTs E w G (d::ds) vs):∃u us,vs=u::us∧VT E w G d u∧VTs E w G ds us:=by
 simpa only [VTs] using h
theorem VTs.length:∀ {ds:List (TV E)} {vs:List Value},VTs E w G ds vs→vs.length=ds.length
 | [],_,h=>by simp only [VTs] at h;subst h;rfl
 | d::ds,vs,h=>by
  obtain⟨u,us,rfl,-,h⟩:=h.cons_inv
  simp [h.length]
theorem VTs.append:∀ {ds es:List (TV E)} {vs us:List Value},VTs E w G ds vs→VTs E w G es us→VTs E w G (ds++es) (vs++us)
 | [],es,vs,us,h,h'=>by simp only [VTs] at h;subst h;exact h'
 | d::ds,es,vs,us,h,h'=>by
  obtain⟨u,us',rfl,h1,h2⟩:=h.cons_inv
  exact .cons h1 (h2.append h')
theorem VTs.get:∀ {ds:List (TV E)} {vs:List Value} (j:Nat) {d:TV E},VTs E w G ds vs→ds[j]? = some d→∃u,vs[j]? = some u∧VT E w G d u
 | [],_,_,_,_,h=>by simp at h
 | d::ds,vs,0,d',h,hj=>by
  obtain⟨u,us,rfl,h1,-⟩:=h.cons_inv
  simp at hj;subst hj
  exact⟨u,rfl,h1⟩
 | d::ds,vs,j+1,d',h,hj=>by
  obtain⟨u,us,rfl,-,h2⟩:=h.cons_inv
  exact VTs.get j h2 (by simpa using hj)
theorem VTs.drop:∀(n:Nat) {ds:List (TV E)} {vs:List Value},VTs E w G ds vs→VTs E w G (ds.drop n) (vs.drop n)
 | 0,_,_,h=>h
 | n+1,[],_,h=>by simp only [VTs] at h;subst h;exact VTs.nil
 | n+1,d::ds,vs,h=>by
  obtain⟨u,us,rfl,-,h2⟩:=h.cons_inv
  exact VTs.drop n h2
theorem VTs.take:∀(n:Nat) {ds:List (TV E)} {vs:List Value},VTs E w G ds vs→VTs E w G (ds.take n) (vs.take n)
 | 0,_,_,h=>VTs.nil
 | n+1,[],_,h=>by simp only [VTs] at h;subst h;exact VTs.nil
 | n+1,d::ds,vs,h=>by
  obtain⟨u,us,rfl,h1,h2⟩:=h.cons_inv
  exact .cons h1 (VTs.take n h2)
theorem VT.atom {t:Ty} {x:t.den E.D} {v:Value} (ha:t.isAgg=false) (h:VT E w G (.dat t x) v):LD w G.pr [v] (t.cells E x):=by
 simp only [VT,ha] at h
 exact h
theorem VT.of_atom {t:Ty} {x:t.den E.D} {v:Value} (ha:t.isAgg=false) (h:LD w G.pr [v] (t.cells E x)):VT E w G (.dat t x) v:=by
 simp only [VT,ha]
 exact h
theorem VT.aggr {t:Ty} {x:t.den E.D} {v:Value} (ha:t.isAgg=true) (h:VT E w G (.dat t x) v):∃vs:Array Value,v=.agg vs∧LD w G.pr vs.toList (t.cells E x):=by
 simp only [VT,ha] at h
 exact h
theorem rebP_sound {f:(i:Nat)→List (TV E)→Option (E.D i × List (TV E))}
  (hf:∀i cs x r vs,VTs E w G cs vs→f i cs=some (x,r)→∃us ts,vs=us++ts∧LD w G.pr us (E.enc i x)∧VTs E w G r ts) :
  ∀(t:Ty) {cs:List (TV E)} {x:t.den E.D} {r:List (TV E)} {vs:List Value},VTs E w G cs vs→rebP E f t cs=some (x,r) →
   ∃us ts,vs=us++ts∧LD w G.pr us (t.cells E x)∧VTs E w G r ts:=by
 have atom:∀(t:Ty) (ha:t.isAgg=false) {cs:List (TV E)} {x:t.den E.D} {r:List (TV E)} {vs:List Value},VTs E w G cs vs →
   (match cs with | c::r=>(c.get t).bind fun x=>some (x,r) | []=>none)=some (x,r)→∃us ts,vs=us++ts∧LD w G.pr us (t.cells E x)∧VTs E w G r ts:=by
  intro t ha cs x r vs hv h
  cases cs with
  | nil=>cases h
  | cons c cs =>
   obtain⟨u,us,rfl,h1,h2⟩:=hv.cons_inv
   dsimp only at h
   cases hc:c.get t with
   | none=>rw [hc] at h;cases h
   | some y =>
    rw [hc] at h
    cases h
    exact⟨[u],us,rfl,(TV.get_vt hc h1).atom ha,h2⟩
 intro t
 induction t with
 | int k=>intro cs x r vs hv h;exact atom (.int k) rfl hv h
 | bool=>intro cs x r vs hv h;exact atom .bool rfl hv h
 | str=>intro cs x r vs hv h;exact atom .str rfl hv h
 | lst t _=>intro cs x r vs hv h;exact atom (.lst t) rfl hv h
 | unit=>intro cs x r vs hv h;cases h;exact⟨[],vs,rfl,trivial,hv⟩
 | ext i=>intro cs x r vs hv h;exact hf i cs x r vs hv h
 | pair a b iha ihb =>
  intro cs x r vs hv h
  simp only [rebP] at h
  cases h1:rebP E f a cs with
  | none=>rw [h1] at h;cases h
  | some p =>
   obtain⟨y,r1⟩:=p
   rw [h1] at h
   dsimp only [Option.bind] at h
   cases h2:rebP E f b r1 with
   | none=>rw [h2] at h;cases h
   | some q =>
    obtain⟨z,r2⟩:=q
    rw [h2] at h
    dsimp only [Option.bind] at h
    cases h
    obtain⟨us,ts,rfl,hu,ht⟩:=iha hv h1
    obtain⟨us',ts',rfl,hu',ht'⟩:=ihb ht h2
    exact⟨us++us',ts',by simp,hu.append hu',ht'⟩
theorem rebN_sound (hE:E.Ok):∀(n:Nat) (t:Ty) {cs:List (TV E)} {x:t.den E.D} {r:List (TV E)} {vs:List Value},VTs E w G cs vs→rebN E n t cs=some (x,r) →
   ∃us ts,vs=us++ts∧LD w G.pr us (t.cells E x)∧VTs E w G r ts
 | 0,t,_,_,_,_,hv,h=>rebP_sound (fun _ _ _ _ _ _ h=>by cases h) t hv h
 | n+1,t,_,_,_,_,hv,h=>rebP_sound (fun i cs x r vs hv h=>by
   cases h1:rebN E n (E.df i) cs with
   | none=>rw [h1] at h;cases h
   | some p =>
    obtain⟨y,r1⟩:=p
    rw [h1] at h
    cases h
    obtain⟨us,ts,e,h2,h3⟩:=rebN_sound hE n (E.df i) hv h1
    refine⟨us,ts,e,?_,h3⟩
    rw [hE.enc,hE.fold]
    exact h2) t hv h
end
end Go.RT
namespace Go.RT
set_option linter.unusedVariables false
variable {E : TEnv}
def flatP (E:TEnv) (f:(i:Nat)→E.D i→Option (List (TV E))):(t:Ty)→t.den E.D→Option (List (TV E))
 | .unit,_=>some []
 | .pair a b,x=>(flatP E f a x.1).bind fun l=>(flatP E f b x.2).bind fun m=>some (l++m)
 | .ext i,x=>f i x
 | .int k,x=>some [.dat (.int k) x]
 | .bool,x=>some [.dat .bool x]
 | .str,x=>some [.dat .str x]
 | .lst t,x=>some [.dat (.lst t) x]
def flatN (E:TEnv):Nat→(t:Ty)→t.den E.D→Option (List (TV E))
 | 0=>flatP E fun _ _=>none
 | n+1=>flatP E fun i x=>flatN E n (E.df i) (E.unf i x)
def TV.cellsT:TV E→Option (List (TV E))
 | .dat t x=>cond t.isAgg (flatN E 4 t x) (some [.dat t x])
 | .agg cs=>some cs
 | .cel t x off=>some [.cel t x off]
 | .ptr r off=>some [.ptr r off]
 | .optr c r off=>some [.optr c r off]
 | .mref r=>some [.mref r]
 | .yld r=>some [.yld r]
 | .hdr _ _ _=>none
 | .bsl r off n=>some [.bsl r off n]
 | .gsl j ver t xs=>some [.gsl j ver t xs]
 | .sdp _ _ _=>none
 | .gso j ver=>some [.gso j ver]
 | .gsb j ver k lo n=>some [.gsb j ver k lo n]
 | .rptr j ver k i off=>some [.rptr j ver k i off]
 | .aval _ _=>none
 | .tab _ _=>none
 | .func fn caps=>some [.func fn caps]
 | .iface ty d=>some [.iface ty d]
 | .val v=>cond v.oneCell' (some [.val v]) none
 | .any=>none
 | .tuple _=>none
section
variable {w : World} {G : Ghost}
theorem flatP_sound {f:(i:Nat)→E.D i→Option (List (TV E))} (hf:∀i x cs vs,LD w G.pr vs (E.enc i x)→f i x=some cs→VTs E w G cs vs) :
  ∀(t:Ty) (x:t.den E.D) {cs:List (TV E)} {vs:List Value},LD w G.pr vs (t.cells E x)→flatP E f t x=some cs→VTs E w G cs vs:=by
 have atom:∀(t:Ty) (ha:t.isAgg=false) (hl:∀x,(t.cells E x).length=1) (x:t.den E.D) {cs:List (TV E)} {vs:List Value},LD w G.pr vs (t.cells E x)→some [TV.dat t x]=some cs→VTs E w G cs vs:=by
  intro t ha hl x cs vs hv h
  cases h
  have:=hv.length
  rw [hl] at this
  obtain⟨u,rfl⟩:=List.length_eq_one_iff.1 this
  exact .cons (.of_atom ha hv) .nil
 intro t
 induction t with
 | int k=>intro x cs vs hv h;exact atom (.int k) rfl (fun _=>rfl) x hv h
 | bool=>intro x cs vs hv h;exact atom .bool rfl (fun _=>rfl) x hv h
 | str=>intro x cs vs hv h;exact atom .str rfl (fun _=>rfl) x hv h
 | lst t _=>intro x cs vs hv h;exact atom (.lst t) rfl (fun _=>rfl) x hv h
 | unit=>intro x cs vs hv h;cases h;cases vs with | nil=>exact .nil | cons _ _=>exact hv.elim
 | ext i=>intro x cs vs hv h;exact hf i x cs vs hv h
 | pair a b iha ihb =>
  intro x cs vs hv h
  simp only [flatP] at h
  obtain⟨us,ts,rfl,h1,h2⟩:=LD.split (show LD w G.pr vs (a.cells E x.1++b.cells E x.2) from hv)
  cases e1:flatP E f a x.1 with
  | none=>rw [e1] at h;cases h
  | some l =>
   rw [e1] at h
   dsimp only [Option.bind] at h
   cases e2:flatP E f b x.2 with
   | none=>rw [e2] at h;cases h
   | some m =>
    rw [e2] at h
    dsimp only [Option.bind] at h
    cases h
    exact (iha x.1 h1 e1).append (ihb x.2 h2 e2)
theorem flatN_sound (hE:E.Ok):∀(n:Nat) (t:Ty) (x:t.den E.D) {cs:List (TV E)} {vs:List Value},LD w G.pr vs (t.cells E x)→flatN E n t x=some cs→VTs E w G cs vs
 | 0,t,x,_,_,hv,h=>flatP_sound (fun _ _ _ _ _ h=>by cases h) t x hv h
 | n+1,t,x,_,_,hv,h=>flatP_sound (fun i x cs vs hv h=>by
   rw [hE.enc] at hv
   exact flatN_sound hE n (E.df i) (E.unf i x) hv h) t x hv h
theorem cellsT_sound (hE:E.Ok) {d:TV E} {v:Value} {cs:List (TV E)} (hv:VT E w G d v) (h:d.cellsT=some cs) :
  VTs E w G cs v.cells.toList∧∀u,u∈v.cells→u.oneCell'=true:=by
 have one:∀ {d:TV E},VT E w G d v→v.oneCell'=true→v.cells=#[v]→VTs E w G [d] v.cells.toList∧∀u,u∈v.cells→u.oneCell'=true:=by
  intro d hv h1 hc
  rw [hc]
  exact⟨.cons hv .nil,fun u hu=>by simp at hu;subst hu;exact h1⟩
 cases d with
 | any=>cases h
 | tuple ds=>cases h
 | dat t x =>
  simp only [TV.cellsT] at h
  cases ha:t.isAgg<;>rw [ha] at h<;>simp only [cond_true,cond_false] at h
  ·cases h
   have h0:=hv.atom ha
   have h1:=h0.one v (by simp)
   refine one hv h1 ?_
   cases v<;>first | rfl | cases h1
  ·obtain⟨vs,rfl,h0⟩:=hv.aggr ha
   exact⟨flatN_sound hE 4 t x h0 h,fun u hu=>h0.one u (by simpa [Value.cells] using hu)⟩
 | agg ds =>
  cases h
  simp only [VT] at hv
  obtain⟨vs,rfl,h1,h2⟩:=hv
  exact⟨h2,h1⟩
 | cel t x off =>
  cases h
  have hv':=hv
  simp only [VT] at hv'
  obtain⟨b,o,c,rfl,-⟩:=hv'
  exact one hv rfl rfl
 | ptr r off =>
  cases h
  have hv':=hv
  simp only [VT] at hv'
  obtain⟨b,rfl,-⟩:=hv'
  exact one hv rfl rfl
 | optr c r off =>
  cases h
  have hv':=hv
  cases c<;>simp only [VT] at hv'
  ·subst hv';exact one hv rfl rfl
  ·obtain⟨b,rfl,-⟩:=hv'
   exact one hv rfl rfl
 | mref r =>
  cases h
  have hv':=hv
  simp only [VT] at hv'
  obtain⟨b,rfl,-⟩:=hv'
  exact one hv rfl rfl
 | hdr r n cap=>cases h
 | bsl r off n =>
  cases h
  have hv':=hv
  simp only [VT] at hv'
  obtain⟨b,rfl,-⟩:=hv'
  exact one hv rfl rfl
 | yld r =>
  cases h
  have hv':=hv
  simp only [VT] at hv'
  obtain⟨b,rfl,-⟩:=hv'
  exact one hv rfl rfl
 | gsl j ver t xs =>
  cases h
  have hv':=hv
  simp only [VT] at hv'
  have h1:=hv'.1.one
  refine one hv h1 ?_
  cases v<;>first | rfl | cases h1
 | sdp j ver l=>cases h
 | aval t xs=>cases h
 | tab t xs=>cases h
 | gso j ver =>
  cases h
  have hv':=hv
  simp only [VT] at hv'
  obtain⟨x,g,-,-,h1,-⟩:=hv'
  refine one hv h1 ?_
  cases v<;>first | rfl | cases h1
 | gsb j ver k lo n =>
  cases h
  have hv':=hv
  simp only [VT] at hv'
  obtain⟨x,g,-,-,h1,-⟩:=hv'
  refine one hv h1 ?_
  cases v<;>first | rfl | cases h1
 | rptr j ver k i off =>
  cases h
  have hv':=hv
  simp only [VT] at hv'
  obtain⟨x,g,-,-,h1,-⟩:=hv'
  refine one hv h1 ?_
  cases v<;>first | rfl | cases h1
 | func fn caps =>
  cases h
  have hv':=hv
  simp only [VT] at hv'
  obtain⟨vs,rfl,-⟩:=hv'
  exact one hv rfl rfl
 | iface ty d =>
  cases h
  have hv':=hv
  simp only [VT] at hv'
  obtain⟨u,rfl,-⟩:=hv'
  exact one hv rfl rfl
 | val u =>
  simp only [TV.cellsT] at h
  have hv':=hv
  simp only [VT] at hv'
  subst hv'
  cases ho:v.oneCell'<;>rw [ho] at h<;>simp only [cond_true,cond_false] at h
  ·cases h
  ·cases h
   refine one hv ho ?_
   cases v<;>first | rfl | cases ho
def partC (E:TEnv) (ty:Option Ty) (cs:List (TV E)) (agg:Bool) (size off:Nat):Option (TV E) :=
 cond agg
  (cond (Nat.ble (off+size) cs.length)
   (match ty with
    | none=>some (.agg ((cs.drop off).take size))
    | some t=>match rebN E 4 t ((cs.drop off).take size) with
     | some (x,[])=>cond t.isAgg (some (.dat t x)) none
     | _=>some (.agg ((cs.drop off).take size)))
   none)
  cs[off]?
theorem partC_sound (hE:E.Ok) {ty:Option Ty} {cs:List (TV E)} {vs:List Value} {agg:Bool} {size off:Nat} {d:TV E} (hv:VTs E w G cs vs) (h1:∀u,u∈vs→u.oneCell'=true)
  (h:partC E ty cs agg size off=some d):Part E w G vs agg size off d:=by
 unfold partC at h
 unfold Part
 cases agg<;>simp only [cond_true,cond_false] at h ⊢
 ·exact hv.get off h
 ·cases hb:Nat.ble (off+size) cs.length<;>rw [hb] at h<;>simp only [cond_true,cond_false] at h
  ·cases h
  have hle:=Nat.le_of_ble_eq_true hb
  refine⟨by rw [hv.length];exact hle,?_⟩
  have hp:=(hv.drop off).take size
  have hagg:VT E w G (.agg ((cs.drop off).take size)) (.agg ((vs.drop off).take size).toArray):=by
   simp only [VT]
   refine⟨_,rfl,fun u hu=>h1 u ?_,by simpa using hp⟩
   simp only [List.mem_toArray] at hu
   exact List.mem_of_mem_drop (List.mem_of_mem_take hu)
  split at h
  ·cases h;exact hagg
  ·rename_i t
   split at h
   ·rename_i x hx
    cases ha:t.isAgg<;>rw [ha] at h<;>simp only [cond_true,cond_false] at h
    ·cases h
    ·cases h
     obtain⟨us,ts,e,h2,h3⟩:=rebN_sound hE 4 t hp hx
     simp only [VTs] at h3
     subst h3
     rw [e,List.append_nil]
     simp only [VT,ha]
     exact⟨_,rfl,by simpa using h2⟩
   ·cases h;exact hagg
end
end Go.RT
