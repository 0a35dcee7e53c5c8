import Derived.Test.YtkeibjejncpgnaaGreatDoorAl
set_option linter.all false
namespace Go.RT
inductive Ty where
 | int (k:IntKind) | bool | str | aG (t:Ty) | unit | pair (a b:Ty) | ext (i:Nat)
 deriving DecidableEq,Inhabited
@[reducible] def Ty.den (D : Nat → Type) : Ty → Type
 | .int _=>Int
 | .bool=>Bool
 | .str=>List UInt8
 | .aG t=>List (t.den D)
 | .unit=>Unit
 | .pair a b=>a.den D × b.den D
 | .ext i=>D i
inductive DV where
 | int (k:IntKind) (n:Int)
 | bool (b:Bool)
 | str (l:List UInt8)
 | slice (k:Nat) (es:List (List DV))
 deriving Inhabited
structure YD where
 params:Array Tmp
 assign:Code
 body:Code
structure TEnv where
 D:Nat→Type
 df:Nat→Ty
 size:Nat→Nat
 enc:(i:Nat)→D i→List DV
 vm:(i:Nat)→D i→(df i).den D
 fold:(i:Nat)→(df i).den D→D i
 inh:(i:Nat)→D i
 gt:Nat→Option ((t:Ty) × List (t.den D))
 gb:Nat→Option (Array Value→Prop)
 yd:Nat→YD→Prop
 ydn:Nat→Option Nat
 zc:TypeId→Bool
variable (E : TEnv)
def Ty.size:Ty→Nat
 | .int _=>1
 | .bool=>1
 | .str=>1
 | .aG _=>1
 | .unit=>0
 | .pair a b=>a.size+b.size
 | .ext i=>E.size i
def Ty.dflt:(t:Ty)→t.den E.D
 | .int _=>(0:Int)
 | .bool=>false
 | .str=>[]
 | .aG _=>[]
 | .unit=>()
 | .pair a b=>(a.dflt,b.dflt)
 | .ext i=>E.inh i
def Ty.isAgg:Ty→Bool
 | .unit=>true
 | .pair _ _=>true
 | .ext _=>true
 | _=>false
def Ty.cells:(t:Ty)→t.den E.D→List DV
 | .int k,n=>[.int k n]
 | .bool,b=>[.bool b]
 | .str,l=>[.str l]
 | .aG t,xs=>[.slice (t.size E) (xs.map (t.cells))]
 | .unit,_=>[]
 | .pair a b,x=>a.cells x.1++b.cells x.2
 | .ext i,x=>E.enc i x
structure TEnv.Ok:Prop where
 enc:∀i x,E.enc i x=(E.df i).cells E (E.vm i x)
 fold:∀i y,E.vm i (E.fold i y)=y
 size:∀i,E.size i=(E.df i).size E
 len:∀i x,(E.enc i x).length=E.size i
 ydn:∀y Y n,E.yd y Y→E.ydn y=some n→Y.params.size=n
theorem Ty.qN (hE:E.Ok):∀(t:Ty) (x:t.den E.D),(t.cells E x).length=t.size E:=by
 intro t
 induction t with
 | int k=>intro x;rfl
 | bool=>intro x;rfl
 | str=>intro x;rfl
 | aG t _=>intro x;rfl
 | unit=>intro x;rfl
 | pair a b wV wW=>intro x;simp [Ty.cells,Ty.size,wV,wW]
 | ext i=>intro x;exact hE.len i x
def mkStr (l:List UInt8):Value:=.string ⟨⟨l⟩⟩
inductive VD (w:World) (pr:Nat→Nat→Prop):Value→DV→Prop
 | int (k:IntKind) (n:Int):VD w pr (.int k n) (.int k n)
 | bool (b:Bool):VD w pr (.bool b) (.bool b)
 | str (l:List UInt8):VD w pr (mkStr l) (.str l)
 | oN (a:Option Addr) (k:Nat):VD w pr (.slice a 0 0) (.slice k [])
 | slice (b off cap k:Nat) (es:List (List DV)) (c:Nat→Nat→Value) (hc:es.length≤cap)
   (hk:∀j,j<es.length→(es.getD j []).length=k)
   (h0:∀j l,j<es.length→l<k→pr b (off+j * k+l)∧w.cell? ⟨b,off+j * k+l,none⟩=some (c j l))
   (h:∀j l,j<es.length→l<k→VD w pr (c j l) ((es.getD j []).getD l default)) :
   VD w pr (.slice (some ⟨b,off,none⟩) es.length cap) (.slice k es)
theorem VD.mono {w w':World} {pr gK:Nat→Nat→Prop} (hp:∀b o,pr b o→gK b o)
  (hc:∀b o v,pr b o→w.cell? ⟨b,o,none⟩=some v→w'.cell? ⟨b,o,none⟩=some v)
  {v:Value} {d:DV} (h:VD w pr v d):VD w' gK v d:=by
 induction h with
 | int k n=>exact .int k n
 | bool b=>exact .bool b
 | str l=>exact .str l
 | oN a k=>exact .oN a k
 | slice b off cap k es c hcap hk h0 h ih =>
  exact .slice b off cap k es c hcap hk (fun j l hj hl=>⟨hp _ _ (h0 j l hj hl).1,hc _ _ _ (h0 j l hj hl).1 (h0 j l hj hl).2⟩) ih
theorem VD.one {w:World} {pr:Nat→Nat→Prop} {v:Value} {d:DV} (h:VD w pr v d):v.oneCell'=true:=by
 cases h<;>rfl
def LD (w:World) (pr:Nat→Nat→Prop):List Value→List DV→Prop
 | [],[]=>True
 | v::vs,d::ds=>VD w pr v d∧LD w pr vs ds
 | _,_=>False
def Flat (w:World) (pr:Nat→Nat→Prop) (k:Nat) (xs:List Value) (es:List (List DV)):Prop :=
 xs.length=es.length * k∧(∀j,j<es.length→(es.getD j []).length=k) ∧
 ∀j l,j<es.length→l<k→VD w pr (xs.getD (j * k+l) undef) ((es.getD j []).getD l default)
theorem Flat.mono {w w':World} {pr gK:Nat→Nat→Prop} {k:Nat} {xs:List Value} {es:List (List DV)} (h:Flat w pr k xs es) (hp:∀b o,pr b o→gK b o)
  (hc:∀b o v,pr b o→w.cell? ⟨b,o,none⟩=some v→w'.cell? ⟨b,o,none⟩=some v):Flat w' gK k xs es :=
 ⟨h.1,h.2.1,fun j l hj hl=>(h.2.2 j l hj hl).mono hp hc⟩
def rM (w:World) (pr:Nat→Nat→Prop) (b:Nat) (t:Ty) (xs:List (t.den E.D)):Prop :=
 VD w pr (.slice (some ⟨b,0,none⟩) xs.length xs.length) (.slice (t.size E) (xs.map (t.cells E)))
inductive TV where
 | any
 | dat (t:Ty) (x:t.den E.D)
 | lV (t:Ty) (x:t.den E.D) (off:Nat)
 | ptr (r off:Nat)
 | kN (b:Bool) (r off:Nat)
 | eY (r:Nat)
 | pL (r:Nat)
 | cI (r n cap:Nat)
 | vn (r off n:Nat)
 | bn (j ai:Nat) (t:Ty) (xs:List (t.den E.D))
 | MU (j ai:Nat) (l:List Int)
 | cw (j ai:Nat)
 | jz (j ai k lo n:Nat)
 | dK (j ai k i off:Nat)
 | oO (t:Ty) (xs:List (t.den E.D))
 | MV (t:Ty) (xs:List (t.den E.D))
 | func (fn:Fn) (caps:List TV)
 | BF (fn:Fn) (firsts:List TV)
 | iface (ty:TypeId) (v:TV)
 | agg (cs:List TV)
 | tuple (vs:List TV)
 | val (v:Value)
instance:Inhabited (TV E):=⟨.any⟩
inductive cV where
 | cells (ty:TypeId) (cs:List (TV E))
 | iter (s:List UInt8) (pos:Nat)
 | map (kt vt:Ty) (m:List (kt.den E.D × vt.den E.D))
 | loop (y:Nat) (ds:List (TV E))
 | gone
 | MW
 | dm (e:TypeId) (cap:Nat) (t:Ty) (xs:List (t.den E.D)) (d:TV E)
instance:Inhabited (cV E):=⟨.iter [] 0⟩
structure aZ where
 ai:Nat
 e:TypeId
 k:Nat
 deriving DecidableEq,Inhabited
abbrev Cn (E:TEnv):=(t:Ty) × List (t.den E.D)
structure TS where
 t:List (TV E)
 H:List (cV E)
 g:List aZ
 d:List Nat
 df:List (FuncId × List (TV E))
 c:List (Nat × Cn E)
structure au where
 i:List Nat
 g:List (aZ × Value)
 pr:Nat→Nat→Prop
mutual
def VT (w:World) (G:au):TV E→Value→Prop
 | .any,_=>True
 | .dat t x,v=>match t.isAgg with
  | true=>∃vs:Array Value,v=.agg vs∧LD w G.pr vs.toList (t.cells E x)
  | false=>LD w G.pr [v] (t.cells E x)
 | .lV t x off,v=>∃(b o:Nat) (c:List Value),v=.pointer (some ⟨b,o+off,none⟩)∧LD w G.pr c (t.cells E x) ∧
   ∀l u,c[l]? = some u→G.pr b (o+l)∧w.cell? ⟨b,o+l,none⟩=some u
 | .ptr r off,v=>∃b,v=.pointer (some ⟨b,off,none⟩)∧G.i[r]? = some b
 | .kN c r off,v=>match c with
  | true=>∃b,v=.pointer (some ⟨b,off,none⟩)∧G.i[r]? = some b
  | false=>v=.pointer none
 | .eY r,v=>∃b,v=.map (some b)∧G.i[r]? = some b
 | .pL r,v=>∃b,v=.func (.yield b) #[] #[]∧G.i[r]? = some b
 | .cI r n cap,v=>∃b,v=.slice (some ⟨b,0,none⟩) n cap∧G.i[r]? = some b
 | .vn r off n,v=>∃b,v=.slice (some ⟨b,off,none⟩) n n∧G.i[r]? = some b
 | .bn j ai t xs,v=>VD w G.pr v (.slice (t.size E) (xs.map (t.cells E)))∧∃x h,G.g[j]? = some (x,h)∧ai≤x.ai∧(ai=x.ai→v=h)
 | .MU j ai l,v=>∃x h u,G.g[j]? = some (x,h)∧ai≤x.ai∧VD w G.pr u (.slice 1 (l.map fun n=>[.int .u8 n]))∧(ai=x.ai→u=h∧((h=.slice none 0 0∧l=[]∧v=.pointer none)∨∃b cap,h=.slice (some ⟨b,0,none⟩) l.length cap∧v=.pointer (some ⟨b,0,none⟩)))
 | .cw j ai,v=>∃x h,G.g[j]? = some (x,h)∧ai≤x.ai∧v.oneCell'=true∧(ai=x.ai→v=h)
 | .jz j ai k lo n,v=>∃x h,G.g[j]? = some (x,h)∧ai≤x.ai∧v.oneCell'=true∧(ai=x.ai→∃b m cap off cp,h=.slice (some ⟨b,0,none⟩) m cap∧lo+n≤m∧n≤cp∧v=.slice (some ⟨b,off,none⟩) n cp∧(n=0∨off=lo * k))
 | .dK j ai k i off,v=>∃x h,G.g[j]? = some (x,h)∧ai≤x.ai∧v.oneCell'=true∧(ai=x.ai→∃b m cap,h=.slice (some ⟨b,0,none⟩) m cap∧i<m∧v=.pointer (some ⟨b,i * k+off,none⟩))
 | .oO t xs,v=>∃vs:Array Value,v=.agg vs∧(∀u,u∈vs→u.oneCell'=true)∧Flat w G.pr (t.size E) vs.toList (xs.map (t.cells E))
 | .MV t xs,v=>∃b,v=.pointer (some ⟨b,0,none⟩)∧rM E w G.pr b t xs
 | .func fn caps,v=>∃vs:Array Value,v=.func fn #[] vs∧aP w G caps vs.toList
 | .BF fn firsts,v=>∃vs:Array Value,v=.func fn vs #[]∧aP w G firsts vs.toList
 | .iface ty d,v=>∃u,v=.iface ty u∧VT w G d u
 | .agg cs,v=>∃vs:Array Value,v=.agg vs∧(∀u,u∈vs→u.oneCell'=true)∧aP w G cs vs.toList
 | .tuple ds,v=>∃vs:Array Value,v=.tuple vs∧aP w G ds vs.toList
 | .val u,v=>v=u
def aP (w:World) (G:au):List (TV E)→List Value→Prop
 | [],vs=>vs=[]
 | d::ds,vs=>∃u us,vs=u::us∧VT w G d u∧aP w G ds us
end
section
variable {E : TEnv} {w w' : World} {G G' : au}
theorem LD.mono {pr gK:Nat→Nat→Prop} (hp:∀b o,pr b o→gK b o)
  (hc:∀b o v,pr b o→w.cell? ⟨b,o,none⟩=some v→w'.cell? ⟨b,o,none⟩=some v) :
  ∀ {vs:List Value} {ds:List DV},LD w pr vs ds→LD w' gK vs ds
 | [],[],_=>trivial
 | _::_,_::_,h=>⟨h.1.mono hp hc,LD.mono hp hc h.2⟩
 | [],_::_,h=>h.elim
 | _::_,[],h=>h.elim
structure ez (w:World) (G:au) (w':World) (G':au):Prop where
 pr:∀b o,G.pr b o→G'.pr b o
 cells:∀b o v,G.pr b o→w.cell? ⟨b,o,none⟩=some v→w'.cell? ⟨b,o,none⟩=some v
 i:∀(r b:Nat),G.i[r]? = some b→G'.i[r]? = some b
 g:∀(j:Nat) x h,G.g[j]? = some (x,h)→∃x' h',G'.g[j]? = some (x',h')∧x.ai≤x'.ai∧(x.ai=x'.ai→h'=h)
mutual
theorem VT.mono (hg:ez w G w' G'):∀ {d:TV E} {v:Value},VT E w G d v→VT E w' G' d v
 | .any,_,_=>by simp only [VT]
 | .dat t x,v,h=>by
  simp only [VT] at h ⊢;cases ha:t.isAgg<;>rw [ha] at h<;>dsimp only at h ⊢
  rotate_left
  ·obtain⟨vs,rfl,h⟩:=h
   exact⟨vs,rfl,h.mono hg.pr hg.cells⟩
  ·exact h.mono hg.pr hg.cells
 | .lV t x off,v,h=>by
  simp only [VT] at h ⊢;obtain⟨b,o,c,rfl,h1,h2⟩:=h
  exact⟨b,o,c,rfl,h1.mono hg.pr hg.cells,fun l u hl=>⟨hg.pr _ _ (h2 l u hl).1,hg.cells _ _ _ (h2 l u hl).1 (h2 l u hl).2⟩⟩
 | .ptr r off,v,h=>by
  simp only [VT] at h ⊢;obtain⟨b,rfl,h⟩:=h
  exact⟨b,rfl,hg.i r b h⟩
 | .eY r,v,h=>by
  simp only [VT] at h ⊢;obtain⟨b,rfl,h⟩:=h
  exact⟨b,rfl,hg.i r b h⟩
 | .pL r,v,h=>by
  simp only [VT] at h ⊢;obtain⟨b,rfl,h⟩:=h
  exact⟨b,rfl,hg.i r b h⟩
 | .cI r n cap,v,h=>by
  simp only [VT] at h ⊢;obtain⟨b,rfl,h⟩:=h
  exact⟨b,rfl,hg.i r b h⟩
 | .vn r off n,v,h=>by
  simp only [VT] at h ⊢;obtain⟨b,rfl,h⟩:=h
  exact⟨b,rfl,hg.i r b h⟩
 | .kN c r off,v,h=>by
  cases c<;>simp only [VT] at h ⊢
  ·exact h
  ·obtain⟨b,rfl,h⟩:=h
   exact⟨b,rfl,hg.i r b h⟩
 | .bn j ai t xs,v,h=>by
  simp only [VT] at h ⊢;obtain⟨h1,x,g,gv,hle,heq⟩:=h;obtain⟨x',g',hg',hle',heq'⟩:=hg.g j x g gv
  exact⟨h1.mono hg.pr hg.cells,x',g',hg',kj hle hle',fun e=>by
   have e1:ai=x.ai:=NF hle (e▸hle')
   rw [heq e1,heq' (e1.symm.trans e)]⟩
 | .MU j ai l,v,h=>by
  simp only [VT] at h ⊢;obtain⟨x,g,u,gv,hle,uD,heq⟩:=h;obtain⟨x',g',hg',hle',heq'⟩:=hg.g j x g gv;refine⟨x',g',u,hg',kj hle hle',uD.mono hg.pr hg.cells,fun e=>?_⟩;have e1:ai=x.ai:=NF hle (e▸hle');rw [heq' (e1.symm.trans e)]
  exact heq e1
 | .cw j ai,v,h=>by
  simp only [VT] at h ⊢;obtain⟨x,g,gv,hle,h1,heq⟩:=h;obtain⟨x',g',hg',hle',heq'⟩:=hg.g j x g gv
  exact⟨x',g',hg',kj hle hle',h1,fun e=>by
   have e1:ai=x.ai:=NF hle (e▸hle')
   rw [heq e1,heq' (e1.symm.trans e)]⟩
 | .jz j ai k lo n,v,h=>by
  simp only [VT] at h ⊢;obtain⟨x,g,gv,hle,h1,heq⟩:=h;obtain⟨x',g',hg',hle',heq'⟩:=hg.g j x g gv;refine⟨x',g',hg',kj hle hle',h1,fun e=>?_⟩;have e1:ai=x.ai:=NF hle (e▸hle');rw [heq' (e1.symm.trans e)]
  exact heq e1
 | .dK j ai k i off,v,h=>by
  simp only [VT] at h ⊢;obtain⟨x,g,gv,hle,h1,heq⟩:=h;obtain⟨x',g',hg',hle',heq'⟩:=hg.g j x g gv;refine⟨x',g',hg',kj hle hle',h1,fun e=>?_⟩;have e1:ai=x.ai:=NF hle (e▸hle');rw [heq' (e1.symm.trans e)]
  exact heq e1
 | .oO t xs,v,h=>by
  simp only [VT] at h ⊢;obtain⟨vs,rfl,h1,h⟩:=h
  exact⟨vs,rfl,h1,h.mono hg.pr hg.cells⟩
 | .MV t xs,v,h=>by
  simp only [VT] at h ⊢;obtain⟨b,rfl,h⟩:=h
  exact⟨b,rfl,VD.mono hg.pr hg.cells h⟩
 | .func fn caps,v,h=>by
  simp only [VT] at h ⊢;obtain⟨vs,rfl,h⟩:=h
  exact⟨vs,rfl,aP.mono hg h⟩
 | .BF fn firsts,v,h=>by
  simp only [VT] at h ⊢;obtain⟨vs,rfl,h⟩:=h
  exact⟨vs,rfl,aP.mono hg h⟩
 | .iface ty d,v,h=>by
  simp only [VT] at h ⊢;obtain⟨u,rfl,h⟩:=h
  exact⟨u,rfl,VT.mono hg h⟩
 | .agg cs,v,h=>by
  simp only [VT] at h ⊢;obtain⟨vs,rfl,h1,h⟩:=h
  exact⟨vs,rfl,h1,aP.mono hg h⟩
 | .tuple ds,v,h=>by
  simp only [VT] at h ⊢;obtain⟨vs,rfl,h⟩:=h
  exact⟨vs,rfl,aP.mono hg h⟩
 | .val u,v,h=>by simpa only [VT] using h
theorem aP.mono (hg:ez w G w' G'):∀ {ds:List (TV E)} {vs:List Value},aP E w G ds vs→aP E w' G' ds vs
 | [],_,h=>by simpa only [aP] using h
 | d::ds,vs,h=>by
  simp only [aP] at h ⊢;obtain⟨u,us,rfl,h1,h2⟩:=h;exact⟨u,us,rfl,VT.mono hg h1,aP.mono hg h2⟩
end
end
def dA (w:World) (G:au) (kt vt:Ty):List MapEntry→List (kt.den E.D × vt.den E.D)→Prop
 | [],[]=>True
 | e::es,p::ps=>VT E w G (.dat kt p.1) e.key∧VT E w G (.dat vt p.2) e.val∧dA w G kt vt es ps
 | _,_=>False
def gq (w:World) (G:au) (b:Nat):cV E→Prop
 | .cells ty cs=>∃vs:Array Value,w.heap[b]? = some (.cells vs ty (0,0))∧(∀u,u∈vs→u.oneCell'=true)∧aP E w G cs vs.toList
 | .iter s pos=>w.heap[b]? = some (.stringIter ⟨⟨s⟩⟩ pos)
 | .map kt vt m=>∃(es:Array MapEntry) (clock:Nat),w.heap[b]? = some (.map es clock)∧MapKept.Stamped es clock∧dA E w G kt vt es.toList m
 | .loop y ds=>∃(Y:YD) (fn:FuncId) (tmps:Array Value) (D:Nat),E.yd y Y∧w.heap[b]? = some (.loop ⟨.ready,none,fn,tmps,Y.params,Y.assign,Y.body,D⟩)∧aP E w G ds tmps.toList
 | .gone=>∃o,w.heap[b]? = some o∧∀cs t m,o≠.cells cs t m
 | .MW=>w.heap[b]? = some (.deferred (some []))
 | .dm e cap t xs d=>∃cur:Array Value,w.heap[b]? = some (.cells cur e (0,0))∧cur.size=cap∧(∀(i:Nat) x,xs[i]? = some x→VT E w G (.dat t x) (cur.getD i undef))∧VT E w G d (cur.getD xs.length undef)∧xs.length<cap
def tv (w:World) (G:au) (x:aZ) (h:Value):Prop :=
 ∃n xs,w.ownsRow 0 x.e x.k h n xs∧(∀a m,h=.slice (some a) m 0→E.zc x.e=true)∧∀b,h.ownBlock=some b→b<w.heap.size∧b∉G.i∧∀o,n * x.k≤o→¬ G.pr b o
def au.rows (G:au) (b:Nat):Prop:=∃x h,(x,h)∈G.g∧h.ownBlock=some b
def au.zN (G:au) (b:Nat):Prop:=b∈G.i∨G.rows b
structure gU (w0:World) (G0:au) (w:World) (G:au):Prop where
 os:w.os=w0.os
 tape:w.tape=w0.tape
 output:w.output=w0.output
 size:w0.heap.size≤w.heap.size
 old:∀b,b<w0.heap.size→¬ G0.zN b→w.heap[b]? = w0.heap[b]?
 goes:ez w0 G0 w G
 jJ:∀b o,b<w0.heap.size→G.pr b o→G0.pr b o∨G0.rows b
 lH:∀(r b:Nat),G0.i.length≤r→G.i[r]? = some b→w0.heap.size≤b
 cY:∀(j:Nat) x h b,G.g[j]? = some (x,h)→h.ownBlock=some b→w0.heap.size≤b∨∃x0 h0,G0.g[j]? = some (x0,h0)∧h0.ownBlock=some b
structure iq (w:World) (G:au) (H:List (cV E)) (gs:List aZ):Prop where
 len:G.i.length=H.length
 gs:G.g.map (·.1)=gs
 box:∀(r b:Nat) (x:cV E),G.i[r]? = some b→H[r]? = some x→gq E w G b x
 lt:∀b,b∈G.i→b<w.heap.size
 nodup:G.i.Nodup
 dH:∀b o,G.pr b o→b<w.heap.size∧b∉G.i
 grow:∀(j:Nat) x h,G.g[j]? = some (x,h)→tv E w G x h
 apart:∀(j j':Nat) x h x' h' b,G.g[j]? = some (x,h)→G.g[j']? = some (x',h')→h.ownBlock=some b→h'.ownBlock=some b→j=j'
 sU:∀b c,E.gt b=some c→rM E w G.pr b c.1 c.2
def kK (w:World) (G:au):Prop:=∀b p,E.gb b=some p→(∃cs t m,w.heap[b]? = some (.cells cs t m)∧p cs)∧¬ G.zN b
def sV:FuncId:=2000000
def DOk (w:World) (G:au) (d:Deferred) (x:FuncId × List (TV E)):Prop :=
 (Nat.beq x.1 sV=false∧∃cap,d.target=.fn (.func x.1) cap∧aP E w G x.2 (d.args++cap).toList)∨(x.1=sV∧∃b,d={ target:=.collected b,args:=#[] }∧aP E w G x.2 [.func (.yield b) #[] #[]])
def gj (w:World) (G:au):List Deferred→List (FuncId × List (TV E))→Prop
 | [],[]=>True
 | d::ds,x::xs=>DOk E w G d x∧gj w G ds xs
 | _,_=>False
def lW (w:World) (G:au) (x:aZ) (h:Value) (c:Cn E):Prop :=
 x.k=c.1.size E∧0<x.k∧(∃vals,w.ownsRow 0 x.e x.k h c.2.length vals∧Flat w G.pr x.k vals (c.2.map (c.1.cells E)))∧∀b,h.ownBlock=some b→∀o,¬ G.pr b o
def gD (w:World) (G:au) (cs:List (Nat × Cn E)):Prop:=∀j c,(j,c)∈cs→∃x h,G.g[j]? = some (x,h)∧lW E w G x h c
structure Rel (w0:World) (G0:au) (st:TS E) (a:Act) (w:World) (G:au):Prop where
 cK:gU w0 G0 w G
 size:a.tmps.size=st.t.length
 tmps:∀(j:Nat) d,st.t[j]? = some d→VT E w G d (a.tmps.getD j undef)
 defers:gj E w G a.defers st.df
 boxes:iq E w G st.H st.g
 fix:∀(r b:Nat),G0.i[r]? = some b→r∉st.d→w.heap[b]? = w0.heap[b]?
 pins:kK E w0 G0
 dI:gD E w G st.c
inductive Ex where
 | normal | exit (id:Nat) | goto (l:Nat) | ret | panic (d:TV E)
def akM (w:World) (G:au):Exit→Ex E→Prop
 | .normal,.normal=>True
 | .exit i,.exit j=>i=j
 | .goto i,.goto j=>i=j
 | .ret,.ret=>True
 | .panic ch,.panic d=>∃v,ch=[{ v:=v,recovered:=false }]∧VT E w G d v
 | _,_=>False
def bD (w0:World) (G0:au) (Q:Ex E→TS E→Prop):Exit→Act→World→Prop :=
 fun e a w=>∃x st G,akM E w G e x∧Rel E w0 G0 st a w G∧Q x st
def Dh (P:Program) (c:Code) (st:TS E) (Q:Ex E→TS E→Prop):Prop :=
 ∀w0 G0 a w G,Rel E w0 G0 st a w G→c.wp P (bD E w0 G0 Q) a w
def adY (P:Program) (ops:Array Oper) (l:List Oper) (st:TS E) (Q:Ex E→TS E→Prop):Prop :=
 ∀w0 G0 a w G,Rel E w0 G0 st a w G→wpList P ops (bD E w0 G0 Q) l a w
end Go.RT
namespace Go.RT
variable {E : TEnv}
section LD
variable {w : World} {pr : Nat → Nat → Prop}
theorem LD.length:∀ {vs:List Value} {ds:List DV},LD w pr vs ds→vs.length=ds.length
 | [],[],_=>rfl
 | _::_,_::_,h=>by simp [LD.length h.2]
 | [],_::_,h=>h.elim
 | _::_,[],h=>h.elim
theorem LD.one:∀ {vs:List Value} {ds:List DV},LD w pr vs ds→∀u,u∈vs→u.oneCell'=true
 | [],[],_,u,hu=>by cases hu
 | v::vs,d::ds,h,u,hu=>by
  rcases fK.1 hu with rfl | hu
  ·exact h.1.one
  ·exact LD.one h.2 u hu
 | [],_::_,h,_,_=>h.elim
 | _::_,[],h,_,_=>h.elim
theorem LD.append:∀ {vs us:List Value} {ds es:List DV},LD w pr vs ds→LD w pr us es→LD w pr (vs++us) (ds++es)
 | [],_,[],_,_,h=>h
 | _::_,_,_::_,_,h,h'=>⟨h.1,LD.append h.2 h'⟩
 | [],_,_::_,_,h,_=>h.elim
 | _::_,_,[],_,h,_=>h.elim
theorem LD.take:∀(n:Nat) {vs:List Value} {ds:List DV},LD w pr vs ds→LD w pr (vs.take n) (ds.take n)
 | 0,_,_,_=>by simp [LD]
 | _+1,[],[],_=>trivial
 | n+1,_::_,_::_,h=>⟨h.1,LD.take n h.2⟩
 | _+1,[],_::_,h=>h.elim
 | _+1,_::_,[],h=>h.elim
theorem LD.drop:∀(n:Nat) {vs:List Value} {ds:List DV},LD w pr vs ds→LD w pr (vs.drop n) (ds.drop n)
 | 0,_,_,h=>h
 | _+1,[],[],_=>trivial
 | n+1,_::_,_::_,h=>LD.drop n h.2
 | _+1,[],_::_,h=>h.elim
 | _+1,_::_,[],h=>h.elim
theorem LD.split:∀ {ds es:List DV} {vs:List Value},LD w pr vs (ds++es)→∃us ts,vs=us++ts∧LD w pr us ds∧LD w pr ts es
 | [],_,vs,h=>⟨[],vs,rfl,trivial,h⟩
 | d::ds,es,v::vs,h=>by
  obtain⟨us,ts,rfl,h1,h2⟩:=LD.split (ds:=ds) h.2
  exact⟨v::us,ts,rfl,⟨h.1,h1⟩,h2⟩
 | _::_,_,[],h=>h.elim
theorem LD.single {v:Value} {d:DV} (h:VD w pr v d):LD w pr [v] [d]:=⟨h,trivial⟩
theorem LD.oh {v:Value} {d:DV} (h:LD w pr [v] [d]):VD w pr v d:=h.1
end LD
section VD
variable {w : World} {pr : Nat → Nat → Prop} {v : Value}
theorem VD.dw {k:IntKind} {n:Int} (h:VD w pr v (.int k n)):v=.int k n:=by cases h;rfl
theorem VD.iG {b:Bool} (h:VD w pr v (.bool b)):v=.bool b:=by cases h;rfl
theorem VD.ep {l:List UInt8} (h:VD w pr v (.str l)):v=mkStr l:=by cases h;rfl
end VD
section VT
variable {w : World} {G : au} {v : Value}
theorem VT.dw {k:IntKind} {n:Int} (h:VT E w G (.dat (.int k) n) v):v=.int k n:=by
 simp only [VT,Ty.isAgg,Ty.cells] at h;exact h.oh.dw
theorem VT.iG {b:Bool} (h:VT E w G (.dat .bool b) v):v=.bool b:=by
 simp only [VT,Ty.isAgg,Ty.cells] at h;exact h.oh.iG
theorem VT.ep {l:List UInt8} (h:VT E w G (.dat .str l) v):v=mkStr l:=by
 simp only [VT,Ty.isAgg,Ty.cells] at h;exact h.oh.ep
theorem VT.int (w:World) (G:au) (k:IntKind) (n:Int):VT E w G (.dat (.int k) n) (.int k n):=by
 simp only [VT,Ty.isAgg,Ty.cells];exact .single (.int k n)
theorem VT.bool (w:World) (G:au) (b:Bool):VT E w G (.dat .bool b) (.bool b):=by
 simp only [VT,Ty.isAgg,Ty.cells];exact .single (.bool b)
theorem VT.str (w:World) (G:au) (l:List UInt8):VT E w G (.dat .str l) (mkStr l):=by
 simp only [VT,Ty.isAgg,Ty.cells];exact .single (.str l)
end VT
def TV.JM:Value→TV E
 | .int k n=>.dat (.int k) n
 | .bool b=>.dat .bool b
 | .string s=>.dat .str s.data.toList
 | v=>.val v
theorem YH (w:World) (G:au) (v:Value):VT E w G (TV.JM v) v:=by
 cases v<;>first | exact .int _ _ _ _ | exact .bool _ _ _ | exact .str w G _ | (simp only [TV.JM,VT])
def TS.at (st:TS E) (i:Nat):TV E:=st.t.getD i .any
def TS.ev (st:TS E):Operand→TV E
 | .tmp t=>st.at t
 | .const v=>.JM v
 | .global g=>match E.gt g with
  | some c=>.MV c.1 c.2
  | none=>.any
 | .func f=>.func (.func f) []
def br (l:List (TV E)) (dst:Option Nat) (d:TV E):List (TV E) :=
 match dst with
 | some i=>l.set i d
 | none=>l
def JN:List (Nat × Cn E)→Nat→Bool
 | [],_=>false
 | p::cs,j=>Nat.beq p.1 j||JN cs j
theorem Gy:∀ {cs:List (Nat × Cn E)} {j:Nat},JN cs j=false→∀c,(j,c)∉cs
 | [],j,_,c,h=>by cases h
 | p::cs,j,hs,c,h=>by
  simp only [JN,zG] at hs;rcases fK.1 h with h | h
  ·rw [←h,uY] at hs;cases hs.1
  ·exact Gy hs.2 c h
def fL:List (Nat × Cn E)→Nat→Option (Cn E)
 | [],_=>none
 | p::cs,j=>cond (Nat.beq p.1 j) (some p.2) (fL cs j)
theorem NZ:∀ {cs:List (Nat × Cn E)} {j:Nat} {c:Cn E},fL cs j=some c→(j,c)∈cs
 | [],j,c,h=>by cases h
 | p::cs,j,c,h=>by
  simp only [fL] at h;cases hb:Nat.beq p.1 j<;>rw [hb] at h<;>simp only [cond_true,cond_false] at h
  ·exact jS _ (NZ h)
  ·cases h
   have:=bt hb;subst this;simp
def fF (j:Nat):List (Nat × Cn E)→List (Nat × Cn E)
 | []=>[]
 | p::cs=>cond (Nat.beq p.1 j) (fF j cs) (p::fF j cs)
theorem oq {j:Nat}:∀ {cs:List (Nat × Cn E)} {i:Nat} {c:Cn E},(i,c)∈fF j cs→(i,c)∈cs∧i≠j
 | [],i,c,h=>by cases h
 | p::cs,i,c,h=>by
  simp only [fF] at h;cases hb:Nat.beq p.1 j<;>rw [hb] at h<;>simp only [cond_true,cond_false] at h
  ·rcases fK.1 h with h | h
   ·refine⟨by rw [h];simp,fun e=>?_⟩
    rw [←h] at hb;simp only at hb;rw [e,uY] at hb;cases hb
   ·exact⟨jS _ (oq h).1,(oq h).2⟩
  ·exact⟨jS _ (oq h).1,(oq h).2⟩
section Rel
variable {w0 w : World} {G0 G : au} {st : TS E} {a : Act}
theorem Rel.ev (h:Rel E w0 G0 st a w G) (x:Operand):VT E w G (st.ev x) (a.eval x):=by
 cases x with
 | tmp t =>
  simp only [TS.ev,TS.at,List.getD]
  cases ht:st.t[t]? with
  | none=>simp only [Option.getD_none,VT]
  | some d=>exact h.tmps t d ht
 | const v=>exact YH w G v
 | global g =>
  simp only [TS.ev]
  cases hg:E.gt g with
  | none=>simp only [VT]
  | some c =>
   simp only [VT]
   exact⟨g,rfl,h.boxes.sU g c hg⟩
 | func f =>
  simp only [TS.ev,VT];exact⟨#[],rfl,by simp [aP]⟩
theorem BG (a:Act) (dst:Option Nat) (v:Value):(a.put dst v).tmps.size=a.tmps.size:=by cases dst<;>simp [Act.put]
theorem put_defers (a:Act) (dst:Option Nat) (v:Value):(a.put dst v).defers=a.defers:=by cases dst<;>simp [Act.put]
theorem xF (a:Act) (dst:Option Nat) (v:Value) (j:Nat):(a.put dst v).tmps.getD j undef=if dst=some j∧j<a.tmps.size then v else a.tmps.getD j undef:=by
 cases dst with
 | none=>simp [Act.put]
 | some i =>
  simp only [Act.put,nh,uo,adz];by_cases hij:i=j
  ·subst hij
   by_cases hi:i<a.tmps.size<;>simp [hi]
  ·simp [hij]
theorem Rel.put (h:Rel E w0 G0 st a w G) {v:Value} {d:TV E} (hv:VT E w G d v) (dst:Option Nat) :
  Rel E w0 G0 { st with t:=br st.t dst d } (a.put dst v) w G:=by
 refine⟨h.cK,?_,?_,?_,h.boxes,h.fix,h.pins,h.dI⟩
 ·rw [BG,h.size];cases dst<;>simp [br]
 ·intro j d' hj
  rw [xF,h.size]
  cases dst with
  | none =>
   rw [if_neg si]
   exact h.tmps j d' hj
  | some i =>
   simp only [br,NB] at hj;by_cases hij:i=j
   ·subst hij
    by_cases hl:i<st.t.length
    ·rw [if_pos ⟨rfl,hl⟩]
     simp [hl] at hj;subst hj;exact hv
    ·simp [hl] at hj
   ·rw [if_neg (by simp [hij])]
    rw [if_neg hij] at hj;exact h.tmps j d' hj
 ·rw [put_defers];exact h.defers
end Rel
end Go.RT
namespace Go.RT
structure TI where
 kind:TypeDesc
 size:Nat
 bytes:Nat
 zero:Value
def aB (P:Program) (t:TypeId):Option TI :=
 match P.info? t,P.underlying t with
 | some i,some d=>match i.zero with
  | some z=>some ⟨d,i.size,i.bytes,z⟩
  | none=>none
 | _,_=>none
theorem aq {P:Program} {t:TypeId} {x:TI} (h:aB P t=some x) :
  ∃i,P.info? t=some i∧P.underlying t=some x.kind∧i.size=x.size∧i.bytes=x.bytes∧i.zero=some x.zero:=by
 unfold aB at h;split at h
 ·rename_i i d hi hd
  split at h
  ·rename_i z hz
   cases h;exact⟨i,hi,hd,rfl,rfl,hz⟩
  ·cases h
 ·cases h
def TI.isAgg (i:TI):Bool:=match i.kind with | .struct _=>true | .array _ _=>true | _=>false
def cL (w w':World):Prop:=w.heap.size≤w'.heap.size∧∀b,b<w.heap.size→w'.heap[b]? = w.heap[b]?
theorem cL.refl (w:World):cL w w:=⟨bM _,fun _ _=>rfl⟩
theorem cL.cell {w w':World} (h:cL w w') {a:Addr} {v:Value} (hv:w.cell? a=some v):w'.cell? a=some v :=
 (World.cell?_of_block (h.2 a.block (World.block_lt_of_cell? w a hv))).trans hv
theorem ak {P:Program} {t:TypeId} {d:TypeDesc} (h:P.underlying t=some d) (w:World):(underlying t).run P w=.ok d w:=by
 simp [underlying,h]
theorem HW {P:Program} {t:TypeId} {i:TypeInfo} (h:P.info? t=some i) (w:World):(typeInfo t).run P w=.ok i w:=by
 simp [typeInfo,h]
theorem bQ {P:Program} {t:TypeId} {i:TypeInfo} (h:P.info? t=some i) (w:World):(sizeOf t).run P w=.ok i.size w:=by
 simp [sizeOf,HW h]
theorem Pt {P:Program} {t:TypeId} {i:TI} (h:aB P t=some i) (w:World):(isAgg t).run P w=.ok i.isAgg w:=by
 obtain⟨x,hx,hu,-⟩:=aq h;unfold isAgg;simp only [Sem.run_bind,ak hu,Result.andThen_ok];unfold TI.isAgg;cases i.kind<;>rfl
theorem ji {P:Program} {t:TypeId} {i:TI} (h:aB P t=some i) (w:World):(zeroValue t).run P w=.ok i.zero w:=by
 obtain⟨x,hx,hu,-,-,hz⟩:=aq h;simp [zeroValue,HW hx,hz]
theorem add_lit (b o n:Nat):(⟨b,o,none⟩:Addr).add n=⟨b,o+n,none⟩:=by
 unfold Addr.add;split<;>simp_all
theorem iQ {P:Program} {w:World} {t:TypeId} {i:TI} (ht:aB P t=some i) (b o:Nat) (n:Nat) (c:Nat→Value)
  (hc:∀l,l<n→w.cell? ⟨b,o+l,none⟩=some (c l)) (off:Nat) (h:cond i.isAgg (off+i.size≤n) (off<n)) (w':World) (hs:cL w w') :
  (Instr.loadAt t (.pointer (some ⟨b,o+off,none⟩))).run P w' =
   .ok (cond i.isAgg (.agg ((List.range i.size).map fun l=>c (off+l)).toArray) (c off)) w':=by
 obtain⟨x,hx,hu,hsz,-⟩:=aq ht;unfold Instr.loadAt Instr.sureAddr loadVar;simp only [Sem.run_bind,Sem.run_pure,Result.andThen_ok,Pt ht];cases hag:i.isAgg
 ·simp only [hag,cond_false] at h
  have hcell:=hs.cell (hc off h);simp [hcell]
 ·simp only [hag,cond_true] at h
  simp only [cond_true,if_true,Sem.run_bind,bQ hx,Result.andThen_ok,hsz]
  have:=run_loadCells (P:=P) w' ⟨b,o+off,none⟩ i.size (fun l=>c (off+l)) (fun j hj=>by
   rw [add_lit];have:=hs.cell (hc (off+j) om);rw [←Br] at this;exact this)
  rw [this];simp
theorem YI (a b:List UInt8):mkStr (a++b)=.string (ByteArray.mk ⟨a⟩++ByteArray.mk ⟨b⟩):=by
 unfold mkStr;congr 1
variable {E : TEnv}
def rq {R:Type} (b:Bool) (k:Option R):Option R:=cond b k none
theorem b9 {R:Type} {b:Bool} {k:Option R} {r:R} (h:rq b k=some r):b=true∧k=some r:=by
 cases b
 ·cases h
 ·exact⟨rfl,h⟩
def nD (a:Int) (f:Int→Int):Int:=match a with
 | .ofNat n=>f (.ofNat n)
 | .negSucc n=>f (.negSucc n)
theorem jr (a:Int) (f:Int→Int):nD a f=f a:=by cases a<;>rfl
def adZ (k:IntKind) (a b:Int):Int:=k.wrap (a * 2 ^ (min b.toNat k.bits))
def ad1 (k:IntKind) (a b:Int):Int:=nD a fun a=>a.fdiv (2 ^ (min b.toNat k.bits))
def nE (k:IntKind) (a b:Int):Int:=nD a fun a=>nD b fun b=>k.wrap (BitVec.ofInt k.bits a &&& BitVec.ofInt k.bits b).toNat
def bOr (k:IntKind) (a b:Int):Int:=nD a fun a=>nD b fun b=>k.wrap (BitVec.ofInt k.bits a ||| BitVec.ofInt k.bits b).toNat
def YJ (k:IntKind) (a b:Int):Int:=nD a fun a=>nD b fun b=>k.wrap (BitVec.ofInt k.bits a ^^^ BitVec.ofInt k.bits b).toNat
def Sz (k:IntKind) (a b:Int):Int:=nD a fun a=>nD b fun b=>k.wrap (BitVec.ofInt k.bits a &&& ~~~ BitVec.ofInt k.bits b).toNat
def ahk (k:IntKind) (n:Int):Int:=nD n fun n=>k.wrap (BitVec.ofInt k.bits (if k.signed then -1 else k.max) ^^^ BitVec.ofInt k.bits n).toNat
theorem ajn (k:IntKind) (a b:Int):ad1 k a b=a.fdiv (2 ^ (min b.toNat k.bits)):=jr _ _
theorem ajo (k:IntKind) (a b:Int):nE k a b=k.wrap (BitVec.ofInt k.bits a &&& BitVec.ofInt k.bits b).toNat:=by unfold nE;rw [jr,jr]
theorem akN (k:IntKind) (a b:Int):bOr k a b=k.wrap (BitVec.ofInt k.bits a ||| BitVec.ofInt k.bits b).toNat:=by unfold bOr;rw [jr,jr]
theorem ajp (k:IntKind) (a b:Int):YJ k a b=k.wrap (BitVec.ofInt k.bits a ^^^ BitVec.ofInt k.bits b).toNat:=by unfold YJ;rw [jr,jr]
theorem ad2 (k:IntKind) (a b:Int):Sz k a b=k.wrap (BitVec.ofInt k.bits a &&& ~~~ BitVec.ofInt k.bits b).toNat:=by unfold Sz;rw [jr,jr]
theorem ajq (k:IntKind) (n:Int):ahk k n=k.wrap (BitVec.ofInt k.bits (if k.signed then -1 else k.max) ^^^ BitVec.ofInt k.bits n).toNat:=jr _ _
def ahl (op:BinOp) (x y:TV E):Option (Bool × TV E) :=
 match x,y with
 | .dat (.int k) a,.dat (.int k') b =>
  match op with
  | .shl=>some (decide (0≤b),.dat (.int k) (adZ k a b))
  | .shr=>some (decide (0≤b),.dat (.int k) (ad1 k a b))
  | .add=>some (decide (k=k'),.dat (.int k) (k.wrap (a+b)))
  | .sub=>some (decide (k=k'),.dat (.int k) (k.wrap (a - b)))
  | .mul=>some (decide (k=k'),.dat (.int k) (k.wrap (a * b)))
  | .quo=>some (decide (k=k') && !(b==0),.dat (.int k) (k.wrap (a.tdiv b)))
  | .rem=>some (decide (k=k') && !(b==0),.dat (.int k) (a.tmod b))
  | .and=>some (decide (k=k'),.dat (.int k) (nE k a b))
  | .or=>some (decide (k=k'),.dat (.int k) (bOr k a b))
  | .xor=>some (decide (k=k'),.dat (.int k) (YJ k a b))
  | .andNot=>some (decide (k=k'),.dat (.int k) (Sz k a b))
  | .eql=>some (decide (k=k'),.dat .bool (a==b))
  | .neq=>some (decide (k=k'),.dat .bool (a != b))
  | .lss=>some (decide (k=k'),.dat .bool (decide (a<b)))
  | .leq=>some (decide (k=k'),.dat .bool (decide (a≤b)))
  | .gtr=>some (decide (k=k'),.dat .bool (decide (b<a)))
  | .geq=>some (decide (k=k'),.dat .bool (decide (b≤a)))
 | .dat .str a,.dat .str b =>
  match op with
  | .add=>some (decide (a.length+b.length≤9223372036854775807),.dat .str (a++b))
  | .eql=>some (true,.dat .bool (a==b))
  | .neq=>some (true,.dat .bool (!(a==b)))
  | .lss=>some (true,.dat .bool (Op.bytesLess a b))
  | .leq=>some (true,.dat .bool (Op.bytesLess a b||a==b))
  | .gtr=>some (true,.dat .bool (!(Op.bytesLess a b||a==b)))
  | .geq=>some (true,.dat .bool (!(Op.bytesLess a b)))
  | _=>none
 | _,_=>none
theorem ad3 {P:Program} {w:World} {G:au} {op:BinOp} {t:TypeId} {x y:Operand} {u v:Value} {du dv d:TV E} {c:Bool}
  (hu:VT E w G du u) (hv:VT E w G dv v) (h:ahl op du dv=some (c,d)) (HX:c=true) :
  ∃r,VT E w G d r∧∀w',(do eqGuard op t x y u v;binOp op t u v).run P w'=.ok r w':=by
 subst HX;unfold ahl at h;split at h
 ·rename_i k a k' b
  obtain rfl:=hu.dw;obtain rfl:=hv.dw;have hg:∀w',(eqGuard op t x y (.int k a) (.int k' b)).run P w'=.ok () w':=fun w'=>by cases op<;>rfl
  cases op<;>simp only [nh,Bu,aV,decide_eq_true_eq] at h<;>obtain⟨HX,rfl⟩:=h
  case shl=>exact⟨_,.int _ _ _ _,fun w'=>by simp [adZ,hg,binOp,Op.shift,show ¬ b<0 from Int.not_lt.2 HX]⟩
  case shr=>exact⟨_,.int _ _ _ _,fun w'=>by simp [ajn,hg,binOp,Op.shift,show ¬ b<0 from Int.not_lt.2 HX]⟩
  case quo=>obtain⟨rfl,hb⟩:=HX;have hb:b≠0:=by simpa using hb
            exact⟨_,.int _ _ _ _,fun w'=>by simp [hg,binOp,Op.intDiv,hb]⟩
  case rem=>obtain⟨rfl,hb⟩:=HX;have hb:b≠0:=by simpa using hb
            exact⟨_,.int _ _ _ _,fun w'=>by simp [hg,binOp,Op.intDiv,hb]⟩
  all_goals
   subst HX
   first
    | exact⟨_,.int _ _ _ _,fun w'=>by simp only [Sem.run_bind,hg,Result.andThen_ok,binOp,ne_eq,not_true,if_false];rfl⟩
    | exact⟨_,.int _ _ _ _,fun w'=>by simp only [Sem.run_bind,hg,Result.andThen_ok,binOp,ne_eq,not_true,if_false,ajo,akN,ajp,ad2];rfl⟩
    | exact⟨_,.bool _ _ _,fun w'=>by simp [hg,binOp,Op.intCmp]⟩
 ·rename_i a b
  obtain rfl:=hu.ep;obtain rfl:=hv.ep;have hg:∀w',(eqGuard op t x y (mkStr a) (mkStr b)).run P w'=.ok () w':=fun w'=>by cases op<;>rfl
  have hb:∀w',(do eqGuard op t x y (mkStr a) (mkStr b);binOp op t (mkStr a) (mkStr b)).run P w'=(Op.stringOp op ⟨⟨a⟩⟩ ⟨⟨b⟩⟩).run P w':=fun w'=>by
   simp only [Sem.run_bind,hg,Result.andThen_ok];cases op<;>rfl
  simp only [hb];cases op<;>simp only [nh,Bu,reduceCtorEq,decide_eq_true_eq] at h<;>obtain⟨HX,rfl⟩:=h
  case add =>
   refine⟨_,.str _ _ _,fun w'=>?_⟩;rw [YI];have hsz:∀l:List UInt8,(ByteArray.mk ⟨l⟩).size=l.length:=fun l=>rfl
   have:¬ (((⟨⟨a⟩⟩:ByteArray).size+(⟨⟨b⟩⟩:ByteArray).size:Nat):Int)>IntKind.i64.max:=by
    rw [hsz,hsz];have:IntKind.i64.max=9223372036854775807:=by decide
    rw [this];omega
   simp only [Op.stringOp,this,if_false];rfl
  all_goals exact⟨_,.bool _ _ _,fun w'=>by simp [Op.stringOp]⟩
 ·cases h
def Pu:Op→Bool
 | .load _ _=>true
 | _=>false
def Di (o:Oper) (w w':World):Prop:=Pu o.op=true→cL w w'
theorem Di.refl (o:Oper) (w:World):Di o w w:=fun _=>cL.refl w
def fP (P:Program) (a:Act) (w:World) (G:au) (o:Oper) (d:TV E):Prop :=
 ∃v,VT E w G d v∧∀w',Di o w w'→(execOp a.eval o).run P w'=.ok (.value v) w'
section
variable {P : Program} {w0 : World} {G0 : au} {st : TS E} {a : Act} {w : World} {G : au} {o : Oper}
theorem YK (hr:Rel E w0 G0 st a w G) (x:Operand) (ho:o.op=.move x∨o.op=.assign x):fP P a w G o (st.ev x) :=
 ⟨a.eval x,hr.ev x,fun w' _=>by rcases ho with ho | ho<;>simp [execOp,ho]⟩
theorem cy {f:(Operand→Value)→Sem Value} {d:TV E} (he:execOp a.eval o=(do let x ←f a.eval;pure (.value x)))
  (h:∃v,VT E w G d v∧∀w',Di o w w'→(f a.eval).run P w'=.ok v w'):fP P a w G o d:=by
 obtain⟨v,hv,h⟩:=h;exact⟨v,hv,fun w' hs=>by simp [he,h w' hs]⟩
end
end Go.RT
namespace Go.RT
variable {E : TEnv}
def Part (E:TEnv) (w:World) (G:au) (vs:List Value) (agg:Bool) (size off:Nat) (d:TV E):Prop :=
 cond agg (off+size≤vs.length∧VT E w G d (.agg ((vs.drop off).take size).toArray)) (∃u,vs[off]? = some u∧VT E w G d u)
def SA (E:TEnv) (f:(i:Nat)→E.D i→Bool→Nat→Nat→Option (TV E)):(t:Ty)→t.den E.D→Bool→Nat→Nat→Option (TV E)
 | .pair a b,x,agg,size,off=>cond (Nat.blt off (a.size E))
   (cond (Nat.beq off 0&&Nat.beq size (a.size E)&&(agg==a.isAgg)) (some (.dat a x.1)) (SA E f a x.1 agg size off))
   (SA E f b x.2 agg size (off - a.size E))
 | .ext i,x,agg,size,off=>f i x agg size off
 | _,_,_,_,_=>none
def ahm (E:TEnv):Nat→(t:Ty)→t.den E.D→Bool→Nat→Nat→Option (TV E)
 | 0=>SA E fun _ _ _ _ _=>none
 | n+1=>SA E fun i x=>ahm E n (E.df i) (E.vm i x)
def TV.part (t:Ty) (x:t.den E.D) (agg:Bool) (size off:Nat):Option (TV E) :=
 cond (Nat.beq off 0&&Nat.beq size (t.size E)&&(agg==t.isAgg)) (some (.dat t x)) (ahm E 4 t x agg size off)
section
variable {w : World} {G : au}
theorem Ty.afT {t:Ty} (h:t.isAgg=false):t.size E=1:=by
 cases t<;>first | rfl | cases h
theorem Part.whole (hE:E.Ok) {vs:List Value} {t:Ty} {x:t.den E.D} (h:LD w G.pr vs (t.cells E x)):Part E w G vs t.isAgg (t.size E) 0 (.dat t x):=by
 have hl:=h.length;rw [Ty.qN E hE] at hl;unfold Part;cases ha:t.isAgg
 ·rw [Ty.afT ha] at hl
  obtain⟨u,rfl⟩:=adi.1 hl;refine⟨u,rfl,?_⟩;simp only [VT,ha];exact h
 ·refine⟨om,?_⟩
  simp only [VT,ha];refine⟨_,rfl,?_⟩;rw [←hl];simpa using h
theorem Part.left {us ts:List Value} {agg:Bool} {size off:Nat} {d:TV E} (h:Part E w G us agg size off d):Part E w G (us++ts) agg size off d:=by
 unfold Part at h ⊢;cases agg
 ·obtain⟨u,hu,h⟩:=h
  refine⟨u,?_,h⟩;have:=(bS.1 hu).1;rw [fU this];exact hu
 ·obtain⟨hl,h⟩:=h
  refine⟨bx,?_⟩;rw [aiu om,aiw bx];exact h
theorem Part.right {us ts:List Value} {agg:Bool} {size off n:Nat} {d:TV E} (hn:us.length=n) (ho:n≤off) (h:Part E w G ts agg size (off - n) d):Part E w G (us++ts) agg size off d:=by
 subst hn;unfold Part at h ⊢;cases agg
 ·obtain⟨u,hu,h⟩:=h
  exact⟨u,by rw [lG ho];exact hu,h⟩
 ·obtain⟨hl,h⟩:=h
  refine⟨bx,?_⟩;rw [XA,Ny ho,iV];exact h
theorem Pv (hE:E.Ok) {f:(i:Nat)→E.D i→Bool→Nat→Nat→Option (TV E)}
  (hf:∀i x agg size off d vs,LD w G.pr vs (E.enc i x)→f i x agg size off=some d→Part E w G vs agg size off d) :
  ∀(t:Ty) (x:t.den E.D) {agg:Bool} {size off:Nat} {d:TV E} {vs:List Value},LD w G.pr vs (t.cells E x)→SA E f t x agg size off=some d→Part E w G vs agg size off d:=by
 intro t
 induction t with
 | int k=>intro x _ _ _ _ _ _ h;cases h
 | bool=>intro x _ _ _ _ _ _ h;cases h
 | str=>intro x _ _ _ _ _ _ h;cases h
 | aG t _=>intro x _ _ _ _ _ _ h;cases h
 | unit=>intro x _ _ _ _ _ _ h;cases h
 | ext i=>intro x agg size off d vs hv h;exact hf i x agg size off d vs hv h
 | pair a b wV wW =>
  intro x agg size off d vs hv h;simp only [Ty.cells] at hv;obtain⟨us,ts,rfl,h1,h2⟩:=hv.split;have hl:=h1.length;rw [Ty.qN E hE] at hl;simp only [SA] at h;cases hb:Nat.blt off (a.size E)<;>rw [hb] at h<;>simp only [cond_true,cond_false] at h
  ·have ho:a.size E≤off:=by
    have:¬ off<a.size E:=fun hc=>by rw [←Nat.blt_eq] at hc;rw [hc] at hb;cases hb
    omega
   exact (wW x.2 h2 h).right hl ho
  ·cases hc:(Nat.beq off 0&&Nat.beq size (a.size E)&&(agg==a.isAgg))<;>rw [hc] at h<;>simp only [cond_true,cond_false] at h
   ·exact (wV x.1 h1 h).left
   ·cases h
    simp only [aV,beq_iff_eq] at hc;obtain⟨⟨e1,e2⟩,rfl⟩:=hc;rw [bt e1,bt e2];exact (Part.whole hE h1).left
theorem Pw (hE:E.Ok):∀(n:Nat) (t:Ty) (x:t.den E.D) {agg:Bool} {size off:Nat} {d:TV E} {vs:List Value},
  LD w G.pr vs (t.cells E x)→ahm E n t x agg size off=some d→Part E w G vs agg size off d
 | 0,t,x,_,_,_,_,_,hv,h=>Pv hE (fun _ _ _ _ _ _ _ _ h=>by cases h) t x hv h
 | n+1,t,x,_,_,_,_,_,hv,h=>Pv hE (fun i x agg size off d vs hv h=>by
   rw [hE.enc] at hv;exact Pw hE n (E.df i) (E.vm i x) hv h) t x hv h
theorem AJ (hE:E.Ok) {t:Ty} {x:t.den E.D} {agg:Bool} {size off:Nat} {d:TV E} {vs:List Value}
  (hv:LD w G.pr vs (t.cells E x)) (h:TV.part t x agg size off=some d):Part E w G vs agg size off d:=by
 unfold TV.part at h;cases hc:(Nat.beq off 0&&Nat.beq size (t.size E)&&(agg==t.isAgg))<;>rw [hc] at h<;>simp only [cond_true,cond_false] at h
 ·exact Pw hE 4 t x hv h
 ·cases h
  simp only [aV,beq_iff_eq] at hc;obtain⟨⟨e1,e2⟩,rfl⟩:=hc;rw [bt e1,bt e2];exact Part.whole hE hv
end
end Go.RT
namespace Go.RT
variable {E : TEnv}
def TV.get (t:Ty):TV E→Option (t.den E.D)
 | .dat t' x=>if h:t'=t then some (h▸x) else none
 | .bn _ _ t' xs=>if h:Ty.aG t'=t then some (h▸xs) else none
 | .val (.slice none 0 0)=>match t with
  | .aG _=>some []
  | _=>none
 | _=>none
theorem TV.nF {t:Ty} {d:TV E} {x:t.den E.D} (h:d.get t=some x) {w:World} {G:au} {v:Value} (hv:VT E w G d v):VT E w G (.dat t x) v:=by
 unfold TV.get at h;split at h
 ·rename_i t' y
  split at h
  ·rename_i e
   subst e;cases h;exact hv
  ·cases h
 ·rename_i j ai t' xs
  split at h
  ·rename_i e
   subst e;cases h;simp only [VT] at hv;simp only [VT,Ty.isAgg,Ty.cells];exact .single hv.1
  ·cases h
 ·split at h
  ·cases h
   simp only [VT] at hv;subst hv;simp only [VT,Ty.isAgg,Ty.cells];exact .single (.oN _ _)
  ·cases h
 ·cases h
def JO (E:TEnv) (f:(i:Nat)→List (TV E)→Option (E.D i × List (TV E))):(t:Ty)→List (TV E)→Option (t.den E.D × List (TV E))
 | .unit,cs=>some ((),cs)
 | .pair a b,cs=>(JO E f a cs).bind fun p=>(JO E f b p.2).bind fun q=>some ((p.1,q.1),q.2)
 | .ext i,cs=>f i cs
 | .int k,cs=>match cs with | c::r=>(c.get (.int k)).bind fun x=>some (x,r) | []=>none
 | .bool,cs=>match cs with | c::r=>(c.get .bool).bind fun x=>some (x,r) | []=>none
 | .str,cs=>match cs with | c::r=>(c.get .str).bind fun x=>some (x,r) | []=>none
 | .aG t,cs=>match cs with | c::r=>(c.get (.aG t)).bind fun x=>some (x,r) | []=>none
def JP (E:TEnv):Nat→(t:Ty)→List (TV E)→Option (t.den E.D × List (TV E))
 | 0=>JO E fun _ _=>none
 | n+1=>JO E fun i cs=>(JP E n (E.df i) cs).bind fun p=>some (E.fold i p.1,p.2)
section
variable {w : World} {G : au}
theorem aP.nil:aP E w G [] []:=by simp only [aP]
theorem aP.cons {d:TV E} {ds:List (TV E)} {v:Value} {vs:List Value} (h:VT E w G d v) (h':aP E w G ds vs):aP E w G (d::ds) (v::vs):=by
 simp only [aP];exact⟨v,vs,rfl,h,h'⟩
theorem aP.cons_inv {d:TV E} {ds:List (TV E)} {vs:List Value} (h:aP E w G (d::ds) vs):∃u us,vs=u::us∧VT E w G d u∧aP E w G ds us:=by
 simpa only [aP] using h
theorem aP.length:∀ {ds:List (TV E)} {vs:List Value},aP E w G ds vs→vs.length=ds.length
 | [],_,h=>by simp only [aP] at h;subst h;rfl
 | d::ds,vs,h=>by
  obtain⟨u,us,rfl,-,h⟩:=h.cons_inv;simp [h.length]
theorem aP.append:∀ {ds es:List (TV E)} {vs us:List Value},aP E w G ds vs→aP E w G es us→aP E w G (ds++es) (vs++us)
 | [],es,vs,us,h,h'=>by simp only [aP] at h;subst h;exact h'
 | d::ds,es,vs,us,h,h'=>by
  obtain⟨u,us',rfl,h1,h2⟩:=h.cons_inv;exact .cons h1 (h2.append h')
theorem aP.get:∀ {ds:List (TV E)} {vs:List Value} (j:Nat) {d:TV E},aP E w G ds vs→ds[j]? = some d→∃u,vs[j]? = some u∧VT E w G d u
 | [],_,_,_,_,h=>by simp at h
 | d::ds,vs,0,d',h,hj=>by
  obtain⟨u,us,rfl,h1,-⟩:=h.cons_inv;simp at hj;subst hj
  exact⟨u,rfl,h1⟩
 | d::ds,vs,j+1,d',h,hj=>by
  obtain⟨u,us,rfl,-,h2⟩:=h.cons_inv;exact aP.get j h2 (by simpa using hj)
theorem aP.drop:∀(n:Nat) {ds:List (TV E)} {vs:List Value},aP E w G ds vs→aP E w G (ds.drop n) (vs.drop n)
 | 0,_,_,h=>h
 | n+1,[],_,h=>by simp only [aP] at h;subst h;exact aP.nil
 | n+1,d::ds,vs,h=>by
  obtain⟨u,us,rfl,-,h2⟩:=h.cons_inv;exact aP.drop n h2
theorem aP.take:∀(n:Nat) {ds:List (TV E)} {vs:List Value},aP E w G ds vs→aP E w G (ds.take n) (vs.take n)
 | 0,_,_,h=>aP.nil
 | n+1,[],_,h=>by simp only [aP] at h;subst h;exact aP.nil
 | n+1,d::ds,vs,h=>by
  obtain⟨u,us,rfl,h1,h2⟩:=h.cons_inv;exact .cons h1 (aP.take n h2)
theorem VT.atom {t:Ty} {x:t.den E.D} {v:Value} (ha:t.isAgg=false) (h:VT E w G (.dat t x) v):LD w G.pr [v] (t.cells E x):=by
 simp only [VT,ha] at h;exact h
theorem VT.LB {t:Ty} {x:t.den E.D} {v:Value} (ha:t.isAgg=false) (h:LD w G.pr [v] (t.cells E x)):VT E w G (.dat t x) v:=by
 simp only [VT,ha];exact h
theorem VT.ad4 {t:Ty} {x:t.den E.D} {v:Value} (ha:t.isAgg=true) (h:VT E w G (.dat t x) v):∃vs:Array Value,v=.agg vs∧LD w G.pr vs.toList (t.cells E x):=by
 simp only [VT,ha] at h;exact h
theorem Px {f:(i:Nat)→List (TV E)→Option (E.D i × List (TV E))}
  (hf:∀i cs x r vs,aP E w G cs vs→f i cs=some (x,r)→∃us ts,vs=us++ts∧LD w G.pr us (E.enc i x)∧aP E w G r ts) :
  ∀(t:Ty) {cs:List (TV E)} {x:t.den E.D} {r:List (TV E)} {vs:List Value},aP E w G cs vs→JO E f t cs=some (x,r) →
   ∃us ts,vs=us++ts∧LD w G.pr us (t.cells E x)∧aP E w G r ts:=by
 have atom:∀(t:Ty) (ha:t.isAgg=false) {cs:List (TV E)} {x:t.den E.D} {r:List (TV E)} {vs:List Value},aP E w G cs vs →
   (match cs with | c::r=>(c.get t).bind fun x=>some (x,r) | []=>none)=some (x,r)→∃us ts,vs=us++ts∧LD w G.pr us (t.cells E x)∧aP E w G r ts:=by
  intro t ha cs x r vs hv h
  cases cs with
  | nil=>cases h
  | cons c cs =>
   obtain⟨u,us,rfl,h1,h2⟩:=hv.cons_inv;dsimp only at h
   cases hc:c.get t with
   | none=>rw [hc] at h;cases h
   | some y =>
    rw [hc] at h;cases h;exact⟨[u],us,rfl,(TV.nF hc h1).atom ha,h2⟩
 intro t
 induction t with
 | int k=>intro cs x r vs hv h;exact atom (.int k) rfl hv h
 | bool=>intro cs x r vs hv h;exact atom .bool rfl hv h
 | str=>intro cs x r vs hv h;exact atom .str rfl hv h
 | aG t _=>intro cs x r vs hv h;exact atom (.aG t) rfl hv h
 | unit=>intro cs x r vs hv h;cases h;exact⟨[],vs,rfl,trivial,hv⟩
 | ext i=>intro cs x r vs hv h;exact hf i cs x r vs hv h
 | pair a b wV wW =>
  intro cs x r vs hv h;simp only [JO] at h
  cases h1:JO E f a cs with
  | none=>rw [h1] at h;cases h
  | some p =>
   obtain⟨y,r1⟩:=p;rw [h1] at h;dsimp only [Option.bind] at h
   cases h2:JO E f b r1 with
   | none=>rw [h2] at h;cases h
   | some q =>
    obtain⟨z,r2⟩:=q;rw [h2] at h;dsimp only [Option.bind] at h;cases h;obtain⟨us,ts,rfl,hu,ht⟩:=wV hv h1;obtain⟨us',ts',rfl,hu',ht'⟩:=wW ht h2;exact⟨us++us',ts',si,hu.append hu',ht'⟩
theorem vo (hE:E.Ok):∀(n:Nat) (t:Ty) {cs:List (TV E)} {x:t.den E.D} {r:List (TV E)} {vs:List Value},aP E w G cs vs→JP E n t cs=some (x,r) →
   ∃us ts,vs=us++ts∧LD w G.pr us (t.cells E x)∧aP E w G r ts
 | 0,t,_,_,_,_,hv,h=>Px (fun _ _ _ _ _ _ h=>by cases h) t hv h
 | n+1,t,_,_,_,_,hv,h=>Px (fun i cs x r vs hv h=>by
   cases h1:JP E n (E.df i) cs with
   | none=>rw [h1] at h;cases h
   | some p =>
    obtain⟨y,r1⟩:=p;rw [h1] at h;cases h;obtain⟨us,ts,e,h2,h3⟩:=vo hE n (E.df i) hv h1;refine⟨us,ts,e,?_,h3⟩;rw [hE.enc,hE.fold];exact h2) t hv h
end
end Go.RT
namespace Go.RT
variable {E : TEnv}
def tZ (E:TEnv) (f:(i:Nat)→E.D i→Option (List (TV E))):(t:Ty)→t.den E.D→Option (List (TV E))
 | .unit,_=>some []
 | .pair a b,x=>(tZ E f a x.1).bind fun l=>(tZ E f b x.2).bind fun m=>some (l++m)
 | .ext i,x=>f i x
 | .int k,x=>some [.dat (.int k) x]
 | .bool,x=>some [.dat .bool x]
 | .str,x=>some [.dat .str x]
 | .aG t,x=>some [.dat (.aG t) x]
def Gz (E:TEnv):Nat→(t:Ty)→t.den E.D→Option (List (TV E))
 | 0=>tZ E fun _ _=>none
 | n+1=>tZ E fun i x=>Gz E n (E.df i) (E.vm i x)
def TV.kO:TV E→Option (List (TV E))
 | .dat t x=>cond t.isAgg (Gz E 4 t x) (some [.dat t x])
 | .agg cs=>some cs
 | .lV t x off=>some [.lV t x off]
 | .ptr r off=>some [.ptr r off]
 | .kN c r off=>some [.kN c r off]
 | .eY r=>some [.eY r]
 | .pL r=>some [.pL r]
 | .cI _ _ _=>none
 | .vn r off n=>some [.vn r off n]
 | .bn j ai t xs=>some [.bn j ai t xs]
 | .MU _ _ _=>none
 | .cw j ai=>some [.cw j ai]
 | .jz j ai k lo n=>some [.jz j ai k lo n]
 | .dK j ai k i off=>some [.dK j ai k i off]
 | .oO _ _=>none
 | .MV _ _=>none
 | .func fn caps=>some [.func fn caps]
 | .BF fn fs=>some [.BF fn fs]
 | .iface ty d=>some [.iface ty d]
 | .val v=>cond v.oneCell' (some [.val v]) none
 | .any=>none
 | .tuple _=>none
section
variable {w : World} {G : au}
theorem MX {f:(i:Nat)→E.D i→Option (List (TV E))} (hf:∀i x cs vs,LD w G.pr vs (E.enc i x)→f i x=some cs→aP E w G cs vs) :
  ∀(t:Ty) (x:t.den E.D) {cs:List (TV E)} {vs:List Value},LD w G.pr vs (t.cells E x)→tZ E f t x=some cs→aP E w G cs vs:=by
 have atom:∀(t:Ty) (ha:t.isAgg=false) (hl:∀x,(t.cells E x).length=1) (x:t.den E.D) {cs:List (TV E)} {vs:List Value},LD w G.pr vs (t.cells E x)→some [TV.dat t x]=some cs→aP E w G cs vs:=by
  intro t ha hl x cs vs hv h;cases h;have:=hv.length;rw [hl] at this;obtain⟨u,rfl⟩:=adi.1 this;exact .cons (.LB ha hv) .nil
 intro t
 induction t with
 | int k=>intro x cs vs hv h;exact atom (.int k) rfl (fun _=>rfl) x hv h
 | bool=>intro x cs vs hv h;exact atom .bool rfl (fun _=>rfl) x hv h
 | str=>intro x cs vs hv h;exact atom .str rfl (fun _=>rfl) x hv h
 | aG t _=>intro x cs vs hv h;exact atom (.aG t) rfl (fun _=>rfl) x hv h
 | unit=>intro x cs vs hv h;cases h;cases vs with | nil=>exact .nil | cons _ _=>exact hv.elim
 | ext i=>intro x cs vs hv h;exact hf i x cs vs hv h
 | pair a b wV wW =>
  intro x cs vs hv h;simp only [tZ] at h;obtain⟨us,ts,rfl,h1,h2⟩:=LD.split (show LD w G.pr vs (a.cells E x.1++b.cells E x.2) from hv)
  cases e1:tZ E f a x.1 with
  | none=>rw [e1] at h;cases h
  | some l =>
   rw [e1] at h;dsimp only [Option.bind] at h
   cases e2:tZ E f b x.2 with
   | none=>rw [e2] at h;cases h
   | some m =>
    rw [e2] at h;dsimp only [Option.bind] at h;cases h;exact (wV x.1 h1 e1).append (wW x.2 h2 e2)
theorem yA (hE:E.Ok):∀(n:Nat) (t:Ty) (x:t.den E.D) {cs:List (TV E)} {vs:List Value},LD w G.pr vs (t.cells E x)→Gz E n t x=some cs→aP E w G cs vs
 | 0,t,x,_,_,hv,h=>MX (fun _ _ _ _ _ h=>by cases h) t x hv h
 | n+1,t,x,_,_,hv,h=>MX (fun i x cs vs hv h=>by
   rw [hE.enc] at hv;exact yA hE n (E.df i) (E.vm i x) hv h) t x hv h
theorem qO (hE:E.Ok) {d:TV E} {v:Value} {cs:List (TV E)} (hv:VT E w G d v) (h:d.kO=some cs) :
  aP E w G cs v.cells.toList∧∀u,u∈v.cells→u.oneCell'=true:=by
 have one:∀ {d:TV E},VT E w G d v→v.oneCell'=true→v.cells=#[v]→aP E w G [d] v.cells.toList∧∀u,u∈v.cells→u.oneCell'=true:=by
  intro d hv h1 hc;rw [hc];exact⟨.cons hv .nil,fun u hu=>by simp at hu;subst hu;exact h1⟩
 cases d with
 | any=>cases h
 | tuple ds=>cases h
 | dat t x =>
  simp only [TV.kO] at h;cases ha:t.isAgg<;>rw [ha] at h<;>simp only [cond_true,cond_false] at h
  ·cases h
   have h0:=hv.atom ha;have h1:=h0.one v si;refine one hv h1 ?_;cases v<;>first | rfl | cases h1
  ·obtain⟨vs,rfl,h0⟩:=hv.ad4 ha
   exact⟨yA hE 4 t x h0 h,fun u hu=>h0.one u (by simpa [Value.cells] using hu)⟩
 | agg ds =>
  cases h;simp only [VT] at hv;obtain⟨vs,rfl,h1,h2⟩:=hv
  exact⟨h2,h1⟩
 | lV t x off =>
  cases h;have cx:=hv;simp only [VT] at cx;obtain⟨b,o,c,rfl,-⟩:=cx
  exact one hv rfl rfl
 | ptr r off =>
  cases h;have cx:=hv;simp only [VT] at cx;obtain⟨b,rfl,-⟩:=cx
  exact one hv rfl rfl
 | kN c r off =>
  cases h;have cx:=hv;cases c<;>simp only [VT] at cx
  ·subst cx;exact one hv rfl rfl
  ·obtain⟨b,rfl,-⟩:=cx
   exact one hv rfl rfl
 | eY r =>
  cases h;have cx:=hv;simp only [VT] at cx;obtain⟨b,rfl,-⟩:=cx
  exact one hv rfl rfl
 | cI r n cap=>cases h
 | vn r off n =>
  cases h;have cx:=hv;simp only [VT] at cx;obtain⟨b,rfl,-⟩:=cx
  exact one hv rfl rfl
 | pL r =>
  cases h;have cx:=hv;simp only [VT] at cx;obtain⟨b,rfl,-⟩:=cx
  exact one hv rfl rfl
 | bn j ai t xs =>
  cases h;have cx:=hv;simp only [VT] at cx;have h1:=cx.1.one;refine one hv h1 ?_
  cases v<;>first | rfl | cases h1
 | MU j ai l=>cases h
 | oO t xs=>cases h
 | MV t xs=>cases h
 | cw j ai =>
  cases h;have cx:=hv;simp only [VT] at cx;obtain⟨x,g,-,-,h1,-⟩:=cx;refine one hv h1 ?_
  cases v<;>first | rfl | cases h1
 | jz j ai k lo n =>
  cases h;have cx:=hv;simp only [VT] at cx;obtain⟨x,g,-,-,h1,-⟩:=cx;refine one hv h1 ?_
  cases v<;>first | rfl | cases h1
 | dK j ai k i off =>
  cases h;have cx:=hv;simp only [VT] at cx;obtain⟨x,g,-,-,h1,-⟩:=cx;refine one hv h1 ?_
  cases v<;>first | rfl | cases h1
 | func fn caps =>
  cases h;have cx:=hv;simp only [VT] at cx;obtain⟨vs,rfl,-⟩:=cx
  exact one hv rfl rfl
 | BF fn fs =>
  cases h;have cx:=hv;simp only [VT] at cx;obtain⟨vs,rfl,-⟩:=cx
  exact one hv rfl rfl
 | iface ty d =>
  cases h;have cx:=hv;simp only [VT] at cx;obtain⟨u,rfl,-⟩:=cx
  exact one hv rfl rfl
 | val u =>
  simp only [TV.kO] at h;have cx:=hv;simp only [VT] at cx;subst cx;cases ho:v.oneCell'<;>rw [ho] at h<;>simp only [cond_true,cond_false] at h
  ·cases h
  ·cases h
   refine one hv ho ?_;cases v<;>first | rfl | cases ho
def LC (E:TEnv) (ty:Option Ty) (cs:List (TV E)) (agg:Bool) (size off:Nat):Option (TV E) :=
 cond agg
  (cond (Nat.ble (off+size) cs.length)
   (match ty with
    | none=>some (.agg ((cs.drop off).take size))
    | some t=>match JP E 4 t ((cs.drop off).take size) with
     | some (x,[])=>cond t.isAgg (some (.dat t x)) none
     | _=>some (.agg ((cs.drop off).take size)))
   none)
  cs[off]?
theorem yB (hE:E.Ok) {ty:Option Ty} {cs:List (TV E)} {vs:List Value} {agg:Bool} {size off:Nat} {d:TV E} (hv:aP E w G cs vs) (h1:∀u,u∈vs→u.oneCell'=true)
  (h:LC E ty cs agg size off=some d):Part E w G vs agg size off d:=by
 unfold LC at h;unfold Part;cases agg<;>simp only [cond_true,cond_false] at h ⊢
 ·exact hv.get off h
 ·cases hb:Nat.ble (off+size) cs.length<;>rw [hb] at h<;>simp only [cond_true,cond_false] at h
  ·cases h
  have hle:=ef hb;refine⟨by rw [hv.length];exact hle,?_⟩;have hp:=(hv.drop off).take size
  have SB:VT E w G (.agg ((cs.drop off).take size)) (.agg ((vs.drop off).take size).toArray):=by
   simp only [VT];refine⟨_,rfl,fun u hu=>h1 u ?_,by simpa using hp⟩;simp only [List.mem_toArray] at hu;exact XQ (Sc hu)
  split at h
  ·cases h;exact SB
  ·rename_i t
   split at h
   ·rename_i x hx
    cases ha:t.isAgg<;>rw [ha] at h<;>simp only [cond_true,cond_false] at h
    ·cases h
    ·cases h
     obtain⟨us,ts,e,h2,h3⟩:=vo hE 4 t hp hx;simp only [aP] at h3;subst h3;rw [e,qC];simp only [VT,ha];exact⟨_,rfl,by simpa using h2⟩
   ·cases h;exact SB
end
end Go.RT
namespace Go.RT
variable {E : TEnv}
section
variable {P : Program} {w0 : World} {G0 : au} {st : TS E} {a : Act} {w : World} {G : au} {o : Oper}
theorem getD_eq {vs:List Value} {l:Nat} {u:Value} (h:vs[l]? = some u):vs.getD l undef=u:=by simp [List.getD,h]
theorem nG {t:TypeId} {i:TI} (ht:aB P t=some i) {b o' off:Nat} {vs:List Value} (hc:∀(l:Nat) u,vs[l]? = some u→w.cell? ⟨b,o'+l,none⟩=some u)
  {d:TV E} (hp:Part E w G vs i.isAgg i.size off d):∃v,VT E w G d v∧∀w',cL w w'→(Instr.loadAt t (.pointer (some ⟨b,o'+off,none⟩))).run P w'=.ok v w':=by
 have tw:∀l,l<vs.length→w.cell? ⟨b,o'+l,none⟩=some (vs.getD l undef):=fun l hl=>by
  have:=bK hl;rw [getD_eq this];exact hc l _ this
 unfold Part at hp;cases ha:i.isAgg<;>rw [ha] at hp<;>simp only [cond_true,cond_false] at hp
 ·obtain⟨u,hu,hv⟩:=hp
  refine⟨u,hv,fun w' hs=>?_⟩;have hl:=(bS.1 hu).1;rw [iQ ht b o' vs.length (fun l=>vs.getD l undef) tw off (by rw [ha];exact hl) w' hs,ha];simp only [cond_false,getD_eq hu]
 ·obtain⟨hl,hv⟩:=hp
  refine⟨_,hv,fun w' hs=>?_⟩;rw [iQ ht b o' vs.length (fun l=>vs.getD l undef) tw off (by rw [ha];exact hl) w' hs,ha];simp only [cond_true];congr 3;apply zE
  ·simp;omega
  ·intro n h1 h2
   simp at h1 h2;simp [List.getD,show off+n<vs.length by omega]
theorem SC (hE:E.Ok) (hr:Rel E w0 G0 st a w G) {t:TypeId} {x:Operand} {i:TI} (ho:o.op=.load t x) (ht:aB P t=some i)
  {T:Ty} {y:T.den E.D} {off:Nat} (hd:st.ev x=.lV T y off) {d:TV E} (hp:TV.part T y i.isAgg i.size off=some d):fP P a w G o d:=by
 have hv:=hr.ev x;rw [hd] at hv;simp only [VT] at hv;obtain⟨b,o',c,he,h1,h2⟩:=hv;obtain⟨v,hv,hrun⟩:=nG (P:=P) ht (fun l u hl=>(h2 l u hl).2) (AJ hE h1 hp);refine cy (f:=fun ρ=>Instr.loadAt t (ρ x)) (by simp [execOp,ho]) ⟨v,hv,fun w' hs=>?_⟩;rw [he];exact hrun w' (hs (by rw [ho];rfl))
theorem Rel.box (hr:Rel E w0 G0 st a w G) {r b:Nat} (hb:G.i[r]? = some b) {x:cV E} (hx:st.H[r]? = some x):gq E w G b x:=hr.boxes.box r b x hb hx
theorem SD (hE:E.Ok) (hr:Rel E w0 G0 st a w G) {t:TypeId} {x:Operand} {i:TI} (ho:o.op=.load t x) (ht:aB P t=some i)
  {r off:Nat} (hd:st.ev x=.ptr r off) {t':TypeId} {cs:List (TV E)} (hb:st.H[r]? = some (.cells t' cs)) {ty:Option Ty} {d:TV E}
  (hp:LC E ty cs i.isAgg i.size off=some d):fP P a w G o d:=by
 have hv:=hr.ev x;rw [hd] at hv;simp only [VT] at hv;obtain⟨b,he,hat⟩:=hv;obtain⟨vs,hh,h1,h2⟩:=hr.box hat hb
 obtain⟨v,hv,hrun⟩:=nG (P:=P) (b:=b) (o':=0) ht (fun l u hl=>by
  rw [cell_of_row w b (0+l) vs t' (0,0) hh];simpa using hl) (yB hE h2 (fun u hu=>h1 u (by simpa using hu)) hp)
 refine cy (f:=fun ρ=>Instr.loadAt t (ρ x)) (by simp [execOp,ho]) ⟨v,hv,fun w' hs=>?_⟩;rw [he];have:=hrun w' (hs (by rw [ho];rfl));simpa using this
end
end Go.RT
namespace Go.RT
variable {E : TEnv}
theorem VD.lX {w:World} {pr:Nat→Nat→Prop} {v:Value} {k:Nat} {es:List (List DV)} (h:VD w pr v (.slice k es)) :
  (∃a,v=.slice a 0 0∧es=[])∨∃(b off cap:Nat) (c:Nat→Nat→Value),v=.slice (some ⟨b,off,none⟩) es.length cap∧es.length≤cap ∧
   (∀j,j<es.length→(es.getD j []).length=k) ∧
   (∀j l,j<es.length→l<k→pr b (off+j * k+l)∧w.cell? ⟨b,off+j * k+l,none⟩=some (c j l)) ∧
   (∀j l,j<es.length→l<k→VD w pr (c j l) ((es.getD j []).getD l default)):=by
 cases h with
 | oN a k=>exact .inl ⟨a,rfl,rfl⟩
 | slice b off cap k es c hc hk h0 h=>exact .inr ⟨b,off,cap,c,rfl,hc,hk,h0,h⟩
inductive nH:TV E→(T:Ty)→List (T.den E.D)→Prop
 | dat (T:Ty) (xs:List (T.den E.D)):nH (.dat (.aG T) xs) T xs
 | bn (j ai:Nat) (T:Ty) (xs:List (T.den E.D)):nH (.bn j ai T xs) T xs
theorem nH.vd {w:World} {G:au} {d:TV E} {T:Ty} {xs:List (T.den E.D)} {v:Value} (h:nH d T xs) (hv:VT E w G d v) :
  VD w G.pr v (.slice (T.size E) (xs.map (T.cells E))):=by
 cases h with
 | dat=>exact (hv.atom rfl).oh
 | bn=>simp only [VT] at hv;exact hv.1
theorem VT.list {w:World} {G:au} {T:Ty} {xs:List (T.den E.D)} {v:Value} (h:VD w G.pr v (.slice (T.size E) (xs.map (T.cells E)))):VT E w G (.dat (.aG T) xs) v :=
 .LB rfl (.single h)
theorem LD.LF {w:World} {pr:Nat→Nat→Prop}:∀ {vs:List Value} {ds:List DV},vs.length=ds.length→(∀l,l<ds.length→VD w pr (vs.getD l undef) (ds.getD l default))→LD w pr vs ds
 | [],[],_,_=>trivial
 | v::vs,d::ds,hl,h=>⟨by simpa using h 0 si,LD.LF (by simpa using hl) fun l hl'=>by simpa using h (l+1) (by simpa using hl')⟩
 | [],_::_,hl,_=>by simp at hl
 | _::_,[],hl,_=>by simp at hl
section
variable {P : Program} {w0 : World} {G0 : au} {st : TS E} {a : Act} {w : World} {G : au} {o : Oper}
theorem abq (hr:Rel E w0 G0 st a w G) {t:TypeId} {x ix:Operand} {i:TI} {e:TypeId} {j1 j2:Nat} {z:Value} (ho:o.op=.indexAddr t x ix)
  (ht:aB P t=some ⟨.slice e,j1,j2,z⟩) (hi:aB P e=some i) {T:Ty} {xs:List (T.den E.D)} {kd:IntKind} {n:Int} (hd:nH (st.ev x) T xs)
  (YL:st.ev ix=.dat (.int kd) n) (h0:0≤n) (hn:n<xs.length) (hk:i.size=T.size E):fP P a w G o (.lV T (xs.getD n.toNat (T.dflt E)) 0):=by
 have hv:=hd.vd (hr.ev x);have yZ:=hr.ev ix;rw [YL] at yZ;have Ai:=yZ.dw;have hnl:n.toNat<xs.length:=om;rcases hv.lX with⟨-,-,JQ⟩ | ⟨b,off,cap,c,he,hcap,hkk,hc,h⟩
 ·simp at JQ;subst JQ;simp at hnl
 have HY:(xs.map (T.cells E)).getD n.toNat []=T.cells E (xs.getD n.toNat (T.dflt E)):=by
  simp [List.getD,hnl]
 have hlen:(xs.map (T.cells E)).length=xs.length:=by simp
 rw [hlen] at hcap hkk hc h he;obtain⟨xe,fZ,jA,hsz,-⟩:=aq hi;obtain⟨xt,eA,bw,-⟩:=aq ht;have hkn:=hkk _ hnl;rw [HY] at hkn;refine cy (f:=fun ρ=>Instr.indexAt t (ρ x) (ρ ix)) (by simp [execOp,ho]) ⟨.pointer (some ⟨b,off+n.toNat * T.size E+0,none⟩),?_,fun w' hs=>?_⟩
 ·simp only [VT]
  refine⟨b,off+n.toNat * T.size E,(List.range (T.size E)).map (c n.toNat),rfl,LD.LF (by rw [hkn];simp) (fun l hl=>?_),fun l u hl=>?_⟩
  ·rw [hkn] at hl
   have:=h _ l hnl hl;rw [HY] at this;simpa [List.getD,hl] using this
  ·simp only [kJ,Jo] at hl
   obtain⟨l',hl,rfl⟩:=hl;obtain⟨h1,h2⟩:=bS.1 hl;simp at h1 h2;subst h2;exact hc _ _ hnl h1
 ·rw [he,Ai]
  unfold Instr.indexAt asIntOf;simp only [Sem.run_bind,Sem.run_pure,Result.andThen_ok,ak bw];have h3:(0≤n∧n<((xs.length:Nat):Int)):=⟨h0,hn⟩;simp only [h3,and_self,if_true,Sem.run_bind,bQ fZ,Result.andThen_ok,Sem.run_pure,add_lit,hsz,hk];rfl
theorem Py (hr:Rel E w0 G0 st a w G) {t:TypeId} {x ix:Operand} {j1 j2:Nat} {z:Value} (ho:o.op=.index t x ix)
  (ht:aB P t=some ⟨.string,j1,j2,z⟩) {l:List UInt8} {kd:IntKind} {n:Int} (hd:st.ev x=.dat .str l) (YL:st.ev ix=.dat (.int kd) n) (h0:0≤n) (hn:n<l.length) :
  fP (E:=E) P a w G o (.dat (.int .u8) ((l.getD n.toNat 0).toNat:Int)):=by
 have hv:=hr.ev x;rw [hd] at hv;have yZ:=hr.ev ix;rw [YL] at yZ;obtain⟨xt,eA,bw,-⟩:=aq ht;have hnl:n.toNat<l.length:=om;refine cy (f:=fun ρ=>Instr.index t (ρ x) (ρ ix)) (by simp [execOp,ho]) ⟨_,.int _ _ _ _,fun w' hs=>?_⟩;rw [hv.ep,yZ.dw];unfold Instr.index asIntOf mkStr;simp only [Sem.run_bind,Sem.run_pure,Result.andThen_ok,ak bw,h0,if_true]
 have:(ByteArray.mk ⟨l⟩)[n.toNat]? = some (l.getD n.toNat 0):=by
  have hsz:n.toNat<(ByteArray.mk ⟨l⟩).size:=hnl;rw [getElem?_pos (ByteArray.mk ⟨l⟩) n.toNat hsz];simp [List.getD,bK hnl];rfl
 rw [this];rfl
theorem Pz (hr:Rel E w0 G0 st a w G) {s:TypeId} {x:Operand} {f:Nat} {fs:Array Field} {j1 j2:Nat} {z:Value} {fd:Field} (ho:o.op=.fieldAddr s x f)
  (ht:aB P s=some ⟨.struct fs,j1,j2,z⟩) (hf:fs[f]? = some fd) {i:TI} (hi:aB P fd.type=some i) (hz:i.size≠0) {T:Ty} {y:T.den E.D} {off:Nat} (hd:st.ev x=.lV T y off) :
  fP P a w G o (.lV T y (off+fd.offset)):=by
 have hv:=hr.ev x;rw [hd] at hv;simp only [VT] at hv;obtain⟨b,o',c,he,h0,h1⟩:=hv;obtain⟨xt,eA,bw,-⟩:=aq ht;obtain⟨xf,YM,-,hsf,-⟩:=aq hi;refine cy (f:=fun ρ=>Instr.fieldAt s (ρ x) f) (by simp [execOp,ho]) ⟨.pointer (some ⟨b,o'+(off+fd.offset),none⟩),by simp only [VT];exact⟨b,o',c,rfl,h0,h1⟩,fun w' hs=>?_⟩;rw [he];unfold Instr.fieldAt Instr.sureAddr;simp only [Sem.run_bind,Sem.run_pure,Result.andThen_ok,ak bw,hf];simp [fieldPlace,bQ YM,hsf,hz,add_lit,Br]
theorem PA (hr:Rel E w0 G0 st a w G) {s:TypeId} {x:Operand} {f:Nat} {fs:Array Field} {j1 j2:Nat} {z:Value} {fd:Field} (ho:o.op=.fieldAddr s x f)
  (ht:aB P s=some ⟨.struct fs,j1,j2,z⟩) (hf:fs[f]? = some fd) {i:TI} (hi:aB P fd.type=some i) (hz:i.size≠0) {r off:Nat} (hd:st.ev x=.ptr r off) :
  fP P a w G o (.ptr r (off+fd.offset):TV E):=by
 have hv:=hr.ev x;rw [hd] at hv;simp only [VT] at hv;obtain⟨b,he,hat⟩:=hv;obtain⟨xt,eA,bw,-⟩:=aq ht;obtain⟨xf,YM,-,hsf,-⟩:=aq hi;refine cy (f:=fun ρ=>Instr.fieldAt s (ρ x) f) (by simp [execOp,ho]) ⟨.pointer (some ⟨b,off+fd.offset,none⟩),by simp only [VT];exact⟨b,rfl,hat⟩,fun w' hs=>?_⟩;rw [he];unfold Instr.fieldAt Instr.sureAddr;simp only [Sem.run_bind,Sem.run_pure,Result.andThen_ok,ak bw,hf];simp [fieldPlace,bQ YM,hsf,hz,add_lit]
theorem MY (hr:Rel E w0 G0 st a w G) {s:TypeId} {x:Operand} {f:Nat} {fs:Array Field} {j1 j2:Nat} {z:Value} {fd:Field} {i:TI} (ho:o.op=.field s x f)
  (ht:aB P s=some ⟨.struct fs,j1,j2,z⟩) (hf:fs[f]? = some fd) (hi:aB P fd.type=some i) {vs:Array Value} (he:a.eval x=.agg vs) {d:TV E}
  (hp:Part E w G vs.toList i.isAgg i.size fd.offset d):fP P a w G o d:=by
 obtain⟨xt,eA,bw,-⟩:=aq ht;obtain⟨xf,YM,huf,hsz,-⟩:=aq hi;unfold Part at hp
 have hrun:∃v,VT E w G d v∧∀w',(Instr.field s (.agg vs) f).run P w'=.ok v w':=by
  unfold Instr.field asAgg;simp only [Sem.run_bind,Sem.run_pure,Result.andThen_ok,ak bw,hf,part,Pt hi];cases hag:i.isAgg<;>rw [hag] at hp<;>simp only [cond_true,cond_false] at hp
  ·obtain⟨u,hu,hv⟩:=hp
   refine⟨u,hv,fun w'=>?_⟩;simp at hu;simp [hu]
  ·obtain⟨hl,hv⟩:=hp
   refine⟨_,hv,fun w'=>?_⟩;simp only [if_true,Sem.run_bind,bQ YM,Result.andThen_ok,hsz,Sem.run_pure,Result.ok.injEq,Value.agg.injEq,and_true];simp at hl;apply Array.ext
   ·simp;omega
   ·intro j h2 h3
    simp at h2 h3;simp
 obtain⟨v,hv,hrun⟩:=hrun;refine cy (f:=fun ρ=>Instr.field s (ρ x) f) (by simp [execOp,ho]) ⟨v,hv,fun w' _=>?_⟩;rw [he];exact hrun w'
end
end Go.RT
namespace Go.RT
variable {E : TEnv}
def fz (d:Int):Option (TV E)→Option Int
 | none=>some d
 | some (.dat (.int _) n)=>some n
 | some _=>none
section
variable {P : Program} {w0 : World} {G0 : au} {st : TS E} {a : Act} {w : World} {G : au} {o : Oper}
theorem V0 (l:List UInt8) (x y:Nat):(ByteArray.mk ⟨l⟩).extract x y=ByteArray.mk ⟨(l.take y).drop x⟩:=by
 apply ByteArray.ext;rw [ByteArray.data_extract];apply nj;simp [List.drop_take]
theorem y5 {k:IntKind} {n:Int} {y:Nat} {code:BoundsCode} (h0:0≤n) (h1:n≤y) (w':World):(Instr.sliceBound (.int k n) y code).run P w'=.ok n.toNat w':=by
 unfold Instr.sliceBound asIntOf;simp [h0,h1]
theorem lY {PB:Bool} {len cap:Nat} (hlc:len≤cap) {lo hi:Option Value} {x y:Int}
  (hlo:(lo=none∧x=0)∨∃k,lo=some (.int k x)) (hhi:(hi=none∧y=len)∨∃k,hi=some (.int k y)) (h0:0≤x) (h1:x≤y) (h2:y≤len) (w':World) :
  (Instr.sliceBounds PB len cap lo hi none).run P w'=.ok (x.toNat,y.toNat,cap) w':=by
 unfold Instr.sliceBounds;have hy:∀(k:IntKind) (code:BoundsCode),(Instr.sliceBound (.int k y) cap code).run P w'=.ok y.toNat w':=fun k code=>y5 om om w';have hx:∀(k:IntKind) (code:BoundsCode),(Instr.sliceBound (.int k x) y.toNat code).run P w'=.ok x.toNat w':=fun k code=>y5 h0 om w';rcases hlo with⟨rfl,rfl⟩ | ⟨k,rfl⟩<;>rcases hhi with⟨rfl,rfl⟩ | ⟨k',rfl⟩
 ·simp
 ·simp [hy]
 ·have hx':∀(code:BoundsCode),(Instr.sliceBound (.int k x) len code).run P w'=.ok x.toNat w':=fun code=>by simpa using hx k code
  simp [hx']
 ·simp [hy,hx]
theorem gR (hr:Rel E w0 G0 st a w G) {lo:Option Operand} {d x:Int} (hb:fz d (lo.map st.ev)=some x) :
  (lo.map a.eval=none∧x=d)∨∃k,lo.map a.eval=some (.int k x):=by
 cases lo with
 | none=>simp [fz] at hb;exact .inl ⟨rfl,hb.symm⟩
 | some y =>
  have hv:=hr.ev y;simp only [uW] at hb ⊢;unfold fz at hb;split at hb
  ·rename_i he;cases he
  ·rename_i k n he
   cases hb;rw [gC he] at hv;exact .inr ⟨k,by rw [hv.dw]⟩
  ·cases hb
theorem V1 (hr:Rel E w0 G0 st a w G) {x:Operand} {j:Nat} (ho:o.op=.extract x j) {ds:List (TV E)} (hd:st.ev x=.tuple ds) {d:TV E} (hj:ds[j]? = some d) :
  fP P a w G o d:=by
 have hv:=hr.ev x;rw [hd] at hv;simp only [VT] at hv;obtain⟨vs,he,h⟩:=hv;obtain⟨u,hu,h⟩:=h.get j hj;refine cy (f:=fun ρ=>Instr.extract (ρ x) j) (by simp [execOp,ho]) ⟨u,h,fun w' hs'=>?_⟩;rw [he];simp at hu;simp [Instr.extract,hu]
theorem V2 (hr:Rel E w0 G0 st a w G) {x:Operand} {c:Call} {t:TypeId} {j1 j2:Nat} {z:Value} (ho:o.op=.call c) (hc:c.callee=.builtin .len) (ha:c.args.toList=[x]) (hat:c.argTypes.toList=[t])
  (ht:aB P t=some ⟨.string,j1,j2,z⟩) {l:List UInt8} (hd:st.ev x=.dat .str l):fP (E:=E) P a w G o (.dat (.int .i64) (l.length:Int)):=by
 have hv:=hr.ev x;rw [hd] at hv;obtain⟨xt,eA,bw,-⟩:=aq ht;have mT:c.args=#[x]:=by rw [←gY (xs:=c.args),ha]
 have kP:c.argTypes=#[t]:=by rw [←gY (xs:=c.argTypes),hat]
 refine⟨_,.int _ _ _ _,fun w' hs=>?_⟩;unfold execOp;simp only [ho,resolve,hc,Sem.run_bind,Sem.run_pure,Result.andThen_ok,invoke,builtin,mT,kP,p6,eV,ni];rw [hv.ep];simp only [Builtin.len_,Sem.run_bind,mkStr,XG,XI,ak bw,Result.andThen_ok,Sem.run_pure,goInt];rfl
theorem vp (hr:Rel E w0 G0 st a w G) {x:Operand} {c:Call} {t e:TypeId} {j1 j2:Nat} {z:Value} (ho:o.op=.call c) (hc:c.callee=.builtin .len) (ha:c.args.toList=[x]) (hat:c.argTypes.toList=[t])
  (ht:aB P t=some ⟨.slice e,j1,j2,z⟩) {n:Nat} (hval:∃ad cap,a.eval x=.slice ad n cap):fP (E:=E) P a w G o (.dat (.int .i64) (n:Int)):=by
 obtain⟨xt,eA,bw,-⟩:=aq ht;have mT:c.args=#[x]:=by rw [←gY (xs:=c.args),ha]
 have kP:c.argTypes=#[t]:=by rw [←gY (xs:=c.argTypes),hat]
 obtain⟨ad,cap,he⟩:=hval;refine⟨_,.int _ _ _ _,fun w' hs=>?_⟩;unfold execOp;simp only [ho,resolve,hc,Sem.run_bind,Sem.run_pure,Result.andThen_ok,invoke,builtin,mT,kP,p6,eV,ni];rw [he];simp only [Builtin.len_,Sem.run_bind,XG,XI,ak bw,Result.andThen_ok,Sem.run_pure,goInt]
theorem nH.header {d:TV E} {T:Ty} {xs:List (T.den E.D)} {v:Value} (h:nH d T xs) (hv:VT E w G d v):∃ad cap,v=.slice ad xs.length cap:=by
 rcases (h.vd hv).lX with⟨ad,he,hn⟩ | ⟨b,off,cap,c,he,-⟩
 ·simp at hn;subst hn;exact⟨_,_,he⟩
 ·simp at he;exact⟨_,_,he⟩
theorem PC (hr:Rel E w0 G0 st a w G) {t:TypeId} {x:Operand} {lo hi:Option Operand} {j1 j2:Nat} {z:Value} (ho:o.op=.slice t x lo hi none)
  (ht:aB P t=some ⟨.string,j1,j2,z⟩) {l:List UInt8} (hd:st.ev x=.dat .str l) {p q:Int} (hp:fz 0 (lo.map st.ev)=some p) (hq:fz l.length (hi.map st.ev)=some q)
  (h0:0≤p) (h1:p≤q) (h2:q≤l.length):fP (E:=E) P a w G o (.dat .str ((l.take q.toNat).drop p.toNat)):=by
 have hv:=hr.ev x;rw [hd] at hv;obtain⟨xt,eA,bw,-⟩:=aq ht;refine cy (f:=fun ρ=>Instr.sliceAt t (ρ x) (lo.map ρ) (hi.map ρ) none) (by simp [execOp,ho]) ⟨_,.str _ _ _,fun w' hs=>?_⟩;have nI:=lY (P:=P) (PB:=false) (bM l.length) (gR hr hp) (gR hr hq) h0 h1 h2 w';rw [hv.ep];unfold Instr.sliceAt;simp only [Sem.run_bind,ak bw,Result.andThen_ok];unfold Instr.slice mkStr;have hsz:(ByteArray.mk ⟨l⟩).size=l.length:=rfl;simp only [Sem.run_bind,ak bw,Result.andThen_ok,Option.isSome_none,Bw,if_false,hsz,Sem.run_pure,nI,V0]
theorem N0 (hr:Rel E w0 G0 st a w G) {t e:TypeId} {i:TI} {x:Operand} {lo hi:Option Operand} {j1 j2:Nat} {z:Value} (ho:o.op=.slice t x lo hi none)
  (ht:aB P t=some ⟨.slice e,j1,j2,z⟩) (hi':aB P e=some i) {T:Ty} {xs:List (T.den E.D)} (hd:nH (st.ev x) T xs) {p q:Int}
  (hp:fz 0 (lo.map st.ev)=some p) (hq:fz xs.length (hi.map st.ev)=some q)
  (h0:0≤p) (h1:p≤q) (h2:q≤xs.length) (hk:i.size=T.size E):fP P a w G o (.dat (.aG T) ((xs.take q.toNat).drop p.toNat)):=by
 have hv:=hd.vd (hr.ev x);obtain⟨xt,eA,bw,-⟩:=aq ht;obtain⟨xe,fZ,jA,hsz,-⟩:=aq hi';have hmap:((xs.take q.toNat).drop p.toNat).map (T.cells E)=((xs.map (T.cells E)).take q.toNat).drop p.toNat:=by simp
 have hex:∃(ad:Option Addr) (cap:Nat),a.eval x=.slice ad xs.length cap∧xs.length≤cap ∧
   VT E w G (.dat (.aG T) ((xs.take q.toNat).drop p.toNat)) (.slice (if cap=p.toNat then ad else ad.map (·.add (p.toNat * T.size E))) (q.toNat - p.toNat) (cap - p.toNat)):=by
  have rS:(xs.map (T.cells E)).length=xs.length:=by simp
  generalize HY:xs.map (T.cells E)=es at hv hmap rS;have hlen:((es.take q.toNat).drop p.toNat).length=q.toNat - p.toNat:=by simp;omega
  rcases hv.lX with⟨ad0,he,rfl⟩ | ⟨b,off,cap,c,he,hcap,hkk,hc,h⟩
  ·simp at rS
   have hx0:xs=[]:=oA rS.symm;subst hx0;simp at h2;have hp0:p=0:=om;have hq0:q=0:=om;subst hp0;subst hq0;exact⟨ad0,0,he,bM _,.list (.oN _ _)⟩
  ·rw [rS] at he hcap
   refine⟨_,_,he,hcap,.list ?_⟩;rw [hmap]
   have hgd:∀j,j<q.toNat - p.toNat→((es.take q.toNat).drop p.toNat).getD j []=es.getD (p.toNat+j) []:=by
    intro j hj;simp [List.getD,show p.toNat+j<q.toNat by omega]
   rw [←hlen];by_cases jB:cap=p.toNat
   ·have hz:((es.take q.toNat).drop p.toNat)=[]:=by
     apply oA;rw [hlen];omega
    rw [hz,if_pos jB];exact .slice b off (cap - p.toNat) _ [] c (fT _) (fun j hj=>by simp at hj) (fun j l hj=>by simp at hj) (fun j l hj=>by simp at hj)
   ·rw [if_neg jB]
    simp only [uW,add_lit];refine .slice b (off+p.toNat * T.size E) (cap - p.toNat) _ _ (fun j l=>c (p.toNat+j) l) (by rw [hlen];omega) (fun j hj=>?_) (fun j l hj hl=>?_) (fun j l hj hl=>?_)
    all_goals rw [hlen] at hj
    ·rw [hgd j hj];exact hkk _ om
    ·have:=hc (p.toNat+j) l om hl
     rw [lD,←Br] at this;exact this
    ·rw [hgd j hj];exact h _ _ om hl
 obtain⟨ad,cap,he,hcap,hV⟩:=hex;refine cy (f:=fun ρ=>Instr.sliceAt t (ρ x) (lo.map ρ) (hi.map ρ) none) (by simp [execOp,ho]) ⟨_,hV,fun w' hs=>?_⟩;have nI:=lY (P:=P) (PB:=true) hcap (gR hr hp) (gR hr hq) h0 h1 h2 w';rw [he];unfold Instr.sliceAt;simp only [Sem.run_bind,ak bw,Result.andThen_ok];unfold Instr.slice;simp only [Sem.run_bind,ak bw,Result.andThen_ok,nI,bQ fZ,hsz,hk,Sem.run_pure]
theorem abr {len cap:Nat} {lo:Option Value} {x y m:Int} {k1 k2:IntKind}
  (hlo:(lo=none∧x=0)∨∃k,lo=some (.int k x)) (h0:0≤x) (h1:x≤y) (h2:y≤m) (h3:m≤cap) (w':World) :
  (Instr.sliceBounds true len cap lo (some (.int k1 y)) (some (.int k2 m))).run P w'=.ok (x.toNat,y.toNat,m.toNat) w':=by
 unfold Instr.sliceBounds;have hm:∀(k:IntKind) (code:BoundsCode),(Instr.sliceBound (.int k m) cap code).run P w'=.ok m.toNat w':=fun k code=>y5 om om w';have hy:∀(k:IntKind) (code:BoundsCode),(Instr.sliceBound (.int k y) m.toNat code).run P w'=.ok y.toNat w':=fun k code=>y5 om om w';have hx:∀(k:IntKind) (code:BoundsCode),(Instr.sliceBound (.int k x) y.toNat code).run P w'=.ok x.toNat w':=fun k code=>y5 h0 om w';rcases hlo with⟨rfl,rfl⟩ | ⟨k,rfl⟩
 ·simp [hm,hy]
 ·simp [hm,hy,hx]
theorem YN (hr:Rel E w0 G0 st a w G) {t e:TypeId} {i:TI} {x:Operand} {lo:Option Operand} {hi mx:Operand} {j1 j2:Nat} {z:Value} (ho:o.op=.slice t x lo (some hi) (some mx))
  (ht:aB P t=some ⟨.slice e,j1,j2,z⟩) (hi':aB P e=some i) {T:Ty} {xs:List (T.den E.D)} (hd:nH (st.ev x) T xs) {p q m:Int}
  (hp:fz 0 (lo.map st.ev)=some p) (hq:fz 0 (some (st.ev hi))=some q) (hm:fz 0 (some (st.ev mx))=some m)
  (h0:0≤p) (h1:p≤q) (h2:q≤m) (h3:m≤xs.length) (hk:i.size=T.size E):fP P a w G o (.dat (.aG T) ((xs.take q.toNat).drop p.toNat)):=by
 have hv:=hd.vd (hr.ev x);obtain⟨xt,eA,bw,-⟩:=aq ht;obtain⟨xe,fZ,jA,hsz,-⟩:=aq hi';have hmap:((xs.take q.toNat).drop p.toNat).map (T.cells E)=((xs.map (T.cells E)).take q.toNat).drop p.toNat:=by simp
 have hex:∃(ad:Option Addr) (cap:Nat),a.eval x=.slice ad xs.length cap∧xs.length≤cap ∧
   VT E w G (.dat (.aG T) ((xs.take q.toNat).drop p.toNat)) (.slice (if m.toNat=p.toNat then ad else ad.map (·.add (p.toNat * T.size E))) (q.toNat - p.toNat) (m.toNat - p.toNat)):=by
  have rS:(xs.map (T.cells E)).length=xs.length:=by simp
  generalize HY:xs.map (T.cells E)=es at hv hmap rS;have hlen:((es.take q.toNat).drop p.toNat).length=q.toNat - p.toNat:=by simp;omega
  rcases hv.lX with⟨ad0,he,rfl⟩ | ⟨b,off,cap,c,he,hcap,hkk,hc,h⟩
  ·simp at rS
   have hx0:xs=[]:=oA rS.symm;subst hx0;simp at h3;have hp0:p=0:=om;have hq0:q=0:=om;have hm0:m=0:=om;subst hp0;subst hq0;subst hm0;exact⟨ad0,0,he,bM _,.list (.oN _ _)⟩
  ·rw [rS] at he hcap
   refine⟨_,_,he,hcap,.list ?_⟩;rw [hmap]
   have hgd:∀j,j<q.toNat - p.toNat→((es.take q.toNat).drop p.toNat).getD j []=es.getD (p.toNat+j) []:=by
    intro j hj;simp [List.getD,show p.toNat+j<q.toNat by omega]
   rw [←hlen];by_cases jB:m.toNat=p.toNat
   ·have hz:((es.take q.toNat).drop p.toNat)=[]:=by
     apply oA;rw [hlen];omega
    rw [hz,if_pos jB];exact .slice b off (m.toNat - p.toNat) _ [] c (fT _) (fun j hj=>by simp at hj) (fun j l hj=>by simp at hj) (fun j l hj=>by simp at hj)
   ·rw [if_neg jB]
    simp only [uW,add_lit];refine .slice b (off+p.toNat * T.size E) (m.toNat - p.toNat) _ _ (fun j l=>c (p.toNat+j) l) (by rw [hlen];omega) (fun j hj=>?_) (fun j l hj hl=>?_) (fun j l hj hl=>?_)
    all_goals rw [hlen] at hj
    ·rw [hgd j hj];exact hkk _ om
    ·have:=hc (p.toNat+j) l om hl
     rw [lD,←Br] at this;exact this
    ·rw [hgd j hj];exact h _ _ om hl
 obtain⟨ad,cap,he,hcap,hV⟩:=hex
 have bi:∀(y:Operand) (n:Int),fz 0 (some (st.ev y))=some n→∃k,a.eval y=.int k n:=fun y n hb=>by
  rcases gR hr (lo:=some y) (d:=0) hb with⟨h,-⟩ | ⟨k,h⟩
  ·cases h
  ·exact⟨k,gC h⟩
 obtain⟨k1,hhi⟩:=bi hi q hq;obtain⟨k2,hmx⟩:=bi mx m hm;refine cy (f:=fun ρ=>Instr.sliceAt t (ρ x) (lo.map ρ) (some (ρ hi)) (some (ρ mx))) (by simp [execOp,ho]) ⟨_,hV,fun w' hs=>?_⟩;have nI:=abr (P:=P) (len:=xs.length) (cap:=cap) (k1:=k1) (k2:=k2) (gR hr hp) h0 h1 h2 om w';rw [he,hhi,hmx];unfold Instr.sliceAt;simp only [Sem.run_bind,ak bw,Result.andThen_ok];unfold Instr.slice;simp only [Sem.run_bind,ak bw,Result.andThen_ok,nI,bQ fZ,hsz,hk,Sem.run_pure]
end
end Go.RT
namespace Go.RT
variable {E : TEnv}
def PD (P:Program) (fs:Array Field):List (TV E)→List (Nat × TV E)→Option (List (TV E))
 | cs,[]=>some cs
 | cs,(j,d)::rest=>match fs[j]?,d.kO with
  | some fd,some l=>match aB P fd.type with
   | some i=>cond (Nat.ble (fd.offset+l.length) cs.length&&Nat.beq l.length i.size) (PD P fs (cs.take fd.offset++l++cs.drop (fd.offset+l.length)) rest) none
   | none=>none
  | _,_=>none
theorem U3 (off:Nat):∀(new:List Value) (i:Nat) (cs:Array Value),off+i+new.length≤cs.size →
  ((new.zipIdx i).foldl (fun (cs:Array Value) (p:Value × Nat)=>cs.setIfInBounds (off+p.2) p.1) cs).toList=cs.toList.take (off+i)++new++cs.toList.drop (off+i+new.length)
 | [],i,cs,_=>by simp
 | v::rest,i,cs,h=>by
  simp only [List.zipIdx_cons,NI];rw [U3 off rest (i+1) _ (by simp at h ⊢;omega)];have e:=list_seg_step cs.toList (off+i) v rest (by simp at h ⊢;omega);simpa [aix,Br] using e
theorem U4 {place:Nat→Option (Nat × Nat)} {cells:Array Value} {j off size:Nat} {v:Value} {rest:List (Nat × Value)} (hp:place j=some (off,size))
  (hs:v.cells.size=size) (ho:off+size≤cells.size) :
  Instr.fill place cells ((j,v)::rest)=Instr.fill place (cells.toList.take off++v.cells.toList++cells.toList.drop (off+v.cells.size)).toArray rest:=by
 have hf:=U3 off v.cells.toList 0 cells bx;simp only [lE,mz] at hf;rw [Instr.fill,hp];have hc:¬ ((v.cells.size≠size||off+v.cells.size>cells.size)=true):=by simp;omega
 simp only;rw [if_neg hc];congr 1;apply nj;rw [←hf,←Array.foldl_toList,Array.toList_zipIdx]
section
variable {P : Program} {w0 : World} {G0 : au} {st : TS E} {a : Act} {w : World} {G : au} {o : Oper}
theorem abt (fs:List Field) (h:∀fd,fd∈fs→∃i,aB P fd.type=some i) :
  ∃places:List (Nat × Nat),fs.mapM (fun f=>(P.info? f.type).map fun i=>(f.offset,i.size))=some places ∧
   ∀(j:Nat) fd i,fs[j]? = some fd→aB P fd.type=some i→places[j]? = some (fd.offset,i.size):=by
 induction fs with
 | nil=>exact⟨[],si,fun j fd i hj=>by simp at hj⟩
 | cons f fs ih =>
  obtain⟨places,hp,hq⟩:=ih fun fd hfd=>h fd (by simp [hfd]);obtain⟨i,hi⟩:=h f si;obtain⟨x,hx,-,hs,-⟩:=aq hi;refine⟨(f.offset,i.size)::places,by simp [adA,hx,hp,hs],fun j fd i' hj hi'=>?_⟩
  cases j with
  | zero=>simp at hj;subst hj;rw [hi] at hi';cases hi';rfl
  | succ j=>simp at hj ⊢;exact hq j fd i' hj hi'
theorem PE (hE:E.Ok) (hr:Rel E w0 G0 st a w G) {fs:Array Field} {place:Nat→Option (Nat × Nat)}
  (hpl:∀(j:Nat) fd i,fs[j]? = some fd→aB P fd.type=some i→place j=some (fd.offset,i.size)) :
  ∀(parts:List (Nat × Operand)) (cells:Array Value) (ds:List (TV E)) {ds':List (TV E)},aP E w G ds cells.toList→(∀u,u∈cells.toList→u.oneCell'=true) →
  PD P fs ds (parts.map fun p=>(p.1,st.ev p.2))=some ds' →
  ∃cells':Array Value,Instr.fill place cells (parts.map fun p=>(p.1,a.eval p.2))=some cells'∧aP E w G ds' cells'.toList∧∀u,u∈cells'.toList→u.oneCell'=true
 | [],cells,ds,ds',h,h1,hf=>by cases hf;exact⟨cells,rfl,h,h1⟩
 | (j,x)::rest,cells,ds,ds',h,h1,hf=>by
  simp only [eV,PD] at hf;split at hf<;>try (cases hf;done)
  rename_i fd l hfd hl;split at hf<;>try (cases hf;done)
  rename_i i hi;cases hb:(Nat.ble (fd.offset+l.length) ds.length&&Nat.beq l.length i.size)<;>rw [hb] at hf<;>simp only [cond_true,cond_false] at hf
  ·cases hf
  rw [aV] at hb;have hle:=ef hb.1;have hsz:=bt hb.2;obtain⟨hx,hx1⟩:=qO hE (hr.ev x) hl;have hlen:(a.eval x).cells.size=l.length:=by simpa using hx.length
  have hcl:cells.size=ds.length:=by simpa using h.length
  simp only [eV];rw [U4 (hpl j fd i hfd hi) (by rw [hlen,hsz]) (by rw [←hsz,hcl];exact hle),hlen];refine PE hE hr hpl rest _ _ ?_ ?_ hf
  ·simp only []
   exact ((h.take _).append hx).append (h.drop _)
  ·intro u hu
   simp only [gz] at hu;rcases hu with (hu | hu) | hu
   ·exact h1 u (Sc hu)
   ·exact hx1 u (by simpa using hu)
   ·exact h1 u (XQ hu)
theorem aP.ofValues:∀ {vs:List Value},aP E w G (vs.map TV.JM) vs
 | []=>.nil
 | v::vs=>.cons (YH w G v) aP.ofValues
def PF (E:TEnv) (ty:Option Ty) (cs:List (TV E)):TV E :=
 match ty with
 | none=>.agg cs
 | some t=>match JP E 4 t cs with
  | some (x,[])=>cond t.isAgg (.dat t x) (.agg cs)
  | _=>.agg cs
theorem MZ (hE:E.Ok) {ty:Option Ty} {cs:List (TV E)} {vs:Array Value} (h:aP E w G cs vs.toList) (h1:∀u,u∈vs.toList→u.oneCell'=true):VT E w G (PF E ty cs) (.agg vs):=by
 have SB:VT E w G (.agg cs) (.agg vs):=by
  simp only [VT];exact⟨vs,rfl,fun u hu=>h1 u (by simpa using hu),h⟩
 unfold PF;split
 ·exact SB
 ·rename_i t
  split
  ·rename_i x hx
   cases ha:t.isAgg<;>simp only [cond_true,cond_false]
   ·exact SB
   ·obtain⟨us,ts,e,h2,h3⟩:=vo hE 4 t h hx
    simp only [aP] at h3;subst h3;simp only [VT,ha];refine⟨vs,rfl,?_⟩;rw [e,qC];exact h2
  ·exact SB
theorem abu (hE:E.Ok) (hr:Rel E w0 G0 st a w G) {t:TypeId} {parts:Array (Nat × Operand)} {fs:Array Field} {j1 j2:Nat} {z:Array Value} (ho:o.op=.build t parts)
  (ht:aB P t=some ⟨.struct fs,j1,j2,.agg z⟩) (h2:(z.toList.all (·.oneCell')&&fs.toList.all fun fd=>(aB P fd.type).isSome)=true) {ds:List (TV E)}
  (hf:PD P fs (z.toList.map TV.JM) (parts.toList.map fun p=>(p.1,st.ev p.2))=some ds) (ty:Option Ty):fP P a w G o (PF E ty ds):=by
 rw [aV] at h2;obtain⟨places,hpl,hpq⟩:=abt (P:=P) fs.toList (fun fd hfd=>aiy.1 (nk.1 h2.2 fd hfd));obtain⟨xt,eA,bw,hsz,hby,hz⟩:=aq ht
 obtain⟨cells,hc,hl,hl1⟩:=PE (P:=P) hE hr (fs:=fs) (place:=(places.toArray[·]?)) (fun j fd i hj hi=>by
  have:=hpq j fd i (by simpa using hj) hi;simpa using this) parts.toList z (z.toList.map TV.JM) aP.ofValues (fun u hu=>nk.1 h2.1 u hu) hf
 refine cy (f:=fun ρ=>Instr.build t (parts.map fun (i,x)=>(i,ρ x))) (by simp [execOp,ho]) ⟨.agg cells,MZ hE hl hl1,fun w' hs=>?_⟩;refine run_build w' t _ cells ?_;unfold Program.built;simp only [eA,bw,hz,hpl];rw [show (parts.map fun (i,x)=>(i,a.eval x)).toList=parts.toList.map fun p=>(p.1,a.eval p.2) by simp];exact hc
end
end Go.RT
namespace Go.RT
variable {E : TEnv}
def TV.Fk:TV E→Option ((T:Ty) × List (T.den E.D))
 | .dat (.aG T) xs=>some ⟨T,xs⟩
 | .bn _ _ T xs=>some ⟨T,xs⟩
 | _=>none
theorem TV.Dj {d:TV E} {T:Ty} {xs:List (T.den E.D)} (h:d.Fk=some ⟨T,xs⟩):nH d T xs:=by
 unfold TV.Fk at h;split at h
 ·cases h;exact .dat _ _
 ·cases h;exact .bn _ _ _ _
 ·cases h
def U5 (x:Option (TV E)):Option (Bool × TV E):=match x with
 | some d=>some (true,d)
 | none=>none
def akO (d:TV E) (k:TypeDesc):Option (TV E) :=
 match k,d with
 | .string,.dat .str l=>some (.dat (.int .i64) (l.length:Int))
 | .slice _,.dat (.aG T) xs=>some (.dat (.int .i64) (xs.length:Int))
 | .slice _,.bn _ _ T xs=>some (.dat (.int .i64) (xs.length:Int))
 | .slice _,.val (.slice none 0 0)=>some (.dat (.int .i64) (0:Int))
 | _,_=>none
def cU (n:Int):List UInt8:=(Utf8.encode n).data.toList
def aiL (P:Program) (src dst:TypeId) (d:TV E):Option (TV E) :=
 match d,aB P src,aB P dst with
 | .dat (.int _) n,some _,some ⟨.int kk,_,_,_⟩=>some (.dat (.int kk) (kk.wrap n))
 | .dat .str l,some _,some ⟨.string,_,_,_⟩=>some (.dat .str l)
 | .dat (.int _) n,some _,some ⟨.string,_,_,_⟩=>some (.dat .str (cU n))
 | _,_,_=>none
def LG (P:Program) (ty:TypeId→Option Ty) (st:TS E):Op→Option (Bool × TV E)
 | .move x=>some (true,st.ev x)
 | .assign x=>some (true,st.ev x)
 | .load t x=>match aB P t,st.ev x with
  | some i,.lV T y off=>U5 (TV.part T y i.isAgg i.size off)
  | some i,.ptr r off=>match st.H[r]? with
   | some (.cells _ cs)=>U5 (LC E (ty t) cs i.isAgg i.size off)
   | _=>none
  | _,_=>none
 | .nilCheck x=>match st.ev x with
  | .ptr r off=>some (true,.ptr r off)
  | .lV T y off=>some (true,.lV T y off)
  | .func (.func f) cap=>some (true,.func (.func f) cap)
  | _=>none
 | .binOp op _ x y _=>ahl op (st.ev x) (st.ev y)
 | .unOp op _ x=>match op,st.ev x with
  | .not,.dat .bool b=>some (true,.dat .bool (!b))
  | .neg,.dat (.int k) n=>some (true,.dat (.int k) (k.wrap (0 - n)))
  | .xor,.dat (.int k) n=>some (true,.dat (.int k) (ahk k n))
  | _,_=>none
 | .makeFunc fn first cap=>match first.toList with
  | []=>some (true,.func fn (cap.toList.map st.ev))
  | x::xs=>match cap.toList with
   | []=>some (true,.BF fn ((x::xs).map st.ev))
   | _=>none
 | .fieldAddr s x f=>match aB P s,st.ev x with
  | some ⟨.struct fs,_,_,_⟩,.lV T y off=>match fs[f]? with
   | some fd=>match aB P fd.type with
    | some i=>some (!(Nat.beq i.size 0),.lV T y (off+fd.offset))
    | none=>none
   | none=>none
  | some ⟨.struct fs,_,_,_⟩,.ptr r off=>match fs[f]? with
   | some fd=>match aB P fd.type with
    | some i=>some (!(Nat.beq i.size 0),.ptr r (off+fd.offset))
    | none=>none
   | none=>none
  | _,_=>none
 | .field s x f=>match aB P s,st.ev x with
  | some ⟨.struct fs,_,_,_⟩,.dat T y=>match fs[f]? with
   | some fd=>match aB P fd.type with
    | some i=>match T.isAgg with
     | true=>U5 (TV.part T y i.isAgg i.size fd.offset)
     | false=>none
    | none=>none
   | none=>none
  | some ⟨.struct fs,_,_,_⟩,.agg cs=>match fs[f]? with
   | some fd=>match aB P fd.type with
    | some i=>U5 (LC E (ty fd.type) cs i.isAgg i.size fd.offset)
    | none=>none
   | none=>none
  | _,_=>none
 | .indexAddr t x ix=>match aB P t,(st.ev x).Fk,st.ev ix with
  | some ⟨.slice e,_,_,_⟩,some ⟨T,xs⟩,.dat (.int _) n=>match aB P e with
   | some i=>some (Nat.beq i.size (T.size E)&&(decide (0≤n)&&decide (n<(xs.length:Int))),.lV T (xs.getD (Int.toNat n) (T.dflt E)) 0)
   | none=>none
  | _,_,_=>none
 | .index t x ix=>match aB P t,st.ev x,st.ev ix with
  | some ⟨.string,_,_,_⟩,.dat .str l,.dat (.int _) n=>some (decide (0≤n)&&decide (n<(l.length:Int)),.dat (.int .u8) ((l.getD (Int.toNat n) 0).toNat:Int))
  | _,_,_=>none
 | .extract x j=>match st.ev x with
  | .tuple ds=>U5 ds[j]?
  | _=>none
 | .build t parts=>match aB P t with
  | some ⟨.struct fs,_,_,.agg z⟩=>match PD P fs (z.toList.map TV.JM) (parts.toList.map fun p=>(p.1,st.ev p.2)) with
   | some ds=>some (z.toList.all (·.oneCell')&&fs.toList.all (fun fd=>(aB P fd.type).isSome),PF E (ty t) ds)
   | none=>none
  | _=>none
 | .convert src dst x=>U5 (aiL P src dst (st.ev x))
 | .makeInterface t x=>match aB P t with
  | some ⟨.interface _,_,_,_⟩=>none
  | some _=>some (true,.iface t (st.ev x))
  | none=>none
 | .slice t x lo hi none=>match aB P t,st.ev x with
  | some ⟨.string,_,_,_⟩,.dat .str l=>match fz 0 (lo.map st.ev),fz (l.length:Int) (hi.map st.ev) with
   | some p,some q=>some (decide (0≤p)&&(decide (p≤q)&&decide (q≤(l.length:Int))),.dat .str ((l.take q.toNat).drop p.toNat))
   | _,_=>none
  | some ⟨.slice e,_,_,_⟩,d=>match d.Fk,aB P e with
   | some ⟨T,xs⟩,some i=>match fz 0 (lo.map st.ev),fz (xs.length:Int) (hi.map st.ev) with
    | some p,some q=>some (Nat.beq i.size (T.size E)&&(decide (0≤p)&&(decide (p≤q)&&decide (q≤(xs.length:Int)))),.dat (.aG T) ((xs.take q.toNat).drop p.toNat))
    | _,_=>none
   | _,_=>none
  | _,_=>none
 | .slice t x lo (some hi) (some mx)=>match aB P t,st.ev x with
  | some ⟨.slice e,_,_,_⟩,d=>match d.Fk,aB P e with
   | some ⟨T,xs⟩,some i=>match fz 0 (lo.map st.ev),fz 0 (some (st.ev hi)),fz 0 (some (st.ev mx)) with
    | some p,some q,some m=>some (Nat.beq i.size (T.size E)&&(decide (0≤p)&&(decide (p≤q)&&(decide (q≤m)&&decide (m≤(xs.length:Int))))),.dat (.aG T) ((xs.take q.toNat).drop p.toNat))
    | _,_,_=>none
   | _,_=>none
  | _,_=>none
 | .call c=>match c.callee,c.args.toList,c.argTypes.toList with
  | .builtin .len,[x],[t]=>match aB P t with
   | some i=>U5 (akO (st.ev x) i.kind)
   | none=>none
  | _,_,_=>none
 | _=>none
section
variable {P : Program} {w0 : World} {G0 : au} {st : TS E} {a : Act} {w : World} {G : au} {o : Oper}
theorem oP {x:Option (TV E)} {c:Bool} {d:TV E} (h:U5 x=some (c,d)):x=some d:=by
 cases x with
 | none=>cases h
 | some y=>cases h;rfl
theorem abv (hE:E.Ok) (hr:Rel E w0 G0 st a w G) {ty:TypeId→Option Ty} {d:TV E} {c:Bool} (h:LG P ty st o.op=some (c,d)) (hc:c=true):fP P a w G o d:=by
 cases ho:o.op<;>rw [ho] at h<;>simp only [LG] at h
 case move x=>cases h;exact YK hr x (.inl ho)
 case assign x=>cases h;exact YK hr x (.inr ho)
 case load t x =>
  split at h<;>try (cases h;done)
  ·rename_i i T y off hi hd
   exact SC hE hr ho hi hd (oP h)
  ·rename_i i r off hi hd
   split at h<;>try (cases h;done)
   rename_i t' cs hb;exact SD hE hr ho hi hd hb (oP h)
 case nilCheck x =>
  have hv:=hr.ev x;split at h<;>try (cases h;done)
  ·rename_i r off hd
   cases h;rw [hd] at hv;have cx:=hv;simp only [VT] at cx;obtain⟨b,he,-⟩:=cx;exact⟨_,hv,fun w' hs=>by simp [execOp,ho,he]⟩
  ·rename_i T y off hd
   cases h;rw [hd] at hv;have cx:=hv;simp only [VT] at cx;obtain⟨b,o',c',he,-⟩:=cx;exact⟨_,hv,fun w' hs=>by simp [execOp,ho,he]⟩
  ·rename_i f cap hd
   cases h;rw [hd] at hv;have cx:=hv;simp only [VT] at cx;obtain⟨vs,he,-⟩:=cx;exact⟨_,hv,fun w' hs=>by simp [execOp,ho,he]⟩
 case binOp op t x y ty' =>
  obtain⟨r,hv,hrun⟩:=ad3 (P:=P) (op:=op) (t:=t) (x:=x) (y:=y) (hr.ev x) (hr.ev y) h hc;exact cy (f:=fun ρ=>do eqGuard op t x y (ρ x) (ρ y);binOp op t (ρ x) (ρ y)) (by simp [execOp,ho]) ⟨r,hv,fun w' _=>hrun w'⟩
 case unOp op t x =>
  have hv:=hr.ev x;split at h<;>try (cases h;done)
  ·rename_i b hd
   cases h;rw [hd] at hv;exact⟨_,.bool _ _ _,fun w' hs=>by simp [execOp,ho,hv.iG,Op.unary]⟩
  ·rename_i k n hd
   cases h;rw [hd] at hv;exact⟨_,.int _ _ _ _,fun w' hs=>by simp [execOp,ho,hv.dw,Op.unary,Op.intArith]⟩
  ·rename_i k n hd
   cases h;rw [hd] at hv
   exact⟨_,.int _ _ _ _,fun w' hs=>by
    simp only [execOp,ho,hv.dw,Op.unary,ajq];rfl⟩
 case makeFunc fn first cap =>
  have evs:∀l:List Operand,aP E w G (l.map st.ev) (l.map a.eval):=by
   intro l
   induction l with
   | nil=>exact .nil
   | cons y l ih=>exact .cons (hr.ev y) ih
  split at h
  rotate_left
  ·rename_i x xs hf
   split at h<;>try (cases h;done)
   have hcap:cap.toList=[]:=by assumption
   cases h;have tw:cap=#[]:=by rw [←gY (xs:=cap),hcap]
   refine cy (f:=fun ρ=>Instr.makeFunc fn (first.map ρ) (cap.map ρ)) (by simp [execOp,ho]) ⟨.func fn (first.map a.eval) #[],?_,fun w' _=>by simp [Instr.makeFunc,tw]⟩;simp only [VT];refine⟨_,rfl,?_⟩;rw [←hf];simpa using evs first.toList
  rename_i hf;cases h;have hf':first=#[]:=by rw [←gY (xs:=first),hf]
  refine cy (f:=fun ρ=>Instr.makeFunc fn (first.map ρ) (cap.map ρ)) (by simp [execOp,ho]) ⟨.func fn #[] (cap.map a.eval),?_,fun w' _=>by simp [Instr.makeFunc,hf']⟩;simp only [VT];refine⟨_,rfl,?_⟩
  have:∀l:List Operand,aP E w G (l.map st.ev) (l.map a.eval):=by
   intro l
   induction l with
   | nil=>exact .nil
   | cons y l ih=>exact .cons (hr.ev y) ih
  simpa using this cap.toList
 case fieldAddr s x f =>
  split at h<;>try (cases h;done)
  ·rename_i fs j1 j2 z T y off hs hd
   split at h<;>try (cases h;done)
   rename_i fd hf;split at h<;>try (cases h;done)
   rename_i i hi;cases h;refine Pz hr ho hs hf hi (fun h0=>?_) hd;rw [h0] at hc;cases hc
  ·rename_i fs j1 j2 z r off hs hd
   split at h<;>try (cases h;done)
   rename_i fd hf;split at h<;>try (cases h;done)
   rename_i i hi;cases h;refine PA hr ho hs hf hi (fun h0=>?_) hd;rw [h0] at hc;cases hc
 case field s x f =>
  have hv:=hr.ev x;split at h<;>try (cases h;done)
  ·rename_i fs j1 j2 z T y hs hd
   split at h<;>try (cases h;done)
   rename_i fd hf;split at h<;>try (cases h;done)
   rename_i i hi;split at h<;>try (cases h;done)
   rename_i ha;rw [hd] at hv;obtain⟨vs,he,hl⟩:=hv.ad4 ha;exact MY hr ho hs hf hi he (AJ hE hl (oP h))
  ·rename_i fs j1 j2 z cs hs hd
   split at h<;>try (cases h;done)
   rename_i fd hf;split at h<;>try (cases h;done)
   rename_i i hi;rw [hd] at hv;simp only [VT] at hv;obtain⟨vs,he,h1,h2⟩:=hv;exact MY hr ho hs hf hi he (yB hE h2 (fun u hu=>h1 u (by simpa using hu)) (oP h))
 case indexAddr t x ix =>
  split at h<;>try (cases h;done)
  rename_i e j1 j2 z T xs kd n ht hd YL;split at h<;>try (cases h;done)
  rename_i i hi;cases h;simp only [aV,decide_eq_true_eq] at hc;exact abq hr ho ht hi (TV.Dj hd) YL hc.2.1 hc.2.2 (bt hc.1)
 case index t x ix =>
  split at h<;>try (cases h;done)
  rename_i j1 j2 z l kd n ht hd YL;cases h;simp only [aV,decide_eq_true_eq] at hc;exact Py hr ho ht hd YL hc.1 hc.2
 case extract x j =>
  split at h<;>try (cases h;done)
  rename_i ds hd;exact V1 hr ho hd (oP h)
 case build t parts =>
  split at h<;>try (cases h;done)
  rename_i fs j1 j2 z ht;split at h<;>try (cases h;done)
  rename_i ds hf;cases h;exact abu hE hr ho ht hc hf (ty t)
 case convert src dst x =>
  have hb:=oP h;have hv:=hr.ev x;unfold aiL at hb;split at hb<;>try (cases hb;done)
  ·rename_i k n _ kk j1 j2 z hd hs YO
   cases hb;rw [hd] at hv;obtain⟨xs,hxs,wX,-⟩:=aq hs;obtain⟨xd,hxd,Fl,-⟩:=aq YO;refine cy (f:=fun ρ=>convert src dst (ρ x)) (by simp [execOp,ho]) ⟨_,.int _ _ _ _,fun w' _=>?_⟩;rw [hv.dw];unfold convert;simp only [Sem.run_bind,ak wX,ak Fl,Result.andThen_ok];rfl
  ·rename_i l _ j1 j2 z hd hs YO
   cases hb;rw [hd] at hv;obtain⟨xs,hxs,wX,-⟩:=aq hs;obtain⟨xd,hxd,Fl,-⟩:=aq YO;refine cy (f:=fun ρ=>convert src dst (ρ x)) (by simp [execOp,ho]) ⟨_,.str _ _ _,fun w' _=>?_⟩;rw [hv.ep];unfold convert mkStr;simp only [Sem.run_bind,ak wX,ak Fl,Result.andThen_ok];rfl
  ·rename_i k n _ j1 j2 z hd hs YO
   cases hb;rw [hd] at hv;obtain⟨xs,hxs,wX,-⟩:=aq hs;obtain⟨xd,hxd,Fl,-⟩:=aq YO;refine cy (f:=fun ρ=>convert src dst (ρ x)) (by simp [execOp,ho]) ⟨_,.str _ _ _,fun w' _=>?_⟩;rw [hv.dw];unfold convert mkStr cU;simp only [Sem.run_bind,ak wX,ak Fl,Result.andThen_ok];rfl
 case makeInterface t x =>
  split at h<;>try (cases h;done)
  rename_i ti hne ht;cases h;obtain⟨xt,eA,bw,-⟩:=aq ht;refine cy (f:=fun ρ=>Instr.makeInterface t (ρ x)) (by simp [execOp,ho]) ⟨.iface t (a.eval x),by simp only [VT];exact⟨_,rfl,hr.ev x⟩,fun w' _=>?_⟩;unfold Instr.makeInterface;simp only [Sem.run_bind,ak bw,Result.andThen_ok];split
  ·rename_i ms hk
   exact (hne ms _ _ _ (by rw [←hk])).elim
  ·rfl
 case slice t x lo hi mx =>
  cases mx with
  | some m =>
   cases hi with
   | none=>simp at h
   | some hi =>
    simp only at h;split at h<;>try (cases h;done)
    rename_i e j1 j2 z ht;split at h<;>try (cases h;done)
    rename_i T xs i hd hi';split at h<;>try (cases h;done)
    rename_i p q m' hp hq hm;cases h;simp only [aV,decide_eq_true_eq] at hc
    exact YN hr ho ht hi' (TV.Dj hd) hp hq hm hc.2.1 hc.2.2.1 hc.2.2.2.1 hc.2.2.2.2 (bt hc.1)
  | none =>
   simp only at h;split at h<;>try (cases h;done)
   ·rename_i j1 j2 z l ht hd
    split at h<;>try (cases h;done)
    rename_i p q hp hq;cases h;simp only [aV,decide_eq_true_eq] at hc;exact PC hr ho ht hd hp hq hc.1 hc.2.1 hc.2.2
   ·rename_i e j1 j2 z ht
    split at h<;>try (cases h;done)
    rename_i T xs i hd hi';split at h<;>try (cases h;done)
    rename_i p q hp hq;cases h;simp only [aV,decide_eq_true_eq] at hc;exact N0 hr ho ht hi' (TV.Dj hd) hp hq hc.2.1 hc.2.2.1 hc.2.2.2 (bt hc.1)
 case call c' =>
  split at h<;>try (cases h;done)
  rename_i x t hcl ha hat;split at h<;>try (cases h;done)
  rename_i i ht;have hb:=oP h;have hv:=hr.ev x;obtain⟨kind,j1,j2,z⟩:=i;unfold akO at hb;split at hb<;>try (cases hb;done)
  ·rename_i l hk hd
   cases hb;dsimp only at hk;subst hk;exact V2 hr ho hcl ha hat ht hd
  ·rename_i e T xs hk hd
   cases hb;dsimp only at hk;subst hk;rw [hd] at hv;exact vp hr ho hcl ha hat ht ((nH.dat T xs).header hv)
  ·rename_i e j ai T xs hk hd
   cases hb;dsimp only at hk;subst hk;rw [hd] at hv;exact vp hr ho hcl ha hat ht ((nH.bn j ai T xs).header hv)
  ·rename_i e hk hd
   cases hb;dsimp only at hk;subst hk;rw [hd] at hv;simp only [VT] at hv;exact vp (n:=0) hr ho hcl ha hat ht ⟨_,_,hv⟩
 all_goals cases h
end
end Go.RT
namespace Go.RT
variable {E : TEnv}
section
variable {P : Program} {w0 w w' w'' : World} {G0 G G' G'' : au} {st : TS E} {a : Act}
theorem ez.refl (w:World) (G:au):ez w G w G :=
 ⟨fun _ _ h=>h,fun _ _ _ _ h=>h,fun _ _ h=>h,fun j x h hj=>⟨x,h,hj,bM _,fun _=>rfl⟩⟩
theorem ez.trans (h:ez w G w' G') (h':ez w' G' w'' G''):ez w G w'' G'':=by
 refine⟨fun b o hp=>h'.pr b o (h.pr b o hp),fun b o v hp hv=>h'.cells b o v (h.pr b o hp) (h.cells b o v hp hv),fun r b hb=>h'.i r b (h.i r b hb),fun j x y hj=>?_⟩;obtain⟨x1,y1,h1,l1,e1⟩:=h.g j x y hj;obtain⟨x2,y2,h2,l2,e2⟩:=h'.g j x1 y1 h1;refine⟨x2,y2,h2,kj l1 l2,fun e=>?_⟩;have:x.ai=x1.ai:=NF l1 (e▸l2);rw [e2 (this.symm.trans e),e1 this]
theorem gU.refl (w:World) (G:au):gU w G w G :=
 ⟨rfl,rfl,rfl,bM _,fun _ _ _=>rfl,.refl w G,fun _ _ _ h=>.inl h,fun r b hl hb=>by
  have:=(bS.1 hb).1;omega,fun j x h b hj hb=>.inr ⟨x,h,hj,hb⟩⟩
theorem dA.mono (hg:ez w G w' G') {kt vt:Ty}:∀ {es:List MapEntry} {m:List (kt.den E.D × vt.den E.D)},dA E w G kt vt es m→dA E w' G' kt vt es m
 | [],[],_=>trivial
 | _::_,_::_,h=>⟨h.1.mono hg,h.2.1.mono hg,dA.mono hg h.2.2⟩
 | [],_::_,h=>h.elim
 | _::_,[],h=>h.elim
theorem DOk.mono (hg:ez w G w' G') {d:Deferred} {x:FuncId × List (TV E)} (h:DOk E w G d x):DOk E w' G' d x :=
 h.imp (fun⟨h0,cap,h1,h2⟩=>⟨h0,cap,h1,h2.mono hg⟩) fun⟨h0,b,h1,h2⟩=>⟨h0,b,h1,h2.mono hg⟩
theorem gj.mono (hg:ez w G w' G'):∀ {ds:List Deferred} {xs:List (FuncId × List (TV E))},gj E w G ds xs→gj E w' G' ds xs
 | [],[],_=>trivial
 | _::_,_::_,h=>⟨h.1.mono hg,gj.mono hg h.2⟩
 | [],_::_,h=>h.elim
 | _::_,[],h=>h.elim
theorem kE (hg:ez w G w' G') (h:∀b c,E.gt b=some c→rM E w G.pr b c.1 c.2):∀b c,E.gt b=some c→rM E w' G'.pr b c.1 c.2 :=
 fun b c hv=>VD.mono hg.pr hg.cells (h b c hv)
theorem gq.mono (hg:ez w G w' G') {b:Nat} {x:cV E} (h:gq E w G b x) (hb:w'.heap[b]? = w.heap[b]?):gq E w' G' b x:=by
 cases x with
 | cells t cs =>
  obtain⟨vs,h1,h2,h3⟩:=h
  exact⟨vs,by rw [hb];exact h1,h2,h3.mono hg⟩
 | iter s pos=>show _=_;rw [hb];exact h
 | loop y ds=>obtain⟨Y,fn,tmps,D,h0,h1,h2⟩:=h;exact⟨Y,fn,tmps,D,h0,by rw [hb];exact h1,h2.mono hg⟩
 | gone=>obtain⟨o,h,h'⟩:=h;exact⟨o,by rw [hb];exact h,h'⟩
 | MW=>show _=_;rw [hb];exact h
 | map kt vt m=>obtain⟨es,clock,h1,h2,h3⟩:=h;exact⟨es,clock,by rw [hb];exact h1,h2,h3.mono hg⟩
 | dm e cap t xs d=>obtain⟨cur,h1,h2,h4,h5,h6⟩:=h;exact⟨cur,by rw [hb];exact h1,h2,fun i x hx=>(h4 i x hx).mono hg,h5.mono hg,h6⟩
theorem cL.alloc (w:World) (o:Obj):cL w (w.alloc o):=⟨si,fun b hb=>heap_alloc_old w o b hb⟩
theorem cL.trans {w1 w2 w3:World} (h:cL w1 w2) (h':cL w2 w3):cL w1 w3:=⟨kj h.1 h'.1,fun b hb=>(h'.2 b (eF hb h.1)).trans (h.2 b hb)⟩
theorem tv.same {x:aZ} {h:Value} (hg:tv E w G x h) (hs:cL w w') (hi:∀b,b∈G'.i→b<w.heap.size→b∈G.i) (BH:∀b o,b<w.heap.size→G'.pr b o→G.pr b o):tv E w' G' x h:=by
 obtain⟨n,xs,ho,hz,hb⟩:=hg;refine⟨n,xs,⟨ho.1,?_⟩,hz,fun b wU=>?_⟩
 ·rcases ho.2 with h2 | ⟨g,cap,cur,h2,h3,h4,h5⟩
  ·exact .inl h2
  ·exact .inr ⟨g,cap,cur,h2,h3,by rw [hs.2 g (lF.1 h4).1];exact h4,h5⟩
 ·obtain⟨h1,h2,h3⟩:=hb b wU
  exact⟨eF h1 hs.1,fun hm=>h2 (hi b hm h1),fun o hno nJ=>h3 o hno (BH b o h1 nJ)⟩
theorem lW.keep {x x':aZ} {hd:Value} {c:Cn E} (h:lW E w G x hd c) (he:x'.e=x.e) (hk:x'.k=x.k) (nJ:∀b o,G.pr b o→G'.pr b o) (hcl:∀b o v,G.pr b o→w.cell? ⟨b,o,none⟩=some v→w'.cell? ⟨b,o,none⟩=some v) (hb:∀b,hd.ownBlock=some b→w'.heap[b]? = w.heap[b]?∧∀o,G'.pr b o→G.pr b o) :
  lW E w' G' x' hd c:=by
 obtain⟨h1,h2,⟨vals,ho,hf⟩,hp⟩:=h;refine⟨by rw [hk];exact h1,by rw [hk];exact h2,⟨vals,⟨by rw [hk];exact ho.1,?_⟩,by rw [hk];exact hf.mono nJ hcl⟩,fun b hbk o nJ=>hp b hbk o ((hb b hbk).2 o nJ)⟩;rcases ho.2 with q | ⟨g,cap,cur,q1,q2,q3,q4⟩
 ·exact .inl q
 ·refine .inr ⟨g,cap,cur,q1,q2,?_,by rw [hk];exact q4⟩
  rw [(hb g (by rw [q1];rfl)).1,he];exact q3
theorem gD.keep {cs:List (Nat × Cn E)} (h:gD E w G cs) (hg:ez w G w' G') (hrow:∀(j:Nat) x hd,G.g[j]? = some (x,hd)→(∃c,(j,c)∈cs)→∃x',G'.g[j]? = some (x',hd)∧x'.e=x.e∧x'.k=x.k∧∀b,hd.ownBlock=some b→w'.heap[b]? = w.heap[b]?∧∀o,G'.pr b o→G.pr b o) :
  gD E w' G' cs:=by
 intro j c hj;obtain⟨x,hd,h1,h2⟩:=h j c hj;obtain⟨x',q1,q2,q3,q4⟩:=hrow j x hd h1 ⟨c,hj⟩;exact⟨x',hd,q1,h2.keep q2 q3 hg.pr hg.cells q4⟩
theorem Rel.grow (h:Rel E w0 G0 st a w G) (hs:cL w w') (h1:w'.os=w.os) (h2:w'.tape=w.tape) (h3:w'.output=w.output) (gK:Nat→Nat→Prop)
  (hp:∀b o,G.pr b o→gK b o) (BH:∀b o,b<w.heap.size→gK b o→G.pr b o) (PG:∀b o,gK b o→b<w'.heap.size) :
  Rel E w0 G0 st a w' { G with pr:=gK }:=by
 have hg:ez w G w' { G with pr:=gK }:=⟨hp,fun b o v _ hv=>hs.cell hv,fun _ _ h=>h,fun j x y hj=>⟨x,y,hj,bM _,fun _=>rfl⟩⟩;have ev:=h.cK
 refine⟨⟨h1.trans ev.os,h2.trans ev.tape,h3.trans ev.output,kj ev.size hs.1,fun b hb hn=>(hs.2 b (eF hb ev.size)).trans (ev.old b hb hn),ev.goes.trans hg,
  fun b o hb nJ=>ev.jJ b o hb (BH b o (eF hb ev.size) nJ),ev.lH,ev.cY⟩,h.size,fun j d hj=>(h.tmps j d hj).mono hg,h.defers.mono hg,?_,fun r b hb hd=>(hs.2 b (h.boxes.lt b (ek (h.cK.goes.i r b hb)))).trans (h.fix r b hb hd),h.pins,h.dI.keep hg fun j x hd hj _=>⟨x,hj,rfl,rfl,fun b hbk=>by
   obtain⟨n,xs,-,-,hb⟩:=h.boxes.grow j x hd hj;exact⟨hs.2 b (hb b hbk).1,fun o=>BH b o (hb b hbk).1⟩⟩⟩
 refine⟨h.boxes.len,h.boxes.gs,fun r b x hb hx=>(h.boxes.box r b x hb hx).mono hg (hs.2 b (h.boxes.lt b (ek hb))),fun b hb=>eF (h.boxes.lt b hb) hs.1,h.boxes.nodup,
  fun b o nJ=>⟨PG b o nJ,fun hm=>(h.boxes.dH b o (BH b o (h.boxes.lt b hm) nJ)).2 hm⟩,fun j x y hj=>(h.boxes.grow j x y hj).same hs (fun b hb _=>hb) BH,h.boxes.apart,kE hg h.boxes.sU⟩
theorem Rel.Fm (h:Rel E w0 G0 st a w G) (o:Obj) (x:cV E) (hx:gq E (w.alloc o) G w.heap.size x) :
  Rel E w0 G0 { st with H:=st.H++[x] } a (w.alloc o) { G with i:=G.i++[w.heap.size] }:=by
 have h':=h.grow (cL.alloc w o) rfl rfl rfl G.pr (fun _ _ h=>h) (fun _ _ _ h=>h) (fun b o' hp=>eF (h.boxes.dH b o' hp).1 si)
 have hg:ez (w.alloc o) G (w.alloc o) { G with i:=G.i++[w.heap.size] }:=⟨fun _ _ h=>h,fun _ _ _ _ h=>h,fun r b hb=>by
  show (G.i++[w.heap.size])[r]? = some b;rw [fU (bS.1 hb).1];exact hb,fun j x y hj=>⟨x,y,hj,bM _,fun _=>rfl⟩⟩
 have ev:=h'.cK
 have hlen:G0.i.length≤G.i.length:=by
  by_cases h0:G0.i.length=0
  ·omega
  ·have hl:G0.i.length - 1<G0.i.length:=om
   have:=(bS.1 (ev.goes.i _ _ (bK hl))).1;have this:G0.i.length - 1<G.i.length:=this;omega
 refine⟨⟨ev.os,ev.tape,ev.output,ev.size,ev.old,ev.goes.trans hg,ev.jJ,fun r b hl hb=>?_,ev.cY⟩,h.size,fun j d hj=>(h'.tmps j d hj).mono hg,h'.defers.mono hg,?_,h'.fix,h.pins,h'.dI.keep hg fun j x hd hj _=>⟨x,hj,rfl,rfl,fun b hbk=>⟨rfl,fun o h=>h⟩⟩⟩
 ·by_cases hr:r<G.i.length
  ·rw [fU hr] at hb
   exact ev.lH r b hl hb
  ·have:=(bS.1 hb).1
   simp at this;have hre:r=G.i.length:=om;subst hre;simp at hb;subst hb;exact h.cK.size
 refine⟨by simp [h.boxes.len],h.boxes.gs,fun r b y hb hy=>?_,fun b hb=>?_,?_,fun b o' hp=>?_,fun j y z hj=>?_,h.boxes.apart,kE hg h'.boxes.sU⟩
 ·by_cases hr:r<G.i.length
  ·rw [fU hr] at hb
   rw [fU (by rw [←h.boxes.len];exact hr)] at hy;exact (h'.boxes.box r b y hb hy).mono hg rfl
  ·have:=(bS.1 hb).1
   simp at this;have hre:r=G.i.length:=om;subst hre;simp at hb;rw [h.boxes.len] at hy;simp at hy;subst hb;subst hy;exact hx.mono hg rfl
 ·rcases gz.1 hb with hb | hb
  ·exact h'.boxes.lt b hb
  ·simp at hb;subst hb;simp
 ·refine List.nodup_append.2 ⟨h.boxes.nodup,si,fun b hb c hc=>?_⟩
  simp at hc;subst hc;exact Nat.ne_of_lt (h.boxes.lt b hb)
 ·obtain⟨p1,p2⟩:=h.boxes.dH b o' hp
  refine⟨eF p1 si,fun hm=>?_⟩;rcases gz.1 hm with hm | hm
  ·exact p2 hm
  ·simp at hm;omega
 ·refine (h.boxes.grow j y z hj).same (cL.alloc w o) (fun b hb hlt=>?_) (fun _ _ _ h=>h)
  rcases gz.1 hb with hb | hb
  ·exact hb
  ·simp at hb;omega
end
end Go.RT
namespace Go.RT
variable {E : TEnv}
section
variable {P : Program} {w0 w w' w'' : World} {G0 G G' G'' : au} {st : TS E} {a : Act} {o : Oper}
theorem Rel.tA (h:Rel E w0 G0 st a w G) {r b:Nat} (hat:G.i[r]? = some b) (hsz:w'.heap.size=w.heap.size) (h1:w'.os=w.os) (h2:w'.tape=w.tape) (h3:w'.output=w.output)
  (jC:∀b',b'≠b→w'.heap[b']? = w.heap[b']?) {x:cV E} (hx:ez w G w' G→gq E w' G b x):Rel E w0 G0 { st with H:=st.H.set r x,d:=r::st.d } a w' G:=by
 have hin:b∈G.i:=ek hat;have ant:∀o,¬ G.pr b o:=fun o hp=>(h.boxes.dH b o hp).2 hin
 have hg:ez w G w' G:=⟨fun _ _ h=>h,fun b' o v hp hv=>by
  have:b'≠b:=fun e=>by subst e;exact ant o hp
  rw [World.cell?_of_block (w:=w) (w':=w') (jC b' this)];exact hv,fun _ _ h=>h,fun j x y hj=>⟨x,y,hj,bM _,fun _=>rfl⟩⟩
 have ev:=h.cK
 refine⟨⟨h1.trans ev.os,h2.trans ev.tape,h3.trans ev.output,by rw [hsz];exact ev.size,fun b' hb' hn=>?_,ev.goes.trans hg,ev.jJ,ev.lH,ev.cY⟩,h.size,fun j d hj=>(h.tmps j d hj).mono hg,h.defers.mono hg,?_,fun r' b' hb' hd=>?_,h.pins,h.dI.keep hg fun j y z hj _=>⟨y,hj,rfl,rfl,fun c hbk=>⟨jC c (fun e=>by
   obtain⟨n,xs,-,-,hb⟩:=h.boxes.grow j y z hj;subst e;exact (hb c hbk).2.1 hin),fun o h=>h⟩⟩⟩
 ·rw [jC b' (fun e=>?_)]
  ·exact ev.old b' hb' hn
  ·subst e
   by_cases hr:r<G0.i.length
   ·have e1:=ev.goes.i r _ (bK hr)
    rw [hat] at e1;exact hn (.inl (by rw [gC e1];exact ei hr))
   ·have:=ev.lH r b' om hat
    omega
 rotate_left
 ·simp only [fK,not_or] at hd
  have q0:=ev.goes.i r' b' hb';rw [jC b' (fun e=>?_)]
  ·exact h.fix r' b' hb' hd.2
  ·subst e
   have q1:=bS.1 hat;have q2:=bS.1 q0;exact hd.1 ((ND h.boxes.nodup).1 (q2.2.trans q1.2.symm))
 refine⟨by simp [h.boxes.len],h.boxes.gs,fun r' b' y hb' hy=>?_,fun b' hb'=>by rw [hsz];exact h.boxes.lt b' hb',h.boxes.nodup,fun b' o hp=>by rw [hsz];exact h.boxes.dH b' o hp,fun j y z hj=>?_,h.boxes.apart,kE hg h.boxes.sU⟩
 ·by_cases hr:r=r'
  ·subst hr
   rw [hat] at hb';cases hb';have hl:r<st.H.length:=by rw [←h.boxes.len];exact (bS.1 hat).1
   simp [hl] at hy;subst hy;exact hx hg
  ·have hne:b'≠b:=fun e=>by
    subst e;have q1:=bS.1 hat;have q2:=bS.1 hb';exact hr ((ND h.boxes.nodup).1 (q1.2.trans q2.2.symm))
   rw [iB hr] at hy;exact (h.boxes.box r' b' y hb' hy).mono hg (jC b' hne)
 ·obtain⟨n,xs,ho,hz,hb⟩:=h.boxes.grow j y z hj
  refine⟨n,xs,⟨ho.1,?_⟩,hz,fun c hcl=>?_⟩
  ·rcases ho.2 with h2 | ⟨g,cap,cur,h2,h3,h4,h5⟩
   ·exact .inl h2
   ·refine .inr ⟨g,cap,cur,h2,h3,?_,h5⟩
    rw [jC g (fun e=>?_)]
    ·exact h4
    ·subst e
     exact (hb g (by rw [h2];rfl)).2.1 hin
  ·rw [hsz];exact hb c hcl
end
end Go.RT
namespace Go.RT
variable {E : TEnv}
section
variable {P : Program} {w0 w w' : World} {G0 G G' : au} {st : TS E} {a : Act} {o : Oper}
def fu (P:Program) (w0:World) (G0:au) (a:Act) (w:World) (o:Oper) (st':TS E):Prop :=
 ∃nx v w' G',(execOp a.eval o).run P w=.ok nx w'∧(nx=.value v∨(nx=.skip∧v=undef))∧Rel E w0 G0 st' (a.put o.dst v) w' G'
theorem fP.ad5 (hr:Rel E w0 G0 st a w G) {d:TV E} (h:fP P a w G o d):fu P w0 G0 a w o { st with t:=br st.t o.dst d }:=by
 obtain⟨v,hv,hrun⟩:=h;exact⟨_,v,w,G,hrun w (Di.refl _ w),.inl rfl,hr.put hv o.dst⟩
theorem Ek (hr:Rel E w0 G0 st a w G) {ob:Obj} {x:cV E} (hx:gq E (w.alloc ob) G w.heap.size x)
  (hrun:(execOp a.eval o).run P w=.ok (.value (.pointer (some ⟨w.heap.size,0,none⟩))) (w.alloc ob)) :
  fu P w0 G0 a w o { st with t:=br st.t o.dst (.ptr st.H.length 0),H:=st.H++[x] }:=by
 have hN:=hr.Fm ob x hx;refine⟨_,_,_,_,hrun,.inl rfl,hN.put (d:=.ptr st.H.length 0) ?_ o.dst⟩;simp only [VT];refine⟨_,rfl,?_⟩;rw [←hr.boxes.len];simp
theorem ad6 (hE:E.Ok) (hr:Rel E w0 G0 st a w G) {t:TypeId} {x y:Operand} {i:TI} (ho:o.op=.store t x y) (ht:aB P t=some i) {r off:Nat} (hd:st.ev x=.ptr r off)
  {t':TypeId} {cs ds:List (TV E)} (hb:st.H[r]? = some (.cells t' cs)) (hy:(st.ev y).kO=some ds) (h4:ds.length=i.size) (h5:off+i.size≤cs.length) :
  fu P w0 G0 a w o { st with t:=br st.t o.dst .any,H:=st.H.set r (.cells t' (cs.take off++ds++cs.drop (off+ds.length))),d:=r::st.d }:=by
 have mU:=hr.ev x;rw [hd] at mU;simp only [VT] at mU;obtain⟨b,he,hat⟩:=mU;obtain⟨vs,hh,hone,hvs⟩:=hr.box hat hb;obtain⟨hl,hl1⟩:=qO hE (hr.ev y) hy;have hlen:(a.eval y).cells.toList.length=i.size:=by rw [hl.length,h4]
 have hlen':(a.eval y).cells.size=i.size:=by simpa using hlen
 have hsz:vs.size=cs.length:=by simpa using hvs.length
 obtain⟨xt,eA,-,hxs,-⟩:=aq ht;have hfit:off+0+(a.eval y).cells.toList.length≤vs.size:=by rw [hlen,hsz];omega
 have y6:=run_storeCells_at (P:=P) b off t' (a.eval y).cells.toList 0 vs w hh hfit (fun v hv=>hl1 v (by simpa using hv));simp only [lE] at y6
 let new:=(vs.toList.take off++(a.eval y).cells.toList++vs.toList.drop (off+(a.eval y).cells.toList.length)).toArray
 have hrun:(execOp a.eval o).run P w=.ok .skip (w.setRow b new):=by
  simp only [execOp,ho,Instr.storeAt,Instr.sureAddr,he,storeVar,Sem.run_bind,Sem.run_pure,Result.andThen_ok,bQ eA,hxs,hlen'];simp only [ne_eq,not_true,if_false,y6,Result.andThen_ok];rfl
 have hnew:(w.setRow b new).heap[b]? = some (.cells new t' (0,0)):=setRow_heap w b vs _ t' _ hh;have zO:∀b',b'≠b→(w.setRow b new).heap[b']? = w.heap[b']?:=fun b' hb'=>setRow_other w b b' _ hb'
 have hR:=hr.tA (w':=w.setRow b new) hat si rfl rfl rfl zO (x:=.cells t' (cs.take off++ds++cs.drop (off+ds.length))) (fun hg=>by
  refine⟨new,hnew,fun u hu=>?_,?_⟩
  ·have hu:u∈vs.toList.take off++(a.eval y).cells.toList++vs.toList.drop (off+(a.eval y).cells.toList.length):=by simpa [new] using hu
   simp only [gz] at hu;rcases hu with (hu | hu) | hu
   ·exact hone u (by simpa using Sc hu)
   ·exact hl1 u (by simpa using hu)
   ·exact hone u (by simpa using XQ hu)
  ·have:=(((hvs.mono hg).take off).append (hl.mono hg)).append ((hvs.mono hg).drop (off+ds.length))
   simpa only [new,adj,hl.length] using this)
 refine⟨_,undef,_,G,hrun,.inr ⟨rfl,rfl⟩,hR.put (v:=undef) (by simp only [VT]) o.dst⟩
end
end Go.RT
namespace Go.RT
variable {E : TEnv}
section
variable {P : Program} {w0 w w' : World} {G0 G G' : au} {st : TS E} {a : Act} {o : Oper}
theorem Rel.xG (h:Rel E w0 G0 st a w G) (x:aZ) (hd:Value) (hok:tv E w G x hd) (hnew:∀b,hd.ownBlock=some b→w0.heap.size≤b)
  (hap:∀(j:Nat) y z b,G.g[j]? = some (y,z)→z.ownBlock=some b→hd.ownBlock≠some b) :
  Rel E w0 G0 { st with g:=st.g++[x] } a w { G with g:=G.g++[(x,hd)] }:=by
 have hg:ez w G w { G with g:=G.g++[(x,hd)] }:=⟨fun _ _ h=>h,fun _ _ _ _ h=>h,fun _ _ h=>h,fun j y z hj=>⟨y,z,by
  show (G.g++[(x,hd)])[j]? = _;rw [fU (bS.1 hj).1];exact hj,bM _,fun _=>rfl⟩⟩
 have last:∀(j:Nat) y z,(G.g++[(x,hd)])[j]? = some (y,z)→G.g[j]? = some (y,z)∨(j=G.g.length∧y=x∧z=hd):=by
  intro j y z hj;by_cases hl:j<G.g.length
  ·rw [fU hl] at hj
   exact .inl hj
  ·have:=(bS.1 hj).1
   simp at this;have e:j=G.g.length:=om;subst e;simp at hj;exact .inr ⟨rfl,hj.1.symm,hj.2.symm⟩
 have ev:=h.cK
 refine⟨⟨ev.os,ev.tape,ev.output,ev.size,ev.old,ev.goes.trans hg,ev.jJ,ev.lH,fun j y z b hj hb=>?_⟩,h.size,fun j d hj=>(h.tmps j d hj).mono hg,h.defers.mono hg,?_,h.fix,h.pins,h.dI.keep hg fun j y z hj _=>⟨y,by
   show (G.g++[(x,hd)])[j]? = _;rw [fU (bS.1 hj).1];exact hj,rfl,rfl,fun b hbk=>⟨rfl,fun o h=>h⟩⟩⟩
 ·rcases last j y z hj with hj | ⟨-,-,rfl⟩
  ·exact ev.cY j y z b hj hb
  ·exact .inl (hnew b hb)
 refine⟨h.boxes.len,by simp [h.boxes.gs],fun r b y hb hy=>(h.boxes.box r b y hb hy).mono hg rfl,h.boxes.lt,h.boxes.nodup,h.boxes.dH,fun j y z hj=>?_,fun j j' y z y' z' b hj hj' hb hb'=>?_,kE hg h.boxes.sU⟩
 ·rcases last j y z hj with hj | ⟨-,rfl,rfl⟩
  ·exact h.boxes.grow j y z hj
  ·exact hok
 ·rcases last j y z hj with q | ⟨q1,-,q3⟩<;>rcases last j' y' z' hj' with q' | ⟨q1',-,q3'⟩
  ·exact h.boxes.apart j j' y z y' z' b q q' hb hb'
  ·rw [q3'] at hb'
   exact (hap j y z b q hb hb').elim
  ·rw [q3] at hb
   exact (hap j' y' z' b q' hb' hb).elim
  ·rw [q1,q1']
theorem Rel.ajr (h:Rel E w0 G0 st a w G) {e:TypeId} {k:Nat} (hz:E.zc e=true) :
  Rel E w0 G0 { st with g:=st.g++[⟨0,e,k⟩] } a (w.alloc (.cells #[] e))
   { G with g:=G.g++[(⟨0,e,k⟩,.slice (some ⟨w.heap.size,0,none⟩) 0 0)] }:=by
 have hG:=h.grow (cL.alloc w (.cells #[] e)) rfl rfl rfl G.pr (fun _ _ h=>h) (fun b o hb hp=>hp) (fun b o hp=>eF (h.boxes.dH b o hp).1 si);refine hG.xG ⟨0,e,k⟩ (.slice (some ⟨w.heap.size,0,none⟩) 0 0) ?_ (fun b hb=>?_) (fun j y z b hj hz hb=>?_)
 ·refine⟨0,[],⟨si,.inr ⟨w.heap.size,0,#[],rfl,fT _,heap_alloc_new w _,bM _,fT _,si,si⟩⟩,fun a m _=>hz,fun b hb=>?_⟩
  cases hb;refine⟨si,fun hm=>?_,fun o ho hp=>?_⟩
  ·exact absurd (h.boxes.lt _ hm) (mA _)
  ·exact absurd (h.boxes.dH _ _ hp).1 (mA _)
 ·cases hb;exact h.cK.size
 ·cases hb
  obtain⟨n',xs',-,-,hb'⟩:=h.boxes.grow j y z hj;exact absurd (hb' _ hz).1 (mA _)
theorem Rel.newRow (h:Rel E w0 G0 st a w G) {e:TypeId} {k n cap:Nat} {cur:Array Value} (hsz:cur.size=cap * k) (hn:n≤cap) (hc0:0<cap) (hcap:cap≤maxLen) :
  Rel E w0 G0 { st with g:=st.g++[⟨0,e,k⟩] } a (w.alloc (.cells cur e))
   { G with g:=G.g++[(⟨0,e,k⟩,.slice (some ⟨w.heap.size,0,none⟩) n cap)],pr:=fun b o=>G.pr b o∨(b=w.heap.size∧o<n * k) }:=by
 have hG:=h.grow (cL.alloc w (.cells cur e)) rfl rfl rfl (fun b o=>G.pr b o∨(b=w.heap.size∧o<n * k)) (fun _ _ h=>.inl h)
  (fun b o hb hp=>hp.elim id fun q=>absurd hb (by rw [q.1];omega)) (fun b o hp=>by
   rcases hp with hp | ⟨rfl,-⟩
   ·exact eF (h.boxes.dH b o hp).1 si
   ·simp)
 refine hG.xG ⟨0,e,k⟩ (.slice (some ⟨w.heap.size,0,none⟩) n cap) ?_ (fun b hb=>?_) (fun j y z b hj hz hb=>?_)
 ·refine⟨n,cur.toList.take (n * k),⟨?_,.inr ⟨w.heap.size,cap,cur,rfl,fT _,heap_alloc_new w _,hn,hcap,hsz,rfl⟩⟩,fun a m e=>by simp at e;omega,fun b hb=>?_⟩
  ·rw [gB,mz,hsz]
   exact Ee (ir k hn)
  ·cases hb
   refine⟨si,fun hm=>?_,fun o ho hp=>?_⟩
   ·exact absurd (h.boxes.lt _ hm) (mA _)
   ·rcases hp with hp | ⟨-,hlt⟩
    ·exact absurd (h.boxes.dH _ _ hp).1 (mA _)
    ·have ho:n * k≤o:=ho
     omega
 ·cases hb;exact h.cK.size
 ·cases hb
  obtain⟨n',xs',-,-,hb'⟩:=h.boxes.grow j y z hj;exact absurd (hb' _ hz).1 (mA _)
end
end Go.RT
namespace Go.RT
variable {E : TEnv}
section
variable {P : Program} {w0 w w' : World} {G0 G G' : au} {st : TS E} {a : Act} {o : Oper}
theorem Rel.LH (h:Rel E w0 G0 st a w G) {j:Nat} {x:aZ} {hd hd':Value} (hj:G.g[j]? = some (x,hd)) (rT:∀c,(j,c)∉st.c) (hsz:w.heap.size≤w'.heap.size) (h1:w'.os=w.os) (h2:w'.tape=w.tape) (h3:w'.output=w.output)
  (jC:∀b,b<w.heap.size→hd.ownBlock≠some b→w'.heap[b]? = w.heap[b]?) (hcells:∀b o v,G.pr b o→w.cell? ⟨b,o,none⟩=some v→w'.cell? ⟨b,o,none⟩=some v)
  (gK:Nat→Nat→Prop) (hp:∀b o,G.pr b o→gK b o) (BH:∀b o,gK b o→G.pr b o∨hd'.ownBlock=some b)
  (hok:tv E w' { G with pr:=gK } { x with ai:=x.ai+1 } hd') (hblk:∀b,hd'.ownBlock=some b→w.heap.size≤b∨hd.ownBlock=some b) :
  Rel E w0 G0 { st with g:=st.g.set j { x with ai:=x.ai+1 } } a w' { G with g:=G.g.set j ({ x with ai:=x.ai+1 },hd'),pr:=gK }:=by
 have hjl:j<G.g.length:=(bS.1 hj).1;obtain⟨n0,YP,-,-,hhd⟩:=h.boxes.grow j x hd hj
 have at':∀(m:Nat) y z,(G.g.set j ({ x with ai:=x.ai+1 },hd'))[m]? = some (y,z)→(m=j∧y={ x with ai:=x.ai+1 }∧z=hd')∨(m≠j∧G.g[m]? = some (y,z)):=by
  intro m y z hm;by_cases e:m=j
  ·subst e
   simp [hjl] at hm;exact .inl ⟨rfl,hm.1.symm,hm.2.symm⟩
  ·rw [iB (fun q=>e q.symm)] at hm
   exact .inr ⟨e,hm⟩
 have hg:ez w G w' { G with g:=G.g.set j ({ x with ai:=x.ai+1 },hd'),pr:=gK }:=by
  refine⟨hp,hcells,fun _ _ h=>h,fun m y z hm=>?_⟩;by_cases e:m=j
  ·subst e
   rw [hj] at hm;cases hm;exact⟨_,_,by simp [hjl];exact⟨rfl,rfl⟩,Nat.le_succ _,fun q=>by simp at q⟩
  ·exact⟨y,z,by
    show (G.g.set j _)[m]? = _;rw [iB (fun q=>e q.symm)];exact hm,bM _,fun _=>rfl⟩
 have JR:∀b,b∈G.i→hd.ownBlock≠some b:=fun b hb e=>(hhd b e).2.1 hb;have ev:=h.cK
 have hrow:∀b,b<w0.heap.size→hd.ownBlock=some b→G0.rows b:=fun b hb e=>by
  rcases ev.cY j x hd b hj e with q | ⟨y,z,q1,q2⟩
  ·omega
  ·exact⟨y,z,ek q1,q2⟩
 have akP:gD E w' { G with g:=G.g.set j ({ x with ai:=x.ai+1 },hd'),pr:=gK } st.c:=h.dI.keep hg fun m y z hm hc=>by
  have hne:m≠j:=fun e=>by subst e;obtain⟨c,hc⟩:=hc;exact rT c hc
  obtain⟨n,xs,-,-,hq⟩:=h.boxes.grow m y z hm;refine⟨y,by show (G.g.set j _)[m]? = _;rw [iB (fun q=>hne q.symm)];exact hm,rfl,rfl,fun b hb=>⟨jC b (hq b hb).1 (fun e=>hne (h.boxes.apart m j y z x hd b hm hj hb e)),fun o nJ=>?_⟩⟩;rcases BH b o nJ with q | q
  ·exact q
  ·rcases hblk b q with q' | q'
   ·have:=(hq b hb).1;omega
   ·exact (hne (h.boxes.apart m j y z x hd b hm hj hb q')).elim
 refine⟨⟨h1.trans ev.os,h2.trans ev.tape,h3.trans ev.output,kj ev.size hsz,fun b hb hn=>?_,ev.goes.trans hg,fun b o hb nJ=>?_,ev.lH,fun m y z b hm hb=>?_⟩,h.size,
  fun m d hm=>(h.tmps m d hm).mono hg,h.defers.mono hg,?_,fun r b hb hd=>(jC b (h.boxes.lt b (ek (ev.goes.i r b hb))) (JR b (ek (ev.goes.i r b hb)))).trans (h.fix r b hb hd),h.pins,akP⟩
 ·rw [jC b (eF hb ev.size) (fun e=>hn (.inr (hrow b hb e)))]
  exact ev.old b hb hn
 ·rcases BH b o nJ with q | q
  ·exact ev.jJ b o hb q
  ·rcases hblk b q with q' | q'
   ·have:=ev.size;omega
   ·exact .inr (hrow b hb q')
 ·rcases at' m y z hm with⟨rfl,-,rfl⟩ | ⟨-,q⟩
  ·rcases hblk b hb with q | q
   ·exact .inl (kj ev.size q)
   ·exact ev.cY m x hd b hj q
  ·exact ev.cY m y z b q hb
 refine⟨h.boxes.len,?_,fun r b y hb hy=>?_,fun b hb=>eF (h.boxes.lt b hb) hsz,h.boxes.nodup,fun b o nJ=>?_,fun m y z hm=>?_,fun m m' y z y' z' b hm hm' hb hb'=>?_,kE hg h.boxes.sU⟩
 ·simp only []
  rw [←h.boxes.gs,OY]
 ·have hm:=ek hb
  exact (h.boxes.box r b y hb hy).mono hg (jC b (h.boxes.lt b hm) (JR b hm))
 ·rcases BH b o nJ with q | q
  ·exact⟨eF (h.boxes.dH b o q).1 hsz,(h.boxes.dH b o q).2⟩
  ·obtain⟨n,xs,-,-,hq⟩:=hok
   exact⟨(hq b q).1,(hq b q).2.1⟩
 ·rcases at' m y z hm with⟨-,rfl,rfl⟩ | ⟨hne,q⟩
  ·exact hok
  ·obtain⟨n,xs,ho,hz,hq⟩:=h.boxes.grow m y z q
   refine⟨n,xs,⟨ho.1,?_⟩,hz,fun b hb=>?_⟩
   ·rcases ho.2 with q2 | ⟨g,cap,cur,q2,q3,q4,q5⟩
    ·exact .inl q2
    ·have qi:z.ownBlock=some g:=by rw [q2];rfl
     refine .inr ⟨g,cap,cur,q2,q3,?_,q5⟩;rw [jC g (hq g qi).1 (fun e=>hne (h.boxes.apart m j y z x hd g q hj qi e))];exact q4
   ·obtain⟨p1,p2,p3⟩:=hq b hb
    refine⟨eF p1 hsz,p2,fun o ho' nJ=>?_⟩;rcases BH b o nJ with q' | q'
    ·exact p3 o ho' q'
    ·rcases hblk b q' with JS | JS
     ·omega
     ·exact hne (h.boxes.apart m j y z x hd b q hj hb JS)
 ·have key:∀(m:Nat) y z,m≠j→G.g[m]? = some (y,z)→z.ownBlock=some b→hd'.ownBlock=some b→False:=by
   intro m y z hne q hb hb';obtain⟨n,xs,-,-,hq⟩:=h.boxes.grow m y z q;rcases hblk b hb' with JS | JS
   ·have:=(hq b hb).1;omega
   ·exact hne (h.boxes.apart m j y z x hd b q hj hb JS)
  rcases at' m y z hm with⟨e1,-,e2⟩ | ⟨hne,q⟩<;>rcases at' m' y' z' hm' with⟨YQ,-,YR⟩ | ⟨ahn,q'⟩
  ·rw [e1,YQ]
  ·rw [e2] at hb
   exact (key m' y' z' ahn q' hb' hb).elim
  ·rw [YR] at hb'
   exact (key m y z hne q hb hb').elim
  ·exact h.boxes.apart m m' y z y' z' b q q' hb hb'
end
end Go.RT
namespace Go.RT
variable {E : TEnv}
theorem BI {j l n k:Nat} (hj:j<n) (hl:l<k):j * k+l<n * k:=by
 have:(j+1) * k≤n * k:=ir k hj;rw [lD,Nz] at this;omega
theorem Flat.append {w:World} {pr:Nat→Nat→Prop} {k:Nat} {xs ys:List Value} {es fs:List (List DV)} (h:Flat w pr k xs es) (h':Flat w pr k ys fs):Flat w pr k (xs++ys) (es++fs):=by
 have e1:∀j,j<es.length→(es++fs).getD j []=es.getD j []:=fun j hj=>by simp [List.getD,fU hj]
 have e2:∀j,¬ j<es.length→(es++fs).getD j []=fs.getD (j - es.length) []:=fun j hj=>by simp [List.getD,lG (O3 hj)]
 refine⟨by simp [h.1,h'.1,lD],fun j hj=>?_,fun j l hj hl=>?_⟩
 ·by_cases hlt:j<es.length
  ·rw [e1 j hlt];exact h.2.1 j hlt
  ·rw [e2 j hlt];exact h'.2.1 _ (by simp at hj;omega)
 ·by_cases hlt:j<es.length
  ·have hq:j * k+l<xs.length:=by rw [h.1];exact BI hlt hl
   have:(xs++ys).getD (j * k+l) undef=xs.getD (j * k+l) undef:=by simp [List.getD,fU hq]
   rw [this,e1 j hlt];exact h.2.2 j l hlt hl
  ·have hge:es.length≤j:=O3 hlt
   have hq:es.length * k≤j * k+l:=kj (ir k hge) (XK _ _)
   have hsub:j * k+l - es.length * k=(j - es.length) * k+l:=by
    rw [Nat.sub_mul];have:=ir k hge;omega
   have:(xs++ys).getD (j * k+l) undef=ys.getD ((j - es.length) * k+l) undef:=by
    simp only [List.getD];rw [lG (by rw [h.1];exact hq),h.1,hsub]
   rw [this,e2 j hlt];exact h'.2.2 (j - es.length) l (by simp at hj;omega) hl
theorem Flat.nil {w:World} {pr:Nat→Nat→Prop} {k:Nat}:Flat w pr k [] []:=⟨si,fun j hj=>by simp at hj,fun j l hj=>by simp at hj⟩
theorem Flat.one {w:World} {pr:Nat→Nat→Prop} {k:Nat} (hk0:0<k) {xs:List Value} {es:List (List DV)} (h:Flat w pr k xs es):∀u,u∈xs→u.oneCell'=true:=by
 intro u hu;obtain⟨q,hq,rfl⟩:=gZ hu;have U6:q<es.length * k:=by rw [←h.1];exact hq
 have:=(h.2.2 (q / k) (q % k) ((ado hk0).2 U6) (Nat.mod_lt _ hk0)).one;rw [show q / k * k+q % k=q by have:=adp q k;rw [R9] at this;exact this] at this;simpa [List.getD,hq] using this
theorem JT {w:World} {pr:Nat→Nat→Prop} {b k cap:Nat} {es:List (List DV)} {xs:List Value} (hcap:es.length≤cap)
  (hx:∀q,q<es.length * k→pr b q∧w.cell? ⟨b,q,none⟩=some (xs.getD q undef)) (h:Flat w pr k xs es) :
  VD w pr (.slice (some ⟨b,0,none⟩) es.length cap) (.slice k es):=by
 refine .slice b 0 cap k es (fun j l=>xs.getD (j * k+l) undef) hcap h.2.1 (fun j l hj hl=>?_) (fun j l hj hl=>h.2.2 j l hj hl);rw [fC];exact hx _ (BI hj hl)
theorem vq (g:Nat) (t:TypeId):∀(vs:List Value) (o:Nat) (cur:Array Value) (w:World),w.heap[g]? = some (.cells cur t (0,0))→o+vs.length≤cur.size →
  w.setCells g o vs=w.setRow g (cur.toList.take o++vs++cur.toList.drop (o+vs.length)).toArray
 | [],o,cur,w,hg,_=>by
  simp only [World.setCells,qC,kg,lE,um,gY]
  rw [setRow_self w g cur t (0,0) hg]
 | v::rest,o,cur,w,hg,hl=>by
  simp only [World.setCells];rw [setCell_eq_setRow w g o cur t (0,0) v hg];have ih:=vq g t rest (o+1) (cur.setIfInBounds o v) (w.setRow g (cur.setIfInBounds o v)) (setRow_heap w g cur _ t _ hg) (by simp at hl ⊢;omega);rw [ih,setRow_setRow];congr 2;have e:=list_seg_step cur.toList o v rest (by simp at hl ⊢;omega);simpa [aix,Br,XN] using e
theorem VD.flat {w:World} {pr:Nat→Nat→Prop} {v:Value} {k:Nat} {es:List (List DV)} (hk:0<k) (h:VD w pr v (.slice k es)) :
  ∃xs:List Value,Flat w pr k xs es∧((∃a,v=.slice a 0 0∧es=[])∨∃b off cap,v=.slice (some ⟨b,off,none⟩) es.length cap∧es.length≤cap ∧
   ∀q,q<es.length * k→pr b (off+q)∧w.cell? ⟨b,off+q,none⟩=some (xs.getD q undef)):=by
 rcases h.lX with⟨ad,rfl,rfl⟩ | ⟨b,off,cap,c,rfl,hcap,hkk,h0,hv⟩
 ·exact⟨[],Flat.nil,.inl ⟨ad,rfl,rfl⟩⟩
 ·have hg:∀q,q<es.length * k→((List.range (es.length * k)).map fun q=>c (q / k) (q % k)).getD q undef=c (q / k) (q % k):=fun q hq=>by simp [List.getD,hq]
  have hdm:∀q,q<es.length * k→q / k<es.length∧q % k<k:=fun q hq=>⟨(ado hk).2 hq,Nat.mod_lt q hk⟩;refine⟨(List.range (es.length * k)).map fun q=>c (q / k) (q % k),⟨si,hkk,fun j l hj hl=>?_⟩,.inr ⟨b,off,cap,rfl,hcap,fun q hq=>?_⟩⟩
  ·have hlt:=BI hj hl
   have e1:(j * k+l) / k=j:=by rw [R9,Nat.mul_add_div hk,Nat.div_eq_of_lt hl,lE]
   have e2:(j * k+l) % k=l:=by rw [R9,Nat.mul_add_mod,XD hl]
   rw [hg _ hlt,e1,e2];exact hv j l hj hl
  ·obtain⟨d1,d2⟩:=hdm q hq
   have:=h0 (q / k) (q % k) d1 d2;rw [hg q hq]
   have e:off+q / k * k+q % k=off+q:=by
    have:=adp q k;rw [R9] at this;omega
   rw [e] at this;exact this
end Go.RT
namespace Go.RT
variable {E : TEnv}
section
variable {P : Program} {w0 w w' : World} {G0 G G' : au} {st : TS E} {a : Act} {o : Oper}
theorem Rel.append (h:Rel E w0 G0 st a w G) {t tx ty e:TypeId} {i:TI} {j1 j2:Nat} {z:Value} (ht:aB P t=some ⟨.slice e,j1,j2,z⟩) (hi:aB P e=some i)
  (hk0:0<i.size) (hzs:i.zero.cells.size=i.size) {j:Nat} {x:aZ} {v:Value} (hj:G.g[j]? = some (x,v)) (rT:∀c,(j,c)∉st.c) (fZ:x.e=e) (JU:x.k=i.size) {es fs:List (List DV)}
  (hv:VD w G.pr v (.slice i.size es)) {y:Value} {news:List Value} (hsrc:Src P i.size tx y fs.length news w) (hf:Flat w G.pr i.size news fs)
  (h63:es.length+fs.length≤maxLen) (hbytes:(es.length+fs.length) * i.bytes≤140737488355328) :
  ∃v' w' gK,(Builtin.append_ #[t,tx] ty #[v,y]).run P w=.ok v' w' ∧
   Rel E w0 G0 { st with g:=st.g.set j { x with ai:=x.ai+1 } } a w' { G with g:=G.g.set j ({ x with ai:=x.ai+1 },v'),pr:=gK } ∧
   VD w' gK v' (.slice i.size (es++fs)):=by
 obtain⟨xt,eA,bw,-⟩:=aq ht;obtain⟨xe,xH,jA,hsz,hby,hz⟩:=aq hi;obtain⟨n,xs,ho,BJ,hg⟩:=h.boxes.grow j x v hj;obtain⟨xs',hfl,rR⟩:=hv.flat hk0;have XZ:maxLen=9223372036854775807:=rfl;subst fZ;rw [JU] at ho hg;by_cases hm:fs.length=0
 ·have hfs:fs=[]:=oA hm
  subst hfs;have hnn:news=[]:=oA (by simpa using hf.1);subst hnn;refine⟨v,w,G.pr,?_,h.LH hj rT (bM _) rfl rfl rfl (fun _ _ _=>rfl) (fun _ _ _ _ h=>h) G.pr (fun _ _ h=>h) (fun _ _ h=>.inl h) ?_ (fun b hb=>.inr hb),by rw [qC];exact hv⟩
  ·have yC:Src P xe.size tx y 0 [] w:=by rw [hsz];exact hsrc
   rcases rR with⟨ad,rfl,-⟩ | ⟨b,off,cap,rfl,hcap,-⟩
   ·exact run_append_nothing w t tx ty x.e xe bw xH ad 0 0 (bM _) y yC
   ·exact run_append_nothing w t tx ty x.e xe bw xH _ _ _ hcap y yC
  ·exact⟨n,xs,by dsimp only;rw [JU];exact ho,BJ,by dsimp only;rw [JU];exact hg⟩
 have yC:Src P xe.size tx y fs.length news w:=by rw [hsz];exact hsrc
 have hzl:∀c,(Builtin.zeroCells i.zero.cells c).size=c * i.size:=fun c=>by rw [size_zeroCells,hzs]
 have Fo:=hfl.append hf;have hlen:(es++fs).length=es.length+fs.length:=by simp
 have grow:∀(base:Option Addr) (old:Nat),v=.slice base es.length old→old<es.length+fs.length →
   (Builtin.firstCells xe.size es.length (.slice base es.length old)).run P w.drew=.ok xs'.toArray w.drew →
   ∃v' w' gK,(Builtin.append_ #[t,tx] ty #[v,y]).run P w=.ok v' w' ∧
   Rel E w0 G0 { st with g:=st.g.set j { x with ai:=x.ai+1 } } a w' { G with g:=G.g.set j ({ x with ai:=x.ai+1 },v'),pr:=gK } ∧
   VD w' gK v' (.slice i.size (es++fs)):=by
  intro base old vr hlt U7;have hfit:=growslice_fits (need:=es.length+fs.length) (old:=old) (bytes:=xe.bytes) hlt (by rw [hby];exact hbytes);have hr:=run_append_grow_src (P:=P) w t tx ty x.e xe i.zero bw xH hz base es.length old xs' U7 y fs.length news yC hlt (by simp only [XZ] at h63;omega) hfit;have hge:=grownCap_ge w (es.length+fs.length) old x.e;have hcm:=grownCap_le_maxLen w (es.length+fs.length) old x.e h63;generalize hcap:grownCap w (es.length+fs.length) old x.e=cap at hr hge hcm;generalize hcs:(xs'++news).toArray++Builtin.zeroCells i.zero.cells (cap - (es.length+fs.length))=cs at hr
  have JV:cs.size=cap * i.size:=by
   rw [←hcs,XE,Jm,Fo.1,hzl,hlen,←lD];congr 1;omega
  have hcl:cs.toList=(xs'++news)++(Builtin.zeroCells i.zero.cells (cap - (es.length+fs.length))).toList:=by rw [←hcs];simp
  have hheap:(w.drew.alloc (.cells cs x.e)).heap=w.heap.push (.cells cs x.e):=rfl;have hnew:(w.drew.alloc (.cells cs x.e)).heap[w.heap.size]? = some (.cells cs x.e):=by rw [hheap];simp
  have hsame:cL w (w.drew.alloc (.cells cs x.e)):=⟨by rw [hheap];simp,fun b hb=>by rw [hheap,Array.getElem?_push,if_neg om]⟩
  have YS:∀q,q<(es++fs).length * i.size→(w.drew.alloc (.cells cs x.e)).cell? ⟨w.heap.size,q,none⟩=some ((xs'++news).getD q undef):=by
   intro q hq;rw [cell_of_row _ w.heap.size q cs x.e (0,0) hnew];have h1:q<(xs'++news).length:=by rw [Fo.1];exact hq
   have:cs[q]? = cs.toList[q]?:=by simp
   rw [this,hcl,fU h1];simp only [List.getD,bK h1,NA]
  refine⟨_,_,fun b o=>G.pr b o∨(b=w.heap.size∧o<(es++fs).length * i.size),by rw [vr];exact hr,?_,?_⟩
  ·refine h.LH hj rT hsame.1 rfl rfl rfl (fun b hb _=>hsame.2 b hb) (fun b o u _ hu=>hsame.cell hu) _ (fun _ _ h=>.inl h) (fun b o hp=>?_) ?_ (fun b hb=>?_)
   ·rcases hp with hp | ⟨rfl,-⟩
    ·exact .inl hp
    ·exact .inr rfl
   ·refine⟨es.length+fs.length,cs.toList.take ((es.length+fs.length) * i.size),⟨?_,.inr ⟨w.heap.size,cap,cs,rfl,Nat.zero_le _,hnew,hge,hcm,by dsimp only;rw [JU];exact JV,by dsimp only;rw [JU]⟩⟩,fun a m e=>by simp at e;omega,fun b hb=>?_⟩
    ·dsimp only
     rw [JU,gB,show cs.toList.length=cs.size from mz,JV];exact Ee (ir _ hge)
    ·cases hb
     refine⟨by rw [hheap];simp,fun hm=>absurd (h.boxes.lt _ hm) (mA _),fun o ho' hp=>?_⟩;rcases hp with hp | ⟨-,hp⟩
     ·exact absurd (h.boxes.dH _ _ hp).1 (mA _)
     ·dsimp only at ho'
      rw [JU] at ho';rw [hlen] at hp;omega
   ·cases hb;exact .inl (bM _)
  ·rw [←hlen]
   exact JT (xs:=xs'++news) (by rw [hlen];exact hge) (fun q hq=>⟨.inr ⟨rfl,hq⟩,YS q hq⟩) (Fo.mono (fun _ _ h=>.inl h) (fun b o u _ hu=>hsame.cell hu))
 rcases rR with⟨ad,vr,HY⟩ | ⟨b,off,cap,vr,hcap,hcells⟩
 ·subst HY
  have hx':xs'=[]:=oA (by simpa using hfl.1)
  cases ad with
  | some ad =>
   refine grow (some ad) 0 vr bx ?_;rw [hx',hsz]
   exact run_firstCells_some w.drew i.size 0 ad 0 0 [] si (fun j u hu=>by simp at hu)
  | none =>
   refine grow none 0 vr bx ?_;rw [hx'];simp [Builtin.firstCells]
 ·rcases ho.2 with⟨hvn,-⟩ | ⟨g,cap',cur,hvg,hBg,Aj,aoa,hcm,hcs,aob⟩
  ·rw [vr] at hvn;cases hvn
  have aho:=hvg;rw [vr] at aho;simp only [Value.slice.injEq,nh,Addr.mk.injEq] at aho;obtain⟨⟨rfl,rfl,-⟩,hn,rfl⟩:=aho;by_cases hroom:es.length+fs.length≤cap
  ·
   have PI:es.length * i.size+news.length≤cur.size:=by
    rw [hf.1,hcs,←lD];exact ir _ hroom
   have hr:=run_append_room_src (P:=P) w t tx ty x.e xe bw xH b 0 es.length cap y fs.length news yC hroom
    (fun j hj=>by
     rw [cell_of_row w b _ cur x.e (0,0) Aj,hsz];have:0+es.length * i.size+j<cur.size:=om;rw [OZ this];rfl)
    (fun j hj=>frozen_of_row w b _ cur x.e Aj)
   rw [hsz,fC,vq b x.e news (es.length * i.size) cur w Aj PI] at hr;obtain⟨g0,g1,g3⟩:=hg b (by rw [vr];rfl);have wU:b<w.heap.size:=(lF.1 Aj).1;have hnk:n * i.size=es.length * i.size:=by rw [hn]
   let cur':=(cur.toList.take (es.length * i.size)++news++cur.toList.drop (es.length * i.size+news.length)).toArray
   have amw:cur'.size=cur.size:=by
    simp only [cur',Jm,eW,gB,xw,mz];omega
   have hhb:(w.setRow b cur').heap[b]? = some (.cells cur' x.e (0,0)):=setRow_heap w b cur _ x.e _ Aj;have zO:∀b',b'≠b→(w.setRow b cur').heap[b']? = w.heap[b']?:=fun b' hb'=>setRow_other w b b' _ hb'
   have ad7:xs'=cur.toList.take (es.length * i.size):=by
    have hl1:xs'.length=(cur.toList.take (es.length * i.size)).length:=by
     rw [hfl.1,gB,show cur.toList.length=cur.size from mz,hcs];exact (Ee (ir _ hcap)).symm
    refine zE hl1 fun q h1 h2=>?_;have hq:q<es.length * i.size:=by rw [←hfl.1];exact h1
    have hc:=(hcells q hq).2;rw [fC,cell_of_row w b q cur x.e (0,0) Aj] at hc
    have hqc:q<cur.size:=by
     rw [hcs];exact eF hq (ir _ hcap)
    simp [hqc,List.getD,h1] at hc;simp [hc]
   have rU:cur'.toList=(xs'++news)++cur.toList.drop (es.length * i.size+news.length):=by
    simp only [cur',ad7,iu]
   have hgc:∀o u,G.pr b o→w.cell? ⟨b,o,none⟩=some u→(w.setRow b cur').cell? ⟨b,o,none⟩=some u:=by
    intro o u hp hu
    have hlt:o<es.length * i.size:=by
     rcases ur o (es.length * i.size) with h | h
     ·exact h
     ·exact (g3 o (by rw [hnk];exact h) hp).elim
    rw [cell_of_row w b o cur x.e (0,0) Aj] at hu;rw [cell_of_row _ b o cur' x.e (0,0) hhb];have hoc:o<cur.size:=by rw [hcs];exact eF hlt (ir _ hcap)
    simp [hoc] at hu;have:cur'[o]? = cur'.toList[o]?:=by simp
    rw [this,rU,iu,fU (by rw [hfl.1];exact hlt),ad7,qD,if_pos hlt];simp [hoc,hu]
   have fJ:∀b' o u,G.pr b' o→w.cell? ⟨b',o,none⟩=some u→(w.setRow b cur').cell? ⟨b',o,none⟩=some u:=by
    intro b' o u hp hu;by_cases he:b'=b
    ·subst he;exact hgc o u hp hu
    ·rw [World.cell?_of_block (zO b' he)];exact hu
   have YS:∀q,q<(es++fs).length * i.size→(w.setRow b cur').cell? ⟨b,q,none⟩=some ((xs'++news).getD q undef):=by
    intro q hq;rw [cell_of_row _ b q cur' x.e (0,0) hhb];have h1:q<(xs'++news).length:=by rw [Fo.1];exact hq
    have:cur'[q]? = cur'.toList[q]?:=by simp
    rw [this,rU,fU h1];simp only [List.getD,bK h1,NA]
   refine⟨_,_,fun b' o=>G.pr b' o∨(b'=b∧o<(es++fs).length * i.size),by rw [vr];exact hr,?_,?_⟩
   ·refine h.LH (w':=w.setRow b cur') hj rT si rfl rfl rfl (fun b' _ hne=>zO b' (fun e'=>hne (by rw [vr,e'];rfl))) fJ (fun b' o=>G.pr b' o∨(b'=b∧o<(es++fs).length * i.size)) (fun _ _ h=>.inl h) (fun b' o hp=>?_) ?_ (fun b' hb'=>.inr (by rw [vr];exact hb'))
    ·rcases hp with hp | ⟨rfl,-⟩
     ·exact .inl hp
     ·exact .inr rfl
    ·refine⟨es.length+fs.length,xs'++news,⟨by dsimp only;rw [Fo.1,hlen,JU],.inr ⟨b,cap,cur',rfl,hBg,hhb,hroom,hcm,by dsimp only;rw [amw,JU];exact hcs,?_⟩⟩,fun a m e=>by simp at e;omega,fun g' hg'=>?_⟩
     ·dsimp only
      rw [JU,rU,←hlen,←Fo.1,adk]
     ·cases hg'
      refine⟨by simpa using g0,g1,fun o ho' hp=>?_⟩;dsimp only at ho';rw [JU] at ho';rcases hp with hp | ⟨-,hp⟩
      ·refine g3 o ?_ hp
       rw [hnk];exact kj (ir _ (XK _ _)) ho'
      ·rw [hlen] at hp;omega
   ·rw [show es.length+fs.length=(es++fs).length from hlen.symm]
    exact JT (xs:=xs'++news) (by rw [hlen];exact hroom) (fun q hq=>⟨.inr ⟨rfl,hq⟩,YS q hq⟩) (Fo.mono (fun _ _ hp=>.inl hp) fJ)
  ·refine grow _ cap vr om ?_
   rw [hsz];refine run_firstCells_some w.drew i.size es.length ⟨b,0,none⟩ es.length cap xs' hfl.1 (fun j u hu=>?_);have hj:j<xs'.length:=(bS.1 hu).1;have:=(hcells j (by rw [←hfl.1];exact hj)).2;rw [add_lit];simp [List.getD,hu] at this ⊢;exact this
end
end Go.RT
namespace Go.RT
variable {E : TEnv}
theorem Flat.SE {w:World} {pr:Nat→Nat→Prop} {k:Nat}:∀ {rows:List (List Value)} {es:List (List DV)},rows.length=es.length→(∀j,j<es.length→(es.getD j []).length=k) →
  (∀j,j<es.length→LD w pr (rows.getD j []) (es.getD j []))→Flat w pr k rows.flatten es
 | [],[],_,_,_=>Flat.nil
 | r::rows,e::es,hl,hk,h=>by
  have h0:=h 0 si;have hk0:=hk 0 si;simp only [List.getD_cons_zero] at h0 hk0;have ih:=Flat.SE (k:=k) (rows:=rows) (es:=es) (by simpa using hl) (fun j hj=>by simpa using hk (j+1) (by simpa using hj)) (fun j hj=>by simpa using h (j+1) (by simpa using hj))
  have h1:Flat w pr k r [e]:=by
   refine⟨by simp [h0.length,hk0],fun j hj=>?_,fun j l hj hl'=>?_⟩
   ·simp at hj;subst hj;simpa using hk0
   ·simp at hj;subst hj
    have:∀ {vs:List Value} {ds:List DV} (l:Nat),LD w pr vs ds→l<ds.length→VD w pr (vs.getD l undef) (ds.getD l default):=by
     intro vs
     induction vs with
     | nil=>intro ds l h hl;cases ds with | nil=>simp at hl | cons _ _=>exact h.elim
     | cons v vs ih =>
      intro ds l h hl
      cases ds with
      | nil=>exact h.elim
      | cons d ds =>
       cases l with
       | zero=>simpa using h.1
       | succ l=>simpa using ih l h.2 (by simpa using hl)
    simpa using this l h0 (by rw [hk0];exact hl')
  have:=h1.append ih
  simpa using this
 | [],_::_,hl,_,_=>by simp at hl
 | _::_,[],hl,_,_=>by simp at hl
theorem VT.Dk {w:World} {G:au} {T:Ty} {x:T.den E.D} {v:Value} (h:VT E w G (.dat T x) v):LD w G.pr v.cells.toList (T.cells E x):=by
 cases ha:T.isAgg
 ·have h0:=h.atom ha
  have h1:=h0.one v si;have:v.cells=#[v]:=by cases v<;>first | rfl | cases h1
  rw [this];exact h0
 ·obtain⟨vs,rfl,h0⟩:=h.ad4 ha
  exact h0
def jK (T:Ty):List (TV E)→Option (List (T.den E.D))
 | []=>some []
 | d::ds=>match d.get T,jK T ds with
  | some x,some xs=>some (x::xs)
  | _,_=>none
theorem xI {T:Ty}:∀ {ds:List (TV E)} {xs:List (T.den E.D)},jK T ds=some xs→xs.length=ds.length
 | [],xs,h=>by cases h;rfl
 | d::ds,xs,h=>by
  simp only [jK] at h;split at h<;>try (cases h;done)
  rename_i x xs' h1 h2;cases h;simp [xI h2]
section
variable {P : Program} {w0 w w' : World} {G0 G G' : au} {st : TS E} {a : Act} {o : Oper}
theorem PJ (hr:Rel E w0 G0 st a w G) {T:Ty}:∀ {l:List Operand} {xs:List (T.den E.D)},jK T (l.map st.ev)=some xs →
  ∀j,j<l.length→LD w G.pr ((l.map fun x=>(a.eval x).cells.toList).getD j []) ((xs.map (T.cells E)).getD j [])
 | [],xs,_,j,hj=>by simp at hj
 | x::l,xs,h,j,hj=>by
  simp only [eV,jK] at h;split at h<;>try (cases h;done)
  rename_i y ys h1 h2;cases h
  cases j with
  | zero=>simpa using (TV.nF h1 (hr.ev x)).Dk
  | succ j=>simpa using PJ hr h2 j (by simpa using hj)
theorem ad8 (hr:Rel E w0 G0 st a w G) {t:TypeId} {i:TI} (ho:o.op=.alloc t) (ht:aB P t=some i) (hz:i.zero.cells.toList.all (·.oneCell')=true) :
  fu P w0 G0 a w o { st with t:=br st.t o.dst (.ptr st.H.length 0),H:=st.H++[.cells t (i.zero.cells.toList.map TV.JM)] }:=by
 refine Ek (ob:=.cells i.zero.cells t) hr ?_ ?_
 ·exact⟨i.zero.cells,heap_alloc_new w _,fun u hu=>nk.1 hz u (by simpa using hu),aP.ofValues⟩
 ·obtain⟨x,hx,hu,hs,hb,hzz⟩:=aq ht
  simp only [execOp,ho,Instr.alloc,Sem.run_bind,ji ht,Result.andThen_ok];rfl
theorem ahp (hE:E.Ok) (hr:Rel E w0 G0 st a w G) {t:TypeId} {x:Operand} (ho:o.op=.box t x) {cs:List (TV E)} (hc:(st.ev x).kO=some cs) :
  fu P w0 G0 a w o { st with t:=br st.t o.dst (.ptr st.H.length 0),H:=st.H++[.cells t cs] }:=by
 obtain⟨h1,h2⟩:=qO hE (hr.ev x) hc;refine Ek (ob:=.cells (a.eval x).cells t) hr ?_ ?_
 ·have hg:ez w G (w.alloc (.cells (a.eval x).cells t)) G:=⟨fun _ _ h=>h,fun b o v _ hv=>(cL.alloc w _).cell hv,fun _ _ h=>h,fun j x y hj=>⟨x,y,hj,bM _,fun _=>rfl⟩⟩
  exact⟨(a.eval x).cells,heap_alloc_new w _,h2,h1.mono hg⟩
 ·simp only [execOp,ho,Instr.box,Sem.run_bind]
  rfl
theorem Rel.akQ (h:Rel E w0 G0 st a w G) {e:TypeId} {k n cap:Nat} {cur:Array Value} (hsz:cur.size=cap * k) (hn:n≤cap) (hc0:0<cap) (hcap:cap≤maxLen) {T:Ty} {xs:List (T.den E.D)} (hk:k=T.size E) (hl:xs.length=n)
  (hf:Flat w G.pr k (cur.toList.take (n * k)) (xs.map (T.cells E))) (dst:Option Nat) :
  ∃G',Rel E w0 G0 { st with t:=br st.t dst (.bn st.g.length 0 T xs),g:=st.g++[⟨0,e,k⟩] } (a.put dst (.slice (some ⟨w.heap.size,0,none⟩) n cap)) (w.alloc (.cells cur e)) G':=by
 have hN:=h.newRow (e:=e) hsz hn hc0 hcap;refine⟨_,hN.put (d:=.bn st.g.length 0 T xs) ?_ dst⟩;simp only [VT];subst hk;refine⟨?_,⟨0,e,T.size E⟩,_,?_,bM _,fun _=>rfl⟩
 ·have hlm:(xs.map (T.cells E)).length=n:=by simp [hl]
  have:=JT (w:=w.alloc (.cells cur e)) (pr:=fun b o=>G.pr b o∨(b=w.heap.size∧o<n * T.size E)) (b:=w.heap.size) (cap:=cap) (es:=xs.map (T.cells E)) (xs:=cur.toList.take (n * T.size E)) (by rw [hlm];exact hn)
   (fun q hq=>by
    rw [hlm] at hq;refine⟨.inr ⟨rfl,hq⟩,?_⟩;rw [cell_of_row _ w.heap.size q cur e (0,0) (heap_alloc_new w _)];have M0:q<cur.size:=by rw [hsz];exact eF hq (ir _ hn)
    simp [List.getD,hq,M0])
   (hf.mono (fun _ _ h=>.inl h) (fun b o v _ hv=>(cL.alloc w _).cell hv))
  rw [hlm] at this;exact this
 ·have:=h.boxes.gs
  have hl2:G.g.length=st.g.length:=by rw [←this];simp
  show (G.g++[_])[st.g.length]? = _;rw [lG om];simp [hl2]
theorem JW {k:Nat}:∀(vs:List Value) (m:Nat) (cells:Array Value),(∀v,v∈vs→v.cells.size=k)→(m+vs.length) * k≤cells.size →
  Instr.fill (fun i=>some (i * k,k)) cells ((List.range' m vs.length).zip vs)=some (cells.toList.take (m * k)++(vs.map fun v=>v.cells.toList).flatten++cells.toList.drop ((m+vs.length) * k)).toArray
 | [],m,cells,_,_=>by simp [Instr.fill]
 | v::vs,m,cells,hk,hle=>by
  have hv:=hk v si;have hle':(m+1+vs.length) * k≤cells.size:=by simpa [XN,Nat.add_left_comm,Br] using hle
  have hmk:m * k+k≤cells.size:=by
   have:(m+1) * k≤(m+1+vs.length) * k:=ir k om;rw [lD,Nz] at this;omega
  simp only [jd,List.range'_succ,O1];rw [U4 rfl hv hmk];have hcl:cells.toList.length=cells.size:=mz
  have hsz:(cells.toList.take (m * k)++v.cells.toList++cells.toList.drop (m * k+v.cells.size)).toArray.size=cells.size:=by
   simp only [Jm,eW,gB,xw,hcl,mz,hv];omega
  rw [JW vs (m+1) _ (fun u hu=>hk u (by simp [hu])) (by rw [hsz];exact hle')];congr 2;simp only [eV,adx]
  have hl2:(cells.toList.take (m * k)++v.cells.toList).length=(m+1) * k:=by
   rw [eW,gB,hcl,mz,hv,lD,Nz];omega
  rw [aiw (by rw [hl2];exact bM _),←hl2,Bx]
  have hd:(cells.toList.take (m * k)++v.cells.toList++cells.toList.drop (m * k+v.cells.size)).drop ((m+1+vs.length) * k)=cells.toList.drop ((m+(vs.length+1)) * k):=by
   rw [XA,hl2]
   have h0:(cells.toList.take (m * k)++v.cells.toList).drop ((m+1+vs.length) * k)=[]:=by
    apply Ny;rw [hl2];exact ir k om
   rw [h0,iV,XB,hv];congr 1;have e1:(m+1+vs.length) * k=(m+1) * k+vs.length * k:=lD _ _ _;have e2:(m+(vs.length+1)) * k=m * k+(vs.length * k+k):=by rw [lD,lD,Nz]
   have e3:(m+1) * k=m * k+k:=by rw [lD,Nz]
   omega
  rw [hd];simp [iu]
theorem JX (hE:E.Ok) (hr:Rel E w0 G0 st a w G) {t e:TypeId} {len:Nat} {parts:Array (Nat × Operand)} {j1 j2:Nat} {z:Value} {ie:TI} (ho:o.op=.buildSlice t len parts)
  (ht:aB P t=some ⟨.slice e,j1,j2,z⟩) (hi:aB P e=some ie) (h1:parts.toList.map (·.1)=List.range len) (h2:len * ie.size≤16777216) (h3:0<ie.size) (h0':0<len)
  {T:Ty} {xs:List (T.den E.D)} (hk:ie.size=T.size E) (hx:jK T (parts.toList.map fun p=>st.ev p.2)=some xs) :
  ∃cs:Array Value,(execOp a.eval o).run P w=.ok (.value (.slice (some ⟨w.heap.size,0,none⟩) len len)) (w.alloc (.cells cs e))∧cs.size=len * ie.size∧xs.length=len∧Flat w G.pr ie.size (cs.toList.take (len * ie.size)) (xs.map (T.cells E)):=by
 obtain⟨xt,eA,bw,-⟩:=aq ht;obtain⟨xe,fZ,jA,hsz,-⟩:=aq hi;have hlen:parts.toList.length=len:=by simpa using congrArg List.length h1
 let vs:=parts.toList.map fun p=>a.eval p.2
 have hvl:vs.length=len:=by simp [vs,hlen]
 have YT:=PJ hr (l:=parts.toList.map (·.2)) (T:=T) (xs:=xs) (by rw [qE];exact hx);have hxl:=xI hx;have hrow:(parts.toList.map (·.2)).map (fun x=>(a.eval x).cells.toList)=vs.map fun v=>v.cells.toList:=by simp [vs,qE,Function.comp_def]
 rw [hrow] at YT;have yD:xs.length=len:=by rw [hxl];simp [hlen]
 have hck:∀j,j<(xs.map (T.cells E)).length→((xs.map (T.cells E)).getD j []).length=ie.size:=fun j hj=>by
  have hj':j<xs.length:=by simpa using hj
  rw [hk,show (xs.map (T.cells E)).getD j []=T.cells E xs[j] by simp [List.getD,hj'],Ty.qN E hE]
 have PK:Flat w G.pr ie.size (vs.map fun v=>v.cells.toList).flatten (xs.map (T.cells E)) :=
  Flat.SE (by simp [hvl,yD]) hck (fun j hj=>YT j (by rw [oC];rw [oC,yD] at hj;rw [hlen];exact hj))
 have hvk:∀v,v∈vs→v.cells.size=ie.size:=by
  intro v hv;obtain⟨j,hj,rfl⟩:=gZ hv;have hjl:j<len:=by rw [←hvl];exact hj
  have:=(YT j (by simpa [hlen] using hjl)).length;rw [hck j (by simpa [yD] using hjl)] at this;simpa [List.getD,hj] using this
 have anu:(parts.map fun (i,x)=>(i,a.eval x)).toList=(List.range' 0 vs.length).zip vs:=by
  rw [hvl,←List.range_eq_range',←h1];simp only [Array.toList_map,vs];generalize parts.toList=l
  induction l with
  | nil=>rfl
  | cons p l ih=>simp [ih]
 let zero:Array Value:=if len * ie.size=0 then #[] else ie.zero.cells
 let base:Array Value:=(Array.range (len * ie.size)).map (zero[· % zero.size]!)
 have nI:base.size=len * ie.size:=by simp [base]
 have ad9:=JW (k:=ie.size) vs 0 base hvk (by rw [nI,hvl];simp);have wU:base.toList.length=base.size:=mz
 let cs:Array Value:=((vs.map fun v=>v.cells.toList).flatten).toArray
 have akR:Instr.fill (fun i=>some (i * ie.size,ie.size)) base (parts.map fun (i,x)=>(i,a.eval x)).toList=some cs:=by
  rw [anu,ad9,hvl];have:base.toList.drop ((0+len) * ie.size)=[]:=Ny (by rw [wU,nI,fC];exact bM _);rw [this];simp [cs]
 have hrun:(execOp a.eval o).run P w=.ok (.value (.slice (some ⟨w.heap.size,0,none⟩) len len)) (w.alloc (.cells cs e)):=by
  simp only [execOp,ho,Instr.buildSlice,Sem.run_bind,ak bw,Result.andThen_ok,bQ fZ,hsz];rw [if_neg (show ¬ len * ie.size>2 ^ 24 by simpa using h2)];have PM:Instr.fill (fun i=>some (i * ie.size,ie.size)) ((Array.range (len * ie.size)).map (zero[· % zero.size]!)) (parts.map fun x=>(x.1,a.eval x.2)).toList=some cs:=akR;by_cases h0:len * ie.size=0
  ·rw [if_pos h0]
   have hz:zero=#[]:=by simp only [zero,if_pos h0]
   rw [hz] at PM;simp only [Sem.run_bind,Sem.run_pure,Result.andThen_ok,PM,newRow];rfl
  ·rw [if_neg h0]
   have hz:zero=ie.zero.cells:=by simp only [zero,if_neg h0]
   rw [hz] at PM;simp only [Sem.run_bind,Sem.run_pure,ji hi,Result.andThen_ok,PM,newRow];rfl
 have hcs:cs.size=len * ie.size:=by
  have:=PK.1;simp only [cs,Jm,this];simp [yD]
 refine⟨cs,hrun,hcs,yD,?_⟩
 have e1:cs.toList.take (len * ie.size)=(vs.map fun v=>v.cells.toList).flatten:=by
  have e0:cs.toList=(vs.map fun v=>v.cells.toList).flatten:=by simp only [cs]
  rw [e0,mw];rw [PK.1,oC,yD];exact bM _
 rw [e1];exact PK
theorem PN (hE:E.Ok) (hr:Rel E w0 G0 st a w G) {t e:TypeId} {len:Nat} {parts:Array (Nat × Operand)} {j1 j2:Nat} {z:Value} {ie:TI} (ho:o.op=.buildSlice t len parts)
  (ht:aB P t=some ⟨.slice e,j1,j2,z⟩) (hi:aB P e=some ie) (h1:parts.toList.map (·.1)=List.range len) (h2:len * ie.size≤16777216) (h3:0<ie.size) (h0':0<len)
  {T:Ty} {xs:List (T.den E.D)} (hk:ie.size=T.size E) (hx:jK T (parts.toList.map fun p=>st.ev p.2)=some xs) :
  fu P w0 G0 a w o { st with t:=br st.t o.dst (.bn st.g.length 0 T xs),g:=st.g++[⟨0,e,ie.size⟩] }:=by
 obtain⟨cs,hrun,hcs,yD,hfl⟩:=JX hE hr ho ht hi h1 h2 h3 h0' hk hx
 obtain⟨G',hG'⟩:=hr.akQ (e:=e) (k:=ie.size) (n:=len) (cap:=len) (cur:=cs) hcs (bM _) h0' (by
   have:len≤len * ie.size:=aiq _ h3;have hm:maxLen=9223372036854775807:=rfl;omega) hk yD hfl o.dst
 exact⟨_,_,_,G',hrun,.inl rfl,hG'⟩
theorem ahq (hr:Rel E w0 G0 st a w G) {y:Operand} {tx:TypeId} {ix:TI} {e':TypeId} (tB:aB P tx=some ix) (U8:ix.kind=.slice e') {T:Ty} (hk0:0<T.size E) {xs:List (T.den E.D)}
  (hd:VD w G.pr (a.eval y) (.slice (T.size E) (xs.map (T.cells E)))):∃news,Src P (T.size E) tx (a.eval y) xs.length news w∧Flat w G.pr (T.size E) news (xs.map (T.cells E)):=by
 obtain⟨xt,eA,bw,-⟩:=aq tB;rw [U8] at bw;obtain⟨cs,hfl,rR⟩:=hd.flat hk0;refine⟨cs,?_,hfl⟩;have hone:=hfl.one hk0;have hl:(xs.map (T.cells E)).length=xs.length:=by simp
 rcases rR with⟨ad,he,hn⟩ | ⟨b,off,cap,he,hcap,hcells⟩
 ·have hx:cs=[]:=oA (by rw [hfl.1,hn];simp)
  have hx':xs=[]:=by simpa using hn
  subst hx';rw [he,hx]
  cases ad with
  | none=>exact Src.ofNil w bw 0
  | some ad=>exact Src.ofSlice w bw ad 0 0 [] si (fun j u hu=>by simp at hu) (fun u hu=>by simp at hu)
 ·rw [he,hl]
  refine Src.ofSlice w bw _ _ _ cs (by rw [hfl.1,hl]) (fun j u hu=>?_) hone;have hj:j<cs.length:=(bS.1 hu).1;have:=(hcells j (by rw [←hfl.1];exact hj)).2;rw [add_lit,this];simp [List.getD,hu]
def bI (l:List UInt8):List Int:=l.map fun b=>(b.toNat:Int)
theorem aea (hr:Rel E w0 G0 st a w G) {y:Operand} {tx:TypeId} {ix:TI} (tB:aB P tx=some ix) (U8:ix.kind=.string) {l:List UInt8} (hd:st.ev y=.dat .str l) :
  ∃news,Src P 1 tx (a.eval y) l.length news w∧Flat w G.pr 1 news ((bI l).map (Ty.cells E (.int .u8))):=by
 obtain⟨xt,eA,bw,-⟩:=aq tB;rw [U8] at bw;have hv:=hr.ev y;rw [hd] at hv;rw [hv.ep];refine⟨byteCells ⟨⟨l⟩⟩,?_,?_⟩
 ·exact Src.ofString (P:=P) w bw ⟨⟨l⟩⟩
 ·refine⟨by simp [byteCells,bI],fun j hj=>?_,fun j k hj hk=>?_⟩
  ·simp [bI] at hj
   simp [List.getD,hj,bI,Ty.cells]
  ·simp [bI] at hj
   obtain rfl:k=0:=om;have e1:(byteCells ⟨⟨l⟩⟩).getD (j * 1+0) undef=.int .u8 l[j].toNat:=by simp [byteCells,List.getD,hj]
   have e2:(((bI l).map (Ty.cells E (.int .u8))).getD j []).getD 0 default=.int .u8 l[j].toNat:=by simp [List.getD,hj,bI,Ty.cells]
   rw [e1,e2];exact .int _ _
theorem abw (hE:E.Ok) (hr:Rel E w0 G0 st a w G) {c:Call} {x y:Operand} {t tx e:TypeId} {j1 j2:Nat} {z:Value} {ie:TI} (ho:o.op=.call c) (hcl:c.callee=.builtin .append)
  (ha:c.args.toList=[x,y]) (hat:c.argTypes.toList=[t,tx]) (ht:aB P t=some ⟨.slice e,j1,j2,z⟩) (hi:aB P e=some ie) {j ai:Nat} {T:Ty} {xs ys:List (T.den E.D)}
  (hx:st.ev x=.bn j ai T xs) {g:aZ} (hg:st.g[j]? = some g) (rT:∀c,(j,c)∉st.c) (GB:g.ai=ai) (hge:g.e=e) (pM:g.k=ie.size) (hk:ie.size=T.size E) (hk0:0<ie.size) (hzs:ie.zero.cells.size=ie.size)
  (h63:xs.length+ys.length≤9223372036854775807) (hbytes:(xs.length+ys.length) * ie.bytes≤140737488355328)
  {news:List Value} (hsrc:Src P ie.size tx (a.eval y) ys.length news w) (hf:Flat w G.pr ie.size news (ys.map (T.cells E))) :
  fu P w0 G0 a w o { st with t:=br st.t o.dst (.bn j (g.ai+1) T (xs++ys)),g:=st.g.set j { g with ai:=g.ai+1 } }:=by
 have mT:c.args=#[x,y]:=by rw [←gY (xs:=c.args),ha]
 have kP:c.argTypes=#[t,tx]:=by rw [←gY (xs:=c.argTypes),hat]
 have hv:=hr.ev x;rw [hx] at hv;simp only [VT] at hv;obtain⟨uD,gx,gh,gv,hle,heq⟩:=hv
 have Aj:gx=g:=by
  have:=hr.boxes.gs;have h2:(G.g.map (·.1))[j]? = some gx:=by simp [gv]
  rw [this,hg] at h2;exact (gC h2).symm
 subst Aj;have dL:=heq GB.symm;rw [←dL] at gv;have hl1:(xs.map (T.cells E)).length=xs.length:=by simp
 have hl2:(ys.map (T.cells E)).length=ys.length:=by simp
 obtain⟨v',w',gK,hrun,hR,hV⟩:=hr.append (P:=P) (t:=t) (tx:=tx) (ty:=o.type) (i:=ie) (e:=e) ht hi hk0 hzs gv rT hge pM (es:=xs.map (T.cells E)) (fs:=ys.map (T.cells E)) (y:=a.eval y) (news:=news)
  (by rw [hk];exact uD) (by rw [hl2];exact hsrc) hf (by rw [hl1,hl2];exact h63) (by rw [hl1,hl2];exact hbytes)
 refine⟨.value v',v',w',_,?_,.inl rfl,hR.put (d:=.bn j (gx.ai+1) T (xs++ys)) ?_ o.dst⟩
 ·unfold execOp
  simp only [ho,resolve,hcl,Sem.run_bind,Sem.run_pure,Result.andThen_ok,invoke,builtin,mT,kP,p6,eV,ni];rw [hrun];rfl
 ·simp only [VT]
  have hjl:j<G.g.length:=(bS.1 gv).1;refine⟨by rw [zH,←hk];exact hV,{ gx with ai:=gx.ai+1 },v',by simp [hjl],bM _,fun _=>rfl⟩
end
end Go.RT
namespace Go.RT
variable {E : TEnv}
def N1:DV→DV→Option Bool
 | .int _ a,.int _ b=>some (a==b)
 | .bool a,.bool b=>some (a==b)
 | .str a,.str b=>some (a==b)
 | _,_=>none
def mX:List DV→List DV→Option Bool
 | [],[]=>some true
 | a::as,b::bs=>match N1 a b,mX as bs with
  | some p,some q=>some (p&&q)
  | _,_=>none
 | _,_=>none
def Dl (P:Program) (t:TypeId):DV→Bool
 | .int k _=>match P.underlying t with
  | some (.int k')=>decide (k=k')
  | _=>false
 | .bool _=>match P.underlying t with
  | some .bool=>true
  | _=>false
 | .str _=>match P.underlying t with
  | some .string=>true
  | _=>false
 | _=>false
def qP (P:Program):Nat→List Field→List DV→List DV→Bool
 | _,[],[],[]=>true
 | n,f::fs,d::ds,c::cs=>Nat.beq f.offset n && !(f.name == "_")&&Dl P f.type d&&Dl P f.type c&&qP P (n+1) fs ds cs
 | _,_,_,_=>false
theorem amx {P:Program} {w:World} {pr:Nat→Nat→Prop} {t:TypeId} {u v:Value} {d c:DV} {b:Bool} (hu:VD w pr u d) (hv:VD w pr v c) (hd:Dl P t d=true) (hc:Dl P t c=true) (h:N1 d c=some b) :
  (∀w',(isAgg t).run P w'=.ok false w')∧∀w' n,(Op.equalIn (n+1) t u v).run P w'=.ok b w':=by
 unfold N1 at h;split at h<;>try (cases h;done)
 ·rename_i k a k' a'
  cases h;cases hu;cases hv;unfold Dl at hd hc
  cases ht:P.underlying t with
  | none=>rw [ht] at hd;cases hd
  | some dd =>
   rw [ht] at hd hc;cases dd<;>simp only [Bw,decide_eq_true_eq] at hd hc;subst hd;subst hc;exact⟨fun w'=>by simp [isAgg,ak ht],fun w' n=>run_equalIn_int w' n t _ _ a a' ht⟩
 ·rename_i a a'
  cases h;cases hu;cases hv;unfold Dl at hd
  cases ht:P.underlying t with
  | none=>rw [ht] at hd;cases hd
  | some dd =>
   rw [ht] at hd;cases dd<;>simp only [Bw] at hd;exact⟨fun w'=>by simp [isAgg,ak ht],fun w' n=>run_equalIn_bool' w' n t a a' ht⟩
 ·rename_i a a'
  cases h;cases hu;cases hv;unfold Dl at hd
  cases ht:P.underlying t with
  | none=>rw [ht] at hd;cases hd
  | some dd =>
   rw [ht] at hd;cases dd<;>simp only [Bw] at hd
   exact⟨fun w'=>by simp [isAgg,ak ht],fun w' n=>by
    have:=run_equalIn_string (P:=P) w' n t ⟨⟨a⟩⟩ ⟨⟨a'⟩⟩ ht;simpa [mkStr] using this⟩
theorem YU {P:Program} {w:World} {pr:Nat→Nat→Prop} {xs ys:Array Value}:∀(fs:List Field) (n:Nat) (as bs:List Value) (ds cs:List DV) (b:Bool),(∀j:Nat,xs[n+j]? = as[j]?)→(∀j:Nat,ys[n+j]? = bs[j]?) →
  LD w pr as ds→LD w pr bs cs→qP P n fs ds cs=true→mX ds cs=some b→∀w' d,(Op.eqFields (d+1) xs ys fs).run P w'=.ok b w'
 | [],n,as,bs,[],[],b,_,_,_,_,_,h,w',d=>by
  cases h
  simp [Op.eqFields]
 | f::fs,n,a::as,b'::bs,dd::ds,c::cs,b,hx,hy,hA,hB,hf,h,w',d=>by
  simp only [qP,aV,nq] at hf;obtain⟨⟨⟨⟨f1,f2⟩,f3⟩,f4⟩,f5⟩:=hf;have f1:=bt f1
  have f2:f.name ≠ "_" := by simpa using f2
  unfold mX at h
  cases h1:N1 dd c with
  | none=>rw [h1] at h;cases h
  | some p =>
   cases h2:mX ds cs with
   | none=>rw [h1,h2] at h;cases h
   | some q =>
    rw [h1,h2] at h;cases h;obtain⟨g1,g2⟩:=amx hA.1 hB.1 f3 f4 h1;have hx0:xs[f.offset]? = some a:=by rw [f1];simpa using hx 0
    have hy0:ys[f.offset]? = some b':=by rw [f1];simpa using hy 0
    have px:∀w',(part f.type xs f.offset).run P w'=.ok a w':=fun w'=>by simp [part,g1,hx0]
    have py:∀w',(part f.type ys f.offset).run P w'=.ok b' w':=fun w'=>by simp [part,g1,hy0]
    have ih:=YU fs (n+1) as bs ds cs q (fun j=>by have:=hx (j+1);rw [show n+(j+1)=n+1+j by omega] at this;simpa using this) (fun j=>by have:=hy (j+1);rw [show n+(j+1)=n+1+j by omega] at this;simpa using this) hA.2 hB.2 f5 h2 w' d;simp only [Op.eqFields];rw [if_pos f2];simp only [Sem.run_bind,px,py,g2,Result.andThen_ok]
    cases p with
    | false=>simp
    | true=>simpa using ih
 | [],_,_,_,_::_,_,_,_,_,_,_,hf,_,_,_=>by simp [qP] at hf
 | [],_,_,_,[],_::_,_,_,_,_,_,hf,_,_,_=>by simp [qP] at hf
 | _::_,_,_,_,[],_,_,_,_,_,_,hf,_,_,_=>by simp [qP] at hf
 | _::_,_,_,_,_::_,[],_,_,_,_,_,hf,_,_,_=>by simp [qP] at hf
 | _::_,_,[],_,_::_,_::_,_,_,_,hA,_,_,_,_,_=>hA.elim
 | _::_,_,_::_,[],_::_,_::_,_,_,_,_,hB,_,_,_,_=>hB.elim
def eqX (P:Program) (t:TypeId) (yc:Bool) (x y:TV E):Option Bool :=
 match aB P t,x,y with
 | some ⟨.bool,_,_,_⟩,.dat .bool a,.dat .bool b=>some (a==b)
 | some ⟨.pointer _,_,_,_⟩,.kN c _ _,.val (.pointer none)=>some (!c)
 | some ⟨.pointer _,_,_,_⟩,.ptr _ _,.val (.pointer none)=>some false
 | some ⟨.pointer _,_,_,_⟩,.lV _ _ _,.val (.pointer none)=>some false
 | some ⟨.slice _,_,_,_⟩,.vn _ _ _,.val (.slice none 0 0)=>some false
 | some ⟨.pointer _,_,_,_⟩,.val (.pointer none),.val (.pointer none)=>some true
 | some ⟨.pointer e,_,_,_⟩,.kN c r off,.ptr r' off'=>cond (Nat.beq r r'&&Nat.beq off off') (match aB P e with | some _=>some c | none=>none) none
 | some ⟨.pointer e,_,_,_⟩,.ptr r off,.ptr r' off'=>cond (Nat.beq r r'&&Nat.beq off off') (match aB P e with | some _=>some true | none=>none) none
 | some ⟨.interface _,_,_,_⟩,.iface _ _,.val .nilIface=>some false
 | some ⟨.interface _,_,_,_⟩,.val .nilIface,.val .nilIface=>cond yc (some true) none
 | some ⟨.func _ _ _,_,_,_⟩,.func _ _,.val .nilFunc=>some false
 | some ⟨.func _ _ _,_,_,_⟩,.val .nilFunc,.val .nilFunc=>some true
 | some ⟨.struct fs,_,_,_⟩,.dat a x,.dat b y=>cond (a.isAgg&&b.isAgg && !(P.stoodInHeld t) && !(P.eqGuardType P.depth t)&&qP P 0 fs.toList (a.cells E x) (b.cells E y)) (mX (a.cells E x) (b.cells E y)) none
 | _,_,_=>none
def isConst:Operand→Bool
 | .const _=>true
 | _=>false
def AK (op:BinOp) (b:Bool):Bool:=match op with
 | .eql=>b
 | _=>!b
theorem Ak {P:Program} (a:Addr) (w:World):(sameAddr a a).run P w=.ok true w:=by simp [sameAddr]
theorem U9 {P:Program} {w:World} {G:au} {t:TypeId} {x y:Operand} {u v:Value} {du dv:TV E} {b:Bool}
  (hu:VT E w G du u) (hv:VT E w G dv v) (h:eqX P t (isConst y) du dv=some b) (op:BinOp) (hop:op=.eql∨op=.neq) :
  ∀w',(do eqGuard op t x y u v;binOp op t u v).run P w'=.ok (.bool (AK op b)) w':=by
 have fin:(∀w',(eqGuard op t x y u v).run P w'=.ok () w')→(∀w' d,(Op.equalIn (d+1) t u v).run P w'=.ok b w')→(∀op',op'=.eql∨op'=.neq→binOp op' t u v=(do let r ←Op.equal t u v;pure (.bool (AK op' r)))) →
   ∀w',(do eqGuard op t x y u v;binOp op t u v).run P w'=.ok (.bool (AK op b)) w':=by
  intro h1 h2 h3 w';simp only [Sem.run_bind,h1,Result.andThen_ok,h3 op hop,Op.equal,Op.maxDepth,h2 w' 9999,Sem.run_pure]
 unfold eqX at h;split at h<;>try (cases h;done)
 ·rename_i j1 j2 z a c ht
  cases h;obtain⟨xt,eA,bw,-⟩:=aq ht;rw [hu.iG,hv.iG] at *;exact fin (fun w'=>by rcases hop with rfl | rfl<;>rfl) (fun w' d=>by simp [Op.equalIn,ak bw]) (fun op' h=>by rcases h with rfl | rfl<;>rfl)
 ·rename_i e j1 j2 z c r off ht
  cases h;obtain⟨xt,eA,bw,-⟩:=aq ht;cases c<;>simp only [VT] at hu hv
  ·subst hu;subst hv
   exact fin (fun w'=>by rcases hop with rfl | rfl<;>rfl) (fun w' d=>by simp [Op.equalIn,ak bw]) (fun op' h=>by rcases h with rfl | rfl<;>rfl)
  ·obtain⟨b,rfl,-⟩:=hu
   subst hv;exact fin (fun w'=>by rcases hop with rfl | rfl<;>rfl) (fun w' d=>by simp [Op.equalIn,ak bw]) (fun op' h=>by rcases h with rfl | rfl<;>rfl)
 ·rename_i e j1 j2 z r off ht
  cases h;obtain⟨xt,eA,bw,-⟩:=aq ht;simp only [VT] at hu hv;obtain⟨b,rfl,-⟩:=hu;subst hv;exact fin (fun w'=>by rcases hop with rfl | rfl<;>rfl) (fun w' d=>by simp [Op.equalIn,ak bw]) (fun op' h=>by rcases h with rfl | rfl<;>rfl)
 ·rename_i e j1 j2 z T y' off ht
  cases h;obtain⟨xt,eA,bw,-⟩:=aq ht;simp only [VT] at hu hv;obtain⟨b,o,c,rfl,-⟩:=hu;subst hv;exact fin (fun w'=>by rcases hop with rfl | rfl<;>rfl) (fun w' d=>by simp [Op.equalIn,ak bw]) (fun op' h=>by rcases h with rfl | rfl<;>rfl)
 ·rename_i e j1 j2 z r off n ht
  cases h;obtain⟨xt,eA,bw,-⟩:=aq ht;simp only [VT] at hu hv;obtain⟨b,rfl,-⟩:=hu;subst hv;exact fin (fun w'=>by rcases hop with rfl | rfl<;>rfl) (fun w' d=>by simp [Op.equalIn,ak bw]) (fun op' h=>by rcases h with rfl | rfl<;>rfl)
 ·rename_i e j1 j2 z ht
  cases h;obtain⟨xt,eA,bw,-⟩:=aq ht;simp only [VT] at hu hv;subst hu;subst hv;exact fin (fun w'=>by rcases hop with rfl | rfl<;>rfl) (fun w' d=>by simp [Op.equalIn,ak bw]) (fun op' h=>by rcases h with rfl | rfl<;>rfl)
 ·rename_i e j1 j2 z c r off r' off' ht
  obtain⟨xt,eA,bw,-⟩:=aq ht;cases hb:(Nat.beq r r'&&Nat.beq off off')<;>rw [hb] at h<;>simp only [cond_true,cond_false] at h
  ·cases h
  rw [aV] at hb;obtain rfl:=bt hb.1;obtain rfl:=bt hb.2;split at h<;>try (cases h;done)
  rename_i ie Ai;cases h;obtain⟨xe,fZ,-⟩:=aq Ai;cases b<;>simp only [VT] at hu hv
  ·obtain⟨b,rfl,-⟩:=hv
   subst hu;exact fin (fun w'=>by rcases hop with rfl | rfl<;>rfl) (fun w' d=>by simp [Op.equalIn,ak bw]) (fun op' h=>by rcases h with rfl | rfl<;>rfl)
  ·obtain⟨b,rfl,h1⟩:=hu
   obtain⟨b',rfl,h2⟩:=hv;rw [h1] at h2;cases h2;exact fin (fun w'=>by rcases hop with rfl | rfl<;>rfl) (fun w' d=>by simp [Op.equalIn,ak bw,sizeOf,typeInfo,fZ,Ak]) (fun op' h=>by rcases h with rfl | rfl<;>rfl)
 ·rename_i e j1 j2 z r off r' off' ht
  obtain⟨xt,eA,bw,-⟩:=aq ht;cases hb:(Nat.beq r r'&&Nat.beq off off')<;>rw [hb] at h<;>simp only [cond_true,cond_false] at h
  ·cases h
  rw [aV] at hb;obtain rfl:=bt hb.1;obtain rfl:=bt hb.2;split at h<;>try (cases h;done)
  rename_i ie Ai;cases h;obtain⟨xe,fZ,-⟩:=aq Ai;simp only [VT] at hu hv;obtain⟨b,rfl,h1⟩:=hu;obtain⟨b',rfl,h2⟩:=hv;rw [h1] at h2;cases h2;exact fin (fun w'=>by rcases hop with rfl | rfl<;>rfl) (fun w' d=>by simp [Op.equalIn,ak bw,sizeOf,typeInfo,fZ,Ak]) (fun op' h=>by rcases h with rfl | rfl<;>rfl)
 ·rename_i ms j1 j2 z ty d ht
  cases h;obtain⟨xt,eA,bw,-⟩:=aq ht;simp only [VT] at hu hv;obtain⟨u',rfl,-⟩:=hu;subst hv;exact fin (fun w'=>by rcases hop with rfl | rfl<;>rfl) (fun w' d=>by simp [Op.equalIn,ak bw]) (fun op' h=>by rcases h with rfl | rfl<;>rfl)
 ·rename_i ms j1 j2 z ht
  obtain⟨xt,eA,bw,-⟩:=aq ht;simp only [VT] at hu hv;subst hu;subst hv;cases hc:isConst y<;>rw [hc] at h<;>simp only [cond_true,cond_false] at h
  ·cases h
  cases h;have hcy:∃c,y=.const c:=by unfold isConst at hc;split at hc;exact⟨_,rfl⟩;cases hc
  obtain⟨c,rfl⟩:=hcy;exact fin (fun w'=>by rcases hop with rfl | rfl<;>simp [eqGuard]) (fun w' d=>by simp [Op.equalIn,ak bw]) (fun op' h=>by rcases h with rfl | rfl<;>rfl)
 ·rename_i f1 f2 f3 j1 j2 z fn caps ht
  cases h;obtain⟨xt,eA,bw,-⟩:=aq ht;simp only [VT] at hu hv;obtain⟨u',rfl,-⟩:=hu;subst hv;exact fin (fun w'=>by rcases hop with rfl | rfl<;>rfl) (fun w' d=>by simp [Op.equalIn,ak bw]) (fun op' h=>by rcases h with rfl | rfl<;>rfl)
 ·rename_i f1 f2 f3 j1 j2 z ht
  cases h;obtain⟨xt,eA,bw,-⟩:=aq ht;simp only [VT] at hu hv;subst hu;subst hv;exact fin (fun w'=>by rcases hop with rfl | rfl<;>rfl) (fun w' d=>by simp [Op.equalIn,ak bw]) (fun op' h=>by rcases h with rfl | rfl<;>rfl)
 ·rename_i fs j1 j2 z a x' b' y' ht
  obtain⟨xt,eA,bw,-⟩:=aq ht;have bw:P.underlying t=some (.struct fs):=bw;cases hb:(a.isAgg&&b'.isAgg && !(P.stoodInHeld t) && !(P.eqGuardType P.depth t)&&qP P 0 fs.toList (a.cells E x') (b'.cells E y'))<;>rw [hb] at h<;>simp only [cond_true,cond_false] at h
  ·cases h
  simp only [aV,nq] at hb;obtain⟨⟨⟨⟨a1,a2⟩,a3⟩,a4⟩,a5⟩:=hb;simp only [VT,a1] at hu;simp only [VT,a2] at hv;obtain⟨us,rfl,hu⟩:=hu;obtain⟨vs,rfl,hv⟩:=hv;have hfs:P.fieldsOf t=fs:=by unfold Program.fieldsOf;rw [bw]
  intro w'
  have he:(Op.equalIn 10000 t (.agg us) (.agg vs)).run P w'=.ok b w':=by
   rw [run_equalIn_struct w' 9999 t us vs (by rw [hfs];exact bw) a3,hfs];exact YU fs.toList 0 us.toList vs.toList _ _ b (fun j=>by simp) (fun j=>by simp) hu hv a5 h w' 9998
  rcases hop with rfl | rfl
  ·simp only [Sem.run_bind,run_eqGuard_agg w' .eql t x y us vs a4,Result.andThen_ok,run_eql_struct,he]
   rfl
  ·simp only [Sem.run_bind,run_eqGuard_agg w' .neq t x y us vs a4,Result.andThen_ok,run_neq_struct,he]
   rfl
def pN (E:TEnv) (ty:Option Ty):Value→TV E
 | .agg cs=>PF E ty (cs.toList.map TV.JM)
 | v=>.JM v
def SF (E:TEnv) (ty:TypeId→Option Ty) (asserted:TypeId) (i:TI) (ok:Bool) (d:TV E):Option (TV E) :=
 match i.kind,d with
 | .interface _,_=>none
 | _,.iface t v=>cond (Nat.beq t asserted) (some (cond ok (.tuple [v,.dat .bool true]) v)) (cond ok (some (.tuple [pN E (ty asserted) i.zero,.dat .bool false])) none)
 | _,.val .nilIface=>cond ok (some (.tuple [pN E (ty asserted) i.zero,.dat .bool false])) none
 | _,_=>none
def PO (P:Program) (ty:TypeId→Option Ty) (st:TS E):Op→Option (Bool × TV E)
 | .binOp op t x y _=>match op,eqX P t (isConst y) (st.ev x) (st.ev y) with
  | .eql,some b=>some (true,.dat .bool b)
  | .neq,some b=>some (true,.dat .bool (!b))
  | _,_=>none
 | .typeAssert x _ asserted ok=>match aB P asserted with
  | some i=>match SF E ty asserted i ok (st.ev x) with
   | some d=>some (i.zero.cells.toList.all (·.oneCell'),d)
   | none=>none
  | none=>none
 | .call c=>match c.callee,c.args.toList,c.argTypes.toList with
  | .builtin .max,[x,y],_=>match st.ev x,st.ev y with
   | .dat (.int k) a,.dat (.int _) b=>some (true,.dat (.int k) (cond (decide (a<b)) b a))
   | _,_=>none
  | .builtin .min,[x,y],_=>match st.ev x,st.ev y with
   | .dat (.int k) a,.dat (.int _) b=>some (true,.dat (.int k) (cond (decide (b<a)) b a))
   | _,_=>none
  | .builtin .unsafeSliceData,[x],_=>match st.ev x with
   | .bn j ai (.int .u8) xs=>match st.g[j]? with
    | some g=>some (Nat.beq g.ai ai && !(E.zc g.e),.MU j ai xs)
    | none=>none
   | _=>none
  | _,_,_=>none
 | _=>none
section
variable {P : Program} {w0 : World} {G0 : au} {st : TS E} {a : Act} {w : World} {G : au} {o : Oper}
theorem Fp (hE:E.Ok) {ty:Option Ty} {z:Value} (h:z.cells.toList.all (·.oneCell')=true):VT E w G (pN E ty z) z:=by
 cases z with
 | agg cs=>exact MZ hE aP.ofValues (fun u hu=>nk.1 h u hu)
 | _=>simp only [pN];exact YH w G _
theorem YV (hE:E.Ok) (hr:Rel E w0 G0 st a w G) {ty:TypeId→Option Ty} {x:Operand} {xt t:TypeId} {ok:Bool} {i:TI} {d:TV E} (ho:o.op=.typeAssert x xt t ok) (ht:aB P t=some i) (h:SF E ty t i ok (st.ev x)=some d)
  (hz:i.zero.cells.toList.all (·.oneCell')=true):fP P a w G o d:=by
 have hv:=hr.ev x;obtain⟨xi,hxi,bw,-⟩:=aq ht;have M1:=Fp (w:=w) (G:=G) hE (ty:=ty t) hz
 have bW:∀(u:Value) (d:TV E) (b:Bool),VT E w G d u→VT E w G (.tuple [d,.dat .bool b]) (.tuple #[u,.bool b]):=fun u d b hd=>by
  simp only [VT];exact⟨_,rfl,.cons hd (.cons (.bool _ _ _) .nil)⟩
 suffices hs:∃v,VT E w G d v∧∀w',(Instr.typeAssert (a.eval x) xt t ok).run P w'=.ok v w' by
  obtain⟨v,h1,h2⟩:=hs;exact cy (f:=fun ρ=>Instr.typeAssert (ρ x) xt t ok) (by simp [execOp,ho]) ⟨v,h1,fun w' _=>h2 w'⟩
 unfold SF at h;split at h<;>try (cases h;done)
 ·rename_i ty' v' hd hni
  rw [hd] at hv;simp only [VT] at hv;obtain⟨u,hu,hv⟩:=hv;have hnot:∀ms,i.kind≠.interface ms:=fun ms e=>hni ms e;cases hb:Nat.beq ty' t<;>rw [hb] at h<;>simp only [cond_true,cond_false] at h
  ·have hne:ty'≠t:=fun e=>by rw [e,uY] at hb;cases hb
   cases ok<;>simp only [cond_true,cond_false] at h
   ·cases h
   cases h;refine⟨_,bW _ _ _ M1,fun w'=>?_⟩;rw [hu];unfold Instr.typeAssert;simp only [Sem.run_bind,ak bw,Result.andThen_ok];cases hk:i.kind<;>simp_all [ji ht]
  ·have he:=bt hb
   subst he;cases h;cases ok
   ·refine⟨u,hv,fun w'=>?_⟩
    rw [hu];unfold Instr.typeAssert;simp only [Sem.run_bind,ak bw,Result.andThen_ok];cases hk:i.kind<;>simp_all
   ·refine⟨_,bW _ _ _ hv,fun w'=>?_⟩
    rw [hu];unfold Instr.typeAssert;simp only [Sem.run_bind,ak bw,Result.andThen_ok];cases hk:i.kind<;>simp_all
 ·rename_i hd hni
  rw [hd] at hv;simp only [VT] at hv;cases ok<;>simp only [cond_true,cond_false] at h
  ·cases h
  cases h;refine⟨_,bW _ _ _ M1,fun w'=>?_⟩;rw [hv];unfold Instr.typeAssert;simp only [Sem.run_bind,ak bw,Result.andThen_ok];cases hk:i.kind<;>simp_all [ji ht]
theorem abx (hE:E.Ok) (hr:Rel E w0 G0 st a w G) {ty:TypeId→Option Ty} {d:TV E} {c:Bool} (h:PO P ty st o.op=some (c,d)) (hc:c=true):fP P a w G o d:=by
 cases ho:o.op<;>rw [ho] at h<;>simp only [PO] at h<;>try (cases h;done)
 case binOp op t x y yt =>
  split at h<;>try (cases h;done)
  ·rename_i b hb
   cases h;exact cy (f:=fun ρ=>do eqGuard .eql t x y (ρ x) (ρ y);binOp .eql t (ρ x) (ρ y)) (by simp [execOp,ho]) ⟨_,.bool _ _ _,fun w' _=>U9 (hr.ev x) (hr.ev y) hb .eql (.inl rfl) w'⟩
  ·rename_i b hb
   cases h;exact cy (f:=fun ρ=>do eqGuard .neq t x y (ρ x) (ρ y);binOp .neq t (ρ x) (ρ y)) (by simp [execOp,ho]) ⟨_,.bool _ _ _,fun w' _=>U9 (hr.ev x) (hr.ev y) hb .neq (.inr rfl) w'⟩
 case typeAssert x xt t ok =>
  split at h<;>try (cases h;done)
  rename_i i hi;split at h<;>try (cases h;done)
  rename_i d' hd;cases h;exact YV hE hr ho hi hd hc
 case call c' =>
  split at h<;>try (cases h;done)
  ·rename_i _ x y hcl ha
   split at h<;>try (cases h;done)
   rename_i k p k' q hx hy;cases h;have mU:=hr.ev x;rw [hx] at mU;have wY:=hr.ev y;rw [hy] at wY;have mT:c'.args=#[x,y]:=by rw [←gY (xs:=c'.args),ha]
   refine⟨_,.int _ _ _ _,fun w' hs=>?_⟩;unfold execOp;simp only [ho,resolve,hcl,Sem.run_bind,Sem.run_pure,Result.andThen_ok,invoke,builtin,mT,p6,eV,ni];rw [mU.dw,wY.dw];simp only [Builtin.max_,List.foldlM_cons,List.foldlM_nil,Builtin.max2,Sem.run_bind,Sem.run_pure,Result.andThen_ok];by_cases hpq:p<q<;>simp [hpq]
  ·rename_i _ x y hcl ha
   split at h<;>try (cases h;done)
   rename_i k p k' q hx hy;cases h;have mU:=hr.ev x;rw [hx] at mU;have wY:=hr.ev y;rw [hy] at wY;have mT:c'.args=#[x,y]:=by rw [←gY (xs:=c'.args),ha]
   refine⟨_,.int _ _ _ _,fun w' hs=>?_⟩;unfold execOp;simp only [ho,resolve,hcl,Sem.run_bind,Sem.run_pure,Result.andThen_ok,invoke,builtin,mT,p6,eV,ni];rw [mU.dw,wY.dw];simp only [Builtin.min_,List.foldlM_cons,List.foldlM_nil,Builtin.min2,Sem.run_bind,Sem.run_pure,Result.andThen_ok];by_cases hpq:q<p<;>simp [hpq]
  ·rename_i _ x hcl ha
   split at h<;>try (cases h;done)
   rename_i j ai xs hx;split at h<;>try (cases h;done)
   rename_i g hg;cases h;rw [aV,nq] at hc;obtain⟨hc,M3⟩:=hc;have GB:=bt hc;have mT:c'.args=#[x]:=by rw [←gY (xs:=c'.args),ha]
   have hv:=hr.ev x;rw [hx] at hv;simp only [VT] at hv;obtain⟨uD,gx,gh,gv,hle,heq⟩:=hv
   have Aj:gx=g:=by
    have h2:(G.g.map (·.1))[j]? = some gx:=by simp [gv]
    rw [hr.boxes.gs,hg] at h2;exact (gC h2).symm
   subst Aj;have dL:=heq GB.symm;obtain⟨n,ys,ho',BJ,qi⟩:=hr.boxes.grow j gx gh gv;rcases uD.lX with⟨ad,he,hn⟩ | ⟨b,off,cap,c,he,hcap,hk,-⟩
   ·have hxs:xs=[]:=by simpa using hn
    have:ad=none:=by
     cases ad with
     | none=>rfl
     | some ad=>have:=BJ ad 0 (dL▸he);rw [M3] at this;cases this
    subst this;refine⟨.pointer none,?_,fun w' hs=>?_⟩
    ·simp only [VT]
     exact⟨gx,gh,a.eval x,gv,hle,uD,fun _=>⟨dL,.inl ⟨by rw [←dL,he],hxs,trivial⟩⟩⟩
    ·unfold execOp
     simp only [ho,resolve,hcl,Sem.run_bind,Sem.run_pure,Result.andThen_ok,invoke,builtin,mT,p6,eV,ni];rw [he,Lib.run_unsafeSliceData_nil];rfl
   ·have hl:(xs.map (Ty.cells E (.int .u8))).length=xs.length:=by simp
    rw [hl] at he;have hc0:cap≠0:=fun e=>by subst e;have:=BJ _ _ (dL▸he);rw [M3] at this;cases this
    have hoff:off=0:=by
     rcases ho'.2 with⟨JQ,-⟩ | ⟨g',cap',cur,h2,-⟩
     ·rw [←dL,he] at JQ;cases JQ
     ·rw [←dL,he] at h2
      simp only [Value.slice.injEq,nh,Addr.mk.injEq] at h2;exact h2.1.2.1
    subst hoff;refine⟨.pointer (some ⟨b,0,none⟩),?_,fun w' hs=>?_⟩
    ·simp only [VT]
     exact⟨gx,gh,a.eval x,gv,hle,uD,fun _=>⟨dL,.inr ⟨b,cap,by rw [←dL,he],rfl⟩⟩⟩
    ·unfold execOp
     simp only [ho,resolve,hcl,Sem.run_bind,Sem.run_pure,Result.andThen_ok,invoke,builtin,mT,p6,eV,ni];rw [he,Lib.run_unsafeSliceData_row _ _ _ _ _ _ hc0];rfl
def PR (P:Program) (ty:TypeId→Option Ty) (st:TS E) (o:Op):Option (Bool × TV E):=match LG P ty st o with
 | some x=>some x
 | none=>PO P ty st o
theorem YW (hE:E.Ok) (hr:Rel E w0 G0 st a w G) {ty:TypeId→Option Ty} {d:TV E} {c:Bool} (h:PR P ty st o.op=some (c,d)) (hc:c=true):fP P a w G o d:=by
 unfold PR at h;split at h
 ·rename_i x hx
  cases h;exact abv hE hr hx hc
 ·exact abx hE hr h hc
end
end Go.RT
namespace Go.RT
variable {E : TEnv}
section
variable {P : Program} {w0 w w' : World} {G0 G G' : au} {st : TS E} {a : Act} {o : Oper}
theorem Rel.Fq (h:Rel E w0 G0 st a w G) (e:TypeId) (k:Nat):Rel E w0 G0 { st with g:=st.g++[⟨0,e,k⟩] } a w { G with g:=G.g++[(⟨0,e,k⟩,.slice none 0 0)] }:=by
 refine h.xG ⟨0,e,k⟩ (.slice none 0 0) ⟨0,[],⟨si,.inl ⟨rfl,rfl⟩⟩,(fun a m e=>nomatch e),(fun b hb=>nomatch hb)⟩ (fun b hb=>nomatch hb) (fun j y z b hj hb e=>nomatch e)
theorem Rel.kQ (h:Rel E w0 G0 st a w G):G.g.length=st.g.length:=by rw [←h.boxes.gs];simp
theorem JY (hl:G.g.length=st.g.length) (e:TypeId) (T:Ty):VT E w { G with g:=G.g++[(⟨0,e,T.size E⟩,.slice none 0 0)] } (.bn st.g.length 0 T []) (.slice none 0 0):=by
 simp only [VT];refine⟨.oN _ _,⟨0,e,T.size E⟩,.slice none 0 0,?_,bM _,fun _=>rfl⟩;rw [lG om];simp [hl]
theorem Rel.amy (h:Rel E w0 G0 st a w G) {i:Nat} (hi:st.t[i]? = some (.val (.slice none 0 0))) (e:TypeId) (T:Ty) :
  ∃G',Rel E w0 G0 { st with t:=st.t.set i (.bn st.g.length 0 T []),g:=st.g++[⟨0,e,T.size E⟩] } a w G':=by
 have hN:=h.Fq e (T.size E);refine⟨_,hN.cK,by simpa using hN.size,fun j d hj=>?_,hN.defers,hN.boxes,hN.fix,hN.pins,hN.dI⟩;simp only [NB] at hj;by_cases hij:i=j
 ·subst hij
  have hlt:i<st.t.length:=(bS.1 hi).1;simp [hlt] at hj;subst hj;have hv:=h.tmps i _ hi;simp only [VT] at hv;rw [hv];exact JY h.kQ e T
 ·rw [if_neg hij] at hj
  exact hN.tmps j d hj
theorem Rel.afU (h:Rel E w0 G0 st a w G) {r c:Nat} {t:TypeId} {cs:List (TV E)} (hr:st.H[r]? = some (.cells t cs)) (hc:cs[c]? = some (.val (.slice none 0 0))) (e:TypeId) (T:Ty) :
  ∃G',Rel E w0 G0 { st with H:=st.H.set r (.cells t (cs.set c (.bn st.g.length 0 T []))),g:=st.g++[⟨0,e,T.size E⟩],d:=r::st.d } a w G':=by
 have hN:=h.Fq e (T.size E);have hlr:r<G.i.length:=by rw [h.boxes.len];exact (bS.1 hr).1
 have hat:G.i[r]? = some G.i[r]:=bK hlr;have hS:=hN.tA (w':=w) (r:=r) (b:=G.i[r]) hat rfl rfl rfl rfl (fun _ _=>rfl) (x:=.cells t (cs.set c (.bn st.g.length 0 T []))) (fun _=>?_)
 ·exact⟨_,hS⟩
 ·obtain⟨vs,h1,h2,h3⟩:=hN.boxes.box r _ _ hat hr
  refine⟨vs,h1,h2,?_⟩;obtain⟨u,hu,hv⟩:=h3.get c hc;simp only [VT] at hv;subst hv
  have key:∀(cs:List (TV E)) (vs:List Value) (c:Nat) (d:TV E),aP E w { G with g:=G.g++[(⟨0,e,T.size E⟩,.slice none 0 0)] } cs vs→vs[c]? = some (.slice none 0 0) →
    VT E w { G with g:=G.g++[(⟨0,e,T.size E⟩,.slice none 0 0)] } d (.slice none 0 0)→aP E w { G with g:=G.g++[(⟨0,e,T.size E⟩,.slice none 0 0)] } (cs.set c d) vs:=by
   intro cs
   induction cs with
   | nil=>intro vs c d h1 h2 h3;exact h1
   | cons x cs ih =>
    intro vs c d h1 h2 h3;obtain⟨u,us,rfl,q1,q2⟩:=h1.cons_inv
    cases c with
    | zero=>simp at h2;subst h2;exact .cons h3 q2
    | succ c=>exact .cons q1 (ih us c d q2 (by simpa using h2) h3)
  exact key cs vs.toList c _ h3 hu (JY h.kQ e T)
theorem SG (hE:E.Ok) (hr:Rel E w0 G0 st a w G) {c:Call} {x y:Operand} {t tx e:TypeId} {j1 j2:Nat} {z:Value} {ie:TI} (ho:o.op=.call c) (hcl:c.callee=.builtin .append)
  (ha:c.args.toList=[x,y]) (hat:c.argTypes.toList=[t,tx]) (ht:aB P t=some ⟨.slice e,j1,j2,z⟩) (hi:aB P e=some ie) {T:Ty} {ys:List (T.den E.D)}
  (hx:st.ev x=.val (.slice none 0 0)) (hk:ie.size=T.size E) (hk0:0<ie.size) (hzs:ie.zero.cells.size=ie.size)
  (h63:ys.length≤9223372036854775807) (hbytes:ys.length * ie.bytes≤140737488355328)
  {news:List Value} (hsrc:Src P ie.size tx (a.eval y) ys.length news w) (hf:Flat w G.pr ie.size news (ys.map (T.cells E))) :
  fu P w0 G0 a w o { st with t:=br st.t o.dst (.bn st.g.length 1 T ys),g:=st.g++[⟨1,e,ie.size⟩] }:=by
 have mT:c.args=#[x,y]:=by rw [←gY (xs:=c.args),ha]
 have kP:c.argTypes=#[t,tx]:=by rw [←gY (xs:=c.argTypes),hat]
 have hv:=hr.ev x;rw [hx] at hv;simp only [VT] at hv;have hN:=hr.Fq e ie.size;have hl2:(ys.map (T.cells E)).length=ys.length:=by simp
 have hrl:=hr.kQ;have gv:(G.g++[((⟨0,e,ie.size⟩:aZ),Value.slice none 0 0)])[G.g.length]? = some (⟨0,e,ie.size⟩,.slice none 0 0):=by simp
 obtain⟨v',w',gK,hrun,hR,hV⟩:=hN.append (P:=P) (t:=t) (tx:=tx) (ty:=o.type) (i:=ie) (e:=e) ht hi hk0 hzs (j:=G.g.length) (x:=⟨0,e,ie.size⟩) (v:=.slice none 0 0) gv (fun c hc=>by
   obtain⟨x,h,h1,-⟩:=hr.dI _ c hc;rw [uX (bM _)] at h1;cases h1) rfl rfl (es:=[]) (fs:=ys.map (T.cells E)) (y:=a.eval y) (news:=news)
  (.oN _ _) (by rw [hl2];exact hsrc) hf (by simp only [kg,fC,hl2];exact h63) (by simp only [kg,fC,hl2];exact hbytes)
 have lI:(st.g++[(⟨0,e,ie.size⟩:aZ)]).set G.g.length ⟨0+1,e,ie.size⟩=st.g++[⟨1,e,ie.size⟩]:=by
  rw [hrl,List.set_append_right _ _ (bM _)];simp
 have amz:(G.g++[((⟨0,e,ie.size⟩:aZ),Value.slice none 0 0)]).set G.g.length (⟨0+1,e,ie.size⟩,v')=G.g++[(⟨1,e,ie.size⟩,v')]:=by
  rw [List.set_append_right _ _ (bM _)];simp
 simp only [lI,amz] at hR;refine⟨.value v',v',w',_,?_,.inl rfl,hR.put (d:=.bn st.g.length 1 T ys) ?_ o.dst⟩
 ·unfold execOp
  simp only [ho,resolve,hcl,Sem.run_bind,Sem.run_pure,Result.andThen_ok,invoke,builtin,mT,kP,p6,eV,ni];rw [hv,hrun];rfl
 ·simp only [VT]
  refine⟨by rw [←hk];simpa using hV,⟨1,e,ie.size⟩,v',by rw [←hrl];simp,bM _,fun _=>rfl⟩
def Fi (l:List Int):Bool:=l.all fun n=>decide (0≤n)&&decide (n<256)
def bh (l:List Int):List UInt8:=l.map fun n=>UInt8.ofNat n.toNat
theorem aeb {l:List Int} (h:Fi l=true) {j:Nat} {x:UInt8} (hx:(bh l)[j]? = some x):l[j]? = some (x.toNat:Int):=by
 unfold bh at hx;rw [kJ] at hx;obtain⟨n,hn,rfl⟩:=Jo.1 hx;have:=nk.1 h n (ek hn);simp only [aV,decide_eq_true_eq] at this;rw [hn];congr 1;simp;omega
theorem VD.GC {pr:Nat→Nat→Prop} {v:Value} {xs:List Int} (h:VD w pr v (.slice 1 (xs.map (Ty.cells E (.int .u8))))) :
  (∃ad,v=.slice ad 0 0∧xs=[])∨∃b off cap,v=.slice (some ⟨b,off,none⟩) xs.length cap∧xs.length≤cap∧∀(j:Nat) n,xs[j]? = some n→pr b (off+j)∧w.cell? ⟨b,off+j,none⟩=some (.int .u8 n):=by
 rcases h.lX with⟨ad,he,hn⟩ | ⟨b,off,cap,c,he,hcap,hk,h0,hc⟩
 ·exact .inl ⟨ad,he,by simpa using hn⟩
 ·refine .inr ⟨b,off,cap,by simpa using he,by simpa using hcap,fun j n hj=>?_⟩
  have hjl:j<xs.length:=(bS.1 hj).1;have h1:=h0 j 0 (by simpa using hjl) om;have h2:=hc j 0 (by simpa using hjl) om
  have e1:((xs.map (Ty.cells E (.int .u8))).getD j []).getD 0 default=.int .u8 n:=by
   have:xs[j]=n:=by rw [bK hjl] at hj;exact gC hj
   simp [List.getD,hjl,this,Ty.cells]
  rw [e1] at h2;rw [h2.dw] at h1;simpa using h1
theorem fold_push:∀(ns:List Int) (r:ByteArray),ns.foldl (fun r n=>r.push (UInt8.ofNat n.toNat)) r=⟨⟨r.data.toList++bh ns⟩⟩
 | [],r=>by simp [bh]
 | n::ns,r=>by
  rw [NI,fold_push ns];congr 2;simp [bh]
theorem qQ {P:Program} (ad:Addr) (cap:Nat) (xs:List Int) (hc:∀(j:Nat) n,xs[j]? = some n→w.cell? (ad.add j)=some (.int .u8 n)):(Conv.bytesToString (.slice (some ad) xs.length cap)).run P w=.ok (mkStr (bh xs)) w:=by
 have hl:=run_loadCells (P:=P) w ad xs.length (fun j=>.int .u8 (xs.getD j 0)) (fun j hj=>hc j _ (by simp [List.getD,hj]))
 have hm:((List.range xs.length).map fun j=>Value.int .u8 (xs.getD j 0))=xs.map (Value.int .u8):=by
  apply zE si;intro j h1 h2;simp at h1;simp [List.getD,h1]
 rw [run_bytesToString (P:=P) w ad xs.length cap xs (by rw [hl];simp only [Result.ok.injEq,and_true];rw [←hm]),fold_push];rfl
theorem JZ (hr:Rel E w0 G0 st a w G) {src dst e:TypeId} {x:Operand} {j1 j2 j3 j4 j5 j6:Nat} {z1 z2 z3:Value} (ho:o.op=.convert src dst x) (hs:aB P src=some ⟨.slice e,j1,j2,z1⟩) (hd:aB P dst=some ⟨.string,j3,j4,z2⟩)
  (he:aB P e=some ⟨.int .u8,j5,j6,z3⟩) {xs:List Int} (hx:nH (st.ev x) (.int .u8) xs):fu P w0 G0 a w o { st with t:=br st.t o.dst (.dat .str (bh xs)) }:=by
 obtain⟨_,_,wX,-⟩:=aq hs;obtain⟨_,_,Fl,-⟩:=aq hd;obtain⟨_,_,jA,-⟩:=aq he;have hv:=hx.vd (hr.ev x)
 have hrun:(convert src dst (a.eval x)).run P w=.ok (mkStr (bh xs)) w:=by
  rcases hv.GC with⟨ad,cx,rfl⟩ | ⟨b,off,cap,cx,hcap,hc⟩
  ·rw [cx]
   cases ad with
   | none =>
    unfold convert;simp only [Sem.run_bind,ak wX,ak Fl,Result.andThen_ok,ak jA]
    rfl
   | some ad =>
    have:=qQ (P:=P) (w:=w) ad 0 [] (fun j n hj=>by simp at hj);simp only [kg] at this;unfold convert;simp only [Sem.run_bind,ak wX,ak Fl,Result.andThen_ok,ak jA,this]
  ·rw [cx]
   have:=qQ (P:=P) (w:=w) ⟨b,off,none⟩ cap xs (fun j n hj=>by rw [add_lit];exact (hc j n hj).2);unfold convert;simp only [Sem.run_bind,ak wX,ak Fl,Result.andThen_ok,ak jA,this]
 refine⟨_,mkStr (bh xs),w,G,?_,.inl rfl,hr.put (.str _ _ _) o.dst⟩;simp only [execOp,ho,Sem.run_bind,hrun,Result.andThen_ok,Sem.run_pure]
theorem M4 (w:World) (p:Addr) (n b:Nat) (hb:b≠p.block):(w.freeze p n).heap[b]? = w.heap[b]?:=by
 unfold World.freeze;split
 ·rfl
 ·simp only [adB]
  rw [if_neg (fun e=>hb e.symm)]
theorem aby (w:World) (p:Addr) (n:Nat) (x:Addr):(w.freeze p n).cell? x=w.cell? x:=by
 by_cases h0:n=0
 ·simp [World.freeze,h0]
 by_cases hx:x.block=p.block
 ·simp only [World.cell?,World.freeze,h0,if_false,hx,adB,if_true]
  cases hh:w.heap[p.block]? with
  | none=>simp
  | some ob=>cases ob<;>simp
 ·exact World.cell?_of_block (M4 w p n x.block hx)
theorem L9 (hr:Rel E w0 G0 st a w G) {c:Call} {x y:Operand} {pt it e:TypeId} {j1 j2 j3 j4:Nat} {z1 z2:Value} (ho:o.op=.call c) (hcl:c.callee=.builtin .unsafeString) (ha:c.args.toList=[x,y]) (hat:c.argTypes.toList=[pt,it])
  (hp:aB P pt=some ⟨.pointer e,j1,j2,z1⟩) (hce:P.cellsOf e=1) {j ai:Nat} {xs:List Int} (hx:st.ev x=.MU j ai xs) {g:aZ} (hg:st.g[j]? = some g) (rT:∀c,(j,c)∉st.c) (GB:g.ai=ai) (hge:g.e=e) (pM:g.k=1)
  {n:Int} (hy:st.ev y=.dat (.int .i64) n) (hn:n=xs.length) (hok:Fi xs=true) (h63:xs.length≤9223372036854775807) :
  fu P w0 G0 a w o { st with t:=br st.t o.dst (.dat .str (bh xs)),g:=st.g.set j { g with ai:=g.ai+1 } }:=by
 have mT:c.args=#[x,y]:=by rw [←gY (xs:=c.args),ha]
 have kP:c.argTypes=#[pt,it]:=by rw [←gY (xs:=c.argTypes),hat]
 obtain⟨_,_,hup,-⟩:=aq hp;have hv:=hr.ev x;rw [hx] at hv;have wY:=hr.ev y;rw [hy] at wY;have wY:=wY.dw;subst hn;simp only [VT] at hv;obtain⟨gx,gh,u,gv,hle,uD,heq⟩:=hv
 have Aj:gx=g:=by
  have h2:(G.g.map (·.1))[j]? = some gx:=by simp [gv]
  rw [hr.boxes.gs,hg] at h2;exact (gC h2).symm
 subst Aj;obtain⟨dL,rR⟩:=heq GB.symm;have hlen:(bh xs).length=xs.length:=by simp [bh]
 have step:∀w1,w.heap.size≤w1.heap.size→w1.os=w.os→w1.tape=w.tape→w1.output=w.output→(∀b,b<w.heap.size→gh.ownBlock≠some b→w1.heap[b]? = w.heap[b]?)→(∀b o v,G.pr b o→w.cell? ⟨b,o,none⟩=some v→w1.cell? ⟨b,o,none⟩=some v) →
   ∃G1,Rel E w0 G0 { st with g:=st.g.set j { gx with ai:=gx.ai+1 } } a w1 G1:=fun w1 s1 s2 s3 s4 s5 s6 =>
  ⟨_,hr.LH gv rT s1 s2 s3 s4 s5 s6 G.pr (fun _ _ h=>h) (fun _ _ h=>.inl h) (hd':=.slice none 0 0) ⟨0,[],⟨si,.inl ⟨rfl,rfl⟩⟩,(fun a m e=>nomatch e),(fun b hb=>nomatch hb)⟩ (fun b hb=>nomatch hb)⟩
 have nothing:(Builtin.unsafeString_ c.argTypes o.type #[a.eval x,a.eval y]).run P w=.ok (mkStr (bh xs)) w→fu P w0 G0 a w o { st with t:=br st.t o.dst (.dat .str (bh xs)),g:=st.g.set j { gx with ai:=gx.ai+1 } }:=by
  intro hrun;obtain⟨G1,hR⟩:=step w (bM _) rfl rfl rfl (fun _ _ _=>rfl) (fun _ _ _ _ h=>h);refine⟨_,mkStr (bh xs),w,G1,?_,.inl rfl,hR.put (.str _ _ _) o.dst⟩;unfold execOp;simp only [ho,resolve,hcl,Sem.run_bind,Sem.run_pure,Result.andThen_ok,invoke,builtin,mT,p6,eV,ni,hrun]
 by_cases h0:xs=[]
 ·subst h0
  refine nothing ?_;rw [wY,kP];rcases rR with⟨-,-,he⟩ | ⟨b,cap,-,he⟩<;>rw [he]<;>exact Lib.run_unsafeString_none w pt it o.type _
 ·rcases rR with⟨-,hl,-⟩ | ⟨b,cap,hgh,he⟩
  ·exact (h0 hl).elim
  rw [dL,hgh] at uD
  replace uD:VD w G.pr _ (.slice 1 (xs.map (Ty.cells E (.int .u8)))):=uD
  have hcell:∀(q:Nat) nn,xs[q]? = some nn→G.pr b q∧w.cell? ⟨b,q,none⟩=some (.int .u8 nn):=by
   rcases uD.GC with⟨ad,h1,h2⟩ | ⟨b',off,cap',h1,-,h3⟩
   ·exact (h0 h2).elim
   ·simp only [Value.slice.injEq,nh,Addr.mk.injEq] at h1
    obtain⟨⟨rfl,rfl,-⟩,-,rfl⟩:=h1;intro q nn hq;simpa using h3 q nn hq
  obtain⟨n',ys,hown,-,hblk⟩:=hr.boxes.grow j gx gh gv;rcases hown.2 with⟨JQ,-⟩ | ⟨gb,cap',cur,h2,-,hheap,hn',hcm,hcs,-⟩
  ·rw [hgh] at JQ;cases JQ
  rw [hgh] at h2;simp only [Value.slice.injEq,nh,Addr.mk.injEq] at h2;obtain⟨⟨rfl,-,-⟩,rfl,rfl⟩:=h2
  have hsh:w.shape? b=some (e,cap):=by
   simp only [World.shape?,hheap,hge,hcs,pM,zD]
  have hrun:=Lib.run_unsafeString_row (P:=P) w pt it o.type e hup hce b cap hsh (bh xs) (by simpa [bh] using h0) (by rw [hlen];exact hn') (by rw [hlen];exact h63)
   (fun q u hq=>by rw [add_lit,fC];exact (hcell q _ (aeb hok hq)).2)
  rw [hlen] at hrun
  obtain⟨G1,hR⟩:=step (w.freeze ⟨b,0,none⟩ xs.length) (by unfold World.freeze;split<;>simp) (by unfold World.freeze;split<;>rfl) (by unfold World.freeze;split<;>rfl) (by unfold World.freeze;split<;>rfl)
   (fun b' _ hne=>M4 w _ _ b' (fun e'=>hne (by rw [hgh];simp at e';rw [e'];rfl))) (fun b' o' v _ hv=>by rw [aby];exact hv)
  refine⟨_,mkStr (bh xs),_,G1,?_,.inl rfl,hR.put (.str _ _ _) o.dst⟩;unfold execOp;simp only [ho,resolve,hcl,Sem.run_bind,Sem.run_pure,Result.andThen_ok,invoke,builtin,mT,kP,p6,eV,ni];rw [he,wY,hrun];rfl
theorem YX (hr:Rel E w0 G0 st a w G) {src dst:TypeId} {x:Operand} (ho:o.op=.convert src dst x) {r off:Nat} (hx:st.ev x=.ptr r off) {t':TypeId} {cs:List (TV E)} (hb:st.H[r]? = some (.cells t' cs))
  (rR:(∃t i,P.underlying src=some (.pointer t)∧P.underlying dst=some .unsafePointer∧aB P t=some i∧i.size≠0∧off<cs.length) ∨
   ∃t i,P.underlying src=some .unsafePointer∧P.underlying dst=some (.pointer t)∧aB P t=some i∧liesAt P P.depth t' (cs.length / P.cellsOf t') off t 1=true) :
  fu P w0 G0 a w o { st with t:=br st.t o.dst (.ptr r off) }:=by
 have hv:=hr.ev x;rw [hx] at hv;have vr:=hv;simp only [VT] at hv;obtain⟨b,he,hat⟩:=hv;obtain⟨vs,hh,-,hvs⟩:=hr.box hat hb;have hsz:vs.size=cs.length:=by simpa using hvs.length
 have hsh:w.shape? b=some (t',cs.length):=by simp only [World.shape?,hh,hsz]
 have hrun:(convert src dst (a.eval x)).run P w=.ok (a.eval x) w:=by
  rw [he];rcases rR with⟨t,i,h1,h2,h3,h4,h5⟩ | ⟨t,i,h1,h2,h3,h4⟩
  ·obtain⟨j,hj,-,hjs,-⟩:=aq h3
   exact Lib.run_to_unsafe w ⟨b,off,none⟩ h1 h2 hj (by rw [hjs];exact h4) hsh h5
  ·obtain⟨j,hj,-⟩:=aq h3
   exact Lib.run_from_unsafe w ⟨b,off,none⟩ h1 h2 hj hsh h4
 refine⟨_,a.eval x,w,G,?_,.inl rfl,hr.put vr o.dst⟩;simp only [execOp,ho,Sem.run_bind,hrun,Result.andThen_ok,Sem.run_pure]
end
end Go.RT
namespace Go.RT
open Go.MapKept
variable {E : TEnv}
def El {α β:Type} (eq:α→α→Bool) (m:List (α × β)) (k:α) (v:β):List (α × β) :=
 bif m.any (fun p=>eq p.1 k) then m.map (fun p=>bif eq p.1 k then (k,v) else p) else m++[(k,v)]
def sS {α β:Type} (eq:α→α→Bool) (m:List (α × β)) (k:α) (z:β):β:=match m.find? (fun p=>eq p.1 k) with | some p=>p.2 | none=>z
def N2 {α β:Type} (eq:α→α→Bool) (m:List (α × β)) (k:α):Bool:=m.any (fun p=>eq p.1 k)
def GD:Ty→Option (List Ty)
 | .int k=>some [.int k]
 | .bool=>some [.bool]
 | .str=>some [.str]
 | .unit=>some []
 | .pair a b=>match GD a,GD b with
  | some x,some y=>some (x++y)
  | _,_=>none
 | _=>none
def y7:DV→Value
 | .int k n=>.int k n
 | .bool b=>.bool b
 | .str l=>mkStr l
 | _=>undef
def Ty.cH (E:TEnv):(t:Ty)→t.den E.D→Value
 | .str,l=>mkStr l
 | .int k,n=>.int k n
 | .bool,b=>.bool b
 | .ext i,x=>.agg (((E.df i).cells E (E.vm i x)).map y7).toArray
 | _,_=>undef
def J0 (E:TEnv):(t:Ty)→t.den E.D→t.den E.D→Bool
 | .str,a,b=>a==b
 | .int _,a,b=>a==b
 | .bool,a,b=>a==b
 | .pair s t,a,b=>J0 E s a.1 b.1&&J0 E t a.2 b.2
 | .unit,_,_=>true
 | _,_,_=>false
def Ty.fI (E:TEnv):(t:Ty)→t.den E.D→t.den E.D→Bool
 | .str,a,b=>a==b
 | .int _,a,b=>a==b
 | .bool,a,b=>a==b
 | .ext i,a,b=>J0 E (E.df i) (E.vm i a) (E.vm i b)
 | _,_,_=>false
def zP:Ty→TypeDesc→Bool
 | .str,.string=>true
 | .int k,.int k'=>decide (k=k')
 | .bool,.bool=>true
 | _,_=>false
def aec (P:Program) (ty:TypeId):Ty→Bool
 | .int k=>match P.underlying ty with
  | some (.int k')=>decide (k=k')
  | _=>false
 | .bool=>match P.underlying ty with
  | some .bool=>true
  | _=>false
 | .str=>match P.underlying ty with
  | some .string=>true
  | _=>false
 | _=>false
def uE (P:Program):Nat→List Field→List Ty→Bool
 | _,[],[]=>true
 | n,f::fs,t::ts=>Nat.beq f.offset n && !(f.name == "_")&&aec P f.type t&&uE P (n+1) fs ts
 | _,_,_=>false
def ahr (E:TEnv) (P:Program) (k:TypeId):Ty→TypeDesc→Bool
 | .ext i,.struct fs=>(match GD (E.df i) with
  | some ts=>uE P 0 fs.toList ts
  | none=>false) && !(P.stoodInHeld k)
 | _,_=>false
def SH (E:TEnv) (P:Program) (k:TypeId) (t:Ty) (d:TypeDesc):Bool:=zP t d||ahr E P k t d
structure Dm (E:TEnv) (P:Program) (k:TypeId) (t:Ty):Prop where
 vt:∀ {w:World} {G:au} {x:t.den E.D} {v:Value},VT E w G (.dat t x) v→v=t.cH E x
 of:∀(w:World) (G:au) (x:t.den E.D),VT E w G (.dat t x) (t.cH E x)
 fI:∀ {x y:t.den E.D},t.fI E x y=true↔t.cH E x=t.cH E y
 check:∀(em:Bool) (x:t.den E.D) (w:World),(Instr.checkKey em 10000 k (t.cH E x)).run P w=.ok () w
 find:∀(x:t.den E.D) (es:List MapEntry) (w:World),(∀e∈es,∃y:t.den E.D,e.key=t.cH E y) →
  ((Instr.findKey k (t.cH E x) es).run P w=.ok none w∧∀e∈es,e.key≠t.cH E x) ∨
  ∃(j:Nat) (e:MapEntry),(Instr.findKey k (t.cH E x) es).run P w=.ok (some (j,e.val)) w∧es[j]? = some e∧e.key=t.cH E x
 stays:∀(x:t.den E.D) (w:World),(Instr.keyThatStays (t.cH E x) (t.cH E x)).run P w=.ok (t.cH E x) w
section
variable {t : Ty} {d : TypeDesc}
theorem akS (h:zP t d=true) {w:World} {G:au} {k:t.den E.D} {v:Value} (hv:VT E w G (.dat t k) v):v=t.cH E k:=by
 unfold zP at h;split at h<;>try (cases h;done)
 ·exact hv.ep
 ·exact hv.dw
 ·exact hv.iG
theorem ahs (h:zP t d=true) (w:World) (G:au) (k:t.den E.D):VT E w G (.dat t k) (t.cH E k):=by
 unfold zP at h;split at h<;>try (cases h;done)
 ·exact .str w G _
 ·exact .int w G _ _
 ·exact .bool w G _
theorem AL (h:zP t d=true) (k:t.den E.D):IsKey d (t.cH E k):=by
 unfold zP at h;split at h<;>try (cases h;done)
 ·trivial
 ·simp at h;subst h;rfl
 ·trivial
theorem aht (h:zP t d=true) {a b:t.den E.D} (e:t.cH E a=t.cH E b):a=b:=by
 unfold zP at h;split at h<;>try (cases h;done)
 ·simpa [Ty.cH,mkStr] using e
 ·simpa [Ty.cH] using e
 ·simpa [Ty.cH] using e
theorem acM (h:zP t d=true) {a b:t.den E.D}:t.fI E a b=true↔a=b:=by
 unfold zP at h;split at h<;>try (cases h;done)
 ·exact beq_iff_eq
 ·exact beq_iff_eq
 ·exact beq_iff_eq
theorem abz {P:Program} {k:TypeId} (hd:P.underlying k=some d) (h:zP t d=true):Dm E P k t:={
 vt:=akS h
 of:=ahs h
 fI:=⟨fun e=>by rw [(acM h).1 e],fun e=>(acM h).2 (aht h e)⟩
 check:=fun em x w=>MapKept.run_checkKey hd (AL h x) em 9999
 find:=fun x es w hk=>by
  rcases findNow_spec (AL h x) es 0 (fun e he=>by obtain⟨y,hy⟩:=hk e he;rw [hy];exact AL h _) with⟨h1,h2⟩ | ⟨j,e,h1,h2,h3⟩
  ·exact .inl ⟨MapKept.run_findKey hd h1,h2⟩
  ·exact .inr ⟨j,e,MapKept.run_findKey hd (by simpa using h1),h2,h3⟩
 stays:=fun x w=>MapKept.run_keyThatStays (AL h x) }
def HS:Ty→DV→Prop
 | .int k,d=>∃n,d=.int k n
 | .bool,d=>∃b,d=.bool b
 | .str,d=>∃l,d=.str l
 | _,_=>False
def vu:List Ty→List DV→Prop
 | [],[]=>True
 | t::ts,d::ds=>HS t d∧vu ts ds
 | _,_=>False
theorem vu.append:∀ {ts us:List Ty} {ds es:List DV},vu ts ds→vu us es→vu (ts++us) (ds++es)
 | [],_,[],_,_,h=>h
 | _::_,_,_::_,_,h,h'=>⟨h.1,h.2.append h'⟩
 | [],_,_::_,_,h,_=>h.elim
 | _::_,_,[],_,h,_=>h.elim
theorem Em:∀(t:Ty) {ts:List Ty} (x:t.den E.D),GD t=some ts→vu ts (t.cells E x)
 | .int k,ts,x,h=>by cases h;exact⟨⟨x,rfl⟩,trivial⟩
 | .bool,ts,x,h=>by cases h;exact⟨⟨x,rfl⟩,trivial⟩
 | .str,ts,x,h=>by cases h;exact⟨⟨x,rfl⟩,trivial⟩
 | .unit,ts,x,h=>by cases h;trivial
 | .pair a b,ts,x,h=>by
  simp only [GD] at h;split at h<;>try (cases h;done)
  rename_i p q h1 h2;cases h
  exact (Em a x.1 h1).append (Em b x.2 h2)
 | .aG _,ts,x,h=>by cases h
 | .ext _,ts,x,h=>by cases h
theorem AM:∀(t:Ty) {ts:List Ty} (x y:t.den E.D),GD t=some ts→mX (t.cells E x) (t.cells E y)=some (J0 E t x y)
 | .int k,ts,x,y,h=>by simp [Ty.cells,mX,N1,J0]
 | .bool,ts,x,y,h=>by simp [Ty.cells,mX,N1,J0]
 | .str,ts,x,y,h=>by simp [Ty.cells,mX,N1,J0]
 | .unit,ts,x,y,h=>by simp [Ty.cells,mX,J0]
 | .pair a b,ts,x,y,h=>by
  simp only [GD] at h;split at h<;>try (cases h;done)
  rename_i p q h1 h2;have i1:=AM a x.1 y.1 h1;have i2:=AM b x.2 y.2 h2
  have app:∀(as bs cs ds:List DV) (p q:Bool),mX as bs=some p→mX cs ds=some q→mX (as++cs) (bs++ds)=some (p&&q):=by
   intro as
   induction as with
   | nil=>intro bs cs ds p q h1 h2;cases bs with
    | nil=>cases h1;simpa using h2
    | cons _ _=>cases h1
   | cons a as ih=>intro bs cs ds p q h1 h2;cases bs with
    | nil=>cases h1
    | cons b bs =>
     simp only [mX,je] at h1 ⊢;split at h1<;>try (cases h1;done)
     rename_i u v hu hv;cases h1;rw [hu,ih bs cs ds v q hv h2,Bool.and_assoc]
  exact app _ _ _ _ _ _ i1 i2
 | .aG _,ts,x,y,h=>by cases h
 | .ext _,ts,x,y,h=>by cases h
theorem acN {w:World} {pr:Nat→Nat→Prop}:∀ {ts:List Ty} {ds:List DV} {vs:List Value},vu ts ds→LD w pr vs ds→vs=ds.map y7
 | [],[],[],_,_=>rfl
 | t::ts,d::ds,v::vs,h,hl=>by
  rw [eV,←acN h.2 hl.2];have h1:=h.1;congr 1
  cases t<;>first | exact h1.elim | (obtain⟨n,rfl⟩:=h1;cases hl.1;rfl)
 | [],[],_::_,_,hl=>hl.elim
 | [],_::_,_,h,_=>h.elim
 | _::_,[],_,h,_=>h.elim
 | _::_,_::_,[],_,hl=>hl.elim
theorem Dn (w:World) (pr:Nat→Nat→Prop):∀ {ts:List Ty} {ds:List DV},vu ts ds→LD w pr (ds.map y7) ds
 | [],[],_=>trivial
 | t::ts,d::ds,h=>by
  refine⟨?_,Dn w pr h.2⟩;have h1:=h.1
  cases t<;>first | exact h1.elim | (obtain⟨n,rfl⟩:=h1;constructor)
 | [],_::_,h=>h.elim
 | _::_,[],h=>h.elim
theorem Va {P:Program}:∀ {n:Nat} {fs:List Field} {ts:List Ty} {ds cs:List DV},uE P n fs ts=true→vu ts ds→vu ts cs→qP P n fs ds cs=true
 | n,[],[],[],[],_,_,_=>rfl
 | n,f::fs,t::ts,d::ds,c::cs,h,h1,h2=>by
  simp only [uE,aV] at h;obtain⟨⟨⟨a1,a2⟩,a3⟩,a4⟩:=h;simp only [qP,a1,a2,Va a4 h1.2 h2.2,O4,XL,aV]
  have key:∀ {d:DV},HS t d→Dl P f.type d=true:=by
   intro d hd;cases t<;>first | exact hd.elim | (obtain⟨n,rfl⟩:=hd;exact a3)
  exact⟨key h1.1,key h2.1⟩
 | _,[],[],_::_,_,_,h,_=>h.elim
 | _,[],[],[],_::_,_,_,h=>h.elim
 | _,[],_::_,_,_,h,_,_=>by simp [uE] at h
 | _,_::_,[],_,_,h,_,_=>by simp [uE] at h
 | _,_::_,_::_,[],_,_,h,_=>h.elim
 | _,_::_,_::_,_::_,[],_,_,h=>h.elim
theorem Vb:∀ {ts:List Ty} {ds cs:List DV} {b:Bool},vu ts ds→vu ts cs→mX ds cs=some b→(b=true↔ds.map y7=cs.map y7)
 | [],[],[],b,_,_,h=>by cases h;simp
 | t::ts,d::ds,c::cs,b,h1,h2,h=>by
  simp only [mX] at h;split at h<;>try (cases h;done)
  rename_i p q hp hq;cases h;rw [aV,eV,eV,List.cons.injEq,Vb h1.2 h2.2 hq];refine and_congr ?_ Iff.rfl;have h1:=h1.1;have h2:=h2.1
  cases t<;>first | exact h1.elim | (obtain⟨n,rfl⟩:=h1;obtain⟨m,rfl⟩:=h2;cases hp;simp [y7,mkStr])
 | [],_::_,_,_,h,_,_=>h.elim
 | [],[],_::_,_,_,h,_=>h.elim
 | _::_,[],_,_,h,_,_=>h.elim
 | _::_,_::_,[],_,_,h,_=>h.elim
theorem afV {P:Program} {w:World} {ty:TypeId} {t:Ty} {d:DV} (h:aec P ty t=true) (hd:HS t d):(∀w,(isAgg ty).run P w=.ok false w)∧∀em n w,(Instr.checkKey em (n+1) ty (y7 d)).run P w=.ok () w:=by
 unfold aec at h;split at h<;>try (cases h;done)
 all_goals
  split at h<;>try (cases h;done)
  rename_i hu;obtain⟨x,rfl⟩:=hd;exact⟨fun w=>by simp [isAgg,ak hu],fun em n w=>by simp [Instr.checkKey,ak hu,y7,mkStr]⟩
theorem YY (hE:E.Ok) {P:Program} {k:TypeId} (hd:P.underlying k=some d) (h:ahr E P k t d=true):Dm E P k t:=by
 unfold ahr at h;split at h<;>try (cases h;done)
 rename_i i fs;rw [aV,nq] at h;obtain⟨h,hst⟩:=h;split at h<;>try (cases h;done)
 rename_i ts hts;have hall:∀x:E.D i,vu ts ((E.df i).cells E (E.vm i x)):=fun x=>Em _ _ hts;have hfs:P.fieldsOf k=fs:=by unfold Program.fieldsOf;rw [hd]
 have aed:∀x y:E.D i,(Ty.ext i).fI E x y=true↔(Ty.ext i).cH E x=(Ty.ext i).cH E y:=fun x y=>by
  have:=Vb (hall x) (hall y) (AM (E.df i) (E.vm i x) (E.vm i y) hts);simp only [Ty.fI,Ty.cH,this];constructor
  ·intro e;rw [e]
  ·intro e;simpa using e
 have YZ:∀(x y:E.D i) (w:World),(Op.equal k ((Ty.ext i).cH E x) ((Ty.ext i).cH E y)).run P w=.ok ((Ty.ext i).fI E x y) w:=fun x y w=>by
  simp only [Op.equal,Op.maxDepth,Ty.cH,Ty.fI];rw [run_equalIn_struct w 9999 k _ _ (by rw [hfs];exact hd) hst,hfs];exact YU (w:=w) (pr:=fun _ _=>True) fs.toList 0 _ _ _ _ _ (fun j=>by simp) (fun j=>by simp) (Dn w _ (hall x)) (Dn w _ (hall y)) (Va h (hall x) (hall y)) (AM (E.df i) _ _ hts) w 9998
 refine⟨fun {w G x v} hv=>?_,fun w G x=>?_,fun {x y}=>aed x y,fun em x w=>?_,fun x es w hk=>?_,fun x w=>?_⟩
 ·simp only [VT,Ty.isAgg] at hv
  obtain⟨vs,rfl,hl⟩:=hv;rw [show Ty.cells E (.ext i) x=E.enc i x from rfl,hE.enc] at hl;have:=acN (hall x) hl;simp only [Ty.cH];rw [←this]
 ·simp only [VT,Ty.isAgg]
  refine⟨_,rfl,?_⟩;rw [show Ty.cells E (.ext i) x=E.enc i x from rfl,hE.enc];simpa using Dn w G.pr (hall x)
 ·simp only [Ty.cH]
  rw [show (10000:Nat)=9998+1+1 from rfl];generalize (9998:Nat)=m;rw [Instr.checkKey];simp only [Sem.run_bind,ak hd,Result.andThen_ok];rw [←Array.forIn_toList];have hx:∀j:Nat,(((E.df i).cells E (E.vm i x)).map y7).toArray[0+j]? = (((E.df i).cells E (E.vm i x)).map y7)[j]?:=fun j=>by simp
  have hp:=hall x;clear hall aed YZ hfs hd hts;generalize (((E.df i).cells E (E.vm i x)).map y7).toArray=xs at hx ⊢;generalize (E.df i).cells E (E.vm i x)=ds at hx hp;generalize fs.toList=l at h ⊢;generalize (0:Nat)=n at hx h
  induction l generalizing n ts ds with
  | nil=>simp
  | cons f l ih =>
   cases ts with
   | nil=>simp [uE] at h
   | cons t ts =>
    cases ds with
    | nil=>exact hp.elim
    | cons d ds =>
     simp only [uE,aV,nq] at h;obtain⟨⟨⟨f1,f2⟩,f3⟩,f4⟩:=h;have f1:=bt f1
     have f2:f.name ≠ "_" := by simpa using f2
     obtain⟨g1,g2⟩:=afV (w:=w) f3 hp.1;have hx0:xs[f.offset]? = some (y7 d):=by rw [f1];simpa using hx 0
     have px:∀w',(part f.type xs f.offset).run P w'=.ok (y7 d) w':=fun w'=>by simp [part,g1,hx0]
     have:=ih (n:=n+1) (ts:=ts) (ds:=ds) hp.2 (fun j=>by have:=hx (j+1);rw [show n+(j+1)=n+1+j by omega] at this;simpa using this) f4;rw [List.forIn_cons];simp only [if_pos f2,Sem.run_bind,px,g2,Result.andThen_ok,Sem.run_pure];exact this
 ·cases es with
  | nil=>exact .inl ⟨by simp [Instr.findKey,ak hd,Instr.findNow],fun e he=>by cases he⟩
  | cons e0 es =>
   obtain⟨y0,hy0⟩:=hk e0 si
   have ahi:(Instr.findKey k ((Ty.ext i).cH E x) (e0::es)).run P w=(Instr.findAsking k ((Ty.ext i).cH E x) (e0::es)).run P w:=by
    simp [Instr.findKey,ak hd,Instr.findNow,Instr.sameNow]
   rw [ahi]
   have key:∀(es:List MapEntry) (n:Nat),(∀e∈es,∃y:E.D i,e.key=(Ty.ext i).cH E y) →
     ((Instr.findAsking k ((Ty.ext i).cH E x) es n).run P w=.ok none w∧∀e∈es,e.key≠(Ty.ext i).cH E x) ∨
     ∃(j:Nat) (e:MapEntry),(Instr.findAsking k ((Ty.ext i).cH E x) es n).run P w=.ok (some (n+j,e.val)) w∧es[j]? = some e∧e.key=(Ty.ext i).cH E x:=by
    intro es
    induction es with
    | nil=>intro n _;exact .inl ⟨by simp [Instr.findAsking],fun e he=>by cases he⟩
    | cons e es ih =>
     intro n hk;obtain⟨y,hy⟩:=hk e si
     cases hb:(Ty.ext i).fI E x y with
     | true =>
      refine .inr ⟨0,e,?_,rfl,by rw [hy];exact ((aed x y).1 hb).symm⟩
      simp only [Instr.findAsking,Sem.run_bind,hy,YZ,hb,Result.andThen_ok,if_true,Sem.run_pure,lE]
     | false =>
      have hne:e.key≠(Ty.ext i).cH E x:=fun he=>by
       rw [hy] at he;rw [(aed x y).2 he.symm] at hb;cases hb
      have hstep:(Instr.findAsking k ((Ty.ext i).cH E x) (e::es) n).run P w=(Instr.findAsking k ((Ty.ext i).cH E x) es (n+1)).run P w:=by
       simp only [Instr.findAsking,Sem.run_bind,hy,YZ,hb,Result.andThen_ok,Bw,if_false]
      rw [hstep];rcases ih (n+1) (fun e he=>hk e (by simp [he])) with⟨h1,h2⟩ | ⟨j,e',h1,h2,h3⟩
      ·exact .inl ⟨h1,fun e' he'=>by
        rcases fK.1 he' with rfl | he'
        ·exact hne
        ·exact h2 e' he'⟩
      ·exact .inr ⟨j+1,e',by rw [h1];congr 3;omega,by simpa using h2,h3⟩
   rcases key (e0::es) 0 hk with h1 | ⟨j,e,h1,h2⟩
   ·exact .inl h1
   ·exact .inr ⟨j,e,by rw [h1,fC],h2⟩
 ·have hp:∀(ts:List Ty) (ds:List DV),vu ts ds→((ds.map y7).zip (ds.map y7)).all (fun (x,y)=>Instr.sameBits 9999 x y)=true:=by
   intro ts
   induction ts with
   | nil=>intro ds h;cases ds with
    | nil=>rfl
    | cons _ _=>exact h.elim
   | cons t ts ih=>intro ds h;cases ds with
    | nil=>exact h.elim
    | cons d ds =>
     simp only [eV,O1,List.all_cons,ih ds h.2,XL];have h1:=h.1;cases t<;>first | exact h1.elim | (obtain⟨n,rfl⟩:=h1;simp only [y7,mkStr,Instr.sameBits];exact (MapKept.bytes_beq _ _).2 rfl) | (obtain⟨n,rfl⟩:=h1;simp [y7,Instr.sameBits])
  have hs:Instr.sameBits 10000 ((Ty.ext i).cH E x) ((Ty.ext i).cH E x)=true:=by
   simp only [Ty.cH,Instr.sameBits,beq_self_eq_true,O4];exact hp ts _ (hall x)
  simp [Instr.keyThatStays,hs]
theorem Y0 (hE:E.Ok) {P:Program} {k:TypeId} (hd:P.underlying k=some d) (h:SH E P k t d=true):Dm E P k t:=by
 unfold SH at h;rw [Ef] at h;rcases h with h | h
 ·exact abz hd h
 ·exact YY hE hd h
end
section
variable {P : Program} {w0 w w' : World} {G0 G G' : au} {st : TS E} {a : Act} {o : Oper} {kt vt : Ty} {d : TypeDesc} {m : List (kt.den E.D × vt.den E.D)}
theorem dA.length:∀ {es:List MapEntry} {m:List (kt.den E.D × vt.den E.D)},dA E w G kt vt es m→es.length=m.length
 | [],[],_=>rfl
 | _::_,_::_,h=>by simp [dA.length h.2.2]
 | [],_::_,h=>h.elim
 | _::_,[],h=>h.elim
theorem dA.get:∀ {es:List MapEntry} {m:List (kt.den E.D × vt.den E.D)} (j:Nat) {e:MapEntry},dA E w G kt vt es m→es[j]? = some e→∃p,m[j]? = some p∧VT E w G (.dat kt p.1) e.key∧VT E w G (.dat vt p.2) e.val
 | [],[],_,_,_,h=>by simp at h
 | e::es,p::ps,0,x,h,hj=>by simp at hj;subst hj;exact⟨p,rfl,h.1,h.2.1⟩
 | e::es,p::ps,j+1,x,h,hj=>by simpa using dA.get j h.2.2 (by simpa using hj)
 | [],_::_,_,_,h,_=>h.elim
 | _::_,[],_,_,h,_=>h.elim
theorem dA.get':∀ {es:List MapEntry} {m:List (kt.den E.D × vt.den E.D)} (j:Nat) {p:kt.den E.D × vt.den E.D},dA E w G kt vt es m→m[j]? = some p→∃e,es[j]? = some e∧VT E w G (.dat kt p.1) e.key∧VT E w G (.dat vt p.2) e.val
 | [],[],_,_,_,h=>by simp at h
 | e::es,p::ps,0,x,h,hj=>by simp at hj;subst hj;exact⟨e,rfl,h.1,h.2.1⟩
 | e::es,p::ps,j+1,x,h,hj=>by simpa using dA.get' j h.2.2 (by simpa using hj)
 | [],_::_,_,_,h,_=>h.elim
 | _::_,[],_,_,h,_=>h.elim
theorem dA.append:∀ {es:List MapEntry} {m:List (kt.den E.D × vt.den E.D)} {e:MapEntry} {p:kt.den E.D × vt.den E.D},dA E w G kt vt es m→VT E w G (.dat kt p.1) e.key→VT E w G (.dat vt p.2) e.val→dA E w G kt vt (es++[e]) (m++[p])
 | [],[],_,_,_,h1,h2=>⟨h1,h2,trivial⟩
 | _::_,_::_,_,_,h,h1,h2=>⟨h.1,h.2.1,dA.append h.2.2 h1 h2⟩
 | [],_::_,_,_,h,_,_=>h.elim
 | _::_,[],_,_,h,_,_=>h.elim
theorem dA.set:∀ {es:List MapEntry} {m:List (kt.den E.D × vt.den E.D)} (j:Nat) {e:MapEntry} {p:kt.den E.D × vt.den E.D},dA E w G kt vt es m→VT E w G (.dat kt p.1) e.key→VT E w G (.dat vt p.2) e.val→dA E w G kt vt (es.set j e) (m.set j p)
 | [],[],_,_,_,_,_,_=>trivial
 | _::_,_::_,0,_,_,h,h1,h2=>⟨h1,h2,h.2.2⟩
 | _::_,_::_,j+1,_,_,h,h1,h2=>⟨h.1,h.2.1,dA.set j h.2.2 h1 h2⟩
 | [],_::_,_,_,_,h,_,_=>h.elim
 | _::_,[],_,_,_,h,_,_=>h.elim
theorem Y1 {ki:TypeId} (K:Dm E P ki kt) {es:Array MapEntry} (h:dA E w G kt vt es.toList m) (k:kt.den E.D) (W:World) :
  ((Instr.findKey ki (kt.cH E k) es.toList).run P W=.ok none W∧m.any (fun p=>kt.fI E p.1 k)=false∧∀x∈es.toList,x.key≠kt.cH E k) ∨
  ∃j e p,(Instr.findKey ki (kt.cH E k) es.toList).run P W=.ok (some (j,e.val)) W∧es[j]? = some e∧e.key=kt.cH E k∧m[j]? = some p∧kt.fI E p.1 k=true∧VT E w G (.dat vt p.2) e.val:=by
 have hkey:∀x∈es.toList,∃p∈m,x.key=kt.cH E p.1:=fun x hx=>by
  obtain⟨j,hj,rfl⟩:=gZ hx;obtain⟨p,hp,h1,-⟩:=h.get j (bK hj);exact⟨p,ek hp,K.vt h1⟩
 rcases K.find k es.toList W (fun x hx=>by obtain⟨p,-,hk⟩:=hkey x hx;exact⟨_,hk⟩) with⟨h1,h2⟩ | ⟨j,e,h1,h2,h3⟩
 ·refine .inl ⟨h1,?_,h2⟩
  apply O2.2;intro ha;obtain⟨p,hp,he⟩:=XR.1 ha;obtain⟨j,hj,rfl⟩:=gZ hp;obtain⟨x,hx,hk,-⟩:=h.get' j (bK hj);exact h2 x (ek hx) (by rw [K.vt hk,K.fI.1 he])
 ·have hj:es[j]? = some e:=by simpa using h2
  obtain⟨p,hp,hk,hv⟩:=h.get j h2;exact .inr ⟨j,e,p,h1,hj,h3,hp,K.fI.2 ((K.vt hk).symm.trans h3),hv⟩
theorem Vc {ki:TypeId} (K:Dm E P ki kt) {es:Array MapEntry} {clock:Nat} (hs:Stamped es clock) (h:dA E w G kt vt es.toList m):m.Pairwise (fun p q=>kt.cH E p.1≠kt.cH E q.1):=by
 have h3:=hs.2.2
 have:es.toList.map (·.key)=(m.map (·.1)).map (kt.cH E):=by
  apply zE (by simp [h.length]);intro j h1 h2;have hj:j<es.toList.length:=by simpa using h1
  obtain⟨p,hp,hk,-⟩:=h.get j (bK hj);have hjm:j<m.length:=(bS.1 hp).1;have:m[j]=p:=by rw [bK hjm] at hp;exact gC hp
  simp only [Jp,this];exact K.vt hk
 rw [this] at h3;have h3':List.Pairwise (·≠·) ((m.map (·.1)).map (kt.cH E)):=h3;rw [List.pairwise_map] at h3';rw [List.pairwise_map] at h3';exact h3'
theorem ajs {ki:TypeId} (K:Dm E P ki kt) (hn:m.Pairwise (fun p q=>kt.cH E p.1≠kt.cH E q.1)) {j:Nat} {p:kt.den E.D × vt.den E.D} (hj:m[j]? = some p) {k:kt.den E.D} (hk:kt.fI E p.1 k=true) (v:vt.den E.D):El (kt.fI E) m k v=m.set j (k,v):=by
 have ahu:m.any (fun p=>kt.fI E p.1 k)=true:=XR.2 ⟨p,ek hj,hk⟩;unfold El;rw [ahu,cond_true];have hjl:j<m.length:=(bS.1 hj).1;have hpj:m[j]=p:=by rw [bK hjl] at hj;exact gC hj
 apply zE si;intro q h1 h2;have hq:q<m.length:=by simpa using h1
 rw [Jp,adC];by_cases hqj:j=q
 ·subst hqj
  rw [if_pos rfl,hpj,hk,cond_true]
 ·rw [if_neg hqj]
  have hne:kt.fI E m[q].1 k=false:=by
   apply O2.2;intro he;have he':=K.fI.1 he;have hk':=K.fI.1 hk;have:=(XJ.1 hn);rcases Nat.lt_or_gt_of_ne hqj with hlt | hlt
   ·exact this j q hjl hq hlt (by rw [hpj,hk',he'])
   ·exact this q j hq hjl hlt (by rw [hpj,hk',he'])
  rw [hne,cond_false]
theorem aee {b:Nat} {t k e:TypeId} {es:Array MapEntry} {clock:Nat} (K:Dm E P k kt) (hm:P.underlying t=some (.map k e)) (hb:w.heap[b]? = some (.map es clock)) (hs:Stamped es clock) (h:dA E w G kt vt es.toList m)
  (x:kt.den E.D) (v:vt.den E.D) {vv:Value} (hv:VT E w G (.dat vt v) vv) :
  ∃es' clock',(Instr.mapUpdate t (.map (some b)) (kt.cH E x) vv).run P w=.ok () { w with heap:=w.heap.setIfInBounds b (.map es' clock') }∧Stamped es' clock'∧dA E w G kt vt es'.toList (El (kt.fI E) m x v):=by
 rcases Y1 K h x w with⟨h1,h2,h3⟩ | ⟨j,e,p,h1,hj,h3,hp,hpk,HQ⟩
 ·refine⟨es.push ⟨kt.cH E x,vv,clock⟩,clock+1,?_,stamped_push hs h3,?_⟩
  ·simp [Instr.mapUpdate,run_underlying hm,MapKept.run_getObj_map hb,K.check,h1,MapKept.run_setObj_map _ hb,Result.andThen]
  ·unfold El
   rw [h2,cond_false,Array.toList_push];exact h.append (K.of w G x) hv
 ·refine⟨es.modify j fun e=>{ e with key:=kt.cH E x,val:=vv },clock,?_,stamped_modify hs _ _ (fun _ _=>rfl) (fun e' _ he'=>by rw [hj] at he';cases he';exact h3.symm),?_⟩
  ·simp [Instr.mapUpdate,run_underlying hm,MapKept.run_getObj_map hb,K.check,h1,hj,h3,K.stays,MapKept.run_setObj_map _ hb,Result.andThen]
  ·rw [ajs K (Vc K hs h) hp hpk v]
   have:(es.modify j fun e=>{ e with key:=kt.cH E x,val:=vv }).toList=es.toList.set j { e with key:=kt.cH E x,val:=vv }:=by
    apply zE si;intro q h1 h2;simp only [Array.getElem_toList,Array.getElem_modify,adC];by_cases hqj:j=q
    ·subst hqj
     obtain⟨hjl,hje⟩:=lF.1 hj;simp [hje]
    ·simp [hqj]
   rw [this];exact h.set j (K.of w G x) hv
theorem ahv {b:Nat} {t k e:TypeId} {es:Array MapEntry} {clock:Nat} {z:vt.den E.D} {zv:Value} (K:Dm E P k kt) (hm:P.underlying t=some (.map k e)) (hz:∀w,(zeroValue e).run P w=.ok zv w) (M1:VT E w G (.dat vt z) zv)
  (hb:w.heap[b]? = some (.map es clock)) (hs:Stamped es clock) (h:dA E w G kt vt es.toList m) (x:kt.den E.D) (c:Bool) :
  ∃u,VT E w G (.dat vt (sS (kt.fI E) m x z)) u∧(Instr.lookup t (.map (some b)) (kt.cH E x) c).run P w=.ok (if c then .tuple #[u,.bool (N2 (kt.fI E) m x)] else u) w:=by
 rcases Y1 K h x w with⟨h1,h2,h3⟩ | ⟨j,en,p,h1,hj,h3,hp,hpk,hv⟩
 ·have hf:m.find? (fun p=>kt.fI E p.1 x)=none:=by
   rw [List.find?_eq_none];intro p hp he;have:=adD.1 h2 p hp;exact this he
  have hg:sS (kt.fI E) m x z=z:=by unfold sS;rw [hf]
  rw [hg];unfold N2;rw [h2];refine⟨zv,M1,?_⟩;simp [Instr.lookup,run_underlying hm,MapKept.run_getObj_map hb,K.check,h1,hz,Result.andThen]
 ·have hf:m.find? (fun p=>kt.fI E p.1 x)=some p:=by
   obtain⟨hjl,hjp⟩:=bS.1 hp;rw [aiv];refine⟨hpk,j,hjl,hjp,fun q hq=>?_⟩;have hn:=XJ.1 (Vc K hs h) q j om hjl hq;rw [hjp,K.fI.1 hpk] at hn
   cases hb:kt.fI E m[q].1 x with
   | false=>rfl
   | true=>exact (hn (K.fI.1 hb)).elim
  have hg:sS (kt.fI E) m x z=p.2:=by unfold sS;rw [hf]
  have ahu:N2 (kt.fI E) m x=true:=XR.2 ⟨p,ek hp,hpk⟩;rw [hg,ahu];refine⟨en.val,hv,?_⟩;simp [Instr.lookup,run_underlying hm,MapKept.run_getObj_map hb,K.check,h1,Result.andThen]
theorem Y2 (hr:Rel E w0 G0 st a w G) {t:TypeId} (ho:o.op=.makeMap t none) (kt vt:Ty) :
  fu P w0 G0 a w o { st with t:=br st.t o.dst (.eY st.H.length),H:=st.H++[.map kt vt []] }:=by
 have hN:=hr.Fm (.map #[] 0) (.map kt vt []) ⟨#[],0,(MapKept.heap_alloc w _).1,stamped_empty 0,trivial⟩;refine⟨.value (.map (some w.heap.size)),_,_,_,?_,.inl rfl,hN.put (d:=.eY st.H.length) ?_ o.dst⟩
 ·simp [execOp,ho,Instr.makeMap]
 ·simp only [VT]
  refine⟨_,rfl,?_⟩;rw [←hr.boxes.len];simp
theorem SI (hE:E.Ok) (hr:Rel E w0 G0 st a w G) {t k e:TypeId} {x y z:Operand} (ho:o.op=.mapUpdate t x y z) {j1 j2:Nat} {zz:Value} (hm:aB P t=some ⟨.map k e,j1,j2,zz⟩) {ik:TI} (hk:aB P k=some ik) (K0:SH E P k kt ik.kind=true)
  {r:Nat} (hx:st.ev x=.eY r) (hb:st.H[r]? = some (.map kt vt m)) {kk:kt.den E.D} {vv:vt.den E.D} (hy:(st.ev y).get kt=some kk) (hz:(st.ev z).get vt=some vv) :
  fu P w0 G0 a w o { st with t:=br st.t o.dst .any,H:=st.H.set r (.map kt vt (El (kt.fI E) m kk vv)),d:=r::st.d }:=by
 obtain⟨_,_,hum,-⟩:=aq hm;obtain⟨_,_,huk,-⟩:=aq hk;have K:=Y0 hE huk K0;have mU:=hr.ev x;rw [hx] at mU;simp only [VT] at mU;obtain⟨b,he,hat⟩:=mU;obtain⟨es,clock,hh,hs,hmr⟩:=hr.box hat hb;have hvk:=K.vt (TV.nF hy (hr.ev y));obtain⟨es',clock',hrun,hs',anv⟩:=aee (P:=P) K hum hh hs hmr kk vv (TV.nF hz (hr.ev z))
 have hR:=hr.tA (w':={ w with heap:=w.heap.setIfInBounds b (.map es' clock') }) hat si rfl rfl rfl (fun b' hb'=>(MapKept.heap_set hh).2 b' hb') (x:=.map kt vt (El (kt.fI E) m kk vv))
  (fun hg=>⟨es',clock',(MapKept.heap_set hh).1,hs',anv.mono hg⟩)
 refine⟨_,undef,_,G,?_,.inr ⟨rfl,rfl⟩,hR.put (v:=undef) (by simp only [VT]) o.dst⟩;simp only [execOp,ho,he,hvk,Sem.run_bind,hrun,Result.andThen_ok,Sem.run_pure]
theorem abA (hE:E.Ok) (hr:Rel E w0 G0 st a w G) {t k e:TypeId} {x y:Operand} {ok:Bool} (ho:o.op=.lookup t x y ok) {j1 j2:Nat} {zz:Value} (hm:aB P t=some ⟨.map k e,j1,j2,zz⟩) {ik ie:TI} (hk:aB P k=some ik) (he':aB P e=some ie) (K0:SH E P k kt ik.kind=true)
  (hzo:ie.zero.cells.toList.all (·.oneCell')=true) {r:Nat} (hx:st.ev x=.eY r) (hb:st.H[r]? = some (.map kt vt m)) {kk:kt.den E.D} (hy:(st.ev y).get kt=some kk) {z:vt.den E.D} (hz:(pN E (some vt) ie.zero).get vt=some z) :
  fu P w0 G0 a w o { st with t:=br st.t o.dst (cond ok (.tuple [.dat vt (sS (kt.fI E) m kk z),.dat .bool (N2 (kt.fI E) m kk)]) (.dat vt (sS (kt.fI E) m kk z))) }:=by
 obtain⟨_,_,hum,-⟩:=aq hm;obtain⟨_,_,huk,-⟩:=aq hk;have K:=Y0 hE huk K0;have mU:=hr.ev x;rw [hx] at mU;simp only [VT] at mU;obtain⟨b,he,hat⟩:=mU;obtain⟨es,clock,hh,hs,hmr⟩:=hr.box hat hb;have hvk:=K.vt (TV.nF hy (hr.ev y));obtain⟨u,hu,hrun⟩:=ahv (P:=P) K hum (fun w=>ji he' w) (TV.nF hz (Fp hE hzo)) hh hs hmr kk ok;refine⟨_,_,w,G,?_,.inl rfl,hr.put (v:=if ok then .tuple #[u,.bool (N2 (kt.fI E) m kk)] else u) ?_ o.dst⟩
 ·simp only [execOp,ho,he,hvk,Sem.run_bind,hrun,Result.andThen_ok,Sem.run_pure]
 ·cases ok
  ·exact hu
  ·simp only [cond_true,if_true,VT]
   exact⟨_,rfl,.cons hu (.cons (.bool _ _ _) .nil)⟩
theorem abB (hr:Rel E w0 G0 st a w G) {c:Call} {x:Operand} {t k e:TypeId} {j1 j2:Nat} {zz:Value} (ho:o.op=.call c) (hcl:c.callee=.builtin .len) (ha:c.args.toList=[x]) (kP:c.argTypes.toList=[t]) (hm:aB P t=some ⟨.map k e,j1,j2,zz⟩)
  {r:Nat} (hx:st.ev x=.eY r) (hb:st.H[r]? = some (.map kt vt m)):fu P w0 G0 a w o { st with t:=br st.t o.dst (.dat (.int .i64) (m.length:Int)) }:=by
 obtain⟨_,_,hum,-⟩:=aq hm;have mU:=hr.ev x;rw [hx] at mU;simp only [VT] at mU;obtain⟨b,he,hat⟩:=mU;obtain⟨es,clock,hh,hs,hmr⟩:=hr.box hat hb;have ha1:c.args=#[x]:=by rw [←gY (xs:=c.args),ha]
 have th:c.argTypes=#[t]:=by rw [←gY (xs:=c.argTypes),kP]
 refine⟨.value (.int .i64 m.length),_,w,G,?_,.inl rfl,hr.put (.int _ _ _ _) o.dst⟩;unfold execOp;simp only [ho,resolve,hcl,Sem.run_bind,Sem.run_pure,Result.andThen_ok,invoke,builtin,ha1,th,p6,eV,ni];rw [he];have hl:es.size=m.length:=by simpa using hmr.length
 simp [Builtin.len_,run_underlying hum,MapKept.run_getObj_map hh,goInt,hl,Result.andThen]
end
end Go.RT
namespace Go.RT
variable {E : TEnv}
section
variable {P : Program} {w0 w w' : World} {G0 G G' : au} {st : TS E} {a : Act} {o : Oper}
theorem Rel.setRow (h:Rel E w0 G0 st a w G) {j:Nat} {x x':aZ} {hd hd':Value} {cs:List (Nat × Cn E)} (hj:G.g[j]? = some (x,hd)) (hle:x.ai≤x'.ai) (heq:x.ai=x'.ai→hd'=hd) (hsz:w.heap.size≤w'.heap.size) (h1:w'.os=w.os) (h2:w'.tape=w.tape) (h3:w'.output=w.output)
  (jC:∀b,b<w.heap.size→hd.ownBlock≠some b→w'.heap[b]? = w.heap[b]?) (hcells:∀b o v,G.pr b o→w.cell? ⟨b,o,none⟩=some v→w'.cell? ⟨b,o,none⟩=some v)
  (gK:Nat→Nat→Prop) (hp:∀b o,G.pr b o→gK b o) (BH:∀b o,gK b o→G.pr b o∨hd'.ownBlock=some b)
  (hok:tv E w' { G with pr:=gK } x' hd') (hblk:∀b,hd'.ownBlock=some b→w.heap.size≤b∨hd.ownBlock=some b)
  (hcs:ez w G w' { G with g:=G.g.set j (x',hd'),pr:=gK }→gD E w' { G with g:=G.g.set j (x',hd'),pr:=gK } cs) :
  Rel E w0 G0 { st with g:=st.g.set j x',c:=cs } a w' { G with g:=G.g.set j (x',hd'),pr:=gK }:=by
 have hjl:j<G.g.length:=(bS.1 hj).1;obtain⟨n0,YP,-,-,hhd⟩:=h.boxes.grow j x hd hj
 have at':∀(m:Nat) y z,(G.g.set j (x',hd'))[m]? = some (y,z)→(m=j∧y=x'∧z=hd')∨(m≠j∧G.g[m]? = some (y,z)):=by
  intro m y z hm;by_cases e:m=j
  ·subst e
   simp [hjl] at hm;exact .inl ⟨rfl,hm.1.symm,hm.2.symm⟩
  ·rw [iB (fun q=>e q.symm)] at hm
   exact .inr ⟨e,hm⟩
 have hg:ez w G w' { G with g:=G.g.set j (x',hd'),pr:=gK }:=by
  refine⟨hp,hcells,fun _ _ h=>h,fun m y z hm=>?_⟩;by_cases e:m=j
  ·subst e
   rw [hj] at hm;cases hm;exact⟨x',hd',by simp [hjl],hle,heq⟩
  ·exact⟨y,z,by
    show (G.g.set j _)[m]? = _;rw [iB (fun q=>e q.symm)];exact hm,bM _,fun _=>rfl⟩
 have JR:∀b,b∈G.i→hd.ownBlock≠some b:=fun b hb e=>(hhd b e).2.1 hb;have ev:=h.cK
 have hrow:∀b,b<w0.heap.size→hd.ownBlock=some b→G0.rows b:=fun b hb e=>by
  rcases ev.cY j x hd b hj e with q | ⟨y,z,q1,q2⟩
  ·omega
  ·exact⟨y,z,ek q1,q2⟩
 refine⟨⟨h1.trans ev.os,h2.trans ev.tape,h3.trans ev.output,kj ev.size hsz,fun b hb hn=>?_,ev.goes.trans hg,fun b o hb nJ=>?_,ev.lH,fun m y z b hm hb=>?_⟩,h.size,
  fun m d hm=>(h.tmps m d hm).mono hg,h.defers.mono hg,?_,fun r b hb hd=>(jC b (h.boxes.lt b (ek (ev.goes.i r b hb))) (JR b (ek (ev.goes.i r b hb)))).trans (h.fix r b hb hd),h.pins,hcs hg⟩
 ·rw [jC b (eF hb ev.size) (fun e=>hn (.inr (hrow b hb e)))]
  exact ev.old b hb hn
 ·rcases BH b o nJ with q | q
  ·exact ev.jJ b o hb q
  ·rcases hblk b q with q' | q'
   ·have:=ev.size;omega
   ·exact .inr (hrow b hb q')
 ·rcases at' m y z hm with⟨rfl,-,rfl⟩ | ⟨-,q⟩
  ·rcases hblk b hb with q | q
   ·exact .inl (kj ev.size q)
   ·exact ev.cY m x hd b hj q
  ·exact ev.cY m y z b q hb
 refine⟨h.boxes.len,?_,fun r b y hb hy=>?_,fun b hb=>eF (h.boxes.lt b hb) hsz,h.boxes.nodup,fun b o nJ=>?_,fun m y z hm=>?_,fun m m' y z y' z' b hm hm' hb hb'=>?_,kE hg h.boxes.sU⟩
 ·simp only []
  rw [←h.boxes.gs,OY]
 ·have hm:=ek hb
  exact (h.boxes.box r b y hb hy).mono hg (jC b (h.boxes.lt b hm) (JR b hm))
 ·rcases BH b o nJ with q | q
  ·exact⟨eF (h.boxes.dH b o q).1 hsz,(h.boxes.dH b o q).2⟩
  ·obtain⟨n,xs,-,-,hq⟩:=hok
   exact⟨(hq b q).1,(hq b q).2.1⟩
 ·rcases at' m y z hm with⟨-,rfl,rfl⟩ | ⟨hne,q⟩
  ·exact hok
  ·obtain⟨n,xs,ho,hz,hq⟩:=h.boxes.grow m y z q
   refine⟨n,xs,⟨ho.1,?_⟩,hz,fun b hb=>?_⟩
   ·rcases ho.2 with q2 | ⟨g,cap,cur,q2,q3,q4,q5⟩
    ·exact .inl q2
    ·have qi:z.ownBlock=some g:=by rw [q2];rfl
     refine .inr ⟨g,cap,cur,q2,q3,?_,q5⟩;rw [jC g (hq g qi).1 (fun e=>hne (h.boxes.apart m j y z x hd g q hj qi e))];exact q4
   ·obtain⟨p1,p2,p3⟩:=hq b hb
    refine⟨eF p1 hsz,p2,fun o ho' nJ=>?_⟩;rcases BH b o nJ with q' | q'
    ·exact p3 o ho' q'
    ·rcases hblk b q' with JS | JS
     ·omega
     ·exact hne (h.boxes.apart m j y z x hd b q hj hb JS)
 ·have key:∀(m:Nat) y z,m≠j→G.g[m]? = some (y,z)→z.ownBlock=some b→hd'.ownBlock=some b→False:=by
   intro m y z hne q hb hb';obtain⟨n,xs,-,-,hq⟩:=h.boxes.grow m y z q;rcases hblk b hb' with JS | JS
   ·have:=(hq b hb).1;omega
   ·exact hne (h.boxes.apart m j y z x hd b q hj hb JS)
  rcases at' m y z hm with⟨e1,-,e2⟩ | ⟨hne,q⟩<;>rcases at' m' y' z' hm' with⟨YQ,-,YR⟩ | ⟨ahn,q'⟩
  ·rw [e1,YQ]
  ·rw [e2] at hb
   exact (key m' y' z' ahn q' hb' hb).elim
  ·rw [YR] at hb'
   exact (key m y z hne q hb hb').elim
  ·exact h.boxes.apart m m' y z y' z' b q q' hb hb'
theorem Rel.tC (hr:Rel E w0 G0 st a w G) {j:Nat} {g:aZ} (hg:st.g[j]? = some g):∃h,G.g[j]? = some (g,h):=by
 rw [←hr.boxes.gs,kJ] at hg
 cases hh:G.g[j]? with
 | none=>rw [hh] at hg;cases hg
 | some y =>
  rw [hh] at hg;simp only [uW,nh] at hg;obtain⟨y1,y2⟩:=y;simp only at hg;subst hg;exact⟨y2,rfl⟩
theorem Rel.soft (hr:Rel E w0 G0 st a w G) {j:Nat} {g:aZ} {c:Cn E} (hg:st.g[j]? = some g) (hc:fL st.c j=some c) :
  ∃h,G.g[j]? = some (g,h)∧lW E w G g h c∧(∀v,VT E w G (.cw j g.ai) v→v=h):=by
 obtain⟨h,hh⟩:=hr.tC hg;obtain⟨x,h',h1,h2⟩:=hr.dI j c (NZ hc);rw [hh] at h1;cases h1;refine⟨h,hh,h2,fun v hv=>?_⟩;simp only [VT] at hv;obtain⟨x,h',q1,q2,-,q3⟩:=hv;rw [hh] at q1;cases q1;exact q3 rfl
theorem lW.block {x:aZ} {h:Value} {c:Cn E} (hs:lW E w G x h c):(h=.slice none 0 0∧c.2=[])∨∃(b cap:Nat) (cur:Array Value),h=.slice (some ⟨b,0,none⟩) c.2.length cap∧w.heap[b]? = some (.cells cur x.e (0,0))∧c.2.length≤cap∧cap≤maxLen∧cur.size=cap * x.k ∧
  Flat w G.pr x.k (cur.toList.take (c.2.length * x.k)) (c.2.map (c.1.cells E))∧∀o,¬ G.pr b o:=by
 obtain⟨h1,h2,⟨vals,ho,hf⟩,hp⟩:=hs;rcases ho.2 with⟨q1,q2⟩ | ⟨b,cap,cur,q1,q2,q3,q4,q5,q6,q7⟩
 ·exact .inl ⟨q1,oA q2⟩
 ·refine .inr ⟨b,cap,cur,q1,q3,q4,q5,q6,?_,hp b (by rw [q1];rfl)⟩
  rw [q7];exact hf
theorem Vd {b e:Nat} {k:Nat} {cur:Array Value} {T:Ty} {xs:List (T.den E.D)} (hk:k=T.size E) (hh:w.heap[b]? = some (.cells cur e (0,0))) (hf:Flat w G.pr k (cur.toList.take (xs.length * k)) (xs.map (T.cells E))) (hle:xs.length * k≤cur.size) {i:Nat} (hi:i<xs.length) :
  ∃vs:List Value,LD w G.pr vs (T.cells E (xs.getD i (T.dflt E)))∧vs.length=k∧vs=(cur.toList.drop (i * k)).take k∧∀(l:Nat) u,vs[l]? = some u→w.cell? ⟨b,i * k+l,none⟩=some u:=by
 have hlen:(T.cells E (xs.getD i (T.dflt E))).length=k:=by
  have:=hf.2.1 i (by simpa using hi);simpa [List.getD,hi] using this
 have hik:i * k+k≤xs.length * k:=by
  have:(i+1) * k≤xs.length * k:=ir k hi;rw [lD,Nz] at this;exact this
 have hvl:((cur.toList.drop (i * k)).take k).length=k:=by simp;omega
 refine⟨(cur.toList.drop (i * k)).take k,LD.LF (by rw [hvl,hlen]) (fun l hl=>?_),hvl,rfl,fun l u hl=>?_⟩
 ·rw [hlen] at hl
  have:=hf.2.2 i l (by simpa using hi) hl;have e1:((xs.map (T.cells E)).getD i [])=T.cells E (xs.getD i (T.dflt E)):=by simp [List.getD,hi]
  rw [e1] at this
  have e2:(cur.toList.take (xs.length * k)).getD (i * k+l) undef=((cur.toList.drop (i * k)).take k).getD l undef:=by
   simp only [List.getD];rw [qD,qD,if_pos om,if_pos hl,sQ]
  rw [e2] at this;exact this
 ·have hlk:l<k:=by rw [←hvl];exact (bS.1 hl).1
  rw [cell_of_row w b _ cur e (0,0) hh];rw [qD,if_pos hlk,sQ] at hl;simpa using hl
theorem lW.len {x:aZ} {h:Value} {c:Cn E} (hs:lW E w G x h c) {n:Nat} {xs:List Value} (ho:w.ownsRow 0 x.e x.k h n xs):n=c.2.length:=by
 rcases hs.block with⟨h1,h2⟩ | ⟨b,cap,cur,h1,-⟩
 ·rcases ho.2 with⟨-,q⟩ | ⟨g,cap',cur',q1,-⟩
  ·rw [q,h2];rfl
  ·rw [h1] at q1;cases q1
 ·rcases ho.2 with⟨q,-⟩ | ⟨g,cap',cur',q1,-⟩
  ·rw [h1] at q;cases q
  ·rw [h1] at q1
   simp only [Value.slice.injEq] at q1;exact q1.2.1.symm
theorem Rel.PS (hr:Rel E w0 G0 st a w G) {j:Nat} {g:aZ} {c:Cn E} (hg:st.g[j]? = some g) (hc:fL st.c j=some c) :
  ∃G',Rel E w0 G0 { st with c:=fF j st.c } a w G'∧ez w G w G'∧(∀v,VT E w G (.cw j g.ai) v→VT E w G' (.dat (.aG c.1) c.2) v) ∧
   ∀v lo n,VT E w G (.jz j g.ai (c.1.size E) lo n) v→VT E w G' (.dat (.aG c.1) ((c.2.drop lo).take n)) v:=by
 obtain⟨h,hj,hs,hval⟩:=hr.soft hg hc;obtain⟨n0,YP,M5,BJ,hb0⟩:=hr.boxes.grow j g h hj;have hn0:=hs.len M5;have ev:=hr.cK
 let gK:Nat→Nat→Prop:=fun b o=>G.pr b o∨(h.ownBlock=some b∧o<c.2.length * g.k)
 have ou:ez w G w { G with pr:=gK }:=⟨fun _ _ h=>.inl h,fun _ _ _ _ h=>h,fun _ _ h=>h,fun j x y hj=>⟨x,y,hj,bM _,fun _=>rfl⟩⟩;have hk:=hs.1;refine⟨{ G with pr:=gK },⟨⟨ev.os,ev.tape,ev.output,ev.size,ev.old,ev.goes.trans ou,fun b o hb hp=>?_,ev.lH,ev.cY⟩,hr.size,fun j d hj=>(hr.tmps j d hj).mono ou,hr.defers.mono ou,?_,hr.fix,hr.pins,?_⟩,ou,fun v hv=>?_,fun v lo n hv=>?_⟩
 ·rcases hp with hp | ⟨hp,-⟩
  ·exact ev.jJ b o hb hp
  ·rcases ev.cY j g h b hj hp with q | ⟨x0,h0,q1,q2⟩
   ·omega
   ·exact .inr ⟨x0,h0,ek q1,q2⟩
 ·refine⟨hr.boxes.len,hr.boxes.gs,fun r b x hb hx=>(hr.boxes.box r b x hb hx).mono ou rfl,hr.boxes.lt,hr.boxes.nodup,fun b o hp=>?_,fun m x hd hm=>?_,hr.boxes.apart,kE ou hr.boxes.sU⟩
  ·rcases hp with hp | ⟨hp,-⟩
   ·exact hr.boxes.dH b o hp
   ·exact⟨(hb0 b hp).1,(hb0 b hp).2.1⟩
  ·obtain⟨n',xs',ho',hz',hb'⟩:=hr.boxes.grow m x hd hm
   refine⟨n',xs',ho',hz',fun b hbk=>⟨(hb' b hbk).1,(hb' b hbk).2.1,fun o hno hp=>?_⟩⟩;rcases hp with hp | ⟨hp,hlt⟩
   ·exact (hb' b hbk).2.2 o hno hp
   ·have hmj:=hr.boxes.apart m j x hd g h b hm hj hbk hp
    subst hmj;rw [hj] at hm;cases hm;have:=hs.len ho';rw [this] at hno;omega
 ·intro i c' hm
  obtain⟨hm,hne⟩:=oq hm;obtain⟨x,hd,h1,h2⟩:=hr.dI i c' hm;refine⟨x,hd,h1,h2.keep rfl rfl ou.pr ou.cells fun b hbk=>⟨rfl,fun o hp=>?_⟩⟩;rcases hp with hp | ⟨hp,-⟩
  ·exact hp
  ·exact (hne (hr.boxes.apart i j x hd g h b h1 hj hbk hp)).elim
 ·rw [hval v hv]
  rcases hs.block with⟨h1,h2⟩ | ⟨b,cap,cur,h1,hheap,hcap,hcm,hcs,hf,-⟩
  ·rw [h1,h2];exact .list (.oN _ _)
  ·refine .list ?_
   rw [h1,←hk];have hl:(c.2.map (c.1.cells E)).length=c.2.length:=by simp
   have:=JT (w:=w) (pr:=gK) (b:=b) (cap:=cap) (es:=c.2.map (c.1.cells E)) (xs:=cur.toList.take (c.2.length * g.k)) (k:=g.k) (by rw [hl];exact hcap) (fun q hq=>?_) (hf.mono ou.pr ou.cells)
   ·rw [hl] at this;exact this
   ·rw [hl] at hq
    refine⟨.inr ⟨by rw [h1];rfl,hq⟩,?_⟩;rw [cell_of_row w b q cur g.e (0,0) hheap];have:q<cur.size:=by rw [hcs];exact eF hq (ir _ hcap)
    simp [List.getD,hq,this]
 ·simp only [VT] at hv
  obtain⟨x,h',q1,-,-,q3⟩:=hv;rw [hj] at q1;cases q1;obtain⟨b',m,cap',off,cp,e1,e2,ecp,e3,e4⟩:=q3 rfl;rcases hs.block with⟨h1,h2⟩ | ⟨b,cap,cur,h1,hheap,hcap,hcm,hcs,hf,-⟩
  ·rw [h1] at e1;cases e1
  ·rw [h1] at e1
   simp only [Value.slice.injEq,nh,Addr.mk.injEq,and_true] at e1;obtain⟨rfl,rfl,rfl⟩:=e1;refine .list ?_;rw [e3];have hl:(((c.2.drop lo).take n).map (c.1.cells E)).length=n:=by simp;omega
   have hgd:∀i,i<n→(((c.2.drop lo).take n).map (c.1.cells E)).getD i []=(c.2.map (c.1.cells E)).getD (lo+i) []:=fun i hi=>by
    simp [List.getD,hi]
   have:=VD.slice (w:=w) (pr:=gK) b off cp (c.1.size E) (((c.2.drop lo).take n).map (c.1.cells E)) (fun i l=>cur.toList.getD ((lo+i) * g.k+l) undef) (by rw [hl];omega) (fun i hi=>?_) (fun i l hi Y3=>?_) (fun i l hi Y3=>?_)
   ·rw [hl] at this;exact this
   ·rw [hl] at hi
    rw [hgd i hi,←hk];exact hf.2.1 _ bx
   ·rw [hl] at hi
    have hoff:off=lo * c.1.size E:=by rcases e4 with e4 | e4;omega;exact e4
    rw [←hk] at Y3 hoff ⊢;have hidx:(lo+i) * g.k+l<c.2.length * g.k:=BI om Y3;have e5:off+i * g.k+l=(lo+i) * g.k+l:=by rw [hoff,lD]
    rw [e5];refine⟨.inr ⟨by rw [h1];rfl,hidx⟩,?_⟩;rw [cell_of_row w b _ cur g.e (0,0) hheap];have:(lo+i) * g.k+l<cur.size:=by rw [hcs];exact eF hidx (ir _ hcap)
    simp [List.getD,this]
   ·rw [hl] at hi
    rw [hgd i hi];rw [←hk] at Y3;have h9:=(hf.mono ou.pr ou.cells).2.2 (lo+i) l bx Y3;have hidx:(lo+i) * g.k+l<c.2.length * g.k:=BI om Y3
    have e6:(cur.toList.take (c.2.length * g.k)).getD ((lo+i) * g.k+l) undef=cur.toList.getD ((lo+i) * g.k+l) undef:=by
     simp only [List.getD];rw [qD,if_pos hidx]
    rw [e6] at h9;exact h9
theorem Flat.take {pr:Nat→Nat→Prop} {k:Nat} {L:List Value} {es:List (List DV)} (h:Flat w pr k L es) {i:Nat} (hi:i≤es.length):Flat w pr k (L.take (i * k)) (es.take i):=by
 have hik:i * k≤L.length:=by rw [h.1];exact ir k hi
 have hl:(es.take i).length=i:=by simp;omega
 refine⟨by rw [gB,hl];omega,fun j hj=>?_,fun j l hj hl'=>?_⟩
 ·rw [hl] at hj
  have:(es.take i).getD j []=es.getD j []:=by simp [List.getD,qD,hj]
  rw [this];exact h.2.1 j om
 ·rw [hl] at hj
  have e1:(es.take i).getD j []=es.getD j []:=by simp [List.getD,qD,hj]
  have e2:(L.take (i * k)).getD (j * k+l) undef=L.getD (j * k+l) undef:=by
   have:=BI hj hl';simp only [List.getD];rw [qD,if_pos this]
  rw [e1,e2];exact h.2.2 j l om hl'
theorem Flat.drop {pr:Nat→Nat→Prop} {k:Nat} {L:List Value} {es:List (List DV)} (h:Flat w pr k L es) {i:Nat} (hi:i≤es.length):Flat w pr k (L.drop (i * k)) (es.drop i):=by
 have hl:(es.drop i).length=es.length - i:=by simp
 have hgd:∀j,(es.drop i).getD j []=es.getD (i+j) []:=fun j=>by simp [List.getD,sQ]
 refine⟨by rw [xw,hl,h.1,Nat.sub_mul],fun j hj=>?_,fun j l hj hl'=>?_⟩
 ·rw [hl] at hj
  rw [hgd];exact h.2.1 _ om
 ·rw [hl] at hj
  rw [hgd]
  have e2:(L.drop (i * k)).getD (j * k+l) undef=L.getD ((i+j) * k+l) undef:=by
   simp only [List.getD];rw [sQ,lD,Br]
  rw [e2];exact h.2.2 (i+j) l om hl'
theorem Flat.single {pr:Nat→Nat→Prop} {k:Nat} {us:List Value} {e:List DV} (h:LD w pr us e) (hk:us.length=k):Flat w pr k us [e]:=by
 have hl:=h.length;have:=Flat.SE (w:=w) (pr:=pr) (k:=k) (rows:=[us]) (es:=[e]) rfl (fun j hj=>by simp at hj;subst hj;simp;omega) (fun j hj=>by simp at hj;subst hj;simpa using h);simpa using this
theorem Flat.splice {pr:Nat→Nat→Prop} {k:Nat} {L news:List Value} {es fs:List (List DV)} (h:Flat w pr k L es) (h':Flat w pr k news fs) {p:Nat} (hp:p+fs.length≤es.length) :
  Flat w pr k (L.take (p * k)++news++L.drop (p * k+news.length)) (es.take p++fs++es.drop (p+fs.length)):=by
 have h1:=h.take (i:=p) om;have h2:=h.drop (i:=p+fs.length) om;have e:p * k+news.length=(p+fs.length) * k:=by rw [h'.1,lD]
 rw [e];exact (h1.append h').append h2
theorem M6 (cur news:List Value) {o n:Nat} (h:o+news.length≤n) (hn:n≤cur.length):(cur.take o++news++cur.drop (o+news.length)).take n=(cur.take n).take o++news++(cur.take n).drop (o+news.length):=by
 have h1:(cur.take o++news).length=o+news.length:=by simp;omega
 rw [adh,mw (l:=cur.take o++news) om,h1,XF,show min o n=o by omega,List.drop_take]
theorem GF {α:Type} {l:List α} {j:Nat} {x:α} (h:l[j]? = some x):l.set j x=l:=by
 obtain⟨h1,h2⟩:=bS.1 h;rw [←h2,List.set_getElem_self]
theorem Rel.Ve (hr:Rel E w0 G0 st a w G) {j:Nat} {g:aZ} {c:Cn E} (hg:st.g[j]? = some g) (hc:fL st.c j=some c) {b cap:Nat} {cur new:Array Value} (hj:G.g[j]? = some (g,.slice (some ⟨b,0,none⟩) c.2.length cap))
  (hheap:w.heap[b]? = some (.cells cur g.e (0,0))) (hsz:new.size=cur.size) {xs':List (c.1.den E.D)} (hl:xs'.length=c.2.length) (hf:Flat w G.pr g.k (new.toList.take (xs'.length * g.k)) (xs'.map (c.1.cells E))) :
  Rel E w0 G0 { st with c:=(j,⟨c.1,xs'⟩)::fF j st.c } a (w.setRow b new) G:=by
 obtain⟨h,hj',hs,-⟩:=hr.soft hg hc;rw [hj] at hj';cases hj';rcases hs.block with⟨h1,-⟩ | ⟨b',cap',cur',h1,BK,hcap,hcm,hcs,hf0,hnp⟩
 ·cases h1
 simp only [Value.slice.injEq,nh,Addr.mk.injEq,and_true,true_and] at h1;obtain⟨rfl,rfl⟩:=h1;rw [hheap] at BK;cases BK;obtain⟨n0,YP,M5,BJ,hb0⟩:=hr.boxes.grow j g _ hj;have MR:=hb0 b rfl;have hnew:(w.setRow b new).heap[b]? = some (.cells new g.e (0,0)):=setRow_heap w b cur _ g.e _ hheap;have zO:∀b',b'≠b→(w.setRow b new).heap[b']? = w.heap[b']?:=fun b' hb'=>setRow_other w b b' _ hb'
 have hown:(w.setRow b new).ownsRow 0 g.e g.k (.slice (some ⟨b,0,none⟩) c.2.length cap) c.2.length (new.toList.take (c.2.length * g.k)):=by
  refine⟨?_,.inr ⟨b,cap,new,rfl,fT _,hnew,hcap,hcm,by rw [hsz];exact hcs,rfl⟩⟩;rw [gB,mz,hsz,hcs];exact Ee (ir _ hcap)
 have lI:G.g.set j (g,.slice (some ⟨b,0,none⟩) c.2.length cap)=G.g:=GF hj
 have hcells:∀b' o v,G.pr b' o→w.cell? ⟨b',o,none⟩=some v→(w.setRow b new).cell? ⟨b',o,none⟩=some v:=fun b' o v hp hv=>by
  have:b'≠b:=fun e=>by subst e;exact hnp o hp
  rw [World.cell?_of_block (w:=w) (w':=w.setRow b new) (zO b' this)];exact hv
 have key:=hr.setRow (x':=g) (hd':=.slice (some ⟨b,0,none⟩) c.2.length cap) (cs:=(j,⟨c.1,xs'⟩)::fF j st.c) hj (bM _) (fun _=>rfl) (w':=w.setRow b new) si rfl rfl rfl
  (fun b' _ hne=>zO b' (fun e=>hne (by rw [e];rfl))) hcells G.pr (fun _ _ h=>h) (fun _ _ h=>.inl h)
  ⟨c.2.length,_,hown,BJ,fun b' hb'=>by cases hb';exact⟨by simpa using MR.1,MR.2.1,fun o _ hp=>hnp o hp⟩⟩ (fun _ h=>.inr h) (fun hg'=>?_)
 ·rw [lI,GF hg] at key
  exact key
 ·intro i c' hm
  rcases fK.1 hm with e | hm
  ·cases e
   refine⟨g,_,by rw [lI];exact hj,hs.1,hs.2.1,⟨_,by rw [hl];exact hown,?_⟩,fun b' hb' o hp=>by cases hb';exact hnp o hp⟩;rw [←hl];exact hf.mono hg'.pr hg'.cells
  ·obtain⟨hm,hne⟩:=oq hm
   obtain⟨x,hd,h1,h2⟩:=hr.dI i c' hm;refine⟨x,hd,by rw [lI];exact h1,h2.keep rfl rfl hg'.pr hg'.cells fun b' hb'=>⟨zO b' (fun e=>?_),fun o hp=>hp⟩⟩;subst e;exact hne (hr.boxes.apart i j x hd g _ b' h1 hj hb' rfl)
def X0 (P:Program) (st:TS E):Op→Option (Bool × TV E)
 | .indexAddr t x ix=>match aB P t,st.ev ix with
  | some ⟨.slice e,_,_,_⟩,.dat (.int _) n=>match aB P e,st.ev x with
   | some i,.cw j ai=>match st.g[j]?,fL st.c j with
    | some g,some c=>some (Nat.beq g.ai ai&&(Nat.beq i.size (c.1.size E)&&(decide (0≤n)&&decide (n<(c.2.length:Int)))),.dK j ai (c.1.size E) (Int.toNat n) 0)
    | _,_=>none
   | some i,.jz j ai k lo m=>match st.g[j]? with
    | some g=>some (Nat.beq g.ai ai&&(Nat.beq i.size k&&(decide (0≤n)&&decide (n<(m:Int)))),.dK j ai k (lo+Int.toNat n) 0)
    | none=>none
   | _,_=>none
  | _,_=>none
 | .fieldAddr s x f=>match aB P s,st.ev x with
  | some ⟨.struct fs,_,_,_⟩,.dK j ai k i off=>match fs[f]? with
   | some fd=>match aB P fd.type,st.g[j]? with
    | some fi,some g=>some (!(Nat.beq fi.size 0)&&Nat.beq g.ai ai,.dK j ai k i (off+fd.offset))
    | _,_=>none
   | none=>none
  | _,_=>none
 | .nilCheck x=>match st.ev x with
  | .dK j ai k i off=>match st.g[j]? with
   | some g=>some (Nat.beq g.ai ai,.dK j ai k i off)
   | none=>none
  | _=>none
 | .slice t x (some lo) hi none=>match aB P t,st.ev x with
  | some ⟨.slice e,_,_,_⟩,.cw j ai=>match aB P e,st.g[j]?,fL st.c j with
   | some i,some g,some c=>match fz 0 (some (st.ev lo)),fz (c.2.length:Int) (hi.map st.ev) with
    | some p,some q=>some (Nat.beq g.ai ai&&(Nat.beq i.size (c.1.size E)&&(Nat.blt 0 c.2.length&&(decide (0≤p)&&(decide (p≤q)&&decide (q≤(c.2.length:Int)))))),.jz j ai (c.1.size E) (Int.toNat p) (Int.toNat q - Int.toNat p))
    | _,_=>none
   | _,_,_=>none
  | _,_=>none
 | .call c=>match c.callee,c.args.toList,c.argTypes.toList with
  | .builtin .len,[x],[t]=>match aB P t,st.ev x with
   | some ⟨.slice _,_,_,_⟩,.cw j ai=>match st.g[j]?,fL st.c j with
    | some g,some c=>some (Nat.beq g.ai ai,.dat (.int .i64) (c.2.length:Int))
    | _,_=>none
   | some ⟨.slice _,_,_,_⟩,.jz j ai k lo n=>match st.g[j]? with
    | some g=>some (Nat.beq g.ai ai,.dat (.int .i64) (n:Int))
    | none=>none
   | _,_=>none
  | _,_,_=>none
 | _=>none
theorem Rel.jz (hr:Rel E w0 G0 st a w G) {j k lo n:Nat} {g:aZ} (hg:st.g[j]? = some g) {v:Value} (hv:VT E w G (.jz j g.ai k lo n) v):∃b m cap off cp,G.g[j]? = some (g,.slice (some ⟨b,0,none⟩) m cap)∧lo+n≤m∧n≤cp∧v=.slice (some ⟨b,off,none⟩) n cp∧(n=0∨off=lo * k):=by
 obtain⟨h,hh⟩:=hr.tC hg;simp only [VT] at hv;obtain⟨x,h',q1,-,-,q3⟩:=hv;rw [hh] at q1;cases q1;obtain⟨b,m,cap,off,cp,e1,e2,e5,e3,e4⟩:=q3 rfl;exact⟨b,m,cap,off,cp,by rw [hh,e1],e2,e5,e3,e4⟩
theorem Rel.dK (hr:Rel E w0 G0 st a w G) {j k i off:Nat} {g:aZ} (hg:st.g[j]? = some g) {v:Value} (hv:VT E w G (.dK j g.ai k i off) v):∃b m cap,G.g[j]? = some (g,.slice (some ⟨b,0,none⟩) m cap)∧i<m∧v=.pointer (some ⟨b,i * k+off,none⟩):=by
 obtain⟨h,hh⟩:=hr.tC hg;simp only [VT] at hv;obtain⟨x,h',q1,-,-,q3⟩:=hv;rw [hh] at q1;cases q1;obtain⟨b,m,cap,e1,e2,e3⟩:=q3 rfl;exact⟨b,m,cap,by rw [hh,e1],e2,e3⟩
theorem LI {j k i off:Nat} {g:aZ} {b m cap:Nat} (hj:G.g[j]? = some (g,.slice (some ⟨b,0,none⟩) m cap)) (hi:i<m):VT E w G (.dK j g.ai k i off) (.pointer (some ⟨b,i * k+off,none⟩)):=by
 simp only [VT];exact⟨g,_,hj,bM _,rfl,fun _=>⟨b,m,cap,rfl,hi,rfl⟩⟩
theorem abC (hE:E.Ok) (hr:Rel E w0 G0 st a w G) {d:TV E} {cc:Bool} (h:X0 P st o.op=some (cc,d)) (hc:cc=true):fP P a w G o d:=by
 cases ho:o.op<;>rw [ho] at h<;>simp only [X0] at h<;>try (cases h;done)
 case indexAddr t x ix =>
  split at h<;>try (cases h;done)
  rename_i e j1 j2 z kd n ht hn;obtain⟨xt,eA,bw,-⟩:=aq ht;obtain⟨n,hn0⟩:∃m:Int,m=n:=⟨n,rfl⟩;subst hn0;have yZ:=hr.ev ix;rw [hn] at yZ;have Ai:=yZ.dw;split at h<;>try (cases h;done)
  ·rename_i i j ai hi hx
   obtain⟨xe,fZ,jA,hsz,-⟩:=aq hi;split at h<;>try (cases h;done)
   rename_i g c hg PU;cases h;simp only [aV,decide_eq_true_eq] at hc;obtain⟨c1,c2,c3,c4⟩:=hc;have c1:=bt c1;have c2:=bt c2;have c3:(0:Int)≤n:=c3;have c4:n<(c.2.length:Int):=c4;subst c1;obtain⟨hh,hj,hs,hval⟩:=hr.soft hg PU;have hv:=hr.ev x;rw [hx] at hv;have dL:=hval _ hv;rcases hs.block with⟨h1,h2⟩ | ⟨b,cap,cur,h1,-⟩
   ·rw [h2] at c4;simp at c4;omega
   rw [h1] at hj dL;refine cy (f:=fun ρ=>Instr.indexAt t (ρ x) (ρ ix)) (by simp [execOp,ho]) ⟨_,LI (i:=n.toNat) (off:=0) hj om,fun w' hs=>?_⟩;rw [dL,Ai];unfold Instr.indexAt asIntOf;simp only [Sem.run_bind,Sem.run_pure,Result.andThen_ok,ak bw];have h3:(0≤n∧n<((c.2.length:Nat):Int)):=⟨c3,c4⟩;simp only [h3,and_self,if_true,Sem.run_bind,bQ fZ,Result.andThen_ok,Sem.run_pure,add_lit,hsz,c2,fC,lE]
   try rfl
  ·rename_i i j ai k lo m hi hx
   obtain⟨xe,fZ,jA,hsz,-⟩:=aq hi;split at h<;>try (cases h;done)
   rename_i g hg;cases h;simp only [aV,decide_eq_true_eq] at hc;obtain⟨c1,c2,c3,c4⟩:=hc;have c1:=bt c1;have c2:=bt c2;have c3:(0:Int)≤n:=c3;have c4:n<(m:Int):=c4;subst c1;have hv:=hr.ev x;rw [hx] at hv;obtain⟨b,mm,cap,off,cp,hj,hle,-,dL,hoff⟩:=hr.jz hg hv;have hoff:off=lo * k:=by rcases hoff with q | q;omega;exact q
   subst hoff;refine cy (f:=fun ρ=>Instr.indexAt t (ρ x) (ρ ix)) (by simp [execOp,ho]) ⟨_,LI (i:=lo+n.toNat) (off:=0) hj om,fun w' hs=>?_⟩;rw [dL,Ai];unfold Instr.indexAt asIntOf;simp only [Sem.run_bind,Sem.run_pure,Result.andThen_ok,ak bw];have h3:(0≤n∧n<((m:Nat):Int)):=⟨c3,c4⟩;simp only [h3,and_self,if_true,Sem.run_bind,bQ fZ,Result.andThen_ok,Sem.run_pure,add_lit,hsz,c2,lD,lE]
   try rfl
 case fieldAddr s x f =>
  split at h<;>try (cases h;done)
  rename_i fs j1 j2 z j ai k i off ht hx;split at h<;>try (cases h;done)
  rename_i fd hf;split at h<;>try (cases h;done)
  rename_i fi g hi hg;cases h;simp only [aV,nq] at hc;obtain⟨c1,c2⟩:=hc;have c2:=bt c2;have hz:fi.size≠0:=fun e=>by rw [e] at c1;cases c1
  subst c2;have hv:=hr.ev x;rw [hx] at hv;obtain⟨b,m,cap,hj,hlt,dL⟩:=hr.dK hg hv;obtain⟨xt,eA,bw,-⟩:=aq ht;obtain⟨xf,YM,-,hsf,-⟩:=aq hi;refine cy (f:=fun ρ=>Instr.fieldAt s (ρ x) f) (by simp [execOp,ho]) ⟨_,LI (i:=i) (off:=off+fd.offset) hj hlt,fun w' hs=>?_⟩;rw [dL];unfold Instr.fieldAt Instr.sureAddr;simp only [Sem.run_bind,Sem.run_pure,Result.andThen_ok,ak bw,hf];simp [fieldPlace,bQ YM,hsf,hz,add_lit,Br]
 case nilCheck x =>
  split at h<;>try (cases h;done)
  rename_i j ai k i off hx;split at h<;>try (cases h;done)
  rename_i g hg;cases h;have c1:=bt hc;subst c1;have hv:=hr.ev x;rw [hx] at hv;obtain⟨b,m,cap,hj,hlt,dL⟩:=hr.dK hg hv;refine⟨a.eval x,hv,fun w' _=>?_⟩;simp [execOp,ho,dL]
 case slice t x lo hi mx =>
  cases lo with
  | none=>cases h
  | some lo =>
  cases mx with
  | some _=>cases h
  | none =>
  simp only at h;split at h<;>try (cases h;done)
  rename_i e j1 j2 z j ai ht hx;split at h<;>try (cases h;done)
  rename_i i g c hi' hg PU;split at h<;>try (cases h;done)
  rename_i p q hp hq;cases h;simp only [aV,decide_eq_true_eq] at hc;obtain⟨c1,c2,c3,c4,c5,c6⟩:=hc;have c1:=bt c1;have c2:=bt c2;have c3:0<c.2.length:=ef c3;subst c1;obtain⟨hh,hj,hs,hval⟩:=hr.soft hg PU;have hv:=hr.ev x;rw [hx] at hv;have dL:=hval _ hv;obtain⟨xt,eA,bw,-⟩:=aq ht;obtain⟨xe,fZ,jA,hsz,-⟩:=aq hi';rcases hs.block with⟨h1,h2⟩ | ⟨b,cap,cur,h1,-,hcap,-⟩
  ·rw [h2] at c3;simp at c3
  rw [h1] at hj dL;refine cy (f:=fun ρ=>Instr.sliceAt t (ρ x) ((some lo).map ρ) (hi.map ρ) none) (by simp [execOp,ho]) ⟨.slice (if cap=p.toNat then some ⟨b,0,none⟩ else some ⟨b,p.toNat * c.1.size E,none⟩) (q.toNat - p.toNat) (cap - p.toNat),?_,fun w' hs=>?_⟩
  ·simp only [VT]
   refine⟨g,_,hj,bM _,rfl,fun _=>⟨b,c.2.length,cap,if cap=p.toNat then 0 else p.toNat * c.1.size E,cap - p.toNat,rfl,om,om,by split<;>rfl,?_⟩⟩;by_cases jB:cap=p.toNat
   ·left;omega
   ·right;rw [if_neg jB]
  ·have nI:=lY (P:=P) (PB:=true) hcap (gR hr (lo:=some lo) hp) (gR hr hq) c4 c5 c6 w'
   simp only [uW] at nI;rw [dL];unfold Instr.sliceAt;simp only [Sem.run_bind,ak bw,Result.andThen_ok];unfold Instr.slice;simp only [Sem.run_bind,ak bw,Result.andThen_ok,nI,bQ fZ,hsz,c2,Sem.run_pure,uW,add_lit,fC]
 case call c' =>
  split at h<;>try (cases h;done)
  rename_i x t hcl ha hat;have mT:c'.args=#[x]:=by rw [←gY (xs:=c'.args),ha]
  have kP:c'.argTypes=#[t]:=by rw [←gY (xs:=c'.argTypes),hat]
  split at h<;>try (cases h;done)
  ·rename_i e j1 j2 z j ai ht hx
   split at h<;>try (cases h;done)
   rename_i g c hg PU;cases h;have c1:=bt hc;subst c1;obtain⟨hh,hj,hs,hval⟩:=hr.soft hg PU;have hv:=hr.ev x;rw [hx] at hv;have dL:=hval _ hv
   have hlen:∃ad cap,hh=.slice ad c.2.length cap:=by
    rcases hs.block with⟨h1,h2⟩ | ⟨b,cap,cur,h1,-⟩
    ·exact⟨_,_,by rw [h1,h2];rfl⟩
    ·exact⟨_,_,h1⟩
   obtain⟨ad,cap,hlen⟩:=hlen;obtain⟨xt,eA,bw,-⟩:=aq ht;refine⟨_,.int _ _ _ _,fun w' hs=>?_⟩;unfold execOp;simp only [ho,resolve,hcl,Sem.run_bind,Sem.run_pure,Result.andThen_ok,invoke,builtin,mT,kP,p6,eV,ni];rw [dL,hlen];simp [Builtin.len_,ak bw,goInt]
  ·rename_i e j1 j2 z j ai k lo n ht hx
   split at h<;>try (cases h;done)
   rename_i g hg;cases h;have c1:=bt hc;subst c1;have hv:=hr.ev x;rw [hx] at hv;obtain⟨b,mm,cap,off,cp,hj,hle,-,dL,-⟩:=hr.jz hg hv;obtain⟨xt,eA,bw,-⟩:=aq ht;refine⟨_,.int _ _ _ _,fun w' hs=>?_⟩;unfold execOp;simp only [ho,resolve,hcl,Sem.run_bind,Sem.run_pure,Result.andThen_ok,invoke,builtin,mT,kP,p6,eV,ni];rw [dL];simp [Builtin.len_,ak bw,goInt]
def PV (P:Program) (ty:TypeId→Option Ty) (st:TS E) (o:Op):Option (Bool × TV E):=match PR P ty st o with
 | some x=>some x
 | none=>X0 P st o
theorem Y4 (hE:E.Ok) (hr:Rel E w0 G0 st a w G) {ty:TypeId→Option Ty} {d:TV E} {c:Bool} (h:PV P ty st o.op=some (c,d)) (hc:c=true):fP P a w G o d:=by
 unfold PV at h;split at h
 ·rename_i x hx
  cases h;exact YW hE hr hx hc
 ·exact abC hE hr h hc
end
end Go.RT
namespace Go.RT
variable {E : TEnv}
def Y5 (T:Ty) (k:TypeDesc) (d:TV E):Option (List (T.den E.D)) :=
 match k,d with
 | .string,.dat .str l=>if h:T=.int .u8 then some (h▸bI l) else none
 | .slice _,d=>d.get (.aG T)
 | _,_=>none
def aef (st:TS E) (T:Ty) (k:TypeDesc) (d:TV E):Option (List (T.den E.D)):=match d with
 | .vn r off n=>match k,st.H[r]? with
  | .slice _,some (.cells _ cs)=>cond (Nat.beq (T.size E) 1&&(!T.isAgg&&Nat.ble (off+n) cs.length)) (jK T ((cs.drop off).take n)) none
  | _,_=>none
 | d=>Y5 T k d
def Vf (P:Program) (src dst t':TypeId) (n off:Nat):Bool :=
 match P.underlying src,P.underlying dst with
 | some (.pointer t),some .unsafePointer=>match aB P t with
  | some i=>!(Nat.beq i.size 0)&&Nat.blt off n
  | none=>false
 | some .unsafePointer,some (.pointer t)=>match aB P t with
  | some _=>liesAt P P.depth t' (n / P.cellsOf t') off t 1
  | none=>false
 | _,_=>false
def akT (P:Program) (e:TypeId):Bool:=match aB P e with
 | some ⟨.int .u8,_,_,_⟩=>true
 | _=>false
def aeg (P:Program) (ty:TypeId→Option Ty) (st:TS E) (dst:Option Nat) (c:Call):Option (Bool × TS E) :=
 match c.callee,c.args.toList,c.argTypes.toList with
 | .builtin .append,[x,y],[t,tx]=>match aB P t,aB P tx with
  | some ⟨.slice e,_,_,_⟩,some ix=>match aB P e,ty e with
   | some ie,some T=>match aef st T ix.kind (st.ev y) with
    | some ys=>match st.ev x with
     | .bn j ai T' xs=>match st.g[j]? with
      | some g=>if hT:T'=T then
        some (!(JN st.c j)&&(Nat.beq g.ai ai&&(Nat.beq g.e e&&(Nat.beq g.k ie.size&&(Nat.beq ie.size (T.size E)&&(Nat.blt 0 ie.size&&(Nat.beq ie.zero.cells.size ie.size &&
          (decide (xs.length+ys.length≤9223372036854775807)&&decide ((xs.length+ys.length) * ie.bytes≤140737488355328)))))))),
         { st with t:=br st.t dst (.bn j (g.ai+1) T ((hT▸xs:List (T.den E.D))++ys)),g:=st.g.set j { g with ai:=g.ai+1 } })
       else none
      | none=>none
     | .val (.slice none 0 0)=>some (Nat.beq ie.size (T.size E)&&(Nat.blt 0 ie.size&&(Nat.beq ie.zero.cells.size ie.size&&(decide (ys.length≤9223372036854775807)&&decide (ys.length * ie.bytes≤140737488355328)))),
       { st with t:=br st.t dst (.bn st.g.length 1 T ys),g:=st.g++[⟨1,e,ie.size⟩] })
     | _=>none
    | none=>none
   | _,_=>none
  | _,_=>none
 | .builtin .unsafeString,[x,y],[pt,it]=>match aB P pt,st.ev x,st.ev y with
  | some ⟨.pointer e,_,_,_⟩,.MU j ai xs,.dat (.int .i64) n=>match st.g[j]? with
   | some g=>some (!(JN st.c j)&&(Nat.beq (P.cellsOf e) 1&&(Nat.beq g.ai ai&&(Nat.beq g.e e&&(Nat.beq g.k 1&&(decide (n=(xs.length:Int))&&(Fi xs&&decide (xs.length≤9223372036854775807))))))),
     { st with t:=br st.t dst (.dat .str (bh xs)),g:=st.g.set j { g with ai:=g.ai+1 } })
   | none=>none
  | _,_,_=>none
 | .builtin .len,[x],[t]=>match aB P t,st.ev x with
  | some ⟨.map _ _,_,_,_⟩,.eY r=>match st.H[r]? with
   | some (.map _ _ m)=>some (true,{ st with t:=br st.t dst (.dat (.int .i64) (m.length:Int)) })
   | _=>none
  | _,_=>none
 | _,_,_=>none
def PW (P:Program) (ty:TypeId→Option Ty) (st:TS E) (dst:Option Nat):Op→Option (Bool × TS E)
 | .alloc t=>match aB P t with
  | some i=>some (i.zero.cells.toList.all (·.oneCell'),{ st with t:=br st.t dst (.ptr st.H.length 0),H:=st.H++[.cells t (i.zero.cells.toList.map TV.JM)] })
  | none=>none
 | .box t x=>match (st.ev x).kO with
  | some cs=>some (true,{ st with t:=br st.t dst (.ptr st.H.length 0),H:=st.H++[.cells t cs] })
  | none=>none
 | .store t x y=>match aB P t,st.ev x,(st.ev y).kO with
  | some i,.ptr r off,some ds=>match st.H[r]? with
   | some (.cells t' cs)=>some (Nat.beq ds.length i.size&&Nat.ble (off+i.size) cs.length,{ st with t:=br st.t dst .any,H:=st.H.set r (.cells t' (cs.take off++ds++cs.drop (off+ds.length))),d:=r::st.d })
   | _=>none
  | _,_,_=>none
 | .buildSlice t len parts=>match aB P t with
  | some ⟨.slice e,_,_,_⟩=>match aB P e,ty e with
   | some ie,some T=>match jK T (parts.toList.map fun p=>st.ev p.2) with
    | some xs=>cond (Nat.beq len 0)
      (cond (E.zc e) (some (parts.toList.isEmpty&&Nat.beq ie.size (T.size E),{ st with t:=br st.t dst (.bn st.g.length 0 T []),g:=st.g++[⟨0,e,ie.size⟩] }))
       (some (parts.toList.isEmpty,{ st with t:=br st.t dst (.dat (.aG T) []) })))
      (some (decide (parts.toList.map (·.1)=List.range len)&&(Nat.ble (len * ie.size) 16777216&&(Nat.blt 0 ie.size&&Nat.beq ie.size (T.size E))),
       { st with t:=br st.t dst (.bn st.g.length 0 T xs),g:=st.g++[⟨0,e,ie.size⟩] }))
    | none=>none
   | _,_=>none
  | _=>none
 | .call c=>aeg P ty st dst c
 | .convert src dt x=>match st.ev x with
  | .ptr r off=>match st.H[r]? with
   | some (.cells t' cs)=>some (Vf P src dt t' cs.length off,{ st with t:=br st.t dst (.ptr r off) })
   | _=>none
  | d=>match d.Fk,aB P src,aB P dt with
   | some ⟨.int .u8,xs⟩,some ⟨.slice e,_,_,_⟩,some ⟨.string,_,_,_⟩=>some (akT P e,{ st with t:=br st.t dst (.dat .str (bh xs)) })
   | _,_,_=>none
 | .makeMap t none=>match aB P t with
  | some ⟨.map k e,_,_,_⟩=>match ty k,ty e with
   | some kt,some vt=>some (true,{ st with t:=br st.t dst (.eY st.H.length),H:=st.H++[.map kt vt []] })
   | _,_=>none
  | _=>none
 | .mapUpdate t x y z=>match aB P t,st.ev x with
  | some ⟨.map k e,_,_,_⟩,.eY r=>match st.H[r]?,aB P k with
   | some (.map kt vt m),some ik=>match (st.ev y).get kt,(st.ev z).get vt with
    | some kk,some vv=>some (SH E P k kt ik.kind,{ st with t:=br st.t dst .any,H:=st.H.set r (.map kt vt (El (kt.fI E) m kk vv)),d:=r::st.d })
    | _,_=>none
   | _,_=>none
  | _,_=>none
 | .lookup t x y ok=>match aB P t,st.ev x with
  | some ⟨.map k e,_,_,_⟩,.eY r=>match st.H[r]?,aB P k,aB P e with
   | some (.map kt vt m),some ik,some ie=>match (st.ev y).get kt,(pN E (some vt) ie.zero).get vt with
    | some kk,some z=>some (SH E P k kt ik.kind&&ie.zero.cells.toList.all (·.oneCell'),
      { st with t:=br st.t dst (cond ok (.tuple [.dat vt (sS (kt.fI E) m kk z),.dat .bool (N2 (kt.fI E) m kk)]) (.dat vt (sS (kt.fI E) m kk z))) })
    | _,_=>none
   | _,_,_=>none
  | _,_=>none
 | _=>none
section
variable {P : Program} {w0 w w' : World} {G0 G G' : au} {st : TS E} {a : Act} {o : Oper}
theorem acO (hr:Rel E w0 G0 st a w G) {y:Operand} {tx:TypeId} {ix:TI} (tB:aB P tx=some ix) {T:Ty} (hk0:0<T.size E) {ys:List (T.den E.D)} (h:Y5 T ix.kind (st.ev y)=some ys) :
  ∃news,Src P (T.size E) tx (a.eval y) ys.length news w∧Flat w G.pr (T.size E) news (ys.map (T.cells E)):=by
 unfold Y5 at h;split at h
 ·rename_i l hk hd
  split at h
  ·rename_i hT
   subst hT;cases h;obtain⟨news,h1,h2⟩:=aea hr tB hk hd;exact⟨news,by simpa [bI,Ty.size] using h1,h2⟩
  ·cases h
 ·rename_i e' hk
  have hv:=TV.nF h (hr.ev y);exact ahq hr tB hk hk0 (hv.atom rfl).oh
 ·cases h
theorem Y6 {w:World} {G:au} {T:Ty} (h1:T.size E=1) (ha:T.isAgg=false):∀ {ds:List (TV E)} {us:List Value} {xs:List (T.den E.D)},jK T ds=some xs→aP E w G ds us→Flat w G.pr 1 us (xs.map (T.cells E))
 | [],us,xs,h,hv=>by
  simp only [jK] at h;cases h;simp only [aP] at hv;subst hv
  exact Flat.nil
 | d::ds,us,xs,h,hv=>by
  simp only [jK] at h;split at h<;>try (cases h;done)
  rename_i x xs' e1 e2;cases h;obtain⟨u,us',rfl,q1,q2⟩:=hv.cons_inv;have hx:=(TV.nF e1 q1).atom ha;have hl:(T.cells E x).length=1:=by have:=hx.length;simpa using this.symm
  have ih:=Y6 h1 ha e2 q2
  have h0:Flat w G.pr 1 [u] [T.cells E x]:=⟨si,fun j hj=>by
   have:j=0:=by simpa using hj
   subst this;simpa using hl,fun j l hj hl'=>by
   have:j=0:=by simpa using hj
   subst this;have:l=0:=om;subst this;generalize T.cells E x=cc at hx hl
   match cc,hl with
   | [c],_=>simpa using hx.1⟩
  exact h0.append ih
theorem SJ (hr:Rel E w0 G0 st a w G) {y:Operand} {tx:TypeId} {ix:TI} (tB:aB P tx=some ix) {T:Ty} (hk0:0<T.size E) {ys:List (T.den E.D)} (h:aef st T ix.kind (st.ev y)=some ys) :
  ∃news,Src P (T.size E) tx (a.eval y) ys.length news w∧Flat w G.pr (T.size E) news (ys.map (T.cells E)):=by
 unfold aef at h;split at h
 ·rename_i r off n hd
  split at h<;>try (cases h;done)
  rename_i e' t cs hk hb;cases hc:(Nat.beq (T.size E) 1&&(!T.isAgg&&Nat.ble (off+n) cs.length))<;>rw [hc] at h<;>simp only [cond_true,cond_false] at h
  ·cases h
  simp only [aV,nq] at hc;obtain⟨c1,c2,c3⟩:=hc;have c1:=bt c1;have c3:=ef c3;have hv:=hr.ev y;rw [hd] at hv;simp only [VT] at hv;obtain⟨b,dL,hat⟩:=hv;obtain⟨vs,hheap,hone,hvs⟩:=hr.box hat hb;obtain⟨xt,eA,bw,-⟩:=aq tB;rw [hk] at bw;have hw:=(hvs.drop off).take n;have hlen:vs.size=cs.length:=by simpa using hvs.length
  have hyl:ys.length=n:=by rw [xI h];simp;omega
  have hf:=Y6 c1 c2 h hw;refine⟨(vs.toList.drop off).take n,?_,by rw [c1];exact hf⟩;rw [dL,hyl,c1];refine Src.ofSlice w bw _ _ _ _ bx (fun j u hu=>?_) (fun u hu=>hone u ?_)
  ·have hj:j<n:=by have:=(bS.1 hu).1;simp at this;omega
   rw [add_lit];rw [XH hj,sQ] at hu;simp only [World.cell?,hheap];simpa using hu
  ·have:=XQ (Sc hu)
   simpa using this
 ·exact acO hr tB hk0 h
theorem N3 (hr:Rel E w0 G0 st a w G) {t e:TypeId} {parts:Array (Nat × Operand)} {j1 j2:Nat} {z:Value} {ie:TI} (ho:o.op=.buildSlice t 0 parts) (ht:aB P t=some ⟨.slice e,j1,j2,z⟩) (hi:aB P e=some ie) (hp:parts.toList=[]) (T:Ty) :
  fu P w0 G0 a w o { st with t:=br st.t o.dst (.dat (.aG T) []) }:=by
 obtain⟨xt,eA,bw,-⟩:=aq ht;obtain⟨xe,fZ,jA,hsz,-⟩:=aq hi;have hp':parts=#[]:=by rw [←gY (xs:=parts),hp]
 have hG:=hr.grow (cL.alloc w (.cells #[] e)) rfl rfl rfl G.pr (fun _ _ h=>h) (fun _ _ _ h=>h) (fun b o hp=>eF (hr.boxes.dH b o hp).1 si);refine⟨.value (.slice (some ⟨w.heap.size,0,none⟩) 0 0),_,w.alloc (.cells #[] e),_,?_,.inl rfl,hG.put (d:=.dat (.aG T) []) (.list (.oN _ _)) o.dst⟩;simp only [execOp,ho,Instr.buildSlice,Sem.run_bind,ak bw,Result.andThen_ok,bQ fZ,hsz,hp'];simp [newRow,Instr.fill];congr 2;apply Array.ext<;>simp
theorem N4 (hr:Rel E w0 G0 st a w G) {t e:TypeId} {parts:Array (Nat × Operand)} {j1 j2:Nat} {z:Value} {ie:TI} (ho:o.op=.buildSlice t 0 parts) (ht:aB P t=some ⟨.slice e,j1,j2,z⟩) (hi:aB P e=some ie) (hp:parts.toList=[]) (hz:E.zc e=true) (T:Ty) (hk:ie.size=T.size E) :
  fu P w0 G0 a w o { st with t:=br st.t o.dst (.bn st.g.length 0 T []),g:=st.g++[⟨0,e,ie.size⟩] }:=by
 obtain⟨xt,eA,bw,-⟩:=aq ht;obtain⟨xe,fZ,jA,hsz,-⟩:=aq hi;have hp':parts=#[]:=by rw [←gY (xs:=parts),hp]
 have hG:=hr.ajr (e:=e) (k:=ie.size) hz;refine⟨.value (.slice (some ⟨w.heap.size,0,none⟩) 0 0),_,w.alloc (.cells #[] e),_,?_,.inl rfl,hG.put (d:=.bn st.g.length 0 T []) ?_ o.dst⟩
 ·simp only [execOp,ho,Instr.buildSlice,Sem.run_bind,ak bw,Result.andThen_ok,bQ fZ,hsz,hp']
  simp [newRow,Instr.fill];congr 2;apply Array.ext<;>simp
 ·simp only [VT]
  exact⟨.oN _ _,⟨0,e,ie.size⟩,.slice (some ⟨w.heap.size,0,none⟩) 0 0,by rw [←hr.kQ];simp,bM _,fun _=>rfl⟩
theorem abD (hE:E.Ok) (hr:Rel E w0 G0 st a w G) {ty:TypeId→Option Ty} {st':TS E} {c:Bool} (h:PW P ty st o.dst o.op=some (c,st')) (hc:c=true):fu P w0 G0 a w o st':=by
 cases ho:o.op<;>rw [ho] at h<;>simp only [PW] at h<;>try (cases h;done)
 case alloc t =>
  split at h<;>try (cases h;done)
  rename_i i hi;cases h;exact ad8 hr ho hi hc
 case box t x =>
  split at h<;>try (cases h;done)
  rename_i cs hcs;cases h;exact ahp hE hr ho hcs
 case store t x y =>
  split at h<;>try (cases h;done)
  rename_i i r off ds hi hd hds;split at h<;>try (cases h;done)
  rename_i t' cs hb;cases h;rw [aV] at hc;exact ad6 hE hr ho hi hd hb hds (bt hc.1) (ef hc.2)
 case buildSlice t len parts =>
  split at h<;>try (cases h;done)
  rename_i e j1 j2 z ht;split at h<;>try (cases h;done)
  rename_i ie T hi hT;split at h<;>try (cases h;done)
  rename_i xs hx;cases hl:Nat.beq len 0<;>rw [hl] at h<;>simp only [cond_true,cond_false] at h
  ·cases h
   simp only [aV,decide_eq_true_eq] at hc;have h0:len≠0:=fun e=>by subst e;cases hl
   exact PN hE hr ho ht hi hc.1 (ef hc.2.1) (ef hc.2.2.1) om (bt hc.2.2.2) hx
  ·obtain rfl:=bt hl
   cases hz:E.zc e<;>rw [hz] at h<;>simp only [cond_true,cond_false] at h<;>cases h
   ·exact N3 hr ho ht hi (by simpa using hc) T
   ·rw [aV] at hc
    exact N4 hr ho ht hi (by simpa using hc.1) hz T (bt hc.2)
 case convert src dt x =>
  split at h
  ·rename_i r off hd
   split at h<;>try (cases h;done)
   rename_i t' cs hb;cases h;refine YX hr ho hd hb ?_;unfold Vf at hc;split at hc<;>try (cases hc;done)
   ·rename_i t hs hdt
    split at hc<;>try (cases hc;done)
    rename_i i hi;simp only [aV,nq] at hc;exact .inl ⟨t,i,hs,hdt,hi,fun e=>(by rw [e] at hc;exact absurd hc.1 de),ef hc.2⟩
   ·rename_i t hs hdt
    split at hc<;>try (cases hc;done)
    rename_i i hi;exact .inr ⟨t,i,hs,hdt,hi,hc⟩
  ·split at h<;>try (cases h;done)
   rename_i xs e j1 j2 z1 j3 j4 z2 hd hs hdt;cases h;unfold akT at hc;split at hc<;>try (cases hc;done)
   rename_i j5 j6 z3 he;exact JZ hr ho hs hdt he (TV.Dj hd)
 case makeMap t res =>
  cases res with
  | some x=>simp at h
  | none =>
   simp only at h;split at h<;>try (cases h;done)
   split at h<;>try (cases h;done)
   cases h;exact Y2 hr ho _ _
 case mapUpdate t x y z =>
  split at h<;>try (cases h;done)
  rename_i k e j1 j2 zz r hm hx;split at h<;>try (cases h;done)
  rename_i kt vt m ik hb hk;split at h<;>try (cases h;done)
  rename_i kk vv hy hz;cases h;exact SI hE hr ho hm hk hc hx hb hy hz
 case lookup t x y ok =>
  split at h<;>try (cases h;done)
  rename_i k e j1 j2 zz r hm hx;split at h<;>try (cases h;done)
  rename_i kt vt m ik ie hb hk he;split at h<;>try (cases h;done)
  rename_i kk z hy hz;cases h;rw [aV] at hc;exact abA hE hr ho hm hk he hc.1 hc.2 hx hb hy hz
 case call c' =>
  unfold aeg at h;split at h<;>try (cases h;done)
  ·rename_i x y t tx hcl ha hat
   split at h<;>try (cases h;done)
   rename_i e j1 j2 z ix ht tB;split at h<;>try (cases h;done)
   rename_i ie T hi hT;split at h<;>try (cases h;done)
   rename_i ys hys;split at h<;>try (cases h;done)
   ·rename_i j ai T' xs hx
    split at h<;>try (cases h;done)
    rename_i g hg;split at h<;>try (cases h;done)
    rename_i hTT;subst hTT;cases h;simp only [aV,decide_eq_true_eq] at hc;obtain⟨c0,c1,c2,c3,c4,c5,c6,c7,c8⟩:=hc;have c0:=Gy (by simpa using c0);have c4:=bt c4;have c5:0<ie.size:=ef c5;obtain⟨news,q1,q2⟩:=SJ hr tB (by rw [←c4];exact c5) hys;rw [←c4] at q1 q2;exact abw hE hr ho hcl ha hat ht hi hx hg c0 (bt c1) (bt c2) (bt c3) c4 c5 (bt c6) c7 c8 q1 q2
   ·rename_i hx
    cases h;simp only [aV,decide_eq_true_eq] at hc;obtain⟨c4,c5,c6,c7,c8⟩:=hc;have c4:=bt c4;have c5:0<ie.size:=ef c5;obtain⟨news,q1,q2⟩:=SJ hr tB (by rw [←c4];exact c5) hys;rw [←c4] at q1 q2;exact SG hE hr ho hcl ha hat ht hi hx c4 c5 (bt c6) c7 c8 q1 q2
  ·rename_i x y pt it hcl ha hat
   split at h<;>try (cases h;done)
   rename_i e j1 j2 z j ai xs n hp hx hy;split at h<;>try (cases h;done)
   rename_i g hg;cases h;simp only [aV,decide_eq_true_eq] at hc;obtain⟨c0,c1,c2,c3,c4,c5,c6,c7⟩:=hc;have c0:=Gy (by simpa using c0);exact L9 (j3:=0) (j4:=0) (z2:=undef) hr ho hcl ha hat hp (bt c1) hx hg c0 (bt c2) (bt c3) (bt c4) hy c5 c6 c7
  ·rename_i x t hcl ha hat
   split at h<;>try (cases h;done)
   rename_i k e j1 j2 z r hm hx;split at h<;>try (cases h;done)
   rename_i kt vt m hb;cases h;exact abB hr ho hcl ha hat hm hx hb
end
end Go.RT
