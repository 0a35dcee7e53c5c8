import Derived.Test.YtkmlndnhiboofaaGreatDoorAl
open Option renaming some->W0,none->WP
open Bool renaming true->WF,false->UV
open Decidable renaming decide->T1
open Int renaming toNat->Ts
open Nat renaming beq->ST,blt->So
open List renaming range->R0
open BitVec renaming ofInt->Rd
set_option linter.all false
namespace Go.RT
inductive Ty where
 | int (k:IntKind)|bool|str|bq (t:Ty)|unit|pair (a b:Ty)|ext (i:Nat)
 deriving DecidableEq,Inhabited
@[reducible] def Ty.den (D : Nat -> Type) : Ty -> Type
 | .int _=>Int
 | .bool=>Bool
 | .str=>J UInt8
 | .bq t=>J (t.den D)
 | .unit=>Unit
 | .pair a b=>a.den D×b.den D
 | .ext i=>D i
inductive DV where
 | int (k:IntKind) (n:Int)
 | bool (b:Bool)
 | str (l:List UInt8)
 | slice (k:Nat) (es:List (List DV))
 deriving Inhabited
structure YD where
 params:Array Tmp
 assign:Code
 body:Code
structure TEnv where
 D:Nat->Type
 df:Nat->Ty
 size:Nat->Nat
 enc:(i:Nat)->D i->List DV
 AV:(i:Nat)->D i->(df i).den D
 fold:(i:Nat)->(df i).den D->D i
 inh:(i:Nat)->D i
 gb:Nat->Option (Array Value->Prop)
 yd:Nat->YD->Prop
 ydn:Nat->Option Nat
 zc:TypeId->Bool
variable (E : TEnv)
def Ty.size:Ty->Nat
 | .int _=>1
 | .bool=>1
 | .str=>1
 | .bq _=>1
 | .unit=>0
 | .pair a b=>a.size+b.size
 | .ext i=>E.size i
def Ty.dflt:(t:Ty)->t.den E.D
 | .int _=>(0:Int)
 | .bool=>UV
 | .str=>[]
 | .bq _=>[]
 | .unit=>()
 | .pair a b=>(a.dflt,b.dflt)
 | .ext i=>E.inh i
def Ty.isAgg:Ty->Bool
 | .unit=>WF
 | .pair _ _=>WF
 | .ext _=>WF
 | _=>UV
def Ty.cells:(t:Ty)->t.den E.D->J DV
 | .int k,n=>[.int k n]
 | .bool,b=>[.bool b]
 | .str,l=>[.str l]
 | .bq t,xs=>[.slice (t.size E) (xs.map (t.cells))]
 | .unit,_=>[]
 | .pair a b,x=>a.cells x.1++b.cells x.2
 | .ext i,x=>E.enc i x
structure TEnv.Ok:Prop where
 enc:∀i x,E.enc i x=(E.df i).cells E (E.AV i x)
 fold:∀i y,E.AV i (E.fold i y)=y
 size:∀i,E.size i=(E.df i).size E
 len:∀i x,(E.enc i x).length=E.size i
 ydn:∀y Y n,E.yd y Y->E.ydn y=W0 n->Y.params.size=n
theorem Ty.AX(hE:E.Ok):∀(t:Ty)(x:t.den E.D),(t.cells E x).length=t.size E:=by
 intro t
 induction t with
 | int k=>intro x;rfl
 | bool=>intro x;rfl
 | str=>intro x;rfl
 | bq t _=>intro x;rfl
 | unit=>intro x;rfl
 | pair a b ES ET=>simp_all[Ty.cells,Ty.size]
 | ext i=>intro x;exact hE.len i x
def mkStr(l:J UInt8):Value:=.string ⟨⟨l⟩⟩
inductive VD(w:World)(pr:Nat->Nat->Prop):Value->DV->Prop
 | int (k:IntKind) (n:Int):VD w pr (.int k n) (.int k n)
 | bool (b:Bool):VD w pr (.bool b) (.bool b)
 | str (l:List UInt8):VD w pr (mkStr l) (.str l)
 | vo (a:Option Addr) (k:Nat):VD w pr (.slice a 0 0) (.slice k [])
 | slice (b off cap k:Nat) (es:List (List DV)) (c:Nat->Nat->Value) (hc:es.length<=cap)
   (hk:∀j,j<es.length->(es.getD j []).length=k)
   (h0:∀j l,j<es.length->l<k->pr b (off+j*k+l)/\w.cell? ⟨b,off+j*k+l,WP⟩=W0 (c j l))
   (h:∀j l,j<es.length->l<k->VD w pr (c j l) ((es.getD j []).getD l default)) :
   VD w pr (.slice (W0 ⟨b,off,WP⟩) es.length cap) (.slice k es)
variable{w:U}{pr:Nat -> Nat -> Prop}{lQ:Nat->Nat->Prop}
theorem VD.mono{w':U}(hp:∀b o,pr b o->lQ b o)
  (hc:∀b o v,pr b o->w.cell? ⟨b,o,WP⟩=W0 v->w'.cell? ⟨b,o,WP⟩=W0 v)
  {v:Value} {d:DV} (h:VD w pr v d):VD w' lQ v d:=by
 induction h with
 | int k n=>exact .int k n
 | bool b=>exact .bool b
 | str l=>exact .str l
 | vo a k=>exact .vo a k
 | slice b off cap k es c hcap hk h0 h ih=>
  exact .slice b off cap k es c hcap hk (λj l hj hl=>⟨hp _ _ (h0 j l hj hl).1,hc _ _ _ (h0 j l hj hl).1 (h0 j l hj hl).2⟩) ih
variable{v:Value}
theorem VD.one{d:DV}(h:VD w pr v d):v.oneCell'=WF:=by
 cases h<;>rfl
def LD(w:U)(pr:Nat->Nat->Prop):J Value->J DV->Prop
 | [],[]=>True
 | v::vs,d::ds=>VD w pr v d/\LD w pr vs ds
 | _,_=>False
def Flat(w:U)(pr:Nat->Nat->Prop)(k:Nat)(xs:J Value)(es:J (J DV)):Prop:=
 xs.length=es.length*k/\(∀j,j<es.length->(es.getD j []).length=k) /\
 ∀j l,j<es.length->l<k->VD w pr (xs.getD (j*k+l) undef) ((es.getD j []).getD l default)
theorem Flat.mono{w':U}{k:Nat}{xs:J Value}{es:J (J DV)}(h:Flat w pr k xs es)(hp:∀b o,pr b o->lQ b o)
  (hc:∀b o v,pr b o->w.cell? ⟨b,o,WP⟩=W0 v->w'.cell? ⟨b,o,WP⟩=W0 v):Flat w' lQ k xs es:=
 ⟨h.1,h.2.1,λj l hj hl=>(h.2.2 j l hj hl).mono hp hc⟩
inductive TV where
 | any
 | dat (t:Ty) (x:t.den E.D)
 | sV (t:Ty) (x:t.den E.D) (off:Nat)
 | ptr (r off:Nat)
 | qj (b:Bool) (r off:Nat)
 | jy (r:Nat)
 | uI (r:Nat)
 | iz (r n cap:Nat)
 | cA (j aF:Nat) (t:Ty) (xs:List (t.den E.D))
 | Ro (j aF:Nat) (l:List Int)
 | eA (j aF:Nat)
 | iC (j aF k i off:Nat)
 | uk (t:Ty) (xs:List (t.den E.D))
 | func (fn:Fn) (caps:List TV)
 | GN (fn:Fn) (firsts:List TV)
 | iface (ty:TypeId) (v:TV)
 | agg (cs:List TV)
 | tuple (vs:List TV)
 | val (v:Value)
instance:Inhabited (TV E):=⟨.any⟩
inductive fK where
 | cells (ty:TypeId) (cs:List (TV E))
 | iter (s:List UInt8) (pos:Nat)
 | map (kt vt:Ty) (m:List (kt.den E.D×vt.den E.D))
 | loop (y:Nat) (ds:List (TV E))
 | gone
 | Rp
 | lI (e:TypeId) (cap:Nat) (t:Ty) (xs:List (t.den E.D)) (d:TV E)
instance:Inhabited (fK E):=⟨.iter [] 0⟩
structure cL where
 aF:Nat
 e:TypeId
 k:Nat
 deriving DecidableEq,Inhabited
abbrev Cn(E:TEnv):=(t:Ty)×J (t.den E.D)
structure TS where
 t:List (TV E)
 H:List (fK E)
 g:List cL
 d:List Nat
 df:List (FuncId×List (TV E))
 c:List (Nat×Cn E)
structure bx where
 i:List Nat
 g:List (cL×Value)
 pr:Nat->Nat->Prop
mutual
def VT(w:U)(G:bx):TV E->Value->Prop
 | .any,_=>True
 | .dat t x,v=>match t.isAgg with
  | true=>∃vs:aJ Value,v=.agg vs/\LD w G.pr vs.toList (t.cells E x)
  | false=>LD w G.pr [v] (t.cells E x)
 | .sV t x off,v=>∃(b o:Nat)(c:J Value),v=.pointer (W0 ⟨b,o+off,WP⟩)/\LD w G.pr c (t.cells E x) /\
   ∀l u,c[l]? = W0 u->G.pr b (o+l)/\w.cell? ⟨b,o+l,WP⟩=W0 u
 | .ptr r off,v=>∃b,v=.pointer (W0 ⟨b,off,WP⟩)/\G.i[r]? = W0 b
 | .qj c r off,v=>match c with
  | true=>∃b,v=.pointer (W0 ⟨b,off,WP⟩)/\G.i[r]? = W0 b
  | false=>v=.pointer WP
 | .jy r,v=>∃b,v=.map (W0 b)/\G.i[r]? = W0 b
 | .uI r,v=>∃b,v=.func (.yield b) #[] #[]/\G.i[r]? = W0 b
 | .iz r n cap,v=>∃b,v=.slice (W0 ⟨b,0,WP⟩) n cap/\G.i[r]? = W0 b
 | .cA j aF t xs,v=>VD w G.pr v (.slice (t.size E) (xs.map (t.cells E)))/\∃x h,G.g[j]? = W0 (x,h)/\aF<=x.aF/\(aF=x.aF->v=h)
 | .Ro j aF l,v=>∃x h u,G.g[j]? = W0 (x,h)/\aF<=x.aF/\VD w G.pr u (.slice 1 (l.map λn=>[.int .u8 n]))/\(aF=x.aF->u=h/\((h=.slice WP 0 0/\l=[]/\v=.pointer WP)\/∃b cap,h=.slice (W0 ⟨b,0,WP⟩) l.length cap/\v=.pointer (W0 ⟨b,0,WP⟩)))
 | .eA j aF,v=>∃x h,G.g[j]? = W0 (x,h)/\aF<=x.aF/\v.oneCell'=WF/\(aF=x.aF->v=h)
 | .iC j aF k i off,v=>∃x h,G.g[j]? = W0 (x,h)/\aF<=x.aF/\v.oneCell'=WF/\(aF=x.aF->∃b m cap,h=.slice (W0 ⟨b,0,WP⟩) m cap/\i<m/\v=.pointer (W0 ⟨b,i*k+off,WP⟩))
 | .uk t xs,v=>∃vs:aJ Value,v=.agg vs/\(∀u,u∈vs->u.oneCell'=WF)/\Flat w G.pr (t.size E) vs.toList (xs.map (t.cells E))
 | .func fn caps,v=>∃vs:aJ Value,v=.func fn #[] vs/\bI w G caps vs.toList
 | .GN fn firsts,v=>∃vs:aJ Value,v=.func fn vs #[]/\bI w G firsts vs.toList
 | .iface ty d,v=>∃u,v=.iface ty u/\VT w G d u
 | .agg cs,v=>∃vs:aJ Value,v=.agg vs/\(∀u,u∈vs->u.oneCell'=WF)/\bI w G cs vs.toList
 | .tuple ds,v=>∃vs:aJ Value,v=.tuple vs/\bI w G ds vs.toList
 | .val u,v=>v=u
def bI(w:U)(G:bx):J (TV E)->J Value->Prop
 | [],vs=>vs=[]
 | d::ds,vs=>∃u us,vs=u::us/\VT w G d u/\bI w G ds us
end
section
variable {E : TEnv} {w w' : U} {G G' : bx}
theorem LD.mono{pr lQ:Nat->Nat->Prop}(hp:∀b o,pr b o->lQ b o)
  (hc:∀b o v,pr b o->w.cell? ⟨b,o,WP⟩=W0 v->w'.cell? ⟨b,o,WP⟩=W0 v) :
  ∀ {vs:J Value}{ds:J DV},LD w pr vs ds->LD w' lQ vs ds
 | [],[],_=>trivial
 | _::_,_::_,h=>⟨h.1.mono hp hc,LD.mono hp hc h.2⟩
 | [],_::_,h=>h.elim
 | _::_,[],h=>h.elim
structure iK(w:World)(G:bx)(w':World)(G':bx):Prop where
 pr:∀b o,G.pr b o->G'.pr b o
 cells:∀b o v,G.pr b o->w.cell? ⟨b,o,WP⟩=W0 v->w'.cell? ⟨b,o,WP⟩=W0 v
 i:∀(r b:Nat),G.i[r]? = W0 b->G'.i[r]? = W0 b
 g:∀(j:Nat) x h,G.g[j]? = W0 (x,h)->∃x' h',G'.g[j]? = W0 (x',h')/\x.aF<=x'.aF/\(x.aF=x'.aF->h'=h)
mutual
theorem VT.mono(hg:iK w G w' G'):∀ {d:TV E}{v:Value},VT E w G d v->VT E w' G' d v
 | .any,_,_=>by simp only[VT]
 | .dat t x,v,h=>by
  simp only[VT]at h⊢;cases ha:t.isAgg<;>rw[ha]at h<;>dsimp only at h⊢
  rotate_left
  ·obtain⟨vs,rfl,h⟩:=h
   exact⟨vs,rfl,h.mono hg.pr hg.cells⟩
  ·exact h.mono hg.pr hg.cells
 | .sV t x off,v,h=>by
  simp only[VT]at h⊢;obtain⟨b,o,c,rfl,h1,h2⟩:=h
  exact⟨b,o,c,rfl,h1.mono hg.pr hg.cells,λl u hl=>⟨hg.pr _ _ (h2 l u hl).1,hg.cells _ _ _ (h2 l u hl).1 (h2 l u hl).2⟩⟩
 | .ptr r off,v,h=>by
  simp only[VT]at h⊢;obtain⟨b,rfl,h⟩:=h
  exact⟨b,rfl,hg.i r b h⟩
 | .jy r,v,h=>by
  simp only[VT]at h⊢;obtain⟨b,rfl,h⟩:=h
  exact⟨b,rfl,hg.i r b h⟩
 | .uI r,v,h=>by
  simp only[VT]at h⊢;obtain⟨b,rfl,h⟩:=h
  exact⟨b,rfl,hg.i r b h⟩
 | .iz r n cap,v,h=>by
  simp only[VT]at h⊢;obtain⟨b,rfl,h⟩:=h
  exact⟨b,rfl,hg.i r b h⟩
 | .qj c r off,v,h=>by
  cases c<;>simp only[VT]at h⊢
  ·exact h
  ·obtain⟨b,rfl,h⟩:=h
   exact⟨b,rfl,hg.i r b h⟩
 | .cA j aF t xs,v,h=>by
  simp only[VT]at h⊢;obtain⟨h1,x,g,lF,hle,heq⟩:=h;obtain⟨x',g',hg',hle',heq'⟩:=hg.g j x g lF
  exact⟨h1.mono hg.pr hg.cells,x',g',hg',oM hle hle',λe=>by
   have e1:aF=x.aF:=Zv hle (e▸hle')
   rw[heq e1,heq' (e1.symm.trans e)]⟩
 | .Ro j aF l,v,h=>by
  simp only[VT]at h⊢;obtain⟨x,g,u,lF,hle,AY,heq⟩:=h;obtain⟨x',g',hg',hle',heq'⟩:=hg.g j x g lF;refine⟨x',g',u,hg',oM hle hle',AY.mono hg.pr hg.cells,λe=>?_⟩;have e1:aF=x.aF:=Zv hle (e▸hle');rw[heq' (e1.symm.trans e)]
  exact heq e1
 | .eA j aF,v,h=>by
  simp only[VT]at h⊢;obtain⟨x,g,lF,hle,h1,heq⟩:=h;obtain⟨x',g',hg',hle',heq'⟩:=hg.g j x g lF
  exact⟨x',g',hg',oM hle hle',h1,λe=>by
   have e1:aF=x.aF:=Zv hle (e▸hle')
   rw[heq e1,heq' (e1.symm.trans e)]⟩
 | .iC j aF k i off,v,h=>by
  simp only[VT]at h⊢;obtain⟨x,g,lF,hle,h1,heq⟩:=h;obtain⟨x',g',hg',hle',heq'⟩:=hg.g j x g lF;refine⟨x',g',hg',oM hle hle',h1,λe=>?_⟩;have e1:aF=x.aF:=Zv hle (e▸hle');rw[heq' (e1.symm.trans e)]
  exact heq e1
 | .uk t xs,v,h=>by
  simp only[VT]at h⊢;obtain⟨vs,rfl,h1,h⟩:=h
  exact⟨vs,rfl,h1,h.mono hg.pr hg.cells⟩
 | .func fn caps,v,h=>by
  simp only[VT]at h⊢;obtain⟨vs,rfl,h⟩:=h
  exact⟨vs,rfl,bI.mono hg h⟩
 | .GN fn firsts,v,h=>by
  simp only[VT]at h⊢;obtain⟨vs,rfl,h⟩:=h
  exact⟨vs,rfl,bI.mono hg h⟩
 | .iface ty d,v,h=>by
  simp only[VT]at h⊢;obtain⟨u,rfl,h⟩:=h
  exact⟨u,rfl,VT.mono hg h⟩
 | .agg cs,v,h=>by
  simp only[VT]at h⊢;obtain⟨vs,rfl,h1,h⟩:=h
  exact⟨vs,rfl,h1,bI.mono hg h⟩
 | .tuple ds,v,h=>by
  simp only[VT]at h⊢;obtain⟨vs,rfl,h⟩:=h
  exact⟨vs,rfl,bI.mono hg h⟩
 | .val u,v,h=>by simpa only[VT]using h
theorem bI.mono(hg:iK w G w' G'):∀ {ds:J (TV E)}{vs:J Value},bI E w G ds vs->bI E w' G' ds vs
 | [],_,h=>by simpa only[bI]using h
 | d::ds,vs,h=>by
  simp only[bI]at h⊢;obtain⟨u,us,rfl,h1,h2⟩:=h;exact⟨u,us,rfl,VT.mono hg h1,bI.mono hg h2⟩
end
end
def gp(w:U)(G:bx)(kt vt:Ty):J MapEntry->J (kt.den E.D×vt.den E.D)->Prop
 | [],[]=>True
 | e::es,p::ps=>VT E w G (.dat kt p.1) e.key/\VT E w G (.dat vt p.2) e.val/\gp w G kt vt es ps
 | _,_=>False
def jW(w:U)(G:bx)(b:Nat):fK E->Prop
 | .cells ty cs=>∃vs:aJ Value,w.heap[b]? = W0 (.cells vs ty (0,0))/\(∀u,u∈vs->u.oneCell'=WF)/\bI E w G cs vs.toList
 | .iter s pos=>w.heap[b]? = W0 (.stringIter ⟨⟨s⟩⟩ pos)
 | .map kt vt m=>∃(es:aJ MapEntry)(clock:Nat),w.heap[b]? = W0 (.map es clock)/\MapKept.Stamped es clock/\gp E w G kt vt es.toList m
 | .loop y ds=>∃(Y:YD)(fn:FuncId)(tmps:aJ Value)(D:Nat),E.yd y Y/\w.heap[b]? = W0 (.loop ⟨.ready,WP,fn,tmps,Y.params,Y.assign,Y.body,D⟩)/\bI E w G ds tmps.toList
 | .gone=>∃o,w.heap[b]? = W0 o/\∀cs t m,o≠.cells cs t m
 | .Rp=>w.heap[b]? = W0 (.deferred (W0 []))
 | .lI e cap t xs d=>∃cur:aJ Value,w.heap[b]? = W0 (.cells cur e (0,0))/\cur.size=cap/\(∀(i:Nat) x,xs[i]? = W0 x->VT E w G (.dat t x) (cur.getD i undef))/\VT E w G d (cur.getD xs.length undef)/\xs.length<cap
def yX(w:U)(G:bx)(x:cL)(h:Value):Prop:=
 ∃n xs,w.ownsRow 0 x.e x.k h n xs/\(∀a m,h=.slice (W0 a) m 0->E.zc x.e=WF)/\∀b,h.ownBlock=W0 b->b<w.heap.size/\b∉G.i/\∀o,n*x.k<=o->¬ G.pr b o
def bx.rows(G:bx)(b:Nat):Prop:=∃x h,(x,h)∈G.g/\h.ownBlock=W0 b
def bx.Er(G:bx)(b:Nat):Prop:=b∈G.i\/G.rows b
structure kT(w0:World)(G0:bx)(w:World)(G:bx):Prop where
 os:w.os=w0.os
 tape:w.tape=w0.tape
 output:w.output=w0.output
 size:w0.heap.size<=w.heap.size
 old:∀b,b<w0.heap.size->¬ G0.Er b->w.heap[b]? = w0.heap[b]?
 goes:iK w0 G0 w G
 oz:∀b o,b<w0.heap.size->G.pr b o->G0.pr b o\/G0.rows b
 qO:∀(r b:Nat),G0.i.length<=r->G.i[r]? = W0 b->w0.heap.size<=b
 gM:∀(j:Nat) x h b,G.g[j]? = W0 (x,h)->h.ownBlock=W0 b->w0.heap.size<=b\/∃x0 h0,G0.g[j]? = W0 (x0,h0)/\h0.ownBlock=W0 b
structure lW(w:World)(G:bx)(H:List (fK E))(gs:List cL):Prop where
 len:G.i.length=H.length
 gs:G.g.map (·.1)=gs
 box:∀(r b:Nat)(x:fK E),G.i[r]? = W0 b->H[r]? = W0 x->jW E w G b x
 lt:∀b,b∈G.i->b<w.heap.size
 nodup:G.i.Nodup
 gu:∀b o,G.pr b o->b<w.heap.size/\b∉G.i
 grow:∀(j:Nat) x h,G.g[j]? = W0 (x,h)->yX E w G x h
 apart:∀(j j':Nat) x h x' h' b,G.g[j]? = W0 (x,h)->G.g[j']? = W0 (x',h')->h.ownBlock=W0 b->h'.ownBlock=W0 b->j=j'
def qf(w:U)(G:bx):Prop:=∀b p,E.gb b=W0 p->(∃cs t m,w.heap[b]? = W0 (.cells cs t m)/\p cs)/\¬ G.Er b
def AZ:FuncId:=2000000
def DOk(w:U)(G:bx)(d:Deferred)(x:FuncId×J (TV E)):Prop:=
 (ST x.1 AZ=UV/\∃cap,d.target=.fn (.func x.1) cap/\bI E w G x.2 (d.args++cap).toList)\/(x.1=AZ/\∃b,d={target:=.collected b,args:=#[]}/\bI E w G x.2 [.func (.yield b) #[] #[]])
def kA(w:U)(G:bx):J Deferred->J (FuncId×J (TV E))->Prop
 | [],[]=>True
 | d::ds,x::xs=>DOk E w G d x/\kA w G ds xs
 | _,_=>False
def sW(w:U)(G:bx)(x:cL)(h:Value)(c:Cn E):Prop:=
 x.k=c.1.size E/\0<x.k/\(∃vals,w.ownsRow 0 x.e x.k h c.2.length vals/\Flat w G.pr x.k vals (c.2.map (c.1.cells E)))/\∀b,h.ownBlock=W0 b->∀o,¬ G.pr b o
def kN(w:U)(G:bx)(cs:J (Nat×Cn E)):Prop:=∀j c,(j,c)∈cs->∃x h,G.g[j]? = W0 (x,h)/\sW E w G x h c
structure Rel(w0:World)(G0:bx)(st:TS E)(a:Act)(w:World)(G:bx):Prop where
 ff:kT w0 G0 w G
 size:a.tmps.size=st.t.length
 tmps:∀(j:Nat) d,st.t[j]? = W0 d->VT E w G d (a.tmps.getD j undef)
 defers:kA E w G a.defers st.df
 boxes:lW E w G st.H st.g
 fix:∀(r b:Nat),G0.i[r]? = W0 b->r∉st.d->w.heap[b]? = w0.heap[b]?
 pins:qf E w0 G0
 gv:kN E w G st.c
inductive Ex where
 | normal|exit (id:Nat)|goto (l:Nat)|ret|panic (d:TV E)
def aoR(w:U)(G:bx):Exit->Ex E->Prop
 | .normal,.normal=>True
 | .exit i,.exit j=>i=j
 | .goto i,.goto j=>i=j
 | .ret,.ret=>True
 | .panic ch,.panic d=>∃v,ch=[{v:=v,recovered:=UV}]/\VT E w G d v
 | _,_=>False
def cK(w0:U)(G0:bx)(Q:Ex E->TS E->Prop):Exit->Act->U->Prop:=
 λe a w=>∃x st G,aoR E w G e x/\Rel E w0 G0 st a w G/\Q x st
def Is(P:bh)(c:Code)(st:TS E)(Q:Ex E->TS E->Prop):Prop:=
 ∀w0 G0 a w G,Rel E w0 G0 st a w G->c.wp P (cK E w0 G0 Q) a w
def afB(P:bh)(ops:aJ Oper)(l:J Oper)(st:TS E)(Q:Ex E->TS E->Prop):Prop:=
 ∀w0 G0 a w G,Rel E w0 G0 st a w G->wpList P ops (cK E w0 G0 Q) l a w
variable {E : TEnv}
theorem LD.length:∀ {vs:J Value}{ds:J DV},LD w pr vs ds->vs.length=ds.length
 | [],[],_=>rfl
 | _::_,_::_,h=>by simp[LD.length h.2]
 | [],_::_,h=>h.elim
 | _::_,[],h=>h.elim
theorem LD.one:∀ {vs:J Value}{ds:J DV},LD w pr vs ds->∀u,u∈vs->u.oneCell'=WF
 | [],[],_,u,hu=>by cases hu
 | v::vs,d::ds,h,u,hu=>by
  rcases iy.1 hu with rfl|hu
  ·exact h.1.one
  ·exact LD.one h.2 u hu
 | [],_::_,h,_,_=>h.elim
 | _::_,[],h,_,_=>h.elim
theorem LD.append:∀ {vs us:J Value}{ds es:J DV},LD w pr vs ds->LD w pr us es->LD w pr (vs++us) (ds++es)
 | [],_,[],_,_,h=>h
 | _::_,_,_::_,_,h,h'=>⟨h.1,LD.append h.2 h'⟩
 | [],_,_::_,_,h,_=>h.elim
 | _::_,_,[],_,h,_=>h.elim
theorem LD.take:∀(n:Nat){vs:J Value}{ds:J DV},LD w pr vs ds->LD w pr (vs.take n) (ds.take n)
 | 0,_,_,_=>by simp[LD]
 | _+1,[],[],_=>trivial
 | n+1,_::_,_::_,h=>⟨h.1,LD.take n h.2⟩
 | _+1,[],_::_,h=>h.elim
 | _+1,_::_,[],h=>h.elim
theorem LD.drop:∀(n:Nat){vs:J Value}{ds:J DV},LD w pr vs ds->LD w pr (vs.drop n) (ds.drop n)
 | 0,_,_,h=>h
 | _+1,[],[],_=>trivial
 | n+1,_::_,_::_,h=>LD.drop n h.2
 | _+1,[],_::_,h=>h.elim
 | _+1,_::_,[],h=>h.elim
theorem LD.split:∀ {ds es:J DV}{vs:J Value},LD w pr vs (ds++es)->∃us ts,vs=us++ts/\LD w pr us ds/\LD w pr ts es
 | [],_,vs,h=>⟨[],vs,rfl,trivial,h⟩
 | d::ds,es,v::vs,h=>by
  obtain⟨us,ts,rfl,h1,h2⟩:=LD.split h.2
  exact⟨v::us,ts,rfl,⟨h.1,h1⟩,h2⟩
 | _::_,_,[],h=>h.elim
theorem LD.single{d:DV}(h:VD w pr v d):LD w pr [v] [d]:=⟨h,trivial⟩
theorem LD.tN{d:DV}(h:LD w pr [v] [d]):VD w pr v d:=h.1
variable{b:Bool}{l:J UInt8}
theorem VD.fT{k:eH}{n:Int}(h:VD w pr v (.int k n)):v=.int k n:=by cases h;rfl
theorem VD.mu(h:VD w pr v (.bool b)):v=.bool b:=by cases h;rfl
theorem VD.iq(h:VD w pr v (.str l)):v=mkStr l:=by cases h;rfl
variable{G:bx}
theorem VT.fT{k:eH}{n:Int}(h:VT E w G (.dat (.int k) n) v):v=.int k n:=h.tN.fT
theorem VT.mu(h:VT E w G (.dat .bool b) v):v=.bool b:=h.tN.mu
theorem VT.iq(h:VT E w G (.dat .str l) v):v=mkStr l:=h.tN.iq
theorem VT.int(w:U)(G:bx)(k:eH)(n:Int):VT E w G (.dat (.int k) n) (.int k n):=.single (.int k n)
theorem VT.bool(w:U)(G:bx)(b:Bool):VT E w G (.dat .bool b) (.bool b):=.single (.bool b)
theorem VT.str(w:U)(G:bx)(l:J UInt8):VT E w G (.dat .str l) (mkStr l):=.single (.str l)
def TV.Kj:Value->TV E
 | .int k n=>.dat (.int k) n
 | .bool b=>.dat .bool b
 | .string s=>.dat .str s.data.toList
 | v=>.val v
theorem aar(w:U)(G:bx)(v:Value):VT E w G (TV.Kj v) v:=by
 cases v<;>first|exact .int _ _ _ _|exact .bool _ _ _|exact .str w G _|(simp[TV.Kj,VT])
def TS.at(st:TS E)(i:Nat):TV E:=st.t.getD i .any
def TS.ev(st:TS E):dB->TV E
 | .tmp t=>st.at t
 | .const v=>.Kj v
 | .global _=>.any
 | .func f=>.func (.func f) []
def cz(l:J (TV E))(dst:O Nat)(d:TV E):J (TV E):=
 match dst with
 | some i=>l.set i d
 | none=>l
def N4:J (Nat×Cn E)->Nat->Bool
 | [],_=>UV
 | p::cs,j=>ST p.1 j||N4 cs j
theorem Li:∀ {cs:J (Nat×Cn E)}{j:Nat},N4 cs j=UV->∀c,(j,c)∉cs
 | [],j,_,c,h=>by cases h
 | p::cs,j,hs,c,h=>by
  simp[N4]at hs;rcases iy.1 h with h|h
  ·rw[<-h,NF]at hs;cases hs.1
  ·exact Li hs.2 c h
def oQ:J (Nat×Cn E)->Nat->O (Cn E)
 | [],_=>WP
 | p::cs,j=>cond (ST p.1 j) (W0 p.2) (oQ cs j)
theorem Sv:∀ {cs:J (Nat×Cn E)}{j:Nat}{c:Cn E},oQ cs j=W0 c->(j,c)∈cs
 | [],j,c,h=>by cases h
 | p::cs,j,c,h=>by
  simp[oQ]at h;cases hb:ST p.1 j<;>rw[hb]at h<;>simp at h
  ·exact ku _ (Sv h)
  ·cases h
   have:=eM hb;subst this;simp
def nK(j:Nat):J (Nat×Cn E)->J (Nat×Cn E)
 | []=>[]
 | p::cs=>cond (ST p.1 j) (nK j cs) (p::nK j cs)
theorem tO{j:Nat}:∀ {cs:J (Nat×Cn E)}{i:Nat}{c:Cn E},(i,c)∈nK j cs->(i,c)∈cs/\i≠j
 | [],i,c,h=>by cases h
 | p::cs,i,c,h=>by
  simp[nK]at h;cases hb:ST p.1 j<;>rw[hb]at h<;>simp only[aY,aM]at h
  ·rcases iy.1 h with h|h
   ·refine⟨by rw[h];simp,λe=>?_⟩
    rw[<-h]at hb;rw[e,NF]at hb;cases hb
   ·exact⟨ku _ (tO h).1,(tO h).2⟩
  ·exact⟨ku _ (tO h).1,(tO h).2⟩
variable{w0:U}{G0:bx}{st:TS E}{a:Act}{d:TV E}
theorem Rel.ev(h:Rel E w0 G0 st a w G)(x:dB):VT E w G (st.ev x) (a.eval x):=by
 cases x with
 | tmp t=>
  simp[TS.ev,TS.at]
  cases ht:st.t[t]? with
  | none=>simp_all[VT]
  | some d=>exact h.tmps t d ht
 | const v=>exact aar w G v
 | global g=>simp[TS.ev,VT]
 | func f=>
  exact⟨#[],rfl,by simp[bI]⟩
theorem Lj(a:Act)(dst:O Nat)(v:Value):(a.put dst v).tmps.size=a.tmps.size:=by cases dst<;>simp[Act.put]
theorem put_defers(a:Act)(dst:O Nat)(v:Value):(a.put dst v).defers=a.defers:=by cases dst<;>simp[Act.put]
theorem CI(a:Act)(dst:O Nat)(v:Value)(j:Nat):(a.put dst v).tmps.getD j undef=if dst=W0 j/\j<a.tmps.size then v else a.tmps.getD j undef:=by
 cases dst with
 | none=>simp[Act.put]
 | some i=>
  simp[Act.put]
  grind
theorem Rel.put(h:Rel E w0 G0 st a w G)(hv:VT E w G d v)(dst:O Nat):
  Rel E w0 G0 {st with t:=cz st.t dst d} (a.put dst v) w G:=by
 refine⟨h.ff,?_,?_,?_,h.boxes,h.fix,h.pins,h.gv⟩
 ·rw[Lj,h.size];cases dst<;>simp[cz]
 ·intro j d' hj
  rw[CI,h.size]
  cases dst with
  | none=>
   exact h.tmps j d' hj
  | some i=>
   simp[cz,PG]at hj;by_cases hij:i=j
   ·simp_all
   ·rw[if_neg (by simp[hij])]
    rw[if_neg hij]at hj;exact h.tmps j d' hj
 ·rw[put_defers];exact h.defers
structure TI where
 kind:TypeDesc
 size:Nat
 bytes:Nat
 zero:Value
def aV(P:bh)(t:aK):O TI:=
 match P.info? t,P.underlying t with
 | some i,W0 d=>match i.zero with
  | some z=>W0 ⟨d,i.size,i.bytes,z⟩
  | none=>WP
 | _,_=>WP
variable{P:bh}{t:aK}
theorem aP{x:TI}(h:aV P t=W0 x):
  ∃i,P.info? t=W0 i/\P.underlying t=W0 x.kind/\i.size=x.size/\i.bytes=x.bytes/\i.zero=W0 x.zero:=by
 grind[aV]
def TI.isAgg(i:TI):Bool:=match i.kind with | .struct _=>WF | .array _ _=>WF|_=>UV
def fh(w w':U):Prop:=w.heap.size<=w'.heap.size/\∀b,b<w.heap.size->w'.heap[b]? = w.heap[b]?
theorem fh.refl(w:U):fh w w:=⟨eu _,λ_ _=>rfl⟩
theorem fh.cell{w':U}(h:fh w w'){a:Addr}(hv:w.cell? a=W0 v):w'.cell? a=W0 v:=
 (PU (h.2 a.block (ae4 w a hv))).trans hv
theorem aS{d:TypeDesc}(h:P.underlying t=W0 d)(w:U):(underlying t).run P w=.ok d w:=by
 simp[underlying,h]
theorem Mw{i:TypeInfo}(h:P.info? t=W0 i)(w:U):(typeInfo t).run P w=.ok i w:=by
 simp[typeInfo,h]
theorem fu{i:TypeInfo}(h:P.info? t=W0 i)(w:U):(sizeOf t).run P w=.ok i.size w:=by
 simp[sizeOf,Mw h]
variable{i:TI}
theorem TQ(h:aV P t=W0 i)(w:U):(isAgg t).run P w=.ok i.isAgg w:=by
 obtain⟨x,hx,hu,-⟩:=aP h;unfold isAgg;simp[aS hu];unfold TI.isAgg;cases i.kind<;>rfl
theorem nt(h:aV P t=W0 i)(w:U):(zeroValue t).run P w=.ok i.zero w:=by
 obtain⟨x,hx,hu,-,-,hz⟩:=aP h;simp[zeroValue,Mw hx,hz]
theorem add_lit(b o n:Nat):(⟨b,o,WP⟩:Addr).add n=⟨b,o+n,WP⟩:=by
 unfold Addr.add;split<;>simp_all
theorem mL(ht:aV P t=W0 i)(b o n:Nat)(c:Nat->Value)
  (hc:∀l,l<n->w.cell? ⟨b,o+l,WP⟩=W0 (c l)) (off:Nat) (h:cond i.isAgg (off+i.size<=n) (off<n)) (w':U) (hs:fh w w') :
  (Instr.loadAt t (.pointer (W0 ⟨b,o+off,WP⟩))).run P w' =
   .ok (cond i.isAgg (.agg ((R0 i.size).map λl=>c (off+l)).toArray) (c off)) w':=by
 obtain⟨x,hx,hu,hsz,-⟩:=aP ht;unfold Instr.loadAt Instr.sureAddr loadVar;simp[TQ ht];cases hag:i.isAgg
 ·simp[hag]at h
  have hcell:=hs.cell (hc off h);simp[hcell]
 ·simp[hag]at h
  simp[fu hx,hsz]
  have:=run_loadCells (P:=P) w' ⟨b,o+off,WP⟩ i.size (λl=>c (off+l)) (λj hj=>by
   rw[add_lit];have:=hs.cell (hc (off+j) om)
   grind)
  rw[this];simp
def rq{R:Type}(b:Bool)(k:O R):O R:=cond b k WP
theorem dX{R:Type}{k:O R}{r:R}(h:rq b k=W0 r):b=WF/\k=W0 r:=by
 cases b
 ·cases h
 ·exact⟨rfl,h⟩
def sX(a:Int)(f:Int->Int):Int:=match a with
 | .ofNat n=>f (.ofNat n)
 | .negSucc n=>f (.negSucc n)
theorem xN(a:Int)(f:Int->Int):sX a f=f a:=by cases a<;>rfl
def aas(k:eH)(a b:Int):Int:=k.wrap (a*2^(min b.toNat k.bits))
def V5(k:eH)(a b:Int):Int:=sX a λa=>a.fdiv (2^(min b.toNat k.bits))
def nT(k:eH)(a b:Int):Int:=sX a λa=>sX b λb=>k.wrap (Rd k.bits a &&& Rd k.bits b).toNat
def Rq(k:eH)(a b:Int):Int:=sX a λa=>sX b λb=>k.wrap (Rd k.bits a ||| Rd k.bits b).toNat
def Sw(k:eH)(a b:Int):Int:=sX a λa=>sX b λb=>k.wrap (Rd k.bits a ^^^ Rd k.bits b).toNat
def V6(k:eH)(a b:Int):Int:=sX a λa=>sX b λb=>k.wrap (Rd k.bits a &&& ~~~ Rd k.bits b).toNat
def V7(k:eH)(n:Int):Int:=sX n λn=>k.wrap (Rd k.bits (if k.signed then -1 else k.max) ^^^ Rd k.bits n).toNat
theorem adZ(k:eH)(a b:Int):V5 k a b=a.fdiv (2^(min b.toNat k.bits)):=xN _ _
theorem V8(k:eH)(a b:Int):nT k a b=k.wrap (Rd k.bits a &&& Rd k.bits b).toNat:=by grind[nT,xN]
theorem ahR(k:eH)(a b:Int):Rq k a b=k.wrap (Rd k.bits a ||| Rd k.bits b).toNat:=by grind[Rq,xN]
theorem ad1(k:eH)(a b:Int):Sw k a b=k.wrap (Rd k.bits a ^^^ Rd k.bits b).toNat:=by grind[Sw,xN]
theorem afC(k:eH)(a b:Int):V6 k a b=k.wrap (Rd k.bits a &&& ~~~ Rd k.bits b).toNat:=by simp_all[V6,xN]
theorem V9(k:eH)(n:Int):V7 k n=k.wrap (Rd k.bits (if k.signed then -1 else k.max) ^^^ Rd k.bits n).toNat:=xN _ _
def aj4(op:BinOp)(x y:TV E):O (Bool×TV E):=
 match x,y with
 | .dat (.int k) a,.dat (.int k') b=>
  match op with
  | .shl=>W0 (T1 (0<=b),.dat (.int k) (aas k a b))
  | .shr=>W0 (T1 (0<=b),.dat (.int k) (V5 k a b))
  | .add=>W0 (T1 (k=k'),.dat (.int k) (k.wrap (a+b)))
  | .sub=>W0 (T1 (k=k'),.dat (.int k) (k.wrap (a-b)))
  | .mul=>W0 (T1 (k=k'),.dat (.int k) (k.wrap (a*b)))
  | .quo=>W0 (T1 (k=k') && !(b==0),.dat (.int k) (k.wrap (a.tdiv b)))
  | .rem=>W0 (T1 (k=k') && !(b==0),.dat (.int k) (a.tmod b))
  | .and=>W0 (T1 (k=k'),.dat (.int k) (nT k a b))
  | .or=>W0 (T1 (k=k'),.dat (.int k) (Rq k a b))
  | .xor=>W0 (T1 (k=k'),.dat (.int k) (Sw k a b))
  | .andNot=>W0 (T1 (k=k'),.dat (.int k) (V6 k a b))
  | .eql=>W0 (T1 (k=k'),.dat .bool (a==b))
  | .neq=>W0 (T1 (k=k'),.dat .bool (a != b))
  | .lss=>W0 (T1 (k=k'),.dat .bool (T1 (a<b)))
  | .leq=>W0 (T1 (k=k'),.dat .bool (T1 (a<=b)))
  | .gtr=>W0 (T1 (k=k'),.dat .bool (T1 (b<a)))
  | .geq=>W0 (T1 (k=k'),.dat .bool (T1 (b<=a)))
 | .dat .str a,.dat .str b=>
  match op with
  | .add=>W0 (T1 (a.length+b.length<=9223372036854775807),.dat .str (a++b))
  | .eql=>W0 (WF,.dat .bool (a==b))
  | .neq=>W0 (WF,.dat .bool (!(a==b)))
  | .lss=>W0 (WF,.dat .bool (Op.bytesLess a b))
  | .leq=>W0 (WF,.dat .bool (Op.bytesLess a b||a==b))
  | .gtr=>W0 (WF,.dat .bool (!(Op.bytesLess a b||a==b)))
  | .geq=>W0 (WF,.dat .bool (!(Op.bytesLess a b)))
  | _=>WP
 | _,_=>WP
theorem afD{op:BinOp}{x y:dB}{u:Value}{du dv:TV E}{c:Bool}
  (hu:VT E w G du u) (hv:VT E w G dv v) (h:aj4 op du dv=W0 (c,d)) (Mq:c=WF) :
  ∃r,VT E w G d r/\∀w',(do eqGuard op t x y u v;binOp op t u v).run P w'=.ok r w':=by
 subst Mq;unfold aj4 at h;split at h
 ·rename_i k a k' b
  obtain rfl:=hu.fT;obtain rfl:=hv.fT;have hg:∀w',(eqGuard op t x y (.int k a) (.int k' b)).run P w'=.ok () w':=λw'=>by cases op<;>rfl
  cases op<;>simp at h<;>obtain⟨Mq,rfl⟩:=h
  case shl=>exact⟨_,.int _ _ _ _,λw'=>by simp[aas,hg,binOp,Op.shift,show ¬ b<0 from Int.not_lt.2 Mq]⟩
  case shr=>exact⟨_,.int _ _ _ _,λw'=>by simp[adZ,hg,binOp,Op.shift,show ¬ b<0 from Int.not_lt.2 Mq]⟩
  case quo=>obtain⟨rfl,hb⟩:=Mq;have hb:b≠0:=by simpa using hb
            exact⟨_,.int _ _ _ _,λw'=>by simp[hg,binOp,Op.intDiv,hb]⟩
  case rem=>obtain⟨rfl,hb⟩:=Mq;have hb:b≠0:=by simpa using hb
            exact⟨_,.int _ _ _ _,λw'=>by simp[hg,binOp,Op.intDiv,hb]⟩
  all_goals
   subst Mq
   first
    | exact⟨_,.int _ _ _ _,λw'=>by simp;rfl⟩
    | exact⟨_,.int _ _ _ _,λw'=>by simp only[binOp,ne_eq,V8,ahR,ad1,afC];rfl⟩
    | exact⟨_,.bool _ _ _,λw'=>by simp[hg,binOp,Op.intCmp]⟩
 ·rename_i a b
  obtain rfl:=hu.iq;obtain rfl:=hv.iq
  have hb:∀w',(do eqGuard op t x y (mkStr a) (mkStr b);binOp op t (mkStr a) (mkStr b)).run P w'=(Op.stringOp op ⟨⟨a⟩⟩ ⟨⟨b⟩⟩).run P w':=λw'=>by
   cases op<;>rfl
  simp[hb];cases op<;>simp at h<;>obtain⟨Mq,rfl⟩:=h
  case add=>
   refine⟨_,.str _ _ _,λw'=>?_⟩;have hsz:∀l:J UInt8,(ByteArray.mk ⟨l⟩).size=l.length:=λl=>rfl
   have:¬ (((⟨⟨a⟩⟩:ByteArray).size+(⟨⟨b⟩⟩:ByteArray).size:Nat):Int)>IntKind.i64.max:=by
    rw[hsz,hsz];have:IntKind.i64.max=9223372036854775807:=by decide
    rw[this];omega
   simp only[Op.stringOp,this];rfl
  all_goals exact⟨_,.bool _ _ _,λw'=>by simp[Op.stringOp]⟩
 ·cases h
def TR:Op->Bool
 | .load _ _=>WF
 | _=>UV
def It(o:Oper)(w w':U):Prop:=TR o.op=WF->fh w w'
theorem It.refl(o:Oper)(w:U):It o w w:=λ_=>fh.refl w
def jB(P:bh)(a:Act)(w:U)(G:bx)(o:Oper)(d:TV E):Prop:=
 ∃v,VT E w G d v/\∀w',It o w w'->(execOp a.eval o).run P w'=.ok (.value v) w'
variable{o:Oper}
theorem aat(hr:Rel E w0 G0 st a w G)(x:dB)(ho:o.op=.move x\/o.op=.assign x):jB P a w G o (st.ev x):=
 ⟨a.eval x,hr.ev x,λw' _=>by rcases ho with ho|ho<;>simp[execOp,ho]⟩
theorem fU{f:(dB->Value)->Sem Value}(he:execOp a.eval o=(do let x <-f a.eval;pure (.value x)))
  (h:∃v,VT E w G d v/\∀w',It o w w'->(f a.eval).run P w'=.ok v w'):jB P a w G o d:=by
 obtain⟨v,hv,h⟩:=h;exact⟨v,hv,λw' hs=>by simp[he,h w' hs]⟩
def Part(E:TEnv)(w:U)(G:bx)(vs:J Value)(agg:Bool)(size off:Nat)(d:TV E):Prop:=
 cond agg (off+size<=vs.length/\VT E w G d (.agg ((vs.drop off).take size).toArray)) (∃u,vs[off]? = W0 u/\VT E w G d u)
def Wa(E:TEnv)(f:(i:Nat)->E.D i->Bool->Nat->Nat->O (TV E)):(t:Ty)->t.den E.D->Bool->Nat->Nat->O (TV E)
 | .pair a b,x,agg,size,off=>cond (So off (a.size E))
   (cond (ST off 0&&ST size (a.size E)&&(agg==a.isAgg)) (W0 (.dat a x.1)) (Wa E f a x.1 agg size off))
   (Wa E f b x.2 agg size (off-a.size E))
 | .ext i,x,agg,size,off=>f i x agg size off
 | _,_,_,_,_=>WP
def aj5(E:TEnv):Nat->(t:Ty)->t.den E.D->Bool->Nat->Nat->O (TV E)
 | 0=>Wa E λ_ _ _ _ _=>WP
 | n+1=>Wa E λi x=>aj5 E n (E.df i) (E.AV i x)
def TV.part(t:Ty)(x:t.den E.D)(agg:Bool)(size off:Nat):O (TV E):=
 cond (ST off 0&&ST size (t.size E)&&(agg==t.isAgg)) (W0 (.dat t x)) (aj5 E 4 t x agg size off)
variable{vs us ts:J Value}{agg:Bool}{off:Nat}
theorem Ty.ahS{t:Ty}(h:t.isAgg=UV):t.size E=1:=by
 cases t<;>first|rfl|cases h
theorem Part.whole(hE:E.Ok){t:Ty}{x:t.den E.D}(h:LD w G.pr vs (t.cells E x)):Part E w G vs t.isAgg (t.size E) 0 (.dat t x):=by
 have hl:=h.length;rw[Ty.AX E hE]at hl;unfold Part;cases ha:t.isAgg
 ·rw[Ty.ahS ha]at hl
  obtain⟨u,rfl⟩:=Y9.1 hl
  simp_all[VT]
 grind[VT]
theorem Part.left{size:Nat}(h:Part E w G us agg size off d):Part E w G (us++ts) agg size off d:=by
 grind[Part]
theorem Part.right{size n:Nat}(hn:us.length=n)(ho:n<=off)(h:Part E w G ts agg size (off-n) d):Part E w G (us++ts) agg size off d:=by
 grind[Part,List.drop_append,List.drop_eq_nil_of_le]
theorem TT(hE:E.Ok){f:(i:Nat)->E.D i->Bool->Nat->Nat->O (TV E)}
  (hf:∀i x agg size off d vs,LD w G.pr vs (E.enc i x)->f i x agg size off=W0 d->Part E w G vs agg size off d) :
  ∀(t:Ty)(x:t.den E.D){agg:Bool}{size off:Nat}{d:TV E}{vs:J Value},LD w G.pr vs (t.cells E x)->Wa E f t x agg size off=W0 d->Part E w G vs agg size off d:=by
 intro t
 induction t with
 | int k=>intro x _ _ _ _ _ _ h;cases h
 | bool=>intro x _ _ _ _ _ _ h;cases h
 | str=>intro x _ _ _ _ _ _ h;cases h
 | bq t _=>intro x _ _ _ _ _ _ h;cases h
 | unit=>intro x _ _ _ _ _ _ h;cases h
 | ext i=>intro x agg size off d vs hv h;exact hf i x agg size off d vs hv h
 | pair a b ES ET=>
  intro x agg size off d vs hv h;obtain⟨us,ts,rfl,h1,h2⟩:=hv.split;have hl:=h1.length;rw[Ty.AX E hE]at hl;simp[Wa]at h;cases hb:So off (a.size E)<;>rw[hb]at h<;>simp at h
  ·have ho:a.size E<=off:=by
    grind[Nat.blt_eq]
   exact(ET x.2 h2 h).right hl ho
  ·cases hc:(ST off 0&&ST size (a.size E)&&(agg==a.isAgg))<;>rw[hc]at h<;>simp at h
   ·exact(ES x.1 h1 h).left
   ·cases h
    simp only[cH,p7]at hc;obtain⟨⟨e1,e2⟩,rfl⟩:=hc;rw[eM e1,eM e2];exact(Part.whole hE h1).left
theorem TU(hE:E.Ok):∀(n:Nat)(t:Ty)(x:t.den E.D){agg:Bool}{size off:Nat}{d:TV E}{vs:J Value},
  LD w G.pr vs (t.cells E x)->aj5 E n t x agg size off=W0 d->Part E w G vs agg size off d
 | 0,t,x,_,_,_,_,_,hv,h=>TT hE (λ_ _ _ _ _ _ _ _ h=>by cases h) t x hv h
 | n+1,t,x,_,_,_,_,_,hv,h=>TT hE (λi x agg size off d vs hv h=>by
   rw[hE.enc]at hv;exact TU hE n (E.df i) (E.AV i x) hv h) t x hv h
theorem Ll(hE:E.Ok){t:Ty}{x:t.den E.D}{size:Nat}
  (hv:LD w G.pr vs (t.cells E x)) (h:TV.part t x agg size off=W0 d):Part E w G vs agg size off d:=by
 unfold TV.part at h;cases hc:(ST off 0&&ST size (t.size E)&&(agg==t.isAgg))<;>rw[hc]at h<;>simp at h
 ·grind[TU]
 ·cases h
  simp_all[p7,Part.whole]
def TV.get(t:Ty):TV E->O (t.den E.D)
 | .dat t' x=>if h:t'=t then W0 (h▸x)else WP
 | .cA _ _ t' xs=>if h:Ty.bq t'=t then W0 (h▸xs)else WP
 | .val (.slice WP 0 0)=>match t with
  | .bq _=>W0 []
  | _=>WP
 | _=>WP
theorem TV.uJ{t:Ty}{x:t.den E.D}(h:d.get t=W0 x)(hv:VT E w G d v):VT E w G (.dat t x) v:=by
 unfold TV.get at h;split at h
 ·grind
 ·split at h
  ·rename_i e
   subst e;cases h;exact .single hv.1
  ·cases h
 ·split at h
  ·cases h
   subst hv;exact .single (.vo _ _)
  ·cases h
 ·cases h
def N5(E:TEnv)(f:(i:Nat)->J (TV E)->O (E.D i×J (TV E))):(t:Ty)->J (TV E)->O (t.den E.D×J (TV E))
 | .unit,cs=>W0 ((),cs)
 | .pair a b,cs=>(N5 E f a cs).bind λp=>(N5 E f b p.2).bind λq=>W0 ((p.1,q.1),q.2)
 | .ext i,cs=>f i cs
 | .int k,cs=>match cs with|c::r=>(c.get (.int k)).bind λx=>W0 (x,r) | []=>WP
 | .bool,cs=>match cs with|c::r=>(c.get .bool).bind λx=>W0 (x,r) | []=>WP
 | .str,cs=>match cs with|c::r=>(c.get .str).bind λx=>W0 (x,r) | []=>WP
 | .bq t,cs=>match cs with|c::r=>(c.get (.bq t)).bind λx=>W0 (x,r) | []=>WP
def N6(E:TEnv):Nat->(t:Ty)->J (TV E)->O (t.den E.D×J (TV E))
 | 0=>N5 E λ_ _=>WP
 | n+1=>N5 E λi cs=>(N6 E n (E.df i) cs).bind λp=>W0 (E.fold i p.1,p.2)
variable{ds:J (TV E)}
theorem bI.nil:bI E w G [] []:=by simp[bI]
theorem bI.cons(h:VT E w G d v)(h':bI E w G ds vs):bI E w G (d::ds) (v::vs):=by
 grind[bI]
theorem bI.cons_inv(h:bI E w G (d::ds) vs):∃u us,vs=u::us/\VT E w G d u/\bI E w G ds us:=by
 simpa only[bI]using h
theorem bI.length:∀ {ds:J (TV E)}{vs:J Value},bI E w G ds vs->vs.length=ds.length
 | [],_,h=>by simp_all[bI]
 | d::ds,vs,h=>by
  obtain⟨u,us,rfl,-,h⟩:=h.cons_inv;simp[h.length]
theorem bI.append:∀ {ds es:J (TV E)}{vs us:J Value},bI E w G ds vs->bI E w G es us->bI E w G (ds++es) (vs++us)
 | [],es,vs,us,h,h'=>by simp_all[bI]
 | d::ds,es,vs,us,h,h'=>by
  obtain⟨u,us',rfl,h1,h2⟩:=h.cons_inv;exact .cons h1 (h2.append h')
theorem bI.get:∀ {ds:J (TV E)}{vs:J Value}(j:Nat){d:TV E},bI E w G ds vs->ds[j]? = W0 d->∃u,vs[j]? = W0 u/\VT E w G d u
 | [],_,_,_,_,h=>by simp at h
 | d::ds,vs,0,d',h,hj=>by
  obtain⟨u,us,rfl,h1,-⟩:=h.cons_inv
  simp_all
 | d::ds,vs,j+1,d',h,hj=>by
  obtain⟨u,us,rfl,-,h2⟩:=h.cons_inv;exact bI.get j h2 (by simpa using hj)
theorem bI.drop:∀(n:Nat){ds:J (TV E)}{vs:J Value},bI E w G ds vs->bI E w G (ds.drop n) (vs.drop n)
 | 0,_,_,h=>h
 | n+1,[],_,h=>by simp_all[bI]
 | n+1,d::ds,vs,h=>by
  obtain⟨u,us,rfl,-,h2⟩:=h.cons_inv;exact bI.drop n h2
theorem bI.take:∀(n:Nat){ds:J (TV E)}{vs:J Value},bI E w G ds vs->bI E w G (ds.take n) (vs.take n)
 | 0,_,_,h=>bI.nil
 | n+1,[],_,h=>by simp_all[bI]
 | n+1,d::ds,vs,h=>by
  obtain⟨u,us,rfl,h1,h2⟩:=h.cons_inv;exact .cons h1 (bI.take n h2)
theorem VT.atom{t:Ty}{x:t.den E.D}(ha:t.isAgg=UV)(h:VT E w G (.dat t x) v):LD w G.pr [v] (t.cells E x):=by
 simp_all[VT]
theorem VT.Qg{t:Ty}{x:t.den E.D}(ha:t.isAgg=UV)(h:LD w G.pr [v] (t.cells E x)):VT E w G (.dat t x) v:=by
 simp_all[VT]
theorem VT.afE{t:Ty}{x:t.den E.D}(ha:t.isAgg=WF)(h:VT E w G (.dat t x) v):∃vs:aJ Value,v=.agg vs/\LD w G.pr vs.toList (t.cells E x):=by
 simp_all[VT]
theorem TW{f:(i:Nat)->J (TV E)->Option (E.D i×J (TV E))}
  (hf:∀i cs x r vs,bI E w G cs vs->f i cs=W0 (x,r)->∃us ts,vs=us++ts/\LD w G.pr us (E.enc i x)/\bI E w G r ts) :
  ∀(t:Ty){cs:J (TV E)}{x:t.den E.D}{r:J (TV E)}{vs:J Value},bI E w G cs vs->N5 E f t cs=W0 (x,r) ->
   ∃us ts,vs=us++ts/\LD w G.pr us (t.cells E x)/\bI E w G r ts:=by
 have atom:∀(t:Ty)(ha:t.isAgg=UV){cs:J (TV E)}{x:t.den E.D}{r:J (TV E)}{vs:J Value},bI E w G cs vs ->
   (match cs with|c::r=>(c.get t).bind λx=>W0 (x,r) | []=>WP)=W0 (x,r)->∃us ts,vs=us++ts/\LD w G.pr us (t.cells E x)/\bI E w G r ts:=by
  intro t ha cs x r vs hv h
  cases cs with
  | nil=>cases h
  | cons c cs=>
   obtain⟨u,us,rfl,h1,h2⟩:=hv.cons_inv;dsimp only at h
   cases hc:c.get t with
   | none=>rw[hc]at h;cases h
   | some y=>
    rw[hc]at h;cases h;exact⟨[u],us,rfl,(TV.uJ hc h1).atom ha,h2⟩
 intro t
 induction t with
 | int k=>intro cs x r vs hv h;exact atom (.int k) rfl hv h
 | bool=>intro cs x r vs hv h;exact atom .bool rfl hv h
 | str=>intro cs x r vs hv h;exact atom .str rfl hv h
 | bq t _=>intro cs x r vs hv h;exact atom (.bq t) rfl hv h
 | unit=>intro cs x r vs hv h;cases h;exact⟨[],vs,rfl,trivial,hv⟩
 | ext i=>intro cs x r vs hv h;exact hf i cs x r vs hv h
 | pair a b ES ET=>
  intro cs x r vs hv h;simp[N5]at h
  cases h1:N5 E f a cs with
  | none=>rw[h1]at h;cases h
  | some p=>
   obtain⟨y,r1⟩:=p;rw[h1]at h;dsimp at h
   cases h2:N5 E f b r1 with
   | none=>rw[h2]at h;cases h
   | some q=>
    rw[h2]at h;cases h;obtain⟨us,ts,rfl,hu,ht⟩:=ES hv h1;obtain⟨us',ts',rfl,hu',ht'⟩:=ET ht h2;exact⟨us++us',ts',si,hu.append hu',ht'⟩
theorem A9(hE:E.Ok):∀(n:Nat)(t:Ty){cs:J (TV E)}{x:t.den E.D}{r:J (TV E)}{vs:J Value},bI E w G cs vs->N6 E n t cs=W0 (x,r) ->
   ∃us ts,vs=us++ts/\LD w G.pr us (t.cells E x)/\bI E w G r ts
 | 0,t,_,_,_,_,hv,h=>TW (λ_ _ _ _ _ _ h=>by cases h) t hv h
 | n+1,t,_,_,_,_,hv,h=>TW (λi cs x r vs hv h=>by
   cases h1:N6 E n (E.df i) cs with
   | none=>rw[h1]at h;cases h
   | some p=>
    rw[h1]at h;cases h;obtain⟨us,ts,e,h2,h3⟩:=A9 hE n (E.df i) hv h1;refine⟨us,ts,e,?_,h3⟩;rw[hE.enc,hE.fold];exact h2) t hv h
def Ba(E:TEnv)(f:(i:Nat)->E.D i->O (J (TV E))):(t:Ty)->t.den E.D->O (J (TV E))
 | .unit,_=>W0 []
 | .pair a b,x=>(Ba E f a x.1).bind λl=>(Ba E f b x.2).bind λm=>W0 (l++m)
 | .ext i,x=>f i x
 | .int k,x=>W0 [.dat (.int k) x]
 | .bool,x=>W0 [.dat .bool x]
 | .str,x=>W0 [.dat .str x]
 | .bq t,x=>W0 [.dat (.bq t) x]
def Iu(E:TEnv):Nat->(t:Ty)->t.den E.D->O (J (TV E))
 | 0=>Ba E λ_ _=>WP
 | n+1=>Ba E λi x=>Iu E n (E.df i) (E.AV i x)
def TV.o8:TV E->O (J (TV E))
 | .dat t x=>cond t.isAgg (Iu E 4 t x) (W0 [.dat t x])
 | .agg cs=>W0 cs
 | .sV t x off=>W0 [.sV t x off]
 | .ptr r off=>W0 [.ptr r off]
 | .qj c r off=>W0 [.qj c r off]
 | .jy r=>W0 [.jy r]
 | .uI r=>W0 [.uI r]
 | .iz _ _ _=>WP
 | .cA j aF t xs=>W0 [.cA j aF t xs]
 | .Ro _ _ _=>WP
 | .eA j aF=>W0 [.eA j aF]
 | .iC j aF k i off=>W0 [.iC j aF k i off]
 | .uk _ _=>WP
 | .func fn caps=>W0 [.func fn caps]
 | .GN fn fs=>W0 [.GN fn fs]
 | .iface ty d=>W0 [.iface ty d]
 | .val v=>cond v.oneCell' (W0 [.val v]) WP
 | .any=>WP
 | .tuple _=>WP
variable{cs:J (TV E)}
theorem Rr{f:(i:Nat)->E.D i->O (J (TV E))}(hf:∀i x cs vs,LD w G.pr vs (E.enc i x)->f i x=W0 cs->bI E w G cs vs):
  ∀(t:Ty)(x:t.den E.D){cs:J (TV E)}{vs:J Value},LD w G.pr vs (t.cells E x)->Ba E f t x=W0 cs->bI E w G cs vs:=by
 have atom:∀(t:Ty)(ha:t.isAgg=UV)(hl:∀x,(t.cells E x).length=1)(x:t.den E.D){cs:J (TV E)}{vs:J Value},LD w G.pr vs (t.cells E x)->W0 [TV.dat t x]=W0 cs->bI E w G cs vs:=by
  intro t ha hl x cs vs hv h;cases h;have:=hv.length;rw[hl]at this;obtain⟨u,rfl⟩:=Y9.1 this;exact .cons (.Qg ha hv) .nil
 intro t
 induction t with
 | int k=>intro x cs vs hv h;exact atom (.int k) rfl (λ_=>rfl) x hv h
 | bool=>intro x cs vs hv h;exact atom .bool rfl (λ_=>rfl) x hv h
 | str=>intro x cs vs hv h;exact atom .str rfl (λ_=>rfl) x hv h
 | bq t _=>intro x cs vs hv h;exact atom (.bq t) rfl (λ_=>rfl) x hv h
 | unit=>intro x cs vs hv h;cases h;cases vs with|nil=>exact .nil|cons _ _=>exact hv.elim
 | ext i=>intro x cs vs hv h;exact hf i x cs vs hv h
 | pair a b ES ET=>
  intro x cs vs hv h;simp[Ba]at h;obtain⟨us,ts,rfl,h1,h2⟩:=LD.split hv
  cases e1:Ba E f a x.1 with
  | none=>rw[e1]at h;cases h
  | some l=>
   rw[e1]at h
   cases e2:Ba E f b x.2 with
   | none=>rw[e2]at h;cases h
   | some m=>
    rw[e2]at h;cases h;exact(ES x.1 h1 e1).append (ET x.2 h2 e2)
theorem yY(hE:E.Ok):∀(n:Nat)(t:Ty)(x:t.den E.D){cs:J (TV E)}{vs:J Value},LD w G.pr vs (t.cells E x)->Iu E n t x=W0 cs->bI E w G cs vs
 | 0,t,x,_,_,hv,h=>Rr (λ_ _ _ _ _ h=>by cases h) t x hv h
 | n+1,t,x,_,_,hv,h=>Rr (λi x cs vs hv h=>by
   rw[hE.enc]at hv;exact yY hE n (E.df i) (E.AV i x) hv h) t x hv h
theorem sY(hE:E.Ok)(hv:VT E w G d v)(h:d.o8=W0 cs):
  bI E w G cs v.cells.toList/\∀u,u∈v.cells->u.oneCell'=WF:=by
 have one:∀ {d:TV E},VT E w G d v->v.oneCell'=WF->v.cells=#[v]->bI E w G [d] v.cells.toList/\∀u,u∈v.cells->u.oneCell'=WF:=by
  intro d hv h1 hc;rw[hc];exact⟨.cons hv .nil,λu hu=>by simp_all⟩
 cases d with
 | any=>cases h
 | tuple ds=>cases h
 | dat t x=>
  simp[TV.o8]at h;cases ha:t.isAgg<;>rw[ha]at h<;>simp at h
  ·cases h
   have h0:=hv.atom ha;have h1:=h0.one v si;refine one hv h1 ?_;cases v<;>first|rfl|cases h1
  ·obtain⟨vs,rfl,h0⟩:=hv.afE ha
   exact⟨yY hE 4 t x h0 h,λu hu=>h0.one u (by simpa[Value.cells]using hu)⟩
 | agg ds=>
  cases h;obtain⟨vs,rfl,h1,h2⟩:=hv
  exact⟨h2,h1⟩
 | sV t x off=>
  cases h;have jz:=hv;obtain⟨b,o,c,rfl,-⟩:=jz
  exact one hv rfl rfl
 | ptr r off=>
  cases h;have jz:=hv;obtain⟨b,rfl,-⟩:=jz
  exact one hv rfl rfl
 | qj c r off=>
  cases h;have jz:=hv;cases c<;>simp[VT]at jz
  ·subst jz;exact one hv rfl rfl
  ·obtain⟨b,rfl,-⟩:=jz
   exact one hv rfl rfl
 | jy r=>
  cases h;have jz:=hv;obtain⟨b,rfl,-⟩:=jz
  exact one hv rfl rfl
 | iz r n cap=>cases h
 | uI r=>
  cases h;have jz:=hv;obtain⟨b,rfl,-⟩:=jz
  exact one hv rfl rfl
 | cA j aF t xs=>
  cases h;have jz:=hv;have h1:=jz.1.one;refine one hv h1 ?_
  cases v<;>first|rfl|cases h1
 | Ro j aF l=>cases h
 | uk t xs=>cases h
 | eA j aF=>
  cases h;have jz:=hv;obtain⟨x,g,-,-,h1,-⟩:=jz;refine one hv h1 ?_
  cases v<;>first|rfl|cases h1
 | iC j aF k i off=>
  cases h;have jz:=hv;obtain⟨x,g,-,-,h1,-⟩:=jz;refine one hv h1 ?_
  cases v<;>first|rfl|cases h1
 | func fn caps=>
  cases h;have jz:=hv;obtain⟨vs,rfl,-⟩:=jz
  exact one hv rfl rfl
 | GN fn fs=>
  cases h;have jz:=hv;obtain⟨vs,rfl,-⟩:=jz
  exact one hv rfl rfl
 | iface ty d=>
  cases h;have jz:=hv;obtain⟨u,rfl,-⟩:=jz
  exact one hv rfl rfl
 | val u=>
  simp[TV.o8]at h;have jz:=hv;subst jz;cases ho:v.oneCell'<;>rw[ho]at h<;>simp only[aY,aM]at h
  ·cases h
  ·cases h
   refine one hv ho ?_;cases v<;>first|rfl|cases ho
def TX(E:TEnv)(ty:Option Ty)(cs:J (TV E))(agg:Bool)(size off:Nat):Option (TV E):=
 cond agg
  (cond (Nat.ble (off+size) cs.length)
   (match ty with
    | none=>W0 (.agg ((cs.drop off).take size))
    | some t=>match N6 E 4 t ((cs.drop off).take size)with
     | some (x,[])=>cond t.isAgg (W0 (.dat t x)) WP
     | _=>W0 (.agg ((cs.drop off).take size)))
   WP)
  cs[off]?
theorem Jy(hE:E.Ok){ty:O Ty}{size:Nat}(hv:bI E w G cs vs)(h1:∀u,u∈vs->u.oneCell'=WF)
  (h:TX E ty cs agg size off=W0 d):Part E w G vs agg size off d:=by
 unfold TX at h;cases agg<;>simp at h⊢
 ·exact hv.get off h
 ·cases hb:Nat.ble (off+size) cs.length<;>rw[hb]at h<;>simp only[aY,aM]at h
  ·cases h
  have hle:=lG hb;refine⟨by rw[hv.length];exact hle,?_⟩;have hp:=(hv.drop off).take size
  have aoS:VT E w G (.agg ((cs.drop off).take size)) (.agg ((vs.drop off).take size).toArray):=by
   grind[VT]
  split at h
  ·cases h;exact aoS
  ·rename_i t
   split at h
   ·cases ha:t.isAgg<;>rw[ha]at h<;>simp only[aY,aM]at h
    ·cases h
    grind[A9,bI,VT]
   ·cases h;exact aoS
end Go.RT
namespace Go.RT
variable {E : TEnv}
variable{P:bh}{w0:U}{G0:bx}{st:TS E}{a:Act}{w:U}{G:bx}{o:Oper}{t:aK}{i:TI}{b off:Nat}{d:TV E}{x:dB}{T:Ty}{y:T.den E.D}{r:Nat}{cs:J (TV E)}{ty:O Ty}
theorem sZ(ht:aV P t=W0 i){o':Nat}{vs:J Value}(hc:∀(l:Nat) u,vs[l]? = W0 u->w.cell? ⟨b,o'+l,WP⟩=W0 u)
   (hp:Part E w G vs i.isAgg i.size off d):∃v,VT E w G d v/\∀w',fh w w'->(Instr.loadAt t (.pointer (W0 ⟨b,o'+off,WP⟩))).run P w'=.ok v w':=by
 have s7:∀l,l<vs.length->w.cell? ⟨b,o'+l,WP⟩=W0 (vs.getD l undef):=λl hl=>by
  simp_all
 unfold Part at hp;cases ha:i.isAgg<;>rw[ha]at hp<;>simp at hp
 ·obtain⟨u,hu,hv⟩:=hp
  refine⟨u,hv,λw' hs=>?_⟩;have hl:=(eY.1 hu).1;rw[mL ht b o' vs.length (λl=>vs.getD l undef) s7 off (by rw[ha];exact hl) w' hs]
  simp_all
 ·obtain⟨hl,hv⟩:=hp
  refine⟨_,hv,λw' hs=>?_⟩;rw[mL ht b o' vs.length (λl=>vs.getD l undef) s7 off (by rw[ha];exact hl) w' hs,ha];simp;apply Au
  ·simp;omega
  grind
theorem Wb(hE:E.Ok)(hr:Rel E w0 G0 st a w G)(ho:o.op=.load t x)(ht:aV P t=W0 i)
     (hd:st.ev x=.sV T y off)  (hp:TV.part T y i.isAgg i.size off=W0 d):jB P a w G o d:=by
 have hv:=hr.ev x;rw[hd]at hv;obtain⟨b,o',c,he,h1,h2⟩:=hv;obtain⟨v,hv,hrun⟩:=sZ ht (λl u hl=>(h2 l u hl).2) (Ll hE h1 hp);refine fU (f:=λρ=>Instr.loadAt t (ρ x)) (by simp[execOp,ho]) ⟨v,hv,λw' hs=>?_⟩;rw[he];exact hrun w' (hs (by rw[ho];rfl))
theorem Rel.box(hr:Rel E w0 G0 st a w G)(hb:G.i[r]? = W0 b){x:fK E}(hx:st.H[r]? = W0 x):jW E w G b x:=hr.boxes.box r b x hb hx
theorem Wc(hE:E.Ok)(hr:Rel E w0 G0 st a w G)(ho:o.op=.load t x)(ht:aV P t=W0 i)
   (hd:st.ev x=.ptr r off) {t':aK}  (hb:st.H[r]? = W0 (.cells t' cs))  
  (hp:TX E ty cs i.isAgg i.size off=W0 d):jB P a w G o d:=by
 have hv:=hr.ev x;rw[hd]at hv;obtain⟨b,he,hat⟩:=hv;obtain⟨vs,hh,h1,h2⟩:=hr.box hat hb
 obtain⟨v,hv,hrun⟩:=sZ (b:=b) (o':=0) ht (λl u hl=>by
  grind[cell_of_row]) (Jy hE h2 (λu hu=>h1 u (by simpa using hu)) hp)
 refine fU (f:=λρ=>Instr.loadAt t (ρ x)) (by simp[execOp,ho]) ⟨v,hv,λw' hs=>?_⟩;rw[he];have:=hrun w' (hs (by rw[ho];rfl));simpa using this
variable{pr:Nat->Nat->Prop}{v:Value}
theorem VD.wG{k:Nat}{es:J (J DV)}(h:VD w pr v (.slice k es)):
  (∃a,v=.slice a 0 0/\es=[])\/∃(b off cap:Nat)(c:Nat->Nat->Value),v=.slice (W0 ⟨b,off,WP⟩) es.length cap/\es.length<=cap /\
   (∀j,j<es.length->(es.getD j []).length=k) /\
   (∀j l,j<es.length->l<k->pr b (off+j*k+l)/\w.cell? ⟨b,off+j*k+l,WP⟩=W0 (c j l)) /\
   (∀j l,j<es.length->l<k->VD w pr (c j l) ((es.getD j []).getD l default)):=by
 cases h with
 | vo a k=>simp_all
 | slice b off cap k es c hc hk h0 h=>exact .inr ⟨b,off,cap,c,rfl,hc,hk,h0,h⟩
inductive s8:TV E->(T:Ty)->List (T.den E.D)->Prop
 | dat (T:Ty) (xs:List (T.den E.D)):s8 (.dat (.bq T) xs) T xs
 | cA (j aF:Nat) (T:Ty) (xs:List (T.den E.D)):s8 (.cA j aF T xs) T xs
variable{xs:J (T.den E.D)}
theorem s8.vd(h:s8 d T xs)(hv:VT E w G d v):
  VD w G.pr v (.slice (T.size E) (xs.map (T.cells E))):=by
 cases h with
 | dat=>exact(hv.atom rfl).tN
 | cA=>simp_all[VT]
theorem VT.list(h:VD w G.pr v (.slice (T.size E) (xs.map (T.cells E)))):VT E w G (.dat (.bq T) xs) v:=
 .Qg rfl (.single h)
theorem LD.Wd{w:U}{pr:Nat->Nat->Prop}:∀ {vs:J Value}{ds:J DV},vs.length=ds.length->(∀l,l<ds.length->VD w pr (vs.getD l undef) (ds.getD l default))->LD w pr vs ds
 | [],[],_,_=>trivial
 | v::vs,d::ds,hl,h=>⟨by simpa using h 0 si,LD.Wd (by simpa using hl) λl hl'=>by simpa using h (l+1) (by simpa using hl')⟩
 | [],_::_,hl,_=>by simp at hl
 | _::_,[],hl,_=>by simp at hl
variable{ix:dB}{e:aK}{j1 j2:Nat}{z:Value}{kd:eH}{n:Int}{l:J UInt8}{fs:aJ Field}
theorem acR(hr:Rel E w0 G0 st a w G)(ho:o.op=.indexAddr t x ix)
  (ht:aV P t=W0 ⟨.slice e,j1,j2,z⟩) (hi:aV P e=W0 i)     (hd:s8 (st.ev x) T xs)
  (hdi:st.ev ix=.dat (.int kd) n) (h0:0<=n) (hn:n<xs.length) (hk:i.size=T.size E):jB P a w G o (.sV T (xs.getD n.toNat (T.dflt E)) 0):=by
 have hv:=hd.vd (hr.ev x);have DI:=hr.ev ix;rw[hdi]at DI;have TY:=DI.fT;have hnl:n.toNat<xs.length:=om;rcases hv.wG with⟨-,-,hnil⟩|⟨b,off,cap,c,he,hcap,hkk,hc,h⟩
 ·simp at hnil;subst hnil;simp at hnl
 have hes:(xs.map (T.cells E)).getD n.toNat []=T.cells E (xs.getD n.toNat (T.dflt E)):=by
  simp[hnl]
 have hlen:(xs.map (T.cells E)).length=xs.length:=by simp
 rw[hlen]at hcap hkk hc h he;obtain⟨xe,qI,Bb,hsz,-⟩:=aP hi;obtain⟨xt,jU,eB,-⟩:=aP ht;have hkn:=hkk _ hnl;rw[hes]at hkn;refine fU (f:=λρ=>Instr.indexAt t (ρ x) (ρ ix)) (by simp[execOp,ho]) ⟨.pointer (W0 ⟨b,off+n.toNat*T.size E+0,WP⟩),?_,λw' hs=>?_⟩
 ·refine⟨b,off+n.toNat*T.size E,(R0 (T.size E)).map (c n.toNat),rfl,LD.Wd (by rw[hkn];simp) (λl hl=>?_),λl u hl=>?_⟩
  ·grind
  grind
 ·rw[he]
  unfold Instr.indexAt asIntOf;simp[aS eB]
  simp_all[if_true,fu,add_lit]
theorem TZ(hr:Rel E w0 G0 st a w G)(ho:o.op=.index t x ix)
  (ht:aV P t=W0 ⟨.string,j1,j2,z⟩)    (hd:st.ev x=.dat .str l) (hdi:st.ev ix=.dat (.int kd) n) (h0:0<=n) (hn:n<l.length) :
  jB (E:=E) P a w G o (.dat (.int .u8) ((l.getD n.toNat 0).toNat:Int)):=by
 have hv:=hr.ev x;rw[hd]at hv;have DI:=hr.ev ix;rw[hdi]at DI;obtain⟨xt,jU,eB,-⟩:=aP ht;have hnl:n.toNat<l.length:=om;refine fU (f:=λρ=>Instr.index t (ρ x) (ρ ix)) (by simp[execOp,ho]) ⟨_,.int _ _ _ _,λw' hs=>?_⟩;rw[hv.iq,DI.fT];unfold Instr.index asIntOf mkStr;simp[aS eB,h0]
 have:(ByteArray.mk ⟨l⟩)[n.toNat]? = W0 (l.getD n.toNat 0):=by
  have hsz:=hnl;rw[getElem?_pos (ByteArray.mk ⟨l⟩) n.toNat hsz];simp[fJ hnl];rfl
 rw[this];rfl
theorem T3(hr:Rel E w0 G0 st a w G){s:aK}{f:Nat}{fd:Field}(ho:o.op=.fieldAddr s x f)
  (ht:aV P s=W0 ⟨.struct fs,j1,j2,z⟩) (hf:fs[f]? = W0 fd)  (hi:aV P fd.type=W0 i) (hz:i.size≠0)    (hd:st.ev x=.sV T y off) :
  jB P a w G o (.sV T y (off+fd.offset)):=by
 have hv:=hr.ev x;rw[hd]at hv;obtain⟨b,o',c,he,h0,h1⟩:=hv;obtain⟨xt,jU,eB,-⟩:=aP ht;obtain⟨xf,hxf,-,hsf,-⟩:=aP hi;refine fU (f:=λρ=>Instr.fieldAt s (ρ x) f) (by simp[execOp,ho]) ⟨.pointer (W0 ⟨b,o'+(off+fd.offset),WP⟩),by grind[VT],λw' hs=>?_⟩;rw[he];unfold Instr.fieldAt Instr.sureAddr;simp[aS eB,hf];simp[fieldPlace,fu hxf,hsf,hz,add_lit,PM]
theorem T4(hr:Rel E w0 G0 st a w G){s:aK}{f:Nat}{fd:Field}(ho:o.op=.fieldAddr s x f)
  (ht:aV P s=W0 ⟨.struct fs,j1,j2,z⟩) (hf:fs[f]? = W0 fd)  (hi:aV P fd.type=W0 i) (hz:i.size≠0)  (hd:st.ev x=.ptr r off) :
  jB P a w G o (.ptr r (off+fd.offset):TV E):=by
 have hv:=hr.ev x;rw[hd]at hv;obtain⟨b,he,hat⟩:=hv;obtain⟨xt,jU,eB,-⟩:=aP ht;obtain⟨xf,hxf,-,hsf,-⟩:=aP hi;refine fU (f:=λρ=>Instr.fieldAt s (ρ x) f) (by simp[execOp,ho]) ⟨.pointer (W0 ⟨b,off+fd.offset,WP⟩),by simp_all[VT],λw' hs=>?_⟩;rw[he];unfold Instr.fieldAt Instr.sureAddr;simp[aS eB,hf];simp[fieldPlace,fu hxf,hsf,hz,add_lit]
def lR(d:Int):O (TV E)->O Int
 | none=>W0 d
 | some (.dat (.int _) n)=>W0 n
 | some _=>WP
variable{lo hi:O dB}{ds:J (TV E)}{p q:Int}
theorem YC(l:J UInt8)(x y:Nat):(ByteArray.mk ⟨l⟩).extract x y=ByteArray.mk ⟨(l.take y).drop x⟩:=by
 apply ByteArray.ext
 simp_all[Tm,List.drop_take]
theorem DJ{k:eH}{y:Nat}{code:BoundsCode}(h0:0<=n)(h1:n<=y)(w':U):(Instr.sliceBound (.int k n) y code).run P w'=.ok n.toNat w':=by
 unfold Instr.sliceBound asIntOf;simp[h0,h1]
theorem Fo{isS:Bool}{len cap:Nat}(hlc:len<=cap){lo hi:O Value}{x y:Int}
  (hlo:(lo=WP/\x=0)\/∃k,lo=W0 (.int k x)) (hhi:(hi=WP/\y=len)\/∃k,hi=W0 (.int k y)) (h0:0<=x) (h1:x<=y) (h2:y<=len) (w':U) :
  (Instr.sliceBounds isS len cap lo hi WP).run P w'=.ok (x.toNat,y.toNat,cap) w':=by
 unfold Instr.sliceBounds;have hy:∀(k:eH)(code:BoundsCode),(Instr.sliceBound (.int k y) cap code).run P w'=.ok y.toNat w':=λk code=>DJ om om w';have hx:∀(k:eH)(code:BoundsCode),(Instr.sliceBound (.int k x) y.toNat code).run P w'=.ok x.toNat w':=λk code=>DJ h0 om w';rcases hlo with⟨rfl,rfl⟩|⟨k,rfl⟩<;>rcases hhi with⟨rfl,rfl⟩|⟨k',rfl⟩
 ·simp
 ·simp[hy]
 ·simp_all
 ·simp[hy,hx]
theorem tQ(hr:Rel E w0 G0 st a w G){d x:Int}(hb:lR d (lo.map st.ev)=W0 x):
  (lo.map a.eval=WP/\x=d)\/∃k,lo.map a.eval=W0 (.int k x):=by
 cases lo with
 | none=>simp_all[lR]
 | some y=>
  have hv:=hr.ev y;simp only[Zf]at hb⊢;unfold lR at hb;split at hb
  ·rename_i he;cases he
  ·rename_i k n he
   cases hb;rw[rQ he]at hv;exact .inr ⟨k,by rw[hv.fT]⟩
  ·cases hb
theorem YE(hr:Rel E w0 G0 st a w G){j:Nat}(ho:o.op=.extract x j)(hd:st.ev x=.tuple ds)(hj:ds[j]? = W0 d):
  jB P a w G o d:=by
 have hv:=hr.ev x;rw[hd]at hv;obtain⟨vs,he,h⟩:=hv;obtain⟨u,hu,h⟩:=h.get j hj;refine fU (f:=λρ=>Instr.extract (ρ x) j) (by simp[execOp,ho]) ⟨u,h,λw' hs'=>?_⟩;rw[he];simp at hu;simp[Instr.extract,hu]
theorem YF(hr:Rel E w0 G0 st a w G){c:Call}(ho:o.op=.call c)(hc:c.callee=.builtin .len)(ha:c.args.toList=[x])(hat:c.argTypes.toList=[t])
  (ht:aV P t=W0 ⟨.string,j1,j2,z⟩)  (hd:st.ev x=.dat .str l):jB (E:=E) P a w G o (.dat (.int .i64) (l.length:Int)):=by
 have hv:=hr.ev x;rw[hd]at hv;obtain⟨xt,jU,eB,-⟩:=aP ht;have gF:c.args=#[x]:=by grind
 have yH:c.argTypes=#[t]:=by grind
 refine⟨_,.int _ _ _ _,λw' hs=>?_⟩;unfold execOp;simp[ho,resolve,hc,invoke,builtin,gF,yH];rw[hv.iq];simp[Builtin.len_,aS eB];rfl
theorem Bc(hr:Rel E w0 G0 st a w G){c:Call}(ho:o.op=.call c)(hc:c.callee=.builtin .len)(ha:c.args.toList=[x])(hat:c.argTypes.toList=[t])
  (ht:aV P t=W0 ⟨.slice e,j1,j2,z⟩) {n:Nat} (hval:∃ad cap,a.eval x=.slice ad n cap):jB (E:=E) P a w G o (.dat (.int .i64) (n:Int)):=by
 obtain⟨xt,jU,eB,-⟩:=aP ht;have gF:c.args=#[x]:=by grind
 have yH:c.argTypes=#[t]:=by grind
 obtain⟨ad,cap,he⟩:=hval;refine⟨_,.int _ _ _ _,λw' hs=>?_⟩;unfold execOp;simp[ho,resolve,hc,invoke,builtin,gF,yH];rw[he];simp[Builtin.len_,aS eB,goInt]
theorem s8.header(h:s8 d T xs)(hv:VT E w G d v):∃ad cap,v=.slice ad xs.length cap:=by
 rcases(h.vd hv).wG with⟨ad,he,hn⟩|⟨b,off,cap,c,he,-⟩
 ·simp_all
 simp_all
theorem T5(hr:Rel E w0 G0 st a w G)(ho:o.op=.slice t x lo hi WP)
  (ht:aV P t=W0 ⟨.string,j1,j2,z⟩)  (hd:st.ev x=.dat .str l)  (hp:lR 0 (lo.map st.ev)=W0 p) (hq:lR l.length (hi.map st.ev)=W0 q)
  (h0:0<=p) (h1:p<=q) (h2:q<=l.length):jB (E:=E) P a w G o (.dat .str ((l.take q.toNat).drop p.toNat)):=by
 have hv:=hr.ev x;rw[hd]at hv;obtain⟨xt,jU,eB,-⟩:=aP ht;refine fU (f:=λρ=>Instr.sliceAt t (ρ x) (lo.map ρ) (hi.map ρ) WP) (by simp[execOp,ho]) ⟨_,.str _ _ _,λw' hs=>?_⟩;have Cb:=Fo (P:=P) (isS:=UV) (eu l.length) (tQ hr hp) (tQ hr hq) h0 h1 h2 w';rw[hv.iq];unfold Instr.sliceAt;unfold Instr.slice mkStr;have hsz:(ByteArray.mk ⟨l⟩).size=l.length:=rfl
 simp_all[aS,YC]
theorem Sy(hr:Rel E w0 G0 st a w G)(ho:o.op=.slice t x lo hi WP)
  (ht:aV P t=W0 ⟨.slice e,j1,j2,z⟩) (hi':aV P e=W0 i)   (hd:s8 (st.ev x) T xs) 
  (hp:lR 0 (lo.map st.ev)=W0 p) (hq:lR xs.length (hi.map st.ev)=W0 q)
  (h0:0<=p) (h1:p<=q) (h2:q<=xs.length) (hk:i.size=T.size E):jB P a w G o (.dat (.bq T) ((xs.take q.toNat).drop p.toNat)):=by
 have hv:=hd.vd (hr.ev x);obtain⟨xt,jU,eB,-⟩:=aP ht;obtain⟨xe,qI,Bb,hsz,-⟩:=aP hi';have hmap:((xs.take q.toNat).drop p.toNat).map (T.cells E)=((xs.map (T.cells E)).take q.toNat).drop p.toNat:=by simp
 have hex:∃(ad:O Addr)(cap:Nat),a.eval x=.slice ad xs.length cap/\xs.length<=cap /\
   VT E w G (.dat (.bq T) ((xs.take q.toNat).drop p.toNat)) (.slice (if cap=p.toNat then ad else ad.map (·.add (p.toNat*T.size E))) (q.toNat-p.toNat) (cap-p.toNat)):=by
  have Lm:(xs.map (T.cells E)).length=xs.length:=by simp
  generalize hes:xs.map (T.cells E)=es at hv hmap Lm;have hlen:((es.take q.toNat).drop p.toNat).length=q.toNat-p.toNat:=by simp;omega
  rcases hv.wG with⟨ad0,he,rfl⟩|⟨b,off,cap,c,he,hcap,hkk,hc,h⟩
  ·have hx0:=Ei Lm.symm
   subst hx0;simp at h2;have hp0:p=0:=om;have hq0:q=0:=om;subst hp0;subst hq0;exact⟨ad0,0,he,eu _,.list (.vo _ _)⟩
  ·rw[Lm]at he hcap
   refine⟨_,_,he,hcap,.list ?_⟩;rw[hmap];rw[<-hlen];by_cases rF:cap=p.toNat
   ·have hz:((es.take q.toNat).drop p.toNat)=[]:=by
     grind
    rw[hz,if_pos rF];exact .slice b off (cap-p.toNat) _ [] c (gj _) (λj hj=>by simp at hj) (λj l hj=>by simp at hj) (λj l hj=>by simp at hj)
   ·rw[if_neg rF]
    simp only[Zf,add_lit];refine .slice b (off+p.toNat*T.size E) (cap-p.toNat) _ _ (λj l=>c (p.toNat+j) l) (by rw[hlen];omega) (λj hj=>?_) (λj l hj hl=>?_) (λj l hj hl=>?_)
    ·grind
    ·grind
    grind
 obtain⟨ad,cap,he,hcap,hV⟩:=hex;refine fU (f:=λρ=>Instr.sliceAt t (ρ x) (lo.map ρ) (hi.map ρ) WP) (by simp[execOp,ho]) ⟨_,hV,λw' hs=>?_⟩;have Cb:=Fo (P:=P) (isS:=WF) hcap (tQ hr hp) (tQ hr hq) h0 h1 h2 w';unfold Instr.sliceAt;unfold Instr.slice
 simp_all[aS,fu]
theorem acS{len cap:Nat}{lo:O Value}{x y m:Int}{k1 k2:eH}
  (hlo:(lo=WP/\x=0)\/∃k,lo=W0 (.int k x)) (h0:0<=x) (h1:x<=y) (h2:y<=m) (h3:m<=cap) (w':U) :
  (Instr.sliceBounds WF len cap lo (W0 (.int k1 y)) (W0 (.int k2 m))).run P w'=.ok (x.toNat,y.toNat,m.toNat) w':=by
 unfold Instr.sliceBounds;have hm:∀(k:eH)(code:BoundsCode),(Instr.sliceBound (.int k m) cap code).run P w'=.ok m.toNat w':=λk code=>DJ om om w';have hy:∀(k:eH)(code:BoundsCode),(Instr.sliceBound (.int k y) m.toNat code).run P w'=.ok y.toNat w':=λk code=>DJ om om w';have hx:∀(k:eH)(code:BoundsCode),(Instr.sliceBound (.int k x) y.toNat code).run P w'=.ok x.toNat w':=λk code=>DJ h0 om w';rcases hlo with⟨rfl,rfl⟩|⟨k,rfl⟩
 ·simp[hm,hy]
 ·simp[hm,hy,hx]
theorem aau(hr:Rel E w0 G0 st a w G){hi mx:dB}(ho:o.op=.slice t x lo (W0 hi) (W0 mx))
  (ht:aV P t=W0 ⟨.slice e,j1,j2,z⟩) (hi':aV P e=W0 i)   (hd:s8 (st.ev x) T xs) {m:Int}
  (hp:lR 0 (lo.map st.ev)=W0 p) (hq:lR 0 (W0 (st.ev hi))=W0 q) (hm:lR 0 (W0 (st.ev mx))=W0 m)
  (h0:0<=p) (h1:p<=q) (h2:q<=m) (h3:m<=xs.length) (hk:i.size=T.size E):jB P a w G o (.dat (.bq T) ((xs.take q.toNat).drop p.toNat)):=by
 have hv:=hd.vd (hr.ev x);obtain⟨xt,jU,eB,-⟩:=aP ht;obtain⟨xe,qI,Bb,hsz,-⟩:=aP hi';have hmap:((xs.take q.toNat).drop p.toNat).map (T.cells E)=((xs.map (T.cells E)).take q.toNat).drop p.toNat:=by simp
 have hex:∃(ad:O Addr)(cap:Nat),a.eval x=.slice ad xs.length cap/\xs.length<=cap /\
   VT E w G (.dat (.bq T) ((xs.take q.toNat).drop p.toNat)) (.slice (if m.toNat=p.toNat then ad else ad.map (·.add (p.toNat*T.size E))) (q.toNat-p.toNat) (m.toNat-p.toNat)):=by
  have Lm:(xs.map (T.cells E)).length=xs.length:=by simp
  generalize hes:xs.map (T.cells E)=es at hv hmap Lm;have hlen:((es.take q.toNat).drop p.toNat).length=q.toNat-p.toNat:=by simp;omega
  rcases hv.wG with⟨ad0,he,rfl⟩|⟨b,off,cap,c,he,hcap,hkk,hc,h⟩
  ·have hx0:=Ei Lm.symm
   subst hx0;simp at h3;have hp0:p=0:=om;have hq0:q=0:=om;have hm0:m=0:=om;subst hp0;subst hq0;subst hm0;exact⟨ad0,0,he,eu _,.list (.vo _ _)⟩
  ·rw[Lm]at he hcap
   refine⟨_,_,he,hcap,.list ?_⟩;rw[hmap];rw[<-hlen];by_cases rF:m.toNat=p.toNat
   ·have hz:((es.take q.toNat).drop p.toNat)=[]:=by
     grind
    rw[hz,if_pos rF];exact .slice b off (m.toNat-p.toNat) _ [] c (gj _) (λj hj=>by simp at hj) (λj l hj=>by simp at hj) (λj l hj=>by simp at hj)
   ·rw[if_neg rF]
    simp only[Zf,add_lit];refine .slice b (off+p.toNat*T.size E) (m.toNat-p.toNat) _ _ (λj l=>c (p.toNat+j) l) (by rw[hlen];omega) (λj hj=>?_) (λj l hj hl=>?_) (λj l hj hl=>?_)
    ·grind
    ·grind
    grind
 obtain⟨ad,cap,he,hcap,hV⟩:=hex
 have bi:∀(y:dB)(n:Int),lR 0 (W0 (st.ev y))=W0 n->∃k,a.eval y=.int k n:=λy n hb=>by
  rcases tQ hr (lo:=W0 y) hb with⟨h,-⟩|⟨k,h⟩
  ·cases h
  simp_all
 obtain⟨k1,hhi⟩:=bi hi q hq;obtain⟨k2,hmx⟩:=bi mx m hm;refine fU (f:=λρ=>Instr.sliceAt t (ρ x) (lo.map ρ) (W0 (ρ hi)) (W0 (ρ mx))) (by simp[execOp,ho]) ⟨_,hV,λw' hs=>?_⟩;have Cb:=acS (P:=P) (len:=xs.length) (cap:=cap) (k1:=k1) (k2:=k2) (tQ hr hp) h0 h1 h2 om w';unfold Instr.sliceAt;unfold Instr.slice
 simp_all[aS,fu]
def T6(P:bh)(fs:aJ Field):J (TV E)->J (Nat×TV E)->O (J (TV E))
 | cs,[]=>W0 cs
 | cs,(j,d)::rest=>match fs[j]?,d.o8 with
  | some fd,W0 l=>match aV P fd.type with
   | some i=>cond (Nat.ble (fd.offset+l.length) cs.length&&ST l.length i.size) (T6 P fs (cs.take fd.offset++l++cs.drop (fd.offset+l.length)) rest) WP
   | none=>WP
  | _,_=>WP
theorem XE(off:Nat):∀(new:J Value)(i:Nat)(cs:aJ Value),off+i+new.length<=cs.size ->
  ((new.zipIdx i).foldl (λcs (p:Value×Nat)=>cs.setIfInBounds (off+p.2) p.1) cs).toList=cs.toList.take (off+i)++new++cs.toList.drop (off+i+new.length)
 | [],i,cs,_=>by simp
 | v::rest,i,cs,h=>by
  simp;rw[XE off rest (i+1) _ (by simp at h⊢;omega)];have e:=list_seg_step cs.toList (off+i) v rest (by simp at h⊢;omega);simpa[PM]using e
variable{place:Nat->O (Nat×Nat)}
theorem N7{cells:aJ Value}{j size:Nat}{rest:J (Nat×Value)}(hp:place j=W0 (off,size))
  (hs:v.cells.size=size) (ho:off+size<=cells.size) :
  Instr.fill place cells ((j,v)::rest)=Instr.fill place (cells.toList.take off++v.cells.toList++cells.toList.drop (off+v.cells.size)).toArray rest:=by
 have hf:=XE off v.cells.toList 0 cells bp;rw[Instr.fill,hp];have hc:¬ ((v.cells.size≠size||off+v.cells.size>cells.size)=WF):=by simp;omega
 simp only;rw[if_neg hc];congr 1
 grind[Array.ext',Array.toList_zipIdx]
theorem acT(fs:J Field)(h:∀fd,fd∈fs->∃i,aV P fd.type=W0 i):
  ∃places:J (Nat×Nat),fs.mapM (λf=>(P.info? f.type).map λi=>(f.offset,i.size))=W0 places /\
   ∀(j:Nat) fd i,fs[j]? = W0 fd->aV P fd.type=W0 i->places[j]? = W0 (fd.offset,i.size):=by
 induction fs with
 | nil=>simp_all
 | cons f fs ih=>
  obtain⟨places,hp,hq⟩:=ih λfd hfd=>h fd (by simp[hfd]);obtain⟨i,hi⟩:=h f si;obtain⟨x,hx,-,hs,-⟩:=aP hi;refine⟨(f.offset,i.size)::places,by simp_all,λj fd i' hj hi'=>?_⟩
  grind
theorem T7(hE:E.Ok)(hr:Rel E w0 G0 st a w G){fs:aJ Field}{place:Nat->O (Nat×Nat)}
  (hpl:∀(j:Nat) fd i,fs[j]? = W0 fd->aV P fd.type=W0 i->place j=W0 (fd.offset,i.size)) :
  ∀(parts:J (Nat×dB))(cells:aJ Value)(ds:J (TV E)){ds':J (TV E)},bI E w G ds cells.toList->(∀u,u∈cells.toList->u.oneCell'=WF) ->
  T6 P fs ds (parts.map λp=>(p.1,st.ev p.2))=W0 ds' ->
  ∃cells':aJ Value,Instr.fill place cells (parts.map λp=>(p.1,a.eval p.2))=W0 cells'/\bI E w G ds' cells'.toList/\∀u,u∈cells'.toList->u.oneCell'=WF
 | [],cells,ds,ds',h,h1,hf=>by cases hf;exact⟨cells,rfl,h,h1⟩
 | (j,x)::rest,cells,ds,ds',h,h1,hf=>by
  simp only[jY,T6]at hf;split at hf<;>try trivial
  rename_i fd l hfd hl;split at hf<;>try trivial
  rename_i i hi;cases hb:(Nat.ble (fd.offset+l.length) ds.length&&ST l.length i.size)<;>rw[hb]at hf<;>simp only[aY,aM]at hf
  ·cases hf
  rw[cH]at hb;have hsz:=eM hb.2;obtain⟨hx,hx1⟩:=sY hE (hr.ev x) hl;have hlen:(a.eval x).cells.size=l.length:=by simpa using hx.length
  have hcl:cells.size=ds.length:=by simpa using h.length
  simp only[jY];rw[N7 (hpl j fd i hfd hi) (by rw[hlen,hsz]) (by simp_all),hlen];refine T7 hE hr hpl rest _ _ ?_ ?_ hf
  ·exact((h.take _).append hx).append (h.drop _)
  grind
theorem bI.ofValues:∀ {vs:J Value},bI E w G (vs.map TV.Kj) vs
 | []=>.nil
 | v::vs=>.cons (aar w G v) bI.ofValues
def Qh(E:TEnv)(ty:O Ty)(cs:J (TV E)):TV E:=
 match ty with
 | none=>.agg cs
 | some t=>match N6 E 4 t cs with
  | some (x,[])=>cond t.isAgg (.dat t x) (.agg cs)
  | _=>.agg cs
theorem Jz(hE:E.Ok){vs:aJ Value}(h:bI E w G cs vs.toList)(h1:∀u,u∈vs.toList->u.oneCell'=WF):VT E w G (Qh E ty cs) (.agg vs):=by
 unfold Qh
 grind[A9,bI,VT]
theorem acU(hE:E.Ok)(hr:Rel E w0 G0 st a w G){parts:aJ (Nat×dB)}{z:aJ Value}(ho:o.op=.build t parts)
  (ht:aV P t=W0 ⟨.struct fs,j1,j2,.agg z⟩) (h2:(z.toList.all (·.oneCell')&&fs.toList.all λfd=>(aV P fd.type).isSome)=WF) 
  (hf:T6 P fs (z.toList.map TV.Kj) (parts.toList.map λp=>(p.1,st.ev p.2))=W0 ds) (ty:O Ty):jB P a w G o (Qh E ty ds):=by
 rw[cH]at h2;obtain⟨places,hpl,hpq⟩:=acT fs.toList (λfd hfd=>Option.isSome_iff_exists.1 (pE.1 h2.2 fd hfd));obtain⟨xt,jU,eB,hsz,hby,hz⟩:=aP ht
 obtain⟨cells,hc,hl,hl1⟩:=T7 hE hr (place:=(places.toArray[·]?)) (λj fd i hj hi=>by
  simp_all) parts.toList z (z.toList.map TV.Kj) bI.ofValues (λu hu=>pE.1 h2.1 u hu) hf
 refine fU (f:=λρ=>Instr.build t (parts.map λ(i,x)=>(i,ρ x))) (by simp[execOp,ho]) ⟨.agg cells,Jz hE hl hl1,λw' hs=>?_⟩;refine run_build w' t _ cells ?_;unfold Program.built;simp only[jU,eB,hz,hpl];rw[show(parts.map λ(i,x)=>(i,a.eval x)).toList=parts.toList.map λp=>(p.1,a.eval p.2) by simp];exact hc
def TV.Kk:TV E->O ((T:Ty)×J (T.den E.D))
 | .dat (.bq T) xs=>W0 ⟨T,xs⟩
 | .cA _ _ T xs=>W0 ⟨T,xs⟩
 | _=>WP
theorem TV.Iv(h:d.Kk=W0 ⟨T,xs⟩):s8 d T xs:=by
 unfold TV.Kk at h;split at h
 ·cases h;exact .dat _ _
 ·cases h;exact .cA _ _ _ _
 ·cases h
def okT(x:O (TV E)):O (Bool×TV E):=match x with
 | some d=>W0 (WF,d)
 | none=>WP
def aoT(d:TV E)(k:TypeDesc):O (TV E):=
 match k,d with
 | .string,.dat .str l=>W0 (.dat (.int .i64) (l.length:Int))
 | .slice _,.dat (.bq T) xs=>W0 (.dat (.int .i64) (xs.length:Int))
 | .slice _,.cA _ _ T xs=>W0 (.dat (.int .i64) (xs.length:Int))
 | .slice _,.val (.slice WP 0 0)=>W0 (.dat (.int .i64) (0:Int))
 | _,_=>WP
def mF(n:Int):J UInt8:=(Utf8.encode n).data.toList
def al4(P:bh)(src dst:aK)(d:TV E):O (TV E):=
 match d,aV P src,aV P dst with
 | .dat (.int _) n,W0 _,W0 ⟨.int kk,_,_,_⟩=>W0 (.dat (.int kk) (kk.wrap n))
 | .dat .str l,W0 _,W0 ⟨.string,_,_,_⟩=>W0 (.dat .str l)
 | .dat (.int _) n,W0 _,W0 ⟨.string,_,_,_⟩=>W0 (.dat .str (mF n))
 | _,_,_=>WP
def Qi(P:bh)(ty:aK->O Ty)(st:TS E):Op->O (Bool×TV E)
 | .move x=>W0 (WF,st.ev x)
 | .assign x=>W0 (WF,st.ev x)
 | .load t x=>match aV P t,st.ev x with
  | some i,.sV T y off=>okT (TV.part T y i.isAgg i.size off)
  | some i,.ptr r off=>match st.H[r]? with
   | some (.cells _ cs)=>okT (TX E (ty t) cs i.isAgg i.size off)
   | _=>WP
  | _,_=>WP
 | .nilCheck x=>match st.ev x with
  | .ptr r off=>W0 (WF,.ptr r off)
  | .sV T y off=>W0 (WF,.sV T y off)
  | .func (.func f) cap=>W0 (WF,.func (.func f) cap)
  | _=>WP
 | .binOp op _ x y _=>aj4 op (st.ev x) (st.ev y)
 | .unOp op _ x=>match op,st.ev x with
  | .not,.dat .bool b=>W0 (WF,.dat .bool (!b))
  | .neg,.dat (.int k) n=>W0 (WF,.dat (.int k) (k.wrap (0-n)))
  | .xor,.dat (.int k) n=>W0 (WF,.dat (.int k) (V7 k n))
  | _,_=>WP
 | .makeFunc fn first cap=>match first.toList with
  | []=>W0 (WF,.func fn (cap.toList.map st.ev))
  | x::xs=>match cap.toList with
   | []=>W0 (WF,.GN fn ((x::xs).map st.ev))
   | _=>WP
 | .fieldAddr s x f=>match aV P s,st.ev x with
  | some ⟨.struct fs,_,_,_⟩,.sV T y off=>match fs[f]? with
   | some fd=>match aV P fd.type with
    | some i=>W0 (!(ST i.size 0),.sV T y (off+fd.offset))
    | none=>WP
   | none=>WP
  | some ⟨.struct fs,_,_,_⟩,.ptr r off=>match fs[f]? with
   | some fd=>match aV P fd.type with
    | some i=>W0 (!(ST i.size 0),.ptr r (off+fd.offset))
    | none=>WP
   | none=>WP
  | _,_=>WP
 | .indexAddr t x ix=>match aV P t,(st.ev x).Kk,st.ev ix with
  | some ⟨.slice e,_,_,_⟩,W0 ⟨T,xs⟩,.dat (.int _) n=>match aV P e with
   | some i=>W0 (ST i.size (T.size E)&&(T1 (0<=n)&&T1 (n<(xs.length:Int))),.sV T (xs.getD (Ts n) (T.dflt E)) 0)
   | none=>WP
  | _,_,_=>WP
 | .index t x ix=>match aV P t,st.ev x,st.ev ix with
  | some ⟨.string,_,_,_⟩,.dat .str l,.dat (.int _) n=>W0 (T1 (0<=n)&&T1 (n<(l.length:Int)),.dat (.int .u8) ((l.getD (Ts n) 0).toNat:Int))
  | _,_,_=>WP
 | .extract x j=>match st.ev x with
  | .tuple ds=>okT ds[j]?
  | _=>WP
 | .build t parts=>match aV P t with
  | some ⟨.struct fs,_,_,.agg z⟩=>match T6 P fs (z.toList.map TV.Kj) (parts.toList.map λp=>(p.1,st.ev p.2))with
   | some ds=>W0 (z.toList.all (·.oneCell')&&fs.toList.all (λfd=>(aV P fd.type).isSome),Qh E (ty t) ds)
   | none=>WP
  | _=>WP
 | .convert src dst x=>okT (al4 P src dst (st.ev x))
 | .makeInterface t x=>match aV P t with
  | some ⟨.interface _,_,_,_⟩=>WP
  | some _=>W0 (WF,.iface t (st.ev x))
  | none=>WP
 | .slice t x lo hi WP=>match aV P t,st.ev x with
  | some ⟨.string,_,_,_⟩,.dat .str l=>match lR 0 (lo.map st.ev),lR (l.length:Int) (hi.map st.ev)with
   | some p,W0 q=>W0 (T1 (0<=p)&&(T1 (p<=q)&&T1 (q<=(l.length:Int))),.dat .str ((l.take q.toNat).drop p.toNat))
   | _,_=>WP
  | some ⟨.slice e,_,_,_⟩,d=>match d.Kk,aV P e with
   | some ⟨T,xs⟩,W0 i=>match lR 0 (lo.map st.ev),lR (xs.length:Int) (hi.map st.ev)with
    | some p,W0 q=>W0 (ST i.size (T.size E)&&(T1 (0<=p)&&(T1 (p<=q)&&T1 (q<=(xs.length:Int)))),.dat (.bq T) ((xs.take q.toNat).drop p.toNat))
    | _,_=>WP
   | _,_=>WP
  | _,_=>WP
 | .slice t x lo (W0 hi) (W0 mx)=>match aV P t,st.ev x with
  | some ⟨.slice e,_,_,_⟩,d=>match d.Kk,aV P e with
   | some ⟨T,xs⟩,W0 i=>match lR 0 (lo.map st.ev),lR 0 (W0 (st.ev hi)),lR 0 (W0 (st.ev mx))with
    | some p,W0 q,W0 m=>W0 (ST i.size (T.size E)&&(T1 (0<=p)&&(T1 (p<=q)&&(T1 (q<=m)&&T1 (m<=(xs.length:Int))))),.dat (.bq T) ((xs.take q.toNat).drop p.toNat))
    | _,_,_=>WP
   | _,_=>WP
  | _,_=>WP
 | .call c=>match c.callee,c.args.toList,c.argTypes.toList with
  | .builtin .len,[x],[t]=>match aV P t with
   | some i=>okT (aoT (st.ev x) i.kind)
   | none=>WP
  | _,_,_=>WP
 | _=>WP
theorem CJ{x:O (TV E)}{c:Bool}(h:okT x=W0 (c,d)):x=W0 d:=by
 cases x with
 | none=>cases h
 | some y=>cases h;rfl
theorem acV(hE:E.Ok)(hr:Rel E w0 G0 st a w G){ty:aK->O Ty}{c:Bool}(h:Qi P ty st o.op=W0 (c,d))(hc:c=WF):jB P a w G o d:=by
 cases ho:o.op<;>rw[ho]at h<;>simp only[Qi]at h
 case move x=>grind[aat]
 case assign x=>grind[aat]
 case load t x=>
  grind[Wb,CJ,Wc]
 case nilCheck x=>
  have hv:=hr.ev x;split at h<;>try trivial
  ·rename_i r off hd
   cases h;rw[hd]at hv;have jz:=hv;obtain⟨b,he,-⟩:=jz;exact⟨_,hv,λw' hs=>by simp[execOp,ho,he]⟩
  ·rename_i T y off hd
   cases h;rw[hd]at hv;have jz:=hv;obtain⟨b,o',c',he,-⟩:=jz;exact⟨_,hv,λw' hs=>by simp[execOp,ho,he]⟩
  ·rename_i f cap hd
   cases h;rw[hd]at hv;have jz:=hv;obtain⟨vs,he,-⟩:=jz;exact⟨_,hv,λw' hs=>by simp[execOp,ho,he]⟩
 case binOp op t x y ty'=>
  obtain⟨r,hv,hrun⟩:=afD (P:=P) (op:=op) (t:=t) (x:=x) (y:=y) (hr.ev x) (hr.ev y) h hc;exact fU (f:=λρ=>do eqGuard op t x y (ρ x) (ρ y);binOp op t (ρ x) (ρ y)) (by simp[execOp,ho]) ⟨r,hv,λw' _=>hrun w'⟩
 case unOp op t x=>
  have hv:=hr.ev x;split at h<;>try trivial
  ·rename_i b hd
   cases h;rw[hd]at hv;exact⟨_,.bool _ _ _,λw' hs=>by simp[execOp,ho,hv.mu,Op.unary]⟩
  ·rename_i k n hd
   cases h;rw[hd]at hv;exact⟨_,.int _ _ _ _,λw' hs=>by simp[execOp,ho,hv.fT,Op.unary,Op.intArith]⟩
  ·rename_i k n hd
   cases h;rw[hd]at hv
   exact⟨_,.int _ _ _ _,λw' hs=>by
    simp only[execOp,ho,hv.fT,Op.unary,V9];rfl⟩
 case makeFunc fn first cap=>
  have evs:∀l:J dB,bI E w G (l.map st.ev) (l.map a.eval):=by
   intro l
   induction l with
   | nil=>exact .nil
   | cons y l ih=>exact .cons (hr.ev y) ih
  split at h
  rotate_left
  ·rename_i x xs hf
   split at h<;>try trivial
   cases h;have s7:cap=#[]:=by simp_all
   refine fU (f:=λρ=>Instr.makeFunc fn (first.map ρ) (cap.map ρ)) (by simp[execOp,ho]) ⟨.func fn (first.map a.eval) #[],?_,λw' _=>by simp[Instr.makeFunc,s7]⟩;simp only[VT];rw[<-hf];simpa using evs first.toList
  rename_i hf;cases h;have hf':first=#[]:=by simp_all
  refine fU (f:=λρ=>Instr.makeFunc fn (first.map ρ) (cap.map ρ)) (by simp[execOp,ho]) ⟨.func fn #[] (cap.map a.eval),?_,λw' _=>by simp[Instr.makeFunc,hf']⟩
  simp_all[VT,bI]
 case fieldAddr s x f=>
  split at h<;>try trivial
  ·rename_i fs j1 j2 z T y off hs hd
   split at h<;>try trivial
   rename_i fd hf;split at h<;>try trivial
   rename_i i hi;cases h;refine T3 hr ho hs hf hi (λh0=>?_) hd;rw[h0]at hc;cases hc
  ·rename_i fs j1 j2 z r off hs hd
   split at h<;>try trivial
   rename_i fd hf;split at h<;>try trivial
   rename_i i hi;cases h;refine T4 hr ho hs hf hi (λh0=>?_) hd;rw[h0]at hc;cases hc
 case indexAddr t x ix=>
  grind[acR,TV.Iv,Nat.eq_of_beq_eq_true]
 case index t x ix=>
  grind[TZ]
 case extract x j=>
  grind[YE,CJ]
 case build t parts=>
  grind[acU]
 case convert src dst x=>
  have hb:=CJ h;have hv:=hr.ev x;unfold al4 at hb;split at hb<;>try trivial
  ·rename_i k n _ kk j1 j2 z hd hs aav
   cases hb;rw[hd]at hv;obtain⟨xs,hxs,Rt,-⟩:=aP hs;obtain⟨xd,hxd,hud,-⟩:=aP aav;refine fU (f:=λρ=>convert src dst (ρ x)) (by simp[execOp,ho]) ⟨_,.int _ _ _ _,λw' _=>?_⟩;rw[hv.fT];unfold convert;simp only[jm,aS Rt,aS hud,jL];rfl
  ·rename_i l _ j1 j2 z hd hs aav
   cases hb;rw[hd]at hv;obtain⟨xs,hxs,Rt,-⟩:=aP hs;obtain⟨xd,hxd,hud,-⟩:=aP aav;refine fU (f:=λρ=>convert src dst (ρ x)) (by simp[execOp,ho]) ⟨_,.str _ _ _,λw' _=>?_⟩;rw[hv.iq];unfold convert mkStr
   simp_all[jm,aS,jL]
  ·rename_i k n _ j1 j2 z hd hs aav
   cases hb;rw[hd]at hv;obtain⟨xs,hxs,Rt,-⟩:=aP hs;obtain⟨xd,hxd,hud,-⟩:=aP aav;refine fU (f:=λρ=>convert src dst (ρ x)) (by simp[execOp,ho]) ⟨_,.str _ _ _,λw' _=>?_⟩;rw[hv.fT];unfold convert mkStr mF;simp only[jm,aS Rt,aS hud,jL];rfl
 case makeInterface t x=>
  split at h<;>try trivial
  rename_i ti hne ht;cases h;obtain⟨xt,jU,eB,-⟩:=aP ht;refine fU (f:=λρ=>Instr.makeInterface t (ρ x)) (by simp[execOp,ho]) ⟨.iface t (a.eval x),by simp only[VT];exact⟨_,rfl,hr.ev x⟩,λw' _=>?_⟩;unfold Instr.makeInterface;simp only[jm,aS eB,jL];split
  ·rename_i ms hk
   exact(hne ms _ _ _ (by rw[<-hk])).elim
  ·rfl
 case slice t x lo hi mx=>
  cases mx with
  | some m=>
   cases hi with
   | none=>simp at h
   | some hi=>
    grind[aau,TV.Iv,Nat.eq_of_beq_eq_true]
  | none=>
   grind[T5,Sy,TV.Iv,Nat.eq_of_beq_eq_true]
 case call c'=>
  split at h<;>try trivial
  rename_i x t hcl ha hat;split at h<;>try trivial
  rename_i i ht;have hb:=CJ h;have hv:=hr.ev x;obtain⟨kind,j1,j2,z⟩:=i;unfold aoT at hb;split at hb<;>try trivial
  ·grind[YF]
  ·rename_i e T xs hk hd
   cases hb;dsimp only at hk;subst hk;rw[hd]at hv;exact Bc hr ho hcl ha hat ht ((s8.dat T xs).header hv)
  ·rename_i e j aF T xs hk hd
   cases hb;dsimp only at hk;subst hk;rw[hd]at hv;exact Bc hr ho hcl ha hat ht ((s8.cA j aF T xs).header hv)
  ·rename_i e hk hd
   cases hb;dsimp only at hk;subst hk;rw[hd]at hv;exact Bc (n:=0) hr ho hcl ha hat ht ⟨_,_,hv⟩
 all_goals cases h
variable{w' w'':U}{G' G'':bx}
theorem iK.refl(w:U)(G:bx):iK w G w G:=
 ⟨λ_ _ h=>h,λ_ _ _ _ h=>h,λ_ _ h=>h,λj x h hj=>⟨x,h,hj,eu _,λ_=>rfl⟩⟩
theorem iK.trans(h:iK w G w' G')(h':iK w' G' w'' G''):iK w G w'' G'':=by
 refine⟨λb o hp=>h'.pr b o (h.pr b o hp),λb o v hp hv=>h'.cells b o v (h.pr b o hp) (h.cells b o v hp hv),λr b hb=>h'.i r b (h.i r b hb),λj x y hj=>?_⟩;obtain⟨x1,y1,h1,l1,e1⟩:=h.g j x y hj;obtain⟨x2,y2,h2,l2,e2⟩:=h'.g j x1 y1 h1
 grind
theorem kT.refl(w:U)(G:bx):kT w G w G:=
 ⟨rfl,rfl,rfl,eu _,λ_ _ _=>rfl,.refl w G,λ_ _ _ h=>.inl h,λr b hl hb=>by
  simp_all,λj x h b hj hb=>.inr ⟨x,h,hj,hb⟩⟩
theorem gp.mono(hg:iK w G w' G'){kt vt:Ty}:∀ {es:J MapEntry}{m:J (kt.den E.D×vt.den E.D)},gp E w G kt vt es m->gp E w' G' kt vt es m
 | [],[],_=>trivial
 | _::_,_::_,h=>⟨h.1.mono hg,h.2.1.mono hg,gp.mono hg h.2.2⟩
 | [],_::_,h=>h.elim
 | _::_,[],h=>h.elim
theorem DOk.mono(hg:iK w G w' G'){d:Deferred}{x:FuncId×J (TV E)}(h:DOk E w G d x):DOk E w' G' d x:=
 h.imp (λ⟨h0,cap,h1,h2⟩=>⟨h0,cap,h1,h2.mono hg⟩) λ⟨h0,b,h1,h2⟩=>⟨h0,b,h1,h2.mono hg⟩
theorem kA.mono(hg:iK w G w' G'):∀ {ds:J Deferred}{xs:J (FuncId×J (TV E))},kA E w G ds xs->kA E w' G' ds xs
 | [],[],_=>trivial
 | _::_,_::_,h=>⟨h.1.mono hg,kA.mono hg h.2⟩
 | [],_::_,h=>h.elim
 | _::_,[],h=>h.elim
theorem jW.mono(hg:iK w G w' G'){x:fK E}(h:jW E w G b x)(hb:w'.heap[b]? = w.heap[b]?):jW E w' G' b x:=by
 cases x with
 | cells t cs=>
  obtain⟨vs,h1,h2,h3⟩:=h
  exact⟨vs,by rw[hb];exact h1,h2,h3.mono hg⟩
 | iter s pos=>show _=_;rw[hb];exact h
 | loop y ds=>obtain⟨Y,fn,tmps,D,h0,h1,h2⟩:=h;exact⟨Y,fn,tmps,D,h0,by rw[hb];exact h1,h2.mono hg⟩
 | gone=>obtain⟨o,h,h'⟩:=h;exact⟨o,by rw[hb];exact h,h'⟩
 | Rp=>show _=_;rw[hb];exact h
 | map kt vt m=>obtain⟨es,clock,h1,h2,h3⟩:=h;exact⟨es,clock,by rw[hb];exact h1,h2,h3.mono hg⟩
 | lI e cap t xs d=>obtain⟨cur,h1,h2,h4,h5,h6⟩:=h;exact⟨cur,by rw[hb];exact h1,h2,λi x hx=>(h4 i x hx).mono hg,h5.mono hg,h6⟩
theorem fh.alloc(w:U)(o:Obj):fh w (w.alloc o):=⟨si,λb hb=>heap_alloc_old w o b hb⟩
theorem fh.trans{w1 w2 w3:U}(h:fh w1 w2)(h':fh w2 w3):fh w1 w3:=⟨oM h.1 h'.1,λb hb=>(h'.2 b (jS hb h.1)).trans (h.2 b hb)⟩
theorem yX.same{x:cL}{h:Value}(hg:yX E w G x h)(hs:fh w w')(hi:∀b,b∈G'.i->b<w.heap.size->b∈G.i)(GO:∀b o,b<w.heap.size->G'.pr b o->G.pr b o):yX E w' G' x h:=by
 obtain⟨n,xs,ho,hz,hb⟩:=hg;refine⟨n,xs,⟨ho.1,?_⟩,hz,λb GJ=>?_⟩
 ·rcases ho.2 with h2|⟨g,cap,cur,h2,h3,h4,h5⟩
  ·exact .inl h2
  ·exact .inr ⟨g,cap,cur,h2,h3,by rw[hs.2 g (Av.1 h4).1];exact h4,h5⟩
 ·obtain⟨h1,h2,h3⟩:=hb b GJ
  exact⟨jS h1 hs.1,λhm=>h2 (hi b hm h1),λo hno tc=>h3 o hno (GO b o h1 tc)⟩
theorem sW.keep{x x':cL}{hd:Value}{c:Cn E}(h:sW E w G x hd c)(he:x'.e=x.e)(hk:x'.k=x.k)(tc:∀b o,G.pr b o->G'.pr b o)(hcl:∀b o v,G.pr b o->w.cell? ⟨b,o,WP⟩=W0 v->w'.cell? ⟨b,o,WP⟩=W0 v)(hb:∀b,hd.ownBlock=W0 b->w'.heap[b]? = w.heap[b]?/\∀o,G'.pr b o->G.pr b o):
  sW E w' G' x' hd c:=by
 obtain⟨h1,h2,⟨vals,ho,hf⟩,hp⟩:=h;refine⟨by rw[hk];exact h1,by rw[hk];exact h2,⟨vals,⟨by rw[hk];exact ho.1,?_⟩,by rw[hk];exact hf.mono tc hcl⟩,λb hbk o tc=>hp b hbk o ((hb b hbk).2 o tc)⟩;rcases ho.2 with q|⟨g,cap,cur,q1,q2,q3,q4⟩
 ·exact .inl q
 ·refine .inr ⟨g,cap,cur,q1,q2,?_,by rw[hk];exact q4⟩
  rw[(hb g (by rw[q1];rfl)).1,he];exact q3
theorem kN.keep{cs:J (Nat×Cn E)}(h:kN E w G cs)(hg:iK w G w' G')(hrow:∀(j:Nat) x hd,G.g[j]? = W0 (x,hd)->(∃c,(j,c)∈cs)->∃x',G'.g[j]? = W0 (x',hd)/\x'.e=x.e/\x'.k=x.k/\∀b,hd.ownBlock=W0 b->w'.heap[b]? = w.heap[b]?/\∀o,G'.pr b o->G.pr b o):
  kN E w' G' cs:=by
 intro j c hj;obtain⟨x,hd,h1,h2⟩:=h j c hj;obtain⟨x',q1,q2,q3,q4⟩:=hrow j x hd h1 ⟨c,hj⟩;exact⟨x',hd,q1,h2.keep q2 q3 hg.pr hg.cells q4⟩
theorem Rel.grow(h:Rel E w0 G0 st a w G)(hs:fh w w')(h1:w'.os=w.os)(h2:w'.tape=w.tape)(h3:w'.output=w.output)(lQ:Nat->Nat->Prop)
  (hp:∀b o,G.pr b o->lQ b o) (GO:∀b o,b<w.heap.size->lQ b o->G.pr b o) (hpn:∀b o,lQ b o->b<w'.heap.size) :
  Rel E w0 G0 st a w' {G with pr:=lQ}:=by
 have hg:iK w G w' {G with pr:=lQ}:=⟨hp,λb o v _ hv=>hs.cell hv,λ_ _ h=>h,λj x y hj=>⟨x,y,hj,eu _,λ_=>rfl⟩⟩;have ev:=h.ff
 refine⟨⟨h1.trans ev.os,h2.trans ev.tape,h3.trans ev.output,oM ev.size hs.1,λb hb hn=>(hs.2 b (jS hb ev.size)).trans (ev.old b hb hn),ev.goes.trans hg,
  λb o hb tc=>ev.oz b o hb (GO b o (jS hb ev.size) tc),ev.qO,ev.gM⟩,h.size,λj d hj=>(h.tmps j d hj).mono hg,h.defers.mono hg,?_,λr b hb hd=>(hs.2 b (h.boxes.lt b (jx (h.ff.goes.i r b hb)))).trans (h.fix r b hb hd),h.pins,h.gv.keep hg λj x hd hj _=>⟨x,hj,rfl,rfl,λb hbk=>by
   obtain⟨n,xs,-,-,hb⟩:=h.boxes.grow j x hd hj;exact⟨hs.2 b (hb b hbk).1,λo=>GO b o (hb b hbk).1⟩⟩⟩
 refine⟨h.boxes.len,h.boxes.gs,λr b x hb hx=>(h.boxes.box r b x hb hx).mono hg (hs.2 b (h.boxes.lt b (jx hb))),λb hb=>jS (h.boxes.lt b hb) hs.1,h.boxes.nodup,
  λb o tc=>⟨hpn b o tc,λhm=>(h.boxes.gu b o (GO b o (h.boxes.lt b hm) tc)).2 hm⟩,λj x y hj=>(h.boxes.grow j x y hj).same hs (λb hb _=>hb) GO,h.boxes.apart⟩
theorem Rel.Kl(h:Rel E w0 G0 st a w G)(o:Obj)(x:fK E)(hx:jW E (w.alloc o) G w.heap.size x):
  Rel E w0 G0 {st with H:=st.H++[x]} a (w.alloc o) {G with i:=G.i++[w.heap.size]}:=by
 have h':=h.grow (fh.alloc w o) rfl rfl rfl G.pr (λ_ _ h=>h) (λ_ _ _ h=>h) (λb o' hp=>jS (h.boxes.gu b o' hp).1 si)
 have hg:iK (w.alloc o) G (w.alloc o) {G with i:=G.i++[w.heap.size]}:=⟨λ_ _ h=>h,λ_ _ _ _ h=>h,λr b hb=>by
  grind,λj x y hj=>⟨x,y,hj,Nat.le_refl _,λ_=>rfl⟩⟩
 have ev:=h'.ff;refine⟨⟨ev.os,ev.tape,ev.output,ev.size,ev.old,ev.goes.trans hg,ev.oz,λr b hl hb=>?_,ev.gM⟩,h.size,λj d hj=>(h'.tmps j d hj).mono hg,h'.defers.mono hg,?_,h'.fix,h.pins,h'.gv.keep hg λj x hd hj _=>⟨x,hj,rfl,rfl,λb hbk=>⟨rfl,λo h=>h⟩⟩⟩
 ·by_cases hr:r<G.i.length
  ·rw[vP hr]at hb
   exact ev.qO r b hl hb
  ·have:=(eY.1 hb).1
   simp at this;have hre:r=G.i.length:=om;subst hre;simp at hb;subst hb;exact h.ff.size
 refine⟨by simp[h.boxes.len],h.boxes.gs,λr b y hb hy=>?_,λb hb=>?_,?_,λb o' hp=>?_,λj y z hj=>?_,h.boxes.apart⟩
 ·by_cases hr:r<G.i.length
  ·rw[vP hr]at hb
   rw[vP (by rw[<-h.boxes.len];exact hr)]at hy;exact(h'.boxes.box r b y hb hy).mono hg rfl
  ·have:=(eY.1 hb).1
   simp at this;have hre:r=G.i.length:=om;subst hre;simp at hb;rw[h.boxes.len]at hy;simp at hy;subst hb;subst hy;exact hx.mono hg rfl
 ·rcases p8.1 hb with hb|hb
  ·exact h'.boxes.lt b hb
  simp_all
 ·refine List.nodup_append.2 ⟨h.boxes.nodup,si,λb hb c hc=>?_⟩
  simp at hc;subst hc;exact Nat.ne_of_lt (h.boxes.lt b hb)
 ·obtain⟨p1,p2⟩:=h.boxes.gu b o' hp
  refine⟨jS p1 si,λhm=>?_⟩
  simp_all
 ·refine(h.boxes.grow j y z hj).same (fh.alloc w o) (λb hb hlt=>?_) (λ_ _ _ h=>h)
  grind
end Go.RT
namespace Go.RT
variable {E : TEnv}
variable{P:bh}{w0 w w' w'':U}{G0 G G' G'':bx}{st:TS E}{a:Act}{o:Oper}
theorem Rel.yZ(h:Rel E w0 G0 st a w G){r b:Nat}(hat:G.i[r]? = W0 b)(hsz:w'.heap.size=w.heap.size)(h1:w'.os=w.os)(h2:w'.tape=w.tape)(h3:w'.output=w.output)
  (nU:∀b',b'≠b->w'.heap[b']? = w.heap[b']?) {x:fK E} (hx:iK w G w' G->jW E w' G b x):Rel E w0 G0 {st with H:=st.H.set r x,d:=r::st.d} a w' G:=by
 have hin:=jx hat;have asb:=λo hp=>(h.boxes.gu b o hp).2 hin
 have hg:iK w G w' G:=⟨λ_ _ h=>h,λb' o v hp hv=>by
  have:b'≠b:=λe=>by subst e;exact asb o hp
  rw[PU (nU b' this)];exact hv,λ_ _ h=>h,λj x y hj=>⟨x,y,hj,eu _,λ_=>rfl⟩⟩
 have ev:=h.ff
 refine⟨⟨h1.trans ev.os,h2.trans ev.tape,h3.trans ev.output,by rw[hsz];exact ev.size,λb' hb' hn=>?_,ev.goes.trans hg,ev.oz,ev.qO,ev.gM⟩,h.size,λj d hj=>(h.tmps j d hj).mono hg,h.defers.mono hg,?_,λr' b' hb' hd=>?_,h.pins,h.gv.keep hg λj y z hj _=>⟨y,hj,rfl,rfl,λc hbk=>⟨nU c (λe=>by
   obtain⟨n,xs,-,-,hb⟩:=h.boxes.grow j y z hj
   simp_all),λo h=>h⟩⟩⟩
 ·rw[nU b' (λe=>?_)]
  ·exact ev.old b' hb' hn
  ·subst e
   by_cases hr:r<G0.i.length
   ·have e1:=ev.goes.i r _ (fJ hr)
    rw[hat]at e1;exact hn (.inl (by simp_all))
   ·have:=ev.qO r b' om hat
    omega
 rotate_left
 ·simp at hd
  have q0:=ev.goes.i r' b' hb';rw[nU b' (λe=>?_)]
  ·exact h.fix r' b' hb' hd.2
  ·subst e
   have q1:=eY.1 hat;have q2:=eY.1 q0;exact hd.1 ((Tf h.boxes.nodup).1 (q2.2.trans q1.2.symm))
 refine⟨by simp[h.boxes.len],h.boxes.gs,λr' b' y hb' hy=>?_,λb' hb'=>by rw[hsz];exact h.boxes.lt b' hb',h.boxes.nodup,λb' o hp=>by rw[hsz];exact h.boxes.gu b' o hp,λj y z hj=>?_,h.boxes.apart⟩
 ·by_cases hr:r=r'
  ·grind
  ·have hne:b'≠b:=λe=>by
    subst e;have q1:=eY.1 hat;have q2:=eY.1 hb';exact hr ((Tf h.boxes.nodup).1 (q1.2.trans q2.2.symm))
   rw[Nx hr]at hy;exact(h.boxes.box r' b' y hb' hy).mono hg (nU b' hne)
 ·obtain⟨n,xs,ho,hz,hb⟩:=h.boxes.grow j y z hj
  refine⟨n,xs,⟨ho.1,?_⟩,hz,λc hcl=>?_⟩
  ·rcases ho.2 with h2|⟨g,cap,cur,h2,h3,h4,h5⟩
   ·exact .inl h2
   ·refine .inr ⟨g,cap,cur,h2,h3,?_,h5⟩
    rw[nU g (λe=>?_)]
    ·exact h4
    ·subst e
     exact(hb g (by rw[h2];rfl)).2.1 hin
  simp_all
def jT(P:bh)(w0:U)(G0:bx)(a:Act)(w:U)(o:Oper)(st':TS E):Prop:=
 ∃nx v w' G',(execOp a.eval o).run P w=.ok nx w'/\(nx=.value v\/(nx=.skip/\v=undef))/\Rel E w0 G0 st' (a.put o.dst v) w' G'
theorem jB.aj6(hr:Rel E w0 G0 st a w G){d:TV E}(h:jB P a w G o d):jT P w0 G0 a w o {st with t:=cz st.t o.dst d}:=by
 obtain⟨v,hv,hrun⟩:=h;exact⟨_,v,w,G,hrun w (It.refl _ w),.inl rfl,hr.put hv o.dst⟩
theorem JA(hr:Rel E w0 G0 st a w G){ob:Obj}{x:fK E}(hx:jW E (w.alloc ob) G w.heap.size x)
  (hrun:(execOp a.eval o).run P w=.ok (.value (.pointer (W0 ⟨w.heap.size,0,WP⟩))) (w.alloc ob)) :
  jT P w0 G0 a w o {st with t:=cz st.t o.dst (.ptr st.H.length 0),H:=st.H++[x]}:=by
 have hN:=hr.Kl ob x hx;refine⟨_,_,_,_,hrun,.inl rfl,hN.put ?_ o.dst⟩;simp[VT];rw[<-hr.boxes.len];simp
theorem afF(hE:E.Ok)(hr:Rel E w0 G0 st a w G){t:aK}{x y:dB}{i:TI}(ho:o.op=.store t x y)(ht:aV P t=W0 i){r off:Nat}(hd:st.ev x=.ptr r off)
  {t':aK} {cs ds:J (TV E)} (hb:st.H[r]? = W0 (.cells t' cs)) (hy:(st.ev y).o8=W0 ds) (h4:ds.length=i.size) (h5:off+i.size<=cs.length) :
  jT P w0 G0 a w o {st with t:=cz st.t o.dst .any,H:=st.H.set r (.cells t' (cs.take off++ds++cs.drop (off+ds.length))),d:=r::st.d}:=by
 have Ah:=hr.ev x;rw[hd]at Ah;obtain⟨b,he,hat⟩:=Ah;obtain⟨vs,hh,hone,hvs⟩:=hr.box hat hb;obtain⟨hl,hl1⟩:=sY hE (hr.ev y) hy;have hlen:(a.eval y).cells.toList.length=i.size:=by rw[hl.length,h4]
 have hlen':(a.eval y).cells.size=i.size:=by simpa using hlen
 have hsz:vs.size=cs.length:=by simpa using hvs.length
 obtain⟨xt,jU,-,hxs,-⟩:=aP ht;have hfit:off+0+(a.eval y).cells.toList.length<=vs.size:=by rw[hsz];omega
 have T8:=run_storeCells_at (P:=P) b off t' (a.eval y).cells.toList 0 vs w hh hfit (λv hv=>hl1 v (by simpa using hv))
 let new:=(vs.toList.take off++(a.eval y).cells.toList++vs.toList.drop (off+(a.eval y).cells.toList.length)).toArray
 have hrun:(execOp a.eval o).run P w=.ok .skip (w.setRow b new):=by
  simp[execOp,ho,Instr.storeAt,Instr.sureAddr,he,storeVar,fu jU,hxs,hlen'];simp only[T8];rfl
 have hnew:(w.setRow b new).heap[b]? = W0 (.cells new t' (0,0)):=setRow_heap w b vs _ t' _ hh;have Es:∀b',b'≠b->(w.setRow b new).heap[b']? = w.heap[b']?:=λb' hb'=>setRow_other w b b' _ hb'
 have hR:=hr.yZ (w':=w.setRow b new) hat si rfl rfl rfl Es (x:=.cells t' (cs.take off++ds++cs.drop (off+ds.length))) (λhg=>by
  refine⟨new,hnew,λu hu=>?_,?_⟩
  ·grind
  ·have:=(((hvs.mono hg).take off).append (hl.mono hg)).append ((hvs.mono hg).drop (off+ds.length))
   grind)
 refine⟨_,undef,_,G,hrun,.inr ⟨rfl,rfl⟩,hR.put (by simp[VT]) o.dst⟩
variable{e:aK}{k:Nat}
theorem Rel.CK(h:Rel E w0 G0 st a w G)(x:cL)(hd:Value)(hok:yX E w G x hd)(hnew:∀b,hd.ownBlock=W0 b->w0.heap.size<=b)
  (hap:∀(j:Nat) y z b,G.g[j]? = W0 (y,z)->z.ownBlock=W0 b->hd.ownBlock≠W0 b) :
  Rel E w0 G0 {st with g:=st.g++[x]} a w {G with g:=G.g++[(x,hd)]}:=by
 have hg:iK w G w {G with g:=G.g++[(x,hd)]}:=⟨λ_ _ h=>h,λ_ _ _ _ h=>h,λ_ _ h=>h,λj y z hj=>⟨y,z,by
  grind,Nat.le_refl _,λ_=>rfl⟩⟩
 have last:∀(j:Nat) y z,(G.g++[(x,hd)])[j]? = W0 (y,z)->G.g[j]? = W0 (y,z)\/(j=G.g.length/\y=x/\z=hd):=by
  grind
 have ev:=h.ff
 refine⟨⟨ev.os,ev.tape,ev.output,ev.size,ev.old,ev.goes.trans hg,ev.oz,ev.qO,λj y z b hj hb=>?_⟩,h.size,λj d hj=>(h.tmps j d hj).mono hg,h.defers.mono hg,?_,h.fix,h.pins,h.gv.keep hg λj y z hj _=>⟨y,by
   grind,rfl,rfl,λb hbk=>⟨rfl,λo h=>h⟩⟩⟩
 ·rcases last j y z hj with hj|⟨-,-,rfl⟩
  ·exact ev.gM j y z b hj hb
  ·exact .inl (hnew b hb)
 refine⟨h.boxes.len,by simp[h.boxes.gs],λr b y hb hy=>(h.boxes.box r b y hb hy).mono hg rfl,h.boxes.lt,h.boxes.nodup,h.boxes.gu,λj y z hj=>?_,λj j' y z y' z' b hj hj' hb hb'=>?_⟩
 ·rcases last j y z hj with hj|⟨-,rfl,rfl⟩
  ·exact h.boxes.grow j y z hj
  ·exact hok
 ·rcases last j y z hj with q|⟨q1,-,q3⟩<;>rcases last j' y' z' hj' with q'|⟨q1',-,q3'⟩
  ·exact h.boxes.apart j j' y z y' z' b q q' hb hb'
  ·grind
  ·grind
  ·rw[q1,q1']
theorem Rel.amW(h:Rel E w0 G0 st a w G)(hz:E.zc e=WF):
  Rel E w0 G0 {st with g:=st.g++[⟨0,e,k⟩]} a (w.alloc (.cells #[] e))
   {G with g:=G.g++[(⟨0,e,k⟩,.slice (W0 ⟨w.heap.size,0,WP⟩) 0 0)]}:=by
 have hG:=h.grow (fh.alloc w (.cells #[] e)) rfl rfl rfl G.pr (λ_ _ h=>h) (λb o hb hp=>hp) (λb o hp=>jS (h.boxes.gu b o hp).1 si);refine hG.CK ⟨0,e,k⟩ (.slice (W0 ⟨w.heap.size,0,WP⟩) 0 0) ?_ (λb hb=>?_) (λj y z b hj hz hb=>?_)
 ·refine⟨0,[],⟨si,.inr ⟨w.heap.size,0,#[],rfl,gj _,heap_alloc_new w _,eu _,gj _,si,si⟩⟩,λa m _=>hz,λb hb=>?_⟩
  cases hb;refine⟨si,λhm=>?_,λo ho hp=>?_⟩
  ·exact absurd (h.boxes.lt _ hm) (zQ _)
  ·exact absurd (h.boxes.gu _ _ hp).1 (zQ _)
 ·cases hb;exact h.ff.size
 ·cases hb
  obtain⟨n',xs',-,-,hb'⟩:=h.boxes.grow j y z hj
  simp_all
theorem Rel.newRow(h:Rel E w0 G0 st a w G){n cap:Nat}{cur:aJ Value}(hsz:cur.size=cap*k)(hn:n<=cap)(hc0:0<cap)(hcap:cap<=maxLen):
  Rel E w0 G0 {st with g:=st.g++[⟨0,e,k⟩]} a (w.alloc (.cells cur e))
   {G with g:=G.g++[(⟨0,e,k⟩,.slice (W0 ⟨w.heap.size,0,WP⟩) n cap)],pr:=λb o=>G.pr b o\/(b=w.heap.size/\o<n*k)}:=by
 have hG:=h.grow (fh.alloc w (.cells cur e)) rfl rfl rfl (λb o=>G.pr b o\/(b=w.heap.size/\o<n*k)) (λ_ _ h=>.inl h)
  (λb o hb hp=>hp.elim id λq=>absurd hb (by rw[q.1];omega)) (λb o hp=>by
   rcases hp with hp|⟨rfl,-⟩
   ·exact jS (h.boxes.gu b o hp).1 si
   ·simp)
 refine hG.CK ⟨0,e,k⟩ (.slice (W0 ⟨w.heap.size,0,WP⟩) n cap) ?_ (λb hb=>?_) (λj y z b hj hz hb=>?_)
 ·refine⟨n,cur.toList.take (n*k),⟨?_,.inr ⟨w.heap.size,cap,cur,rfl,gj _,heap_alloc_new w _,hn,hcap,hsz,rfl⟩⟩,λa m e=>by simp at e;omega,λb hb=>?_⟩
  ·simp_all
  ·cases hb
   refine⟨si,λhm=>?_,λo ho hp=>?_⟩
   ·exact absurd (h.boxes.lt _ hm) (zQ _)
   ·rcases hp with hp|⟨-,hlt⟩
    ·exact absurd (h.boxes.gu _ _ hp).1 (zQ _)
    grind
 ·cases hb;exact h.ff.size
 ·cases hb
  obtain⟨n',xs',-,-,hb'⟩:=h.boxes.grow j y z hj
  simp_all
variable{j:Nat}
theorem Rel.Qj(h:Rel E w0 G0 st a w G){x:cL}{hd hd':Value}(hj:G.g[j]? = W0 (x,hd))(Be:∀c,(j,c)∉st.c)(hsz:w.heap.size<=w'.heap.size)(h1:w'.os=w.os)(h2:w'.tape=w.tape)(h3:w'.output=w.output)
  (nU:∀b,b<w.heap.size->hd.ownBlock≠W0 b->w'.heap[b]? = w.heap[b]?) (hcells:∀b o v,G.pr b o->w.cell? ⟨b,o,WP⟩=W0 v->w'.cell? ⟨b,o,WP⟩=W0 v)
  (lQ:Nat->Nat->Prop) (hp:∀b o,G.pr b o->lQ b o) (GO:∀b o,lQ b o->G.pr b o\/hd'.ownBlock=W0 b)
  (hok:yX E w' {G with pr:=lQ} {x with aF:=x.aF+1} hd') (hblk:∀b,hd'.ownBlock=W0 b->w.heap.size<=b\/hd.ownBlock=W0 b) :
  Rel E w0 G0 {st with g:=st.g.set j {x with aF:=x.aF+1}} a w' {G with g:=G.g.set j ({x with aF:=x.aF+1},hd'),pr:=lQ}:=by
 obtain⟨n0,xs0,-,-,hhd⟩:=h.boxes.grow j x hd hj
 have at':∀(m:Nat) y z,(G.g.set j ({x with aF:=x.aF+1},hd'))[m]? = W0 (y,z)->(m=j/\y={x with aF:=x.aF+1}/\z=hd')\/(m≠j/\G.g[m]? = W0 (y,z)):=by
  grind
 have hg:iK w G w' {G with g:=G.g.set j ({x with aF:=x.aF+1},hd'),pr:=lQ}:=by
  refine⟨hp,hcells,λ_ _ h=>h,λm y z hm=>?_⟩
  grind
 have N8:=λb hb e=>(hhd b e).2.1 hb;have ev:=h.ff
 have hrow:∀b,b<w0.heap.size->hd.ownBlock=W0 b->G0.rows b:=λb hb e=>by
  rcases ev.gM j x hd b hj e with q|⟨y,z,q1,q2⟩
  ·omega
  ·exact⟨y,z,jx q1,q2⟩
 have aoU:=h.gv.keep hg λm y z hm hc=>by
  have hne:m≠j:=λe=>by simp_all
  obtain⟨n,xs,-,-,hq⟩:=h.boxes.grow m y z hm;refine⟨y,by grind,rfl,rfl,λb hb=>⟨nU b (hq b hb).1 (λe=>hne (h.boxes.apart m j y z x hd b hm hj hb e)),λo tc=>?_⟩⟩;rcases GO b o tc with q|q
  ·exact q
  ·rcases hblk b q with q'|q'
   ·grind
   ·exact(hne (h.boxes.apart m j y z x hd b hm hj hb q')).elim
 refine⟨⟨h1.trans ev.os,h2.trans ev.tape,h3.trans ev.output,oM ev.size hsz,λb hb hn=>?_,ev.goes.trans hg,λb o hb tc=>?_,ev.qO,λm y z b hm hb=>?_⟩,h.size,
  λm d hm=>(h.tmps m d hm).mono hg,h.defers.mono hg,?_,λr b hb hd=>(nU b (h.boxes.lt b (jx (ev.goes.i r b hb))) (N8 b (jx (ev.goes.i r b hb)))).trans (h.fix r b hb hd),h.pins,aoU⟩
 ·rw[nU b (jS hb ev.size) (λe=>hn (.inr (hrow b hb e)))]
  exact ev.old b hb hn
 ·rcases GO b o tc with q|q
  ·exact ev.oz b o hb q
  ·rcases hblk b q with q'|q'
   ·have:=ev.size;omega
   simp_all
 ·rcases at' m y z hm with⟨rfl,-,rfl⟩|⟨-,q⟩
  ·rcases hblk b hb with q|q
   ·exact .inl (oM ev.size q)
   ·exact ev.gM m x hd b hj q
  ·exact ev.gM m y z b q hb
 refine⟨h.boxes.len,?_,λr b y hb hy=>?_,λb hb=>jS (h.boxes.lt b hb) hsz,h.boxes.nodup,λb o tc=>?_,λm y z hm=>?_,λm m' y z y' z' b hm hm' hb hb'=>?_⟩
 ·rw[<-h.boxes.gs,Zj]
 ·have hm:=jx hb
  exact(h.boxes.box r b y hb hy).mono hg (nU b (h.boxes.lt b hm) (N8 b hm))
 ·rcases GO b o tc with q|q
  ·exact⟨jS (h.boxes.gu b o q).1 hsz,(h.boxes.gu b o q).2⟩
  ·obtain⟨n,xs,-,-,hq⟩:=hok
   simp_all
 ·rcases at' m y z hm with⟨-,rfl,rfl⟩|⟨hne,q⟩
  ·exact hok
  ·obtain⟨n,xs,ho,hz,hq⟩:=h.boxes.grow m y z q
   refine⟨n,xs,⟨ho.1,?_⟩,hz,λb hb=>?_⟩
   ·rcases ho.2 with q2|⟨g,cap,cur,q2,q3,q4,q5⟩
    ·exact .inl q2
    ·have vw:z.ownBlock=W0 g:=by rw[q2];rfl
     refine .inr ⟨g,cap,cur,q2,q3,?_,q5⟩;rw[nU g (hq g vw).1 (λe=>hne (h.boxes.apart m j y z x hd g q hj vw e))];exact q4
   ·obtain⟨p1,p2,p3⟩:=hq b hb
    refine⟨jS p1 hsz,p2,λo ho' tc=>?_⟩;rcases GO b o tc with q'|q'
    ·exact p3 o ho' q'
    ·rcases hblk b q' with N9|N9
     ·omega
     ·exact hne (h.boxes.apart m j y z x hd b q hj hb N9)
 ·have key:∀(m:Nat) y z,m≠j->G.g[m]? = W0 (y,z)->z.ownBlock=W0 b->hd'.ownBlock=W0 b->False:=by
   intro m y z hne q hb hb';obtain⟨n,xs,-,-,hq⟩:=h.boxes.grow m y z q;rcases hblk b hb' with N9|N9
   ·grind
   ·exact hne (h.boxes.apart m j y z x hd b q hj hb N9)
  rcases at' m y z hm with⟨e1,-,e2⟩|⟨hne,q⟩<;>rcases at' m' y' z' hm' with⟨e1',-,XF⟩|⟨aj7,q'⟩
  ·rw[e1,e1']
  ·grind
  ·grind
  ·exact h.boxes.apart m m' y z y' z' b q q' hb hb'
theorem Oa{l n:Nat}(hj:j<n)(hl:l<k):j*k+l<n*k:=by
 have:=zP k hj
 grind
variable{pr:Nat->Nat->Prop}{xs:J Value}{es fs:J (J DV)}
theorem Flat.append{ys:J Value}(h:Flat w pr k xs es)(h':Flat w pr k ys fs):Flat w pr k (xs++ys) (es++fs):=by
 have e1:∀j,j<es.length->(es++fs).getD j []=es.getD j []:=λj hj=>by grind
 have e2:∀j,¬ j<es.length->(es++fs).getD j []=fs.getD (j-es.length) []:=λj hj=>by grind
 refine⟨by simp[h.1,h'.1,VG],λj hj=>?_,λj l hj hl=>?_⟩
 ·by_cases hlt:j<es.length
  ·rw[e1 j hlt];exact h.2.1 j hlt
  ·rw[e2 j hlt];exact h'.2.1 _ (by simp at hj;omega)
 ·by_cases hlt:j<es.length
  ·have hq:j*k+l<xs.length:=by rw[h.1];exact Oa hlt hl
   have:(xs++ys).getD (j*k+l) undef=xs.getD (j*k+l) undef:=by grind
   rw[this,e1 j hlt];exact h.2.2 j l hlt hl
  ·have hge:=Nat.le_of_not_lt hlt
   have hq:es.length*k<=j*k+l:=oM (zP k hge) (Nat.le_add_right _ _)
   have hsub:j*k+l-es.length*k=(j-es.length)*k+l:=by
    rw[Nat.sub_mul];have:=zP k hge;omega
   have:(xs++ys).getD (j*k+l) undef=ys.getD ((j-es.length)*k+l) undef:=by
    simp;rw[Jp (by rw[h.1];exact hq),h.1,hsub]
   rw[this,e2 j hlt];exact h'.2.2 (j-es.length) l (by simp at hj;omega) hl
theorem Flat.nil:Flat w pr k [] []:=⟨si,λj hj=>by simp at hj,λj l hj=>by simp at hj⟩
theorem Flat.one(hk0:0<k)(h:Flat w pr k xs es):∀u,u∈xs->u.oneCell'=WF:=by
 intro u hu;obtain⟨q,hq,rfl⟩:=lH hu;have ZZ:q<es.length*k:=by rw[<-h.1];exact hq
 have:=(h.2.2 (q / k) (q%k) ((aeG hk0).2 ZZ) (Zh _ hk0)).one;rw[show q / k*k+q%k=q by have:=Nat.div_add_mod q k;grind]at this
 simp_all
theorem Ob{b cap:Nat}(hcap:es.length<=cap)
  (hx:∀q,q<es.length*k->pr b q/\w.cell? ⟨b,q,WP⟩=W0 (xs.getD q undef)) (h:Flat w pr k xs es) :
  VD w pr (.slice (W0 ⟨b,0,WP⟩) es.length cap) (.slice k es):=by
 refine .slice b 0 cap k es (λj l=>xs.getD (j*k+l) undef) hcap h.2.1 (λj l hj hl=>?_) (λj l hj hl=>h.2.2 j l hj hl)
 simp_all[Oa]
theorem Bf(g:Nat)(t:aK):∀(vs:J Value)(o:Nat)(cur:aJ Value)(w:U),w.heap[g]? = W0 (.cells cur t (0,0))->o+vs.length<=cur.size ->
  w.setCells g o vs=w.setRow g (cur.toList.take o++vs++cur.toList.drop (o+vs.length)).toArray
 | [],o,cur,w,hg,_=>by
  simp[World.setCells]
  grind[setRow_self]
 | v::rest,o,cur,w,hg,hl=>by
  simp[World.setCells];rw[setCell_eq_setRow w g o cur t (0,0) v hg];have ih:=Bf g t rest (o+1) (cur.setIfInBounds o v) (w.setRow g (cur.setIfInBounds o v)) (setRow_heap w g cur _ t _ hg) (by simp at hl⊢;omega);rw[ih,setRow_setRow];congr 2;have e:=list_seg_step cur.toList o v rest (by simp at hl⊢;omega);simpa using e
theorem VD.flat{v:Value}(hk:0<k)(h:VD w pr v (.slice k es)):
  ∃xs:J Value,Flat w pr k xs es/\((∃a,v=.slice a 0 0/\es=[])\/∃b off cap,v=.slice (W0 ⟨b,off,WP⟩) es.length cap/\es.length<=cap /\
   ∀q,q<es.length*k->pr b (off+q)/\w.cell? ⟨b,off+q,WP⟩=W0 (xs.getD q undef)):=by
 rcases h.wG with⟨ad,rfl,rfl⟩|⟨b,off,cap,c,rfl,hcap,hkk,h0,hv⟩
 ·exact⟨[],Flat.nil,.inl ⟨ad,rfl,rfl⟩⟩
 ·have T9:∀q,q<es.length*k->q / k<es.length/\q%k<k:=λq hq=>⟨(aeG hk).2 hq,Zh q hk⟩
  refine⟨(R0 (es.length*k)).map λq=>c (q / k) (q%k),⟨si,hkk,λj l hj hl=>?_⟩,.inr ⟨b,off,cap,rfl,hcap,λq hq=>?_⟩⟩
  ·have hlt:=Oa hj hl
   simp_all[Zc,Nat.mul_add_div,Nat.div_eq_of_lt,Zd]
  ·grind[Nat.div_add_mod]
theorem Rel.append(h:Rel E w0 G0 st a w G){t tx ty:aK}{i:TI}{j1 j2:Nat}{z:Value}(ht:aV P t=W0 ⟨.slice e,j1,j2,z⟩)(hi:aV P e=W0 i)
  (hk0:0<i.size) (hzs:i.zero.cells.size=i.size)  {x:cL} {v:Value} (hj:G.g[j]? = W0 (x,v)) (Be:∀c,(j,c)∉st.c) (qI:x.e=e) (hxk:x.k=i.size) 
  (hv:VD w G.pr v (.slice i.size es)) {y:Value} {news:J Value} (hsrc:Src P i.size tx y fs.length news w) (hf:Flat w G.pr i.size news fs)
  (h63:es.length+fs.length<=maxLen) (hbytes:(es.length+fs.length)*i.bytes<=140737488355328) :
  ∃v' w' lQ,(Builtin.append_ #[t,tx] ty #[v,y]).run P w=.ok v' w' /\
   Rel E w0 G0 {st with g:=st.g.set j {x with aF:=x.aF+1}} a w' {G with g:=G.g.set j ({x with aF:=x.aF+1},v'),pr:=lQ} /\
   VD w' lQ v' (.slice i.size (es++fs)):=by
 obtain⟨xt,jU,eB,-⟩:=aP ht;obtain⟨xe,Oc,Bb,hsz,hby,hz⟩:=aP hi;obtain⟨n,xs,ho,Od,hg⟩:=h.boxes.grow j x v hj;obtain⟨xs',hfl,zE⟩:=hv.flat hk0;have al5:maxLen=9223372036854775807:=rfl;subst qI;rw[hxk]at ho hg;by_cases hm:fs.length=0
 ·have hfs:fs=[]:=Ei hm
  subst hfs;have hnn:news=[]:=Ei (by simpa using hf.1);subst hnn;refine⟨v,w,G.pr,?_,h.Qj hj Be (eu _) rfl rfl rfl (λ_ _ _=>rfl) (λ_ _ _ _ h=>h) G.pr (λ_ _ h=>h) (λ_ _ h=>.inl h) ?_ (λb hb=>.inr hb),by simp_all⟩
  ·have Fp:Src P xe.size tx y 0 [] w:=by rw[hsz];exact hsrc
   rcases zE with⟨ad,rfl,-⟩|⟨b,off,cap,rfl,hcap,-⟩
   ·exact run_append_nothing w t tx ty x.e xe eB Oc ad 0 0 (eu _) y Fp
   ·exact run_append_nothing w t tx ty x.e xe eB Oc _ _ _ hcap y Fp
  ·exact⟨n,xs,by simp_all,Od,by simp_all⟩
 have Fp:Src P xe.size tx y fs.length news w:=by rw[hsz];exact hsrc
 have hzl:∀c,(Builtin.zeroCells i.zero.cells c).size=c*i.size:=λc=>by rw[size_zeroCells,hzs]
 have Km:=hfl.append hf;have hlen:(es++fs).length=es.length+fs.length:=by simp
 have grow:∀(base:O Addr)(old:Nat),v=.slice base es.length old->old<es.length+fs.length ->
   (Builtin.firstCells xe.size es.length (.slice base es.length old)).run P w.drew=.ok xs'.toArray w.drew ->
   ∃v' w' lQ,(Builtin.append_ #[t,tx] ty #[v,y]).run P w=.ok v' w' /\
   Rel E w0 G0 {st with g:=st.g.set j {x with aF:=x.aF+1}} a w' {G with g:=G.g.set j ({x with aF:=x.aF+1},v'),pr:=lQ} /\
   VD w' lQ v' (.slice i.size (es++fs)):=by
  intro base old hv0 hlt XG;have hfit:=growslice_fits (need:=es.length+fs.length) (old:=old) (bytes:=xe.bytes) hlt (by rw[hby];exact hbytes);have hr:=run_append_grow_src (P:=P) w t tx ty x.e xe i.zero eB Oc hz base es.length old xs' XG y fs.length news Fp hlt (by grind) hfit;have hge:=grownCap_ge w (es.length+fs.length) old x.e;have hcm:=grownCap_le_maxLen w (es.length+fs.length) old x.e h63;generalize hcap:grownCap w (es.length+fs.length) old x.e=cap at hr hge hcm;generalize hcs:(xs'++news).toArray++Builtin.zeroCells i.zero.cells (cap-(es.length+fs.length))=cs at hr
  have aj8:cs.size=cap*i.size:=by
   rw[<-hcs,aeE,aeF,Km.1,hzl,hlen,<-VG];congr 1;omega
  have hheap:(w.drew.alloc (.cells cs x.e)).heap=w.heap.push (.cells cs x.e):=rfl;have hnew:(w.drew.alloc (.cells cs x.e)).heap[w.heap.size]? = W0 (.cells cs x.e):=by rw[hheap];simp
  have hsame:fh w (w.drew.alloc (.cells cs x.e)):=⟨by rw[hheap];simp,λb hb=>by grind⟩
  have aaw:∀q,q<(es++fs).length*i.size->(w.drew.alloc (.cells cs x.e)).cell? ⟨w.heap.size,q,WP⟩=W0 ((xs'++news).getD q undef):=by
   intro q hq;rw[cell_of_row _ w.heap.size q cs x.e (0,0) hnew];have h1:q<(xs'++news).length:=by rw[Km.1];exact hq
   grind
  refine⟨_,_,λb o=>G.pr b o\/(b=w.heap.size/\o<(es++fs).length*i.size),by rw[hv0];exact hr,?_,?_⟩
  ·refine h.Qj hj Be hsame.1 rfl rfl rfl (λb hb _=>hsame.2 b hb) (λb o u _ hu=>hsame.cell hu) _ (λ_ _ h=>.inl h) (λb o hp=>?_) ?_ (λb hb=>?_)
   ·rcases hp with hp|⟨rfl,-⟩
    ·exact .inl hp
    ·exact .inr rfl
   ·refine⟨es.length+fs.length,cs.toList.take ((es.length+fs.length)*i.size),⟨?_,.inr ⟨w.heap.size,cap,cs,rfl,Nat.zero_le _,hnew,hge,hcm,by simp_all,by dsimp only;rw[hxk]⟩⟩,λa m e=>by simp at e;omega,λb hb=>?_⟩
    ·simp_all
    ·cases hb
     refine⟨by rw[hheap];simp,λhm=>absurd (h.boxes.lt _ hm) (zQ _),λo ho' hp=>?_⟩;rcases hp with hp|⟨-,hp⟩
     ·exact absurd (h.boxes.gu _ _ hp).1 (zQ _)
     ·dsimp only at ho'
      rw[hxk]at ho';rw[hlen]at hp;omega
   ·cases hb;simp_all
  ·rw[<-hlen]
   exact Ob (xs:=xs'++news) (by rw[hlen];exact hge) (λq hq=>⟨.inr ⟨rfl,hq⟩,aaw q hq⟩) (Km.mono (λ_ _ h=>.inl h) (λb o u _ hu=>hsame.cell hu))
 rcases zE with⟨ad,hv0,hes⟩|⟨b,off,cap,hv0,hcap,hcells⟩
 ·subst hes
  have hx':xs'=[]:=Ei (by simpa using hfl.1)
  cases ad with
  | some ad=>
   refine grow (W0 ad) 0 hv0 bp ?_;rw[hx',hsz]
   exact run_firstCells_some w.drew i.size 0 ad 0 0 [] si (λj u hu=>by simp at hu)
  | none=>
   refine grow WP 0 hv0 bp ?_;rw[hx'];simp[Builtin.firstCells]
 ·rcases ho.2 with⟨hvn,-⟩|⟨g,cap',cur,hvg,hBg,Iw,ata,hcm,hcs,atb⟩
  ·simp_all
  have aj9:=hvg;rw[hv0]at aj9;simp only[Value.slice.injEq,aeI,Addr.mk.injEq]at aj9;obtain⟨⟨rfl,rfl,-⟩,hn,rfl⟩:=aj9;by_cases hroom:es.length+fs.length<=cap
  ·
   have Ua:es.length*i.size+news.length<=cur.size:=by
    rw[hf.1,hcs,<-VG];simp_all[zP]
   have hr:=run_append_room_src (P:=P) w t tx ty x.e xe eB Oc b 0 es.length cap y fs.length news Fp hroom
    (λj hj=>by
     rw[cell_of_row w b _ cur x.e (0,0) Iw,hsz]
     grind)
    (λj hj=>frozen_of_row w b _ cur x.e Iw)
   rw[hsz,qJ,Bf b x.e news (es.length*i.size) cur w Iw Ua]at hr;obtain⟨g0,g1,g3⟩:=hg b (by rw[hv0];rfl)
   let cur':=(cur.toList.take (es.length*i.size)++news++cur.toList.drop (es.length*i.size+news.length)).toArray
   have atc:cur'.size=cur.size:=by
    grind
   have hhb:(w.setRow b cur').heap[b]? = W0 (.cells cur' x.e (0,0)):=setRow_heap w b cur _ x.e _ Iw;have Es:∀b',b'≠b->(w.setRow b cur').heap[b']? = w.heap[b']?:=λb' hb'=>setRow_other w b b' _ hb'
   have asd:xs'=cur.toList.take (es.length*i.size):=by
    have hl1:xs'.length=(cur.toList.take (es.length*i.size)).length:=by
     rw[hfl.1,As,show cur.toList.length=cur.size from Za,hcs]
     simp_all
    refine Au hl1 λq h1 h2=>?_;have hq:q<es.length*i.size:=by rw[<-hfl.1];exact h1
    have hc:=(hcells q hq).2;rw[qJ,cell_of_row w b q cur x.e (0,0) Iw]at hc
    grind
   have afG:cur'.toList=(xs'++news)++cur.toList.drop (es.length*i.size+news.length):=by
    grind
   have hgc:∀o u,G.pr b o->w.cell? ⟨b,o,WP⟩=W0 u->(w.setRow b cur').cell? ⟨b,o,WP⟩=W0 u:=by
    intro o u hp hu;rw[cell_of_row _ b o cur' x.e (0,0) hhb]
    grind
   have o9:∀b' o u,G.pr b' o->w.cell? ⟨b',o,WP⟩=W0 u->(w.setRow b cur').cell? ⟨b',o,WP⟩=W0 u:=by
    intro b' o u hp hu;by_cases he:b'=b
    ·simp_all
    ·rw[PU (Es b' he)];exact hu
   have aaw:∀q,q<(es++fs).length*i.size->(w.setRow b cur').cell? ⟨b,q,WP⟩=W0 ((xs'++news).getD q undef):=by
    intro q hq;rw[cell_of_row _ b q cur' x.e (0,0) hhb];have h1:q<(xs'++news).length:=by rw[Km.1];exact hq
    grind
   refine⟨_,_,λb' o=>G.pr b' o\/(b'=b/\o<(es++fs).length*i.size),by rw[hv0];exact hr,?_,?_⟩
   ·refine h.Qj (w':=w.setRow b cur') hj Be si rfl rfl rfl (λb' _ hne=>Es b' (λe'=>hne (by rw[hv0,e'];rfl))) o9 (λb' o=>G.pr b' o\/(b'=b/\o<(es++fs).length*i.size)) (λ_ _ h=>.inl h) (λb' o hp=>?_) ?_ (λb' hb'=>.inr (by rw[hv0];exact hb'))
    ·rcases hp with hp|⟨rfl,-⟩
     ·exact .inl hp
     ·exact .inr rfl
    ·refine⟨es.length+fs.length,xs'++news,⟨by dsimp only;rw[Km.1,hlen,hxk],.inr ⟨b,cap,cur',rfl,hBg,hhb,hroom,hcm,by simp_all,?_⟩⟩,λa m e=>by simp at e;omega,λg' hg'=>?_⟩
     ·dsimp only
      rw[hxk,afG,<-hlen,<-Km.1,List.take_left]
     ·cases hg'
      grind
   ·rw[show es.length+fs.length=(es++fs).length from hlen.symm]
    exact Ob (xs:=xs'++news) (by rw[hlen];exact hroom) (λq hq=>⟨.inr ⟨rfl,hq⟩,aaw q hq⟩) (Km.mono (λ_ _ hp=>.inl hp) o9)
  ·refine grow _ cap hv0 om ?_
   rw[hsz];refine run_firstCells_some w.drew i.size es.length ⟨b,0,WP⟩ es.length cap xs' hfl.1 (λj u hu=>?_);have hj:j<xs'.length:=(eY.1 hu).1;have:=(hcells j (by rw[<-hfl.1];exact hj)).2
   simp_all[add_lit]
end Go.RT
namespace Go.RT
variable {E : TEnv}
theorem Flat.We{w:U}{pr:Nat->Nat->Prop}{k:Nat}:∀ {rows:J (J Value)}{es:J (J DV)},rows.length=es.length->(∀j,j<es.length->(es.getD j []).length=k) ->
  (∀j,j<es.length->LD w pr (rows.getD j []) (es.getD j []))->Flat w pr k rows.flatten es
 | [],[],_,_,_=>Flat.nil
 | r::rows,e::es,hl,hk,h=>by
  have h0:=h 0 si;have hk0:=hk 0 si;simp at h0 hk0;have ih:=Flat.We (by simpa using hl) (λj hj=>by simpa using hk (j+1) (by simpa using hj)) (λj hj=>by simpa using h (j+1) (by simpa using hj))
  have h1:Flat w pr k r [e]:=by
   refine⟨by simp[h0.length,hk0],λj hj=>?_,λj l hj hl'=>?_⟩
   ·simp_all
   ·have:∀ {vs:J Value}{ds:J DV}(l:Nat),LD w pr vs ds->l<ds.length->VD w pr (vs.getD l undef) (ds.getD l default):=by
     intro vs
     induction vs with
     | nil=>intro ds l h hl;cases ds with|nil=>simp at hl|cons _ _=>exact h.elim
     | cons v vs ih=>
      intro ds l h hl
      cases ds with
      | nil=>exact h.elim
      | cons d ds=>
       cases l with
       | zero=>simpa using h.1
       | succ l=>simpa using ih l h.2 (by simpa using hl)
    simp_all
  have:=h1.append ih
  simpa using this
 | [],_::_,hl,_,_=>by simp at hl
 | _::_,[],hl,_,_=>by simp at hl
variable{w:U}{G:bx}{T:Ty}{v:Value}
theorem VT.Oe{x:T.den E.D}(h:VT E w G (.dat T x) v):LD w G.pr v.cells.toList (T.cells E x):=by
 cases ha:T.isAgg
 ·have h0:=h.atom ha
  have h1:=h0.one v si;have:v.cells=#[v]:=by cases v<;>first|rfl|cases h1
  rw[this];exact h0
 ·obtain⟨vs,rfl,h0⟩:=h.afE ha
  exact h0
def oA(T:Ty):J (TV E)->O (J (T.den E.D))
 | []=>W0 []
 | d::ds=>match d.get T,oA T ds with
  | some x,W0 xs=>W0 (x::xs)
  | _,_=>WP
theorem Kn{T:Ty}:∀ {ds:J (TV E)}{xs:J (T.den E.D)},oA T ds=W0 xs->xs.length=ds.length
 | [],xs,h=>by cases h;rfl
 | d::ds,xs,h=>by
  simp[oA]at h;split at h<;>try trivial
  rename_i x xs' h1 h2;cases h;simp[Kn h2]
variable{P:bh}{w0 w':U}{G0 G':bx}{st:TS E}{a:Act}{o:Oper}{k:Nat}{x:dB}{cs:J (TV E)}{e:aK}{n cap:Nat}{cur:aJ Value}{xs:J (T.den E.D)}{parts:aJ (Nat×dB)}{j1 j2:Nat}{z:Value}{ie:TI}{y:dB}{tx:aK}{ix:TI}{j:Nat}{ys:J (T.den E.D)}{g:cL}{news:J Value}
theorem Ub(hr:Rel E w0 G0 st a w G){T:Ty}:∀ {l:J dB}{xs:J (T.den E.D)},oA T (l.map st.ev)=W0 xs ->
  ∀j,j<l.length->LD w G.pr ((l.map λx=>(a.eval x).cells.toList).getD j []) ((xs.map (T.cells E)).getD j [])
 | [],xs,_,j,hj=>by simp at hj
 | x::l,xs,h,j,hj=>by
  simp[oA]at h;split at h<;>try trivial
  rename_i y ys h1 h2;cases h
  cases j with
  | zero=>simpa using(TV.uJ h1 (hr.ev x)).Oe
  | succ j=>simpa using Ub hr h2 j (by simpa using hj)
theorem afH(hr:Rel E w0 G0 st a w G){t:aK}{i:TI}(ho:o.op=.alloc t)(ht:aV P t=W0 i)(hz:i.zero.cells.toList.all (·.oneCell')=WF):
  jT P w0 G0 a w o {st with t:=cz st.t o.dst (.ptr st.H.length 0),H:=st.H++[.cells t (i.zero.cells.toList.map TV.Kj)]}:=by
 refine JA (ob:=.cells i.zero.cells t) hr ?_ ?_
 ·exact⟨i.zero.cells,heap_alloc_new w _,λu hu=>pE.1 hz u (by simpa using hu),bI.ofValues⟩
 ·simp[execOp,ho,Instr.alloc,nt ht]
  rfl
theorem aka(hE:E.Ok)(hr:Rel E w0 G0 st a w G){t:aK}(ho:o.op=.box t x)(hc:(st.ev x).o8=W0 cs):
  jT P w0 G0 a w o {st with t:=cz st.t o.dst (.ptr st.H.length 0),H:=st.H++[.cells t cs]}:=by
 obtain⟨h1,h2⟩:=sY hE (hr.ev x) hc;refine JA (ob:=.cells (a.eval x).cells t) hr ?_ ?_
 ·have hg:iK w G (w.alloc (.cells (a.eval x).cells t)) G:=⟨λ_ _ h=>h,λb o v _ hv=>(fh.alloc w _).cell hv,λ_ _ h=>h,λj x y hj=>⟨x,y,hj,eu _,λ_=>rfl⟩⟩
  exact⟨(a.eval x).cells,heap_alloc_new w _,h2,h1.mono hg⟩
 ·simp[execOp,ho]
  rfl
theorem Rel.aoV(h:Rel E w0 G0 st a w G)(hsz:cur.size=cap*k)(hn:n<=cap)(hc0:0<cap)(hcap:cap<=maxLen)(hk:k=T.size E)(hl:xs.length=n)
  (hf:Flat w G.pr k (cur.toList.take (n*k)) (xs.map (T.cells E))) (dst:O Nat) :
  ∃G',Rel E w0 G0 {st with t:=cz st.t dst (.cA st.g.length 0 T xs),g:=st.g++[⟨0,e,k⟩]} (a.put dst (.slice (W0 ⟨w.heap.size,0,WP⟩) n cap)) (w.alloc (.cells cur e)) G':=by
 have hN:=h.newRow (e:=e) hsz hn hc0 hcap;refine⟨_,hN.put ?_ dst⟩;refine⟨?_,⟨0,e,T.size E⟩,_,?_,eu _,λ_=>rfl⟩
 ·have hlm:(xs.map (T.cells E)).length=n:=by simp[hl]
  have:=Ob (w:=w.alloc (.cells cur e)) (pr:=λb o=>G.pr b o\/(b=w.heap.size/\o<n*T.size E)) (b:=w.heap.size) (by rw[hlm];exact hn)
   (λq hq=>by
    simp_all)
   (hf.mono (λ_ _ h=>.inl h) (λb o v _ hv=>(fh.alloc w _).cell hv))
  simp_all
 ·have:=h.boxes.gs
  grind
theorem Of{k:Nat}:∀(vs:J Value)(m:Nat)(cells:aJ Value),(∀v,v∈vs->v.cells.size=k)->(m+vs.length)*k<=cells.size ->
  Instr.fill (λi=>W0 (i*k,k)) cells ((List.range' m vs.length).zip vs)=W0 (cells.toList.take (m*k)++(vs.map λv=>v.cells.toList).flatten++cells.toList.drop ((m+vs.length)*k)).toArray
 | [],m,cells,_,_=>by simp[Instr.fill]
 | v::vs,m,cells,hk,hle=>by
  have hv:=hk v si;have hle':(m+1+vs.length)*k<=cells.size:=by simp_all[Nat.add_comm,Nat.add_left_comm]
  have hmk:m*k+k<=cells.size:=by
   grind
  simp[Zo];rw[N7 rfl hv hmk]
  have hsz:(cells.toList.take (m*k)++v.cells.toList++cells.toList.drop (m*k+v.cells.size)).toArray.size=cells.size:=by
   grind
  rw[Of vs (m+1) _ (λu hu=>hk u (by simp[hu])) (by rw[hsz];exact hle')]
  have hl2:(cells.toList.take (m*k)++v.cells.toList).length=(m+1)*k:=by
   grind
  rw[List.take_append_of_le_length (by simp_all),<-hl2,vQ]
  have hd:(cells.toList.take (m*k)++v.cells.toList++cells.toList.drop (m*k+v.cells.size)).drop ((m+1+vs.length)*k)=cells.toList.drop ((m+(vs.length+1))*k):=by
   rw[aeB]
   have h0:(cells.toList.take (m*k)++v.cells.toList).drop ((m+1+vs.length)*k)=[]:=by
    simp_all[zP]
   rw[aeS]
   grind
  simp_all
theorem Og(hE:E.Ok)(hr:Rel E w0 G0 st a w G){t:aK}{len:Nat}(ho:o.op=.buildSlice t len parts)
  (ht:aV P t=W0 ⟨.slice e,j1,j2,z⟩) (hi:aV P e=W0 ie) (h1:parts.toList.map (·.1)=R0 len) (h2:len*ie.size<=16777216) (h3:0<ie.size)
    (hk:ie.size=T.size E) (hx:oA T (parts.toList.map λp=>st.ev p.2)=W0 xs) :
  ∃cs:aJ Value,(execOp a.eval o).run P w=.ok (.value (.slice (W0 ⟨w.heap.size,0,WP⟩) len len)) (w.alloc (.cells cs e))/\cs.size=len*ie.size/\xs.length=len/\Flat w G.pr ie.size (cs.toList.take (len*ie.size)) (xs.map (T.cells E)):=by
 obtain⟨xt,jU,eB,-⟩:=aP ht;obtain⟨xe,qI,Bb,hsz,-⟩:=aP hi;have hlen:parts.toList.length=len:=by simpa using congrArg List.length h1
 let vs:=parts.toList.map λp=>a.eval p.2
 have hvl:vs.length=len:=by simp[vs,hlen]
 have aax:=Ub hr (by rw[yD];exact hx);have hxl:=Kn hx;have hrow:(parts.toList.map (·.2)).map (λx=>(a.eval x).cells.toList)=vs.map λv=>v.cells.toList:=by grind[Function.comp_def]
 rw[hrow]at aax;have Uc:xs.length=len:=by rw[hxl];simp[hlen]
 have hck:∀j,j<(xs.map (T.cells E)).length->((xs.map (T.cells E)).getD j []).length=ie.size:=λj hj=>by
  simp_all[Ty.AX]
 have aqH:=
  Flat.We (by simp[hvl,Uc]) hck (λj hj=>aax j (by simp_all))
 have hvk:∀v,v∈vs->v.cells.size=ie.size:=by
  intro v hv;obtain⟨j,hj,rfl⟩:=lH hv;have hjl:j<len:=by rw[<-hvl];exact hj
  have:=(aax j (by simpa[hlen]using hjl)).length
  simp_all
 have atj:(parts.map λ(i,x)=>(i,a.eval x)).toList=(List.range' 0 vs.length).zip vs:=by
  grind[List.range_eq_range',Array.toList_map]
 let zero:aJ Value:=if len*ie.size=0 then #[]else ie.zero.cells
 let base:aJ Value:=(Array.range (len*ie.size)).map (zero[· % zero.size]!)
 have Cb:base.size=len*ie.size:=by simp[base]
 have al6:=Of vs 0 base hvk (by rw[Cb,hvl];simp);have GJ:base.toList.length=base.size:=Za
 let cs:aJ Value:=((vs.map λv=>v.cells.toList).flatten).toArray
 have aoW:Instr.fill (λi=>W0 (i*ie.size,ie.size)) base (parts.map λ(i,x)=>(i,a.eval x)).toList=W0 cs:=by
  grind
 have hrun:(execOp a.eval o).run P w=.ok (.value (.slice (W0 ⟨w.heap.size,0,WP⟩) len len)) (w.alloc (.cells cs e)):=by
  simp only[execOp,ho,Instr.buildSlice,jm,aS eB,jL,fu qI,hsz];rw[if_neg (show ¬ len*ie.size>2^24 by simpa using h2)];have Ud:Instr.fill (λi=>W0 (i*ie.size,ie.size)) ((Array.range (len*ie.size)).map (zero[· % zero.size]!)) (parts.map λx=>(x.1,a.eval x.2)).toList=W0 cs:=aoW;by_cases h0:len*ie.size=0
  ·rw[if_pos h0]
   have hz:zero=#[]:=by grind
   rw[hz]at Ud;simp only[jm,pz,jL,Ud];rfl
  ·rw[if_neg h0]
   have hz:zero=ie.zero.cells:=by grind
   rw[hz]at Ud;simp only[jm,pz,nt hi,jL,Ud];rfl
 have hcs:cs.size=len*ie.size:=by
  have:=aqH.1
  grind
 grind
theorem Ue(hE:E.Ok)(hr:Rel E w0 G0 st a w G){t:aK}{len:Nat}(ho:o.op=.buildSlice t len parts)
  (ht:aV P t=W0 ⟨.slice e,j1,j2,z⟩) (hi:aV P e=W0 ie) (h1:parts.toList.map (·.1)=R0 len) (h2:len*ie.size<=16777216) (h3:0<ie.size) (h0':0<len)
    (hk:ie.size=T.size E) (hx:oA T (parts.toList.map λp=>st.ev p.2)=W0 xs) :
  jT P w0 G0 a w o {st with t:=cz st.t o.dst (.cA st.g.length 0 T xs),g:=st.g++[⟨0,e,ie.size⟩]}:=by
 obtain⟨cs,hrun,hcs,Uc,hfl⟩:=Og hE hr ho ht hi h1 h2 h3 hk hx
 obtain⟨G',hG'⟩:=hr.aoV hcs (eu _) h0' (by
   have:len<=len*ie.size:=aeD _ h3;have hm:maxLen=9223372036854775807:=rfl;omega) hk Uc hfl o.dst
 exact⟨_,_,_,G',hrun,.inl rfl,hG'⟩
theorem akb(hr:Rel E w0 G0 st a w G){e':aK}(htx:aV P tx=W0 ix)(Ru:ix.kind=.slice e')(hk0:0<T.size E)
  (hd:VD w G.pr (a.eval y) (.slice (T.size E) (xs.map (T.cells E)))):∃news,Src P (T.size E) tx (a.eval y) xs.length news w/\Flat w G.pr (T.size E) news (xs.map (T.cells E)):=by
 obtain⟨xt,jU,eB,-⟩:=aP htx;rw[Ru]at eB;obtain⟨cs,hfl,zE⟩:=hd.flat hk0;refine⟨cs,?_,hfl⟩;have hone:=hfl.one hk0;have hl:(xs.map (T.cells E)).length=xs.length:=by simp
 rcases zE with⟨ad,he,hn⟩|⟨b,off,cap,he,hcap,hcells⟩
 ·have hx:=Ei (by rw[hfl.1,hn];simp)
  have hx':xs=[]:=by simpa using hn
  subst hx';rw[he,hx]
  cases ad with
  | none=>exact Src.ofNil w eB 0
  | some ad=>simp_all[Src.ofSlice]
 ·rw[he,hl]
  refine Src.ofSlice w eB _ _ _ cs (by rw[hfl.1,hl]) (λj u hu=>?_) hone;have hj:=(eY.1 hu).1;have:=(hcells j (by rw[<-hfl.1];exact hj)).2
  simp_all[add_lit]
def cV(l:J UInt8):J Int:=l.map λb=>(b.toNat:Int)
theorem afI(hr:Rel E w0 G0 st a w G)(htx:aV P tx=W0 ix)(Ru:ix.kind=.string){l:J UInt8}(hd:st.ev y=.dat .str l):
  ∃news,Src P 1 tx (a.eval y) l.length news w/\Flat w G.pr 1 news ((cV l).map (Ty.cells E (.int .u8))):=by
 obtain⟨xt,jU,eB,-⟩:=aP htx;rw[Ru]at eB;have hv:=hr.ev y;rw[hd]at hv;rw[hv.iq];refine⟨byteCells ⟨⟨l⟩⟩,?_,?_⟩
 ·exact Src.ofString w eB ⟨⟨l⟩⟩
 ·refine⟨by simp[byteCells,cV],λj hj=>?_,λj k hj hk=>?_⟩
  ·simp_all[Ty.cells]
  ·simp[cV]at hj
   obtain rfl:k=0:=om;have e1:(byteCells ⟨⟨l⟩⟩).getD (j*1+0) undef=.int .u8 l[j].toNat:=by simp[byteCells,hj]
   have e2:(((cV l).map (Ty.cells E (.int .u8))).getD j []).getD 0 default=.int .u8 l[j].toNat:=by grind[cV,Ty.cells]
   rw[e1,e2];exact .int _ _
theorem acW(hE:E.Ok)(hr:Rel E w0 G0 st a w G){c:Call}{t:aK}(ho:o.op=.call c)(hcl:c.callee=.builtin .append)
  (ha:c.args.toList=[x,y]) (hat:c.argTypes.toList=[t,tx]) (ht:aV P t=W0 ⟨.slice e,j1,j2,z⟩) (hi:aV P e=W0 ie) {aF:Nat}  
  (hx:st.ev x=.cA j aF T xs)  (hg:st.g[j]? = W0 g) (Be:∀c,(j,c)∉st.c) (aay:g.aF=aF) (hge:g.e=e) (Bg:g.k=ie.size) (hk:ie.size=T.size E) (hk0:0<ie.size) (hzs:ie.zero.cells.size=ie.size)
  (h63:xs.length+ys.length<=9223372036854775807) (hbytes:(xs.length+ys.length)*ie.bytes<=140737488355328)
   (hsrc:Src P ie.size tx (a.eval y) ys.length news w) (hf:Flat w G.pr ie.size news (ys.map (T.cells E))) :
  jT P w0 G0 a w o {st with t:=cz st.t o.dst (.cA j (g.aF+1) T (xs++ys)),g:=st.g.set j {g with aF:=g.aF+1}}:=by
 have gF:c.args=#[x,y]:=by grind
 have yH:c.argTypes=#[t,tx]:=by grind
 have hv:=hr.ev x;rw[hx]at hv;obtain⟨AY,gx,gh,lF,hle,heq⟩:=hv
 have Iw:gx=g:=by
  have:=hr.boxes.gs
  grind
 subst Iw;have lS:=heq aay.symm;rw[<-lS]at lF;have hl1:(xs.map (T.cells E)).length=xs.length:=by simp
 have hl2:(ys.map (T.cells E)).length=ys.length:=by simp
 obtain⟨v',w',lQ,hrun,hR,hV⟩:=hr.append ht hi hk0 hzs lF Be hge Bg
  (by rw[hk];exact AY) (by rw[hl2];exact hsrc) hf (by rw[hl1,hl2];exact h63) (by simp_all)
 refine⟨.value v',v',w',_,?_,.inl rfl,hR.put ?_ o.dst⟩
 ·unfold execOp
  simp[ho,resolve,hcl,invoke,builtin,gF,yH];rw[hrun];rfl
 ·simp[VT]
  grind
def Sz:DV->DV->O Bool
 | .int _ a,.int _ b=>W0 (a==b)
 | .bool a,.bool b=>W0 (a==b)
 | .str a,.str b=>W0 (a==b)
 | _,_=>WP
def sE:J DV->J DV->O Bool
 | [],[]=>W0 WF
 | a::as,b::bs=>match Sz a b,sE as bs with
  | some p,W0 q=>W0 (p&&q)
  | _,_=>WP
 | _,_=>WP
def Ix(P:bh)(t:aK):DV->Bool
 | .int k _=>match P.underlying t with
  | some (.int k')=>T1 (k=k')
  | _=>UV
 | .bool _=>match P.underlying t with
  | some .bool=>WF
  | _=>UV
 | .str _=>match P.underlying t with
  | some .string=>WF
  | _=>UV
 | _=>UV
def wH(P:bh):Nat->J Field->J DV->J DV->Bool
 | _,[],[],[]=>WF
 | n,f::fs,d::ds,c::cs=>ST f.offset n && !(f.name == "_")&&Ix P f.type d&&Ix P f.type c&&wH P (n+1) fs ds cs
 | _,_,_,_=>UV
variable{pr:Nat->Nat->Prop}{u:Value}
theorem aqI{t:aK}{d c:DV}{b:Bool}(hu:VD w pr u d)(hv:VD w pr v c)(hd:Ix P t d=WF)(hc:Ix P t c=WF)(h:Sz d c=W0 b):
  (∀w',(isAgg t).run P w'=.ok UV w')/\∀w' n,(Op.equalIn (n+1) t u v).run P w'=.ok b w':=by
 unfold Sz at h;split at h<;>try trivial
 ·rename_i k a k' a'
  cases h;cases hu;cases hv;unfold Ix at hd hc
  cases ht:P.underlying t with
  | none=>rw[ht]at hd;cases hd
  | some dd=>
   rw[ht]at hd hc;cases dd<;>simp at hd hc;subst hd;subst hc;exact⟨λw'=>by simp[isAgg,aS ht],λw' n=>run_equalIn_int w' n t _ _ a a' ht⟩
 ·rename_i a a'
  cases h;cases hu;cases hv;unfold Ix at hd
  cases ht:P.underlying t with
  | none=>rw[ht]at hd;cases hd
  | some dd=>
   rw[ht]at hd;cases dd<;>simp at hd;exact⟨λw'=>by simp[isAgg,aS ht],λw' n=>run_equalIn_bool' w' n t a a' ht⟩
 ·cases hu
  cases hv;unfold Ix at hd
  cases ht:P.underlying t with
  | none=>rw[ht]at hd;cases hd
  | some dd=>
   rw[ht]at hd;cases dd<;>simp at hd
   exact⟨λw'=>by simp[isAgg,aS ht],λw' n=>by
    simp_all[run_equalIn_string,mkStr]⟩
theorem aaz{P:bh}{w:U}{pr:Nat->Nat->Prop}{xs ys:aJ Value}:∀(fs:J Field)(n:Nat)(as bs:J Value)(ds cs:J DV)(b:Bool),(∀j:Nat,xs[n+j]? = as[j]?)->(∀j:Nat,ys[n+j]? = bs[j]?) ->
  LD w pr as ds->LD w pr bs cs->wH P n fs ds cs=WF->sE ds cs=W0 b->∀w' d,(Op.eqFields (d+1) xs ys fs).run P w'=.ok b w'
 | [],n,as,bs,[],[],b,_,_,_,_,_,h,w',d=>by
  cases h
  simp[Op.eqFields]
 | f::fs,n,a::as,b'::bs,dd::ds,c::cs,b,hx,hy,hA,hB,hf,h,w',d=>by
  simp only[wH,cH]at hf;obtain⟨⟨⟨⟨f1,f2⟩,f3⟩,f4⟩,f5⟩:=hf;have f1:=eM f1
  have f2:f.name ≠ "_" := by simpa using f2
  unfold sE at h
  cases h1:Sz dd c with
  | none=>rw[h1]at h;cases h
  | some p=>
   cases h2:sE ds cs with
   | none=>rw[h1,h2]at h;cases h
   | some q=>
    rw[h2]at h;obtain⟨g1,g2⟩:=aqI hA.1 hB.1 f3 f4 h1;have hx0:xs[f.offset]? = W0 a:=by rw[f1];simpa using hx 0
    have hy0:ys[f.offset]? = W0 b':=by rw[f1];simpa using hy 0
    have px:∀w',(part f.type xs f.offset).run P w'=.ok a w':=λw'=>by simp[part,g1,hx0]
    have py:∀w',(part f.type ys f.offset).run P w'=.ok b' w':=λw'=>by simp[part,g1,hy0]
    have ih:=aaz fs (n+1) as bs ds cs q (λj=>by have:=hx (j+1);rw[show n+(j+1)=n+1+j by omega]at this;simpa using this) (λj=>by have:=hy (j+1);rw[show n+(j+1)=n+1+j by omega]at this;simpa using this) hA.2 hB.2 f5 h2 w' d;simp[Op.eqFields];simp[px,py,g2]
    grind
 | [],_,_,_,_::_,_,_,_,_,_,_,hf,_,_,_=>by simp[wH]at hf
 | [],_,_,_,[],_::_,_,_,_,_,_,hf,_,_,_=>by simp[wH]at hf
 | _::_,_,_,_,[],_,_,_,_,_,_,hf,_,_,_=>by simp[wH]at hf
 | _::_,_,_,_,_::_,[],_,_,_,_,_,hf,_,_,_=>by simp[wH]at hf
 | _::_,_,[],_,_::_,_::_,_,_,_,hA,_,_,_,_,_=>hA.elim
 | _::_,_,_::_,[],_::_,_::_,_,_,_,_,hB,_,_,_,_=>hB.elim
def eqX(P:bh)(t:aK)(yc:Bool)(x y:TV E):Option Bool:=
 match aV P t,x,y with
 | some ⟨.bool,_,_,_⟩,.dat .bool a,.dat .bool b=>W0 (a==b)
 | some ⟨.pointer _,_,_,_⟩,.qj c _ _,.val (.pointer WP)=>W0 (!c)
 | some ⟨.pointer _,_,_,_⟩,.ptr _ _,.val (.pointer WP)=>W0 UV
 | some ⟨.pointer _,_,_,_⟩,.sV _ _ _,.val (.pointer WP)=>W0 UV
 | some ⟨.pointer _,_,_,_⟩,.val (.pointer WP),.val (.pointer WP)=>W0 WF
 | some ⟨.pointer e,_,_,_⟩,.qj c r off,.ptr r' off'=>cond (ST r r'&&ST off off') (match aV P e with|some _=>W0 c|none=>WP) WP
 | some ⟨.interface _,_,_,_⟩,.iface _ _,.val .nilIface=>W0 UV
 | some ⟨.interface _,_,_,_⟩,.val .nilIface,.val .nilIface=>cond yc (W0 WF) WP
 | some ⟨.struct fs,_,_,_⟩,.dat a x,.dat b y=>cond (a.isAgg&&b.isAgg && !(P.stoodInHeld t) && !(P.eqGuardType P.depth t)&&wH P 0 fs.toList (a.cells E x) (b.cells E y)) (sE (a.cells E x) (b.cells E y)) WP
 | _,_,_=>WP
def isConst:dB->Bool
 | .const _=>WF
 | _=>UV
def Fq(op:BinOp)(b:Bool):Bool:=match op with
 | .eql=>b
 | _=>!b
theorem QM(a:Addr)(w:U):(sameAddr a a).run P w=.ok WF w:=by simp[sameAddr]
theorem uY{t:aK}{b:Bool}{op:BinOp}(hop:op=.eql\/op=.neq)(h2:∀w' d,(Op.equalIn (d+1) t u v).run P w'=.ok b w':=by intro w' d;simp[Op.equalIn,aS eB])
  (h1:∀w',(eqGuard op t x y u v).run P w'=.ok () w':=by intro w';rcases hop with rfl|rfl<;>rfl) (h3:∀op',op'=.eql\/op'=.neq->binOp op' t u v=(do let r <-Op.equal t u v;pure (.bool (Fq op' r))):=by intro op' h;rcases h with rfl|rfl<;>rfl) (w':U) :
  (do eqGuard op t x y u v;binOp op t u v).run P w'=.ok (.bool (Fq op b)) w':=by
 simp only[jm,h1,jL,h3 op hop,Op.equal,Op.maxDepth,h2 w' 9999,pz]
theorem XH{t:aK}{du dv:TV E}{b:Bool}
  (hu:VT E w G du u) (hv:VT E w G dv v) (h:eqX P t (isConst y) du dv=W0 b) (op:BinOp) (hop:op=.eql\/op=.neq) :
  ∀w',(do eqGuard op t x y u v;binOp op t u v).run P w'=.ok (.bool (Fq op b)) w':=by
 unfold eqX at h;split at h<;>try trivial
 ·rename_i j1 j2 z a c ht
  cases h;obtain⟨xt,jU,eB,-⟩:=aP ht;rw[hu.mu,hv.mu]at *;exact uY hop
 ·rename_i e j1 j2 z c r off ht
  cases h;obtain⟨xt,jU,eB,-⟩:=aP ht;cases c<;>simp only[VT]at hu hv
  ·subst hu;subst hv
   exact uY hop
  ·obtain⟨b,rfl,-⟩:=hu
   subst hv;exact uY hop
 ·rename_i e j1 j2 z r off ht
  cases h;obtain⟨xt,jU,eB,-⟩:=aP ht;simp only[VT]at hu hv;obtain⟨b,rfl,-⟩:=hu;subst hv;exact uY hop
 ·rename_i e j1 j2 z T y' off ht
  cases h;obtain⟨xt,jU,eB,-⟩:=aP ht;simp only[VT]at hu hv;obtain⟨b,o,c,rfl,-⟩:=hu;subst hv;exact uY hop
 ·rename_i e j1 j2 z ht
  cases h;obtain⟨xt,jU,eB,-⟩:=aP ht;simp only[VT]at hu hv;subst hu;subst hv;exact uY hop
 ·rename_i e j1 j2 z c r off r' off' ht
  obtain⟨xt,jU,eB,-⟩:=aP ht;cases hb:(ST r r'&&ST off off')<;>rw[hb]at h<;>simp only[aY,aM]at h
  ·cases h
  rw[cH]at hb;obtain rfl:=eM hb.1;obtain rfl:=eM hb.2;split at h<;>try trivial
  rename_i ie TY;cases h;obtain⟨xe,qI,-⟩:=aP TY;cases b<;>simp only[VT]at hu hv
  ·obtain⟨b,rfl,-⟩:=hv
   subst hu;exact uY hop
  ·obtain⟨b,rfl,h1⟩:=hu
   obtain⟨b',rfl,h2⟩:=hv;rw[h1]at h2;cases h2;exact uY hop (λw' d=>by simp[Op.equalIn,aS eB,sizeOf,typeInfo,qI,QM])
 ·rename_i ms j1 j2 z ty d ht
  cases h;obtain⟨xt,jU,eB,-⟩:=aP ht;simp only[VT]at hu hv;obtain⟨u',rfl,-⟩:=hu;subst hv;exact uY hop
 ·rename_i ms j1 j2 z ht
  obtain⟨xt,jU,eB,-⟩:=aP ht;simp only[VT]at hu hv;subst hu;subst hv;cases hc:isConst y<;>rw[hc]at h<;>simp only[aY,aM]at h
  ·cases h
  cases h;have hcy:∃c,y=.const c:=by unfold isConst at hc;grind
  obtain⟨c,rfl⟩:=hcy;exact uY hop (h1:=λw'=>by rcases hop with rfl|rfl<;>simp[eqGuard])
 ·rename_i fs j1 j2 z a x' b' y' ht
  obtain⟨xt,jU,eB,-⟩:=aP ht;cases hb:(a.isAgg&&b'.isAgg && !(P.stoodInHeld t) && !(P.eqGuardType P.depth t)&&wH P 0 fs.toList (a.cells E x') (b'.cells E y'))<;>rw[hb]at h<;>simp only[aY,aM]at h
  ·cases h
  simp only[cH,Ej]at hb;obtain⟨⟨⟨⟨a1,a2⟩,a3⟩,a4⟩,a5⟩:=hb;simp only[VT,a1]at hu;simp only[VT,a2]at hv;obtain⟨us,rfl,hu⟩:=hu;obtain⟨vs,rfl,hv⟩:=hv;have hfs:P.fieldsOf t=fs:=by unfold Program.fieldsOf;rw[eB]
  intro w'
  have he:(Op.equalIn 10000 t (.agg us) (.agg vs)).run P w'=.ok b w':=by
   grind[run_equalIn_struct,aaz]
  rcases hop with rfl|rfl
  ·simp only[jm,run_eqGuard_agg w' .eql t x y us vs a4,jL,run_eql_struct,he]
   rfl
  ·simp only[jm,run_eqGuard_agg w' .neq t x y us vs a4,jL,run_neq_struct,he]
   rfl
def y5(E:TEnv)(ty:O Ty):Value->TV E
 | .agg cs=>Qh E ty (cs.toList.map TV.Kj)
 | v=>.Kj v
def Wf(E:TEnv)(ty:aK->O Ty)(asserted:aK)(i:TI)(ok:Bool)(d:TV E):O (TV E):=
 match i.kind,d with
 | .interface _,_=>WP
 | _,.iface t v=>cond (ST t asserted) (W0 (cond ok (.tuple [v,.dat .bool WF]) v)) (cond ok (W0 (.tuple [y5 E (ty asserted) i.zero,.dat .bool UV])) WP)
 | _,.val .nilIface=>cond ok (W0 (.tuple [y5 E (ty asserted) i.zero,.dat .bool UV])) WP
 | _,_=>WP
def Uf(P:bh)(ty:aK->O Ty)(st:TS E):Op->O (Bool×TV E)
 | .binOp op t x y _=>match op,eqX P t (isConst y) (st.ev x) (st.ev y)with
  | .eql,W0 b=>W0 (WF,.dat .bool b)
  | .neq,W0 b=>W0 (WF,.dat .bool (!b))
  | _,_=>WP
 | .typeAssert x _ asserted ok=>match aV P asserted with
  | some i=>match Wf E ty asserted i ok (st.ev x)with
   | some d=>W0 (i.zero.cells.toList.all (·.oneCell'),d)
   | none=>WP
  | none=>WP
 | .call c=>match c.callee,c.args.toList,c.argTypes.toList with
  | .builtin .max,[x,y],_=>match st.ev x,st.ev y with
   | .dat (.int k) a,.dat (.int _) b=>W0 (WF,.dat (.int k) (cond (T1 (a<b)) b a))
   | _,_=>WP
  | .builtin .min,[x,y],_=>match st.ev x,st.ev y with
   | .dat (.int k) a,.dat (.int _) b=>W0 (WF,.dat (.int k) (cond (T1 (b<a)) b a))
   | _,_=>WP
  | .builtin .unsafeSliceData,[x],_=>match st.ev x with
   | .cA j aF (.int .u8) xs=>match st.g[j]? with
    | some g=>W0 (ST g.aF aF && !(E.zc g.e),.Ro j aF xs)
    | none=>WP
   | _=>WP
  | _,_,_=>WP
 | _=>WP
variable{ty:aK->O Ty}
theorem Qk(hE:E.Ok){ty:O Ty}(h:z.cells.toList.all (·.oneCell')=WF):VT E w G (y5 E ty z) z:=by
 cases z with
 | agg cs=>exact Jz hE bI.ofValues (λu hu=>pE.1 h u hu)
 | _=>simp_all[y5,aar]
theorem aaA(hE:E.Ok)(hr:Rel E w0 G0 st a w G){xt t:aK}{ok:Bool}{i:TI}{d:TV E}(ho:o.op=.typeAssert x xt t ok)(ht:aV P t=W0 i)(h:Wf E ty t i ok (st.ev x)=W0 d)
  (hz:i.zero.cells.toList.all (·.oneCell')=WF):jB P a w G o d:=by
 have hv:=hr.ev x;obtain⟨xi,hxi,eB,-⟩:=aP ht;have hzv:=Qk (w:=w) (G:=G) hE (ty:=ty t) hz;have dG:∀(u:Value)(d:TV E)(b:Bool),VT E w G d u->VT E w G (.tuple [d,.dat .bool b]) (.tuple #[u,.bool b]):=λu d b hd=>⟨_,rfl,.cons hd (.cons (.bool _ _ _) .nil)⟩
 suffices hs:∃v,VT E w G d v/\∀w',(Instr.typeAssert (a.eval x) xt t ok).run P w'=.ok v w' by
  obtain⟨v,h1,h2⟩:=hs;exact fU (f:=λρ=>Instr.typeAssert (ρ x) xt t ok) (by simp[execOp,ho]) ⟨v,h1,λw' _=>h2 w'⟩
 unfold Wf at h;split at h<;>try trivial
 ·rename_i ty' v' hd hni
  rw[hd]at hv;obtain⟨u,hu,hv⟩:=hv;cases hb:ST ty' t<;>rw[hb]at h<;>simp at h
  ·have hne:ty'≠t:=λe=>by simp_all
   cases ok<;>simp only[aY,aM]at h
   ·cases h
   cases h;unfold Instr.typeAssert
   simp_all[aS,nt]
  ·cases h
   cases ok
   ·unfold Instr.typeAssert
    simp_all[aS]
   ·unfold Instr.typeAssert
    simp_all[aS]
 ·rename_i hd hni
  rw[hd]at hv;cases ok<;>simp only[aY,aM]at h
  ·cases h
  cases h;rw[hv];unfold Instr.typeAssert
  simp_all[aS,nt]
theorem acX(hE:E.Ok)(hr:Rel E w0 G0 st a w G){d:TV E}{c:Bool}(h:Uf P ty st o.op=W0 (c,d))(hc:c=WF):jB P a w G o d:=by
 cases ho:o.op<;>rw[ho]at h<;>simp[Uf]at h<;>try trivial
 case binOp op t x y yt=>
  split at h<;>try trivial
  ·rename_i b hb
   cases h;exact fU (f:=λρ=>do eqGuard .eql t x y (ρ x) (ρ y);binOp .eql t (ρ x) (ρ y)) (by simp[execOp,ho]) ⟨_,.bool _ _ _,λw' _=>XH (hr.ev x) (hr.ev y) hb .eql (.inl rfl) w'⟩
  ·rename_i b hb
   cases h;exact fU (f:=λρ=>do eqGuard .neq t x y (ρ x) (ρ y);binOp .neq t (ρ x) (ρ y)) (by simp[execOp,ho]) ⟨_,.bool _ _ _,λw' _=>XH (hr.ev x) (hr.ev y) hb .neq (.inr rfl) w'⟩
 case typeAssert x xt t ok=>
  grind[aaA]
 case call c'=>
  split at h<;>try trivial
  ·rename_i _ x y hcl ha
   split at h<;>try trivial
   rename_i k p k' q hx hy;cases h;have Ah:=hr.ev x;rw[hx]at Ah;have Cc:=hr.ev y;rw[hy]at Cc;have gF:c'.args=#[x,y]:=by grind
   refine⟨_,.int _ _ _ _,λw' hs=>?_⟩;unfold execOp;simp[ho,resolve,hcl,invoke,builtin,gF];rw[Ah.fT,Cc.fT];simp only[Builtin.max_,List.foldlM_cons,Builtin.max2]
   simp_all
  ·rename_i _ x y hcl ha
   split at h<;>try trivial
   rename_i k p k' q hx hy;cases h;have Ah:=hr.ev x;rw[hx]at Ah;have Cc:=hr.ev y;rw[hy]at Cc;have gF:c'.args=#[x,y]:=by grind
   refine⟨_,.int _ _ _ _,λw' hs=>?_⟩;unfold execOp;simp[ho,resolve,hcl,invoke,builtin,gF];rw[Ah.fT,Cc.fT];simp only[Builtin.min_,List.foldlM_cons,Builtin.min2]
   simp_all
  ·rename_i _ x hcl ha
   split at h<;>try trivial
   rename_i j aF xs hx;split at h<;>try trivial
   rename_i g hg;cases h;rw[cH]at hc;obtain⟨hc,XI⟩:=hc;have aay:=eM hc;have gF:c'.args=#[x]:=by grind
   have hv:=hr.ev x;rw[hx]at hv;obtain⟨AY,gx,gh,lF,hle,heq⟩:=hv
   have Iw:gx=g:=by
    have h2:(G.g.map (·.1))[j]? = W0 gx:=by simp[lF]
    rw[hr.boxes.gs]at h2
    simp_all
   subst Iw;have lS:=heq aay.symm;obtain⟨n,ys,ho',Od,vw⟩:=hr.boxes.grow j gx gh lF;rcases AY.wG with⟨ad,he,hn⟩|⟨b,off,cap,c,he,hcap,hk,-⟩
   ·have hxs:xs=[]:=by simpa using hn
    have:ad=WP:=by
     cases ad with
     | none=>rfl
     | some ad=>grind
    subst this;refine⟨.pointer WP,?_,λw' hs=>?_⟩
    ·simp only[VT]
     exact⟨gx,gh,a.eval x,lF,hle,AY,λ_=>⟨lS,.inl ⟨by rw[<-lS,he],hxs,trivial⟩⟩⟩
    ·unfold execOp
     simp[ho,resolve,hcl,gF];rw[he];rfl
   ·have hl:(xs.map (Ty.cells E (.int .u8))).length=xs.length:=by simp
    rw[hl]at he;have hc0:cap≠0:=λe=>by grind
    have hoff:off=0:=by
     rcases ho'.2 with⟨hnil,-⟩|⟨g',cap',cur,h2,-⟩
     ·simp_all
     simp_all
    subst hoff;refine⟨.pointer (W0 ⟨b,0,WP⟩),?_,λw' hs=>?_⟩
    ·exact⟨gx,gh,a.eval x,lF,hle,AY,λ_=>⟨lS,.inr ⟨b,cap,by rw[<-lS,he],rfl⟩⟩⟩
    ·unfold execOp
     simp[ho,resolve,hcl,invoke,builtin,gF];rw[he,Lib.run_unsafeSliceData_row _ _ _ _ _ _ hc0];rfl
def Ug(P:bh)(ty:aK->O Ty)(st:TS E)(o:Op):O (Bool×TV E):=match Qi P ty st o with
 | some x=>W0 x
 | none=>Uf P ty st o
theorem aaB(hE:E.Ok)(hr:Rel E w0 G0 st a w G){d:TV E}{c:Bool}(h:Ug P ty st o.op=W0 (c,d))(hc:c=WF):jB P a w G o d:=by
 grind[Ug,acV,acX]
variable{i r:Nat}{src dst:aK}{off:Nat}
theorem Rel.Ko(h:Rel E w0 G0 st a w G)(e:TypeId)(k:Nat):Rel E w0 G0 {st with g:=st.g++[⟨0,e,k⟩]} a w {G with g:=G.g++[(⟨0,e,k⟩,.slice WP 0 0)]}:=by
 refine h.CK ⟨0,e,k⟩ (.slice WP 0 0) ⟨0,[],⟨si,.inl ⟨rfl,rfl⟩⟩,(λa m e=>nomatch e),(λb hb=>nomatch hb)⟩ (λb hb=>nomatch hb) (λj y z b hj hb e=>nomatch e)
theorem Rel.qm(h:Rel E w0 G0 st a w G):G.g.length=st.g.length:=by rw[<-h.boxes.gs];simp
theorem Oh(hl:G.g.length=st.g.length)(e:aK)(T:Ty):VT E w {G with g:=G.g++[(⟨0,e,T.size E⟩,.slice WP 0 0)]} (.cA st.g.length 0 T []) (.slice WP 0 0):=by
 refine⟨.vo _ _,⟨0,e,T.size E⟩,.slice WP 0 0,?_,eu _,λ_=>rfl⟩
 simp_all
theorem Rel.aqJ(h:Rel E w0 G0 st a w G)(hi:st.t[i]? = W0 (.val (.slice WP 0 0)))(e:aK)(T:Ty):
  ∃G',Rel E w0 G0 {st with t:=st.t.set i (.cA st.g.length 0 T []),g:=st.g++[⟨0,e,T.size E⟩]} a w G':=by
 have hN:=h.Ko e (T.size E);refine⟨_,hN.ff,by simpa using hN.size,λj d hj=>?_,hN.defers,hN.boxes,hN.fix,hN.pins,hN.gv⟩;simp[PG]at hj;by_cases hij:i=j
 ·subst hij
  have hlt:=(eY.1 hi).1;simp[hlt]at hj;subst hj;have hv:=h.tmps i _ hi;rw[hv];exact Oh h.qm e T
 ·rw[if_neg hij]at hj
  exact hN.tmps j d hj
theorem Rel.ahT(h:Rel E w0 G0 st a w G){c:Nat}{t:aK}(hr:st.H[r]? = W0 (.cells t cs))(hc:cs[c]? = W0 (.val (.slice WP 0 0)))(e:aK)(T:Ty):
  ∃G',Rel E w0 G0 {st with H:=st.H.set r (.cells t (cs.set c (.cA st.g.length 0 T []))),g:=st.g++[⟨0,e,T.size E⟩],d:=r::st.d} a w G':=by
 have hN:=h.Ko e (T.size E);have hlr:r<G.i.length:=by rw[h.boxes.len];grind
 have hat:=fJ hlr;have hS:=hN.yZ hat rfl rfl rfl rfl (λ_ _=>rfl) (x:=.cells t (cs.set c (.cA st.g.length 0 T []))) (λ_=>?_)
 ·exact⟨_,hS⟩
 ·obtain⟨vs,h1,h2,h3⟩:=hN.boxes.box r _ _ hat hr
  refine⟨vs,h1,h2,?_⟩;obtain⟨u,hu,hv⟩:=h3.get c hc;subst hv
  have key:∀(cs:J (TV E))(vs:J Value)(c:Nat)(d:TV E),bI E w {G with g:=G.g++[(⟨0,e,T.size E⟩,.slice WP 0 0)]} cs vs->vs[c]? = W0 (.slice WP 0 0) ->
    VT E w {G with g:=G.g++[(⟨0,e,T.size E⟩,.slice WP 0 0)]} d (.slice WP 0 0)->bI E w {G with g:=G.g++[(⟨0,e,T.size E⟩,.slice WP 0 0)]} (cs.set c d) vs:=by
   intro cs
   induction cs with
   | nil=>simp_all
   | cons x cs ih=>
    intro vs c d h1 h2 h3;obtain⟨u,us,rfl,q1,q2⟩:=h1.cons_inv
    cases c with
    | zero=>simp at h2;subst h2;exact .cons h3 q2
    | succ c=>exact .cons q1 (ih us c d q2 (by simpa using h2) h3)
  exact key cs vs.toList c _ h3 hu (Oh h.qm e T)
theorem Wg(hE:E.Ok)(hr:Rel E w0 G0 st a w G){c:Call}{t:aK}(ho:o.op=.call c)(hcl:c.callee=.builtin .append)
  (ha:c.args.toList=[x,y]) (hat:c.argTypes.toList=[t,tx]) (ht:aV P t=W0 ⟨.slice e,j1,j2,z⟩) (hi:aV P e=W0 ie)  
  (hx:st.ev x=.val (.slice WP 0 0)) (hk:ie.size=T.size E) (hk0:0<ie.size) (hzs:ie.zero.cells.size=ie.size)
  (h63:ys.length<=9223372036854775807) (hbytes:ys.length*ie.bytes<=140737488355328)
   (hsrc:Src P ie.size tx (a.eval y) ys.length news w) (hf:Flat w G.pr ie.size news (ys.map (T.cells E))) :
  jT P w0 G0 a w o {st with t:=cz st.t o.dst (.cA st.g.length 1 T ys),g:=st.g++[⟨1,e,ie.size⟩]}:=by
 have gF:c.args=#[x,y]:=by grind
 have yH:c.argTypes=#[t,tx]:=by grind
 have hv:=hr.ev x;rw[hx]at hv;have hN:=hr.Ko e ie.size;have hl2:(ys.map (T.cells E)).length=ys.length:=by simp
 have hrl:=hr.qm;have lF:(G.g++[(⟨0,e,ie.size⟩,Value.slice WP 0 0)])[G.g.length]? = W0 (⟨0,e,ie.size⟩,.slice WP 0 0):=by simp
 obtain⟨v',w',lQ,hrun,hR,hV⟩:=hN.append ht hi hk0 hzs lF (λc hc=>by
   obtain⟨x,h,h1,-⟩:=hr.gv _ c hc
   simp_all) rfl rfl
  (.vo _ _) (by rw[hl2];exact hsrc) hf (by simp;exact h63) (by simp_all)
 have mN:(st.g++[(⟨0,e,ie.size⟩:cL)]).set G.g.length ⟨0+1,e,ie.size⟩=st.g++[⟨1,e,ie.size⟩]:=by
  simp_all
 simp[mN]at hR;refine⟨.value v',v',w',_,?_,.inl rfl,hR.put ?_ o.dst⟩
 ·unfold execOp
  simp[ho,resolve,hcl,invoke,builtin,gF,yH];rw[hv,hrun];rfl
 ·simp[VT]
  grind
def Kg(l:J Int):Bool:=l.all λn=>T1 (0<=n)&&T1 (n<256)
def cu(l:J Int):J UInt8:=l.map λn=>UInt8.ofNat n.toNat
theorem afJ{l:J Int}(h:Kg l=WF){x:UInt8}(hx:(cu l)[j]? = W0 x):l[j]? = W0 (x.toNat:Int):=by
 unfold cu at hx;rw[Nw]at hx;obtain⟨n,hn,rfl⟩:=PE.1 hx;have:=pE.1 h n (jx hn);simp at this;rw[hn];simp;omega
theorem VD.Uh{xs:J Int}(h:VD w pr v (.slice 1 (xs.map (Ty.cells E (.int .u8))))):
  (∃ad,v=.slice ad 0 0/\xs=[])\/∃b off cap,v=.slice (W0 ⟨b,off,WP⟩) xs.length cap/\xs.length<=cap/\∀(j:Nat) n,xs[j]? = W0 n->pr b (off+j)/\w.cell? ⟨b,off+j,WP⟩=W0 (.int .u8 n):=by
 rcases h.wG with⟨ad,he,hn⟩|⟨b,off,cap,c,he,hcap,hk,h0,hc⟩
 ·simp_all
 ·refine .inr ⟨b,off,cap,by simpa using he,by simpa using hcap,λj n hj=>?_⟩
  have hjl:=(eY.1 hj).1;have h1:=h0 j 0 (by simpa using hjl) om;have h2:=hc j 0 (by simpa using hjl) om
  have e1:((xs.map (Ty.cells E (.int .u8))).getD j []).getD 0 default=.int .u8 n:=by
   grind[Option.some.inj,Ty.cells]
  rw[e1]at h2;rw[h2.fT]at h1;simpa using h1
theorem fold_push:∀(ns:J Int)(r:ByteArray),ns.foldl (λr n=>r.push (UInt8.ofNat n.toNat)) r=⟨⟨r.data.toList++cu ns⟩⟩
 | [],r=>by simp[cu]
 | n::ns,r=>by
  rw[vS,fold_push ns];simp[cu]
theorem GP(ad:Addr)(cap:Nat)(xs:J Int)(hc:∀(j:Nat) n,xs[j]? = W0 n->w.cell? (ad.add j)=W0 (.int .u8 n)):(Conv.bytesToString (.slice (W0 ad) xs.length cap)).run P w=.ok (mkStr (cu xs)) w:=by
 have hl:=run_loadCells (P:=P) w ad xs.length (λj=>.int .u8 (xs.getD j 0)) (λj hj=>hc j _ (by simp[hj]))
 have hm:((R0 xs.length).map λj=>Value.int .u8 (xs.getD j 0))=xs.map (Value.int .u8):=by
  apply Au si
  simp_all
 rw[run_bytesToString w ad xs.length cap xs (by simp_all),fold_push];rfl
theorem Oi(hr:Rel E w0 G0 st a w G){j3 j4 j5 j6:Nat}{z1 z2 z3:Value}(ho:o.op=.convert src dst x)(hs:aV P src=W0 ⟨.slice e,j1,j2,z1⟩)(hd:aV P dst=W0 ⟨.string,j3,j4,z2⟩)
  (he:aV P e=W0 ⟨.int .u8,j5,j6,z3⟩) {xs:J Int} (hx:s8 (st.ev x) (.int .u8) xs):jT P w0 G0 a w o {st with t:=cz st.t o.dst (.dat .str (cu xs))}:=by
 obtain⟨_,_,Rt,-⟩:=aP hs;obtain⟨_,_,hud,-⟩:=aP hd;obtain⟨_,_,Bb,-⟩:=aP he;have hv:=hx.vd (hr.ev x)
 have hrun:(convert src dst (a.eval x)).run P w=.ok (mkStr (cu xs)) w:=by
  rcases hv.Uh with⟨ad,jz,rfl⟩|⟨b,off,cap,jz,hcap,hc⟩
  ·rw[jz]
   cases ad with
   | none=>
    unfold convert;simp[aS Rt,aS hud,aS Bb]
    rfl
   | some ad=>
    have:=GP (P:=P) (w:=w) ad 0 [] (λj n hj=>by simp at hj);unfold convert
    simp_all[aS]
  ·have:=GP (P:=P) (w:=w) ⟨b,off,WP⟩ cap xs (λj n hj=>by simp_all[add_lit])
   unfold convert
   simp_all[aS]
 refine⟨_,mkStr (cu xs),w,G,?_,.inl rfl,hr.put (.str _ _ _) o.dst⟩;simp[execOp,ho,hrun]
theorem Rv(w:U)(p:Addr)(n b:Nat)(hb:b≠p.block):(w.freeze p n).heap[b]? = w.heap[b]?:=by
 unfold World.freeze
 grind
theorem acY(w:U)(p:Addr)(n:Nat)(x:Addr):(w.freeze p n).cell? x=w.cell? x:=by
 by_cases h0:n=0
 ·simp[World.freeze,h0]
 by_cases hx:x.block=p.block
 ·simp[World.cell?,World.freeze]
  grind
 grind[World.cell?_of_block,Rv]
theorem QN(hr:Rel E w0 G0 st a w G){c:Call}{pt it:TypeId}{j3 j4:Nat}{z1 z2:Value}(ho:o.op=.call c)(hcl:c.callee=.builtin .unsafeString)(ha:c.args.toList=[x,y])(hat:c.argTypes.toList=[pt,it])
  (hp:aV P pt=W0 ⟨.pointer e,j1,j2,z1⟩) (hce:P.cellsOf e=1) {aF:Nat} {xs:J Int} (hx:st.ev x=.Ro j aF xs)  (hg:st.g[j]? = W0 g) (Be:∀c,(j,c)∉st.c) (aay:g.aF=aF) (hge:g.e=e) (Bg:g.k=1)
  {n:Int} (hy:st.ev y=.dat (.int .i64) n) (hn:n=xs.length) (hok:Kg xs=WF) (h63:xs.length<=9223372036854775807) :
  jT P w0 G0 a w o {st with t:=cz st.t o.dst (.dat .str (cu xs)),g:=st.g.set j {g with aF:=g.aF+1}}:=by
 have gF:c.args=#[x,y]:=by grind
 have yH:c.argTypes=#[pt,it]:=by grind
 obtain⟨_,_,hup,-⟩:=aP hp;have hv:=hr.ev x;rw[hx]at hv;have Cc:=hr.ev y;rw[hy]at Cc;have Cc:=Cc.fT;subst hn;obtain⟨gx,gh,u,lF,hle,AY,heq⟩:=hv
 have Iw:gx=g:=by
  have h2:(G.g.map (·.1))[j]? = W0 gx:=by simp[lF]
  rw[hr.boxes.gs]at h2
  simp_all
 subst Iw;obtain⟨lS,zE⟩:=heq aay.symm;have hlen:(cu xs).length=xs.length:=by simp[cu]
 have step:∀w1,w.heap.size<=w1.heap.size->w1.os=w.os->w1.tape=w.tape->w1.output=w.output->(∀b,b<w.heap.size->gh.ownBlock≠W0 b->w1.heap[b]? = w.heap[b]?)->(∀b o v,G.pr b o->w.cell? ⟨b,o,WP⟩=W0 v->w1.cell? ⟨b,o,WP⟩=W0 v) ->
   ∃G1,Rel E w0 G0 {st with g:=st.g.set j {gx with aF:=gx.aF+1}} a w1 G1:=λw1 s1 s2 s3 s4 s5 s6=>
  ⟨_,hr.Qj lF Be s1 s2 s3 s4 s5 s6 G.pr (λ_ _ h=>h) (λ_ _ h=>.inl h) ⟨0,[],⟨si,.inl ⟨rfl,rfl⟩⟩,(λa m e=>nomatch e),(λb hb=>nomatch hb)⟩ (λb hb=>nomatch hb)⟩
 have nothing:(Builtin.unsafeString_ c.argTypes o.type #[a.eval x,a.eval y]).run P w=.ok (mkStr (cu xs)) w->jT P w0 G0 a w o {st with t:=cz st.t o.dst (.dat .str (cu xs)),g:=st.g.set j {gx with aF:=gx.aF+1}}:=by
  intro hrun;obtain⟨G1,hR⟩:=step w (eu _) rfl rfl rfl (λ_ _ _=>rfl) (λ_ _ _ _ h=>h);refine⟨_,mkStr (cu xs),w,G1,?_,.inl rfl,hR.put (.str _ _ _) o.dst⟩;unfold execOp;simp[ho,resolve,hcl,invoke,builtin,gF,hrun]
 by_cases h0:xs=[]
 ·subst h0
  refine nothing ?_;rw[Cc,yH];rcases zE with⟨-,-,he⟩|⟨b,cap,-,he⟩<;>rw[he]<;>exact Lib.run_unsafeString_none w pt it o.type _
 ·rcases zE with⟨-,hl,-⟩|⟨b,cap,hgh,he⟩
  ·exact(h0 hl).elim
  replace AY:VD w G.pr _ (.slice 1 (xs.map (Ty.cells E (.int .u8)))):=AY
  have hcell:∀(q:Nat) nn,xs[q]? = W0 nn->G.pr b q/\w.cell? ⟨b,q,WP⟩=W0 (.int .u8 nn):=by
   rcases AY.Uh with⟨ad,h1,h2⟩|⟨b',off,cap',h1,-,h3⟩
   ·exact(h0 h2).elim
   simp_all
  obtain⟨n',ys,hown,-,hblk⟩:=hr.boxes.grow j gx gh lF;rcases hown.2 with⟨hnil,-⟩|⟨gb,cap',cur,h2,-,hheap,hn',hcm,hcs,-⟩
  ·simp_all
  rw[hgh]at h2;obtain⟨⟨rfl,-,-⟩,rfl,rfl⟩:=h2
  have hsh:w.shape? b=W0 (e,cap):=by
   simp[World.shape?,hheap,hge,hcs,Bg]
  have hrun:=Lib.run_unsafeString_row w pt it o.type e hup hce b cap hsh (cu xs) (by simpa[cu]using h0) (by rw[hlen];exact hn') (by rw[hlen];exact h63)
   (λq u hq=>by simp_all[add_lit,afJ])
  rw[hlen]at hrun
  obtain⟨G1,hR⟩:=step (w.freeze ⟨b,0,WP⟩ xs.length) (by unfold World.freeze;split<;>simp) (by unfold World.freeze;split<;>rfl) (by unfold World.freeze;split<;>rfl) (by unfold World.freeze;split<;>rfl)
   (λb' _ hne=>Rv w _ _ b' (λe'=>hne (by rw[hgh];simp at e';rw[e'];rfl))) (λb' o' v _ hv=>by simp_all[acY])
  refine⟨_,mkStr (cu xs),_,G1,?_,.inl rfl,hR.put (.str _ _ _) o.dst⟩;unfold execOp;simp[ho,resolve,hcl,invoke,builtin,gF,yH];rw[he,Cc,hrun];rfl
theorem aaC(hr:Rel E w0 G0 st a w G)(ho:o.op=.convert src dst x)(hx:st.ev x=.ptr r off){t':aK}(hb:st.H[r]? = W0 (.cells t' cs))
  (zE:(∃t i,P.underlying src=W0 (.pointer t)/\P.underlying dst=W0 .unsafePointer/\aV P t=W0 i/\i.size≠0/\off<cs.length) \/
   ∃t i,P.underlying src=W0 .unsafePointer/\P.underlying dst=W0 (.pointer t)/\aV P t=W0 i/\liesAt P P.depth t' (cs.length / P.cellsOf t') off t 1=WF) :
  jT P w0 G0 a w o {st with t:=cz st.t o.dst (.ptr r off)}:=by
 have hv:=hr.ev x;rw[hx]at hv;have hv0:=hv;obtain⟨b,he,hat⟩:=hv;obtain⟨vs,hh,-,hvs⟩:=hr.box hat hb;have hsz:vs.size=cs.length:=by simpa using hvs.length
 have hsh:w.shape? b=W0 (t',cs.length):=by simp[World.shape?,hh,hsz]
 have hrun:(convert src dst (a.eval x)).run P w=.ok (a.eval x) w:=by
  grind[aP,Lib.run_to_unsafe,Lib.run_from_unsafe]
 refine⟨_,a.eval x,w,G,?_,.inl rfl,hr.put hv0 o.dst⟩;simp[execOp,ho,hrun]
open Go.MapKept
def jN{α β:Type}(eq:α->α->Bool)(m:J (α×β))(k:α)(v:β):J (α×β):=
 bif m.any (λp=>eq p.1 k)then m.map (λp=>bif eq p.1 k then(k,v)else p)else m++[(k,v)]
def fY{α β:Type}(eq:α->α->Bool)(m:J (α×β))(k:α)(z:β):β:=match m.find? (λp=>eq p.1 k)with|some p=>p.2|none=>z
def Et{α β:Type}(eq:α->α->Bool)(m:J (α×β))(k:α):Bool:=m.any (λp=>eq p.1 k)
def Ln:Ty->O (J Ty)
 | .int k=>W0 [.int k]
 | .bool=>W0 [.bool]
 | .str=>W0 [.str]
 | .unit=>W0 []
 | .pair a b=>match Ln a,Ln b with
  | some x,W0 y=>W0 (x++y)
  | _,_=>WP
 | _=>WP
def EU:DV->Value
 | .int k n=>.int k n
 | .bool b=>.bool b
 | .str l=>mkStr l
 | _=>undef
def Ty.fm(E:TEnv):(t:Ty)->t.den E.D->Value
 | .str,l=>mkStr l
 | .int k,n=>.int k n
 | .bool,b=>.bool b
 | .ext i,x=>.agg (((E.df i).cells E (E.AV i x)).map EU).toArray
 | _,_=>undef
def Oj(E:TEnv):(t:Ty)->t.den E.D->t.den E.D->Bool
 | .str,a,b=>a==b
 | .int _,a,b=>a==b
 | .bool,a,b=>a==b
 | .pair s t,a,b=>Oj E s a.1 b.1&&Oj E t a.2 b.2
 | .unit,_,_=>WF
 | _,_,_=>UV
def Ty.cW(E:TEnv):(t:Ty)->t.den E.D->t.den E.D->Bool
 | .str,a,b=>a==b
 | .int _,a,b=>a==b
 | .bool,a,b=>a==b
 | .ext i,a,b=>Oj E (E.df i) (E.AV i a) (E.AV i b)
 | _,_,_=>UV
def Eu:Ty->TypeDesc->Bool
 | .str,.string=>WF
 | .int k,.int k'=>T1 (k=k')
 | .bool,.bool=>WF
 | _,_=>UV
def afK(P:bh)(ty:aK):Ty->Bool
 | .int k=>match P.underlying ty with
  | some (.int k')=>T1 (k=k')
  | _=>UV
 | .bool=>match P.underlying ty with
  | some .bool=>WF
  | _=>UV
 | .str=>match P.underlying ty with
  | some .string=>WF
  | _=>UV
 | _=>UV
def Ai(P:bh):Nat->J Field->J Ty->Bool
 | _,[],[]=>WF
 | n,f::fs,t::ts=>ST f.offset n && !(f.name == "_")&&afK P f.type t&&Ai P (n+1) fs ts
 | _,_,_=>UV
def akc(E:TEnv)(P:bh)(k:aK):Ty->TypeDesc->Bool
 | .ext i,.struct fs=>(match Ln (E.df i)with
  | some ts=>Ai P 0 fs.toList ts
  | none=>UV) && !(P.stoodInHeld k)
 | _,_=>UV
def Wh(E:TEnv)(P:bh)(k:aK)(t:Ty)(d:TypeDesc):Bool:=Eu t d||akc E P k t d
structure Iy(E:TEnv)(P:Program)(k:TypeId)(t:Ty):Prop where
 vt:∀ {w:World}{G:bx}{x:t.den E.D}{v:Value},VT E w G (.dat t x) v->v=t.fm E x
 of:∀(w:World)(G:bx)(x:t.den E.D),VT E w G (.dat t x) (t.fm E x)
 cW:∀ {x y:t.den E.D},t.cW E x y=WF↔t.fm E x=t.fm E y
 check:∀(em:Bool)(x:t.den E.D)(w:World),(Instr.checkKey em 10000 k (t.fm E x)).run P w=.ok () w
 find:∀(x:t.den E.D)(es:List MapEntry)(w:World),(∀e∈es,∃y:t.den E.D,e.key=t.fm E y) ->
  ((Instr.findKey k (t.fm E x) es).run P w=.ok WP w/\∀e∈es,e.key≠t.fm E x) \/
  ∃(j:Nat)(e:MapEntry),(Instr.findKey k (t.fm E x) es).run P w=.ok (W0 (j,e.val)) w/\es[j]? = W0 e/\e.key=t.fm E x
 stays:∀(x:t.den E.D)(w:World),(Instr.keyThatStays (t.fm E x) (t.fm E x)).run P w=.ok (t.fm E x) w
variable{t:Ty}{d:TypeDesc}
theorem aoX(h:Eu t d=WF){k:t.den E.D}(hv:VT E w G (.dat t k) v):v=t.fm E k:=by
 unfold Eu at h;split at h<;>try trivial
 ·exact hv.iq
 ·exact hv.fT
 ·exact hv.mu
theorem akd(h:Eu t d=WF)(w:U)(G:bx)(k:t.den E.D):VT E w G (.dat t k) (t.fm E k):=by
 unfold Eu at h;split at h<;>try trivial
 ·exact .str w G _
 ·exact .int w G _ _
 ·exact .bool w G _
theorem Lo(h:Eu t d=WF)(k:t.den E.D):IsKey d (t.fm E k):=by
 unfold Eu at h;split at h<;>try (cases h;done)
 ·trivial
 ·simp at h;subst h;rfl
 ·trivial
theorem ake(h:Eu t d=WF){a b:t.den E.D}(e:t.fm E a=t.fm E b):a=b:=by
 unfold Eu at h;split at h<;>try trivial
 ·simp_all[Ty.fm,mkStr]
 ·simpa[Ty.fm]using e
 simp_all[Ty.fm]
theorem ad2(h:Eu t d=WF){a b:t.den E.D}:t.cW E a b=WF↔a=b:=by
 unfold Eu at h;split at h<;>try trivial
 ·exact p7
 ·exact p7
 ·exact p7
theorem acZ{k:aK}(hd:P.underlying k=W0 d)(h:Eu t d=WF):Iy E P k t:={
 vt:=aoX h
 of:=akd h
 cW:=⟨λe=>by rw[(ad2 h).1 e],λe=>(ad2 h).2 (ake h e)⟩
 check:=λem x w=>MapKept.run_checkKey hd (Lo h x) em 9999
 find:=λx es w hk=>by
  grind[findNow_spec,Lo,MapKept.run_findKey]
 stays:=λx w=>MapKept.run_keyThatStays (Lo h x)}
def NX:Ty->DV->Prop
 | .int k,d=>∃n,d=.int k n
 | .bool,d=>∃b,d=.bool b
 | .str,d=>∃l,d=.str l
 | _,_=>False
def Bh:J Ty->J DV->Prop
 | [],[]=>True
 | t::ts,d::ds=>NX t d/\Bh ts ds
 | _,_=>False
theorem Bh.append:∀ {ts us:J Ty}{ds es:J DV},Bh ts ds->Bh us es->Bh (ts++us) (ds++es)
 | [],_,[],_,_,h=>h
 | _::_,_,_::_,_,h,h'=>⟨h.1,h.2.append h'⟩
 | [],_,_::_,_,h,_=>h.elim
 | _::_,_,[],_,h,_=>h.elim
theorem JB:∀(t:Ty){ts:J Ty}(x:t.den E.D),Ln t=W0 ts->Bh ts (t.cells E x)
 | .int k,ts,x,h=>by cases h;exact⟨⟨x,rfl⟩,trivial⟩
 | .bool,ts,x,h=>by cases h;exact⟨⟨x,rfl⟩,trivial⟩
 | .str,ts,x,h=>by cases h;exact⟨⟨x,rfl⟩,trivial⟩
 | .unit,ts,x,h=>by cases h;trivial
 | .pair a b,ts,x,h=>by
  simp[Ln]at h;split at h<;>try trivial
  rename_i p q h1 h2;cases h
  exact(JB a x.1 h1).append (JB b x.2 h2)
 | .bq _,ts,x,h=>by cases h
 | .ext _,ts,x,h=>by cases h
theorem Fs:∀(t:Ty){ts:J Ty}(x y:t.den E.D),Ln t=W0 ts->sE (t.cells E x) (t.cells E y)=W0 (Oj E t x y)
 | .int k,ts,x,y,h=>by simp[Ty.cells,sE,Sz,Oj]
 | .bool,ts,x,y,h=>by simp[Ty.cells,sE,Sz,Oj]
 | .str,ts,x,y,h=>by simp[Ty.cells,sE,Sz,Oj]
 | .unit,ts,x,y,h=>by simp[Ty.cells,sE,Oj]
 | .pair a b,ts,x,y,h=>by
  simp[Ln]at h;split at h<;>try trivial
  rename_i p q h1 h2;have i1:=Fs a x.1 y.1 h1;have i2:=Fs b x.2 y.2 h2
  have app:∀(as bs cs ds:J DV)(p q:Bool),sE as bs=W0 p->sE cs ds=W0 q->sE (as++cs) (bs++ds)=W0 (p&&q):=by
   intro as
   induction as with
   | nil=>intro bs cs ds p q h1 h2;cases bs with
    | nil=>cases h1;simpa using h2
    | cons _ _=>cases h1
   | cons a as ih=>intro bs cs ds p q h1 h2;cases bs with
    | nil=>cases h1
    | cons b bs=>
     simp[sE]at h1⊢;split at h1<;>try trivial
     rename_i u v hu hv;cases h1;rw[hu,ih bs cs ds v q hv h2,Bool.and_assoc]
  exact app _ _ _ _ _ _ i1 i2
 | .bq _,ts,x,y,h=>by cases h
 | .ext _,ts,x,y,h=>by cases h
theorem ad3{w:U}{pr:Nat->Nat->Prop}:∀ {ts:J Ty}{ds:J DV}{vs:J Value},Bh ts ds->LD w pr vs ds->vs=ds.map EU
 | [],[],[],_,_=>rfl
 | t::ts,d::ds,v::vs,h,hl=>by
  rw[jY,<-ad3 h.2 hl.2];have h1:=h.1
  cases t<;>first|exact h1.elim|(obtain⟨n,rfl⟩:=h1;cases hl.1;rfl)
 | [],[],_::_,_,hl=>hl.elim
 | [],_::_,_,h,_=>h.elim
 | _::_,[],_,h,_=>h.elim
 | _::_,_::_,[],_,hl=>hl.elim
theorem Iz(w:U)(pr:Nat->Nat->Prop):∀ {ts:J Ty}{ds:J DV},Bh ts ds->LD w pr (ds.map EU) ds
 | [],[],_=>trivial
 | t::ts,d::ds,h=>by
  refine⟨?_,Iz w pr h.2⟩;have h1:=h.1
  cases t<;>first|exact h1.elim|(obtain⟨n,rfl⟩:=h1;constructor)
 | [],_::_,h=>h.elim
 | _::_,[],h=>h.elim
theorem XJ{P:bh}:∀ {n:Nat}{fs:J Field}{ts:J Ty}{ds cs:J DV},Ai P n fs ts=WF->Bh ts ds->Bh ts cs->wH P n fs ds cs=WF
 | n,[],[],[],[],_,_,_=>rfl
 | n,f::fs,t::ts,d::ds,c::cs,h,h1,h2=>by
  simp[Ai]at h;obtain⟨⟨⟨a1,a2⟩,a3⟩,a4⟩:=h;simp[wH,a1,a2,XJ a4 h1.2 h2.2]
  have key:∀ {d:DV},NX t d->Ix P f.type d=WF:=by
   intro d hd;cases t<;>first|exact hd.elim|(obtain⟨n,rfl⟩:=hd;exact a3)
  exact⟨key h1.1,key h2.1⟩
 | _,[],[],_::_,_,_,h,_=>h.elim
 | _,[],[],[],_::_,_,_,h=>h.elim
 | _,[],_::_,_,_,h,_,_=>by simp[Ai]at h
 | _,_::_,[],_,_,h,_,_=>by simp[Ai]at h
 | _,_::_,_::_,[],_,_,h,_=>h.elim
 | _,_::_,_::_,_::_,[],_,_,h=>h.elim
theorem XK:∀ {ts:J Ty}{ds cs:J DV}{b:Bool},Bh ts ds->Bh ts cs->sE ds cs=W0 b->(b=WF↔ds.map EU=cs.map EU)
 | [],[],[],b,_,_,h=>by cases h;simp
 | t::ts,d::ds,c::cs,b,h1,h2,h=>by
  simp[sE]at h;split at h<;>try trivial
  rename_i p q hp hq;cases h;rw[cH,XK h1.2 h2.2 hq];have h1:=h1.1;have h2:=h2.1
  cases t<;>first|exact h1.elim|(obtain⟨n,rfl⟩:=h1;obtain⟨m,rfl⟩:=h2;cases hp;simp[EU,mkStr])
 | [],_::_,_,_,h,_,_=>h.elim
 | [],[],_::_,_,_,h,_=>h.elim
 | _::_,[],_,_,h,_,_=>h.elim
 | _::_,_::_,[],_,_,h,_=>h.elim
theorem ahU{w:U}{ty:aK}{d:DV}(h:afK P ty t=WF)(hd:NX t d):(∀w,(isAgg ty).run P w=.ok UV w)/\∀em n w,(Instr.checkKey em (n+1) ty (EU d)).run P w=.ok () w:=by
 unfold afK at h;split at h<;>try trivial
 all_goals
  split at h<;>try trivial
  rename_i hu;exact⟨λw=>by simp[isAgg,aS hu],λem n w=>by simp[Instr.checkKey,aS hu]⟩
theorem aaD(hE:E.Ok){k:aK}(hd:P.underlying k=W0 d)(h:akc E P k t d=WF):Iy E P k t:=by
 unfold akc at h;split at h<;>try trivial
 rename_i i fs;rw[cH,Ej]at h;obtain⟨h,hst⟩:=h;split at h<;>try trivial
 rename_i ts hts;have hall:∀x:E.D i,Bh ts ((E.df i).cells E (E.AV i x)):=λx=>JB _ _ hts;have hfs:P.fieldsOf k=fs:=by unfold Program.fieldsOf;rw[hd]
 have aoY:∀x y:E.D i,(Ty.ext i).cW E x y=WF↔(Ty.ext i).fm E x=(Ty.ext i).fm E y:=λx y=>by
  have:=XK (hall x) (hall y) (Fs (E.df i) (E.AV i x) (E.AV i y) hts)
  grind[Ty.cW,Ty.fm]
 have aaE:∀(x y:E.D i)(w:U),(Op.equal k ((Ty.ext i).fm E x) ((Ty.ext i).fm E y)).run P w=.ok ((Ty.ext i).cW E x y) w:=λx y w=>by
  simp[Op.equal,Op.maxDepth,Ty.fm];rw[run_equalIn_struct w 9999 k _ _ (by rw[hfs];exact hd) hst,hfs];exact aaz (pr:=λ_ _=>True) fs.toList 0 _ _ _ _ _ (λj=>by simp) (λj=>by simp) (Iz w _ (hall x)) (Iz w _ (hall y)) (XJ h (hall x) (hall y)) (Fs (E.df i) _ _ hts) w 9998
 refine⟨λ{w G x v} hv=>?_,λw G x=>?_,λ{x y}=>aoY x y,λem x w=>?_,λx es w hk=>?_,λx w=>?_⟩
 ·obtain⟨vs,rfl,hl⟩:=hv
  rw[show Ty.cells E (.ext i) x=E.enc i x from rfl,hE.enc]at hl;have:=ad3 (hall x) hl;simp[Ty.fm];rw[<-this]
 ·refine⟨_,rfl,?_⟩
  rw[show Ty.cells E (.ext i) x=E.enc i x from rfl,hE.enc]
  grind[Iz]
 ·simp[Ty.fm]
  rw[Instr.checkKey];simp only[jm,aS hd,jL];rw[<-Array.forIn_toList];have hx:∀j:Nat,(((E.df i).cells E (E.AV i x)).map EU).toArray[0+j]? = (((E.df i).cells E (E.AV i x)).map EU)[j]?:=λj=>by simp
  have hp:=hall x;clear hall aoY aaE hfs hd hts;generalize(((E.df i).cells E (E.AV i x)).map EU).toArray=xs at hx⊢;generalize(E.df i).cells E (E.AV i x)=ds at hx hp;generalize fs.toList=l at h⊢;generalize(0:Nat)=n at hx h
  induction l generalizing n ts ds with
  | nil=>simp
  | cons f l ih=>
   cases ts with
   | nil=>simp[Ai]at h
   | cons t ts=>
    cases ds with
    | nil=>exact hp.elim
    | cons d ds=>
     simp only[Ai,cH]at h;obtain⟨⟨⟨f1,f2⟩,f3⟩,f4⟩:=h;have f1:=eM f1
     have f2:f.name ≠ "_" := by simpa using f2
     obtain⟨g1,g2⟩:=ahU (w:=w) f3 hp.1;have hx0:xs[f.offset]? = W0 (EU d):=by rw[f1];simpa using hx 0
     have px:∀w',(part f.type xs f.offset).run P w'=.ok (EU d) w':=λw'=>by simp[part,g1,hx0]
     have:=ih (n:=n+1) (ts:=ts) (ds:=ds) hp.2 (λj=>by have:=hx (j+1);grind) f4;rw[List.forIn_cons];simp only[if_pos f2,jm,px,g2,jL];exact this
 ·cases es with
  | nil=>exact .inl ⟨by simp[Instr.findKey,aS hd,Instr.findNow],λe he=>by cases he⟩
  | cons e0 es=>
   have aoI:(Instr.findKey k ((Ty.ext i).fm E x) (e0::es)).run P w=(Instr.findAsking k ((Ty.ext i).fm E x) (e0::es)).run P w:=by
    simp[Instr.findKey,aS hd,Instr.findNow,Instr.sameNow]
   have key:∀(es:J MapEntry)(n:Nat),(∀e∈es,∃y:E.D i,e.key=(Ty.ext i).fm E y) ->
     ((Instr.findAsking k ((Ty.ext i).fm E x) es n).run P w=.ok WP w/\∀e∈es,e.key≠(Ty.ext i).fm E x) \/
     ∃(j:Nat)(e:MapEntry),(Instr.findAsking k ((Ty.ext i).fm E x) es n).run P w=.ok (W0 (n+j,e.val)) w/\es[j]? = W0 e/\e.key=(Ty.ext i).fm E x:=by
    intro es
    induction es with
    | nil=>intro n _;exact .inl ⟨by simp[Instr.findAsking],λe he=>by cases he⟩
    | cons e es ih=>
     intro n hk;obtain⟨y,hy⟩:=hk e si
     cases hb:(Ty.ext i).cW E x y with
     | true=>
      refine .inr ⟨0,e,?_,rfl,by simp_all⟩
      simp[Instr.findAsking,hy,aaE,hb]
     | false=>
      have hne:e.key≠(Ty.ext i).fm E x:=λhe=>by
       grind
      have hstep:(Instr.findAsking k ((Ty.ext i).fm E x) (e::es) n).run P w=(Instr.findAsking k ((Ty.ext i).fm E x) es (n+1)).run P w:=by
       simp[Instr.findAsking,hy,aaE,hb]
      rw[hstep];rcases ih (n+1) (λe he=>hk e (by simp[he]))with⟨h1,h2⟩|⟨j,e',h1,h2,h3⟩
      ·simp_all
      ·exact .inr ⟨j+1,e',by rw[h1];congr 3;omega,by simpa using h2,h3⟩
   grind
 ·have hp:∀(ts:J Ty)(ds:J DV),Bh ts ds->((ds.map EU).zip (ds.map EU)).all (λ(x,y)=>Instr.sameBits 9999 x y)=WF:=by
   intro ts
   induction ts with
   | nil=>intro ds h;cases ds with
    | nil=>rfl
    | cons _ _=>exact h.elim
   | cons t ts ih=>intro ds h;cases ds with
    | nil=>exact h.elim
    | cons d ds=>
     simp[ih ds h.2];have h1:=h.1;cases t<;>first|exact h1.elim|(obtain⟨n,rfl⟩:=h1;simp[EU];exact(MapKept.bytes_beq _ _).2 rfl)|(obtain⟨n,rfl⟩:=h1;simp[EU,Instr.sameBits])
  have hs:Instr.sameBits 10000 ((Ty.ext i).fm E x) ((Ty.ext i).fm E x)=WF:=by
   simp only[Ty.fm,Instr.sameBits,Gt];exact hp ts _ (hall x)
  simp[Instr.keyThatStays,hs]
theorem aaF(hE:E.Ok){k:aK}(hd:P.underlying k=W0 d)(h:Wh E P k t d=WF):Iy E P k t:=by
 grind[Wh,acZ,aaD]
variable{kt vt:Ty}{m:J (kt.den E.D × vt.den E.D)}{b:Nat}{ki:aK}{es:aJ MapEntry}{clock:Nat}{kk:kt.den E.D}
theorem gp.length:∀ {es:J MapEntry}{m:J (kt.den E.D×vt.den E.D)},gp E w G kt vt es m->es.length=m.length
 | [],[],_=>rfl
 | _::_,_::_,h=>by simp[gp.length h.2.2]
 | [],_::_,h=>h.elim
 | _::_,[],h=>h.elim
theorem gp.get:∀ {es:J MapEntry}{m:J (kt.den E.D×vt.den E.D)}(j:Nat){e:MapEntry},gp E w G kt vt es m->es[j]? = W0 e->∃p,m[j]? = W0 p/\VT E w G (.dat kt p.1) e.key/\VT E w G (.dat vt p.2) e.val
 | [],[],_,_,_,h=>by simp at h
 | e::es,p::ps,0,x,h,hj=>by simp at hj;subst hj;exact⟨p,rfl,h.1,h.2.1⟩
 | e::es,p::ps,j+1,x,h,hj=>by simpa using gp.get j h.2.2 (by simpa using hj)
 | [],_::_,_,_,h,_=>h.elim
 | _::_,[],_,_,h,_=>h.elim
theorem gp.get':∀ {es:J MapEntry}{m:J (kt.den E.D×vt.den E.D)}(j:Nat){p:kt.den E.D×vt.den E.D},gp E w G kt vt es m->m[j]? = W0 p->∃e,es[j]? = W0 e/\VT E w G (.dat kt p.1) e.key/\VT E w G (.dat vt p.2) e.val
 | [],[],_,_,_,h=>by simp at h
 | e::es,p::ps,0,x,h,hj=>by simp at hj;subst hj;exact⟨e,rfl,h.1,h.2.1⟩
 | e::es,p::ps,j+1,x,h,hj=>by simpa using gp.get' j h.2.2 (by simpa using hj)
 | [],_::_,_,_,h,_=>h.elim
 | _::_,[],_,_,h,_=>h.elim
theorem gp.append:∀ {es:J MapEntry}{m:J (kt.den E.D×vt.den E.D)}{e:MapEntry}{p:kt.den E.D×vt.den E.D},gp E w G kt vt es m->VT E w G (.dat kt p.1) e.key->VT E w G (.dat vt p.2) e.val->gp E w G kt vt (es++[e]) (m++[p])
 | [],[],_,_,_,h1,h2=>⟨h1,h2,trivial⟩
 | _::_,_::_,_,_,h,h1,h2=>⟨h.1,h.2.1,gp.append h.2.2 h1 h2⟩
 | [],_::_,_,_,h,_,_=>h.elim
 | _::_,[],_,_,h,_,_=>h.elim
theorem gp.set:∀ {es:J MapEntry}{m:J (kt.den E.D×vt.den E.D)}(j:Nat){e:MapEntry}{p:kt.den E.D×vt.den E.D},gp E w G kt vt es m->VT E w G (.dat kt p.1) e.key->VT E w G (.dat vt p.2) e.val->gp E w G kt vt (es.set j e) (m.set j p)
 | [],[],_,_,_,_,_,_=>trivial
 | _::_,_::_,0,_,_,h,h1,h2=>⟨h1,h2,h.2.2⟩
 | _::_,_::_,j+1,_,_,h,h1,h2=>⟨h.1,h.2.1,gp.set j h.2.2 h1 h2⟩
 | [],_::_,_,_,_,h,_,_=>h.elim
 | _::_,[],_,_,_,h,_,_=>h.elim
theorem aaG(K:Iy E P ki kt){es:aJ MapEntry}(h:gp E w G kt vt es.toList m)(k:kt.den E.D)(W:U):
  ((Instr.findKey ki (kt.fm E k) es.toList).run P W=.ok WP W/\m.any (λp=>kt.cW E p.1 k)=UV/\∀x∈es.toList,x.key≠kt.fm E k) \/
  ∃j e p,(Instr.findKey ki (kt.fm E k) es.toList).run P W=.ok (W0 (j,e.val)) W/\es[j]? = W0 e/\e.key=kt.fm E k/\m[j]? = W0 p/\kt.cW E p.1 k=WF/\VT E w G (.dat vt p.2) e.val:=by
 have hkey:∀x∈es.toList,∃p∈m,x.key=kt.fm E p.1:=λx hx=>by
  obtain⟨j,hj,rfl⟩:=lH hx;obtain⟨p,hp,h1,-⟩:=h.get j (fJ hj);exact⟨p,jx hp,K.vt h1⟩
 rcases K.find k es.toList W (λx hx=>by grind)with⟨h1,h2⟩|⟨j,e,h1,h2,h3⟩
 ·refine .inl ⟨h1,?_,h2⟩
  apply Sb.2;intro ha;obtain⟨p,hp,he⟩:=R7.1 ha;obtain⟨j,hj,rfl⟩:=lH hp;obtain⟨x,hx,hk,-⟩:=h.get' j (fJ hj);exact h2 x (jx hx) (by rw[K.vt hk,K.cW.1 he])
 ·have hj:es[j]? = W0 e:=by simpa using h2
  obtain⟨p,hp,hk,hv⟩:=h.get j h2;exact .inr ⟨j,e,p,h1,hj,h3,hp,K.cW.2 ((K.vt hk).symm.trans h3),hv⟩
theorem XL(K:Iy E P ki kt)(hs:Stamped es clock)(h:gp E w G kt vt es.toList m):m.Pairwise (λp q=>kt.fm E p.1≠kt.fm E q.1):=by
 have h3:=hs.2.2
 have:es.toList.map (·.key)=(m.map (·.1)).map (kt.fm E):=by
  apply Au (by simp[h.length]);intro j h1 h2;have hj:j<es.toList.length:=by simpa using h1
  obtain⟨p,hp,hk,-⟩:=h.get j (fJ hj);have hjm:=(eY.1 hp).1;have:m[j]=p:=by simp_all
  simp[this];exact K.vt hk
 grind
theorem amX(K:Iy E P ki kt)(hn:m.Pairwise (λp q=>kt.fm E p.1≠kt.fm E q.1)){p:kt.den E.D×vt.den E.D}(hj:m[j]? = W0 p){k:kt.den E.D}(hk:kt.cW E p.1 k=WF)(v:vt.den E.D):jN (kt.cW E) m k v=m.set j (k,v):=by
 have akf:m.any (λp=>kt.cW E p.1 k)=WF:=R7.2 ⟨p,jx hj,hk⟩;unfold jN;rw[akf,aY];apply Au si;intro q h1 h2;have hq:q<m.length:=by simpa using h1
 rw[Sa,List.getElem_set];by_cases hqj:j=q
 ·simp_all
 ·rw[if_neg hqj]
  have hne:kt.cW E m[q].1 k=UV:=by
   apply Sb.2;intro he;have he':=K.cW.1 he;have hk':=K.cW.1 hk
   grind[List.pairwise_iff_getElem]
  rw[hne,aM]
theorem afL{t k:aK}(K:Iy E P k kt)(hm:P.underlying t=W0 (.map k e))(hb:w.heap[b]? = W0 (.map es clock))(hs:Stamped es clock)(h:gp E w G kt vt es.toList m)
  (x:kt.den E.D) (v:vt.den E.D) {vv:Value} (hv:VT E w G (.dat vt v) vv) :
  ∃es' clock',(Instr.mapUpdate t (.map (W0 b)) (kt.fm E x) vv).run P w=.ok () {w with heap:=w.heap.setIfInBounds b (.map es' clock')}/\Stamped es' clock'/\gp E w G kt vt es'.toList (jN (kt.cW E) m x v):=by
 rcases aaG K h x w with⟨h1,h2,h3⟩|⟨j,e,p,h1,hj,h3,hp,hpk,Mp⟩
 ·refine⟨es.push ⟨kt.fm E x,vv,clock⟩,clock+1,?_,stamped_push hs h3,?_⟩
  ·simp[Instr.mapUpdate,run_underlying hm,Zw hb,K.check,h1,MapKept.run_setObj_map _ hb]
  ·unfold jN
   rw[h2,Array.toList_push];exact h.append (K.of w G x) hv
 ·refine⟨es.modify j λe=>{e with key:=kt.fm E x,val:=vv},clock,?_,stamped_modify hs _ _ (λ_ _=>rfl) (λe' _ he'=>by simp_all),?_⟩
  ·simp[Instr.mapUpdate,run_underlying hm,Zw hb,K.check,h1,hj,h3,K.stays,MapKept.run_setObj_map _ hb]
  ·rw[amX K (XL K hs h) hp hpk v]
   have:(es.modify j λe=>{e with key:=kt.fm E x,val:=vv}).toList=es.toList.set j {e with key:=kt.fm E x,val:=vv}:=by
    apply Au si
    grind
   rw[this];exact h.set j (K.of w G x) hv
theorem akg{t k:aK}{z:vt.den E.D}{zv:Value}(K:Iy E P k kt)(hm:P.underlying t=W0 (.map k e))(hz:∀w,(zeroValue e).run P w=.ok zv w)(hzv:VT E w G (.dat vt z) zv)
  (hb:w.heap[b]? = W0 (.map es clock)) (hs:Stamped es clock) (h:gp E w G kt vt es.toList m) (x:kt.den E.D) (c:Bool) :
  ∃u,VT E w G (.dat vt (fY (kt.cW E) m x z)) u/\(Instr.lookup t (.map (W0 b)) (kt.fm E x) c).run P w=.ok (if c then .tuple #[u,.bool (Et (kt.cW E) m x)]else u) w:=by
 rcases aaG K h x w with⟨h1,h2,h3⟩|⟨j,en,p,h1,hj,h3,hp,hpk,hv⟩
 ·have hf:m.find? (λp=>kt.cW E p.1 x)=WP:=by
   grind
  have hg:fY (kt.cW E) m x z=z:=by unfold fY;rw[hf]
  rw[hg];unfold Et;rw[h2];refine⟨zv,hzv,?_⟩;simp[Instr.lookup,run_underlying hm,Zw hb,K.check,h1,hz]
 ·have hf:m.find? (λp=>kt.cW E p.1 x)=W0 p:=by
   obtain⟨hjl,hjp⟩:=eY.1 hp;rw[List.find?_eq_some_iff_getElem];refine⟨hpk,j,hjl,hjp,λq hq=>?_⟩;have hn:=aeJ.1 (XL K hs h) q j om hjl hq;rw[hjp,K.cW.1 hpk]at hn
   cases hb:kt.cW E m[q].1 x with
   | false=>rfl
   | true=>exact(hn (K.cW.1 hb)).elim
  have hg:fY (kt.cW E) m x z=p.2:=by unfold fY;rw[hf]
  have akf:Et (kt.cW E) m x=WF:=R7.2 ⟨p,jx hp,hpk⟩;rw[hg,akf];refine⟨en.val,hv,?_⟩;simp[Instr.lookup,run_underlying hm,Zw hb,K.check,h1]
theorem aaH(hr:Rel E w0 G0 st a w G){t:aK}(ho:o.op=.makeMap t WP)(kt vt:Ty):
  jT P w0 G0 a w o {st with t:=cz st.t o.dst (.jy st.H.length),H:=st.H++[.map kt vt []]}:=by
 have hN:=hr.Kl (.map #[] 0) (.map kt vt []) ⟨#[],0,(MapKept.heap_alloc w _).1,stamped_empty 0,trivial⟩;refine⟨.value (.map (W0 w.heap.size)),_,_,_,?_,.inl rfl,hN.put ?_ o.dst⟩
 ·simp[execOp,ho,Instr.makeMap]
 ·simp[VT]
  rw[<-hr.boxes.len];simp
theorem Wi(hE:E.Ok)(hr:Rel E w0 G0 st a w G){t k:aK}{z:dB}(ho:o.op=.mapUpdate t x y z){zz:Value}(hm:aV P t=W0 ⟨.map k e,j1,j2,zz⟩){ik:TI}(hk:aV P k=W0 ik)(K0:Wh E P k kt ik.kind=WF)
   (hx:st.ev x=.jy r) (hb:st.H[r]? = W0 (.map kt vt m))  {vv:vt.den E.D} (hy:(st.ev y).get kt=W0 kk) (hz:(st.ev z).get vt=W0 vv) :
  jT P w0 G0 a w o {st with t:=cz st.t o.dst .any,H:=st.H.set r (.map kt vt (jN (kt.cW E) m kk vv)),d:=r::st.d}:=by
 obtain⟨_,_,hum,-⟩:=aP hm;obtain⟨_,_,huk,-⟩:=aP hk;have K:=aaF hE huk K0;have Ah:=hr.ev x;rw[hx]at Ah;obtain⟨b,he,hat⟩:=Ah;obtain⟨es,clock,hh,hs,hmr⟩:=hr.box hat hb;have hvk:=K.vt (TV.uJ hy (hr.ev y));obtain⟨es',clock',hrun,hs',ase⟩:=afL K hum hh hs hmr kk vv (TV.uJ hz (hr.ev z))
 have hR:=hr.yZ (w':={w with heap:=w.heap.setIfInBounds b (.map es' clock')}) hat si rfl rfl rfl (λb' hb'=>(MapKept.heap_set hh).2 b' hb') (x:=.map kt vt (jN (kt.cW E) m kk vv))
  (λhg=>⟨es',clock',(MapKept.heap_set hh).1,hs',ase.mono hg⟩)
 refine⟨_,undef,_,G,?_,.inr ⟨rfl,rfl⟩,hR.put (by simp[VT]) o.dst⟩;simp[execOp,ho,he,hvk,hrun]
theorem ac0(hE:E.Ok)(hr:Rel E w0 G0 st a w G){t k:aK}{ok:Bool}(ho:o.op=.lookup t x y ok){zz:Value}(hm:aV P t=W0 ⟨.map k e,j1,j2,zz⟩){ik:TI}(hk:aV P k=W0 ik)(he':aV P e=W0 ie)(K0:Wh E P k kt ik.kind=WF)
  (hzo:ie.zero.cells.toList.all (·.oneCell')=WF)  (hx:st.ev x=.jy r) (hb:st.H[r]? = W0 (.map kt vt m))  (hy:(st.ev y).get kt=W0 kk) {z:vt.den E.D} (hz:(y5 E (W0 vt) ie.zero).get vt=W0 z) :
  jT P w0 G0 a w o {st with t:=cz st.t o.dst (cond ok (.tuple [.dat vt (fY (kt.cW E) m kk z),.dat .bool (Et (kt.cW E) m kk)]) (.dat vt (fY (kt.cW E) m kk z)))}:=by
 obtain⟨_,_,hum,-⟩:=aP hm;obtain⟨_,_,huk,-⟩:=aP hk;have K:=aaF hE huk K0;have Ah:=hr.ev x;rw[hx]at Ah;obtain⟨b,he,hat⟩:=Ah;obtain⟨es,clock,hh,hs,hmr⟩:=hr.box hat hb;have hvk:=K.vt (TV.uJ hy (hr.ev y));obtain⟨u,hu,hrun⟩:=akg K hum (λw=>nt he' w) (TV.uJ hz (Qk hE hzo)) hh hs hmr kk ok;refine⟨_,_,w,G,?_,.inl rfl,hr.put (v:=if ok then .tuple #[u,.bool (Et (kt.cW E) m kk)]else u) ?_ o.dst⟩
 ·simp[execOp,ho,he,hvk,hrun]
 ·cases ok
  ·exact hu
  ·exact⟨_,rfl,.cons hu (.cons (.bool _ _ _) .nil)⟩
variable{c:Cn E}{L:J Value}
theorem Rel.setRow(h:Rel E w0 G0 st a w G){x x':cL}{hd hd':Value}{cs:J (Nat×Cn E)}(hj:G.g[j]? = W0 (x,hd))(hle:x.aF<=x'.aF)(heq:x.aF=x'.aF->hd'=hd)(hsz:w.heap.size<=w'.heap.size)(h1:w'.os=w.os)(h2:w'.tape=w.tape)(h3:w'.output=w.output)
  (nU:∀b,b<w.heap.size->hd.ownBlock≠W0 b->w'.heap[b]? = w.heap[b]?) (hcells:∀b o v,G.pr b o->w.cell? ⟨b,o,WP⟩=W0 v->w'.cell? ⟨b,o,WP⟩=W0 v)
  (lQ:Nat->Nat->Prop) (hp:∀b o,G.pr b o->lQ b o) (GO:∀b o,lQ b o->G.pr b o\/hd'.ownBlock=W0 b)
  (hok:yX E w' {G with pr:=lQ} x' hd') (hblk:∀b,hd'.ownBlock=W0 b->w.heap.size<=b\/hd.ownBlock=W0 b)
  (hcs:iK w G w' {G with g:=G.g.set j (x',hd'),pr:=lQ}->kN E w' {G with g:=G.g.set j (x',hd'),pr:=lQ} cs) :
  Rel E w0 G0 {st with g:=st.g.set j x',c:=cs} a w' {G with g:=G.g.set j (x',hd'),pr:=lQ}:=by
 obtain⟨n0,xs0,-,-,hhd⟩:=h.boxes.grow j x hd hj
 have at':∀(m:Nat) y z,(G.g.set j (x',hd'))[m]? = W0 (y,z)->(m=j/\y=x'/\z=hd')\/(m≠j/\G.g[m]? = W0 (y,z)):=by
  grind
 have hg:iK w G w' {G with g:=G.g.set j (x',hd'),pr:=lQ}:=by
  refine⟨hp,hcells,λ_ _ h=>h,λm y z hm=>?_⟩
  grind
 have N8:=λb hb e=>(hhd b e).2.1 hb;have ev:=h.ff
 have hrow:∀b,b<w0.heap.size->hd.ownBlock=W0 b->G0.rows b:=λb hb e=>by
  rcases ev.gM j x hd b hj e with q|⟨y,z,q1,q2⟩
  ·omega
  ·exact⟨y,z,jx q1,q2⟩
 refine⟨⟨h1.trans ev.os,h2.trans ev.tape,h3.trans ev.output,oM ev.size hsz,λb hb hn=>?_,ev.goes.trans hg,λb o hb tc=>?_,ev.qO,λm y z b hm hb=>?_⟩,h.size,
  λm d hm=>(h.tmps m d hm).mono hg,h.defers.mono hg,?_,λr b hb hd=>(nU b (h.boxes.lt b (jx (ev.goes.i r b hb))) (N8 b (jx (ev.goes.i r b hb)))).trans (h.fix r b hb hd),h.pins,hcs hg⟩
 ·rw[nU b (jS hb ev.size) (λe=>hn (.inr (hrow b hb e)))]
  exact ev.old b hb hn
 ·rcases GO b o tc with q|q
  ·exact ev.oz b o hb q
  ·rcases hblk b q with q'|q'
   ·have:=ev.size;omega
   simp_all
 ·rcases at' m y z hm with⟨rfl,-,rfl⟩|⟨-,q⟩
  ·rcases hblk b hb with q|q
   ·exact .inl (oM ev.size q)
   ·exact ev.gM m x hd b hj q
  ·exact ev.gM m y z b q hb
 refine⟨h.boxes.len,?_,λr b y hb hy=>?_,λb hb=>jS (h.boxes.lt b hb) hsz,h.boxes.nodup,λb o tc=>?_,λm y z hm=>?_,λm m' y z y' z' b hm hm' hb hb'=>?_⟩
 ·rw[<-h.boxes.gs,Zj]
 ·have hm:=jx hb
  exact(h.boxes.box r b y hb hy).mono hg (nU b (h.boxes.lt b hm) (N8 b hm))
 ·rcases GO b o tc with q|q
  ·exact⟨jS (h.boxes.gu b o q).1 hsz,(h.boxes.gu b o q).2⟩
  ·obtain⟨n,xs,-,-,hq⟩:=hok
   simp_all
 ·rcases at' m y z hm with⟨-,rfl,rfl⟩|⟨hne,q⟩
  ·exact hok
  ·obtain⟨n,xs,ho,hz,hq⟩:=h.boxes.grow m y z q
   refine⟨n,xs,⟨ho.1,?_⟩,hz,λb hb=>?_⟩
   ·rcases ho.2 with q2|⟨g,cap,cur,q2,q3,q4,q5⟩
    ·exact .inl q2
    ·have vw:z.ownBlock=W0 g:=by rw[q2];rfl
     refine .inr ⟨g,cap,cur,q2,q3,?_,q5⟩;rw[nU g (hq g vw).1 (λe=>hne (h.boxes.apart m j y z x hd g q hj vw e))];exact q4
   ·obtain⟨p1,p2,p3⟩:=hq b hb
    refine⟨jS p1 hsz,p2,λo ho' tc=>?_⟩;rcases GO b o tc with q'|q'
    ·exact p3 o ho' q'
    ·rcases hblk b q' with N9|N9
     ·omega
     ·exact hne (h.boxes.apart m j y z x hd b q hj hb N9)
 ·have key:∀(m:Nat) y z,m≠j->G.g[m]? = W0 (y,z)->z.ownBlock=W0 b->hd'.ownBlock=W0 b->False:=by
   intro m y z hne q hb hb';obtain⟨n,xs,-,-,hq⟩:=h.boxes.grow m y z q;rcases hblk b hb' with N9|N9
   ·grind
   ·exact hne (h.boxes.apart m j y z x hd b q hj hb N9)
  rcases at' m y z hm with⟨e1,-,e2⟩|⟨hne,q⟩<;>rcases at' m' y' z' hm' with⟨e1',-,XF⟩|⟨aj7,q'⟩
  ·rw[e1,e1']
  ·grind
  ·grind
  ·exact h.boxes.apart m m' y z y' z' b q q' hb hb'
theorem Rel.Bi(hr:Rel E w0 G0 st a w G)(hg:st.g[j]? = W0 g):∃h,G.g[j]? = W0 (g,h):=by
 rw[<-hr.boxes.gs]at hg
 simp_all
theorem Rel.soft(hr:Rel E w0 G0 st a w G)(hg:st.g[j]? = W0 g)(hc:oQ st.c j=W0 c):
  ∃h,G.g[j]? = W0 (g,h)/\sW E w G g h c/\(∀v,VT E w G (.eA j g.aF) v->v=h):=by
 obtain⟨h,hh⟩:=hr.Bi hg;obtain⟨x,h',h1,h2⟩:=hr.gv j c (Sv hc)
 simp_all[VT]
theorem sW.block{x:cL}{h:Value}(hs:sW E w G x h c):(h=.slice WP 0 0/\c.2=[])\/∃(b cap:Nat)(cur:aJ Value),h=.slice (W0 ⟨b,0,WP⟩) c.2.length cap/\w.heap[b]? = W0 (.cells cur x.e (0,0))/\c.2.length<=cap/\cap<=maxLen/\cur.size=cap*x.k /\
  Flat w G.pr x.k (cur.toList.take (c.2.length*x.k)) (c.2.map (c.1.cells E))/\∀o,¬ G.pr b o:=by
 obtain⟨h1,h2,⟨vals,ho,hf⟩,hp⟩:=hs;rcases ho.2 with⟨q1,q2⟩|⟨b,cap,cur,q1,q2,q3,q4,q5,q6,q7⟩
 ·simp_all
 ·refine .inr ⟨b,cap,cur,q1,q3,q4,q5,q6,?_,hp b (by rw[q1];rfl)⟩
  rw[q7];exact hf
theorem XM{e:Nat}(hk:k=T.size E)(hh:w.heap[b]? = W0 (.cells cur e (0,0)))(hf:Flat w G.pr k (cur.toList.take (xs.length*k)) (xs.map (T.cells E)))(hle:xs.length*k<=cur.size)(hi:i<xs.length):
  ∃vs:J Value,LD w G.pr vs (T.cells E (xs.getD i (T.dflt E)))/\vs.length=k/\vs=(cur.toList.drop (i*k)).take k/\∀(l:Nat) u,vs[l]? = W0 u->w.cell? ⟨b,i*k+l,WP⟩=W0 u:=by
 have hlen:(T.cells E (xs.getD i (T.dflt E))).length=k:=by
  have:=hf.2.1 i (by simpa using hi)
  simp_all
 have hik:i*k+k<=xs.length*k:=by
  have:=zP k hi
  grind
 have hvl:((cur.toList.drop (i*k)).take k).length=k:=by simp;omega
 refine⟨(cur.toList.drop (i*k)).take k,LD.Wd (by rw[hvl,hlen]) (λl hl=>?_),hvl,rfl,λl u hl=>?_⟩
 ·rw[hlen]at hl
  have:=hf.2.2 i l (by simpa using hi) hl
  grind
 grind[cell_of_row]
theorem sW.len{x:cL}{h:Value}(hs:sW E w G x h c){xs:J Value}(ho:w.ownsRow 0 x.e x.k h n xs):n=c.2.length:=by
 rcases hs.block with⟨h1,h2⟩|⟨b,cap,cur,h1,-⟩
 ·rcases ho.2 with⟨-,q⟩|⟨g,cap',cur',q1,-⟩
  ·rw[q,h2];rfl
  simp_all
 ·rcases ho.2 with⟨q,-⟩|⟨g,cap',cur',q1,-⟩
  ·rw[h1]at q;cases q
  simp_all
theorem Rel.aoZ(hr:Rel E w0 G0 st a w G)(hg:st.g[j]? = W0 g)(hc:oQ st.c j=W0 c):
  ∃G',Rel E w0 G0 {st with c:=nK j st.c} a w G'/\iK w G w G'/\∀v,VT E w G (.eA j g.aF) v->VT E w G' (.dat (.bq c.1) c.2) v:=by
 obtain⟨h,hj,hs,hval⟩:=hr.soft hg hc;obtain⟨n0,xs0,TA,Od,hb0⟩:=hr.boxes.grow j g h hj;have ev:=hr.ff
 let lQ:Nat->Nat->Prop:=λb o=>G.pr b o\/(h.ownBlock=W0 b/\o<c.2.length*g.k)
 have Bj:iK w G w {G with pr:=lQ}:=⟨λ_ _ h=>.inl h,λ_ _ _ _ h=>h,λ_ _ h=>h,λj x y hj=>⟨x,y,hj,eu _,λ_=>rfl⟩⟩;have hk:=hs.1;refine⟨{G with pr:=lQ},⟨⟨ev.os,ev.tape,ev.output,ev.size,ev.old,ev.goes.trans Bj,λb o hb hp=>?_,ev.qO,ev.gM⟩,hr.size,λj d hj=>(hr.tmps j d hj).mono Bj,hr.defers.mono Bj,?_,hr.fix,hr.pins,?_⟩,Bj,λv hv=>?_⟩
 ·rcases hp with hp|⟨hp,-⟩
  ·exact ev.oz b o hb hp
  ·rcases ev.gM j g h b hj hp with q|⟨x0,h0,q1,q2⟩
   ·omega
   ·exact .inr ⟨x0,h0,jx q1,q2⟩
 ·refine⟨hr.boxes.len,hr.boxes.gs,λr b x hb hx=>(hr.boxes.box r b x hb hx).mono Bj rfl,hr.boxes.lt,hr.boxes.nodup,λb o hp=>?_,λm x hd hm=>?_,hr.boxes.apart⟩
  ·rcases hp with hp|⟨hp,-⟩
   ·exact hr.boxes.gu b o hp
   simp_all
  ·obtain⟨n',xs',ho',hz',hb'⟩:=hr.boxes.grow m x hd hm
   refine⟨n',xs',ho',hz',λb hbk=>⟨(hb' b hbk).1,(hb' b hbk).2.1,λo hno hp=>?_⟩⟩;rcases hp with hp|⟨hp,hlt⟩
   ·simp_all
   ·have hmj:=hr.boxes.apart m j x hd g h b hm hj hbk hp
    subst hmj;rw[hj]at hm;cases hm;have:=hs.len ho'
    grind
 ·intro i c' hm
  obtain⟨hm,hne⟩:=tO hm;obtain⟨x,hd,h1,h2⟩:=hr.gv i c' hm;refine⟨x,hd,h1,h2.keep rfl rfl Bj.pr Bj.cells λb hbk=>⟨rfl,λo hp=>?_⟩⟩;rcases hp with hp|⟨hp,-⟩
  ·exact hp
  ·exact(hne (hr.boxes.apart i j x hd g h b h1 hj hbk hp)).elim
 ·rw[hval v hv]
  rcases hs.block with⟨h1,h2⟩|⟨b,cap,cur,h1,hheap,hcap,hcm,hcs,hf,-⟩
  ·rw[h1,h2];exact .list (.vo _ _)
  ·refine .list ?_
   have hl:(c.2.map (c.1.cells E)).length=c.2.length:=by simp
   have:=Ob (b:=b) (by rw[hl];exact hcap) (λq hq=>?_) (hf.mono Bj.pr Bj.cells)
   ·simp_all
   ·rw[hl]at hq
    refine⟨.inr ⟨by rw[h1];rfl,hq⟩,?_⟩;rw[cell_of_row w b q cur g.e (0,0) hheap]
    simp_all
theorem Flat.take{es:J (J DV)}(h:Flat w pr k L es)(hi:i<=es.length):Flat w pr k (L.take (i*k)) (es.take i):=by
 have hik:i*k<=L.length:=by rw[h.1];exact zP k hi
 have hl:(es.take i).length=i:=by simp;omega
 refine⟨by simp_all,λj hj=>?_,λj l hj hl'=>?_⟩
 ·have:(es.take i).getD j []=es.getD j []:=by grind
  rw[this];exact h.2.1 j om
 ·have e1:(es.take i).getD j []=es.getD j []:=by grind
  have e2:(L.take (i*k)).getD (j*k+l) undef=L.getD (j*k+l) undef:=by
   have:=Oa hj hl'
   grind
  rw[e1,e2];exact h.2.2 j l om hl'
theorem Flat.drop{es:J (J DV)}(h:Flat w pr k L es)(hi:i<=es.length):Flat w pr k (L.drop (i*k)) (es.drop i):=by
 have hl:(es.drop i).length=es.length-i:=by simp
 have hgd:∀j,(es.drop i).getD j []=es.getD (i+j) []:=λj=>by simp_all
 refine⟨by rw[Gq,hl,h.1,Nat.sub_mul],λj hj=>?_,λj l hj hl'=>?_⟩
 ·rw[hgd];exact h.2.1 _ om
 ·rw[hgd]
  have e2:(L.drop (i*k)).getD (j*k+l) undef=L.getD ((i+j)*k+l) undef:=by
   grind
  rw[e2];exact h.2.2 (i+j) l om hl'
theorem Flat.single{us:J Value}{e:J DV}(h:LD w pr us e)(hk:us.length=k):Flat w pr k us [e]:=by
 have hl:=h.length;have:=Flat.We (w:=w) (pr:=pr) (k:=k) (rows:=[us]) (es:=[e]) rfl (λj hj=>by simp_all) (λj hj=>by simp_all);simpa using this
theorem Flat.splice{es fs:J (J DV)}(h:Flat w pr k L es)(h':Flat w pr k news fs){p:Nat}(hp:p+fs.length<=es.length):
  Flat w pr k (L.take (p*k)++news++L.drop (p*k+news.length)) (es.take p++fs++es.drop (p+fs.length)):=by
 have h1:=h.take (i:=p) om;have h2:=h.drop om;have e:p*k+news.length=(p+fs.length)*k:=by rw[h'.1,VG]
 rw[e];exact(h1.append h').append h2
theorem ac1(cur news:J Value){o:Nat}(h:o+news.length<=n)(hn:n<=cur.length):(cur.take o++news++cur.drop (o+news.length)).take n=(cur.take n).take o++news++(cur.take n).drop (o+news.length):=by
 have h1:(cur.take o++news).length=o+news.length:=by simp;omega
 rw[aeA,vN (l:=cur.take o++news) om,h1,Zg,show min o n=o by omega,List.drop_take]
theorem Lp{α:Type}{l:J α}{x:α}(h:l[j]? = W0 x):l.set j x=l:=by
 grind[List.set_getElem_self]
theorem Rel.ahV(hr:Rel E w0 G0 st a w G)(hg:st.g[j]? = W0 g)(hc:oQ st.c j=W0 c){new:aJ Value}(hj:G.g[j]? = W0 (g,.slice (W0 ⟨b,0,WP⟩) c.2.length cap))
  (hheap:w.heap[b]? = W0 (.cells cur g.e (0,0))) (hsz:new.size=cur.size) {xs':J (c.1.den E.D)} (hl:xs'.length=c.2.length) (hf:Flat w G.pr g.k (new.toList.take (xs'.length*g.k)) (xs'.map (c.1.cells E))) :
  Rel E w0 G0 {st with c:=(j,⟨c.1,xs'⟩)::nK j st.c} a (w.setRow b new) G:=by
 obtain⟨h,hj',hs,-⟩:=hr.soft hg hc;rw[hj]at hj';cases hj';rcases hs.block with⟨h1,-⟩|⟨b',cap',cur',h1,GQ,hcap,hcm,hcs,hf0,hnp⟩
 ·cases h1
 obtain⟨rfl,rfl⟩:=h1;rw[hheap]at GQ;cases GQ;obtain⟨n0,xs0,TA,Od,hb0⟩:=hr.boxes.grow j g _ hj;have Xr:=hb0 b rfl;have hnew:(w.setRow b new).heap[b]? = W0 (.cells new g.e (0,0)):=setRow_heap w b cur _ g.e _ hheap;have Es:∀b',b'≠b->(w.setRow b new).heap[b']? = w.heap[b']?:=λb' hb'=>setRow_other w b b' _ hb'
 have hown:(w.setRow b new).ownsRow 0 g.e g.k (.slice (W0 ⟨b,0,WP⟩) c.2.length cap) c.2.length (new.toList.take (c.2.length*g.k)):=by
  refine⟨?_,.inr ⟨b,cap,new,rfl,gj _,hnew,hcap,hcm,by rw[hsz];exact hcs,rfl⟩⟩
  simp_all
 have mN:=Lp hj
 have hcells:∀b' o v,G.pr b' o->w.cell? ⟨b',o,WP⟩=W0 v->(w.setRow b new).cell? ⟨b',o,WP⟩=W0 v:=λb' o v hp hv=>by
  have:b'≠b:=λe=>by subst e;exact hnp o hp
  rw[PU (Es b' this)];exact hv
 have key:=hr.setRow (cs:=(j,⟨c.1,xs'⟩)::nK j st.c) hj (eu _) (λ_=>rfl) (w':=w.setRow b new) si rfl rfl rfl
  (λb' _ hne=>Es b' (λe=>hne (by rw[e];rfl))) hcells G.pr (λ_ _ h=>h) (λ_ _ h=>.inl h)
  ⟨c.2.length,_,hown,Od,λb' hb'=>by cases hb';simp_all⟩ (λ_ h=>.inr h) (λhg'=>?_)
 ·simp_all[Lp]
 ·intro i c' hm
  rcases iy.1 hm with e|hm
  ·cases e
   refine⟨g,_,by rw[mN];exact hj,hs.1,hs.2.1,⟨_,by rw[hl];exact hown,?_⟩,λb' hb' o hp=>by cases hb';exact hnp o hp⟩;rw[<-hl];exact hf.mono hg'.pr hg'.cells
  ·obtain⟨hm,hne⟩:=tO hm
   obtain⟨x,hd,h1,h2⟩:=hr.gv i c' hm;refine⟨x,hd,by rw[mN];exact h1,h2.keep rfl rfl hg'.pr hg'.cells λb' hb'=>⟨Es b' (λe=>?_),λo hp=>hp⟩⟩;subst e;exact hne (hr.boxes.apart i j x hd g _ b' h1 hj hb' rfl)
def ZA(P:bh)(st:TS E):Op->O (Bool×TV E)
 | .indexAddr t x ix=>match aV P t,st.ev ix with
  | some ⟨.slice e,_,_,_⟩,.dat (.int _) n=>match aV P e,st.ev x with
   | some i,.eA j aF=>match st.g[j]?,oQ st.c j with
    | some g,W0 c=>W0 (ST g.aF aF&&(ST i.size (c.1.size E)&&(T1 (0<=n)&&T1 (n<(c.2.length:Int)))),.iC j aF (c.1.size E) (Ts n) 0)
    | _,_=>WP
   | _,_=>WP
  | _,_=>WP
 | .fieldAddr s x f=>match aV P s,st.ev x with
  | some ⟨.struct fs,_,_,_⟩,.iC j aF k i off=>match fs[f]? with
   | some fd=>match aV P fd.type,st.g[j]? with
    | some fi,W0 g=>W0 (!(ST fi.size 0)&&ST g.aF aF,.iC j aF k i (off+fd.offset))
    | _,_=>WP
   | none=>WP
  | _,_=>WP
 | .nilCheck x=>match st.ev x with
  | .iC j aF k i off=>match st.g[j]? with
   | some g=>W0 (ST g.aF aF,.iC j aF k i off)
   | none=>WP
  | _=>WP
 | .call c=>match c.callee,c.args.toList,c.argTypes.toList with
  | .builtin .len,[x],[t]=>match aV P t,st.ev x with
   | some ⟨.slice _,_,_,_⟩,.eA j aF=>match st.g[j]?,oQ st.c j with
    | some g,W0 c=>W0 (ST g.aF aF,.dat (.int .i64) (c.2.length:Int))
    | _,_=>WP
   | _,_=>WP
  | _,_,_=>WP
 | _=>WP
theorem Rel.iC(hr:Rel E w0 G0 st a w G)(hg:st.g[j]? = W0 g)(hv:VT E w G (.iC j g.aF k i off) v):∃b m cap,G.g[j]? = W0 (g,.slice (W0 ⟨b,0,WP⟩) m cap)/\i<m/\v=.pointer (W0 ⟨b,i*k+off,WP⟩):=by
 obtain⟨h,hh⟩:=hr.Bi hg
 grind[VT]
theorem Wj{m:Nat}(hj:G.g[j]? = W0 (g,.slice (W0 ⟨b,0,WP⟩) m cap))(hi:i<m):VT E w G (.iC j g.aF k i off) (.pointer (W0 ⟨b,i*k+off,WP⟩)):=⟨g,_,hj,eu _,rfl,λ_=>⟨b,m,cap,rfl,hi,rfl⟩⟩
theorem ac2(hE:E.Ok)(hr:Rel E w0 G0 st a w G){d:TV E}{cc:Bool}(h:ZA P st o.op=W0 (cc,d))(hc:cc=WF):jB P a w G o d:=by
 cases ho:o.op<;>rw[ho]at h<;>simp only[ZA]at h<;>try trivial
 case indexAddr t x ix=>
  split at h<;>try trivial
  rename_i e j1 j2 z kd n ht hn;obtain⟨xt,jU,eB,-⟩:=aP ht;obtain⟨n,hn0⟩:∃m:Int,m=n:=⟨n,rfl⟩;subst hn0;have DI:=hr.ev ix;rw[hn]at DI;have TY:=DI.fT;split at h<;>try trivial
  ·rename_i i j aF hi hx
   obtain⟨xe,qI,Bb,hsz,-⟩:=aP hi;split at h<;>try trivial
   rename_i g c hg hcg;cases h;simp only[cH,eT]at hc;obtain⟨c1,c2,c3,c4⟩:=hc;have c1:=eM c1;have c3:(0:Int)<=n:=c3;have c4:n<(c.2.length:Int):=c4;subst c1;obtain⟨hh,hj,hs,hval⟩:=hr.soft hg hcg;have hv:=hr.ev x;rw[hx]at hv;have lS:=hval _ hv;rcases hs.block with⟨h1,h2⟩|⟨b,cap,cur,h1,-⟩
   ·grind
   rw[h1]at hj lS;refine fU (f:=λρ=>Instr.indexAt t (ρ x) (ρ ix)) (by simp[execOp,ho]) ⟨_,Wj (i:=n.toNat) (off:=0) hj om,λw' hs=>?_⟩;rw[lS,TY];unfold Instr.indexAt asIntOf;simp only[jm,pz,jL,aS eB]
   simp_all[and_self,if_true,jm,fu,jL,pz,add_lit,qJ,Gm]
 case fieldAddr s x f=>
  split at h<;>try trivial
  rename_i fs j1 j2 z j aF k i off ht hx;split at h<;>try trivial
  rename_i fd hf;split at h<;>try trivial
  rename_i fi g hi hg;cases h;simp only[cH,Ej]at hc;obtain⟨c1,c2⟩:=hc;have c2:=eM c2;have hz:fi.size≠0:=λe=>by rw[e]at c1;cases c1
  subst c2;have hv:=hr.ev x;rw[hx]at hv;obtain⟨b,m,cap,hj,hlt,lS⟩:=hr.iC hg hv;obtain⟨xt,jU,eB,-⟩:=aP ht;obtain⟨xf,hxf,-,hsf,-⟩:=aP hi;refine fU (f:=λρ=>Instr.fieldAt s (ρ x) f) (by simp[execOp,ho]) ⟨_,Wj (i:=i) (off:=off+fd.offset) hj hlt,λw' hs=>?_⟩;rw[lS];unfold Instr.fieldAt Instr.sureAddr;simp only[jm,pz,jL,aS eB,hf];simp[fieldPlace,fu hxf,hsf,hz,add_lit,PM]
 case nilCheck x=>
  split at h<;>try trivial
  rename_i j aF k i off hx;split at h<;>try trivial
  rename_i g hg;cases h;have c1:=eM hc;subst c1;have hv:=hr.ev x;rw[hx]at hv;obtain⟨b,m,cap,hj,hlt,lS⟩:=hr.iC hg hv;refine⟨a.eval x,hv,λw' _=>?_⟩;simp[execOp,ho,lS]
 case call c'=>
  split at h<;>try trivial
  rename_i x t hcl ha hat;have gF:c'.args=#[x]:=by grind
  have yH:c'.argTypes=#[t]:=by grind
  split at h<;>try trivial
  ·rename_i e j1 j2 z j aF ht hx
   split at h<;>try trivial
   rename_i g c hg hcg;cases h;have c1:=eM hc;subst c1;obtain⟨hh,hj,hs,hval⟩:=hr.soft hg hcg;have hv:=hr.ev x;rw[hx]at hv;have lS:=hval _ hv
   have hlen:∃ad cap,hh=.slice ad c.2.length cap:=by
    rcases hs.block with⟨h1,h2⟩|⟨b,cap,cur,h1,-⟩
    ·simp_all
    ·exact⟨_,_,h1⟩
   obtain⟨ad,cap,hlen⟩:=hlen;obtain⟨xt,jU,eB,-⟩:=aP ht;refine⟨_,.int _ _ _ _,λw' hs=>?_⟩;unfold execOp;simp only[ho,resolve,hcl,jm,pz,jL,invoke,builtin,gF,yH,List.map_toArray,jY,Nu];rw[lS,hlen];simp[Builtin.len_,aS eB,goInt]
def Ui(P:bh)(ty:aK->O Ty)(st:TS E)(o:Op):O (Bool×TV E):=match Ug P ty st o with
 | some x=>W0 x
 | none=>ZA P st o
theorem aaI(hE:E.Ok)(hr:Rel E w0 G0 st a w G){d:TV E}{c:Bool}(h:Ui P ty st o.op=W0 (c,d))(hc:c=WF):jB P a w G o d:=by
 grind[Ui,aaB,ac2]
def afM(T:Ty)(k:TypeDesc)(d:TV E):O (J (T.den E.D)):=
 match k,d with
 | .string,.dat .str l=>if h:T=.int .u8 then W0 (h▸cV l)else WP
 | .slice _,d=>d.get (.bq T)
 | _,_=>WP
def XN(P:bh)(src dst t':aK)(n off:Nat):Bool:=
 match P.underlying src,P.underlying dst with
 | some (.pointer t),W0 .unsafePointer=>match aV P t with
  | some i=>!(ST i.size 0)&&So off n
  | none=>UV
 | some .unsafePointer,W0 (.pointer t)=>match aV P t with
  | some _=>liesAt P P.depth t' (n / P.cellsOf t') off t 1
  | none=>UV
 | _,_=>UV
def ao0(P:bh)(e:aK):Bool:=match aV P e with
 | some ⟨.int .u8,_,_,_⟩=>WF
 | _=>UV
def afN(P:bh)(ty:aK->O Ty)(st:TS E)(dst:O Nat)(c:Call):O (Bool×TS E):=
 match c.callee,c.args.toList,c.argTypes.toList with
 | .builtin .append,[x,y],[t,tx]=>match aV P t,aV P tx with
  | some ⟨.slice e,_,_,_⟩,W0 ix=>match aV P e,ty e with
   | some ie,W0 T=>match afM T ix.kind (st.ev y)with
    | some ys=>match st.ev x with
     | .cA j aF T' xs=>match st.g[j]? with
      | some g=>if hT:T'=T then
        W0 (!(N4 st.c j)&&(ST g.aF aF&&(ST g.e e&&(ST g.k ie.size&&(ST ie.size (T.size E)&&(So 0 ie.size&&(ST ie.zero.cells.size ie.size &&
          (T1 (xs.length+ys.length<=9223372036854775807)&&T1 ((xs.length+ys.length)*ie.bytes<=140737488355328)))))))),
         {st with t:=cz st.t dst (.cA j (g.aF+1) T ((hT▸xs:J (T.den E.D))++ys)),g:=st.g.set j {g with aF:=g.aF+1}})
       else WP
      | none=>WP
     | .val (.slice WP 0 0)=>W0 (ST ie.size (T.size E)&&(So 0 ie.size&&(ST ie.zero.cells.size ie.size&&(T1 (ys.length<=9223372036854775807)&&T1 (ys.length*ie.bytes<=140737488355328)))),
       {st with t:=cz st.t dst (.cA st.g.length 1 T ys),g:=st.g++[⟨1,e,ie.size⟩]})
     | _=>WP
    | none=>WP
   | _,_=>WP
  | _,_=>WP
 | .builtin .unsafeString,[x,y],[pt,it]=>match aV P pt,st.ev x,st.ev y with
  | some ⟨.pointer e,_,_,_⟩,.Ro j aF xs,.dat (.int .i64) n=>match st.g[j]? with
   | some g=>W0 (!(N4 st.c j)&&(ST (P.cellsOf e) 1&&(ST g.aF aF&&(ST g.e e&&(ST g.k 1&&(T1 (n=(xs.length:Int))&&(Kg xs&&T1 (xs.length<=9223372036854775807))))))),
     {st with t:=cz st.t dst (.dat .str (cu xs)),g:=st.g.set j {g with aF:=g.aF+1}})
   | none=>WP
  | _,_,_=>WP
 | _,_,_=>WP
def Uj(P:bh)(ty:aK->O Ty)(st:TS E)(dst:O Nat):Op->O (Bool×TS E)
 | .alloc t=>match aV P t with
  | some i=>W0 (i.zero.cells.toList.all (·.oneCell'),{st with t:=cz st.t dst (.ptr st.H.length 0),H:=st.H++[.cells t (i.zero.cells.toList.map TV.Kj)]})
  | none=>WP
 | .box t x=>match (st.ev x).o8 with
  | some cs=>W0 (WF,{st with t:=cz st.t dst (.ptr st.H.length 0),H:=st.H++[.cells t cs]})
  | none=>WP
 | .store t x y=>match aV P t,st.ev x,(st.ev y).o8 with
  | some i,.ptr r off,W0 ds=>match st.H[r]? with
   | some (.cells t' cs)=>W0 (ST ds.length i.size&&Nat.ble (off+i.size) cs.length,{st with t:=cz st.t dst .any,H:=st.H.set r (.cells t' (cs.take off++ds++cs.drop (off+ds.length))),d:=r::st.d})
   | _=>WP
  | _,_,_=>WP
 | .buildSlice t len parts=>match aV P t with
  | some ⟨.slice e,_,_,_⟩=>match aV P e,ty e with
   | some ie,W0 T=>match oA T (parts.toList.map λp=>st.ev p.2)with
    | some xs=>cond (ST len 0)
      (cond (E.zc e) (W0 (parts.toList.isEmpty&&ST ie.size (T.size E),{st with t:=cz st.t dst (.cA st.g.length 0 T []),g:=st.g++[⟨0,e,ie.size⟩]}))
       (W0 (parts.toList.isEmpty,{st with t:=cz st.t dst (.dat (.bq T) [])})))
      (W0 (T1 (parts.toList.map (·.1)=R0 len)&&(Nat.ble (len*ie.size) 16777216&&(So 0 ie.size&&ST ie.size (T.size E))),
       {st with t:=cz st.t dst (.cA st.g.length 0 T xs),g:=st.g++[⟨0,e,ie.size⟩]}))
    | none=>WP
   | _,_=>WP
  | _=>WP
 | .call c=>afN P ty st dst c
 | .convert src dt x=>match st.ev x with
  | .ptr r off=>match st.H[r]? with
   | some (.cells t' cs)=>W0 (XN P src dt t' cs.length off,{st with t:=cz st.t dst (.ptr r off)})
   | _=>WP
  | d=>match d.Kk,aV P src,aV P dt with
   | some ⟨.int .u8,xs⟩,W0 ⟨.slice e,_,_,_⟩,W0 ⟨.string,_,_,_⟩=>W0 (ao0 P e,{st with t:=cz st.t dst (.dat .str (cu xs))})
   | _,_,_=>WP
 | .makeMap t WP=>match aV P t with
  | some ⟨.map k e,_,_,_⟩=>match ty k,ty e with
   | some kt,W0 vt=>W0 (WF,{st with t:=cz st.t dst (.jy st.H.length),H:=st.H++[.map kt vt []]})
   | _,_=>WP
  | _=>WP
 | .mapUpdate t x y z=>match aV P t,st.ev x with
  | some ⟨.map k e,_,_,_⟩,.jy r=>match st.H[r]?,aV P k with
   | some (.map kt vt m),W0 ik=>match (st.ev y).get kt,(st.ev z).get vt with
    | some kk,W0 vv=>W0 (Wh E P k kt ik.kind,{st with t:=cz st.t dst .any,H:=st.H.set r (.map kt vt (jN (kt.cW E) m kk vv)),d:=r::st.d})
    | _,_=>WP
   | _,_=>WP
  | _,_=>WP
 | .lookup t x y ok=>match aV P t,st.ev x with
  | some ⟨.map k e,_,_,_⟩,.jy r=>match st.H[r]?,aV P k,aV P e with
   | some (.map kt vt m),W0 ik,W0 ie=>match (st.ev y).get kt,(y5 E (W0 vt) ie.zero).get vt with
    | some kk,W0 z=>W0 (Wh E P k kt ik.kind&&ie.zero.cells.toList.all (·.oneCell'),
      {st with t:=cz st.t dst (cond ok (.tuple [.dat vt (fY (kt.cW E) m kk z),.dat .bool (Et (kt.cW E) m kk)]) (.dat vt (fY (kt.cW E) m kk z)))})
    | _,_=>WP
   | _,_,_=>WP
  | _,_=>WP
 | _=>WP
theorem Wk(hr:Rel E w0 G0 st a w G)(htx:aV P tx=W0 ix)(hk0:0<T.size E)(h:afM T ix.kind (st.ev y)=W0 ys):
  ∃news,Src P (T.size E) tx (a.eval y) ys.length news w/\Flat w G.pr (T.size E) news (ys.map (T.cells E)):=by
 unfold afM at h;split at h
 ·split at h
  ·rename_i hT
   subst hT
   grind[afI,cV,Ty.size]
  ·cases h
 ·rename_i e' hk
  have hv:=TV.uJ h (hr.ev y);exact akb hr htx hk hk0 (hv.atom rfl).tN
 ·cases h
theorem SB(hr:Rel E w0 G0 st a w G){t:aK}(ho:o.op=.buildSlice t 0 parts)(ht:aV P t=W0 ⟨.slice e,j1,j2,z⟩)(hi:aV P e=W0 ie)(hp:parts.toList=[])(T:Ty):
  jT P w0 G0 a w o {st with t:=cz st.t o.dst (.dat (.bq T) [])}:=by
 obtain⟨xt,jU,eB,-⟩:=aP ht;obtain⟨xe,qI,Bb,hsz,-⟩:=aP hi;have hp':parts=#[]:=by simp_all
 have hG:=hr.grow (fh.alloc w (.cells #[] e)) rfl rfl rfl G.pr (λ_ _ h=>h) (λ_ _ _ h=>h) (λb o hp=>jS (hr.boxes.gu b o hp).1 si);refine⟨.value (.slice (W0 ⟨w.heap.size,0,WP⟩) 0 0),_,w.alloc (.cells #[] e),_,?_,.inl rfl,hG.put (.list (.vo _ _)) o.dst⟩;simp[execOp,ho,Instr.buildSlice,aS eB,fu qI,hp'];simp[newRow,Instr.fill]
 grind
theorem SC(hr:Rel E w0 G0 st a w G){t:aK}(ho:o.op=.buildSlice t 0 parts)(ht:aV P t=W0 ⟨.slice e,j1,j2,z⟩)(hi:aV P e=W0 ie)(hp:parts.toList=[])(hz:E.zc e=WF)(T:Ty)(hk:ie.size=T.size E):
  jT P w0 G0 a w o {st with t:=cz st.t o.dst (.cA st.g.length 0 T []),g:=st.g++[⟨0,e,ie.size⟩]}:=by
 obtain⟨xt,jU,eB,-⟩:=aP ht;obtain⟨xe,qI,Bb,hsz,-⟩:=aP hi;have hp':parts=#[]:=by simp_all
 have hG:=hr.amW (k:=ie.size) hz;refine⟨.value (.slice (W0 ⟨w.heap.size,0,WP⟩) 0 0),_,w.alloc (.cells #[] e),_,?_,.inl rfl,hG.put ?_ o.dst⟩
 ·simp[execOp,ho,Instr.buildSlice,aS eB,fu qI,hp']
  simp[newRow,Instr.fill]
  grind
 ·exact⟨.vo _ _,⟨0,e,ie.size⟩,.slice (W0 ⟨w.heap.size,0,WP⟩) 0 0,by rw[<-hr.qm];simp,eu _,λ_=>rfl⟩
theorem ac3(hE:E.Ok)(hr:Rel E w0 G0 st a w G){st':TS E}{c:Bool}(h:Uj P ty st o.dst o.op=W0 (c,st'))(hc:c=WF):jT P w0 G0 a w o st':=by
 cases ho:o.op<;>rw[ho]at h<;>simp only[Uj]at h<;>try trivial
 case alloc t=>
  grind[afH]
 case box t x=>
  grind[aka]
 case store t x y=>
  grind[afF,Nat.eq_of_beq_eq_true,Nat.le_of_ble_eq_true]
 case buildSlice t len parts=>
  split at h<;>try trivial
  rename_i e j1 j2 z ht;split at h<;>try trivial
  rename_i ie T hi hT;split at h<;>try trivial
  rename_i xs hx;cases hl:ST len 0<;>rw[hl]at h<;>simp only[aY,aM]at h
  ·cases h
   simp only[cH,eT]at hc;have h0:len≠0:=λe=>by subst e;cases hl
   exact Ue hE hr ho ht hi hc.1 (lG hc.2.1) (lG hc.2.2.1) om (eM hc.2.2.2) hx
  ·obtain rfl:=eM hl
   cases hz:E.zc e<;>rw[hz]at h<;>simp at h<;>cases h
   ·grind[SB]
   grind[SC,Nat.eq_of_beq_eq_true]
 case convert src dt x=>
  split at h
  ·rename_i r off hd
   split at h<;>try trivial
   rename_i t' cs hb;cases h;refine aaC hr ho hd hb ?_;unfold XN at hc;split at hc<;>try trivial
   ·rename_i t hs hdt
    split at hc<;>try trivial
    rename_i i hi;simp only[cH,Ej]at hc;exact .inl ⟨t,i,hs,hdt,hi,λe=>(by simp_all),lG hc.2⟩
   grind
  grind[ao0,Oi,TV.Iv]
 case makeMap t res=>
  grind[aaH]
 case mapUpdate t x y z=>
  grind[Wi]
 case lookup t x y ok=>
  grind[ac0]
 case call c'=>
  unfold afN at h;split at h<;>try trivial
  ·split at h<;>try trivial
   split at h<;>try trivial
   split at h<;>try trivial
   split at h<;>try trivial
   ·split at h<;>try trivial
    split at h<;>try trivial
    cases h;simp only[cH,eT]at hc;obtain⟨c0,c1,c2,c3,c4,c5,c6,c7,c8⟩:=hc;have c0:=Li (by simpa using c0);have c5:=lG c5
    grind[Wk,acW,Nat.eq_of_beq_eq_true]
   ·cases h
    simp only[cH,eT]at hc;obtain⟨c4,c5,c6,c7,c8⟩:=hc;have c5:=lG c5
    grind[Wk,Wg,Nat.eq_of_beq_eq_true]
  ·rename_i x y pt it hcl ha hat
   split at h<;>try trivial
   rename_i e j1 j2 z j aF xs n hp hx hy;split at h<;>try trivial
   rename_i g hg;cases h;simp only[cH,eT]at hc;obtain⟨c0,c1,c2,c3,c4,c5,c6,c7⟩:=hc;have c0:=Li (by simpa using c0);exact QN (j3:=0) (j4:=0) (z2:=undef) hr ho hcl ha hat hp (eM c1) hx hg c0 (eM c2) (eM c3) (eM c4) hy c5 c6 c7
end Go.RT
