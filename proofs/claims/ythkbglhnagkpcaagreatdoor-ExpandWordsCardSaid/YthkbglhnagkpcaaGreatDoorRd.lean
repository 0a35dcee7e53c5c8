import Derived.Test.YthkbglhnagkpcaaGreatDoorAl
open Go.Op renaming bytesLess->pD
open UInt8 renaming ofNat->lL
open Nat renaming ble->iO,beq->dO,blt->bY
open Option renaming some->iN,none->iF
open Bool renaming true->eQ,false->eK
open Decidable renaming decide->eJ
open Int renaming toNat->eI
open List renaming range->aT,length->Sx
open BitVec renaming ofInt->T1
open Go renaming Value->R0,execOp->M2,undef->H5,FuncId->H4,Oper->H2,wpList->Ts
set_option linter.all false
namespace Go.RT
inductive Ty where
 | int (k:IntKind)|bool|str|bx (t:Ty)|unit|pair (a b:Ty)|ext (i:Nat)
 deriving DecidableEq,Inhabited
@[reducible] def Ty.den (D : Nat -> Type) : Ty -> Type
 | .int _=>Int|.bool=>Bool|.str=>J UInt8|.bx t=>J (t.den D)|.unit=>Unit|.pair a b=>a.den D×b.den D|.ext i=>D i
inductive DV where
 | int (k:IntKind) (n:Int)
 | bool (b:Bool)
 | str (l:List UInt8)
 | slice (k:Nat) (es:List (List DV))
 deriving Inhabited
structure YD where
 params:Array Tmp
 assign:Code
 body:Code
structure TEnv where
 D:Nat->Type
 df:Nat->Ty
 size:Nat->Nat
 enc:(i:Nat)->D i->List DV
 Cc:(i:Nat)->D i->(df i).den D
 fold:(i:Nat)->(df i).den D->D i
 inh:(i:Nat)->D i
 gb:Nat->Option (Array R0->Prop)
 yd:Nat->YD->Prop
 ydn:Nat->Option Nat
 zc:TypeId->Bool
variable (E : TEnv)
def Ty.size:Ty->Nat|.int _=>1|.bool=>1|.str=>1|.bx _=>1|.unit=>0|.pair a b=>a.size+b.size|.ext i=>E.size i
def Ty.dflt:(t:Ty)->t.den E.D|.int _=>(0:Int)|.bool=>eK|.str=>[]|.bx _=>[]|.unit=>()|.pair a b=>(a.dflt,b.dflt)|.ext i=>E.inh i
def Ty.isAgg:Ty->Bool|.unit=>eQ|.pair _ _=>eQ|.ext _=>eQ|_=>eK
def Ty.cells:(t:Ty)->t.den E.D->J DV|.int k,n=>[.int k n]|.bool,b=>[.bool b]|.str,l=>[.str l]|.bx t,xs=>[.slice (t.size E) (xs.map (t.cells))]|.unit,_=>[]|.pair a b,x=>a.cells x.1++b.cells x.2|.ext i,x=>E.enc i x
structure TEnv.Ok:Prop where
 enc:∀i x,E.enc i x=(E.df i).cells E (E.Cc i x)
 fold:∀i y,E.Cc i (E.fold i y)=y
 size:∀i,E.size i=(E.df i).size E
 len:∀i x,(E.enc i x).length=E.size i
 ydn:∀y Y n,E.yd y Y->E.ydn y=iN n->Y.params.size=n
theorem Ty.Cd(hE:E.Ok):∀(t:Ty)(x:t.den E.D),(t.cells E x).length=t.size E:=by
 intro t
 induction t with|int k=>intro x;rfl|bool=>intro x;rfl|str=>intro x;rfl|bx t _=>intro x;rfl|unit=>intro x;rfl|pair a b Gi Gj=>simp_all[Ty.cells,Ty.size]|ext i=>intro x;exact hE.len i x
def mkStr(l:J UInt8):R0:=.string ⟨⟨l⟩⟩
inductive VD(w:World)(pr:Nat->Nat->Prop):R0->DV->Prop
 | int (k:IntKind) (n:Int):VD w pr (.int k n) (.int k n)
 | bool (b:Bool):VD w pr (.bool b) (.bool b)
 | str (l:List UInt8):VD w pr (mkStr l) (.str l)
 | wM (a:Option Addr) (k:Nat):VD w pr (.slice a 0 0) (.slice k [])
 | slice (b off cap k:Nat) (es:List (List DV)) (c:Nat->Nat->R0) (hc:Sx es<=cap)
   (hk:∀j,j<Sx es->(es.getD j []).length=k)
   (h0:∀j l,j<Sx es->l<k->pr b (off+j*k+l)/\w.cell? ⟨b,off+j*k+l,iF⟩=iN (c j l))
   (h:∀j l,j<Sx es->l<k->VD w pr (c j l) ((es.getD j []).getD l default)) :
   VD w pr (.slice (iN ⟨b,off,iF⟩) es.length cap) (.slice k es)
variable{w:U}{pr:Nat -> Nat -> Prop}{mP:Nat->Nat->Prop}
theorem VD.mono{w':U}(hp:∀b o,pr b o->mP b o)
  (hc:∀b o v,pr b o->w.cell? ⟨b,o,iF⟩=iN v->w'.cell? ⟨b,o,iF⟩=iN v)
  {v:R0} {d:DV} (h:VD w pr v d):VD w' mP v d:=by
 induction h with|int k n=>exact .int k n|bool b=>exact .bool b|str l=>exact .str l|wM a k=>exact .wM a k|slice b off cap k es c hcap hk h0 h ih=>exact .slice b off cap k es c hcap hk (λj l hj hl=>⟨hp _ _ (h0 j l hj hl).1,hc _ _ _ (h0 j l hj hl).1 (h0 j l hj hl).2⟩) ih
variable{v:R0}
theorem VD.one{d:DV}(h:VD w pr v d):v.oneCell'=eQ:=by cases h<;>rfl
def LD(w:U)(pr:Nat->Nat->Prop):J R0->J DV->Prop|[],[]=>True|v::vs,d::ds=>VD w pr v d/\LD w pr vs ds|_,_=>False
def Flat(w:U)(pr:Nat->Nat->Prop)(k:Nat)(xs:J R0)(es:J (J DV)):Prop:=
 xs.length=Sx es*k/\(∀j,j<Sx es->(es.getD j []).length=k) /\
 ∀j l,j<Sx es->l<k->VD w pr (xs.getD (j*k+l) H5) ((es.getD j []).getD l default)
theorem Flat.mono{w':U}{k:Nat}{xs:J R0}{es:J (J DV)}(h:Flat w pr k xs es)(hp:∀b o,pr b o->mP b o)
  (hc:∀b o v,pr b o->w.cell? ⟨b,o,iF⟩=iN v->w'.cell? ⟨b,o,iF⟩=iN v):Flat w' mP k xs es:=
 ⟨h.1,h.2.1,λj l hj hl=>(h.2.2 j l hj hl).mono hp hc⟩
inductive TV where
 | any
 | dat (t:Ty) (x:t.den E.D)
 | uk (t:Ty) (x:t.den E.D) (off:Nat)
 | ptr (r off:Nat)
 | rF (b:Bool) (r off:Nat)
 | jT (r:Nat)
 | vV (r:Nat)
 | iU (r n cap:Nat)
 | cz (j aF:Nat) (t:Ty) (xs:List (t.den E.D))
 | Ua (j aF:Nat) (l:List Int)
 | eF (j aF:Nat)
 | iX (j aF k i off:Nat)
 | vp (t:Ty) (xs:List (t.den E.D))
 | func (fn:Fn) (caps:List TV)
 | Iw (fn:Fn) (firsts:List TV)
 | iface (ty:TypeId) (v:TV)
 | agg (cs:List TV)
 | tuple (vs:List TV)
 | val (v:R0)
instance:Inhabited (TV E):=⟨.any⟩
inductive gu where
 | cells (ty:TypeId) (cs:List (TV E))
 | iter (s:List UInt8) (pos:Nat)
 | map (kt vt:Ty) (m:List (kt.den E.D×vt.den E.D))
 | loop (y:Nat) (ds:List (TV E))
 | gone
 | Ub
 | mH (e:TypeId) (cap:Nat) (t:Ty) (xs:List (t.den E.D)) (d:TV E)
instance:Inhabited (gu E):=⟨.iter [] 0⟩
structure cU where
 aF:Nat
 e:TypeId
 k:Nat
 deriving DecidableEq,Inhabited
abbrev Cn(E:TEnv):=(t:Ty)×J (t.den E.D)
structure TS where
 t:List (TV E)
 H:List (gu E)
 g:List cU
 d:List Nat
 df:List (H4×List (TV E))
 c:List (Nat×Cn E)
structure bC where
 i:List Nat
 g:List (cU×R0)
 pr:Nat->Nat->Prop
mutual
def VT(w:U)(G:bC):TV E->R0->Prop
 | .any,_=>True|.dat t x,v=>match t.isAgg with
  | true=>∃vs:aJ R0,v=.agg vs/\LD w G.pr vs.toList (t.cells E x)|false=>LD w G.pr [v] (t.cells E x)
 | .uk t x off,v=>∃(b o:Nat)(c:J R0),v=.pointer (iN ⟨b,o+off,iF⟩)/\LD w G.pr c (t.cells E x) /\
   ∀l u,c[l]? = iN u->G.pr b (o+l)/\w.cell? ⟨b,o+l,iF⟩=iN u
 | .ptr r off,v=>∃b,v=.pointer (iN ⟨b,off,iF⟩)/\G.i[r]? = iN b|.rF c r off,v=>match c with
  | true=>∃b,v=.pointer (iN ⟨b,off,iF⟩)/\G.i[r]? = iN b|false=>v=.pointer iF
 | .jT r,v=>∃b,v=.map (iN b)/\G.i[r]? = iN b|.vV r,v=>∃b,v=.func (.yield b) #[] #[]/\G.i[r]? = iN b|.iU r n cap,v=>∃b,v=.slice (iN ⟨b,0,iF⟩) n cap/\G.i[r]? = iN b|.cz j aF t xs,v=>VD w G.pr v (.slice (t.size E) (xs.map (t.cells E)))/\∃x h,G.g[j]? = iN (x,h)/\aF<=x.aF/\(aF=x.aF->v=h)|.Ua j aF l,v=>∃x h u,G.g[j]? = iN (x,h)/\aF<=x.aF/\VD w G.pr u (.slice 1 (l.map λn=>[.int .u8 n]))/\(aF=x.aF->u=h/\((h=.slice iF 0 0/\l=[]/\v=.pointer iF)\/∃b cap,h=.slice (iN ⟨b,0,iF⟩) l.length cap/\v=.pointer (iN ⟨b,0,iF⟩)))|.eF j aF,v=>∃x h,G.g[j]? = iN (x,h)/\aF<=x.aF/\v.oneCell'=eQ/\(aF=x.aF->v=h)|.iX j aF k i off,v=>∃x h,G.g[j]? = iN (x,h)/\aF<=x.aF/\v.oneCell'=eQ/\(aF=x.aF->∃b m cap,h=.slice (iN ⟨b,0,iF⟩) m cap/\i<m/\v=.pointer (iN ⟨b,i*k+off,iF⟩))|.vp t xs,v=>∃vs:aJ R0,v=.agg vs/\(∀u,u∈vs->u.oneCell'=eQ)/\Flat w G.pr (t.size E) vs.toList (xs.map (t.cells E))|.func fn caps,v=>∃vs:aJ R0,v=.func fn #[] vs/\bO w G caps vs.toList|.Iw fn firsts,v=>∃vs:aJ R0,v=.func fn vs #[]/\bO w G firsts vs.toList|.iface ty d,v=>∃u,v=.iface ty u/\VT w G d u|.agg cs,v=>∃vs:aJ R0,v=.agg vs/\(∀u,u∈vs->u.oneCell'=eQ)/\bO w G cs vs.toList|.tuple ds,v=>∃vs:aJ R0,v=.tuple vs/\bO w G ds vs.toList|.val u,v=>v=u
def bO(w:U)(G:bC):J (TV E)->J R0->Prop|[],vs=>vs=[]|d::ds,vs=>∃u us,vs=u::us/\VT w G d u/\bO w G ds us
end
section
variable {E : TEnv} {w w' : U} {G G' : bC}
theorem LD.mono{pr mP:Nat->Nat->Prop}(hp:∀b o,pr b o->mP b o)
  (hc:∀b o v,pr b o->w.cell? ⟨b,o,iF⟩=iN v->w'.cell? ⟨b,o,iF⟩=iN v) :
  ∀ {vs:J R0}{ds:J DV},LD w pr vs ds->LD w' mP vs ds
 | [],[],_=>trivial|_::_,_::_,h=>⟨h.1.mono hp hc,LD.mono hp hc h.2⟩|[],_::_,h=>h.elim|_::_,[],h=>h.elim
structure jc(w:World)(G:bC)(w':World)(G':bC):Prop where
 pr:∀b o,G.pr b o->G'.pr b o
 cells:∀b o v,G.pr b o->w.cell? ⟨b,o,iF⟩=iN v->w'.cell? ⟨b,o,iF⟩=iN v
 i:∀(r b:Nat),G.i[r]? = iN b->G'.i[r]? = iN b
 g:∀(j:Nat) x h,G.g[j]? = iN (x,h)->∃x' h',G'.g[j]? = iN (x',h')/\x.aF<=x'.aF/\(x.aF=x'.aF->h'=h)
mutual
theorem VT.mono(hg:jc w G w' G'):∀ {d:TV E}{v:R0},VT E w G d v->VT E w' G' d v
 | .any,_,_=>by simp only[VT]|.dat t x,v,h=>by
  simp only[VT]at h⊢;cases ha:t.isAgg<;>rw[ha]at h<;>dsimp only at h⊢
  rotate_left
  .obtain⟨vs,rfl,h⟩:=h;exact⟨vs,rfl,h.mono hg.pr hg.cells⟩
  .exact h.mono hg.pr hg.cells
 | .uk t x off,v,h=>by simp only[VT]at h⊢;obtain⟨b,o,c,rfl,h1,h2⟩:=h;exact⟨b,o,c,rfl,h1.mono hg.pr hg.cells,λl u hl=>⟨hg.pr _ _ (h2 l u hl).1,hg.cells _ _ _ (h2 l u hl).1 (h2 l u hl).2⟩⟩
 | .ptr r off,v,h=>by simp only[VT]at h⊢;obtain⟨b,rfl,h⟩:=h;exact⟨b,rfl,hg.i r b h⟩
 | .jT r,v,h=>by simp only[VT]at h⊢;obtain⟨b,rfl,h⟩:=h;exact⟨b,rfl,hg.i r b h⟩
 | .vV r,v,h=>by simp only[VT]at h⊢;obtain⟨b,rfl,h⟩:=h;exact⟨b,rfl,hg.i r b h⟩
 | .iU r n cap,v,h=>by simp only[VT]at h⊢;obtain⟨b,rfl,h⟩:=h;exact⟨b,rfl,hg.i r b h⟩
 | .rF c r off,v,h=>by
  cases c<;>simp only[VT]at h⊢
  .exact h
  .obtain⟨b,rfl,h⟩:=h;exact⟨b,rfl,hg.i r b h⟩
 | .cz j aF t xs,v,h=>by
  simp only[VT]at h⊢;obtain⟨h1,x,g,lI,hle,heq⟩:=h;obtain⟨x',g',hg',hle',heq'⟩:=hg.g j x g lI
  exact⟨h1.mono hg.pr hg.cells,x',g',hg',jR hle hle',λe=>by
   have e1:aF=x.aF:=abF hle (e▸hle')
   rw[heq e1,heq' (e1.symm.trans e)]⟩
 | .Ua j aF l,v,h=>by simp only[VT]at h⊢;obtain⟨x,g,u,lI,hle,Ce,heq⟩:=h;obtain⟨x',g',hg',hle',heq'⟩:=hg.g j x g lI;refine⟨x',g',u,hg',jR hle hle',Ce.mono hg.pr hg.cells,λe=>?_⟩;have e1:aF=x.aF:=abF hle (e▸hle');rw[heq' (e1.symm.trans e)];exact heq e1
 | .eF j aF,v,h=>by
  simp only[VT]at h⊢;obtain⟨x,g,lI,hle,h1,heq⟩:=h;obtain⟨x',g',hg',hle',heq'⟩:=hg.g j x g lI
  exact⟨x',g',hg',jR hle hle',h1,λe=>by
   have e1:aF=x.aF:=abF hle (e▸hle')
   rw[heq e1,heq' (e1.symm.trans e)]⟩
 | .iX j aF k i off,v,h=>by simp only[VT]at h⊢;obtain⟨x,g,lI,hle,h1,heq⟩:=h;obtain⟨x',g',hg',hle',heq'⟩:=hg.g j x g lI;refine⟨x',g',hg',jR hle hle',h1,λe=>?_⟩;have e1:aF=x.aF:=abF hle (e▸hle');rw[heq' (e1.symm.trans e)];exact heq e1
 | .vp t xs,v,h=>by simp only[VT]at h⊢;obtain⟨vs,rfl,h1,h⟩:=h;exact⟨vs,rfl,h1,h.mono hg.pr hg.cells⟩
 | .func fn caps,v,h=>by simp only[VT]at h⊢;obtain⟨vs,rfl,h⟩:=h;exact⟨vs,rfl,bO.mono hg h⟩
 | .Iw fn firsts,v,h=>by simp only[VT]at h⊢;obtain⟨vs,rfl,h⟩:=h;exact⟨vs,rfl,bO.mono hg h⟩
 | .iface ty d,v,h=>by simp only[VT]at h⊢;obtain⟨u,rfl,h⟩:=h;exact⟨u,rfl,VT.mono hg h⟩
 | .agg cs,v,h=>by simp only[VT]at h⊢;obtain⟨vs,rfl,h1,h⟩:=h;exact⟨vs,rfl,h1,bO.mono hg h⟩
 | .tuple ds,v,h=>by simp only[VT]at h⊢;obtain⟨vs,rfl,h⟩:=h;exact⟨vs,rfl,bO.mono hg h⟩
 | .val u,v,h=>by simpa only[VT]using h
theorem bO.mono(hg:jc w G w' G'):∀ {ds:J (TV E)}{vs:J R0},bO E w G ds vs->bO E w' G' ds vs
 | [],_,h=>by simpa only[bO]using h|d::ds,vs,h=>by simp only[bO]at h⊢;obtain⟨u,us,rfl,h1,h2⟩:=h;exact⟨u,us,rfl,VT.mono hg h1,bO.mono hg h2⟩
end
end
def gM(w:U)(G:bC)(kt vt:Ty):J MapEntry->J (kt.den E.D×vt.den E.D)->Prop|[],[]=>True|e::es,p::ps=>VT E w G (.dat kt p.1) e.key/\VT E w G (.dat vt p.2) e.val/\gM w G kt vt es ps|_,_=>False
def kN(w:U)(G:bC)(b:Nat):gu E->Prop|.cells ty cs=>∃vs:aJ R0,w.heap[b]? = iN (.cells vs ty (0,0))/\(∀u,u∈vs->u.oneCell'=eQ)/\bO E w G cs vs.toList|.iter s pos=>w.heap[b]? = iN (.stringIter ⟨⟨s⟩⟩ pos)|.map kt vt m=>∃(es:aJ MapEntry)(clock:Nat),w.heap[b]? = iN (.map es clock)/\MapKept.Stamped es clock/\gM E w G kt vt es.toList m|.loop y ds=>∃(Y:YD)(fn:H4)(tmps:aJ R0)(D:Nat),E.yd y Y/\w.heap[b]? = iN (.loop ⟨.ready,iF,fn,tmps,Y.params,Y.assign,Y.body,D⟩)/\bO E w G ds tmps.toList|.gone=>∃o,w.heap[b]? = iN o/\∀cs t m,o≠.cells cs t m|.Ub=>w.heap[b]? = iN (.deferred (iN []))|.mH e cap t xs d=>∃cur:aJ R0,w.heap[b]? = iN (.cells cur e (0,0))/\cur.size=cap/\(∀(i:Nat) x,xs[i]? = iN x->VT E w G (.dat t x) (cur.getD i H5))/\VT E w G d (cur.getD xs.length H5)/\xs.length<cap
def zS(w:U)(G:bC)(x:cU)(h:R0):Prop:=∃n xs,w.ownsRow 0 x.e x.k h n xs/\(∀a m,h=.slice (iN a) m 0->E.zc x.e=eQ)/\∀b,h.ownBlock=iN b->b<w.heap.size/\b∉G.i/\∀o,n*x.k<=o->¬ G.pr b o
def bC.rows(G:bC)(b:Nat):Prop:=∃x h,(x,h)∈G.g/\h.ownBlock=iN b
def bC.FQ(G:bC)(b:Nat):Prop:=b∈G.i\/G.rows b
structure mj(w0:World)(G0:bC)(w:World)(G:bC):Prop where
 os:w.os=w0.os
 tape:w.tape=w0.tape
 output:w.output=w0.output
 size:w0.heap.size<=w.heap.size
 old:∀b,b<w0.heap.size->¬ G0.FQ b->w.heap[b]? = w0.heap[b]?
 goes:jc w0 G0 w G
 pN:∀b o,b<w0.heap.size->G.pr b o->G0.pr b o\/G0.rows b
 sF:∀(r b:Nat),G0.i.length<=r->G.i[r]? = iN b->w0.heap.size<=b
 iB:∀(j:Nat) x h b,G.g[j]? = iN (x,h)->h.ownBlock=iN b->w0.heap.size<=b\/∃x0 h0,G0.g[j]? = iN (x0,h0)/\h0.ownBlock=iN b
structure mX(w:World)(G:bC)(H:List (gu E))(gs:List cU):Prop where
 len:G.i.length=H.length
 gs:G.g.map (·.1)=gs
 box:∀(r b:Nat)(x:gu E),G.i[r]? = iN b->H[r]? = iN x->kN E w G b x
 lt:∀b,b∈G.i->b<w.heap.size
 nodup:G.i.Nodup
 gT:∀b o,G.pr b o->b<w.heap.size/\b∉G.i
 grow:∀(j:Nat) x h,G.g[j]? = iN (x,h)->zS E w G x h
 apart:∀(j j':Nat) x h x' h' b,G.g[j]? = iN (x,h)->G.g[j']? = iN (x',h')->h.ownBlock=iN b->h'.ownBlock=iN b->j=j'
def rj(w:U)(G:bC):Prop:=∀b p,E.gb b=iN p->(∃cs t m,w.heap[b]? = iN (.cells cs t m)/\p cs)/\¬ G.FQ b
def Cf:H4:=2000000
def DOk(w:U)(G:bC)(d:Deferred)(x:H4×J (TV E)):Prop:=(dO x.1 Cf=eK/\∃cap,d.target=.fn (.func x.1) cap/\bO E w G x.2 (d.args++cap).toList)\/(x.1=Cf/\∃b,d={target:=.collected b,args:=#[]}/\bO E w G x.2 [.func (.yield b) #[] #[]])
def lu(w:U)(G:bC):J Deferred->J (H4×J (TV E))->Prop|[],[]=>True|d::ds,x::xs=>DOk E w G d x/\lu w G ds xs|_,_=>False
def um(w:U)(G:bC)(x:cU)(h:R0)(c:Cn E):Prop:=x.k=c.1.size E/\0<x.k/\(∃vals,w.ownsRow 0 x.e x.k h c.2.length vals/\Flat w G.pr x.k vals (c.2.map (c.1.cells E)))/\∀b,h.ownBlock=iN b->∀o,¬ G.pr b o
def lS(w:U)(G:bC)(cs:J (Nat×Cn E)):Prop:=∀j c,(j,c)∈cs->∃x h,G.g[j]? = iN (x,h)/\um E w G x h c
structure Rel(w0:World)(G0:bC)(st:TS E)(a:Act)(w:World)(G:bC):Prop where
 fH:mj w0 G0 w G
 size:a.tmps.size=st.t.length
 tmps:∀(j:Nat) d,st.t[j]? = iN d->VT E w G d (a.tmps.getD j H5)
 defers:lu E w G a.defers st.df
 boxes:mX E w G st.H st.g
 fix:∀(r b:Nat),G0.i[r]? = iN b->r∉st.d->w.heap[b]? = w0.heap[b]?
 pins:rj E w0 G0
 gU:lS E w G st.c
inductive Ex where
 | normal|exit (id:Nat)|goto (l:Nat)|ret|panic (d:TV E)
def arX(w:U)(G:bC):Exit->Ex E->Prop|.normal,.normal=>True|.exit i,.exit j=>i=j|.goto i,.goto j=>i=j|.ret,.ret=>True|.panic ch,.panic d=>∃v,ch=[{v:=v,recovered:=eK}]/\VT E w G d v|_,_=>False
def cQ(w0:U)(G0:bC)(Q:Ex E->TS E->Prop):Exit->Act->U->Prop:=λe a w=>∃x st G,arX E w G e x/\Rel E w0 G0 st a w G/\Q x st
def J6(P:bw)(c:Code)(st:TS E)(Q:Ex E->TS E->Prop):Prop:=∀w0 G0 a w G,Rel E w0 G0 st a w G->c.wp P (cQ E w0 G0 Q) a w
def aip(P:bw)(ops:aJ H2)(l:J H2)(st:TS E)(Q:Ex E->TS E->Prop):Prop:=∀w0 G0 a w G,Rel E w0 G0 st a w G->Ts P ops (cQ E w0 G0 Q) l a w
variable {E : TEnv}
theorem LD.length:∀ {vs:J R0}{ds:J DV},LD w pr vs ds->Sx vs=Sx ds|[],[],_=>rfl|_::_,_::_,h=>by simp[LD.length h.2]|[],_::_,h=>h.elim|_::_,[],h=>h.elim
theorem LD.one:∀ {vs:J R0}{ds:J DV},LD w pr vs ds->∀u,u∈vs->u.oneCell'=eQ
 | [],[],_,u,hu=>by cases hu
 | v::vs,d::ds,h,u,hu=>by
  rcases gL.1 hu with rfl|hu
  .exact h.1.one
  .exact LD.one h.2 u hu
 | [],_::_,h,_,_=>h.elim|_::_,[],h,_,_=>h.elim
theorem LD.append:∀ {vs us:J R0}{ds es:J DV},LD w pr vs ds->LD w pr us es->LD w pr (vs++us) (ds++es)|[],_,[],_,_,h=>h|_::_,_,_::_,_,h,h'=>⟨h.1,LD.append h.2 h'⟩|[],_,_::_,_,h,_=>h.elim|_::_,_,[],_,h,_=>h.elim
theorem LD.take:∀(n:Nat){vs:J R0}{ds:J DV},LD w pr vs ds->LD w pr (vs.take n) (ds.take n)|0,_,_,_=>by simp[LD]|_+1,[],[],_=>trivial|n+1,_::_,_::_,h=>⟨h.1,LD.take n h.2⟩|_+1,[],_::_,h=>h.elim|_+1,_::_,[],h=>h.elim
theorem LD.drop:∀(n:Nat){vs:J R0}{ds:J DV},LD w pr vs ds->LD w pr (vs.drop n) (ds.drop n)|0,_,_,h=>h|_+1,[],[],_=>trivial|n+1,_::_,_::_,h=>LD.drop n h.2|_+1,[],_::_,h=>h.elim|_+1,_::_,[],h=>h.elim
theorem LD.split:∀ {ds es:J DV}{vs:J R0},LD w pr vs (ds++es)->∃us ts,vs=us++ts/\LD w pr us ds/\LD w pr ts es
 | [],_,vs,h=>⟨[],vs,rfl,trivial,h⟩|d::ds,es,v::vs,h=>by obtain⟨us,ts,rfl,h1,h2⟩:=LD.split h.2;exact⟨v::us,ts,rfl,⟨h.1,h1⟩,h2⟩
 | _::_,_,[],h=>h.elim
def LD.single{d:DV}(h:VD w pr v d):LD w pr [v] [d]:=⟨h,trivial⟩
def LD.uS{d:DV}(h:LD w pr [v] [d]):VD w pr v d:=h.1
variable{b:Bool}{l:J UInt8}
theorem VD.gD{k:eW}{n:Int}(h:VD w pr v (.int k n)):v=.int k n:=by cases h;rfl
theorem VD.nE(h:VD w pr v (.bool b)):v=.bool b:=by cases h;rfl
theorem VD.iQ(h:VD w pr v (.str l)):v=mkStr l:=by cases h;rfl
variable{G:bC}
theorem VT.gD{k:eW}{n:Int}(h:VT E w G (.dat (.int k) n) v):v=.int k n:=h.uS.gD
theorem VT.nE(h:VT E w G (.dat .bool b) v):v=.bool b:=h.uS.nE
theorem VT.iQ(h:VT E w G (.dat .str l) v):v=mkStr l:=h.uS.iQ
theorem VT.int(w:U)(G:bC)(k:eW)(n:Int):VT E w G (.dat (.int k) n) (.int k n):=.single (.int k n)
theorem VT.bool(w:U)(G:bC)(b:Bool):VT E w G (.dat .bool b) (.bool b):=.single (.bool b)
theorem VT.str(w:U)(G:bC)(l:J UInt8):VT E w G (.dat .str l) (mkStr l):=.single (.str l)
def TV.L3:R0->TV E|.int k n=>.dat (.int k) n|.bool b=>.dat .bool b|.string s=>.dat .str s.data.toList|v=>.val v
theorem acY(w:U)(G:bC)(v:R0):VT E w G (TV.L3 v) v:=by cases v<;>first|exact .int _ _ _ _|exact .bool _ _ _|exact .str w G _|(simp[TV.L3,VT])
def TS.at(st:TS E)(i:Nat):TV E:=st.t.getD i .any
def TS.ev(st:TS E):dJ->TV E|.tmp t=>st.at t|.const v=>.L3 v|.global _=>.any|.func f=>.func (.func f) []
def cE(l:J (TV E))(dst:O Nat)(d:TV E):J (TV E):=match dst with|some i=>l.set i d|none=>l
def Qo:J (Nat×Cn E)->Nat->Bool|[],_=>eK|p::cs,j=>dO p.1 j||Qo cs j
theorem Ns:∀ {cs:J (Nat×Cn E)}{j:Nat},Qo cs j=eK->∀c,(j,c)∉cs
 | [],j,_,c,h=>by cases h
 | p::cs,j,hs,c,h=>by
  simp[Qo]at hs;rcases gL.1 h with h|h
  .rw[<-h,PV]at hs;cases hs.1
  .exact Ns hs.2 c h
def qc:J (Nat×Cn E)->Nat->O (Cn E)|[],_=>iF|p::cs,j=>cond (dO p.1 j) (iN p.2) (qc cs j)
theorem UW:∀ {cs:J (Nat×Cn E)}{j:Nat}{c:Cn E},qc cs j=iN c->(j,c)∈cs
 | [],j,c,h=>by cases h
 | p::cs,j,c,h=>by
  simp[qc]at h;cases hb:dO p.1 j<;>rw[hb]at h<;>simp at h
  .exact nt _ (UW h)
  .cases h;have:=fm hb;subst this;simp
def oV(j:Nat):J (Nat×Cn E)->J (Nat×Cn E)|[]=>[]|p::cs=>cond (dO p.1 j) (oV j cs) (p::oV j cs)
theorem uT{j:Nat}:∀ {cs:J (Nat×Cn E)}{i:Nat}{c:Cn E},(i,c)∈oV j cs->(i,c)∈cs/\i≠j
 | [],i,c,h=>by cases h
 | p::cs,i,c,h=>by
  simp[oV]at h;cases hb:dO p.1 j<;>rw[hb]at h<;>simp only[aQ,aI]at h
  .rcases gL.1 h with h|h
   .refine⟨by rw[h];simp,λe=>?_⟩;rw[<-h]at hb;rw[e,PV]at hb;cases hb
   .exact⟨nt _ (uT h).1,(uT h).2⟩
  .exact⟨nt _ (uT h).1,(uT h).2⟩
variable{w0:U}{G0:bC}{st:TS E}{a:Act}{d:TV E}
theorem Rel.ev(h:Rel E w0 G0 st a w G)(x:dJ):VT E w G (st.ev x) (a.eval x):=by
 cases x with
 | tmp t=>simp[TS.ev,TS.at];cases ht:st.t[t]? with|none=>simp_all[VT]|some d=>exact h.tmps t d ht
 | const v=>exact acY w G v|global g=>simp[TS.ev,VT]|func f=>exact⟨#[],rfl,by simp[bO]⟩
theorem Nt(a:Act)(dst:O Nat)(v:R0):(a.put dst v).tmps.size=a.tmps.size:=by cases dst<;>simp[Act.put]
theorem put_defers(a:Act)(dst:O Nat)(v:R0):(a.put dst v).defers=a.defers:=by cases dst<;>simp[Act.put]
theorem DX(a:Act)(dst:O Nat)(v:R0)(j:Nat):(a.put dst v).tmps.getD j H5=if dst=iN j/\j<a.tmps.size then v else a.tmps.getD j H5:=by cases dst with|none=>simp[Act.put]|some i=>simp[Act.put];grind
theorem Rel.put(h:Rel E w0 G0 st a w G)(hv:VT E w G d v)(dst:O Nat):
  Rel E w0 G0 {st with t:=cE st.t dst d} (a.put dst v) w G:=by
 refine⟨h.fH,?_,?_,?_,h.boxes,h.fix,h.pins,h.gU⟩
 .rw[Nt,h.size];cases dst<;>simp[cE]
 .intro j d' hj;rw[DX,h.size];cases dst with
  | none=>exact h.tmps j d' hj|some i=>
   simp[cE,SB]at hj;by_cases hij:i=j
   .simp_all
   .rw[if_neg (by simp[hij])];rw[if_neg hij]at hj;exact h.tmps j d' hj
 .rw[put_defers];exact h.defers
structure TI where
 kind:TypeDesc
 size:Nat
 bytes:Nat
 zero:R0
def aZ(P:bw)(t:aK):O TI:=
 match P.info? t,P.underlying t with
 | some i,iN d=>match i.zero with
  | some z=>iN ⟨d,i.size,i.bytes,z⟩|none=>iF
 | _,_=>iF
variable{P:bw}{t:aK}
theorem aS{x:TI}(h:aZ P t=iN x):
  ∃i,P.info? t=iN i/\P.underlying t=iN x.kind/\i.size=x.size/\i.bytes=x.bytes/\i.zero=iN x.zero:=by
 grind[aZ]
def TI.isAgg(i:TI):Bool:=match i.kind with | .struct _=>eQ | .array _ _=>eQ|_=>eK
def fI(w w':U):Prop:=w.heap.size<=w'.heap.size/\∀b,b<w.heap.size->w'.heap[b]? = w.heap[b]?
theorem fI.refl(w:U):fI w w:=⟨eE _,λ_ _=>rfl⟩
def fI.cell{w':U}(h:fI w w'){a:Addr}(hv:w.cell? a=iN v):w'.cell? a=iN v:=(SC (h.2 a.block (ahn w a hv))).trans hv
theorem aW{d:TypeDesc}(h:P.underlying t=iN d)(w:U):(underlying t).run P w=.ok d w:=by simp[underlying,h]
theorem OK{i:TypeInfo}(h:P.info? t=iN i)(w:U):(typeInfo t).run P w=.ok i w:=by simp[typeInfo,h]
theorem fP{i:TypeInfo}(h:P.info? t=iN i)(w:U):(sizeOf t).run P w=.ok i.size w:=by simp[sizeOf,OK h]
variable{i:TI}
theorem Wh(h:aZ P t=iN i)(w:U):(isAgg t).run P w=.ok i.isAgg w:=by obtain⟨x,hx,hu,-⟩:=aS h;unfold isAgg;simp[aW hu];unfold TI.isAgg;cases i.kind<;>rfl
theorem oC(h:aZ P t=iN i)(w:U):(zeroValue t).run P w=.ok i.zero w:=by obtain⟨x,hx,hu,-,-,hz⟩:=aS h;simp[zeroValue,OK hx,hz]
theorem add_lit(b o n:Nat):(⟨b,o,iF⟩:Addr).add n=⟨b,o+n,iF⟩:=by unfold Addr.add;split<;>simp_all
theorem nU(ht:aZ P t=iN i)(b o n:Nat)(c:Nat->R0)
  (hc:∀l,l<n->w.cell? ⟨b,o+l,iF⟩=iN (c l)) (off:Nat) (h:cond i.isAgg (off+i.size<=n) (off<n)) (w':U) (hs:fI w w') :
  (Instr.loadAt t (.pointer (iN ⟨b,o+off,iF⟩))).run P w' =
   .ok (cond i.isAgg (.agg ((aT i.size).map λl=>c (off+l)).toArray) (c off)) w':=by
 obtain⟨x,hx,hu,hsz,-⟩:=aS ht;unfold Instr.loadAt Instr.sureAddr loadVar;simp[Wh ht];cases hag:i.isAgg
 .simp[hag]at h;have hcell:=hs.cell (hc off h);simp[hcell]
 .simp[hag]at h;simp[fP hx,hsz]
  have:=run_loadCells (P:=P) w' ⟨b,o+off,iF⟩ i.size (λl=>c (off+l)) (λj hj=>by
   rw[add_lit];have:=hs.cell (hc (off+j) om)
   grind)
  rw[this];simp
def rq{R:Type}(b:Bool)(k:O R):O R:=cond b k iF
theorem dX{R:Type}{k:O R}{r:R}(h:rq b k=iN r):b=eQ/\k=iN r:=by
 cases b
 .cases h
 .exact⟨rfl,h⟩
def uo(a:Int)(f:Int->Int):Int:=match a with|.ofNat n=>f (.ofNat n)|.negSucc n=>f (.negSucc n)
theorem yZ(a:Int)(f:Int->Int):uo a f=f a:=by cases a<;>rfl
def acZ(k:eW)(a b:Int):Int:=k.wrap (a*2^(min b.toNat k.bits))
def YE(k:eW)(a b:Int):Int:=uo a λa=>a.fdiv (2^(min b.toNat k.bits))
def lP(k:eW)(a b:Int):Int:=uo a λa=>uo b λb=>k.wrap (T1 k.bits a &&& T1 k.bits b).toNat
def Uc(k:eW)(a b:Int):Int:=uo a λa=>uo b λb=>k.wrap (T1 k.bits a ||| T1 k.bits b).toNat
def UX(k:eW)(a b:Int):Int:=uo a λa=>uo b λb=>k.wrap (T1 k.bits a ^^^ T1 k.bits b).toNat
def YF(k:eW)(a b:Int):Int:=uo a λa=>uo b λb=>k.wrap (T1 k.bits a &&& ~~~ T1 k.bits b).toNat
def YG(k:eW)(n:Int):Int:=uo n λn=>k.wrap (T1 k.bits (if k.signed then -1 else k.max) ^^^ T1 k.bits n).toNat
def agG(k:eW)(a b:Int):YE k a b=a.fdiv (2^(min b.toNat k.bits)):=yZ _ _
theorem YH(k:eW)(a b:Int):lP k a b=k.wrap (T1 k.bits a &&& T1 k.bits b).toNat:=by grind[lP,yZ]
theorem akL(k:eW)(a b:Int):Uc k a b=k.wrap (T1 k.bits a ||| T1 k.bits b).toNat:=by grind[Uc,yZ]
theorem agH(k:eW)(a b:Int):UX k a b=k.wrap (T1 k.bits a ^^^ T1 k.bits b).toNat:=by grind[UX,yZ]
theorem aiq(k:eW)(a b:Int):YF k a b=k.wrap (T1 k.bits a &&& ~~~ T1 k.bits b).toNat:=by simp_all[YF,yZ]
def YI(k:eW)(n:Int):YG k n=k.wrap (T1 k.bits (if k.signed then -1 else k.max) ^^^ T1 k.bits n).toNat:=yZ _ _
def am3(op:BinOp)(x y:TV E):O (Bool×TV E):=
 match x,y with
 | .dat (.int k) a,.dat (.int k') b=>match op with|.shl=>iN (eJ (0<=b),.dat (.int k) (acZ k a b))|.shr=>iN (eJ (0<=b),.dat (.int k) (YE k a b))|.add=>iN (eJ (k=k'),.dat (.int k) (k.wrap (a+b)))|.sub=>iN (eJ (k=k'),.dat (.int k) (k.wrap (a-b)))|.mul=>iN (eJ (k=k'),.dat (.int k) (k.wrap (a*b)))|.quo=>iN (eJ (k=k') && !(b==0),.dat (.int k) (k.wrap (a.tdiv b)))|.rem=>iN (eJ (k=k') && !(b==0),.dat (.int k) (a.tmod b))|.and=>iN (eJ (k=k'),.dat (.int k) (lP k a b))|.or=>iN (eJ (k=k'),.dat (.int k) (Uc k a b))|.xor=>iN (eJ (k=k'),.dat (.int k) (UX k a b))|.andNot=>iN (eJ (k=k'),.dat (.int k) (YF k a b))|.eql=>iN (eJ (k=k'),.dat .bool (a==b))|.neq=>iN (eJ (k=k'),.dat .bool (a != b))|.lss=>iN (eJ (k=k'),.dat .bool (eJ (a<b)))|.leq=>iN (eJ (k=k'),.dat .bool (eJ (a<=b)))|.gtr=>iN (eJ (k=k'),.dat .bool (eJ (b<a)))|.geq=>iN (eJ (k=k'),.dat .bool (eJ (b<=a)))
 | .dat .str a,.dat .str b=>match op with|.add=>iN (eJ (a.length+b.length<=9223372036854775807),.dat .str (a++b))|.eql=>iN (eQ,.dat .bool (a==b))|.neq=>iN (eQ,.dat .bool (!(a==b)))|.lss=>iN (eQ,.dat .bool (pD a b))|.leq=>iN (eQ,.dat .bool (pD a b||a==b))|.gtr=>iN (eQ,.dat .bool (!(pD a b||a==b)))|.geq=>iN (eQ,.dat .bool (!(pD a b)))|_=>iF
 | _,_=>iF
theorem air{op:BinOp}{x y:dJ}{u:R0}{du dv:TV E}{c:Bool}
  (hu:VT E w G du u) (hv:VT E w G dv v) (h:am3 op du dv=iN (c,d)) (OD:c=eQ) :
  ∃r,VT E w G d r/\∀w',(do eqGuard op t x y u v;binOp op t u v).run P w'=.ok r w':=by
 subst OD;unfold am3 at h;split at h
 .rename_i k a k' b;obtain rfl:=hu.gD;obtain rfl:=hv.gD;have hg:∀w',(eqGuard op t x y (.int k a) (.int k' b)).run P w'=.ok () w':=λw'=>by cases op<;>rfl
  cases op<;>simp at h<;>obtain⟨OD,rfl⟩:=h
  case shl=>exact⟨_,.int _ _ _ _,λw'=>by simp[acZ,hg,binOp,Op.shift,show ¬ b<0 from Int.not_lt.2 OD]⟩
  case shr=>exact⟨_,.int _ _ _ _,λw'=>by simp[agG,hg,binOp,Op.shift,show ¬ b<0 from Int.not_lt.2 OD]⟩
  case quo=>obtain⟨rfl,hb⟩:=OD;have hb:b≠0:=by simpa using hb
            exact⟨_,.int _ _ _ _,λw'=>by simp[hg,binOp,Op.intDiv,hb]⟩
  case rem=>obtain⟨rfl,hb⟩:=OD;have hb:b≠0:=by simpa using hb
            exact⟨_,.int _ _ _ _,λw'=>by simp[hg,binOp,Op.intDiv,hb]⟩
  all_goals
   subst OD
   first
    | exact⟨_,.int _ _ _ _,λw'=>by simp;rfl⟩|exact⟨_,.int _ _ _ _,λw'=>by simp only[binOp,ne_eq,YH,akL,agH,aiq];rfl⟩|exact⟨_,.bool _ _ _,λw'=>by simp[hg,binOp,Op.intCmp]⟩
 .rename_i a b;obtain rfl:=hu.iQ;obtain rfl:=hv.iQ;have hb:∀w',(do eqGuard op t x y (mkStr a) (mkStr b);binOp op t (mkStr a) (mkStr b)).run P w'=(Op.stringOp op ⟨⟨a⟩⟩ ⟨⟨b⟩⟩).run P w':=λw'=>by cases op<;>rfl
  simp[hb];cases op<;>simp at h<;>obtain⟨OD,rfl⟩:=h
  case add=>
   refine⟨_,.str _ _ _,λw'=>?_⟩;have hsz:∀l:J UInt8,(ByteArray.mk ⟨l⟩).size=Sx l:=λl=>rfl;have:¬ (((⟨⟨a⟩⟩:ByteArray).size+(⟨⟨b⟩⟩:ByteArray).size:Nat):Int)>IntKind.i64.max:=by
    rw[hsz,hsz];have:IntKind.i64.max=9223372036854775807:=by decide
    rw[this];omega
   simp only[Op.stringOp,this];rfl
  all_goals exact⟨_,.bool _ _ _,λw'=>by simp[Op.stringOp]⟩
 .cases h
def Wi:Op->Bool|.load _ _=>eQ|_=>eK
def J7(o:H2)(w w':U):Prop:=Wi o.op=eQ->fI w w'
theorem J7.refl(o:H2)(w:U):J7 o w w:=λ_=>fI.refl w
def jW(P:bw)(a:Act)(w:U)(G:bC)(o:H2)(d:TV E):Prop:=∃v,VT E w G d v/\∀w',J7 o w w'->(M2 a.eval o).run P w'=.ok (.value v) w'
variable{o:H2}
theorem ac0(hr:Rel E w0 G0 st a w G)(x:dJ)(ho:o.op=.move x\/o.op=.assign x):jW P a w G o (st.ev x):=⟨a.eval x,hr.ev x,λw' _=>by rcases ho with ho|ho<;>simp[M2,ho]⟩
theorem gE{f:(dJ->R0)->Sem R0}(he:M2 a.eval o=(do let x <-f a.eval;pure (.value x)))
  (h:∃v,VT E w G d v/\∀w',J7 o w w'->(f a.eval).run P w'=.ok v w'):jW P a w G o d:=by
 obtain⟨v,hv,h⟩:=h;exact⟨v,hv,λw' hs=>by simp[he,h w' hs]⟩
def Part(E:TEnv)(w:U)(G:bC)(vs:J R0)(agg:Bool)(size off:Nat)(d:TV E):Prop:=cond agg (off+size<=Sx vs/\VT E w G d (.agg ((vs.drop off).take size).toArray)) (∃u,vs[off]? = iN u/\VT E w G d u)
def YJ(E:TEnv)(f:(i:Nat)->E.D i->Bool->Nat->Nat->O (TV E)):(t:Ty)->t.den E.D->Bool->Nat->Nat->O (TV E)
 | .pair a b,x,agg,size,off=>cond (bY off (a.size E))
   (cond (dO off 0&&dO size (a.size E)&&(agg==a.isAgg)) (iN (.dat a x.1)) (YJ E f a x.1 agg size off))
   (YJ E f b x.2 agg size (off-a.size E))
 | .ext i,x,agg,size,off=>f i x agg size off|_,_,_,_,_=>iF
def am4(E:TEnv):Nat->(t:Ty)->t.den E.D->Bool->Nat->Nat->O (TV E)|0=>YJ E λ_ _ _ _ _=>iF|n+1=>YJ E λi x=>am4 E n (E.df i) (E.Cc i x)
def TV.part(t:Ty)(x:t.den E.D)(agg:Bool)(size off:Nat):O (TV E):=cond (dO off 0&&dO size (t.size E)&&(agg==t.isAgg)) (iN (.dat t x)) (am4 E 4 t x agg size off)
variable{vs us ts:J R0}{agg:Bool}{off:Nat}
theorem Ty.akM{t:Ty}(h:t.isAgg=eK):t.size E=1:=by cases t<;>first|rfl|cases h
theorem Part.whole(hE:E.Ok){t:Ty}{x:t.den E.D}(h:LD w G.pr vs (t.cells E x)):Part E w G vs t.isAgg (t.size E) 0 (.dat t x):=by
 have hl:=h.length;rw[Ty.Cd E hE]at hl;unfold Part;cases ha:t.isAgg
 .rw[Ty.akM ha]at hl;obtain⟨u,rfl⟩:=abu.1 hl;simp_all[VT]
 grind[VT]
theorem Part.left{size:Nat}(h:Part E w G us agg size off d):Part E w G (us++ts) agg size off d:=by grind[Part]
theorem Part.right{size n:Nat}(hn:Sx us=n)(ho:n<=off)(h:Part E w G ts agg size (off-n) d):Part E w G (us++ts) agg size off d:=by grind[Part,List.drop_append,List.drop_eq_nil_of_le]
theorem Wj(hE:E.Ok){f:(i:Nat)->E.D i->Bool->Nat->Nat->O (TV E)}
  (hf:∀i x agg size off d vs,LD w G.pr vs (E.enc i x)->f i x agg size off=iN d->Part E w G vs agg size off d) :
  ∀(t:Ty)(x:t.den E.D){agg:Bool}{size off:Nat}{d:TV E}{vs:J R0},LD w G.pr vs (t.cells E x)->YJ E f t x agg size off=iN d->Part E w G vs agg size off d:=by
 intro t
 induction t with
 | int k=>intro x _ _ _ _ _ _ h;cases h
 | bool=>intro x _ _ _ _ _ _ h;cases h
 | str=>intro x _ _ _ _ _ _ h;cases h
 | bx t _=>intro x _ _ _ _ _ _ h;cases h
 | unit=>intro x _ _ _ _ _ _ h;cases h
 | ext i=>intro x agg size off d vs hv h;exact hf i x agg size off d vs hv h|pair a b Gi Gj=>
  intro x agg size off d vs hv h;obtain⟨us,ts,rfl,h1,h2⟩:=hv.split;have hl:=h1.length;rw[Ty.Cd E hE]at hl;simp[YJ]at h;cases hb:bY off (a.size E)<;>rw[hb]at h<;>simp at h
  .have ho:a.size E<=off:=by grind[Nat.blt_eq]
   exact(Gj x.2 h2 h).right hl ho
  .cases hc:(dO off 0&&dO size (a.size E)&&(agg==a.isAgg))<;>rw[hc]at h<;>simp at h
   .exact(Gi x.1 h1 h).left
   .cases h;simp only[cH,tv]at hc;obtain⟨⟨e1,e2⟩,rfl⟩:=hc;rw[fm e1,fm e2];exact(Part.whole hE h1).left
theorem Wk(hE:E.Ok):∀(n:Nat)(t:Ty)(x:t.den E.D){agg:Bool}{size off:Nat}{d:TV E}{vs:J R0},
  LD w G.pr vs (t.cells E x)->am4 E n t x agg size off=iN d->Part E w G vs agg size off d
 | 0,t,x,_,_,_,_,_,hv,h=>Wj hE (λ_ _ _ _ _ _ _ _ h=>by cases h) t x hv h
 | n+1,t,x,_,_,_,_,_,hv,h=>Wj hE (λi x agg size off d vs hv h=>by
   rw[hE.enc]at hv;exact Wk hE n (E.df i) (E.Cc i x) hv h) t x hv h
theorem Nu(hE:E.Ok){t:Ty}{x:t.den E.D}{size:Nat}
  (hv:LD w G.pr vs (t.cells E x)) (h:TV.part t x agg size off=iN d):Part E w G vs agg size off d:=by
 unfold TV.part at h;cases hc:(dO off 0&&dO size (t.size E)&&(agg==t.isAgg))<;>rw[hc]at h<;>simp at h
 .grind[Wk]
 .cases h;simp_all[tv,Part.whole]
def TV.get(t:Ty):TV E->O (t.den E.D)
 | .dat t' x=>if h:t'=t then iN (h▸x)else iF
 | .cz _ _ t' xs=>if h:Ty.bx t'=t then iN (h▸xs)else iF
 | .val (.slice iF 0 0)=>match t with
  | .bx _=>iN []|_=>iF
 | _=>iF
theorem TV.vW{t:Ty}{x:t.den E.D}(h:d.get t=iN x)(hv:VT E w G d v):VT E w G (.dat t x) v:=by
 unfold TV.get at h;split at h
 .grind
 .split at h
  .rename_i e;subst e;cases h;exact .single hv.1
  .cases h
 .split at h
  .cases h;subst hv;exact .single (.wM _ _)
  .cases h
 .cases h
def Qp(E:TEnv)(f:(i:Nat)->J (TV E)->O (E.D i×J (TV E))):(t:Ty)->J (TV E)->O (t.den E.D×J (TV E))
 | .unit,cs=>iN ((),cs)|.pair a b,cs=>(Qp E f a cs).bind λp=>(Qp E f b p.2).bind λq=>iN ((p.1,q.1),q.2)|.ext i,cs=>f i cs|.int k,cs=>match cs with|c::r=>(c.get (.int k)).bind λx=>iN (x,r) | []=>iF
 | .bool,cs=>match cs with|c::r=>(c.get .bool).bind λx=>iN (x,r) | []=>iF
 | .str,cs=>match cs with|c::r=>(c.get .str).bind λx=>iN (x,r) | []=>iF
 | .bx t,cs=>match cs with|c::r=>(c.get (.bx t)).bind λx=>iN (x,r) | []=>iF
def Qq(E:TEnv):Nat->(t:Ty)->J (TV E)->O (t.den E.D×J (TV E))|0=>Qp E λ_ _=>iF|n+1=>Qp E λi cs=>(Qq E n (E.df i) cs).bind λp=>iN (E.fold i p.1,p.2)
variable{ds:J (TV E)}
theorem bO.nil:bO E w G [] []:=by simp[bO]
theorem bO.cons(h:VT E w G d v)(h':bO E w G ds vs):bO E w G (d::ds) (v::vs):=by grind[bO]
theorem bO.cons_inv(h:bO E w G (d::ds) vs):∃u us,vs=u::us/\VT E w G d u/\bO E w G ds us:=by simpa only[bO]using h
theorem bO.length:∀ {ds:J (TV E)}{vs:J R0},bO E w G ds vs->Sx vs=Sx ds
 | [],_,h=>by simp_all[bO]|d::ds,vs,h=>by obtain⟨u,us,rfl,-,h⟩:=h.cons_inv;simp[h.length]
theorem bO.append:∀ {ds es:J (TV E)}{vs us:J R0},bO E w G ds vs->bO E w G es us->bO E w G (ds++es) (vs++us)
 | [],es,vs,us,h,h'=>by simp_all[bO]|d::ds,es,vs,us,h,h'=>by obtain⟨u,us',rfl,h1,h2⟩:=h.cons_inv;exact .cons h1 (h2.append h')
theorem bO.get:∀ {ds:J (TV E)}{vs:J R0}(j:Nat){d:TV E},bO E w G ds vs->ds[j]? = iN d->∃u,vs[j]? = iN u/\VT E w G d u
 | [],_,_,_,_,h=>by simp at h|d::ds,vs,0,d',h,hj=>by obtain⟨u,us,rfl,h1,-⟩:=h.cons_inv;simp_all
 | d::ds,vs,j+1,d',h,hj=>by obtain⟨u,us,rfl,-,h2⟩:=h.cons_inv;exact bO.get j h2 (by simpa using hj)
theorem bO.drop:∀(n:Nat){ds:J (TV E)}{vs:J R0},bO E w G ds vs->bO E w G (ds.drop n) (vs.drop n)
 | 0,_,_,h=>h|n+1,[],_,h=>by simp_all[bO]|n+1,d::ds,vs,h=>by obtain⟨u,us,rfl,-,h2⟩:=h.cons_inv;exact bO.drop n h2
theorem bO.take:∀(n:Nat){ds:J (TV E)}{vs:J R0},bO E w G ds vs->bO E w G (ds.take n) (vs.take n)
 | 0,_,_,h=>bO.nil|n+1,[],_,h=>by simp_all[bO]|n+1,d::ds,vs,h=>by obtain⟨u,us,rfl,h1,h2⟩:=h.cons_inv;exact .cons h1 (bO.take n h2)
theorem VT.atom{t:Ty}{x:t.den E.D}(ha:t.isAgg=eK)(h:VT E w G (.dat t x) v):LD w G.pr [v] (t.cells E x):=by simp_all[VT]
theorem VT.S1{t:Ty}{x:t.den E.D}(ha:t.isAgg=eK)(h:LD w G.pr [v] (t.cells E x)):VT E w G (.dat t x) v:=by simp_all[VT]
theorem VT.ais{t:Ty}{x:t.den E.D}(ha:t.isAgg=eQ)(h:VT E w G (.dat t x) v):∃vs:aJ R0,v=.agg vs/\LD w G.pr vs.toList (t.cells E x):=by simp_all[VT]
theorem Wl{f:(i:Nat)->J (TV E)->Option (E.D i×J (TV E))}
  (hf:∀i cs x r vs,bO E w G cs vs->f i cs=iN (x,r)->∃us ts,vs=us++ts/\LD w G.pr us (E.enc i x)/\bO E w G r ts) :
  ∀(t:Ty){cs:J (TV E)}{x:t.den E.D}{r:J (TV E)}{vs:J R0},bO E w G cs vs->Qp E f t cs=iN (x,r) ->
   ∃us ts,vs=us++ts/\LD w G.pr us (t.cells E x)/\bO E w G r ts:=by
 have atom:∀(t:Ty)(ha:t.isAgg=eK){cs:J (TV E)}{x:t.den E.D}{r:J (TV E)}{vs:J R0},bO E w G cs vs ->
   (match cs with|c::r=>(c.get t).bind λx=>iN (x,r) | []=>iF)=iN (x,r)->∃us ts,vs=us++ts/\LD w G.pr us (t.cells E x)/\bO E w G r ts:=by
  intro t ha cs x r vs hv h;cases cs with
  | nil=>cases h
  | cons c cs=>
   obtain⟨u,us,rfl,h1,h2⟩:=hv.cons_inv;dsimp only at h;cases hc:c.get t with
   | none=>rw[hc]at h;cases h
   | some y=>rw[hc]at h;cases h;exact⟨[u],us,rfl,(TV.vW hc h1).atom ha,h2⟩
 intro t
 induction t with
 | int k=>intro cs x r vs hv h;exact atom (.int k) rfl hv h|bool=>intro cs x r vs hv h;exact atom .bool rfl hv h|str=>intro cs x r vs hv h;exact atom .str rfl hv h|bx t _=>intro cs x r vs hv h;exact atom (.bx t) rfl hv h|unit=>intro cs x r vs hv h;cases h;exact⟨[],vs,rfl,trivial,hv⟩
 | ext i=>intro cs x r vs hv h;exact hf i cs x r vs hv h|pair a b Gi Gj=>
  intro cs x r vs hv h;simp[Qp]at h;cases h1:Qp E f a cs with
  | none=>rw[h1]at h;cases h
  | some p=>
   obtain⟨y,r1⟩:=p;rw[h1]at h;dsimp at h;cases h2:Qp E f b r1 with
   | none=>rw[h2]at h;cases h
   | some q=>rw[h2]at h;cases h;obtain⟨us,ts,rfl,hu,ht⟩:=Gi hv h1;obtain⟨us',ts',rfl,hu',ht'⟩:=Gj ht h2;exact⟨us++us',ts',si,hu.append hu',ht'⟩
theorem Cg(hE:E.Ok):∀(n:Nat)(t:Ty){cs:J (TV E)}{x:t.den E.D}{r:J (TV E)}{vs:J R0},bO E w G cs vs->Qq E n t cs=iN (x,r) ->
   ∃us ts,vs=us++ts/\LD w G.pr us (t.cells E x)/\bO E w G r ts
 | 0,t,_,_,_,_,hv,h=>Wl (λ_ _ _ _ _ _ h=>by cases h) t hv h
 | n+1,t,_,_,_,_,hv,h=>Wl (λi cs x r vs hv h=>by
   cases h1:Qq E n (E.df i) cs with
   | none=>rw[h1]at h;cases h
   | some p=>
    rw[h1]at h;cases h;obtain⟨us,ts,e,h2,h3⟩:=Cg hE n (E.df i) hv h1;refine⟨us,ts,e,?_,h3⟩;rw[hE.enc,hE.fold];exact h2) t hv h
def Ch(E:TEnv)(f:(i:Nat)->E.D i->O (J (TV E))):(t:Ty)->t.den E.D->O (J (TV E))|.unit,_=>iN []|.pair a b,x=>(Ch E f a x.1).bind λl=>(Ch E f b x.2).bind λm=>iN (l++m)|.ext i,x=>f i x|.int k,x=>iN [.dat (.int k) x]|.bool,x=>iN [.dat .bool x]|.str,x=>iN [.dat .str x]|.bx t,x=>iN [.dat (.bx t) x]
def J8(E:TEnv):Nat->(t:Ty)->t.den E.D->O (J (TV E))|0=>Ch E λ_ _=>iF|n+1=>Ch E λi x=>J8 E n (E.df i) (E.Cc i x)
def TV.qt:TV E->O (J (TV E))|.dat t x=>cond t.isAgg (J8 E 4 t x) (iN [.dat t x])|.agg cs=>iN cs|.uk t x off=>iN [.uk t x off]|.ptr r off=>iN [.ptr r off]|.rF c r off=>iN [.rF c r off]|.jT r=>iN [.jT r]|.vV r=>iN [.vV r]|.iU _ _ _=>iF|.cz j aF t xs=>iN [.cz j aF t xs]|.Ua _ _ _=>iF|.eF j aF=>iN [.eF j aF]|.iX j aF k i off=>iN [.iX j aF k i off]|.vp _ _=>iF|.func fn caps=>iN [.func fn caps]|.Iw fn fs=>iN [.Iw fn fs]|.iface ty d=>iN [.iface ty d]|.val v=>cond v.oneCell' (iN [.val v]) iF|.any=>iF|.tuple _=>iF
variable{cs:J (TV E)}
theorem Ud{f:(i:Nat)->E.D i->O (J (TV E))}(hf:∀i x cs vs,LD w G.pr vs (E.enc i x)->f i x=iN cs->bO E w G cs vs):
  ∀(t:Ty)(x:t.den E.D){cs:J (TV E)}{vs:J R0},LD w G.pr vs (t.cells E x)->Ch E f t x=iN cs->bO E w G cs vs:=by
 have atom:∀(t:Ty)(ha:t.isAgg=eK)(hl:∀x,(t.cells E x).length=1)(x:t.den E.D){cs:J (TV E)}{vs:J R0},LD w G.pr vs (t.cells E x)->iN [TV.dat t x]=iN cs->bO E w G cs vs:=by intro t ha hl x cs vs hv h;cases h;have:=hv.length;rw[hl]at this;obtain⟨u,rfl⟩:=abu.1 this;exact .cons (.S1 ha hv) .nil
 intro t
 induction t with
 | int k=>intro x cs vs hv h;exact atom (.int k) rfl (λ_=>rfl) x hv h|bool=>intro x cs vs hv h;exact atom .bool rfl (λ_=>rfl) x hv h|str=>intro x cs vs hv h;exact atom .str rfl (λ_=>rfl) x hv h|bx t _=>intro x cs vs hv h;exact atom (.bx t) rfl (λ_=>rfl) x hv h|unit=>intro x cs vs hv h;cases h;cases vs with|nil=>exact .nil|cons _ _=>exact hv.elim
 | ext i=>intro x cs vs hv h;exact hf i x cs vs hv h|pair a b Gi Gj=>
  intro x cs vs hv h;simp[Ch]at h;obtain⟨us,ts,rfl,h1,h2⟩:=LD.split hv;cases e1:Ch E f a x.1 with
  | none=>rw[e1]at h;cases h
  | some l=>
   rw[e1]at h;cases e2:Ch E f b x.2 with
   | none=>rw[e2]at h;cases h
   | some m=>rw[e2]at h;cases h;exact(Gi x.1 h1 e1).append (Gj x.2 h2 e2)
theorem zT(hE:E.Ok):∀(n:Nat)(t:Ty)(x:t.den E.D){cs:J (TV E)}{vs:J R0},LD w G.pr vs (t.cells E x)->J8 E n t x=iN cs->bO E w G cs vs
 | 0,t,x,_,_,hv,h=>Ud (λ_ _ _ _ _ h=>by cases h) t x hv h
 | n+1,t,x,_,_,hv,h=>Ud (λi x cs vs hv h=>by
   rw[hE.enc]at hv;exact zT hE n (E.df i) (E.Cc i x) hv h) t x hv h
theorem uq(hE:E.Ok)(hv:VT E w G d v)(h:d.qt=iN cs):
  bO E w G cs v.cells.toList/\∀u,u∈v.cells->u.oneCell'=eQ:=by
 have one:∀ {d:TV E},VT E w G d v->v.oneCell'=eQ->v.cells=#[v]->bO E w G [d] v.cells.toList/\∀u,u∈v.cells->u.oneCell'=eQ:=by intro d hv h1 hc;rw[hc];exact⟨.cons hv .nil,λu hu=>by simp_all⟩
 cases d with
 | any=>cases h
 | tuple ds=>cases h
 | dat t x=>
  simp[TV.qt]at h;cases ha:t.isAgg<;>rw[ha]at h<;>simp at h
  .cases h;have h0:=hv.atom ha;have h1:=h0.one v si;refine one hv h1 ?_;cases v<;>first|rfl|cases h1
  .obtain⟨vs,rfl,h0⟩:=hv.ais ha;exact⟨zT hE 4 t x h0 h,λu hu=>h0.one u (by simpa[Value.cells]using hu)⟩
 | agg ds=>cases h;obtain⟨vs,rfl,h1,h2⟩:=hv;exact⟨h2,h1⟩
 | uk t x off=>cases h;have jU:=hv;obtain⟨b,o,c,rfl,-⟩:=jU;exact one hv rfl rfl
 | ptr r off=>cases h;have jU:=hv;obtain⟨b,rfl,-⟩:=jU;exact one hv rfl rfl
 | rF c r off=>
  cases h;have jU:=hv;cases c<;>simp[VT]at jU
  .subst jU;exact one hv rfl rfl
  .obtain⟨b,rfl,-⟩:=jU;exact one hv rfl rfl
 | jT r=>cases h;have jU:=hv;obtain⟨b,rfl,-⟩:=jU;exact one hv rfl rfl
 | iU r n cap=>cases h
 | vV r=>cases h;have jU:=hv;obtain⟨b,rfl,-⟩:=jU;exact one hv rfl rfl
 | cz j aF t xs=>cases h;have jU:=hv;have h1:=jU.1.one;refine one hv h1 ?_;cases v<;>first|rfl|cases h1
 | Ua j aF l=>cases h
 | vp t xs=>cases h
 | eF j aF=>cases h;have jU:=hv;obtain⟨x,g,-,-,h1,-⟩:=jU;refine one hv h1 ?_;cases v<;>first|rfl|cases h1
 | iX j aF k i off=>cases h;have jU:=hv;obtain⟨x,g,-,-,h1,-⟩:=jU;refine one hv h1 ?_;cases v<;>first|rfl|cases h1
 | func fn caps=>cases h;have jU:=hv;obtain⟨vs,rfl,-⟩:=jU;exact one hv rfl rfl
 | Iw fn fs=>cases h;have jU:=hv;obtain⟨vs,rfl,-⟩:=jU;exact one hv rfl rfl
 | iface ty d=>cases h;have jU:=hv;obtain⟨u,rfl,-⟩:=jU;exact one hv rfl rfl
 | val u=>
  simp[TV.qt]at h;have jU:=hv;subst jU;cases ho:v.oneCell'<;>rw[ho]at h<;>simp only[aQ,aI]at h
  .cases h
  .cases h;refine one hv ho ?_;cases v<;>first|rfl|cases ho
def Wm(E:TEnv)(ty:Option Ty)(cs:J (TV E))(agg:Bool)(size off:Nat):Option (TV E):=
 cond agg
  (cond (iO (off+size) cs.length)
   (match ty with
    | none=>iN (.agg ((cs.drop off).take size))|some t=>match Qq E 4 t ((cs.drop off).take size)with
     | some (x,[])=>cond t.isAgg (iN (.dat t x)) iF|_=>iN (.agg ((cs.drop off).take size)))
   iF)
  cs[off]?
theorem Lb(hE:E.Ok){ty:O Ty}{size:Nat}(hv:bO E w G cs vs)(h1:∀u,u∈vs->u.oneCell'=eQ)
  (h:Wm E ty cs agg size off=iN d):Part E w G vs agg size off d:=by
 unfold Wm at h;cases agg<;>simp at h⊢
 .exact hv.get off h
 .cases hb:iO (off+size) cs.length<;>rw[hb]at h<;>simp only[aQ,aI]at h
  .cases h
  have hle:=lY hb;refine⟨by rw[hv.length];exact hle,?_⟩;have hp:=(hv.drop off).take size;have arY:VT E w G (.agg ((cs.drop off).take size)) (.agg ((vs.drop off).take size).toArray):=by grind[VT]
  split at h
  .cases h;exact arY
  .rename_i t;split at h
   .cases ha:t.isAgg<;>rw[ha]at h<;>simp only[aQ,aI]at h
    .cases h
    grind[Cg,bO,VT]
   .cases h;exact arY
end Go.RT
namespace Go.RT
variable {E : TEnv}
variable{P:bw}{w0:U}{G0:bC}{st:TS E}{a:Act}{w:U}{G:bC}{o:H2}{t:aK}{i:TI}{b off:Nat}{d:TV E}{x:dJ}{T:Ty}{y:T.den E.D}{r:Nat}{cs:J (TV E)}{ty:O Ty}
theorem ur(ht:aZ P t=iN i){o':Nat}{vs:J R0}(hc:∀(l:Nat) u,vs[l]? = iN u->w.cell? ⟨b,o'+l,iF⟩=iN u)
   (hp:Part E w G vs i.isAgg i.size off d):∃v,VT E w G d v/\∀w',fI w w'->(Instr.loadAt t (.pointer (iN ⟨b,o'+off,iF⟩))).run P w'=.ok v w':=by
 have tM:∀l,l<Sx vs->w.cell? ⟨b,o'+l,iF⟩=iN (vs.getD l H5):=λl hl=>by simp_all
 unfold Part at hp;cases ha:i.isAgg<;>rw[ha]at hp<;>simp at hp
 .obtain⟨u,hu,hv⟩:=hp;refine⟨u,hv,λw' hs=>?_⟩;have hl:=(fD.1 hu).1;rw[nU ht b o' vs.length (λl=>vs.getD l H5) tM off (by rw[ha];exact hl) w' hs];simp_all
 .obtain⟨hl,hv⟩:=hp;refine⟨_,hv,λw' hs=>?_⟩;rw[nU ht b o' vs.length (λl=>vs.getD l H5) tM off (by rw[ha];exact hl) w' hs,ha];simp;apply BG
  .simp;omega
  grind
theorem YK(hE:E.Ok)(hr:Rel E w0 G0 st a w G)(ho:o.op=.load t x)(ht:aZ P t=iN i)
     (hd:st.ev x=.uk T y off)  (hp:TV.part T y i.isAgg i.size off=iN d):jW P a w G o d:=by
 have hv:=hr.ev x;rw[hd]at hv;obtain⟨b,o',c,he,h1,h2⟩:=hv;obtain⟨v,hv,hrun⟩:=ur ht (λl u hl=>(h2 l u hl).2) (Nu hE h1 hp);refine gE (f:=λρ=>Instr.loadAt t (ρ x)) (by simp[M2,ho]) ⟨v,hv,λw' hs=>?_⟩;rw[he];exact hrun w' (hs (by rw[ho];rfl))
theorem Rel.box(hr:Rel E w0 G0 st a w G)(hb:G.i[r]? = iN b){x:gu E}(hx:st.H[r]? = iN x):kN E w G b x:=hr.boxes.box r b x hb hx
theorem YL(hE:E.Ok)(hr:Rel E w0 G0 st a w G)(ho:o.op=.load t x)(ht:aZ P t=iN i)
   (hd:st.ev x=.ptr r off) {t':aK}  (hb:st.H[r]? = iN (.cells t' cs))  
  (hp:Wm E ty cs i.isAgg i.size off=iN d):jW P a w G o d:=by
 have hv:=hr.ev x;rw[hd]at hv;obtain⟨b,he,hat⟩:=hv;obtain⟨vs,hh,h1,h2⟩:=hr.box hat hb
 obtain⟨v,hv,hrun⟩:=ur (b:=b) (o':=0) ht (λl u hl=>by
  grind[cell_of_row]) (Lb hE h2 (λu hu=>h1 u (by simpa using hu)) hp)
 refine gE (f:=λρ=>Instr.loadAt t (ρ x)) (by simp[M2,ho]) ⟨v,hv,λw' hs=>?_⟩;rw[he];have:=hrun w' (hs (by rw[ho];rfl));simpa using this
variable{pr:Nat->Nat->Prop}{v:R0}
theorem VD.xW{k:Nat}{es:J (J DV)}(h:VD w pr v (.slice k es)):
  (∃a,v=.slice a 0 0/\es=[])\/∃(b off cap:Nat)(c:Nat->Nat->R0),v=.slice (iN ⟨b,off,iF⟩) es.length cap/\es.length<=cap /\
   (∀j,j<Sx es->(es.getD j []).length=k) /\
   (∀j l,j<Sx es->l<k->pr b (off+j*k+l)/\w.cell? ⟨b,off+j*k+l,iF⟩=iN (c j l)) /\
   (∀j l,j<Sx es->l<k->VD w pr (c j l) ((es.getD j []).getD l default)):=by
 cases h with|wM a k=>simp_all|slice b off cap k es c hc hk h0 h=>exact .inr ⟨b,off,cap,c,rfl,hc,hk,h0,h⟩
inductive uu:TV E->(T:Ty)->List (T.den E.D)->Prop
 | dat (T:Ty) (xs:List (T.den E.D)):uu (.dat (.bx T) xs) T xs
 | cz (j aF:Nat) (T:Ty) (xs:List (T.den E.D)):uu (.cz j aF T xs) T xs
variable{xs:J (T.den E.D)}
theorem uu.vd(h:uu d T xs)(hv:VT E w G d v):
  VD w G.pr v (.slice (T.size E) (xs.map (T.cells E))):=by
 cases h with|dat=>exact(hv.atom rfl).uS|cz=>simp_all[VT]
def VT.list(h:VD w G.pr v (.slice (T.size E) (xs.map (T.cells E)))):VT E w G (.dat (.bx T) xs) v:=.S1 rfl (.single h)
theorem LD.YM{w:U}{pr:Nat->Nat->Prop}:∀ {vs:J R0}{ds:J DV},Sx vs=Sx ds->(∀l,l<Sx ds->VD w pr (vs.getD l H5) (ds.getD l default))->LD w pr vs ds|[],[],_,_=>trivial|v::vs,d::ds,hl,h=>⟨by simpa using h 0 si,LD.YM (by simpa using hl) λl hl'=>by simpa using h (l+1) (by simpa using hl')⟩|[],_::_,hl,_=>by simp at hl|_::_,[],hl,_=>by simp at hl
variable{ix:dJ}{e:aK}{j1 j2:Nat}{z:R0}{kd:eW}{n:Int}{l:J UInt8}{fs:aJ Field}
theorem afv(hr:Rel E w0 G0 st a w G)(ho:o.op=.indexAddr t x ix)
  (ht:aZ P t=iN ⟨.slice e,j1,j2,z⟩) (hi:aZ P e=iN i)     (hd:uu (st.ev x) T xs)
  (hdi:st.ev ix=.dat (.int kd) n) (h0:0<=n) (hn:n<Sx xs) (hk:i.size=T.size E):jW P a w G o (.uk T (xs.getD n.toNat (T.dflt E)) 0):=by
 have hv:=hd.vd (hr.ev x);have Fa:=hr.ev ix;rw[hdi]at Fa;have Wn:=Fa.gD;have hnl:n.toNat<Sx xs:=om;rcases hv.xW with⟨-,-,hnil⟩|⟨b,off,cap,c,he,hcap,hkk,hc,h⟩
 .simp at hnil;subst hnil;simp at hnl
 have hes:(xs.map (T.cells E)).getD n.toNat []=T.cells E (xs.getD n.toNat (T.dflt E)):=by simp[hnl]
 have hlen:(xs.map (T.cells E)).length=Sx xs:=by simp
 rw[hlen]at hcap hkk hc h he;obtain⟨xe,sw,Ci,hsz,-⟩:=aS hi;obtain⟨xt,kI,eL,-⟩:=aS ht;have hkn:=hkk _ hnl;rw[hes]at hkn;refine gE (f:=λρ=>Instr.indexAt t (ρ x) (ρ ix)) (by simp[M2,ho]) ⟨.pointer (iN ⟨b,off+n.toNat*T.size E+0,iF⟩),?_,λw' hs=>?_⟩
 .refine⟨b,off+n.toNat*T.size E,(aT (T.size E)).map (c n.toNat),rfl,LD.YM (by rw[hkn];simp) (λl hl=>?_),λl u hl=>?_⟩
  .grind
  grind
 .rw[he];unfold Instr.indexAt asIntOf;simp[aW eL];simp_all[if_true,fP,add_lit]
theorem Wo(hr:Rel E w0 G0 st a w G)(ho:o.op=.index t x ix)
  (ht:aZ P t=iN ⟨.string,j1,j2,z⟩)    (hd:st.ev x=.dat .str l) (hdi:st.ev ix=.dat (.int kd) n) (h0:0<=n) (hn:n<Sx l) :
  jW (E:=E) P a w G o (.dat (.int .u8) ((l.getD n.toNat 0).toNat:Int)):=by
 have hv:=hr.ev x;rw[hd]at hv;have Fa:=hr.ev ix;rw[hdi]at Fa;obtain⟨xt,kI,eL,-⟩:=aS ht;have hnl:n.toNat<Sx l:=om;refine gE (f:=λρ=>Instr.index t (ρ x) (ρ ix)) (by simp[M2,ho]) ⟨_,.int _ _ _ _,λw' hs=>?_⟩;rw[hv.iQ,Fa.gD];unfold Instr.index asIntOf mkStr;simp[aW eL,h0];have:(ByteArray.mk ⟨l⟩)[n.toNat]? = iN (l.getD n.toNat 0):=by have hsz:=hnl;rw[getElem?_pos (ByteArray.mk ⟨l⟩) n.toNat hsz];simp[fT hnl];rfl
 rw[this];rfl
theorem Wp(hr:Rel E w0 G0 st a w G){s:aK}{f:Nat}{fd:Field}(ho:o.op=.fieldAddr s x f)
  (ht:aZ P s=iN ⟨.struct fs,j1,j2,z⟩) (hf:fs[f]? = iN fd)  (hi:aZ P fd.type=iN i) (hz:i.size≠0)    (hd:st.ev x=.uk T y off) :
  jW P a w G o (.uk T y (off+fd.offset)):=by
 have hv:=hr.ev x;rw[hd]at hv;obtain⟨b,o',c,he,h0,h1⟩:=hv;obtain⟨xt,kI,eL,-⟩:=aS ht;obtain⟨xf,hxf,-,hsf,-⟩:=aS hi;refine gE (f:=λρ=>Instr.fieldAt s (ρ x) f) (by simp[M2,ho]) ⟨.pointer (iN ⟨b,o'+(off+fd.offset),iF⟩),by grind[VT],λw' hs=>?_⟩;rw[he];unfold Instr.fieldAt Instr.sureAddr;simp[aW eL,hf];simp[fieldPlace,fP hxf,hsf,hz,add_lit,St]
theorem Wq(hr:Rel E w0 G0 st a w G){s:aK}{f:Nat}{fd:Field}(ho:o.op=.fieldAddr s x f)
  (ht:aZ P s=iN ⟨.struct fs,j1,j2,z⟩) (hf:fs[f]? = iN fd)  (hi:aZ P fd.type=iN i) (hz:i.size≠0)  (hd:st.ev x=.ptr r off) :
  jW P a w G o (.ptr r (off+fd.offset):TV E):=by
 have hv:=hr.ev x;rw[hd]at hv;obtain⟨b,he,hat⟩:=hv;obtain⟨xt,kI,eL,-⟩:=aS ht;obtain⟨xf,hxf,-,hsf,-⟩:=aS hi;refine gE (f:=λρ=>Instr.fieldAt s (ρ x) f) (by simp[M2,ho]) ⟨.pointer (iN ⟨b,off+fd.offset,iF⟩),by simp_all[VT],λw' hs=>?_⟩;rw[he];unfold Instr.fieldAt Instr.sureAddr;simp[aW eL,hf];simp[fieldPlace,fP hxf,hsf,hz,add_lit]
def mQ(d:Int):O (TV E)->O Int|none=>iN d|some (.dat (.int _) n)=>iN n|some _=>iF
variable{lo hi:O dJ}{ds:J (TV E)}{p q:Int}
theorem aaT(l:J UInt8)(x y:Nat):(ByteArray.mk ⟨l⟩).extract x y=ByteArray.mk ⟨(l.take y).drop x⟩:=by apply ByteArray.ext;simp_all[VG,List.drop_take]
theorem Fb{k:eW}{y:Nat}{code:BoundsCode}(h0:0<=n)(h1:n<=y)(w':U):(Instr.sliceBound (.int k n) y code).run P w'=.ok n.toNat w':=by unfold Instr.sliceBound asIntOf;simp[h0,h1]
theorem GP{isS:Bool}{len cap:Nat}(hlc:len<=cap){lo hi:O R0}{x y:Int}
  (hlo:(lo=iF/\x=0)\/∃k,lo=iN (.int k x)) (hhi:(hi=iF/\y=len)\/∃k,hi=iN (.int k y)) (h0:0<=x) (h1:x<=y) (h2:y<=len) (w':U) :
  (Instr.sliceBounds isS len cap lo hi iF).run P w'=.ok (x.toNat,y.toNat,cap) w':=by
 unfold Instr.sliceBounds;have hy:∀(k:eW)(code:BoundsCode),(Instr.sliceBound (.int k y) cap code).run P w'=.ok y.toNat w':=λk code=>Fb om om w';have hx:∀(k:eW)(code:BoundsCode),(Instr.sliceBound (.int k x) y.toNat code).run P w'=.ok x.toNat w':=λk code=>Fb h0 om w';rcases hlo with⟨rfl,rfl⟩|⟨k,rfl⟩<;>rcases hhi with⟨rfl,rfl⟩|⟨k',rfl⟩
 .simp
 .simp[hy]
 .simp_all
 .simp[hy,hx]
theorem uU(hr:Rel E w0 G0 st a w G){d x:Int}(hb:mQ d (lo.map st.ev)=iN x):
  (lo.map a.eval=iF/\x=d)\/∃k,lo.map a.eval=iN (.int k x):=by
 cases lo with
 | none=>simp_all[mQ]|some y=>
  have hv:=hr.ev y;simp only[VF]at hb⊢;unfold mQ at hb;split at hb
  .rename_i he;cases he
  .rename_i k n he;cases hb;rw[o4 he]at hv;exact .inr ⟨k,by rw[hv.gD]⟩
  .cases hb
theorem aaU(hr:Rel E w0 G0 st a w G){j:Nat}(ho:o.op=.extract x j)(hd:st.ev x=.tuple ds)(hj:ds[j]? = iN d):
  jW P a w G o d:=by
 have hv:=hr.ev x;rw[hd]at hv;obtain⟨vs,he,h⟩:=hv;obtain⟨u,hu,h⟩:=h.get j hj;refine gE (f:=λρ=>Instr.extract (ρ x) j) (by simp[M2,ho]) ⟨u,h,λw' hs'=>?_⟩;rw[he];simp at hu;simp[Instr.extract,hu]
theorem aaV(hr:Rel E w0 G0 st a w G){c:Call}(ho:o.op=.call c)(hc:c.callee=.builtin .len)(ha:c.args.toList=[x])(hat:c.argTypes.toList=[t])
  (ht:aZ P t=iN ⟨.string,j1,j2,z⟩)  (hd:st.ev x=.dat .str l):jW (E:=E) P a w G o (.dat (.int .i64) (Sx l:Int)):=by
 have hv:=hr.ev x;rw[hd]at hv;obtain⟨xt,kI,eL,-⟩:=aS ht;have hU:c.args=#[x]:=by grind
 have zJ:c.argTypes=#[t]:=by grind
 refine⟨_,.int _ _ _ _,λw' hs=>?_⟩;unfold M2;simp[ho,resolve,hc,invoke,builtin,hU,zJ];rw[hv.iQ];simp[Builtin.len_,aW eL];rfl
theorem Cj(hr:Rel E w0 G0 st a w G){c:Call}(ho:o.op=.call c)(hc:c.callee=.builtin .len)(ha:c.args.toList=[x])(hat:c.argTypes.toList=[t])
  (ht:aZ P t=iN ⟨.slice e,j1,j2,z⟩) {n:Nat} (hval:∃ad cap,a.eval x=.slice ad n cap):jW (E:=E) P a w G o (.dat (.int .i64) (n:Int)):=by
 obtain⟨xt,kI,eL,-⟩:=aS ht;have hU:c.args=#[x]:=by grind
 have zJ:c.argTypes=#[t]:=by grind
 obtain⟨ad,cap,he⟩:=hval;refine⟨_,.int _ _ _ _,λw' hs=>?_⟩;unfold M2;simp[ho,resolve,hc,invoke,builtin,hU,zJ];rw[he];simp[Builtin.len_,aW eL,goInt]
theorem uu.header(h:uu d T xs)(hv:VT E w G d v):∃ad cap,v=.slice ad xs.length cap:=by
 rcases(h.vd hv).xW with⟨ad,he,hn⟩|⟨b,off,cap,c,he,-⟩
 .simp_all
 simp_all
theorem Wr(hr:Rel E w0 G0 st a w G)(ho:o.op=.slice t x lo hi iF)
  (ht:aZ P t=iN ⟨.string,j1,j2,z⟩)  (hd:st.ev x=.dat .str l)  (hp:mQ 0 (lo.map st.ev)=iN p) (hq:mQ l.length (hi.map st.ev)=iN q)
  (h0:0<=p) (h1:p<=q) (h2:q<=Sx l):jW (E:=E) P a w G o (.dat .str ((l.take q.toNat).drop p.toNat)):=by
 have hv:=hr.ev x;rw[hd]at hv;obtain⟨xt,kI,eL,-⟩:=aS ht;refine gE (f:=λρ=>Instr.sliceAt t (ρ x) (lo.map ρ) (hi.map ρ) iF) (by simp[M2,ho]) ⟨_,.str _ _ _,λw' hs=>?_⟩;have Dl:=GP (P:=P) (isS:=eK) (eE l.length) (uU hr hp) (uU hr hq) h0 h1 h2 w';rw[hv.iQ];unfold Instr.sliceAt;unfold Instr.slice mkStr;have hsz:(ByteArray.mk ⟨l⟩).size=Sx l:=rfl;simp_all[aW,aaT]
theorem UY(hr:Rel E w0 G0 st a w G)(ho:o.op=.slice t x lo hi iF)
  (ht:aZ P t=iN ⟨.slice e,j1,j2,z⟩) (hi':aZ P e=iN i)   (hd:uu (st.ev x) T xs) 
  (hp:mQ 0 (lo.map st.ev)=iN p) (hq:mQ xs.length (hi.map st.ev)=iN q)
  (h0:0<=p) (h1:p<=q) (h2:q<=Sx xs) (hk:i.size=T.size E):jW P a w G o (.dat (.bx T) ((xs.take q.toNat).drop p.toNat)):=by
 have hv:=hd.vd (hr.ev x);obtain⟨xt,kI,eL,-⟩:=aS ht;obtain⟨xe,sw,Ci,hsz,-⟩:=aS hi';have hmap:((xs.take q.toNat).drop p.toNat).map (T.cells E)=((xs.map (T.cells E)).take q.toNat).drop p.toNat:=by simp
 have hex:∃(ad:O Addr)(cap:Nat),a.eval x=.slice ad xs.length cap/\xs.length<=cap /\
   VT E w G (.dat (.bx T) ((xs.take q.toNat).drop p.toNat)) (.slice (if cap=p.toNat then ad else ad.map (·.add (p.toNat*T.size E))) (q.toNat-p.toNat) (cap-p.toNat)):=by
  have Nv:(xs.map (T.cells E)).length=Sx xs:=by simp
  generalize hes:xs.map (T.cells E)=es at hv hmap Nv;have hlen:((es.take q.toNat).drop p.toNat).length=q.toNat-p.toNat:=by simp;omega
  rcases hv.xW with⟨ad0,he,rfl⟩|⟨b,off,cap,c,he,hcap,hkk,hc,h⟩
  .have hx0:=H8 Nv.symm;subst hx0;simp at h2;have hp0:p=0:=om;have hq0:q=0:=om;subst hp0;subst hq0;exact⟨ad0,0,he,eE _,.list (.wM _ _)⟩
  .rw[Nv]at he hcap;refine⟨_,_,he,hcap,.list ?_⟩;rw[hmap];rw[<-hlen];by_cases qP:cap=p.toNat
   .have hz:((es.take q.toNat).drop p.toNat)=[]:=by grind
    rw[hz,if_pos qP];exact .slice b off (cap-p.toNat) _ [] c (fF _) (λj hj=>by simp at hj) (λj l hj=>by simp at hj) (λj l hj=>by simp at hj)
   .rw[if_neg qP];simp only[VF,add_lit];refine .slice b (off+p.toNat*T.size E) (cap-p.toNat) _ _ (λj l=>c (p.toNat+j) l) (by rw[hlen];omega) (λj hj=>?_) (λj l hj hl=>?_) (λj l hj hl=>?_)
    .grind
    .grind
    grind
 obtain⟨ad,cap,he,hcap,hV⟩:=hex;refine gE (f:=λρ=>Instr.sliceAt t (ρ x) (lo.map ρ) (hi.map ρ) iF) (by simp[M2,ho]) ⟨_,hV,λw' hs=>?_⟩;have Dl:=GP (P:=P) (isS:=eQ) hcap (uU hr hp) (uU hr hq) h0 h1 h2 w';unfold Instr.sliceAt;unfold Instr.slice;simp_all[aW,fP]
theorem afw{len cap:Nat}{lo:O R0}{x y m:Int}{k1 k2:eW}
  (hlo:(lo=iF/\x=0)\/∃k,lo=iN (.int k x)) (h0:0<=x) (h1:x<=y) (h2:y<=m) (h3:m<=cap) (w':U) :
  (Instr.sliceBounds eQ len cap lo (iN (.int k1 y)) (iN (.int k2 m))).run P w'=.ok (x.toNat,y.toNat,m.toNat) w':=by
 unfold Instr.sliceBounds;have hm:∀(k:eW)(code:BoundsCode),(Instr.sliceBound (.int k m) cap code).run P w'=.ok m.toNat w':=λk code=>Fb om om w';have hy:∀(k:eW)(code:BoundsCode),(Instr.sliceBound (.int k y) m.toNat code).run P w'=.ok y.toNat w':=λk code=>Fb om om w';have hx:∀(k:eW)(code:BoundsCode),(Instr.sliceBound (.int k x) y.toNat code).run P w'=.ok x.toNat w':=λk code=>Fb h0 om w';rcases hlo with⟨rfl,rfl⟩|⟨k,rfl⟩
 .simp[hm,hy]
 .simp[hm,hy,hx]
theorem ac1(hr:Rel E w0 G0 st a w G){hi mx:dJ}(ho:o.op=.slice t x lo (iN hi) (iN mx))
  (ht:aZ P t=iN ⟨.slice e,j1,j2,z⟩) (hi':aZ P e=iN i)   (hd:uu (st.ev x) T xs) {m:Int}
  (hp:mQ 0 (lo.map st.ev)=iN p) (hq:mQ 0 (iN (st.ev hi))=iN q) (hm:mQ 0 (iN (st.ev mx))=iN m)
  (h0:0<=p) (h1:p<=q) (h2:q<=m) (h3:m<=Sx xs) (hk:i.size=T.size E):jW P a w G o (.dat (.bx T) ((xs.take q.toNat).drop p.toNat)):=by
 have hv:=hd.vd (hr.ev x);obtain⟨xt,kI,eL,-⟩:=aS ht;obtain⟨xe,sw,Ci,hsz,-⟩:=aS hi';have hmap:((xs.take q.toNat).drop p.toNat).map (T.cells E)=((xs.map (T.cells E)).take q.toNat).drop p.toNat:=by simp
 have hex:∃(ad:O Addr)(cap:Nat),a.eval x=.slice ad xs.length cap/\xs.length<=cap /\
   VT E w G (.dat (.bx T) ((xs.take q.toNat).drop p.toNat)) (.slice (if m.toNat=p.toNat then ad else ad.map (·.add (p.toNat*T.size E))) (q.toNat-p.toNat) (m.toNat-p.toNat)):=by
  have Nv:(xs.map (T.cells E)).length=Sx xs:=by simp
  generalize hes:xs.map (T.cells E)=es at hv hmap Nv;have hlen:((es.take q.toNat).drop p.toNat).length=q.toNat-p.toNat:=by simp;omega
  rcases hv.xW with⟨ad0,he,rfl⟩|⟨b,off,cap,c,he,hcap,hkk,hc,h⟩
  .have hx0:=H8 Nv.symm;subst hx0;simp at h3;have hp0:p=0:=om;have hq0:q=0:=om;have hm0:m=0:=om;subst hp0;subst hq0;subst hm0;exact⟨ad0,0,he,eE _,.list (.wM _ _)⟩
  .rw[Nv]at he hcap;refine⟨_,_,he,hcap,.list ?_⟩;rw[hmap];rw[<-hlen];by_cases qP:m.toNat=p.toNat
   .have hz:((es.take q.toNat).drop p.toNat)=[]:=by grind
    rw[hz,if_pos qP];exact .slice b off (m.toNat-p.toNat) _ [] c (fF _) (λj hj=>by simp at hj) (λj l hj=>by simp at hj) (λj l hj=>by simp at hj)
   .rw[if_neg qP];simp only[VF,add_lit];refine .slice b (off+p.toNat*T.size E) (m.toNat-p.toNat) _ _ (λj l=>c (p.toNat+j) l) (by rw[hlen];omega) (λj hj=>?_) (λj l hj hl=>?_) (λj l hj hl=>?_)
    .grind
    .grind
    grind
 obtain⟨ad,cap,he,hcap,hV⟩:=hex;have bi:∀(y:dJ)(n:Int),mQ 0 (iN (st.ev y))=iN n->∃k,a.eval y=.int k n:=λy n hb=>by
  rcases uU hr (lo:=iN y) hb with⟨h,-⟩|⟨k,h⟩
  .cases h
  simp_all
 obtain⟨k1,hhi⟩:=bi hi q hq;obtain⟨k2,hmx⟩:=bi mx m hm;refine gE (f:=λρ=>Instr.sliceAt t (ρ x) (lo.map ρ) (iN (ρ hi)) (iN (ρ mx))) (by simp[M2,ho]) ⟨_,hV,λw' hs=>?_⟩;have Dl:=afw (P:=P) (len:=Sx xs) (cap:=cap) (k1:=k1) (k2:=k2) (uU hr hp) h0 h1 h2 om w';unfold Instr.sliceAt;unfold Instr.slice;simp_all[aW,fP]
def Ws(P:bw)(fs:aJ Field):J (TV E)->J (Nat×TV E)->O (J (TV E))
 | cs,[]=>iN cs|cs,(j,d)::rest=>match fs[j]?,d.qt with
  | some fd,iN l=>match aZ P fd.type with
   | some i=>cond (iO (fd.offset+Sx l) cs.length&&dO l.length i.size) (Ws P fs (cs.take fd.offset++l++cs.drop (fd.offset+Sx l)) rest) iF|none=>iF
  | _,_=>iF
theorem Z9(off:Nat):∀(new:J R0)(i:Nat)(cs:aJ R0),off+i+new.length<=cs.size ->
  ((new.zipIdx i).foldl (λcs (p:R0×Nat)=>cs.setIfInBounds (off+p.2) p.1) cs).toList=cs.toList.take (off+i)++new++cs.toList.drop (off+i+new.length)
 | [],i,cs,_=>by simp|v::rest,i,cs,h=>by simp;rw[Z9 off rest (i+1) _ (by simp at h⊢;omega)];have e:=list_seg_step cs.toList (off+i) v rest (by simp at h⊢;omega);simpa[St]using e
variable{place:Nat->O (Nat×Nat)}
theorem Qr{cells:aJ R0}{j size:Nat}{rest:J (Nat×R0)}(hp:place j=iN (off,size))
  (hs:v.cells.size=size) (ho:off+size<=cells.size) :
  Instr.fill place cells ((j,v)::rest)=Instr.fill place (cells.toList.take off++v.cells.toList++cells.toList.drop (off+v.cells.size)).toArray rest:=by
 have hf:=Z9 off v.cells.toList 0 cells aM;rw[Instr.fill,hp];have hc:¬ ((v.cells.size≠size||off+v.cells.size>cells.size)=eQ):=by simp;omega
 simp only;rw[if_neg hc];congr 1;grind[Array.ext',Array.toList_zipIdx]
theorem afx(fs:J Field)(h:∀fd,fd∈fs->∃i,aZ P fd.type=iN i):
  ∃places:J (Nat×Nat),fs.mapM (λf=>(P.info? f.type).map λi=>(f.offset,i.size))=iN places /\
   ∀(j:Nat) fd i,fs[j]? = iN fd->aZ P fd.type=iN i->places[j]? = iN (fd.offset,i.size):=by
 induction fs with
 | nil=>simp_all|cons f fs ih=>obtain⟨places,hp,hq⟩:=ih λfd OI=>h fd (by simp[OI]);obtain⟨i,hi⟩:=h f si;obtain⟨x,hx,-,hs,-⟩:=aS hi;refine⟨(f.offset,i.size)::places,by simp_all,λj fd i' hj hi'=>?_⟩;grind
theorem Wt(hE:E.Ok)(hr:Rel E w0 G0 st a w G){fs:aJ Field}{place:Nat->O (Nat×Nat)}
  (hpl:∀(j:Nat) fd i,fs[j]? = iN fd->aZ P fd.type=iN i->place j=iN (fd.offset,i.size)) :
  ∀(parts:J (Nat×dJ))(cells:aJ R0)(ds:J (TV E)){ds':J (TV E)},bO E w G ds cells.toList->(∀u,u∈cells.toList->u.oneCell'=eQ) ->
  Ws P fs ds (parts.map λp=>(p.1,st.ev p.2))=iN ds' ->
  ∃cells':aJ R0,Instr.fill place cells (parts.map λp=>(p.1,a.eval p.2))=iN cells'/\bO E w G ds' cells'.toList/\∀u,u∈cells'.toList->u.oneCell'=eQ
 | [],cells,ds,ds',h,h1,hf=>by cases hf;exact⟨cells,rfl,h,h1⟩
 | (j,x)::rest,cells,ds,ds',h,h1,hf=>by
  simp only[jb,Ws]at hf;split at hf<;>try trivial
  rename_i fd l OI hl;split at hf<;>try trivial
  rename_i i hi;cases hb:(iO (fd.offset+Sx l) ds.length&&dO l.length i.size)<;>rw[hb]at hf<;>simp only[aQ,aI]at hf
  .cases hf
  rw[cH]at hb;have hsz:=fm hb.2;obtain⟨hx,hx1⟩:=uq hE (hr.ev x) hl;have hlen:(a.eval x).cells.size=Sx l:=by simpa using hx.length
  have hcl:cells.size=Sx ds:=by simpa using h.length
  simp only[jb];rw[Qr (hpl j fd i OI hi) (by rw[hlen,hsz]) (by simp_all),hlen];refine Wt hE hr hpl rest _ _ ?_ ?_ hf
  .exact((h.take _).append hx).append (h.drop _)
  grind
theorem bO.ofValues:∀ {vs:J R0},bO E w G (vs.map TV.L3) vs|[]=>.nil|v::vs=>.cons (acY w G v) bO.ofValues
def S2(E:TEnv)(ty:O Ty)(cs:J (TV E)):TV E:=
 match ty with
 | none=>.agg cs|some t=>match Qq E 4 t cs with
  | some (x,[])=>cond t.isAgg (.dat t x) (.agg cs)|_=>.agg cs
theorem Lc(hE:E.Ok){vs:aJ R0}(h:bO E w G cs vs.toList)(h1:∀u,u∈vs.toList->u.oneCell'=eQ):VT E w G (S2 E ty cs) (.agg vs):=by unfold S2;grind[Cg,bO,VT]
theorem afy(hE:E.Ok)(hr:Rel E w0 G0 st a w G){parts:aJ (Nat×dJ)}{z:aJ R0}(ho:o.op=.build t parts)
  (ht:aZ P t=iN ⟨.struct fs,j1,j2,.agg z⟩) (h2:(z.toList.all (·.oneCell')&&fs.toList.all λfd=>(aZ P fd.type).isSome)=eQ) 
  (hf:Ws P fs (z.toList.map TV.L3) (parts.toList.map λp=>(p.1,st.ev p.2))=iN ds) (ty:O Ty):jW P a w G o (S2 E ty ds):=by
 rw[cH]at h2;obtain⟨places,hpl,hpq⟩:=afx fs.toList (λfd OI=>Option.isSome_iff_exists.1 (pW.1 h2.2 fd OI));obtain⟨xt,kI,eL,hsz,hby,hz⟩:=aS ht
 obtain⟨cells,hc,hl,hl1⟩:=Wt hE hr (place:=(places.toArray[·]?)) (λj fd i hj hi=>by
  simp_all) parts.toList z (z.toList.map TV.L3) bO.ofValues (λu hu=>pW.1 h2.1 u hu) hf
 refine gE (f:=λρ=>Instr.build t (parts.map λ(i,x)=>(i,ρ x))) (by simp[M2,ho]) ⟨.agg cells,Lc hE hl hl1,λw' hs=>?_⟩;refine run_build w' t _ cells ?_;unfold Program.built;simp only[kI,eL,hz,hpl];rw[show(parts.map λ(i,x)=>(i,a.eval x)).toList=parts.toList.map λp=>(p.1,a.eval p.2) by simp];exact hc
def TV.L4:TV E->O ((T:Ty)×J (T.den E.D))|.dat (.bx T) xs=>iN ⟨T,xs⟩|.cz _ _ T xs=>iN ⟨T,xs⟩|_=>iF
theorem TV.J9(h:d.L4=iN ⟨T,xs⟩):uu d T xs:=by
 unfold TV.L4 at h;split at h
 .cases h;exact .dat _ _
 .cases h;exact .cz _ _ _ _
 .cases h
def okT(x:O (TV E)):O (Bool×TV E):=match x with|some d=>iN (eQ,d)|none=>iF
def arZ(d:TV E)(k:TypeDesc):O (TV E):=match k,d with|.string,.dat .str l=>iN (.dat (.int .i64) (Sx l:Int))|.slice _,.dat (.bx T) xs=>iN (.dat (.int .i64) (Sx xs:Int))|.slice _,.cz _ _ T xs=>iN (.dat (.int .i64) (Sx xs:Int))|.slice _,.val (.slice iF 0 0)=>iN (.dat (.int .i64) (0:Int))|_,_=>iF
def nM(n:Int):J UInt8:=(Utf8.encode n).data.toList
def ao7(P:bw)(src dst:aK)(d:TV E):O (TV E):=match d,aZ P src,aZ P dst with|.dat (.int _) n,iN _,iN ⟨.int kk,_,_,_⟩=>iN (.dat (.int kk) (kk.wrap n))|.dat .str l,iN _,iN ⟨.string,_,_,_⟩=>iN (.dat .str l)|.dat (.int _) n,iN _,iN ⟨.string,_,_,_⟩=>iN (.dat .str (nM n))|_,_,_=>iF
def S3(P:bw)(ty:aK->O Ty)(st:TS E):Op->O (Bool×TV E)
 | .move x=>iN (eQ,st.ev x)|.assign x=>iN (eQ,st.ev x)|.load t x=>match aZ P t,st.ev x with
  | some i,.uk T y off=>okT (TV.part T y i.isAgg i.size off)|some i,.ptr r off=>match st.H[r]? with
   | some (.cells _ cs)=>okT (Wm E (ty t) cs i.isAgg i.size off)|_=>iF
  | _,_=>iF
 | .nilCheck x=>match st.ev x with
  | .ptr r off=>iN (eQ,.ptr r off)|.uk T y off=>iN (eQ,.uk T y off)|.func (.func f) cap=>iN (eQ,.func (.func f) cap)|_=>iF
 | .binOp op _ x y _=>am3 op (st.ev x) (st.ev y)|.unOp op _ x=>match op,st.ev x with
  | .not,.dat .bool b=>iN (eQ,.dat .bool (!b))|.neg,.dat (.int k) n=>iN (eQ,.dat (.int k) (k.wrap (0-n)))|.xor,.dat (.int k) n=>iN (eQ,.dat (.int k) (YG k n))|_,_=>iF
 | .makeFunc fn first cap=>match first.toList with
  | []=>iN (eQ,.func fn (cap.toList.map st.ev))|x::xs=>match cap.toList with
   | []=>iN (eQ,.Iw fn ((x::xs).map st.ev))|_=>iF
 | .fieldAddr s x f=>match aZ P s,st.ev x with
  | some ⟨.struct fs,_,_,_⟩,.uk T y off=>match fs[f]? with
   | some fd=>match aZ P fd.type with
    | some i=>iN (!(dO i.size 0),.uk T y (off+fd.offset))|none=>iF
   | none=>iF
  | some ⟨.struct fs,_,_,_⟩,.ptr r off=>match fs[f]? with
   | some fd=>match aZ P fd.type with
    | some i=>iN (!(dO i.size 0),.ptr r (off+fd.offset))|none=>iF
   | none=>iF
  | _,_=>iF
 | .indexAddr t x ix=>match aZ P t,(st.ev x).L4,st.ev ix with
  | some ⟨.slice e,_,_,_⟩,iN ⟨T,xs⟩,.dat (.int _) n=>match aZ P e with
   | some i=>iN (dO i.size (T.size E)&&(eJ (0<=n)&&eJ (n<(Sx xs:Int))),.uk T (xs.getD (eI n) (T.dflt E)) 0)|none=>iF
  | _,_,_=>iF
 | .index t x ix=>match aZ P t,st.ev x,st.ev ix with
  | some ⟨.string,_,_,_⟩,.dat .str l,.dat (.int _) n=>iN (eJ (0<=n)&&eJ (n<(Sx l:Int)),.dat (.int .u8) ((l.getD (eI n) 0).toNat:Int))|_,_,_=>iF
 | .extract x j=>match st.ev x with
  | .tuple ds=>okT ds[j]?|_=>iF
 | .build t parts=>match aZ P t with
  | some ⟨.struct fs,_,_,.agg z⟩=>match Ws P fs (z.toList.map TV.L3) (parts.toList.map λp=>(p.1,st.ev p.2))with
   | some ds=>iN (z.toList.all (·.oneCell')&&fs.toList.all (λfd=>(aZ P fd.type).isSome),S2 E (ty t) ds)
   | none=>iF
  | _=>iF
 | .convert src dst x=>okT (ao7 P src dst (st.ev x))|.makeInterface t x=>match aZ P t with
  | some ⟨.interface _,_,_,_⟩=>iF|some _=>iN (eQ,.iface t (st.ev x))|none=>iF
 | .slice t x lo hi iF=>match aZ P t,st.ev x with
  | some ⟨.string,_,_,_⟩,.dat .str l=>match mQ 0 (lo.map st.ev),mQ (Sx l:Int) (hi.map st.ev)with
   | some p,iN q=>iN (eJ (0<=p)&&(eJ (p<=q)&&eJ (q<=(Sx l:Int))),.dat .str ((l.take q.toNat).drop p.toNat))|_,_=>iF
  | some ⟨.slice e,_,_,_⟩,d=>match d.L4,aZ P e with
   | some ⟨T,xs⟩,iN i=>match mQ 0 (lo.map st.ev),mQ (Sx xs:Int) (hi.map st.ev)with
    | some p,iN q=>iN (dO i.size (T.size E)&&(eJ (0<=p)&&(eJ (p<=q)&&eJ (q<=(Sx xs:Int)))),.dat (.bx T) ((xs.take q.toNat).drop p.toNat))|_,_=>iF
   | _,_=>iF
  | _,_=>iF
 | .slice t x lo (iN hi) (iN mx)=>match aZ P t,st.ev x with
  | some ⟨.slice e,_,_,_⟩,d=>match d.L4,aZ P e with
   | some ⟨T,xs⟩,iN i=>match mQ 0 (lo.map st.ev),mQ 0 (iN (st.ev hi)),mQ 0 (iN (st.ev mx))with
    | some p,iN q,iN m=>iN (dO i.size (T.size E)&&(eJ (0<=p)&&(eJ (p<=q)&&(eJ (q<=m)&&eJ (m<=(Sx xs:Int))))),.dat (.bx T) ((xs.take q.toNat).drop p.toNat))|_,_,_=>iF
   | _,_=>iF
  | _,_=>iF
 | .call c=>match c.callee,c.args.toList,c.argTypes.toList with
  | .builtin .len,[x],[t]=>match aZ P t with
   | some i=>okT (arZ (st.ev x) i.kind)|none=>iF
  | _,_,_=>iF
 | _=>iF
theorem DY{x:O (TV E)}{c:Bool}(h:okT x=iN (c,d)):x=iN d:=by
 cases x with
 | none=>cases h
 | some y=>cases h;rfl
theorem afz(hE:E.Ok)(hr:Rel E w0 G0 st a w G){ty:aK->O Ty}{c:Bool}(h:S3 P ty st o.op=iN (c,d))(hc:c=eQ):jW P a w G o d:=by
 cases ho:o.op<;>rw[ho]at h<;>simp only[S3]at h
 case move x=>grind[ac0]
 case assign x=>grind[ac0]
 case load t x=>grind[YK,DY,YL]
 case nilCheck x=>
  have hv:=hr.ev x;split at h<;>try trivial
  .rename_i r off hd;cases h;rw[hd]at hv;have jU:=hv;obtain⟨b,he,-⟩:=jU;exact⟨_,hv,λw' hs=>by simp[M2,ho,he]⟩
  .rename_i T y off hd;cases h;rw[hd]at hv;have jU:=hv;obtain⟨b,o',c',he,-⟩:=jU;exact⟨_,hv,λw' hs=>by simp[M2,ho,he]⟩
  .rename_i f cap hd;cases h;rw[hd]at hv;have jU:=hv;obtain⟨vs,he,-⟩:=jU;exact⟨_,hv,λw' hs=>by simp[M2,ho,he]⟩
 case binOp op t x y ty'=>obtain⟨r,hv,hrun⟩:=air (P:=P) (op:=op) (t:=t) (x:=x) (y:=y) (hr.ev x) (hr.ev y) h hc;exact gE (f:=λρ=>do eqGuard op t x y (ρ x) (ρ y);binOp op t (ρ x) (ρ y)) (by simp[M2,ho]) ⟨r,hv,λw' _=>hrun w'⟩
 case unOp op t x=>
  have hv:=hr.ev x;split at h<;>try trivial
  .rename_i b hd;cases h;rw[hd]at hv;exact⟨_,.bool _ _ _,λw' hs=>by simp[M2,ho,hv.nE,Op.unary]⟩
  .rename_i k n hd;cases h;rw[hd]at hv;exact⟨_,.int _ _ _ _,λw' hs=>by simp[M2,ho,hv.gD,Op.unary,Op.intArith]⟩
  .rename_i k n hd;cases h;rw[hd]at hv
   exact⟨_,.int _ _ _ _,λw' hs=>by
    simp only[M2,ho,hv.gD,Op.unary,YI];rfl⟩
 case makeFunc fn first cap=>
  have evs:∀l:J dJ,bO E w G (l.map st.ev) (l.map a.eval):=by
   intro l
   induction l with|nil=>exact .nil|cons y l ih=>exact .cons (hr.ev y) ih
  split at h
  rotate_left
  .rename_i x xs hf;split at h<;>try trivial
   cases h;have tM:cap=#[]:=by simp_all
   refine gE (f:=λρ=>Instr.makeFunc fn (first.map ρ) (cap.map ρ)) (by simp[M2,ho]) ⟨.func fn (first.map a.eval) #[],?_,λw' _=>by simp[Instr.makeFunc,tM]⟩;simp only[VT];rw[<-hf];simpa using evs first.toList
  rename_i hf;cases h;have hf':first=#[]:=by simp_all
  refine gE (f:=λρ=>Instr.makeFunc fn (first.map ρ) (cap.map ρ)) (by simp[M2,ho]) ⟨.func fn #[] (cap.map a.eval),?_,λw' _=>by simp[Instr.makeFunc,hf']⟩;simp_all[VT,bO]
 case fieldAddr s x f=>
  split at h<;>try trivial
  .rename_i fs j1 j2 z T y off hs hd;split at h<;>try trivial
   rename_i fd hf;split at h<;>try trivial
   rename_i i hi;cases h;refine Wp hr ho hs hf hi (λh0=>?_) hd;rw[h0]at hc;cases hc
  .rename_i fs j1 j2 z r off hs hd;split at h<;>try trivial
   rename_i fd hf;split at h<;>try trivial
   rename_i i hi;cases h;refine Wq hr ho hs hf hi (λh0=>?_) hd;rw[h0]at hc;cases hc
 case indexAddr t x ix=>grind[afv,TV.J9,Nat.eq_of_beq_eq_true]
 case index t x ix=>grind[Wo]
 case extract x j=>grind[aaU,DY]
 case build t parts=>grind[afy]
 case convert src dst x=>
  have hb:=DY h;have hv:=hr.ev x;unfold ao7 at hb;split at hb<;>try trivial
  .rename_i k n _ kk j1 j2 z hd hs ac2;cases hb;rw[hd]at hv;obtain⟨xs,hxs,Ue,-⟩:=aS hs;obtain⟨xd,hxd,hud,-⟩:=aS ac2;refine gE (f:=λρ=>convert src dst (ρ x)) (by simp[M2,ho]) ⟨_,.int _ _ _ _,λw' _=>?_⟩;rw[hv.gD];unfold convert;simp only[jF,aW Ue,aW hud,kn];rfl
  .rename_i l _ j1 j2 z hd hs ac2;cases hb;rw[hd]at hv;obtain⟨xs,hxs,Ue,-⟩:=aS hs;obtain⟨xd,hxd,hud,-⟩:=aS ac2;refine gE (f:=λρ=>convert src dst (ρ x)) (by simp[M2,ho]) ⟨_,.str _ _ _,λw' _=>?_⟩;rw[hv.iQ];unfold convert mkStr;simp_all[jF,aW,kn]
  .rename_i k n _ j1 j2 z hd hs ac2;cases hb;rw[hd]at hv;obtain⟨xs,hxs,Ue,-⟩:=aS hs;obtain⟨xd,hxd,hud,-⟩:=aS ac2;refine gE (f:=λρ=>convert src dst (ρ x)) (by simp[M2,ho]) ⟨_,.str _ _ _,λw' _=>?_⟩;rw[hv.gD];unfold convert mkStr nM;simp only[jF,aW Ue,aW hud,kn];rfl
 case makeInterface t x=>
  split at h<;>try trivial
  rename_i ti hne ht;cases h;obtain⟨xt,kI,eL,-⟩:=aS ht;refine gE (f:=λρ=>Instr.makeInterface t (ρ x)) (by simp[M2,ho]) ⟨.iface t (a.eval x),by simp only[VT];exact⟨_,rfl,hr.ev x⟩,λw' _=>?_⟩;unfold Instr.makeInterface;simp only[jF,aW eL,kn];split
  .rename_i ms hk;exact(hne ms _ _ _ (by rw[<-hk])).elim
  .rfl
 case slice t x lo hi mx=>
  cases mx with
  | some m=>cases hi with|none=>simp at h|some hi=>grind[ac1,TV.J9,Nat.eq_of_beq_eq_true]
  | none=>grind[Wr,UY,TV.J9,Nat.eq_of_beq_eq_true]
 case call c'=>
  split at h<;>try trivial
  rename_i x t hcl ha hat;split at h<;>try trivial
  rename_i i ht;have hb:=DY h;have hv:=hr.ev x;obtain⟨kind,j1,j2,z⟩:=i;unfold arZ at hb;split at hb<;>try trivial
  .grind[aaV]
  .rename_i e T xs hk hd;cases hb;dsimp only at hk;subst hk;rw[hd]at hv;exact Cj hr ho hcl ha hat ht ((uu.dat T xs).header hv)
  .rename_i e j aF T xs hk hd;cases hb;dsimp only at hk;subst hk;rw[hd]at hv;exact Cj hr ho hcl ha hat ht ((uu.cz j aF T xs).header hv)
  .rename_i e hk hd;cases hb;dsimp only at hk;subst hk;rw[hd]at hv;exact Cj (n:=0) hr ho hcl ha hat ht ⟨_,_,hv⟩
 all_goals cases h
variable{w' w'':U}{G' G'':bC}
theorem jc.refl(w:U)(G:bC):jc w G w G:=⟨λ_ _ h=>h,λ_ _ _ _ h=>h,λ_ _ h=>h,λj x h hj=>⟨x,h,hj,eE _,λ_=>rfl⟩⟩
theorem jc.trans(h:jc w G w' G')(h':jc w' G' w'' G''):jc w G w'' G'':=by refine⟨λb o hp=>h'.pr b o (h.pr b o hp),λb o v hp hv=>h'.cells b o v (h.pr b o hp) (h.cells b o v hp hv),λr b hb=>h'.i r b (h.i r b hb),λj x y hj=>?_⟩;obtain⟨x1,y1,h1,l1,e1⟩:=h.g j x y hj;obtain⟨x2,y2,h2,l2,e2⟩:=h'.g j x1 y1 h1;grind
theorem mj.refl(w:U)(G:bC):mj w G w G:=
 ⟨rfl,rfl,rfl,eE _,λ_ _ _=>rfl,.refl w G,λ_ _ _ h=>.inl h,λr b hl hb=>by
  simp_all,λj x h b hj hb=>.inr ⟨x,h,hj,hb⟩⟩
theorem gM.mono(hg:jc w G w' G'){kt vt:Ty}:∀ {es:J MapEntry}{m:J (kt.den E.D×vt.den E.D)},gM E w G kt vt es m->gM E w' G' kt vt es m|[],[],_=>trivial|_::_,_::_,h=>⟨h.1.mono hg,h.2.1.mono hg,gM.mono hg h.2.2⟩|[],_::_,h=>h.elim|_::_,[],h=>h.elim
theorem DOk.mono(hg:jc w G w' G'){d:Deferred}{x:H4×J (TV E)}(h:DOk E w G d x):DOk E w' G' d x:=h.imp (λ⟨h0,cap,h1,h2⟩=>⟨h0,cap,h1,h2.mono hg⟩) λ⟨h0,b,h1,h2⟩=>⟨h0,b,h1,h2.mono hg⟩
theorem lu.mono(hg:jc w G w' G'):∀ {ds:J Deferred}{xs:J (H4×J (TV E))},lu E w G ds xs->lu E w' G' ds xs|[],[],_=>trivial|_::_,_::_,h=>⟨h.1.mono hg,lu.mono hg h.2⟩|[],_::_,h=>h.elim|_::_,[],h=>h.elim
theorem kN.mono(hg:jc w G w' G'){x:gu E}(h:kN E w G b x)(hb:w'.heap[b]? = w.heap[b]?):kN E w' G' b x:=by
 cases x with
 | cells t cs=>obtain⟨vs,h1,h2,h3⟩:=h;exact⟨vs,by rw[hb];exact h1,h2,h3.mono hg⟩
 | iter s pos=>show _=_;rw[hb];exact h
 | loop y ds=>obtain⟨Y,fn,tmps,D,h0,h1,h2⟩:=h;exact⟨Y,fn,tmps,D,h0,by rw[hb];exact h1,h2.mono hg⟩
 | gone=>obtain⟨o,h,h'⟩:=h;exact⟨o,by rw[hb];exact h,h'⟩
 | Ub=>show _=_;rw[hb];exact h
 | map kt vt m=>obtain⟨es,clock,h1,h2,h3⟩:=h;exact⟨es,clock,by rw[hb];exact h1,h2,h3.mono hg⟩
 | mH e cap t xs d=>obtain⟨cur,h1,h2,h4,h5,h6⟩:=h;exact⟨cur,by rw[hb];exact h1,h2,λi x hx=>(h4 i x hx).mono hg,h5.mono hg,h6⟩
theorem fI.alloc(w:U)(o:Obj):fI w (w.alloc o):=⟨si,λb hb=>heap_alloc_old w o b hb⟩
theorem fI.trans{w1 w2 w3:U}(h:fI w1 w2)(h':fI w2 w3):fI w1 w3:=⟨jR h.1 h'.1,λb hb=>(h'.2 b (kF hb h.1)).trans (h.2 b hb)⟩
theorem zS.same{x:cU}{h:R0}(hg:zS E w G x h)(hs:fI w w')(hi:∀b,b∈G'.i->b<w.heap.size->b∈G.i)(Ix:∀b o,b<w.heap.size->G'.pr b o->G.pr b o):zS E w' G' x h:=by
 obtain⟨n,xs,ho,hz,hb⟩:=hg;refine⟨n,xs,⟨ho.1,?_⟩,hz,λb Ir=>?_⟩
 .rcases ho.2 with h2|⟨g,cap,cur,h2,h3,h4,h5⟩
  .exact .inl h2
  .exact .inr ⟨g,cap,cur,h2,h3,by rw[hs.2 g (BH.1 h4).1];exact h4,h5⟩
 .obtain⟨h1,h2,h3⟩:=hb b Ir;exact⟨kF h1 hs.1,λhm=>h2 (hi b hm h1),λo hno uv=>h3 o hno (Ix b o h1 uv)⟩
theorem um.keep{x x':cU}{hd:R0}{c:Cn E}(h:um E w G x hd c)(he:x'.e=x.e)(hk:x'.k=x.k)(uv:∀b o,G.pr b o->G'.pr b o)(hcl:∀b o v,G.pr b o->w.cell? ⟨b,o,iF⟩=iN v->w'.cell? ⟨b,o,iF⟩=iN v)(hb:∀b,hd.ownBlock=iN b->w'.heap[b]? = w.heap[b]?/\∀o,G'.pr b o->G.pr b o):
  um E w' G' x' hd c:=by
 obtain⟨h1,h2,⟨vals,ho,hf⟩,hp⟩:=h;refine⟨by rw[hk];exact h1,by rw[hk];exact h2,⟨vals,⟨by rw[hk];exact ho.1,?_⟩,by rw[hk];exact hf.mono uv hcl⟩,λb hbk o uv=>hp b hbk o ((hb b hbk).2 o uv)⟩;rcases ho.2 with q|⟨g,cap,cur,q1,q2,q3,q4⟩
 .exact .inl q
 .refine .inr ⟨g,cap,cur,q1,q2,?_,by rw[hk];exact q4⟩;rw[(hb g (by rw[q1];rfl)).1,he];exact q3
theorem lS.keep{cs:J (Nat×Cn E)}(h:lS E w G cs)(hg:jc w G w' G')(hrow:∀(j:Nat) x hd,G.g[j]? = iN (x,hd)->(∃c,(j,c)∈cs)->∃x',G'.g[j]? = iN (x',hd)/\x'.e=x.e/\x'.k=x.k/\∀b,hd.ownBlock=iN b->w'.heap[b]? = w.heap[b]?/\∀o,G'.pr b o->G.pr b o):
  lS E w' G' cs:=by
 intro j c hj;obtain⟨x,hd,h1,h2⟩:=h j c hj;obtain⟨x',q1,q2,q3,q4⟩:=hrow j x hd h1 ⟨c,hj⟩;exact⟨x',hd,q1,h2.keep q2 q3 hg.pr hg.cells q4⟩
theorem Rel.grow(h:Rel E w0 G0 st a w G)(hs:fI w w')(h1:w'.os=w.os)(h2:w'.tape=w.tape)(h3:w'.output=w.output)(mP:Nat->Nat->Prop)
  (hp:∀b o,G.pr b o->mP b o) (Ix:∀b o,b<w.heap.size->mP b o->G.pr b o) (hpn:∀b o,mP b o->b<w'.heap.size) :
  Rel E w0 G0 st a w' {G with pr:=mP}:=by
 have hg:jc w G w' {G with pr:=mP}:=⟨hp,λb o v _ hv=>hs.cell hv,λ_ _ h=>h,λj x y hj=>⟨x,y,hj,eE _,λ_=>rfl⟩⟩;have ev:=h.fH
 refine⟨⟨h1.trans ev.os,h2.trans ev.tape,h3.trans ev.output,jR ev.size hs.1,λb hb hn=>(hs.2 b (kF hb ev.size)).trans (ev.old b hb hn),ev.goes.trans hg,
  λb o hb uv=>ev.pN b o hb (Ix b o (kF hb ev.size) uv),ev.sF,ev.iB⟩,h.size,λj d hj=>(h.tmps j d hj).mono hg,h.defers.mono hg,?_,λr b hb hd=>(hs.2 b (h.boxes.lt b (jQ (h.fH.goes.i r b hb)))).trans (h.fix r b hb hd),h.pins,h.gU.keep hg λj x hd hj _=>⟨x,hj,rfl,rfl,λb hbk=>by
   obtain⟨n,xs,-,-,hb⟩:=h.boxes.grow j x hd hj;exact⟨hs.2 b (hb b hbk).1,λo=>Ix b o (hb b hbk).1⟩⟩⟩
 refine⟨h.boxes.len,h.boxes.gs,λr b x hb hx=>(h.boxes.box r b x hb hx).mono hg (hs.2 b (h.boxes.lt b (jQ hb))),λb hb=>kF (h.boxes.lt b hb) hs.1,h.boxes.nodup,
  λb o uv=>⟨hpn b o uv,λhm=>(h.boxes.gT b o (Ix b o (h.boxes.lt b hm) uv)).2 hm⟩,λj x y hj=>(h.boxes.grow j x y hj).same hs (λb hb _=>hb) Ix,h.boxes.apart⟩
theorem Rel.L5(h:Rel E w0 G0 st a w G)(o:Obj)(x:gu E)(hx:kN E (w.alloc o) G w.heap.size x):
  Rel E w0 G0 {st with H:=st.H++[x]} a (w.alloc o) {G with i:=G.i++[w.heap.size]}:=by
 have h':=h.grow (fI.alloc w o) rfl rfl rfl G.pr (λ_ _ h=>h) (λ_ _ _ h=>h) (λb o' hp=>kF (h.boxes.gT b o' hp).1 si)
 have hg:jc (w.alloc o) G (w.alloc o) {G with i:=G.i++[w.heap.size]}:=⟨λ_ _ h=>h,λ_ _ _ _ h=>h,λr b hb=>by
  grind,λj x y hj=>⟨x,y,hj,Nat.le_refl _,λ_=>rfl⟩⟩
 have ev:=h'.fH;refine⟨⟨ev.os,ev.tape,ev.output,ev.size,ev.old,ev.goes.trans hg,ev.pN,λr b hl hb=>?_,ev.iB⟩,h.size,λj d hj=>(h'.tmps j d hj).mono hg,h'.defers.mono hg,?_,h'.fix,h.pins,h'.gU.keep hg λj x hd hj _=>⟨x,hj,rfl,rfl,λb hbk=>⟨rfl,λo h=>h⟩⟩⟩
 .by_cases hr:r<G.i.length
  .rw[xo hr]at hb;exact ev.sF r b hl hb
  .have:=(fD.1 hb).1;simp at this;have hre:r=G.i.length:=om;subst hre;simp at hb;subst hb;exact h.fH.size
 refine⟨by simp[h.boxes.len],h.boxes.gs,λr b y hb hy=>?_,λb hb=>?_,?_,λb o' hp=>?_,λj y z hj=>?_,h.boxes.apart⟩
 .by_cases hr:r<G.i.length
  .rw[xo hr]at hb;rw[xo (by rw[<-h.boxes.len];exact hr)]at hy;exact(h'.boxes.box r b y hb hy).mono hg rfl
  .have:=(fD.1 hb).1;simp at this;have hre:r=G.i.length:=om;subst hre;simp at hb;rw[h.boxes.len]at hy;simp at hy;subst hb;subst hy;exact hx.mono hg rfl
 .rcases kZ.1 hb with hb|hb
  .exact h'.boxes.lt b hb
  simp_all
 .refine ahD.2 ⟨h.boxes.nodup,si,λb hb c hc=>?_⟩;simp at hc;subst hc;exact Nat.ne_of_lt (h.boxes.lt b hb)
 .obtain⟨p1,p2⟩:=h.boxes.gT b o' hp;refine⟨kF p1 si,λhm=>?_⟩;simp_all
 .refine(h.boxes.grow j y z hj).same (fI.alloc w o) (λb hb hlt=>?_) (λ_ _ _ h=>h);grind
end Go.RT
namespace Go.RT
variable {E : TEnv}
variable{P:bw}{w0 w w' w'':U}{G0 G G' G'':bC}{st:TS E}{a:Act}{o:H2}
theorem Rel.zU(h:Rel E w0 G0 st a w G){r b:Nat}(hat:G.i[r]? = iN b)(hsz:w'.heap.size=w.heap.size)(h1:w'.os=w.os)(h2:w'.tape=w.tape)(h3:w'.output=w.output)
  (o9:∀b',b'≠b->w'.heap[b']? = w.heap[b']?) {x:gu E} (hx:jc w G w' G->kN E w' G b x):Rel E w0 G0 {st with H:=st.H.set r x,d:=r::st.d} a w' G:=by
 have hin:=jQ hat;have avo:=λo hp=>(h.boxes.gT b o hp).2 hin
 have hg:jc w G w' G:=⟨λ_ _ h=>h,λb' o v hp hv=>by
  have:b'≠b:=λe=>by subst e;exact avo o hp
  rw[SC (o9 b' this)];exact hv,λ_ _ h=>h,λj x y hj=>⟨x,y,hj,eE _,λ_=>rfl⟩⟩
 have ev:=h.fH
 refine⟨⟨h1.trans ev.os,h2.trans ev.tape,h3.trans ev.output,by rw[hsz];exact ev.size,λb' hb' hn=>?_,ev.goes.trans hg,ev.pN,ev.sF,ev.iB⟩,h.size,λj d hj=>(h.tmps j d hj).mono hg,h.defers.mono hg,?_,λr' b' hb' hd=>?_,h.pins,h.gU.keep hg λj y z hj _=>⟨y,hj,rfl,rfl,λc hbk=>⟨o9 c (λe=>by
   obtain⟨n,xs,-,-,hb⟩:=h.boxes.grow j y z hj
   simp_all),λo h=>h⟩⟩⟩
 .rw[o9 b' (λe=>?_)]
  .exact ev.old b' hb' hn
  .subst e;by_cases hr:r<G0.i.length
   .have e1:=ev.goes.i r _ (fT hr);rw[hat]at e1;exact hn (.inl (by simp_all))
   .have:=ev.sF r b' om hat;omega
 rotate_left
 .simp at hd;have q0:=ev.goes.i r' b' hb';rw[o9 b' (λe=>?_)]
  .exact h.fix r' b' hb' hd.2
  .subst e;have q1:=fD.1 hat;have q2:=fD.1 q0;exact hd.1 ((VH h.boxes.nodup).1 (q2.2.trans q1.2.symm))
 refine⟨by simp[h.boxes.len],h.boxes.gs,λr' b' y hb' hy=>?_,λb' hb'=>by rw[hsz];exact h.boxes.lt b' hb',h.boxes.nodup,λb' o hp=>by rw[hsz];exact h.boxes.gT b' o hp,λj y z hj=>?_,h.boxes.apart⟩
 .by_cases hr:r=r'
  .grind
  .have hne:b'≠b:=λe=>by subst e;have q1:=fD.1 hat;have q2:=fD.1 hb';exact hr ((VH h.boxes.nodup).1 (q1.2.trans q2.2.symm))
   rw[MQ hr]at hy;exact(h.boxes.box r' b' y hb' hy).mono hg (o9 b' hne)
 .obtain⟨n,xs,ho,hz,hb⟩:=h.boxes.grow j y z hj;refine⟨n,xs,⟨ho.1,?_⟩,hz,λc hcl=>?_⟩
  .rcases ho.2 with h2|⟨g,cap,cur,h2,h3,h4,h5⟩
   .exact .inl h2
   .refine .inr ⟨g,cap,cur,h2,h3,?_,h5⟩;rw[o9 g (λe=>?_)]
    .exact h4
    .subst e;exact(hb g (by rw[h2];rfl)).2.1 hin
  simp_all
def kG(P:bw)(w0:U)(G0:bC)(a:Act)(w:U)(o:H2)(st':TS E):Prop:=∃nx v w' G',(M2 a.eval o).run P w=.ok nx w'/\(nx=.value v\/(nx=.skip/\v=H5))/\Rel E w0 G0 st' (a.put o.dst v) w' G'
theorem jW.am5(hr:Rel E w0 G0 st a w G){d:TV E}(h:jW P a w G o d):kG P w0 G0 a w o {st with t:=cE st.t o.dst d}:=by obtain⟨v,hv,hrun⟩:=h;exact⟨_,v,w,G,hrun w (J7.refl _ w),.inl rfl,hr.put hv o.dst⟩
theorem Ld(hr:Rel E w0 G0 st a w G){ob:Obj}{x:gu E}(hx:kN E (w.alloc ob) G w.heap.size x)
  (hrun:(M2 a.eval o).run P w=.ok (.value (.pointer (iN ⟨w.heap.size,0,iF⟩))) (w.alloc ob)) :
  kG P w0 G0 a w o {st with t:=cE st.t o.dst (.ptr st.H.length 0),H:=st.H++[x]}:=by
 have hN:=hr.L5 ob x hx;refine⟨_,_,_,_,hrun,.inl rfl,hN.put ?_ o.dst⟩;simp[VT];rw[<-hr.boxes.len];simp
theorem ait(hE:E.Ok)(hr:Rel E w0 G0 st a w G){t:aK}{x y:dJ}{i:TI}(ho:o.op=.store t x y)(ht:aZ P t=iN i){r off:Nat}(hd:st.ev x=.ptr r off)
  {t':aK} {cs ds:J (TV E)} (hb:st.H[r]? = iN (.cells t' cs)) (hy:(st.ev y).qt=iN ds) (h4:Sx ds=i.size) (h5:off+i.size<=Sx cs) :
  kG P w0 G0 a w o {st with t:=cE st.t o.dst .any,H:=st.H.set r (.cells t' (cs.take off++ds++cs.drop (off+Sx ds))),d:=r::st.d}:=by
 have Bq:=hr.ev x;rw[hd]at Bq;obtain⟨b,he,hat⟩:=Bq;obtain⟨vs,hh,hone,hvs⟩:=hr.box hat hb;obtain⟨hl,hl1⟩:=uq hE (hr.ev y) hy;have hlen:(a.eval y).cells.toList.length=i.size:=by rw[hl.length,h4]
 have hlen':(a.eval y).cells.size=i.size:=by simpa using hlen
 have hsz:vs.size=Sx cs:=by simpa using hvs.length
 obtain⟨xt,kI,-,hxs,-⟩:=aS ht;have hfit:off+0+(a.eval y).cells.toList.length<=vs.size:=by rw[hsz];omega
 have Wu:=run_storeCells_at (P:=P) b off t' (a.eval y).cells.toList 0 vs w hh hfit (λv hv=>hl1 v (by simpa using hv))
 let new:=(vs.toList.take off++(a.eval y).cells.toList++vs.toList.drop (off+(a.eval y).cells.toList.length)).toArray
 have hrun:(M2 a.eval o).run P w=.ok .skip (w.setRow b new):=by simp[M2,ho,Instr.storeAt,Instr.sureAddr,he,storeVar,fP kI,hxs,hlen'];simp only[Wu];rfl
 have hnew:(w.setRow b new).heap[b]? = iN (.cells new t' (0,0)):=setRow_heap w b vs _ t' _ hh;have FR:∀b',b'≠b->(w.setRow b new).heap[b']? = w.heap[b']?:=λb' hb'=>setRow_other w b b' _ hb'
 have hR:=hr.zU (w':=w.setRow b new) hat si rfl rfl rfl FR (x:=.cells t' (cs.take off++ds++cs.drop (off+Sx ds))) (λhg=>by
  refine⟨new,hnew,λu hu=>?_,?_⟩
  .grind
  .have:=(((hvs.mono hg).take off).append (hl.mono hg)).append ((hvs.mono hg).drop (off+Sx ds))
   grind)
 refine⟨_,H5,_,G,hrun,.inr ⟨rfl,rfl⟩,hR.put (by simp[VT]) o.dst⟩
variable{e:aK}{k:Nat}
theorem Rel.DZ(h:Rel E w0 G0 st a w G)(x:cU)(hd:R0)(hok:zS E w G x hd)(hnew:∀b,hd.ownBlock=iN b->w0.heap.size<=b)
  (hap:∀(j:Nat) y z b,G.g[j]? = iN (y,z)->z.ownBlock=iN b->hd.ownBlock≠iN b) :
  Rel E w0 G0 {st with g:=st.g++[x]} a w {G with g:=G.g++[(x,hd)]}:=by
 have hg:jc w G w {G with g:=G.g++[(x,hd)]}:=⟨λ_ _ h=>h,λ_ _ _ _ h=>h,λ_ _ h=>h,λj y z hj=>⟨y,z,by
  grind,Nat.le_refl _,λ_=>rfl⟩⟩
 have last:∀(j:Nat) y z,(G.g++[(x,hd)])[j]? = iN (y,z)->G.g[j]? = iN (y,z)\/(j=G.g.length/\y=x/\z=hd):=by grind
 have ev:=h.fH
 refine⟨⟨ev.os,ev.tape,ev.output,ev.size,ev.old,ev.goes.trans hg,ev.pN,ev.sF,λj y z b hj hb=>?_⟩,h.size,λj d hj=>(h.tmps j d hj).mono hg,h.defers.mono hg,?_,h.fix,h.pins,h.gU.keep hg λj y z hj _=>⟨y,by
   grind,rfl,rfl,λb hbk=>⟨rfl,λo h=>h⟩⟩⟩
 .rcases last j y z hj with hj|⟨-,-,rfl⟩
  .exact ev.iB j y z b hj hb
  .exact .inl (hnew b hb)
 refine⟨h.boxes.len,by simp[h.boxes.gs],λr b y hb hy=>(h.boxes.box r b y hb hy).mono hg rfl,h.boxes.lt,h.boxes.nodup,h.boxes.gT,λj y z hj=>?_,λj j' y z y' z' b hj hj' hb hb'=>?_⟩
 .rcases last j y z hj with hj|⟨-,rfl,rfl⟩
  .exact h.boxes.grow j y z hj
  .exact hok
 .rcases last j y z hj with q|⟨q1,-,q3⟩<;>rcases last j' y' z' hj' with q'|⟨q1',-,q3'⟩
  .exact h.boxes.apart j j' y z y' z' b q q' hb hb'
  .grind
  .grind
  .rw[q1,q1']
theorem Rel.ap6(h:Rel E w0 G0 st a w G)(hz:E.zc e=eQ):
  Rel E w0 G0 {st with g:=st.g++[⟨0,e,k⟩]} a (w.alloc (.cells #[] e))
   {G with g:=G.g++[(⟨0,e,k⟩,.slice (iN ⟨w.heap.size,0,iF⟩) 0 0)]}:=by
 have hG:=h.grow (fI.alloc w (.cells #[] e)) rfl rfl rfl G.pr (λ_ _ h=>h) (λb o hb hp=>hp) (λb o hp=>kF (h.boxes.gT b o hp).1 si);refine hG.DZ ⟨0,e,k⟩ (.slice (iN ⟨w.heap.size,0,iF⟩) 0 0) ?_ (λb hb=>?_) (λj y z b hj hz hb=>?_)
 .refine⟨0,[],⟨si,.inr ⟨w.heap.size,0,#[],rfl,fF _,heap_alloc_new w _,eE _,fF _,si,si⟩⟩,λa m _=>hz,λb hb=>?_⟩;cases hb;refine⟨si,λhm=>?_,λo ho hp=>?_⟩
  .exact absurd (h.boxes.lt _ hm) (AH _)
  .exact absurd (h.boxes.gT _ _ hp).1 (AH _)
 .cases hb;exact h.fH.size
 .cases hb;obtain⟨n',xs',-,-,hb'⟩:=h.boxes.grow j y z hj;simp_all
theorem Rel.newRow(h:Rel E w0 G0 st a w G){n cap:Nat}{cur:aJ R0}(hsz:cur.size=cap*k)(hn:n<=cap)(hc0:0<cap)(hcap:cap<=maxLen):
  Rel E w0 G0 {st with g:=st.g++[⟨0,e,k⟩]} a (w.alloc (.cells cur e))
   {G with g:=G.g++[(⟨0,e,k⟩,.slice (iN ⟨w.heap.size,0,iF⟩) n cap)],pr:=λb o=>G.pr b o\/(b=w.heap.size/\o<n*k)}:=by
 have hG:=h.grow (fI.alloc w (.cells cur e)) rfl rfl rfl (λb o=>G.pr b o\/(b=w.heap.size/\o<n*k)) (λ_ _ h=>.inl h)
  (λb o hb hp=>hp.elim id λq=>absurd hb (by rw[q.1];omega)) (λb o hp=>by
   rcases hp with hp|⟨rfl,-⟩
   .exact kF (h.boxes.gT b o hp).1 si
   .simp)
 refine hG.DZ ⟨0,e,k⟩ (.slice (iN ⟨w.heap.size,0,iF⟩) n cap) ?_ (λb hb=>?_) (λj y z b hj hz hb=>?_)
 .refine⟨n,cur.toList.take (n*k),⟨?_,.inr ⟨w.heap.size,cap,cur,rfl,fF _,heap_alloc_new w _,hn,hcap,hsz,rfl⟩⟩,λa m e=>by simp at e;omega,λb hb=>?_⟩
  .simp_all
  .cases hb;refine⟨si,λhm=>?_,λo ho hp=>?_⟩
   .exact absurd (h.boxes.lt _ hm) (AH _)
   .rcases hp with hp|⟨-,hlt⟩
    .exact absurd (h.boxes.gT _ _ hp).1 (AH _)
    grind
 .cases hb;exact h.fH.size
 .cases hb;obtain⟨n',xs',-,-,hb'⟩:=h.boxes.grow j y z hj;simp_all
variable{j:Nat}
theorem Rel.S4(h:Rel E w0 G0 st a w G){x:cU}{hd hd':R0}(hj:G.g[j]? = iN (x,hd))(Ck:∀c,(j,c)∉st.c)(hsz:w.heap.size<=w'.heap.size)(h1:w'.os=w.os)(h2:w'.tape=w.tape)(h3:w'.output=w.output)
  (o9:∀b,b<w.heap.size->hd.ownBlock≠iN b->w'.heap[b]? = w.heap[b]?) (hcells:∀b o v,G.pr b o->w.cell? ⟨b,o,iF⟩=iN v->w'.cell? ⟨b,o,iF⟩=iN v)
  (mP:Nat->Nat->Prop) (hp:∀b o,G.pr b o->mP b o) (Ix:∀b o,mP b o->G.pr b o\/hd'.ownBlock=iN b)
  (hok:zS E w' {G with pr:=mP} {x with aF:=x.aF+1} hd') (hblk:∀b,hd'.ownBlock=iN b->w.heap.size<=b\/hd.ownBlock=iN b) :
  Rel E w0 G0 {st with g:=st.g.set j {x with aF:=x.aF+1}} a w' {G with g:=G.g.set j ({x with aF:=x.aF+1},hd'),pr:=mP}:=by
 obtain⟨n0,xs0,-,-,hhd⟩:=h.boxes.grow j x hd hj;have at':∀(m:Nat) y z,(G.g.set j ({x with aF:=x.aF+1},hd'))[m]? = iN (y,z)->(m=j/\y={x with aF:=x.aF+1}/\z=hd')\/(m≠j/\G.g[m]? = iN (y,z)):=by grind
 have hg:jc w G w' {G with g:=G.g.set j ({x with aF:=x.aF+1},hd'),pr:=mP}:=by refine⟨hp,hcells,λ_ _ h=>h,λm y z hm=>?_⟩;grind
 have Qs:=λb hb e=>(hhd b e).2.1 hb;have ev:=h.fH;have hrow:∀b,b<w0.heap.size->hd.ownBlock=iN b->G0.rows b:=λb hb e=>by
  rcases ev.iB j x hd b hj e with q|⟨y,z,q1,q2⟩
  .omega
  .exact⟨y,z,jQ q1,q2⟩
 have ar0:=h.gU.keep hg λm y z hm hc=>by
  have hne:m≠j:=λe=>by simp_all
  obtain⟨n,xs,-,-,hq⟩:=h.boxes.grow m y z hm;refine⟨y,by grind,rfl,rfl,λb hb=>⟨o9 b (hq b hb).1 (λe=>hne (h.boxes.apart m j y z x hd b hm hj hb e)),λo uv=>?_⟩⟩;rcases Ix b o uv with q|q
  .exact q
  .rcases hblk b q with q'|q'
   .grind
   .exact(hne (h.boxes.apart m j y z x hd b hm hj hb q')).elim
 refine⟨⟨h1.trans ev.os,h2.trans ev.tape,h3.trans ev.output,jR ev.size hsz,λb hb hn=>?_,ev.goes.trans hg,λb o hb uv=>?_,ev.sF,λm y z b hm hb=>?_⟩,h.size,
  λm d hm=>(h.tmps m d hm).mono hg,h.defers.mono hg,?_,λr b hb hd=>(o9 b (h.boxes.lt b (jQ (ev.goes.i r b hb))) (Qs b (jQ (ev.goes.i r b hb)))).trans (h.fix r b hb hd),h.pins,ar0⟩
 .rw[o9 b (kF hb ev.size) (λe=>hn (.inr (hrow b hb e)))];exact ev.old b hb hn
 .rcases Ix b o uv with q|q
  .exact ev.pN b o hb q
  .rcases hblk b q with q'|q'
   .have:=ev.size;omega
   simp_all
 .rcases at' m y z hm with⟨rfl,-,rfl⟩|⟨-,q⟩
  .rcases hblk b hb with q|q
   .exact .inl (jR ev.size q)
   .exact ev.iB m x hd b hj q
  .exact ev.iB m y z b q hb
 refine⟨h.boxes.len,?_,λr b y hb hy=>?_,λb hb=>kF (h.boxes.lt b hb) hsz,h.boxes.nodup,λb o uv=>?_,λm y z hm=>?_,λm m' y z y' z' b hm hm' hb hb'=>?_⟩
 .rw[<-h.boxes.gs,abG]
 .have hm:=jQ hb;exact(h.boxes.box r b y hb hy).mono hg (o9 b (h.boxes.lt b hm) (Qs b hm))
 .rcases Ix b o uv with q|q
  .exact⟨kF (h.boxes.gT b o q).1 hsz,(h.boxes.gT b o q).2⟩
  .obtain⟨n,xs,-,-,hq⟩:=hok;simp_all
 .rcases at' m y z hm with⟨-,rfl,rfl⟩|⟨hne,q⟩
  .exact hok
  .obtain⟨n,xs,ho,hz,hq⟩:=h.boxes.grow m y z q;refine⟨n,xs,⟨ho.1,?_⟩,hz,λb hb=>?_⟩
   .rcases ho.2 with q2|⟨g,cap,cur,q2,q3,q4,q5⟩
    .exact .inl q2
    .have wY:z.ownBlock=iN g:=by rw[q2];rfl
     refine .inr ⟨g,cap,cur,q2,q3,?_,q5⟩;rw[o9 g (hq g wY).1 (λe=>hne (h.boxes.apart m j y z x hd g q hj wY e))];exact q4
   .obtain⟨p1,p2,p3⟩:=hq b hb;refine⟨kF p1 hsz,p2,λo ho' uv=>?_⟩;rcases Ix b o uv with q'|q'
    .exact p3 o ho' q'
    .rcases hblk b q' with Qt|Qt
     .omega
     .exact hne (h.boxes.apart m j y z x hd b q hj hb Qt)
 .have key:∀(m:Nat) y z,m≠j->G.g[m]? = iN (y,z)->z.ownBlock=iN b->hd'.ownBlock=iN b->False:=by
   intro m y z hne q hb hb';obtain⟨n,xs,-,-,hq⟩:=h.boxes.grow m y z q;rcases hblk b hb' with Qt|Qt
   .grind
   .exact hne (h.boxes.apart m j y z x hd b q hj hb Qt)
  rcases at' m y z hm with⟨e1,-,e2⟩|⟨hne,q⟩<;>rcases at' m' y' z' hm' with⟨e1',-,e2'⟩|⟨am6,q'⟩
  .rw[e1,e1']
  .grind
  .grind
  .exact h.boxes.apart m m' y z y' z' b q q' hb hb'
theorem Qu{l n:Nat}(hj:j<n)(hl:l<k):j*k+l<n*k:=by have:=AK k hj;grind
variable{pr:Nat->Nat->Prop}{xs:J R0}{es fs:J (J DV)}
theorem Flat.append{ys:J R0}(h:Flat w pr k xs es)(h':Flat w pr k ys fs):Flat w pr k (xs++ys) (es++fs):=by
 have e1:∀j,j<Sx es->(es++fs).getD j []=es.getD j []:=λj hj=>by grind
 have e2:∀j,¬ j<Sx es->(es++fs).getD j []=fs.getD (j-Sx es) []:=λj hj=>by grind
 refine⟨by simp[h.1,h'.1,SD],λj hj=>?_,λj l hj hl=>?_⟩
 .by_cases hlt:j<Sx es
  .rw[e1 j hlt];exact h.2.1 j hlt
  .rw[e2 j hlt];exact h'.2.1 _ (by simp at hj;omega)
 .by_cases hlt:j<Sx es
  .have hq:j*k+l<Sx xs:=by rw[h.1];exact Qu hlt hl
   have:(xs++ys).getD (j*k+l) H5=xs.getD (j*k+l) H5:=by grind
   rw[this,e1 j hlt];exact h.2.2 j l hlt hl
  .have hge:=Nat.le_of_not_lt hlt;have hq:Sx es*k<=j*k+l:=jR (AK k hge) (Nat.le_add_right _ _);have hsub:j*k+l-Sx es*k=(j-Sx es)*k+l:=by rw[Nat.sub_mul];have:=AK k hge;omega
   have:(xs++ys).getD (j*k+l) H5=ys.getD ((j-Sx es)*k+l) H5:=by simp;rw[KX (by rw[h.1];exact hq),h.1,hsub]
   rw[this,e2 j hlt];exact h'.2.2 (j-Sx es) l (by simp at hj;omega) hl
theorem Flat.nil:Flat w pr k [] []:=⟨si,λj hj=>by simp at hj,λj l hj=>by simp at hj⟩
theorem Flat.one(hk0:0<k)(h:Flat w pr k xs es):∀u,u∈xs->u.oneCell'=eQ:=by
 intro u hu;obtain⟨q,hq,rfl⟩:=ko hu;have VV:q<Sx es*k:=by rw[<-h.1];exact hq
 have:=(h.2.2 (q / k) (q%k) ((ahE hk0).2 VV) (abH _ hk0)).one;rw[show q / k*k+q%k=q by have:=Nat.div_add_mod q k;grind]at this;simp_all
theorem Qv{b cap:Nat}(hcap:Sx es<=cap)
  (hx:∀q,q<Sx es*k->pr b q/\w.cell? ⟨b,q,iF⟩=iN (xs.getD q H5)) (h:Flat w pr k xs es) :
  VD w pr (.slice (iN ⟨b,0,iF⟩) es.length cap) (.slice k es):=by
 refine .slice b 0 cap k es (λj l=>xs.getD (j*k+l) H5) hcap h.2.1 (λj l hj hl=>?_) (λj l hj hl=>h.2.2 j l hj hl);simp_all[Qu]
theorem Cl(g:Nat)(t:aK):∀(vs:J R0)(o:Nat)(cur:aJ R0)(w:U),w.heap[g]? = iN (.cells cur t (0,0))->o+Sx vs<=cur.size ->
  w.setCells g o vs=w.setRow g (cur.toList.take o++vs++cur.toList.drop (o+Sx vs)).toArray
 | [],o,cur,w,hg,_=>by simp[World.setCells];grind[setRow_self]|v::rest,o,cur,w,hg,hl=>by simp[World.setCells];rw[setCell_eq_setRow w g o cur t (0,0) v hg];have ih:=Cl g t rest (o+1) (cur.setIfInBounds o v) (w.setRow g (cur.setIfInBounds o v)) (setRow_heap w g cur _ t _ hg) (by simp at hl⊢;omega);rw[ih,setRow_setRow];congr 2;have e:=list_seg_step cur.toList o v rest (by simp at hl⊢;omega);simpa using e
theorem VD.flat{v:R0}(hk:0<k)(h:VD w pr v (.slice k es)):
  ∃xs:J R0,Flat w pr k xs es/\((∃a,v=.slice a 0 0/\es=[])\/∃b off cap,v=.slice (iN ⟨b,off,iF⟩) es.length cap/\es.length<=cap /\
   ∀q,q<Sx es*k->pr b (off+q)/\w.cell? ⟨b,off+q,iF⟩=iN (xs.getD q H5)):=by
 rcases h.xW with⟨ad,rfl,rfl⟩|⟨b,off,cap,c,rfl,hcap,hkk,h0,hv⟩
 .exact⟨[],Flat.nil,.inl ⟨ad,rfl,rfl⟩⟩
 .have Wv:∀q,q<Sx es*k->q / k<Sx es/\q%k<k:=λq hq=>⟨(ahE hk).2 hq,abH q hk⟩;refine⟨(aT (Sx es*k)).map λq=>c (q / k) (q%k),⟨si,hkk,λj l hj hl=>?_⟩,.inr ⟨b,off,cap,rfl,hcap,λq hq=>?_⟩⟩
  .have hlt:=Qu hj hl;simp_all[abq,Nat.mul_add_div,Nat.div_eq_of_lt,ahF]
  .grind[Nat.div_add_mod]
theorem Rel.append(h:Rel E w0 G0 st a w G){t tx ty:aK}{i:TI}{j1 j2:Nat}{z:R0}(ht:aZ P t=iN ⟨.slice e,j1,j2,z⟩)(hi:aZ P e=iN i)
  (hk0:0<i.size) (hzs:i.zero.cells.size=i.size)  {x:cU} {v:R0} (hj:G.g[j]? = iN (x,v)) (Ck:∀c,(j,c)∉st.c) (sw:x.e=e) (hxk:x.k=i.size) 
  (hv:VD w G.pr v (.slice i.size es)) {y:R0} {news:J R0} (hsrc:Src P i.size tx y fs.length news w) (hf:Flat w G.pr i.size news fs)
  (h63:Sx es+Sx fs<=maxLen) (hbytes:(Sx es+Sx fs)*i.bytes<=140737488355328) :
  ∃v' w' mP,(Builtin.append_ #[t,tx] ty #[v,y]).run P w=.ok v' w' /\
   Rel E w0 G0 {st with g:=st.g.set j {x with aF:=x.aF+1}} a w' {G with g:=G.g.set j ({x with aF:=x.aF+1},v'),pr:=mP} /\
   VD w' mP v' (.slice i.size (es++fs)):=by
 obtain⟨xt,kI,eL,-⟩:=aS ht;obtain⟨xe,Qw,Ci,hsz,hby,hz⟩:=aS hi;obtain⟨n,xs,ho,Qx,hg⟩:=h.boxes.grow j x v hj;obtain⟨xs',hfl,Au⟩:=hv.flat hk0;have ao8:maxLen=9223372036854775807:=rfl;subst sw;rw[hxk]at ho hg;by_cases hm:Sx fs=0
 .have hfs:fs=[]:=H8 hm;subst hfs;have hnn:news=[]:=H8 (by simpa using hf.1);subst hnn;refine⟨v,w,G.pr,?_,h.S4 hj Ck (eE _) rfl rfl rfl (λ_ _ _=>rfl) (λ_ _ _ _ h=>h) G.pr (λ_ _ h=>h) (λ_ _ h=>.inl h) ?_ (λb hb=>.inr hb),by simp_all⟩
  .have GQ:Src P xe.size tx y 0 [] w:=by rw[hsz];exact hsrc
   rcases Au with⟨ad,rfl,-⟩|⟨b,off,cap,rfl,hcap,-⟩
   .exact run_append_nothing w t tx ty x.e xe eL Qw ad 0 0 (eE _) y GQ
   .exact run_append_nothing w t tx ty x.e xe eL Qw _ _ _ hcap y GQ
  .exact⟨n,xs,by simp_all,Qx,by simp_all⟩
 have GQ:Src P xe.size tx y fs.length news w:=by rw[hsz];exact hsrc
 have hzl:∀c,(Builtin.zeroCells i.zero.cells c).size=c*i.size:=λc=>by rw[size_zeroCells,hzs]
 have L6:=hfl.append hf;have hlen:(es++fs).length=Sx es+Sx fs:=by simp
 have grow:∀(base:O Addr)(old:Nat),v=.slice base es.length old->old<Sx es+Sx fs ->
   (Builtin.firstCells xe.size es.length (.slice base es.length old)).run P w.drew=.ok xs'.toArray w.drew ->
   ∃v' w' mP,(Builtin.append_ #[t,tx] ty #[v,y]).run P w=.ok v' w' /\
   Rel E w0 G0 {st with g:=st.g.set j {x with aF:=x.aF+1}} a w' {G with g:=G.g.set j ({x with aF:=x.aF+1},v'),pr:=mP} /\
   VD w' mP v' (.slice i.size (es++fs)):=by
  intro base old hv0 hlt hfc;have hfit:=growslice_fits (need:=Sx es+Sx fs) (old:=old) (bytes:=xe.bytes) hlt (by rw[hby];exact hbytes);have hr:=run_append_grow_src (P:=P) w t tx ty x.e xe i.zero eL Qw hz base es.length old xs' hfc y fs.length news GQ hlt (by grind) hfit;have hge:=grownCap_ge w (Sx es+Sx fs) old x.e;have hcm:=grownCap_le_maxLen w (Sx es+Sx fs) old x.e h63;generalize hcap:grownCap w (Sx es+Sx fs) old x.e=cap at hr hge hcm;generalize hcs:(xs'++news).toArray++Builtin.zeroCells i.zero.cells (cap-(Sx es+Sx fs))=cs at hr;have am7:cs.size=cap*i.size:=by rw[<-hcs,ahs,aht,L6.1,hzl,hlen,<-SD];congr 1;omega
  have hheap:(w.drew.alloc (.cells cs x.e)).heap=w.heap.push (.cells cs x.e):=rfl;have hnew:(w.drew.alloc (.cells cs x.e)).heap[w.heap.size]? = iN (.cells cs x.e):=by rw[hheap];simp
  have hsame:fI w (w.drew.alloc (.cells cs x.e)):=⟨by rw[hheap];simp,λb hb=>by grind⟩;have ac3:∀q,q<(es++fs).length*i.size->(w.drew.alloc (.cells cs x.e)).cell? ⟨w.heap.size,q,iF⟩=iN ((xs'++news).getD q H5):=by
   intro q hq;rw[cell_of_row _ w.heap.size q cs x.e (0,0) hnew];have h1:q<(xs'++news).length:=by rw[L6.1];exact hq
   grind
  refine⟨_,_,λb o=>G.pr b o\/(b=w.heap.size/\o<(es++fs).length*i.size),by rw[hv0];exact hr,?_,?_⟩
  .refine h.S4 hj Ck hsame.1 rfl rfl rfl (λb hb _=>hsame.2 b hb) (λb o u _ hu=>hsame.cell hu) _ (λ_ _ h=>.inl h) (λb o hp=>?_) ?_ (λb hb=>?_)
   .rcases hp with hp|⟨rfl,-⟩
    .exact .inl hp
    .exact .inr rfl
   .refine⟨Sx es+Sx fs,cs.toList.take ((Sx es+Sx fs)*i.size),⟨?_,.inr ⟨w.heap.size,cap,cs,rfl,Nat.zero_le _,hnew,hge,hcm,by simp_all,by dsimp only;rw[hxk]⟩⟩,λa m e=>by simp at e;omega,λb hb=>?_⟩
    .simp_all
    .cases hb;refine⟨by rw[hheap];simp,λhm=>absurd (h.boxes.lt _ hm) (AH _),λo ho' hp=>?_⟩;rcases hp with hp|⟨-,hp⟩
     .exact absurd (h.boxes.gT _ _ hp).1 (AH _)
     .dsimp only at ho';rw[hxk]at ho';rw[hlen]at hp;omega
   .cases hb;simp_all
  .rw[<-hlen];exact Qv (xs:=xs'++news) (by rw[hlen];exact hge) (λq hq=>⟨.inr ⟨rfl,hq⟩,ac3 q hq⟩) (L6.mono (λ_ _ h=>.inl h) (λb o u _ hu=>hsame.cell hu))
 rcases Au with⟨ad,hv0,hes⟩|⟨b,off,cap,hv0,hcap,hcells⟩
 .subst hes;have hx':xs'=[]:=H8 (by simpa using hfl.1);cases ad with|some ad=>refine grow (iN ad) 0 hv0 aM ?_;rw[hx',hsz];exact run_firstCells_some w.drew i.size 0 ad 0 0 [] si (λj u hu=>by simp at hu)|none=>refine grow iF 0 hv0 aM ?_;rw[hx'];simp[Builtin.firstCells]
 .rcases ho.2 with⟨hvn,-⟩|⟨g,cap',cur,hvg,hBg,Ka,awo,hcm,hcs,awp⟩
  .simp_all
  have am8:=hvg;rw[hv0]at am8;simp only[Value.slice.injEq,ahq,Addr.mk.injEq]at am8;obtain⟨⟨rfl,rfl,-⟩,hn,rfl⟩:=am8;by_cases hroom:Sx es+Sx fs<=cap
  .
   have Ww:Sx es*i.size+news.length<=cur.size:=by rw[hf.1,hcs,<-SD];simp_all[AK]
   have hr:=run_append_room_src (P:=P) w t tx ty x.e xe eL Qw b 0 es.length cap y fs.length news GQ hroom
    (λj hj=>by
     rw[cell_of_row w b _ cur x.e (0,0) Ka,hsz]
     grind)
    (λj hj=>frozen_of_row w b _ cur x.e Ka)
   rw[hsz,sC,Cl b x.e news (Sx es*i.size) cur w Ka Ww]at hr;obtain⟨g0,g1,g3⟩:=hg b (by rw[hv0];rfl)
   let cur':=(cur.toList.take (Sx es*i.size)++news++cur.toList.drop (Sx es*i.size+news.length)).toArray
   have awq:cur'.size=cur.size:=by grind
   have hhb:(w.setRow b cur').heap[b]? = iN (.cells cur' x.e (0,0)):=setRow_heap w b cur _ x.e _ Ka;have FR:∀b',b'≠b->(w.setRow b cur').heap[b']? = w.heap[b']?:=λb' hb'=>setRow_other w b b' _ hb';have avp:xs'=cur.toList.take (Sx es*i.size):=by
    have hl1:xs'.length=(cur.toList.take (Sx es*i.size)).length:=by rw[hfl.1,pX,show cur.toList.length=cur.size from abI,hcs];simp_all
    refine BG hl1 λq h1 h2=>?_;have hq:q<Sx es*i.size:=by rw[<-hfl.1];exact h1
    have hc:=(hcells q hq).2;rw[sC,cell_of_row w b q cur x.e (0,0) Ka]at hc;grind
   have aiu:cur'.toList=(xs'++news)++cur.toList.drop (Sx es*i.size+news.length):=by grind
   have hgc:∀o u,G.pr b o->w.cell? ⟨b,o,iF⟩=iN u->(w.setRow b cur').cell? ⟨b,o,iF⟩=iN u:=by intro o u hp hu;rw[cell_of_row _ b o cur' x.e (0,0) hhb];grind
   have pn:∀b' o u,G.pr b' o->w.cell? ⟨b',o,iF⟩=iN u->(w.setRow b cur').cell? ⟨b',o,iF⟩=iN u:=by
    intro b' o u hp hu;by_cases he:b'=b
    .simp_all
    .rw[SC (FR b' he)];exact hu
   have ac3:∀q,q<(es++fs).length*i.size->(w.setRow b cur').cell? ⟨b,q,iF⟩=iN ((xs'++news).getD q H5):=by
    intro q hq;rw[cell_of_row _ b q cur' x.e (0,0) hhb];have h1:q<(xs'++news).length:=by rw[L6.1];exact hq
    grind
   refine⟨_,_,λb' o=>G.pr b' o\/(b'=b/\o<(es++fs).length*i.size),by rw[hv0];exact hr,?_,?_⟩
   .refine h.S4 (w':=w.setRow b cur') hj Ck si rfl rfl rfl (λb' _ hne=>FR b' (λe'=>hne (by rw[hv0,e'];rfl))) pn (λb' o=>G.pr b' o\/(b'=b/\o<(es++fs).length*i.size)) (λ_ _ h=>.inl h) (λb' o hp=>?_) ?_ (λb' hb'=>.inr (by rw[hv0];exact hb'))
    .rcases hp with hp|⟨rfl,-⟩
     .exact .inl hp
     .exact .inr rfl
    .refine⟨Sx es+Sx fs,xs'++news,⟨by dsimp only;rw[L6.1,hlen,hxk],.inr ⟨b,cap,cur',rfl,hBg,hhb,hroom,hcm,by simp_all,?_⟩⟩,λa m e=>by simp at e;omega,λg' hg'=>?_⟩
     .dsimp only;rw[hxk,aiu,<-hlen,<-L6.1,List.take_left]
     .cases hg';grind
   .rw[show es.length+Sx fs=(es++fs).length from hlen.symm];exact Qv (xs:=xs'++news) (by rw[hlen];exact hroom) (λq hq=>⟨.inr ⟨rfl,hq⟩,ac3 q hq⟩) (L6.mono (λ_ _ hp=>.inl hp) pn)
  .refine grow _ cap hv0 om ?_;rw[hsz];refine run_firstCells_some w.drew i.size es.length ⟨b,0,iF⟩ es.length cap xs' hfl.1 (λj u hu=>?_);have hj:j<xs'.length:=(fD.1 hu).1;have:=(hcells j (by rw[<-hfl.1];exact hj)).2;simp_all[add_lit]
end Go.RT
namespace Go.RT
variable {E : TEnv}
theorem Flat.YN{w:U}{pr:Nat->Nat->Prop}{k:Nat}:∀ {rows:J (J R0)}{es:J (J DV)},rows.length=Sx es->(∀j,j<Sx es->(es.getD j []).length=k) ->
  (∀j,j<Sx es->LD w pr (rows.getD j []) (es.getD j []))->Flat w pr k rows.flatten es
 | [],[],_,_,_=>Flat.nil|r::rows,e::es,hl,hk,h=>by
  have h0:=h 0 si;have hk0:=hk 0 si;simp at h0 hk0;have ih:=Flat.YN (by simpa using hl) (λj hj=>by simpa using hk (j+1) (by simpa using hj)) (λj hj=>by simpa using h (j+1) (by simpa using hj));have h1:Flat w pr k r [e]:=by
   refine⟨by simp[h0.length,hk0],λj hj=>?_,λj l hj hl'=>?_⟩
   .simp_all
   .have:∀ {vs:J R0}{ds:J DV}(l:Nat),LD w pr vs ds->l<Sx ds->VD w pr (vs.getD l H5) (ds.getD l default):=by
     intro vs
     induction vs with
     | nil=>intro ds l h hl;cases ds with|nil=>simp at hl|cons _ _=>exact h.elim
     | cons v vs ih=>
      intro ds l h hl;cases ds with
      | nil=>exact h.elim|cons d ds=>cases l with|zero=>simpa using h.1|succ l=>simpa using ih l h.2 (by simpa using hl)
    simp_all
  have:=h1.append ih;simpa using this
 | [],_::_,hl,_,_=>by simp at hl|_::_,[],hl,_,_=>by simp at hl
variable{w:U}{G:bC}{T:Ty}{v:R0}
theorem VT.Qy{x:T.den E.D}(h:VT E w G (.dat T x) v):LD w G.pr v.cells.toList (T.cells E x):=by
 cases ha:T.isAgg
 .have h0:=h.atom ha;have h1:=h0.one v si;have:v.cells=#[v]:=by cases v<;>first|rfl|cases h1
  rw[this];exact h0
 .obtain⟨vs,rfl,h0⟩:=h.ais ha;exact h0
def pO(T:Ty):J (TV E)->O (J (T.den E.D))
 | []=>iN []|d::ds=>match d.get T,pO T ds with
  | some x,iN xs=>iN (x::xs)|_,_=>iF
theorem L7{T:Ty}:∀ {ds:J (TV E)}{xs:J (T.den E.D)},pO T ds=iN xs->Sx xs=Sx ds
 | [],xs,h=>by cases h;rfl
 | d::ds,xs,h=>by
  simp[pO]at h;split at h<;>try trivial
  rename_i x xs' h1 h2;cases h;simp[L7 h2]
variable{P:bw}{w0 w':U}{G0 G':bC}{st:TS E}{a:Act}{o:H2}{k:Nat}{x:dJ}{cs:J (TV E)}{e:aK}{n cap:Nat}{cur:aJ R0}{xs:J (T.den E.D)}{parts:aJ (Nat×dJ)}{j1 j2:Nat}{z:R0}{ie:TI}{y:dJ}{tx:aK}{ix:TI}{j:Nat}{ys:J (T.den E.D)}{g:cU}{news:J R0}
theorem Wx(hr:Rel E w0 G0 st a w G){T:Ty}:∀ {l:J dJ}{xs:J (T.den E.D)},pO T (l.map st.ev)=iN xs ->
  ∀j,j<Sx l->LD w G.pr ((l.map λx=>(a.eval x).cells.toList).getD j []) ((xs.map (T.cells E)).getD j [])
 | [],xs,_,j,hj=>by simp at hj|x::l,xs,h,j,hj=>by
  simp[pO]at h;split at h<;>try trivial
  rename_i y ys h1 h2;cases h;cases j with|zero=>simpa using(TV.vW h1 (hr.ev x)).Qy|succ j=>simpa using Wx hr h2 j (by simpa using hj)
theorem aiv(hr:Rel E w0 G0 st a w G){t:aK}{i:TI}(ho:o.op=.alloc t)(ht:aZ P t=iN i)(hz:i.zero.cells.toList.all (·.oneCell')=eQ):
  kG P w0 G0 a w o {st with t:=cE st.t o.dst (.ptr st.H.length 0),H:=st.H++[.cells t (i.zero.cells.toList.map TV.L3)]}:=by
 refine Ld (ob:=.cells i.zero.cells t) hr ?_ ?_
 .exact⟨i.zero.cells,heap_alloc_new w _,λu hu=>pW.1 hz u (by simpa using hu),bO.ofValues⟩
 .simp[M2,ho,Instr.alloc,oC ht];rfl
theorem am9(hE:E.Ok)(hr:Rel E w0 G0 st a w G){t:aK}(ho:o.op=.box t x)(hc:(st.ev x).qt=iN cs):
  kG P w0 G0 a w o {st with t:=cE st.t o.dst (.ptr st.H.length 0),H:=st.H++[.cells t cs]}:=by
 obtain⟨h1,h2⟩:=uq hE (hr.ev x) hc;refine Ld (ob:=.cells (a.eval x).cells t) hr ?_ ?_
 .have hg:jc w G (w.alloc (.cells (a.eval x).cells t)) G:=⟨λ_ _ h=>h,λb o v _ hv=>(fI.alloc w _).cell hv,λ_ _ h=>h,λj x y hj=>⟨x,y,hj,eE _,λ_=>rfl⟩⟩;exact⟨(a.eval x).cells,heap_alloc_new w _,h2,h1.mono hg⟩
 .simp[M2,ho];rfl
theorem Rel.ar1(h:Rel E w0 G0 st a w G)(hsz:cur.size=cap*k)(hn:n<=cap)(hc0:0<cap)(hcap:cap<=maxLen)(hk:k=T.size E)(hl:Sx xs=n)
  (hf:Flat w G.pr k (cur.toList.take (n*k)) (xs.map (T.cells E))) (dst:O Nat) :
  ∃G',Rel E w0 G0 {st with t:=cE st.t dst (.cz st.g.length 0 T xs),g:=st.g++[⟨0,e,k⟩]} (a.put dst (.slice (iN ⟨w.heap.size,0,iF⟩) n cap)) (w.alloc (.cells cur e)) G':=by
 have hN:=h.newRow (e:=e) hsz hn hc0 hcap;refine⟨_,hN.put ?_ dst⟩;refine⟨?_,⟨0,e,T.size E⟩,_,?_,eE _,λ_=>rfl⟩
 .have hlm:(xs.map (T.cells E)).length=n:=by simp[hl]
  have:=Qv (w:=w.alloc (.cells cur e)) (pr:=λb o=>G.pr b o\/(b=w.heap.size/\o<n*T.size E)) (b:=w.heap.size) (by rw[hlm];exact hn)
   (λq hq=>by
    simp_all)
   (hf.mono (λ_ _ h=>.inl h) (λb o v _ hv=>(fI.alloc w _).cell hv))
  simp_all
 .have:=h.boxes.gs;grind
theorem Qz{k:Nat}:∀(vs:J R0)(m:Nat)(cells:aJ R0),(∀v,v∈vs->v.cells.size=k)->(m+Sx vs)*k<=cells.size ->
  Instr.fill (λi=>iN (i*k,k)) cells ((List.range' m vs.length).zip vs)=iN (cells.toList.take (m*k)++(vs.map λv=>v.cells.toList).flatten++cells.toList.drop ((m+Sx vs)*k)).toArray
 | [],m,cells,_,_=>by simp[Instr.fill]|v::vs,m,cells,hk,hle=>by
  have hv:=hk v si;have hle':(m+1+Sx vs)*k<=cells.size:=by simp_all[Nat.add_comm,Nat.add_left_comm]
  have hmk:m*k+k<=cells.size:=by grind
  simp[abJ];rw[Qr rfl hv hmk];have hsz:(cells.toList.take (m*k)++v.cells.toList++cells.toList.drop (m*k+v.cells.size)).toArray.size=cells.size:=by grind
  rw[Qz vs (m+1) _ (λu hu=>hk u (by simp[hu])) (by rw[hsz];exact hle')];have hl2:(cells.toList.take (m*k)++v.cells.toList).length=(m+1)*k:=by grind
  rw[aoP (by simp_all),<-hl2,nW];have hd:(cells.toList.take (m*k)++v.cells.toList++cells.toList.drop (m*k+v.cells.size)).drop ((m+1+Sx vs)*k)=cells.toList.drop ((m+(Sx vs+1))*k):=by
   rw[ahG];have h0:(cells.toList.take (m*k)++v.cells.toList).drop ((m+1+Sx vs)*k)=[]:=by simp_all[AK]
   rw[ahA];grind
  simp_all
theorem QA(hE:E.Ok)(hr:Rel E w0 G0 st a w G){t:aK}{len:Nat}(ho:o.op=.buildSlice t len parts)
  (ht:aZ P t=iN ⟨.slice e,j1,j2,z⟩) (hi:aZ P e=iN ie) (h1:parts.toList.map (·.1)=aT len) (h2:len*ie.size<=16777216) (h3:0<ie.size)
    (hk:ie.size=T.size E) (hx:pO T (parts.toList.map λp=>st.ev p.2)=iN xs) :
  ∃cs:aJ R0,(M2 a.eval o).run P w=.ok (.value (.slice (iN ⟨w.heap.size,0,iF⟩) len len)) (w.alloc (.cells cs e))/\cs.size=len*ie.size/\xs.length=len/\Flat w G.pr ie.size (cs.toList.take (len*ie.size)) (xs.map (T.cells E)):=by
 obtain⟨xt,kI,eL,-⟩:=aS ht;obtain⟨xe,sw,Ci,hsz,-⟩:=aS hi;have hlen:parts.toList.length=len:=by simpa using congrArg Sx h1
 let vs:=parts.toList.map λp=>a.eval p.2
 have hvl:Sx vs=len:=by simp[vs,hlen]
 have ac4:=Wx hr (by rw[xu];exact hx);have hxl:=L7 hx;have hrow:(parts.toList.map (·.2)).map (λx=>(a.eval x).cells.toList)=vs.map λv=>v.cells.toList:=by grind[Function.comp_def]
 rw[hrow]at ac4;have Wy:Sx xs=len:=by rw[hxl];simp[hlen]
 have hck:∀j,j<(xs.map (T.cells E)).length->((xs.map (T.cells E)).getD j []).length=ie.size:=λj hj=>by simp_all[Ty.Cd]
 have at5:=Flat.YN (by simp[hvl,Wy]) hck (λj hj=>ac4 j (by simp_all));have hvk:∀v,v∈vs->v.cells.size=ie.size:=by
  intro v hv;obtain⟨j,hj,rfl⟩:=ko hv;have hjl:j<len:=by rw[<-hvl];exact hj
  have:=(ac4 j (by simpa[hlen]using hjl)).length;simp_all
 have awC:(parts.map λ(i,x)=>(i,a.eval x)).toList=(List.range' 0 vs.length).zip vs:=by grind[List.range_eq_range',Array.toList_map]
 let zero:aJ R0:=if len*ie.size=0 then #[]else ie.zero.cells
 let base:aJ R0:=(Array.range (len*ie.size)).map (zero[· % zero.size]!)
 have Dl:base.size=len*ie.size:=by simp[base]
 have ao9:=Qz vs 0 base hvk (by rw[Dl,hvl];simp);have Ir:base.toList.length=base.size:=abI
 let cs:aJ R0:=((vs.map λv=>v.cells.toList).flatten).toArray
 have ar2:Instr.fill (λi=>iN (i*ie.size,ie.size)) base (parts.map λ(i,x)=>(i,a.eval x)).toList=iN cs:=by grind
 have hrun:(M2 a.eval o).run P w=.ok (.value (.slice (iN ⟨w.heap.size,0,iF⟩) len len)) (w.alloc (.cells cs e)):=by
  simp only[M2,ho,Instr.buildSlice,jF,aW eL,kn,fP sw,hsz];rw[if_neg (show ¬ len*ie.size>2^24 by simpa using h2)];have Wz:Instr.fill (λi=>iN (i*ie.size,ie.size)) ((Array.range (len*ie.size)).map (zero[· % zero.size]!)) (parts.map λx=>(x.1,a.eval x.2)).toList=iN cs:=ar2;by_cases h0:len*ie.size=0
  .rw[if_pos h0];have hz:zero=#[]:=by grind
   rw[hz]at Wz;simp only[jF,qw,kn,Wz];rfl
  .rw[if_neg h0];have hz:zero=ie.zero.cells:=by grind
   rw[hz]at Wz;simp only[jF,qw,oC hi,kn,Wz];rfl
 have hcs:cs.size=len*ie.size:=by have:=at5.1;grind
 grind
theorem WA(hE:E.Ok)(hr:Rel E w0 G0 st a w G){t:aK}{len:Nat}(ho:o.op=.buildSlice t len parts)
  (ht:aZ P t=iN ⟨.slice e,j1,j2,z⟩) (hi:aZ P e=iN ie) (h1:parts.toList.map (·.1)=aT len) (h2:len*ie.size<=16777216) (h3:0<ie.size) (h0':0<len)
    (hk:ie.size=T.size E) (hx:pO T (parts.toList.map λp=>st.ev p.2)=iN xs) :
  kG P w0 G0 a w o {st with t:=cE st.t o.dst (.cz st.g.length 0 T xs),g:=st.g++[⟨0,e,ie.size⟩]}:=by
 obtain⟨cs,hrun,hcs,Wy,hfl⟩:=QA hE hr ho ht hi h1 h2 h3 hk hx
 obtain⟨G',hG'⟩:=hr.ar1 hcs (eE _) h0' (by
   have:len<=len*ie.size:=ahv _ h3;have hm:maxLen=9223372036854775807:=rfl;omega) hk Wy hfl o.dst
 exact⟨_,_,_,G',hrun,.inl rfl,hG'⟩
theorem ana(hr:Rel E w0 G0 st a w G){e':aK}(QB:aZ P tx=iN ix)(WB:ix.kind=.slice e')(hk0:0<T.size E)
  (hd:VD w G.pr (a.eval y) (.slice (T.size E) (xs.map (T.cells E)))):∃news,Src P (T.size E) tx (a.eval y) xs.length news w/\Flat w G.pr (T.size E) news (xs.map (T.cells E)):=by
 obtain⟨xt,kI,eL,-⟩:=aS QB;rw[WB]at eL;obtain⟨cs,hfl,Au⟩:=hd.flat hk0;refine⟨cs,?_,hfl⟩;have hone:=hfl.one hk0;have hl:(xs.map (T.cells E)).length=Sx xs:=by simp
 rcases Au with⟨ad,he,hn⟩|⟨b,off,cap,he,hcap,hcells⟩
 .have hx:=H8 (by rw[hfl.1,hn];simp);have hx':xs=[]:=by simpa using hn
  subst hx';rw[he,hx];cases ad with|none=>exact Src.ofNil w eL 0|some ad=>simp_all[Src.ofSlice]
 .rw[he,hl];refine Src.ofSlice w eL _ _ _ cs (by rw[hfl.1,hl]) (λj u hu=>?_) hone;have hj:=(fD.1 hu).1;have:=(hcells j (by rw[<-hfl.1];exact hj)).2;simp_all[add_lit]
def cW(l:J UInt8):J Int:=l.map λb=>(b.toNat:Int)
theorem aiw(hr:Rel E w0 G0 st a w G)(QB:aZ P tx=iN ix)(WB:ix.kind=.string){l:J UInt8}(hd:st.ev y=.dat .str l):
  ∃news,Src P 1 tx (a.eval y) l.length news w/\Flat w G.pr 1 news ((cW l).map (Ty.cells E (.int .u8))):=by
 obtain⟨xt,kI,eL,-⟩:=aS QB;rw[WB]at eL;have hv:=hr.ev y;rw[hd]at hv;rw[hv.iQ];refine⟨byteCells ⟨⟨l⟩⟩,?_,?_⟩
 .exact Src.ofString w eL ⟨⟨l⟩⟩
 .refine⟨by simp[byteCells,cW],λj hj=>?_,λj k hj hk=>?_⟩
  .simp_all[Ty.cells]
  .simp[cW]at hj;obtain rfl:k=0:=om;have e1:(byteCells ⟨⟨l⟩⟩).getD (j*1+0) H5=.int .u8 l[j].toNat:=by simp[byteCells,hj]
   have e2:(((cW l).map (Ty.cells E (.int .u8))).getD j []).getD 0 default=.int .u8 l[j].toNat:=by grind[cW,Ty.cells]
   rw[e1,e2];exact .int _ _
theorem afA(hE:E.Ok)(hr:Rel E w0 G0 st a w G){c:Call}{t:aK}(ho:o.op=.call c)(hcl:c.callee=.builtin .append)
  (ha:c.args.toList=[x,y]) (hat:c.argTypes.toList=[t,tx]) (ht:aZ P t=iN ⟨.slice e,j1,j2,z⟩) (hi:aZ P e=iN ie) {aF:Nat}  
  (hx:st.ev x=.cz j aF T xs)  (hg:st.g[j]? = iN g) (Ck:∀c,(j,c)∉st.c) (ac5:g.aF=aF) (hge:g.e=e) (Cm:g.k=ie.size) (hk:ie.size=T.size E) (hk0:0<ie.size) (hzs:ie.zero.cells.size=ie.size)
  (h63:Sx xs+Sx ys<=9223372036854775807) (hbytes:(Sx xs+Sx ys)*ie.bytes<=140737488355328)
   (hsrc:Src P ie.size tx (a.eval y) ys.length news w) (hf:Flat w G.pr ie.size news (ys.map (T.cells E))) :
  kG P w0 G0 a w o {st with t:=cE st.t o.dst (.cz j (g.aF+1) T (xs++ys)),g:=st.g.set j {g with aF:=g.aF+1}}:=by
 have hU:c.args=#[x,y]:=by grind
 have zJ:c.argTypes=#[t,tx]:=by grind
 have hv:=hr.ev x;rw[hx]at hv;obtain⟨Ce,gx,gh,lI,hle,heq⟩:=hv;have Ka:gx=g:=by have:=hr.boxes.gs;grind
 subst Ka;have mR:=heq ac5.symm;rw[<-mR]at lI;have hl1:(xs.map (T.cells E)).length=Sx xs:=by simp
 have hl2:(ys.map (T.cells E)).length=Sx ys:=by simp
 obtain⟨v',w',mP,hrun,hR,hV⟩:=hr.append ht hi hk0 hzs lI Ck hge Cm
  (by rw[hk];exact Ce) (by rw[hl2];exact hsrc) hf (by rw[hl1,hl2];exact h63) (by simp_all)
 refine⟨.value v',v',w',_,?_,.inl rfl,hR.put ?_ o.dst⟩
 .unfold M2;simp[ho,resolve,hcl,invoke,builtin,hU,zJ];rw[hrun];rfl
 .simp[VT];grind
def UZ:DV->DV->O Bool|.int _ a,.int _ b=>iN (a==b)|.bool a,.bool b=>iN (a==b)|.str a,.str b=>iN (a==b)|_,_=>iF
def tP:J DV->J DV->O Bool
 | [],[]=>iN eQ|a::as,b::bs=>match UZ a b,tP as bs with
  | some p,iN q=>iN (p&&q)|_,_=>iF
 | _,_=>iF
def Kb(P:bw)(t:aK):DV->Bool
 | .int k _=>match P.underlying t with
  | some (.int k')=>eJ (k=k')|_=>eK
 | .bool _=>match P.underlying t with
  | some .bool=>eQ|_=>eK
 | .str _=>match P.underlying t with
  | some .string=>eQ|_=>eK
 | _=>eK
def xX(P:bw):Nat->J Field->J DV->J DV->Bool
 | _,[],[],[]=>eQ|n,f::fs,d::ds,c::cs=>dO f.offset n && !(f.name == "_")&&Kb P f.type d&&Kb P f.type c&&xX P (n+1) fs ds cs
 | _,_,_,_=>eK
variable{pr:Nat->Nat->Prop}{u:R0}
theorem at6{t:aK}{d c:DV}{b:Bool}(hu:VD w pr u d)(hv:VD w pr v c)(hd:Kb P t d=eQ)(hc:Kb P t c=eQ)(h:UZ d c=iN b):
  (∀w',(isAgg t).run P w'=.ok eK w')/\∀w' n,(Op.equalIn (n+1) t u v).run P w'=.ok b w':=by
 unfold UZ at h;split at h<;>try trivial
 .rename_i k a k' a';cases h;cases hu;cases hv;unfold Kb at hd hc;cases ht:P.underlying t with
  | none=>rw[ht]at hd;cases hd
  | some dd=>rw[ht]at hd hc;cases dd<;>simp at hd hc;subst hd;subst hc;exact⟨λw'=>by simp[isAgg,aW ht],λw' n=>run_equalIn_int w' n t _ _ a a' ht⟩
 .rename_i a a';cases h;cases hu;cases hv;unfold Kb at hd;cases ht:P.underlying t with
  | none=>rw[ht]at hd;cases hd
  | some dd=>rw[ht]at hd;cases dd<;>simp at hd;exact⟨λw'=>by simp[isAgg,aW ht],λw' n=>run_equalIn_bool' w' n t a a' ht⟩
 .cases hu;cases hv;unfold Kb at hd;cases ht:P.underlying t with
  | none=>rw[ht]at hd;cases hd
  | some dd=>
   rw[ht]at hd;cases dd<;>simp at hd
   exact⟨λw'=>by simp[isAgg,aW ht],λw' n=>by
    simp_all[run_equalIn_string,mkStr]⟩
theorem ac6{P:bw}{w:U}{pr:Nat->Nat->Prop}{xs ys:aJ R0}:∀(fs:J Field)(n:Nat)(as bs:J R0)(ds cs:J DV)(b:Bool),(∀j:Nat,xs[n+j]? = as[j]?)->(∀j:Nat,ys[n+j]? = bs[j]?) ->
  LD w pr as ds->LD w pr bs cs->xX P n fs ds cs=eQ->tP ds cs=iN b->∀w' d,(Op.eqFields (d+1) xs ys fs).run P w'=.ok b w'
 | [],n,as,bs,[],[],b,_,_,_,_,_,h,w',d=>by cases h;simp[Op.eqFields]
 | f::fs,n,a::as,b'::bs,dd::ds,c::cs,b,hx,hy,hA,hB,hf,h,w',d=>by
  simp only[xX,cH]at hf;obtain⟨⟨⟨⟨f1,f2⟩,f3⟩,f4⟩,f5⟩:=hf;have f1:=fm f1;have f2:f.name ≠ "_" := by simpa using f2
  unfold tP at h;cases h1:UZ dd c with
  | none=>rw[h1]at h;cases h
  | some p=>
   cases h2:tP ds cs with
   | none=>rw[h1,h2]at h;cases h
   | some q=>
    rw[h2]at h;obtain⟨g1,g2⟩:=at6 hA.1 hB.1 f3 f4 h1;have hx0:xs[f.offset]? = iN a:=by rw[f1];simpa using hx 0
    have hy0:ys[f.offset]? = iN b':=by rw[f1];simpa using hy 0
    have px:∀w',(part f.type xs f.offset).run P w'=.ok a w':=λw'=>by simp[part,g1,hx0]
    have py:∀w',(part f.type ys f.offset).run P w'=.ok b' w':=λw'=>by simp[part,g1,hy0]
    have ih:=ac6 fs (n+1) as bs ds cs q (λj=>by have:=hx (j+1);rw[show n+(j+1)=n+1+j by omega]at this;simpa using this) (λj=>by have:=hy (j+1);rw[show n+(j+1)=n+1+j by omega]at this;simpa using this) hA.2 hB.2 f5 h2 w' d;simp[Op.eqFields];simp[px,py,g2];grind
 | [],_,_,_,_::_,_,_,_,_,_,_,hf,_,_,_=>by simp[xX]at hf|[],_,_,_,[],_::_,_,_,_,_,_,hf,_,_,_=>by simp[xX]at hf|_::_,_,_,_,[],_,_,_,_,_,_,hf,_,_,_=>by simp[xX]at hf|_::_,_,_,_,_::_,[],_,_,_,_,_,hf,_,_,_=>by simp[xX]at hf|_::_,_,[],_,_::_,_::_,_,_,_,hA,_,_,_,_,_=>hA.elim|_::_,_,_::_,[],_::_,_::_,_,_,_,_,hB,_,_,_,_=>hB.elim
def eqX(P:bw)(t:aK)(yc:Bool)(x y:TV E):Option Bool:=
 match aZ P t,x,y with
 | some ⟨.bool,_,_,_⟩,.dat .bool a,.dat .bool b=>iN (a==b)|some ⟨.pointer _,_,_,_⟩,.rF c _ _,.val (.pointer iF)=>iN (!c)|some ⟨.pointer _,_,_,_⟩,.ptr _ _,.val (.pointer iF)=>iN eK|some ⟨.pointer _,_,_,_⟩,.uk _ _ _,.val (.pointer iF)=>iN eK|some ⟨.pointer _,_,_,_⟩,.val (.pointer iF),.val (.pointer iF)=>iN eQ|some ⟨.pointer e,_,_,_⟩,.rF c r off,.ptr r' off'=>cond (dO r r'&&dO off off') (match aZ P e with|some _=>iN c|none=>iF) iF
 | some ⟨.interface _,_,_,_⟩,.iface _ _,.val .nilIface=>iN eK|some ⟨.interface _,_,_,_⟩,.val .nilIface,.val .nilIface=>cond yc (iN eQ) iF|some ⟨.struct fs,_,_,_⟩,.dat a x,.dat b y=>cond (a.isAgg&&b.isAgg && !(P.stoodInHeld t) && !(P.eqGuardType P.depth t)&&xX P 0 fs.toList (a.cells E x) (b.cells E y)) (tP (a.cells E x) (b.cells E y)) iF|_,_,_=>iF
def isConst:dJ->Bool|.const _=>eQ|_=>eK
def GR(op:BinOp)(b:Bool):Bool:=match op with|.eql=>b|_=>!b
theorem Tv(a:Addr)(w:U):(sameAddr a a).run P w=.ok eQ w:=by simp[sameAddr]
theorem wA{t:aK}{b:Bool}{op:BinOp}(hop:op=.eql\/op=.neq)(h2:∀w' d,(Op.equalIn (d+1) t u v).run P w'=.ok b w':=by intro w' d;simp[Op.equalIn,aW eL])
  (h1:∀w',(eqGuard op t x y u v).run P w'=.ok () w':=by intro w';rcases hop with rfl|rfl<;>rfl) (h3:∀op',op'=.eql\/op'=.neq->binOp op' t u v=(do let r <-Op.equal t u v;pure (.bool (GR op' r))):=by intro op' h;rcases h with rfl|rfl<;>rfl) (w':U) :
  (do eqGuard op t x y u v;binOp op t u v).run P w'=.ok (.bool (GR op b)) w':=by
 simp only[jF,h1,kn,h3 op hop,Op.equal,Op.maxDepth,h2 w' 9999,qw]
theorem aaa{t:aK}{du dv:TV E}{b:Bool}
  (hu:VT E w G du u) (hv:VT E w G dv v) (h:eqX P t (isConst y) du dv=iN b) (op:BinOp) (hop:op=.eql\/op=.neq) :
  ∀w',(do eqGuard op t x y u v;binOp op t u v).run P w'=.ok (.bool (GR op b)) w':=by
 unfold eqX at h;split at h<;>try trivial
 .rename_i j1 j2 z a c ht;cases h;obtain⟨xt,kI,eL,-⟩:=aS ht;rw[hu.nE,hv.nE]at *;exact wA hop
 .rename_i e j1 j2 z c r off ht;cases h;obtain⟨xt,kI,eL,-⟩:=aS ht;cases c<;>simp only[VT]at hu hv
  .subst hu;subst hv;exact wA hop
  .obtain⟨b,rfl,-⟩:=hu;subst hv;exact wA hop
 .rename_i e j1 j2 z r off ht;cases h;obtain⟨xt,kI,eL,-⟩:=aS ht;simp only[VT]at hu hv;obtain⟨b,rfl,-⟩:=hu;subst hv;exact wA hop
 .rename_i e j1 j2 z T y' off ht;cases h;obtain⟨xt,kI,eL,-⟩:=aS ht;simp only[VT]at hu hv;obtain⟨b,o,c,rfl,-⟩:=hu;subst hv;exact wA hop
 .rename_i e j1 j2 z ht;cases h;obtain⟨xt,kI,eL,-⟩:=aS ht;simp only[VT]at hu hv;subst hu;subst hv;exact wA hop
 .rename_i e j1 j2 z c r off r' off' ht;obtain⟨xt,kI,eL,-⟩:=aS ht;cases hb:(dO r r'&&dO off off')<;>rw[hb]at h<;>simp only[aQ,aI]at h
  .cases h
  rw[cH]at hb;obtain rfl:=fm hb.1;obtain rfl:=fm hb.2;split at h<;>try trivial
  rename_i ie Wn;cases h;obtain⟨xe,sw,-⟩:=aS Wn;cases b<;>simp only[VT]at hu hv
  .obtain⟨b,rfl,-⟩:=hv;subst hu;exact wA hop
  .obtain⟨b,rfl,h1⟩:=hu;obtain⟨b',rfl,h2⟩:=hv;rw[h1]at h2;cases h2;exact wA hop (λw' d=>by simp[Op.equalIn,aW eL,sizeOf,typeInfo,sw,Tv])
 .rename_i ms j1 j2 z ty d ht;cases h;obtain⟨xt,kI,eL,-⟩:=aS ht;simp only[VT]at hu hv;obtain⟨u',rfl,-⟩:=hu;subst hv;exact wA hop
 .rename_i ms j1 j2 z ht;obtain⟨xt,kI,eL,-⟩:=aS ht;simp only[VT]at hu hv;subst hu;subst hv;cases hc:isConst y<;>rw[hc]at h<;>simp only[aQ,aI]at h
  .cases h
  cases h;have hcy:∃c,y=.const c:=by unfold isConst at hc;grind
  obtain⟨c,rfl⟩:=hcy;exact wA hop (h1:=λw'=>by rcases hop with rfl|rfl<;>simp[eqGuard])
 .rename_i fs j1 j2 z a x' b' y' ht;obtain⟨xt,kI,eL,-⟩:=aS ht;cases hb:(a.isAgg&&b'.isAgg && !(P.stoodInHeld t) && !(P.eqGuardType P.depth t)&&xX P 0 fs.toList (a.cells E x') (b'.cells E y'))<;>rw[hb]at h<;>simp only[aQ,aI]at h
  .cases h
  simp only[cH,wL]at hb;obtain⟨⟨⟨⟨a1,a2⟩,a3⟩,a4⟩,a5⟩:=hb;simp only[VT,a1]at hu;simp only[VT,a2]at hv;obtain⟨us,rfl,hu⟩:=hu;obtain⟨vs,rfl,hv⟩:=hv;have hfs:P.fieldsOf t=fs:=by unfold Program.fieldsOf;rw[eL]
  intro w';have he:(Op.equalIn 10000 t (.agg us) (.agg vs)).run P w'=.ok b w':=by grind[run_equalIn_struct,ac6]
  rcases hop with rfl|rfl
  .simp only[jF,run_eqGuard_agg w' .eql t x y us vs a4,kn,run_eql_struct,he];rfl
  .simp only[jF,run_eqGuard_agg w' .neq t x y us vs a4,kn,run_neq_struct,he];rfl
def zV(E:TEnv)(ty:O Ty):R0->TV E|.agg cs=>S2 E ty (cs.toList.map TV.L3)|v=>.L3 v
def YO(E:TEnv)(ty:aK->O Ty)(asserted:aK)(i:TI)(ok:Bool)(d:TV E):O (TV E):=match i.kind,d with|.interface _,_=>iF|_,.iface t v=>cond (dO t asserted) (iN (cond ok (.tuple [v,.dat .bool eQ]) v)) (cond ok (iN (.tuple [zV E (ty asserted) i.zero,.dat .bool eK])) iF)|_,.val .nilIface=>cond ok (iN (.tuple [zV E (ty asserted) i.zero,.dat .bool eK])) iF|_,_=>iF
def WC(P:bw)(ty:aK->O Ty)(st:TS E):Op->O (Bool×TV E)
 | .binOp op t x y _=>match op,eqX P t (isConst y) (st.ev x) (st.ev y)with
  | .eql,iN b=>iN (eQ,.dat .bool b)|.neq,iN b=>iN (eQ,.dat .bool (!b))|_,_=>iF
 | .typeAssert x _ asserted ok=>match aZ P asserted with
  | some i=>match YO E ty asserted i ok (st.ev x)with
   | some d=>iN (i.zero.cells.toList.all (·.oneCell'),d)
   | none=>iF
  | none=>iF
 | .call c=>match c.callee,c.args.toList,c.argTypes.toList with
  | .builtin .max,[x,y],_=>match st.ev x,st.ev y with
   | .dat (.int k) a,.dat (.int _) b=>iN (eQ,.dat (.int k) (cond (eJ (a<b)) b a))|_,_=>iF
  | .builtin .min,[x,y],_=>match st.ev x,st.ev y with
   | .dat (.int k) a,.dat (.int _) b=>iN (eQ,.dat (.int k) (cond (eJ (b<a)) b a))|_,_=>iF
  | .builtin .unsafeSliceData,[x],_=>match st.ev x with
   | .cz j aF (.int .u8) xs=>match st.g[j]? with
    | some g=>iN (dO g.aF aF && !(E.zc g.e),.Ua j aF xs)|none=>iF
   | _=>iF
  | _,_,_=>iF
 | _=>iF
variable{ty:aK->O Ty}
theorem S5(hE:E.Ok){ty:O Ty}(h:z.cells.toList.all (·.oneCell')=eQ):VT E w G (zV E ty z) z:=by cases z with|agg cs=>exact Lc hE bO.ofValues (λu hu=>pW.1 h u hu)|_=>simp_all[zV,acY]
theorem ac7(hE:E.Ok)(hr:Rel E w0 G0 st a w G){xt t:aK}{ok:Bool}{i:TI}{d:TV E}(ho:o.op=.typeAssert x xt t ok)(ht:aZ P t=iN i)(h:YO E ty t i ok (st.ev x)=iN d)
  (hz:i.zero.cells.toList.all (·.oneCell')=eQ):jW P a w G o d:=by
 have hv:=hr.ev x;obtain⟨xi,hxi,eL,-⟩:=aS ht;have hzv:=S5 (w:=w) (G:=G) hE (ty:=ty t) hz;have dI:∀(u:R0)(d:TV E)(b:Bool),VT E w G d u->VT E w G (.tuple [d,.dat .bool b]) (.tuple #[u,.bool b]):=λu d b hd=>⟨_,rfl,.cons hd (.cons (.bool _ _ _) .nil)⟩
 suffices hs:∃v,VT E w G d v/\∀w',(Instr.typeAssert (a.eval x) xt t ok).run P w'=.ok v w' by obtain⟨v,h1,h2⟩:=hs;exact gE (f:=λρ=>Instr.typeAssert (ρ x) xt t ok) (by simp[M2,ho]) ⟨v,h1,λw' _=>h2 w'⟩
 unfold YO at h;split at h<;>try trivial
 .rename_i ty' v' hd hni;rw[hd]at hv;obtain⟨u,hu,hv⟩:=hv;cases hb:dO ty' t<;>rw[hb]at h<;>simp at h
  .have hne:ty'≠t:=λe=>by simp_all
   cases ok<;>simp only[aQ,aI]at h
   .cases h
   cases h;unfold Instr.typeAssert;simp_all[aW,oC]
  .cases h;cases ok
   .unfold Instr.typeAssert;simp_all[aW]
   .unfold Instr.typeAssert;simp_all[aW]
 .rename_i hd hni;rw[hd]at hv;cases ok<;>simp only[aQ,aI]at h
  .cases h
  cases h;rw[hv];unfold Instr.typeAssert;simp_all[aW,oC]
theorem afB(hE:E.Ok)(hr:Rel E w0 G0 st a w G){d:TV E}{c:Bool}(h:WC P ty st o.op=iN (c,d))(hc:c=eQ):jW P a w G o d:=by
 cases ho:o.op<;>rw[ho]at h<;>simp[WC]at h<;>try trivial
 case binOp op t x y yt=>
  split at h<;>try trivial
  .rename_i b hb;cases h;exact gE (f:=λρ=>do eqGuard .eql t x y (ρ x) (ρ y);binOp .eql t (ρ x) (ρ y)) (by simp[M2,ho]) ⟨_,.bool _ _ _,λw' _=>aaa (hr.ev x) (hr.ev y) hb .eql (.inl rfl) w'⟩
  .rename_i b hb;cases h;exact gE (f:=λρ=>do eqGuard .neq t x y (ρ x) (ρ y);binOp .neq t (ρ x) (ρ y)) (by simp[M2,ho]) ⟨_,.bool _ _ _,λw' _=>aaa (hr.ev x) (hr.ev y) hb .neq (.inr rfl) w'⟩
 case typeAssert x xt t ok=>grind[ac7]
 case call c'=>
  split at h<;>try trivial
  .rename_i _ x y hcl ha;split at h<;>try trivial
   rename_i k p k' q hx hy;cases h;have Bq:=hr.ev x;rw[hx]at Bq;have Dm:=hr.ev y;rw[hy]at Dm;have hU:c'.args=#[x,y]:=by grind
   refine⟨_,.int _ _ _ _,λw' hs=>?_⟩;unfold M2;simp[ho,resolve,hcl,invoke,builtin,hU];rw[Bq.gD,Dm.gD];simp only[Builtin.max_,List.foldlM_cons,Builtin.max2];simp_all
  .rename_i _ x y hcl ha;split at h<;>try trivial
   rename_i k p k' q hx hy;cases h;have Bq:=hr.ev x;rw[hx]at Bq;have Dm:=hr.ev y;rw[hy]at Dm;have hU:c'.args=#[x,y]:=by grind
   refine⟨_,.int _ _ _ _,λw' hs=>?_⟩;unfold M2;simp[ho,resolve,hcl,invoke,builtin,hU];rw[Bq.gD,Dm.gD];simp only[Builtin.min_,List.foldlM_cons,Builtin.min2];simp_all
  .rename_i _ x hcl ha;split at h<;>try trivial
   rename_i j aF xs hx;split at h<;>try trivial
   rename_i g hg;cases h;rw[cH]at hc;obtain⟨hc,hzc⟩:=hc;have ac5:=fm hc;have hU:c'.args=#[x]:=by grind
   have hv:=hr.ev x;rw[hx]at hv;obtain⟨Ce,gx,gh,lI,hle,heq⟩:=hv;have Ka:gx=g:=by
    have h2:(G.g.map (·.1))[j]? = iN gx:=by simp[lI]
    rw[hr.boxes.gs]at h2;simp_all
   subst Ka;have mR:=heq ac5.symm;obtain⟨n,ys,ho',Qx,wY⟩:=hr.boxes.grow j gx gh lI;rcases Ce.xW with⟨ad,he,hn⟩|⟨b,off,cap,c,he,hcap,hk,-⟩
   .have hxs:xs=[]:=by simpa using hn
    have:ad=iF:=by cases ad with|none=>rfl|some ad=>grind
    subst this;refine⟨.pointer iF,?_,λw' hs=>?_⟩
    .simp only[VT];exact⟨gx,gh,a.eval x,lI,hle,Ce,λ_=>⟨mR,.inl ⟨by rw[<-mR,he],hxs,trivial⟩⟩⟩
    .unfold M2;simp[ho,resolve,hcl,hU];rw[he];rfl
   .have hl:(xs.map (Ty.cells E (.int .u8))).length=Sx xs:=by simp
    rw[hl]at he;have hc0:cap≠0:=λe=>by grind
    have hoff:off=0:=by
     rcases ho'.2 with⟨hnil,-⟩|⟨g',cap',cur,h2,-⟩
     .simp_all
     simp_all
    subst hoff;refine⟨.pointer (iN ⟨b,0,iF⟩),?_,λw' hs=>?_⟩
    .exact⟨gx,gh,a.eval x,lI,hle,Ce,λ_=>⟨mR,.inr ⟨b,cap,by rw[<-mR,he],rfl⟩⟩⟩
    .unfold M2;simp[ho,resolve,hcl,invoke,builtin,hU];rw[he,Lib.run_unsafeSliceData_row _ _ _ _ _ _ hc0];rfl
def WD(P:bw)(ty:aK->O Ty)(st:TS E)(o:Op):O (Bool×TV E):=match S3 P ty st o with|some x=>iN x|none=>WC P ty st o
theorem ac8(hE:E.Ok)(hr:Rel E w0 G0 st a w G){d:TV E}{c:Bool}(h:WD P ty st o.op=iN (c,d))(hc:c=eQ):jW P a w G o d:=by grind[WD,afz,afB]
variable{i r:Nat}{src dst:aK}{off:Nat}
theorem Rel.L8(h:Rel E w0 G0 st a w G)(e:TypeId)(k:Nat):Rel E w0 G0 {st with g:=st.g++[⟨0,e,k⟩]} a w {G with g:=G.g++[(⟨0,e,k⟩,.slice iF 0 0)]}:=by refine h.DZ ⟨0,e,k⟩ (.slice iF 0 0) ⟨0,[],⟨si,.inl ⟨rfl,rfl⟩⟩,(λa m e=>nomatch e),(λb hb=>nomatch hb)⟩ (λb hb=>nomatch hb) (λj y z b hj hb e=>nomatch e)
theorem Rel.rG(h:Rel E w0 G0 st a w G):G.g.length=Sx st.g:=by rw[<-h.boxes.gs];simp
theorem QC(hl:G.g.length=Sx st.g)(e:aK)(T:Ty):VT E w {G with g:=G.g++[(⟨0,e,T.size E⟩,.slice iF 0 0)]} (.cz st.g.length 0 T []) (.slice iF 0 0):=by refine⟨.wM _ _,⟨0,e,T.size E⟩,.slice iF 0 0,?_,eE _,λ_=>rfl⟩;simp_all
theorem Rel.at7(h:Rel E w0 G0 st a w G)(hi:st.t[i]? = iN (.val (.slice iF 0 0)))(e:aK)(T:Ty):
  ∃G',Rel E w0 G0 {st with t:=st.t.set i (.cz st.g.length 0 T []),g:=st.g++[⟨0,e,T.size E⟩]} a w G':=by
 have hN:=h.L8 e (T.size E);refine⟨_,hN.fH,by simpa using hN.size,λj d hj=>?_,hN.defers,hN.boxes,hN.fix,hN.pins,hN.gU⟩;simp[SB]at hj;by_cases hij:i=j
 .subst hij;have hlt:=(fD.1 hi).1;simp[hlt]at hj;subst hj;have hv:=h.tmps i _ hi;rw[hv];exact QC h.rG e T
 .rw[if_neg hij]at hj;exact hN.tmps j d hj
theorem Rel.akN(h:Rel E w0 G0 st a w G){c:Nat}{t:aK}(hr:st.H[r]? = iN (.cells t cs))(hc:cs[c]? = iN (.val (.slice iF 0 0)))(e:aK)(T:Ty):
  ∃G',Rel E w0 G0 {st with H:=st.H.set r (.cells t (cs.set c (.cz st.g.length 0 T []))),g:=st.g++[⟨0,e,T.size E⟩],d:=r::st.d} a w G':=by
 have hN:=h.L8 e (T.size E);have hlr:r<G.i.length:=by rw[h.boxes.len];grind
 have hat:=fT hlr;have hS:=hN.zU hat rfl rfl rfl rfl (λ_ _=>rfl) (x:=.cells t (cs.set c (.cz st.g.length 0 T []))) (λ_=>?_)
 .exact⟨_,hS⟩
 .obtain⟨vs,h1,h2,h3⟩:=hN.boxes.box r _ _ hat hr;refine⟨vs,h1,h2,?_⟩;obtain⟨u,hu,hv⟩:=h3.get c hc;subst hv;have key:∀(cs:J (TV E))(vs:J R0)(c:Nat)(d:TV E),bO E w {G with g:=G.g++[(⟨0,e,T.size E⟩,.slice iF 0 0)]} cs vs->vs[c]? = iN (.slice iF 0 0) ->
    VT E w {G with g:=G.g++[(⟨0,e,T.size E⟩,.slice iF 0 0)]} d (.slice iF 0 0)->bO E w {G with g:=G.g++[(⟨0,e,T.size E⟩,.slice iF 0 0)]} (cs.set c d) vs:=by
   intro cs
   induction cs with
   | nil=>simp_all|cons x cs ih=>intro vs c d h1 h2 h3;obtain⟨u,us,rfl,q1,q2⟩:=h1.cons_inv;cases c with|zero=>simp at h2;subst h2;exact .cons h3 q2|succ c=>exact .cons q1 (ih us c d q2 (by simpa using h2) h3)
  exact key cs vs.toList c _ h3 hu (QC h.rG e T)
theorem YP(hE:E.Ok)(hr:Rel E w0 G0 st a w G){c:Call}{t:aK}(ho:o.op=.call c)(hcl:c.callee=.builtin .append)
  (ha:c.args.toList=[x,y]) (hat:c.argTypes.toList=[t,tx]) (ht:aZ P t=iN ⟨.slice e,j1,j2,z⟩) (hi:aZ P e=iN ie)  
  (hx:st.ev x=.val (.slice iF 0 0)) (hk:ie.size=T.size E) (hk0:0<ie.size) (hzs:ie.zero.cells.size=ie.size)
  (h63:Sx ys<=9223372036854775807) (hbytes:Sx ys*ie.bytes<=140737488355328)
   (hsrc:Src P ie.size tx (a.eval y) ys.length news w) (hf:Flat w G.pr ie.size news (ys.map (T.cells E))) :
  kG P w0 G0 a w o {st with t:=cE st.t o.dst (.cz st.g.length 1 T ys),g:=st.g++[⟨1,e,ie.size⟩]}:=by
 have hU:c.args=#[x,y]:=by grind
 have zJ:c.argTypes=#[t,tx]:=by grind
 have hv:=hr.ev x;rw[hx]at hv;have hN:=hr.L8 e ie.size;have hl2:(ys.map (T.cells E)).length=Sx ys:=by simp
 have hrl:=hr.rG;have lI:(G.g++[(⟨0,e,ie.size⟩,Value.slice iF 0 0)])[G.g.length]? = iN (⟨0,e,ie.size⟩,.slice iF 0 0):=by simp
 obtain⟨v',w',mP,hrun,hR,hV⟩:=hN.append ht hi hk0 hzs lI (λc hc=>by
   obtain⟨x,h,h1,-⟩:=hr.gU _ c hc
   simp_all) rfl rfl
  (.wM _ _) (by rw[hl2];exact hsrc) hf (by simp;exact h63) (by simp_all)
 have nX:(st.g++[(⟨0,e,ie.size⟩:cU)]).set G.g.length ⟨0+1,e,ie.size⟩=st.g++[⟨1,e,ie.size⟩]:=by simp_all
 simp[nX]at hR;refine⟨.value v',v',w',_,?_,.inl rfl,hR.put ?_ o.dst⟩
 .unfold M2;simp[ho,resolve,hcl,invoke,builtin,hU,zJ];rw[hv,hrun];rfl
 .simp[VT];grind
def LZ(l:J Int):Bool:=l.all λn=>eJ (0<=n)&&eJ (n<256)
def cu(l:J Int):J UInt8:=l.map λn=>lL n.toNat
theorem aix{l:J Int}(h:LZ l=eQ){x:UInt8}(hx:(cu l)[j]? = iN x):l[j]? = iN (x.toNat:Int):=by unfold cu at hx;rw[MO]at hx;obtain⟨n,hn,rfl⟩:=Sk.1 hx;have:=pW.1 h n (jQ hn);simp at this;rw[hn];simp;omega
theorem VD.WG{xs:J Int}(h:VD w pr v (.slice 1 (xs.map (Ty.cells E (.int .u8))))):
  (∃ad,v=.slice ad 0 0/\xs=[])\/∃b off cap,v=.slice (iN ⟨b,off,iF⟩) xs.length cap/\xs.length<=cap/\∀(j:Nat) n,xs[j]? = iN n->pr b (off+j)/\w.cell? ⟨b,off+j,iF⟩=iN (.int .u8 n):=by
 rcases h.xW with⟨ad,he,hn⟩|⟨b,off,cap,c,he,hcap,hk,h0,hc⟩
 .simp_all
 .refine .inr ⟨b,off,cap,by simpa using he,by simpa using hcap,λj n hj=>?_⟩;have hjl:=(fD.1 hj).1;have h1:=h0 j 0 (by simpa using hjl) om;have h2:=hc j 0 (by simpa using hjl) om;have e1:((xs.map (Ty.cells E (.int .u8))).getD j []).getD 0 default=.int .u8 n:=by grind[Option.some.inj,Ty.cells]
  rw[e1]at h2;rw[h2.gD]at h1;simpa using h1
theorem fold_push:∀(ns:J Int)(r:ByteArray),ns.foldl (λr n=>r.push (lL n.toNat)) r=⟨⟨r.data.toList++cu ns⟩⟩|[],r=>by simp[cu]|n::ns,r=>by rw[sE,fold_push ns];simp[cu]
theorem Iy(ad:Addr)(cap:Nat)(xs:J Int)(hc:∀(j:Nat) n,xs[j]? = iN n->w.cell? (ad.add j)=iN (.int .u8 n)):(Conv.bytesToString (.slice (iN ad) xs.length cap)).run P w=.ok (mkStr (cu xs)) w:=by
 have hl:=run_loadCells (P:=P) w ad xs.length (λj=>.int .u8 (xs.getD j 0)) (λj hj=>hc j _ (by simp[hj]));have hm:((aT xs.length).map λj=>Value.int .u8 (xs.getD j 0))=xs.map (Value.int .u8):=by apply BG si;simp_all
 rw[run_bytesToString w ad xs.length cap xs (by simp_all),fold_push];rfl
theorem QD(hr:Rel E w0 G0 st a w G){j3 j4 j5 j6:Nat}{z1 z2 z3:R0}(ho:o.op=.convert src dst x)(hs:aZ P src=iN ⟨.slice e,j1,j2,z1⟩)(hd:aZ P dst=iN ⟨.string,j3,j4,z2⟩)
  (he:aZ P e=iN ⟨.int .u8,j5,j6,z3⟩) {xs:J Int} (hx:uu (st.ev x) (.int .u8) xs):kG P w0 G0 a w o {st with t:=cE st.t o.dst (.dat .str (cu xs))}:=by
 obtain⟨_,_,Ue,-⟩:=aS hs;obtain⟨_,_,hud,-⟩:=aS hd;obtain⟨_,_,Ci,-⟩:=aS he;have hv:=hx.vd (hr.ev x);have hrun:(convert src dst (a.eval x)).run P w=.ok (mkStr (cu xs)) w:=by
  rcases hv.WG with⟨ad,jU,rfl⟩|⟨b,off,cap,jU,hcap,hc⟩
  .rw[jU];cases ad with|none=>unfold convert;simp[aW Ue,aW hud,aW Ci];rfl|some ad=>have:=Iy (P:=P) (w:=w) ad 0 [] (λj n hj=>by simp at hj);unfold convert;simp_all[aW]
  .have:=Iy (P:=P) (w:=w) ⟨b,off,iF⟩ cap xs (λj n hj=>by simp_all[add_lit]);unfold convert;simp_all[aW]
 refine⟨_,mkStr (cu xs),w,G,?_,.inl rfl,hr.put (.str _ _ _) o.dst⟩;simp[M2,ho,hrun]
theorem Uf(w:U)(p:Addr)(n b:Nat)(hb:b≠p.block):(w.freeze p n).heap[b]? = w.heap[b]?:=by unfold World.freeze;grind
theorem afC(w:U)(p:Addr)(n:Nat)(x:Addr):(w.freeze p n).cell? x=w.cell? x:=by
 by_cases h0:n=0
 .simp[World.freeze,h0]
 by_cases hx:x.block=p.block
 .simp[World.cell?,World.freeze];grind
 grind[World.cell?_of_block,Uf]
theorem Tw(hr:Rel E w0 G0 st a w G){c:Call}{pt it:TypeId}{j3 j4:Nat}{z1 z2:R0}(ho:o.op=.call c)(hcl:c.callee=.builtin .unsafeString)(ha:c.args.toList=[x,y])(hat:c.argTypes.toList=[pt,it])
  (hp:aZ P pt=iN ⟨.pointer e,j1,j2,z1⟩) (hce:P.cellsOf e=1) {aF:Nat} {xs:J Int} (hx:st.ev x=.Ua j aF xs)  (hg:st.g[j]? = iN g) (Ck:∀c,(j,c)∉st.c) (ac5:g.aF=aF) (hge:g.e=e) (Cm:g.k=1)
  {n:Int} (hy:st.ev y=.dat (.int .i64) n) (hn:n=Sx xs) (hok:LZ xs=eQ) (h63:Sx xs<=9223372036854775807) :
  kG P w0 G0 a w o {st with t:=cE st.t o.dst (.dat .str (cu xs)),g:=st.g.set j {g with aF:=g.aF+1}}:=by
 have hU:c.args=#[x,y]:=by grind
 have zJ:c.argTypes=#[pt,it]:=by grind
 obtain⟨_,_,hup,-⟩:=aS hp;have hv:=hr.ev x;rw[hx]at hv;have Dm:=hr.ev y;rw[hy]at Dm;have Dm:=Dm.gD;subst hn;obtain⟨gx,gh,u,lI,hle,Ce,heq⟩:=hv;have Ka:gx=g:=by
  have h2:(G.g.map (·.1))[j]? = iN gx:=by simp[lI]
  rw[hr.boxes.gs]at h2;simp_all
 subst Ka;obtain⟨mR,Au⟩:=heq ac5.symm;have hlen:(cu xs).length=Sx xs:=by simp[cu]
 have step:∀w1,w.heap.size<=w1.heap.size->w1.os=w.os->w1.tape=w.tape->w1.output=w.output->(∀b,b<w.heap.size->gh.ownBlock≠iN b->w1.heap[b]? = w.heap[b]?)->(∀b o v,G.pr b o->w.cell? ⟨b,o,iF⟩=iN v->w1.cell? ⟨b,o,iF⟩=iN v) ->
   ∃G1,Rel E w0 G0 {st with g:=st.g.set j {gx with aF:=gx.aF+1}} a w1 G1:=λw1 s1 s2 s3 s4 s5 s6=>
  ⟨_,hr.S4 lI Ck s1 s2 s3 s4 s5 s6 G.pr (λ_ _ h=>h) (λ_ _ h=>.inl h) ⟨0,[],⟨si,.inl ⟨rfl,rfl⟩⟩,(λa m e=>nomatch e),(λb hb=>nomatch hb)⟩ (λb hb=>nomatch hb)⟩
 have nothing:(Builtin.unsafeString_ c.argTypes o.type #[a.eval x,a.eval y]).run P w=.ok (mkStr (cu xs)) w->kG P w0 G0 a w o {st with t:=cE st.t o.dst (.dat .str (cu xs)),g:=st.g.set j {gx with aF:=gx.aF+1}}:=by intro hrun;obtain⟨G1,hR⟩:=step w (eE _) rfl rfl rfl (λ_ _ _=>rfl) (λ_ _ _ _ h=>h);refine⟨_,mkStr (cu xs),w,G1,?_,.inl rfl,hR.put (.str _ _ _) o.dst⟩;unfold M2;simp[ho,resolve,hcl,invoke,builtin,hU,hrun]
 by_cases h0:xs=[]
 .subst h0;refine nothing ?_;rw[Dm,zJ];rcases Au with⟨-,-,he⟩|⟨b,cap,-,he⟩<;>rw[he]<;>exact Lib.run_unsafeString_none w pt it o.type _
 .rcases Au with⟨-,hl,-⟩|⟨b,cap,hgh,he⟩
  .exact(h0 hl).elim
  replace Ce:VD w G.pr _ (.slice 1 (xs.map (Ty.cells E (.int .u8)))):=Ce
  have hcell:∀(q:Nat) nn,xs[q]? = iN nn->G.pr b q/\w.cell? ⟨b,q,iF⟩=iN (.int .u8 nn):=by
   rcases Ce.WG with⟨ad,h1,h2⟩|⟨b',off,cap',h1,-,h3⟩
   .exact(h0 h2).elim
   simp_all
  obtain⟨n',ys,hown,-,hblk⟩:=hr.boxes.grow j gx gh lI;rcases hown.2 with⟨hnil,-⟩|⟨gb,cap',cur,h2,-,hheap,hn',hcm,hcs,-⟩
  .simp_all
  rw[hgh]at h2;obtain⟨⟨rfl,-,-⟩,rfl,rfl⟩:=h2;have hsh:w.shape? b=iN (e,cap):=by simp[World.shape?,hheap,hge,hcs,Cm]
  have hrun:=Lib.run_unsafeString_row w pt it o.type e hup hce b cap hsh (cu xs) (by simpa[cu]using h0) (by rw[hlen];exact hn') (by rw[hlen];exact h63)
   (λq u hq=>by simp_all[add_lit,aix])
  rw[hlen]at hrun;obtain⟨G1,hR⟩:=step (w.freeze ⟨b,0,iF⟩ xs.length) (by unfold World.freeze;split<;>simp) (by unfold World.freeze;split<;>rfl) (by unfold World.freeze;split<;>rfl) (by unfold World.freeze;split<;>rfl)
   (λb' _ hne=>Uf w _ _ b' (λe'=>hne (by rw[hgh];simp at e';rw[e'];rfl))) (λb' o' v _ hv=>by simp_all[afC])
  refine⟨_,mkStr (cu xs),_,G1,?_,.inl rfl,hR.put (.str _ _ _) o.dst⟩;unfold M2;simp[ho,resolve,hcl,invoke,builtin,hU,zJ];rw[he,Dm,hrun];rfl
theorem ac9(hr:Rel E w0 G0 st a w G)(ho:o.op=.convert src dst x)(hx:st.ev x=.ptr r off){t':aK}(hb:st.H[r]? = iN (.cells t' cs))
  (Au:(∃t i,P.underlying src=iN (.pointer t)/\P.underlying dst=iN .unsafePointer/\aZ P t=iN i/\i.size≠0/\off<Sx cs) \/
   ∃t i,P.underlying src=iN .unsafePointer/\P.underlying dst=iN (.pointer t)/\aZ P t=iN i/\liesAt P P.depth t' (Sx cs / P.cellsOf t') off t 1=eQ) :
  kG P w0 G0 a w o {st with t:=cE st.t o.dst (.ptr r off)}:=by
 have hv:=hr.ev x;rw[hx]at hv;have hv0:=hv;obtain⟨b,he,hat⟩:=hv;obtain⟨vs,hh,-,hvs⟩:=hr.box hat hb;have hsz:vs.size=Sx cs:=by simpa using hvs.length
 have hsh:w.shape? b=iN (t',Sx cs):=by simp[World.shape?,hh,hsz]
 have hrun:(convert src dst (a.eval x)).run P w=.ok (a.eval x) w:=by grind[aS,Lib.run_to_unsafe,Lib.run_from_unsafe]
 refine⟨_,a.eval x,w,G,?_,.inl rfl,hr.put hv0 o.dst⟩;simp[M2,ho,hrun]
open Go.MapKept
def jJ{α β:Type}(eq:α->α->Bool)(m:J (α×β))(k:α)(v:β):J (α×β):=bif m.any (λp=>eq p.1 k)then m.map (λp=>bif eq p.1 k then(k,v)else p)else m++[(k,v)]
def gp{α β:Type}(eq:α->α->Bool)(m:J (α×β))(k:α)(z:β):β:=match m.find? (λp=>eq p.1 k)with|some p=>p.2|none=>z
def FU{α β:Type}(eq:α->α->Bool)(m:J (α×β))(k:α):Bool:=m.any (λp=>eq p.1 k)
def Nw:Ty->O (J Ty)
 | .int k=>iN [.int k]|.bool=>iN [.bool]|.str=>iN [.str]|.unit=>iN []|.pair a b=>match Nw a,Nw b with
  | some x,iN y=>iN (x++y)|_,_=>iF
 | _=>iF
def Gk:DV->R0|.int k n=>.int k n|.bool b=>.bool b|.str l=>mkStr l|_=>H5
def Ty.fJ(E:TEnv):(t:Ty)->t.den E.D->R0|.str,l=>mkStr l|.int k,n=>.int k n|.bool,b=>.bool b|.ext i,x=>.agg (((E.df i).cells E (E.Cc i x)).map Gk).toArray|_,_=>H5
def QE(E:TEnv):(t:Ty)->t.den E.D->t.den E.D->Bool|.str,a,b=>a==b|.int _,a,b=>a==b|.bool,a,b=>a==b|.pair s t,a,b=>QE E s a.1 b.1&&QE E t a.2 b.2|.unit,_,_=>eQ|_,_,_=>eK
def Ty.dc(E:TEnv):(t:Ty)->t.den E.D->t.den E.D->Bool|.str,a,b=>a==b|.int _,a,b=>a==b|.bool,a,b=>a==b|.ext i,a,b=>QE E (E.df i) (E.Cc i a) (E.Cc i b)|_,_,_=>eK
def FV:Ty->TypeDesc->Bool|.str,.string=>eQ|.int k,.int k'=>eJ (k=k')|.bool,.bool=>eQ|_,_=>eK
def aiy(P:bw)(ty:aK):Ty->Bool
 | .int k=>match P.underlying ty with
  | some (.int k')=>eJ (k=k')|_=>eK
 | .bool=>match P.underlying ty with
  | some .bool=>eQ|_=>eK
 | .str=>match P.underlying ty with
  | some .string=>eQ|_=>eK
 | _=>eK
def Br(P:bw):Nat->J Field->J Ty->Bool
 | _,[],[]=>eQ|n,f::fs,t::ts=>dO f.offset n && !(f.name == "_")&&aiy P f.type t&&Br P (n+1) fs ts
 | _,_,_=>eK
def anb(E:TEnv)(P:bw)(k:aK):Ty->TypeDesc->Bool
 | .ext i,.struct fs=>(match Nw (E.df i)with
  | some ts=>Br P 0 fs.toList ts|none=>eK) && !(P.stoodInHeld k)
 | _,_=>eK
def YQ(E:TEnv)(P:bw)(k:aK)(t:Ty)(d:TypeDesc):Bool:=FV t d||anb E P k t d
structure Kc(E:TEnv)(P:Program)(k:TypeId)(t:Ty):Prop where
 vt:∀ {w:World}{G:bC}{x:t.den E.D}{v:R0},VT E w G (.dat t x) v->v=t.fJ E x
 of:∀(w:World)(G:bC)(x:t.den E.D),VT E w G (.dat t x) (t.fJ E x)
 dc:∀ {x y:t.den E.D},t.dc E x y=eQ↔t.fJ E x=t.fJ E y
 check:∀(em:Bool)(x:t.den E.D)(w:World),(Instr.checkKey em 10000 k (t.fJ E x)).run P w=.ok () w
 find:∀(x:t.den E.D)(es:List MapEntry)(w:World),(∀e∈es,∃y:t.den E.D,e.key=t.fJ E y) ->
  ((Instr.findKey k (t.fJ E x) es).run P w=.ok iF w/\∀e∈es,e.key≠t.fJ E x) \/
  ∃(j:Nat)(e:MapEntry),(Instr.findKey k (t.fJ E x) es).run P w=.ok (iN (j,e.val)) w/\es[j]? = iN e/\e.key=t.fJ E x
 stays:∀(x:t.den E.D)(w:World),(Instr.keyThatStays (t.fJ E x) (t.fJ E x)).run P w=.ok (t.fJ E x) w
variable{t:Ty}{d:TypeDesc}
theorem ar3(h:FV t d=eQ){k:t.den E.D}(hv:VT E w G (.dat t k) v):v=t.fJ E k:=by
 unfold FV at h;split at h<;>try trivial
 .exact hv.iQ
 .exact hv.gD
 .exact hv.nE
theorem anc(h:FV t d=eQ)(w:U)(G:bC)(k:t.den E.D):VT E w G (.dat t k) (t.fJ E k):=by
 unfold FV at h;split at h<;>try trivial
 .exact .str w G _
 .exact .int w G _ _
 .exact .bool w G _
theorem Nx(h:FV t d=eQ)(k:t.den E.D):IsKey d (t.fJ E k):=by
 unfold FV at h;split at h<;>try (cases h;done)
 .trivial
 .simp at h;subst h;rfl
 .trivial
theorem ane(h:FV t d=eQ){a b:t.den E.D}(e:t.fJ E a=t.fJ E b):a=b:=by
 unfold FV at h;split at h<;>try trivial
 .simp_all[Ty.fJ,mkStr]
 .simpa[Ty.fJ]using e
 simp_all[Ty.fJ]
theorem agI(h:FV t d=eQ){a b:t.den E.D}:t.dc E a b=eQ↔a=b:=by
 unfold FV at h;split at h<;>try trivial
 .exact tv
 .exact tv
 .exact tv
theorem afD{k:aK}(hd:P.underlying k=iN d)(h:FV t d=eQ):Kc E P k t:={
 vt:=ar3 h
 of:=anc h
 dc:=⟨λe=>by rw[(agI h).1 e],λe=>(agI h).2 (ane h e)⟩
 check:=λem x w=>MapKept.run_checkKey hd (Nx h x) em 9999
 find:=λx es w hk=>by grind[findNow_spec,Nx,MapKept.run_findKey]
 stays:=λx w=>MapKept.run_keyThatStays (Nx h x)}
def JV:Ty->DV->Prop|.int k,d=>∃n,d=.int k n|.bool,d=>∃b,d=.bool b|.str,d=>∃l,d=.str l|_,_=>False
def Co:J Ty->J DV->Prop|[],[]=>True|t::ts,d::ds=>JV t d/\Co ts ds|_,_=>False
theorem Co.append:∀ {ts us:J Ty}{ds es:J DV},Co ts ds->Co us es->Co (ts++us) (ds++es)|[],_,[],_,_,h=>h|_::_,_,_::_,_,h,h'=>⟨h.1,h.2.append h'⟩|[],_,_::_,_,h,_=>h.elim|_::_,_,[],_,h,_=>h.elim
theorem Le:∀(t:Ty){ts:J Ty}(x:t.den E.D),Nw t=iN ts->Co ts (t.cells E x)
 | .int k,ts,x,h=>by cases h;exact⟨⟨x,rfl⟩,trivial⟩
 | .bool,ts,x,h=>by cases h;exact⟨⟨x,rfl⟩,trivial⟩
 | .str,ts,x,h=>by cases h;exact⟨⟨x,rfl⟩,trivial⟩
 | .unit,ts,x,h=>by cases h;trivial
 | .pair a b,ts,x,h=>by
  simp[Nw]at h;split at h<;>try trivial
  rename_i p q h1 h2;cases h;exact(Le a x.1 h1).append (Le b x.2 h2)
 | .bx _,ts,x,h=>by cases h
 | .ext _,ts,x,h=>by cases h
theorem GU:∀(t:Ty){ts:J Ty}(x y:t.den E.D),Nw t=iN ts->tP (t.cells E x) (t.cells E y)=iN (QE E t x y)
 | .int k,ts,x,y,h=>by simp[Ty.cells,tP,UZ,QE]|.bool,ts,x,y,h=>by simp[Ty.cells,tP,UZ,QE]|.str,ts,x,y,h=>by simp[Ty.cells,tP,UZ,QE]|.unit,ts,x,y,h=>by simp[Ty.cells,tP,QE]|.pair a b,ts,x,y,h=>by
  simp[Nw]at h;split at h<;>try trivial
  rename_i p q h1 h2;have i1:=GU a x.1 y.1 h1;have i2:=GU b x.2 y.2 h2;have app:∀(as bs cs ds:J DV)(p q:Bool),tP as bs=iN p->tP cs ds=iN q->tP (as++cs) (bs++ds)=iN (p&&q):=by
   intro as
   induction as with
   | nil=>intro bs cs ds p q h1 h2;cases bs with
    | nil=>cases h1;simpa using h2
    | cons _ _=>cases h1
   | cons a as ih=>intro bs cs ds p q h1 h2;cases bs with
    | nil=>cases h1
    | cons b bs=>
     simp[tP]at h1⊢;split at h1<;>try trivial
     rename_i u v hu hv;cases h1;rw[hu,ih bs cs ds v q hv h2,Bool.and_assoc]
  exact app _ _ _ _ _ _ i1 i2
 | .bx _,ts,x,y,h=>by cases h
 | .ext _,ts,x,y,h=>by cases h
theorem agJ{w:U}{pr:Nat->Nat->Prop}:∀ {ts:J Ty}{ds:J DV}{vs:J R0},Co ts ds->LD w pr vs ds->vs=ds.map Gk
 | [],[],[],_,_=>rfl|t::ts,d::ds,v::vs,h,hl=>by rw[jb,<-agJ h.2 hl.2];have h1:=h.1;cases t<;>first|exact h1.elim|(obtain⟨n,rfl⟩:=h1;cases hl.1;rfl)
 | [],[],_::_,_,hl=>hl.elim|[],_::_,_,h,_=>h.elim|_::_,[],_,h,_=>h.elim|_::_,_::_,[],_,hl=>hl.elim
theorem Ke(w:U)(pr:Nat->Nat->Prop):∀ {ts:J Ty}{ds:J DV},Co ts ds->LD w pr (ds.map Gk) ds
 | [],[],_=>trivial|t::ts,d::ds,h=>by refine⟨?_,Ke w pr h.2⟩;have h1:=h.1;cases t<;>first|exact h1.elim|(obtain⟨n,rfl⟩:=h1;constructor)
 | [],_::_,h=>h.elim|_::_,[],h=>h.elim
theorem aab{P:bw}:∀ {n:Nat}{fs:J Field}{ts:J Ty}{ds cs:J DV},Br P n fs ts=eQ->Co ts ds->Co ts cs->xX P n fs ds cs=eQ
 | n,[],[],[],[],_,_,_=>rfl|n,f::fs,t::ts,d::ds,c::cs,h,h1,h2=>by
  simp[Br]at h;obtain⟨⟨⟨a1,a2⟩,a3⟩,a4⟩:=h;simp[xX,a1,a2,aab a4 h1.2 h2.2];have key:∀ {d:DV},JV t d->Kb P f.type d=eQ:=by intro d hd;cases t<;>first|exact hd.elim|(obtain⟨n,rfl⟩:=hd;exact a3)
  exact⟨key h1.1,key h2.1⟩
 | _,[],[],_::_,_,_,h,_=>h.elim|_,[],[],[],_::_,_,_,h=>h.elim|_,[],_::_,_,_,h,_,_=>by simp[Br]at h|_,_::_,[],_,_,h,_,_=>by simp[Br]at h|_,_::_,_::_,[],_,_,h,_=>h.elim|_,_::_,_::_,_::_,[],_,_,h=>h.elim
theorem aac:∀ {ts:J Ty}{ds cs:J DV}{b:Bool},Co ts ds->Co ts cs->tP ds cs=iN b->(b=eQ↔ds.map Gk=cs.map Gk)
 | [],[],[],b,_,_,h=>by cases h;simp
 | t::ts,d::ds,c::cs,b,h1,h2,h=>by
  simp[tP]at h;split at h<;>try trivial
  rename_i p q hp hq;cases h;rw[cH,aac h1.2 h2.2 hq];have h1:=h1.1;have h2:=h2.1;cases t<;>first|exact h1.elim|(obtain⟨n,rfl⟩:=h1;obtain⟨m,rfl⟩:=h2;cases hp;simp[Gk,mkStr])
 | [],_::_,_,_,h,_,_=>h.elim|[],[],_::_,_,_,h,_=>h.elim|_::_,[],_,_,h,_,_=>h.elim|_::_,_::_,[],_,_,h,_=>h.elim
theorem akO{w:U}{ty:aK}{d:DV}(h:aiy P ty t=eQ)(hd:JV t d):(∀w,(isAgg ty).run P w=.ok eK w)/\∀em n w,(Instr.checkKey em (n+1) ty (Gk d)).run P w=.ok () w:=by
 unfold aiy at h;split at h<;>try trivial
 all_goals
  split at h<;>try trivial
  rename_i hu;exact⟨λw=>by simp[isAgg,aW hu],λem n w=>by simp[Instr.checkKey,aW hu]⟩
theorem ada(hE:E.Ok){k:aK}(hd:P.underlying k=iN d)(h:anb E P k t d=eQ):Kc E P k t:=by
 unfold anb at h;split at h<;>try trivial
 rename_i i fs;rw[cH,wL]at h;obtain⟨h,hst⟩:=h;split at h<;>try trivial
 rename_i ts hts;have hall:∀x:E.D i,Co ts ((E.df i).cells E (E.Cc i x)):=λx=>Le _ _ hts;have hfs:P.fieldsOf k=fs:=by unfold Program.fieldsOf;rw[hd]
 have ar4:∀x y:E.D i,(Ty.ext i).dc E x y=eQ↔(Ty.ext i).fJ E x=(Ty.ext i).fJ E y:=λx y=>by have:=aac (hall x) (hall y) (GU (E.df i) (E.Cc i x) (E.Cc i y) hts);grind[Ty.dc,Ty.fJ]
 have adb:∀(x y:E.D i)(w:U),(Op.equal k ((Ty.ext i).fJ E x) ((Ty.ext i).fJ E y)).run P w=.ok ((Ty.ext i).dc E x y) w:=λx y w=>by simp[Op.equal,Op.maxDepth,Ty.fJ];rw[run_equalIn_struct w 9999 k _ _ (by rw[hfs];exact hd) hst,hfs];exact ac6 (pr:=λ_ _=>True) fs.toList 0 _ _ _ _ _ (λj=>by simp) (λj=>by simp) (Ke w _ (hall x)) (Ke w _ (hall y)) (aab h (hall x) (hall y)) (GU (E.df i) _ _ hts) w 9998
 refine⟨λ{w G x v} hv=>?_,λw G x=>?_,λ{x y}=>ar4 x y,λem x w=>?_,λx es w hk=>?_,λx w=>?_⟩
 .obtain⟨vs,rfl,hl⟩:=hv;rw[show Ty.cells E (.ext i) x=E.enc i x from rfl,hE.enc]at hl;have:=agJ (hall x) hl;simp[Ty.fJ];rw[<-this]
 .refine⟨_,rfl,?_⟩;rw[show Ty.cells E (.ext i) x=E.enc i x from rfl,hE.enc];grind[Ke]
 .simp[Ty.fJ];rw[Instr.checkKey];simp only[jF,aW hd,kn];rw[<-Array.forIn_toList];have hx:∀j:Nat,(((E.df i).cells E (E.Cc i x)).map Gk).toArray[0+j]? = (((E.df i).cells E (E.Cc i x)).map Gk)[j]?:=λj=>by simp
  have hp:=hall x;clear hall ar4 adb hfs hd hts;generalize(((E.df i).cells E (E.Cc i x)).map Gk).toArray=xs at hx⊢;generalize(E.df i).cells E (E.Cc i x)=ds at hx hp;generalize fs.toList=l at h⊢;generalize(0:Nat)=n at hx h
  induction l generalizing n ts ds with
  | nil=>simp|cons f l ih=>
   cases ts with
   | nil=>simp[Br]at h|cons t ts=>
    cases ds with
    | nil=>exact hp.elim|cons d ds=>
     simp only[Br,cH]at h;obtain⟨⟨⟨f1,f2⟩,f3⟩,f4⟩:=h;have f1:=fm f1;have f2:f.name ≠ "_" := by simpa using f2
     obtain⟨g1,g2⟩:=akO (w:=w) f3 hp.1;have hx0:xs[f.offset]? = iN (Gk d):=by rw[f1];simpa using hx 0
     have px:∀w',(part f.type xs f.offset).run P w'=.ok (Gk d) w':=λw'=>by simp[part,g1,hx0]
     have:=ih (n:=n+1) (ts:=ts) (ds:=ds) hp.2 (λj=>by have:=hx (j+1);grind) f4;rw[List.forIn_cons];simp only[if_pos f2,jF,px,g2,kn];exact this
 .cases es with
  | nil=>exact .inl ⟨by simp[Instr.findKey,aW hd,Instr.findNow],λe he=>by cases he⟩
  | cons e0 es=>
   have arR:(Instr.findKey k ((Ty.ext i).fJ E x) (e0::es)).run P w=(Instr.findAsking k ((Ty.ext i).fJ E x) (e0::es)).run P w:=by simp[Instr.findKey,aW hd,Instr.findNow,Instr.sameNow]
   have key:∀(es:J MapEntry)(n:Nat),(∀e∈es,∃y:E.D i,e.key=(Ty.ext i).fJ E y) ->
     ((Instr.findAsking k ((Ty.ext i).fJ E x) es n).run P w=.ok iF w/\∀e∈es,e.key≠(Ty.ext i).fJ E x) \/
     ∃(j:Nat)(e:MapEntry),(Instr.findAsking k ((Ty.ext i).fJ E x) es n).run P w=.ok (iN (n+j,e.val)) w/\es[j]? = iN e/\e.key=(Ty.ext i).fJ E x:=by
    intro es
    induction es with
    | nil=>intro n _;exact .inl ⟨by simp[Instr.findAsking],λe he=>by cases he⟩
    | cons e es ih=>
     intro n hk;obtain⟨y,hy⟩:=hk e si;cases hb:(Ty.ext i).dc E x y with
     | true=>refine .inr ⟨0,e,?_,rfl,by simp_all⟩;simp[Instr.findAsking,hy,adb,hb]|false=>
      have hne:e.key≠(Ty.ext i).fJ E x:=λhe=>by grind
      have hstep:(Instr.findAsking k ((Ty.ext i).fJ E x) (e::es) n).run P w=(Instr.findAsking k ((Ty.ext i).fJ E x) es (n+1)).run P w:=by simp[Instr.findAsking,hy,adb,hb]
      rw[hstep];rcases ih (n+1) (λe he=>hk e (by simp[he]))with⟨h1,h2⟩|⟨j,e',h1,h2,h3⟩
      .simp_all
      .exact .inr ⟨j+1,e',by rw[h1];congr 3;omega,by simpa using h2,h3⟩
   grind
 .have hp:∀(ts:J Ty)(ds:J DV),Co ts ds->((ds.map Gk).zip (ds.map Gk)).all (λ(x,y)=>Instr.sameBits 9999 x y)=eQ:=by
   intro ts
   induction ts with
   | nil=>intro ds h;cases ds with
    | nil=>rfl|cons _ _=>exact h.elim
   | cons t ts ih=>intro ds h;cases ds with
    | nil=>exact h.elim|cons d ds=>simp[ih ds h.2];have h1:=h.1;cases t<;>first|exact h1.elim|(obtain⟨n,rfl⟩:=h1;simp[Gk];exact(MapKept.bytes_beq _ _).2 rfl)|(obtain⟨n,rfl⟩:=h1;simp[Gk,Instr.sameBits])
  have hs:Instr.sameBits 10000 ((Ty.ext i).fJ E x) ((Ty.ext i).fJ E x)=eQ:=by simp only[Ty.fJ,Instr.sameBits,Ic];exact hp ts _ (hall x)
  simp[Instr.keyThatStays,hs]
theorem ade(hE:E.Ok){k:aK}(hd:P.underlying k=iN d)(h:YQ E P k t d=eQ):Kc E P k t:=by grind[YQ,afD,ada]
variable{kt vt:Ty}{m:J (kt.den E.D × vt.den E.D)}{b:Nat}{ki:aK}{es:aJ MapEntry}{clock:Nat}{kk:kt.den E.D}
theorem gM.length:∀ {es:J MapEntry}{m:J (kt.den E.D×vt.den E.D)},gM E w G kt vt es m->Sx es=m.length|[],[],_=>rfl|_::_,_::_,h=>by simp[gM.length h.2.2]|[],_::_,h=>h.elim|_::_,[],h=>h.elim
theorem gM.get:∀ {es:J MapEntry}{m:J (kt.den E.D×vt.den E.D)}(j:Nat){e:MapEntry},gM E w G kt vt es m->es[j]? = iN e->∃p,m[j]? = iN p/\VT E w G (.dat kt p.1) e.key/\VT E w G (.dat vt p.2) e.val|[],[],_,_,_,h=>by simp at h|e::es,p::ps,0,x,h,hj=>by simp at hj;subst hj;exact⟨p,rfl,h.1,h.2.1⟩|e::es,p::ps,j+1,x,h,hj=>by simpa using gM.get j h.2.2 (by simpa using hj)|[],_::_,_,_,h,_=>h.elim|_::_,[],_,_,h,_=>h.elim
theorem gM.get':∀ {es:J MapEntry}{m:J (kt.den E.D×vt.den E.D)}(j:Nat){p:kt.den E.D×vt.den E.D},gM E w G kt vt es m->m[j]? = iN p->∃e,es[j]? = iN e/\VT E w G (.dat kt p.1) e.key/\VT E w G (.dat vt p.2) e.val|[],[],_,_,_,h=>by simp at h|e::es,p::ps,0,x,h,hj=>by simp at hj;subst hj;exact⟨e,rfl,h.1,h.2.1⟩|e::es,p::ps,j+1,x,h,hj=>by simpa using gM.get' j h.2.2 (by simpa using hj)|[],_::_,_,_,h,_=>h.elim|_::_,[],_,_,h,_=>h.elim
theorem gM.append:∀ {es:J MapEntry}{m:J (kt.den E.D×vt.den E.D)}{e:MapEntry}{p:kt.den E.D×vt.den E.D},gM E w G kt vt es m->VT E w G (.dat kt p.1) e.key->VT E w G (.dat vt p.2) e.val->gM E w G kt vt (es++[e]) (m++[p])|[],[],_,_,_,h1,h2=>⟨h1,h2,trivial⟩|_::_,_::_,_,_,h,h1,h2=>⟨h.1,h.2.1,gM.append h.2.2 h1 h2⟩|[],_::_,_,_,h,_,_=>h.elim|_::_,[],_,_,h,_,_=>h.elim
theorem gM.set:∀ {es:J MapEntry}{m:J (kt.den E.D×vt.den E.D)}(j:Nat){e:MapEntry}{p:kt.den E.D×vt.den E.D},gM E w G kt vt es m->VT E w G (.dat kt p.1) e.key->VT E w G (.dat vt p.2) e.val->gM E w G kt vt (es.set j e) (m.set j p)|[],[],_,_,_,_,_,_=>trivial|_::_,_::_,0,_,_,h,h1,h2=>⟨h1,h2,h.2.2⟩|_::_,_::_,j+1,_,_,h,h1,h2=>⟨h.1,h.2.1,gM.set j h.2.2 h1 h2⟩|[],_::_,_,_,_,h,_,_=>h.elim|_::_,[],_,_,_,h,_,_=>h.elim
theorem adf(K:Kc E P ki kt){es:aJ MapEntry}(h:gM E w G kt vt es.toList m)(k:kt.den E.D)(W:U):
  ((Instr.findKey ki (kt.fJ E k) es.toList).run P W=.ok iF W/\m.any (λp=>kt.dc E p.1 k)=eK/\∀x∈es.toList,x.key≠kt.fJ E k) \/
  ∃j e p,(Instr.findKey ki (kt.fJ E k) es.toList).run P W=.ok (iN (j,e.val)) W/\es[j]? = iN e/\e.key=kt.fJ E k/\m[j]? = iN p/\kt.dc E p.1 k=eQ/\VT E w G (.dat vt p.2) e.val:=by
 have hkey:∀x∈es.toList,∃p∈m,x.key=kt.fJ E p.1:=λx hx=>by obtain⟨j,hj,rfl⟩:=ko hx;obtain⟨p,hp,h1,-⟩:=h.get j (fT hj);exact⟨p,jQ hp,K.vt h1⟩
 rcases K.find k es.toList W (λx hx=>by grind)with⟨h1,h2⟩|⟨j,e,h1,h2,h3⟩
 .refine .inl ⟨h1,?_,h2⟩;apply M1.2;intro ha;obtain⟨p,hp,he⟩:=UB.1 ha;obtain⟨j,hj,rfl⟩:=ko hp;obtain⟨x,hx,hk,-⟩:=h.get' j (fT hj);exact h2 x (jQ hx) (by rw[K.vt hk,K.dc.1 he])
 .have hj:es[j]? = iN e:=by simpa using h2
  obtain⟨p,hp,hk,hv⟩:=h.get j h2;exact .inr ⟨j,e,p,h1,hj,h3,hp,K.dc.2 ((K.vt hk).symm.trans h3),hv⟩
theorem aad(K:Kc E P ki kt)(hs:Stamped es clock)(h:gM E w G kt vt es.toList m):m.Pairwise (λp q=>kt.fJ E p.1≠kt.fJ E q.1):=by
 have h3:=hs.2.2;have:es.toList.map (·.key)=(m.map (·.1)).map (kt.fJ E):=by
  apply BG (by simp[h.length]);intro j h1 h2;have hj:j<es.toList.length:=by simpa using h1
  obtain⟨p,hp,hk,-⟩:=h.get j (fT hj);have hjm:=(fD.1 hp).1;have:m[j]=p:=by simp_all
  simp[this];exact K.vt hk
 grind
theorem ap7(K:Kc E P ki kt)(hn:m.Pairwise (λp q=>kt.fJ E p.1≠kt.fJ E q.1)){p:kt.den E.D×vt.den E.D}(hj:m[j]? = iN p){k:kt.den E.D}(hk:kt.dc E p.1 k=eQ)(v:vt.den E.D):jJ (kt.dc E) m k v=m.set j (k,v):=by
 have anf:m.any (λp=>kt.dc E p.1 k)=eQ:=UB.2 ⟨p,jQ hj,hk⟩;unfold jJ;rw[anf,aQ];apply BG si;intro q h1 h2;have hq:q<m.length:=by simpa using h1
 rw[MP,List.getElem_set];by_cases hqj:j=q
 .simp_all
 .rw[if_neg hqj];have hne:kt.dc E m[q].1 k=eK:=by apply M1.2;intro he;have he':=K.dc.1 he;have hk':=K.dc.1 hk;grind[List.pairwise_iff_getElem]
  rw[hne,aI]
theorem aiz{t k:aK}(K:Kc E P k kt)(hm:P.underlying t=iN (.map k e))(hb:w.heap[b]? = iN (.map es clock))(hs:Stamped es clock)(h:gM E w G kt vt es.toList m)
  (x:kt.den E.D) (v:vt.den E.D) {vv:R0} (hv:VT E w G (.dat vt v) vv) :
  ∃es' clock',(Instr.mapUpdate t (.map (iN b)) (kt.fJ E x) vv).run P w=.ok () {w with heap:=w.heap.setIfInBounds b (.map es' clock')}/\Stamped es' clock'/\gM E w G kt vt es'.toList (jJ (kt.dc E) m x v):=by
 rcases adf K h x w with⟨h1,h2,h3⟩|⟨j,e,p,h1,hj,h3,hp,hpk,OC⟩
 .refine⟨es.push ⟨kt.fJ E x,vv,clock⟩,clock+1,?_,stamped_push hs h3,?_⟩
  .simp[Instr.mapUpdate,run_underlying hm,abK hb,K.check,h1,MapKept.run_setObj_map _ hb]
  .unfold jJ;rw[h2,Array.toList_push];exact h.append (K.of w G x) hv
 .refine⟨es.modify j λe=>{e with key:=kt.fJ E x,val:=vv},clock,?_,stamped_modify hs _ _ (λ_ _=>rfl) (λe' _ he'=>by simp_all),?_⟩
  .simp[Instr.mapUpdate,run_underlying hm,abK hb,K.check,h1,hj,h3,K.stays,MapKept.run_setObj_map _ hb]
  .rw[ap7 K (aad K hs h) hp hpk v];have:(es.modify j λe=>{e with key:=kt.fJ E x,val:=vv}).toList=es.toList.set j {e with key:=kt.fJ E x,val:=vv}:=by apply BG si;grind
   rw[this];exact h.set j (K.of w G x) hv
theorem ang{t k:aK}{z:vt.den E.D}{zv:R0}(K:Kc E P k kt)(hm:P.underlying t=iN (.map k e))(hz:∀w,(zeroValue e).run P w=.ok zv w)(hzv:VT E w G (.dat vt z) zv)
  (hb:w.heap[b]? = iN (.map es clock)) (hs:Stamped es clock) (h:gM E w G kt vt es.toList m) (x:kt.den E.D) (c:Bool) :
  ∃u,VT E w G (.dat vt (gp (kt.dc E) m x z)) u/\(Instr.lookup t (.map (iN b)) (kt.fJ E x) c).run P w=.ok (if c then .tuple #[u,.bool (FU (kt.dc E) m x)]else u) w:=by
 rcases adf K h x w with⟨h1,h2,h3⟩|⟨j,en,p,h1,hj,h3,hp,hpk,hv⟩
 .have hf:m.find? (λp=>kt.dc E p.1 x)=iF:=by grind
  have hg:gp (kt.dc E) m x z=z:=by unfold gp;rw[hf]
  rw[hg];unfold FU;rw[h2];refine⟨zv,hzv,?_⟩;simp[Instr.lookup,run_underlying hm,abK hb,K.check,h1,hz]
 .have hf:m.find? (λp=>kt.dc E p.1 x)=iN p:=by obtain⟨hjl,hjp⟩:=fD.1 hp;rw[List.find?_eq_some_iff_getElem];refine⟨hpk,j,hjl,hjp,λq hq=>?_⟩;have hn:=VE.1 (aad K hs h) q j om hjl hq;rw[hjp,K.dc.1 hpk]at hn;cases hb:kt.dc E m[q].1 x with|false=>rfl|true=>exact(hn (K.dc.1 hb)).elim
  have hg:gp (kt.dc E) m x z=p.2:=by unfold gp;rw[hf]
  have anf:FU (kt.dc E) m x=eQ:=UB.2 ⟨p,jQ hp,hpk⟩;rw[hg,anf];refine⟨en.val,hv,?_⟩;simp[Instr.lookup,run_underlying hm,abK hb,K.check,h1]
theorem adg(hr:Rel E w0 G0 st a w G){t:aK}(ho:o.op=.makeMap t iF)(kt vt:Ty):
  kG P w0 G0 a w o {st with t:=cE st.t o.dst (.jT st.H.length),H:=st.H++[.map kt vt []]}:=by
 have hN:=hr.L5 (.map #[] 0) (.map kt vt []) ⟨#[],0,(MapKept.heap_alloc w _).1,stamped_empty 0,trivial⟩;refine⟨.value (.map (iN w.heap.size)),_,_,_,?_,.inl rfl,hN.put ?_ o.dst⟩
 .simp[M2,ho,Instr.makeMap]
 .simp[VT];rw[<-hr.boxes.len];simp
theorem YR(hE:E.Ok)(hr:Rel E w0 G0 st a w G){t k:aK}{z:dJ}(ho:o.op=.mapUpdate t x y z){zz:R0}(hm:aZ P t=iN ⟨.map k e,j1,j2,zz⟩){ik:TI}(hk:aZ P k=iN ik)(K0:YQ E P k kt ik.kind=eQ)
   (hx:st.ev x=.jT r) (hb:st.H[r]? = iN (.map kt vt m))  {vv:vt.den E.D} (hy:(st.ev y).get kt=iN kk) (hz:(st.ev z).get vt=iN vv) :
  kG P w0 G0 a w o {st with t:=cE st.t o.dst .any,H:=st.H.set r (.map kt vt (jJ (kt.dc E) m kk vv)),d:=r::st.d}:=by
 obtain⟨_,_,hum,-⟩:=aS hm;obtain⟨_,_,huk,-⟩:=aS hk;have K:=ade hE huk K0;have Bq:=hr.ev x;rw[hx]at Bq;obtain⟨b,he,hat⟩:=Bq;obtain⟨es,clock,hh,hs,hmr⟩:=hr.box hat hb;have hvk:=K.vt (TV.vW hy (hr.ev y));obtain⟨es',clock',hrun,hs',avq⟩:=aiz K hum hh hs hmr kk vv (TV.vW hz (hr.ev z));have hR:=hr.zU (w':={w with heap:=w.heap.setIfInBounds b (.map es' clock')}) hat si rfl rfl rfl (λb' hb'=>(MapKept.heap_set hh).2 b' hb') (x:=.map kt vt (jJ (kt.dc E) m kk vv))
  (λhg=>⟨es',clock',(MapKept.heap_set hh).1,hs',avq.mono hg⟩)
 refine⟨_,H5,_,G,?_,.inr ⟨rfl,rfl⟩,hR.put (by simp[VT]) o.dst⟩;simp[M2,ho,he,hvk,hrun]
theorem afE(hE:E.Ok)(hr:Rel E w0 G0 st a w G){t k:aK}{ok:Bool}(ho:o.op=.lookup t x y ok){zz:R0}(hm:aZ P t=iN ⟨.map k e,j1,j2,zz⟩){ik:TI}(hk:aZ P k=iN ik)(he':aZ P e=iN ie)(K0:YQ E P k kt ik.kind=eQ)
  (hzo:ie.zero.cells.toList.all (·.oneCell')=eQ)  (hx:st.ev x=.jT r) (hb:st.H[r]? = iN (.map kt vt m))  (hy:(st.ev y).get kt=iN kk) {z:vt.den E.D} (hz:(zV E (iN vt) ie.zero).get vt=iN z) :
  kG P w0 G0 a w o {st with t:=cE st.t o.dst (cond ok (.tuple [.dat vt (gp (kt.dc E) m kk z),.dat .bool (FU (kt.dc E) m kk)]) (.dat vt (gp (kt.dc E) m kk z)))}:=by
 obtain⟨_,_,hum,-⟩:=aS hm;obtain⟨_,_,huk,-⟩:=aS hk;have K:=ade hE huk K0;have Bq:=hr.ev x;rw[hx]at Bq;obtain⟨b,he,hat⟩:=Bq;obtain⟨es,clock,hh,hs,hmr⟩:=hr.box hat hb;have hvk:=K.vt (TV.vW hy (hr.ev y));obtain⟨u,hu,hrun⟩:=ang K hum (λw=>oC he' w) (TV.vW hz (S5 hE hzo)) hh hs hmr kk ok;refine⟨_,_,w,G,?_,.inl rfl,hr.put (v:=if ok then .tuple #[u,.bool (FU (kt.dc E) m kk)]else u) ?_ o.dst⟩
 .simp[M2,ho,he,hvk,hrun]
 .cases ok
  .exact hu
  .exact⟨_,rfl,.cons hu (.cons (.bool _ _ _) .nil)⟩
variable{c:Cn E}{L:J R0}
theorem Rel.setRow(h:Rel E w0 G0 st a w G){x x':cU}{hd hd':R0}{cs:J (Nat×Cn E)}(hj:G.g[j]? = iN (x,hd))(hle:x.aF<=x'.aF)(heq:x.aF=x'.aF->hd'=hd)(hsz:w.heap.size<=w'.heap.size)(h1:w'.os=w.os)(h2:w'.tape=w.tape)(h3:w'.output=w.output)
  (o9:∀b,b<w.heap.size->hd.ownBlock≠iN b->w'.heap[b]? = w.heap[b]?) (hcells:∀b o v,G.pr b o->w.cell? ⟨b,o,iF⟩=iN v->w'.cell? ⟨b,o,iF⟩=iN v)
  (mP:Nat->Nat->Prop) (hp:∀b o,G.pr b o->mP b o) (Ix:∀b o,mP b o->G.pr b o\/hd'.ownBlock=iN b)
  (hok:zS E w' {G with pr:=mP} x' hd') (hblk:∀b,hd'.ownBlock=iN b->w.heap.size<=b\/hd.ownBlock=iN b)
  (hcs:jc w G w' {G with g:=G.g.set j (x',hd'),pr:=mP}->lS E w' {G with g:=G.g.set j (x',hd'),pr:=mP} cs) :
  Rel E w0 G0 {st with g:=st.g.set j x',c:=cs} a w' {G with g:=G.g.set j (x',hd'),pr:=mP}:=by
 obtain⟨n0,xs0,-,-,hhd⟩:=h.boxes.grow j x hd hj;have at':∀(m:Nat) y z,(G.g.set j (x',hd'))[m]? = iN (y,z)->(m=j/\y=x'/\z=hd')\/(m≠j/\G.g[m]? = iN (y,z)):=by grind
 have hg:jc w G w' {G with g:=G.g.set j (x',hd'),pr:=mP}:=by refine⟨hp,hcells,λ_ _ h=>h,λm y z hm=>?_⟩;grind
 have Qs:=λb hb e=>(hhd b e).2.1 hb;have ev:=h.fH;have hrow:∀b,b<w0.heap.size->hd.ownBlock=iN b->G0.rows b:=λb hb e=>by
  rcases ev.iB j x hd b hj e with q|⟨y,z,q1,q2⟩
  .omega
  .exact⟨y,z,jQ q1,q2⟩
 refine⟨⟨h1.trans ev.os,h2.trans ev.tape,h3.trans ev.output,jR ev.size hsz,λb hb hn=>?_,ev.goes.trans hg,λb o hb uv=>?_,ev.sF,λm y z b hm hb=>?_⟩,h.size,
  λm d hm=>(h.tmps m d hm).mono hg,h.defers.mono hg,?_,λr b hb hd=>(o9 b (h.boxes.lt b (jQ (ev.goes.i r b hb))) (Qs b (jQ (ev.goes.i r b hb)))).trans (h.fix r b hb hd),h.pins,hcs hg⟩
 .rw[o9 b (kF hb ev.size) (λe=>hn (.inr (hrow b hb e)))];exact ev.old b hb hn
 .rcases Ix b o uv with q|q
  .exact ev.pN b o hb q
  .rcases hblk b q with q'|q'
   .have:=ev.size;omega
   simp_all
 .rcases at' m y z hm with⟨rfl,-,rfl⟩|⟨-,q⟩
  .rcases hblk b hb with q|q
   .exact .inl (jR ev.size q)
   .exact ev.iB m x hd b hj q
  .exact ev.iB m y z b q hb
 refine⟨h.boxes.len,?_,λr b y hb hy=>?_,λb hb=>kF (h.boxes.lt b hb) hsz,h.boxes.nodup,λb o uv=>?_,λm y z hm=>?_,λm m' y z y' z' b hm hm' hb hb'=>?_⟩
 .rw[<-h.boxes.gs,abG]
 .have hm:=jQ hb;exact(h.boxes.box r b y hb hy).mono hg (o9 b (h.boxes.lt b hm) (Qs b hm))
 .rcases Ix b o uv with q|q
  .exact⟨kF (h.boxes.gT b o q).1 hsz,(h.boxes.gT b o q).2⟩
  .obtain⟨n,xs,-,-,hq⟩:=hok;simp_all
 .rcases at' m y z hm with⟨-,rfl,rfl⟩|⟨hne,q⟩
  .exact hok
  .obtain⟨n,xs,ho,hz,hq⟩:=h.boxes.grow m y z q;refine⟨n,xs,⟨ho.1,?_⟩,hz,λb hb=>?_⟩
   .rcases ho.2 with q2|⟨g,cap,cur,q2,q3,q4,q5⟩
    .exact .inl q2
    .have wY:z.ownBlock=iN g:=by rw[q2];rfl
     refine .inr ⟨g,cap,cur,q2,q3,?_,q5⟩;rw[o9 g (hq g wY).1 (λe=>hne (h.boxes.apart m j y z x hd g q hj wY e))];exact q4
   .obtain⟨p1,p2,p3⟩:=hq b hb;refine⟨kF p1 hsz,p2,λo ho' uv=>?_⟩;rcases Ix b o uv with q'|q'
    .exact p3 o ho' q'
    .rcases hblk b q' with Qt|Qt
     .omega
     .exact hne (h.boxes.apart m j y z x hd b q hj hb Qt)
 .have key:∀(m:Nat) y z,m≠j->G.g[m]? = iN (y,z)->z.ownBlock=iN b->hd'.ownBlock=iN b->False:=by
   intro m y z hne q hb hb';obtain⟨n,xs,-,-,hq⟩:=h.boxes.grow m y z q;rcases hblk b hb' with Qt|Qt
   .grind
   .exact hne (h.boxes.apart m j y z x hd b q hj hb Qt)
  rcases at' m y z hm with⟨e1,-,e2⟩|⟨hne,q⟩<;>rcases at' m' y' z' hm' with⟨e1',-,e2'⟩|⟨am6,q'⟩
  .rw[e1,e1']
  .grind
  .grind
  .exact h.boxes.apart m m' y z y' z' b q q' hb hb'
theorem Rel.Cp(hr:Rel E w0 G0 st a w G)(hg:st.g[j]? = iN g):∃h,G.g[j]? = iN (g,h):=by rw[<-hr.boxes.gs]at hg;simp_all
theorem Rel.soft(hr:Rel E w0 G0 st a w G)(hg:st.g[j]? = iN g)(hc:qc st.c j=iN c):
  ∃h,G.g[j]? = iN (g,h)/\um E w G g h c/\(∀v,VT E w G (.eF j g.aF) v->v=h):=by
 obtain⟨h,hh⟩:=hr.Cp hg;obtain⟨x,h',h1,h2⟩:=hr.gU j c (UW hc);simp_all[VT]
theorem um.block{x:cU}{h:R0}(hs:um E w G x h c):(h=.slice iF 0 0/\c.2=[])\/∃(b cap:Nat)(cur:aJ R0),h=.slice (iN ⟨b,0,iF⟩) c.2.length cap/\w.heap[b]? = iN (.cells cur x.e (0,0))/\c.2.length<=cap/\cap<=maxLen/\cur.size=cap*x.k /\
  Flat w G.pr x.k (cur.toList.take (c.2.length*x.k)) (c.2.map (c.1.cells E))/\∀o,¬ G.pr b o:=by
 obtain⟨h1,h2,⟨vals,ho,hf⟩,hp⟩:=hs;rcases ho.2 with⟨q1,q2⟩|⟨b,cap,cur,q1,q2,q3,q4,q5,q6,q7⟩
 .simp_all
 .refine .inr ⟨b,cap,cur,q1,q3,q4,q5,q6,?_,hp b (by rw[q1];rfl)⟩;rw[q7];exact hf
theorem aae{e:Nat}(hk:k=T.size E)(hh:w.heap[b]? = iN (.cells cur e (0,0)))(hf:Flat w G.pr k (cur.toList.take (Sx xs*k)) (xs.map (T.cells E)))(hle:Sx xs*k<=cur.size)(hi:i<Sx xs):
  ∃vs:J R0,LD w G.pr vs (T.cells E (xs.getD i (T.dflt E)))/\vs.length=k/\vs=(cur.toList.drop (i*k)).take k/\∀(l:Nat) u,vs[l]? = iN u->w.cell? ⟨b,i*k+l,iF⟩=iN u:=by
 have hlen:(T.cells E (xs.getD i (T.dflt E))).length=k:=by have:=hf.2.1 i (by simpa using hi);simp_all
 have hik:i*k+k<=Sx xs*k:=by have:=AK k hi;grind
 have hvl:((cur.toList.drop (i*k)).take k).length=k:=by simp;omega
 refine⟨(cur.toList.drop (i*k)).take k,LD.YM (by rw[hvl,hlen]) (λl hl=>?_),hvl,rfl,λl u hl=>?_⟩
 .rw[hlen]at hl;have:=hf.2.2 i l (by simpa using hi) hl;grind
 grind[cell_of_row]
theorem um.len{x:cU}{h:R0}(hs:um E w G x h c){xs:J R0}(ho:w.ownsRow 0 x.e x.k h n xs):n=c.2.length:=by
 rcases hs.block with⟨h1,h2⟩|⟨b,cap,cur,h1,-⟩
 .rcases ho.2 with⟨-,q⟩|⟨g,cap',cur',q1,-⟩
  .rw[q,h2];rfl
  simp_all
 .rcases ho.2 with⟨q,-⟩|⟨g,cap',cur',q1,-⟩
  .rw[h1]at q;cases q
  simp_all
theorem Rel.ar5(hr:Rel E w0 G0 st a w G)(hg:st.g[j]? = iN g)(hc:qc st.c j=iN c):
  ∃G',Rel E w0 G0 {st with c:=oV j st.c} a w G'/\jc w G w G'/\∀v,VT E w G (.eF j g.aF) v->VT E w G' (.dat (.bx c.1) c.2) v:=by
 obtain⟨h,hj,hs,hval⟩:=hr.soft hg hc;obtain⟨n0,xs0,VU,Qx,hb0⟩:=hr.boxes.grow j g h hj;have ev:=hr.fH
 let mP:Nat->Nat->Prop:=λb o=>G.pr b o\/(h.ownBlock=iN b/\o<c.2.length*g.k)
 have vT:jc w G w {G with pr:=mP}:=⟨λ_ _ h=>.inl h,λ_ _ _ _ h=>h,λ_ _ h=>h,λj x y hj=>⟨x,y,hj,eE _,λ_=>rfl⟩⟩;have hk:=hs.1;refine⟨{G with pr:=mP},⟨⟨ev.os,ev.tape,ev.output,ev.size,ev.old,ev.goes.trans vT,λb o hb hp=>?_,ev.sF,ev.iB⟩,hr.size,λj d hj=>(hr.tmps j d hj).mono vT,hr.defers.mono vT,?_,hr.fix,hr.pins,?_⟩,vT,λv hv=>?_⟩
 .rcases hp with hp|⟨hp,-⟩
  .exact ev.pN b o hb hp
  .rcases ev.iB j g h b hj hp with q|⟨x0,h0,q1,q2⟩
   .omega
   .exact .inr ⟨x0,h0,jQ q1,q2⟩
 .refine⟨hr.boxes.len,hr.boxes.gs,λr b x hb hx=>(hr.boxes.box r b x hb hx).mono vT rfl,hr.boxes.lt,hr.boxes.nodup,λb o hp=>?_,λm x hd hm=>?_,hr.boxes.apart⟩
  .rcases hp with hp|⟨hp,-⟩
   .exact hr.boxes.gT b o hp
   simp_all
  .obtain⟨n',xs',ho',hz',hb'⟩:=hr.boxes.grow m x hd hm;refine⟨n',xs',ho',hz',λb hbk=>⟨(hb' b hbk).1,(hb' b hbk).2.1,λo hno hp=>?_⟩⟩;rcases hp with hp|⟨hp,hlt⟩
   .simp_all
   .have hmj:=hr.boxes.apart m j x hd g h b hm hj hbk hp;subst hmj;rw[hj]at hm;cases hm;have:=hs.len ho';grind
 .intro i c' hm;obtain⟨hm,hne⟩:=uT hm;obtain⟨x,hd,h1,h2⟩:=hr.gU i c' hm;refine⟨x,hd,h1,h2.keep rfl rfl vT.pr vT.cells λb hbk=>⟨rfl,λo hp=>?_⟩⟩;rcases hp with hp|⟨hp,-⟩
  .exact hp
  .exact(hne (hr.boxes.apart i j x hd g h b h1 hj hbk hp)).elim
 .rw[hval v hv];rcases hs.block with⟨h1,h2⟩|⟨b,cap,cur,h1,hheap,hcap,hcm,hcs,hf,-⟩
  .rw[h1,h2];exact .list (.wM _ _)
  .refine .list ?_;have hl:(c.2.map (c.1.cells E)).length=c.2.length:=by simp
   have:=Qv (b:=b) (by rw[hl];exact hcap) (λq hq=>?_) (hf.mono vT.pr vT.cells)
   .simp_all
   .rw[hl]at hq;refine⟨.inr ⟨by rw[h1];rfl,hq⟩,?_⟩;rw[cell_of_row w b q cur g.e (0,0) hheap];simp_all
theorem Flat.take{es:J (J DV)}(h:Flat w pr k L es)(hi:i<=Sx es):Flat w pr k (L.take (i*k)) (es.take i):=by
 have hik:i*k<=L.length:=by rw[h.1];exact AK k hi
 have hl:(es.take i).length=i:=by simp;omega
 refine⟨by simp_all,λj hj=>?_,λj l hj hl'=>?_⟩
 .have:(es.take i).getD j []=es.getD j []:=by grind
  rw[this];exact h.2.1 j om
 .have e1:(es.take i).getD j []=es.getD j []:=by grind
  have e2:(L.take (i*k)).getD (j*k+l) H5=L.getD (j*k+l) H5:=by have:=Qu hj hl';grind
  rw[e1,e2];exact h.2.2 j l om hl'
theorem Flat.drop{es:J (J DV)}(h:Flat w pr k L es)(hi:i<=Sx es):Flat w pr k (L.drop (i*k)) (es.drop i):=by
 have hl:(es.drop i).length=Sx es-i:=by simp
 have hgd:∀j,(es.drop i).getD j []=es.getD (i+j) []:=λj=>by simp_all
 refine⟨by rw[BL,hl,h.1,Nat.sub_mul],λj hj=>?_,λj l hj hl'=>?_⟩
 .rw[hgd];exact h.2.1 _ om
 .rw[hgd];have e2:(L.drop (i*k)).getD (j*k+l) H5=L.getD ((i+j)*k+l) H5:=by grind
  rw[e2];exact h.2.2 (i+j) l om hl'
theorem Flat.single{us:J R0}{e:J DV}(h:LD w pr us e)(hk:Sx us=k):Flat w pr k us [e]:=by have hl:=h.length;have:=Flat.YN (w:=w) (pr:=pr) (k:=k) (rows:=[us]) (es:=[e]) rfl (λj hj=>by simp_all) (λj hj=>by simp_all);simpa using this
theorem Flat.splice{es fs:J (J DV)}(h:Flat w pr k L es)(h':Flat w pr k news fs){p:Nat}(hp:p+Sx fs<=Sx es):
  Flat w pr k (L.take (p*k)++news++L.drop (p*k+news.length)) (es.take p++fs++es.drop (p+Sx fs)):=by
 have h1:=h.take (i:=p) om;have h2:=h.drop om;have e:p*k+news.length=(p+Sx fs)*k:=by rw[h'.1,SD]
 rw[e];exact(h1.append h').append h2
theorem afF(cur news:J R0){o:Nat}(h:o+news.length<=n)(hn:n<=cur.length):(cur.take o++news++cur.drop (o+news.length)).take n=(cur.take n).take o++news++(cur.take n).drop (o+news.length):=by
 have h1:(cur.take o++news).length=o+news.length:=by simp;omega
 rw[ahH,va (l:=cur.take o++news) om,h1,abL,show min o n=o by omega,List.drop_take]
theorem Ny{α:Type}{l:J α}{x:α}(h:l[j]? = iN x):l.set j x=l:=by grind[List.set_getElem_self]
theorem Rel.akP(hr:Rel E w0 G0 st a w G)(hg:st.g[j]? = iN g)(hc:qc st.c j=iN c){new:aJ R0}(hj:G.g[j]? = iN (g,.slice (iN ⟨b,0,iF⟩) c.2.length cap))
  (hheap:w.heap[b]? = iN (.cells cur g.e (0,0))) (hsz:new.size=cur.size) {xs':J (c.1.den E.D)} (hl:xs'.length=c.2.length) (hf:Flat w G.pr g.k (new.toList.take (xs'.length*g.k)) (xs'.map (c.1.cells E))) :
  Rel E w0 G0 {st with c:=(j,⟨c.1,xs'⟩)::oV j st.c} a (w.setRow b new) G:=by
 obtain⟨h,hj',hs,-⟩:=hr.soft hg hc;rw[hj]at hj';cases hj';rcases hs.block with⟨h1,-⟩|⟨b',cap',cur',h1,Iz,hcap,hcm,hcs,hf0,hnp⟩
 .cases h1
 obtain⟨rfl,rfl⟩:=h1;rw[hheap]at Iz;cases Iz;obtain⟨n0,xs0,VU,Qx,hb0⟩:=hr.boxes.grow j g _ hj;have ZT:=hb0 b rfl;have hnew:(w.setRow b new).heap[b]? = iN (.cells new g.e (0,0)):=setRow_heap w b cur _ g.e _ hheap;have FR:∀b',b'≠b->(w.setRow b new).heap[b']? = w.heap[b']?:=λb' hb'=>setRow_other w b b' _ hb';have hown:(w.setRow b new).ownsRow 0 g.e g.k (.slice (iN ⟨b,0,iF⟩) c.2.length cap) c.2.length (new.toList.take (c.2.length*g.k)):=by refine⟨?_,.inr ⟨b,cap,new,rfl,fF _,hnew,hcap,hcm,by rw[hsz];exact hcs,rfl⟩⟩;simp_all
 have nX:=Ny hj;have hcells:∀b' o v,G.pr b' o->w.cell? ⟨b',o,iF⟩=iN v->(w.setRow b new).cell? ⟨b',o,iF⟩=iN v:=λb' o v hp hv=>by
  have:b'≠b:=λe=>by subst e;exact hnp o hp
  rw[SC (FR b' this)];exact hv
 have key:=hr.setRow (cs:=(j,⟨c.1,xs'⟩)::oV j st.c) hj (eE _) (λ_=>rfl) (w':=w.setRow b new) si rfl rfl rfl
  (λb' _ hne=>FR b' (λe=>hne (by rw[e];rfl))) hcells G.pr (λ_ _ h=>h) (λ_ _ h=>.inl h)
  ⟨c.2.length,_,hown,Qx,λb' hb'=>by cases hb';simp_all⟩ (λ_ h=>.inr h) (λhg'=>?_)
 .simp_all[Ny]
 .intro i c' hm;rcases gL.1 hm with e|hm
  .cases e;refine⟨g,_,by rw[nX];exact hj,hs.1,hs.2.1,⟨_,by rw[hl];exact hown,?_⟩,λb' hb' o hp=>by cases hb';exact hnp o hp⟩;rw[<-hl];exact hf.mono hg'.pr hg'.cells
  .obtain⟨hm,hne⟩:=uT hm;obtain⟨x,hd,h1,h2⟩:=hr.gU i c' hm;refine⟨x,hd,by rw[nX];exact h1,h2.keep rfl rfl hg'.pr hg'.cells λb' hb'=>⟨FR b' (λe=>?_),λo hp=>hp⟩⟩;subst e;exact hne (hr.boxes.apart i j x hd g _ b' h1 hj hb' rfl)
def abV(P:bw)(st:TS E):Op->O (Bool×TV E)
 | .indexAddr t x ix=>match aZ P t,st.ev ix with
  | some ⟨.slice e,_,_,_⟩,.dat (.int _) n=>match aZ P e,st.ev x with
   | some i,.eF j aF=>match st.g[j]?,qc st.c j with
    | some g,iN c=>iN (dO g.aF aF&&(dO i.size (c.1.size E)&&(eJ (0<=n)&&eJ (n<(c.2.length:Int)))),.iX j aF (c.1.size E) (eI n) 0)|_,_=>iF
   | _,_=>iF
  | _,_=>iF
 | .fieldAddr s x f=>match aZ P s,st.ev x with
  | some ⟨.struct fs,_,_,_⟩,.iX j aF k i off=>match fs[f]? with
   | some fd=>match aZ P fd.type,st.g[j]? with
    | some fi,iN g=>iN (!(dO fi.size 0)&&dO g.aF aF,.iX j aF k i (off+fd.offset))|_,_=>iF
   | none=>iF
  | _,_=>iF
 | .nilCheck x=>match st.ev x with
  | .iX j aF k i off=>match st.g[j]? with
   | some g=>iN (dO g.aF aF,.iX j aF k i off)|none=>iF
  | _=>iF
 | .call c=>match c.callee,c.args.toList,c.argTypes.toList with
  | .builtin .len,[x],[t]=>match aZ P t,st.ev x with
   | some ⟨.slice _,_,_,_⟩,.eF j aF=>match st.g[j]?,qc st.c j with
    | some g,iN c=>iN (dO g.aF aF,.dat (.int .i64) (c.2.length:Int))|_,_=>iF
   | _,_=>iF
  | _,_,_=>iF
 | _=>iF
theorem Rel.iX(hr:Rel E w0 G0 st a w G)(hg:st.g[j]? = iN g)(hv:VT E w G (.iX j g.aF k i off) v):∃b m cap,G.g[j]? = iN (g,.slice (iN ⟨b,0,iF⟩) m cap)/\i<m/\v=.pointer (iN ⟨b,i*k+off,iF⟩):=by obtain⟨h,hh⟩:=hr.Cp hg;grind[VT]
def YS{m:Nat}(hj:G.g[j]? = iN (g,.slice (iN ⟨b,0,iF⟩) m cap))(hi:i<m):VT E w G (.iX j g.aF k i off) (.pointer (iN ⟨b,i*k+off,iF⟩)):=⟨g,_,hj,eE _,rfl,λ_=>⟨b,m,cap,rfl,hi,rfl⟩⟩
theorem afG(hE:E.Ok)(hr:Rel E w0 G0 st a w G){d:TV E}{cc:Bool}(h:abV P st o.op=iN (cc,d))(hc:cc=eQ):jW P a w G o d:=by
 cases ho:o.op<;>rw[ho]at h<;>simp only[abV]at h<;>try trivial
 case indexAddr t x ix=>
  split at h<;>try trivial
  rename_i e j1 j2 z kd n ht hn;obtain⟨xt,kI,eL,-⟩:=aS ht;obtain⟨n,hn0⟩:∃m:Int,m=n:=⟨n,rfl⟩;subst hn0;have Fa:=hr.ev ix;rw[hn]at Fa;have Wn:=Fa.gD;split at h<;>try trivial
  .rename_i i j aF hi hx;obtain⟨xe,sw,Ci,hsz,-⟩:=aS hi;split at h<;>try trivial
   rename_i g c hg hcg;cases h;simp only[cH,fO]at hc;obtain⟨c1,c2,c3,c4⟩:=hc;have c1:=fm c1;have c3:(0:Int)<=n:=c3;have c4:n<(c.2.length:Int):=c4;subst c1;obtain⟨hh,hj,hs,hval⟩:=hr.soft hg hcg;have hv:=hr.ev x;rw[hx]at hv;have mR:=hval _ hv;rcases hs.block with⟨h1,h2⟩|⟨b,cap,cur,h1,-⟩
   .grind
   rw[h1]at hj mR;refine gE (f:=λρ=>Instr.indexAt t (ρ x) (ρ ix)) (by simp[M2,ho]) ⟨_,YS (i:=n.toNat) (off:=0) hj om,λw' hs=>?_⟩;rw[mR,Wn];unfold Instr.indexAt asIntOf;simp only[jF,qw,kn,aW eL];simp_all[and_self,if_true,jF,fP,kn,qw,add_lit,sC,PJ]
 case fieldAddr s x f=>
  split at h<;>try trivial
  rename_i fs j1 j2 z j aF k i off ht hx;split at h<;>try trivial
  rename_i fd hf;split at h<;>try trivial
  rename_i fi g hi hg;cases h;simp only[cH,wL]at hc;obtain⟨c1,c2⟩:=hc;have c2:=fm c2;have hz:fi.size≠0:=λe=>by rw[e]at c1;cases c1
  subst c2;have hv:=hr.ev x;rw[hx]at hv;obtain⟨b,m,cap,hj,hlt,mR⟩:=hr.iX hg hv;obtain⟨xt,kI,eL,-⟩:=aS ht;obtain⟨xf,hxf,-,hsf,-⟩:=aS hi;refine gE (f:=λρ=>Instr.fieldAt s (ρ x) f) (by simp[M2,ho]) ⟨_,YS (i:=i) (off:=off+fd.offset) hj hlt,λw' hs=>?_⟩;rw[mR];unfold Instr.fieldAt Instr.sureAddr;simp only[jF,qw,kn,aW eL,hf];simp[fieldPlace,fP hxf,hsf,hz,add_lit,St]
 case nilCheck x=>
  split at h<;>try trivial
  rename_i j aF k i off hx;split at h<;>try trivial
  rename_i g hg;cases h;have c1:=fm hc;subst c1;have hv:=hr.ev x;rw[hx]at hv;obtain⟨b,m,cap,hj,hlt,mR⟩:=hr.iX hg hv;refine⟨a.eval x,hv,λw' _=>?_⟩;simp[M2,ho,mR]
 case call c'=>
  split at h<;>try trivial
  rename_i x t hcl ha hat;have hU:c'.args=#[x]:=by grind
  have zJ:c'.argTypes=#[t]:=by grind
  split at h<;>try trivial
  .rename_i e j1 j2 z j aF ht hx;split at h<;>try trivial
   rename_i g c hg hcg;cases h;have c1:=fm hc;subst c1;obtain⟨hh,hj,hs,hval⟩:=hr.soft hg hcg;have hv:=hr.ev x;rw[hx]at hv;have mR:=hval _ hv;have hlen:∃ad cap,hh=.slice ad c.2.length cap:=by
    rcases hs.block with⟨h1,h2⟩|⟨b,cap,cur,h1,-⟩
    .simp_all
    .exact⟨_,_,h1⟩
   obtain⟨ad,cap,hlen⟩:=hlen;obtain⟨xt,kI,eL,-⟩:=aS ht;refine⟨_,.int _ _ _ _,λw' hs=>?_⟩;unfold M2;simp only[ho,resolve,hcl,jF,qw,kn,invoke,builtin,hU,zJ,List.map_toArray,jb,BI];rw[mR,hlen];simp[Builtin.len_,aW eL,goInt]
def WH(P:bw)(ty:aK->O Ty)(st:TS E)(o:Op):O (Bool×TV E):=match WD P ty st o with|some x=>iN x|none=>abV P st o
theorem adh(hE:E.Ok)(hr:Rel E w0 G0 st a w G){d:TV E}{c:Bool}(h:WH P ty st o.op=iN (c,d))(hc:c=eQ):jW P a w G o d:=by grind[WH,ac8,afG]
def aiA(T:Ty)(k:TypeDesc)(d:TV E):O (J (T.den E.D)):=
 match k,d with
 | .string,.dat .str l=>if h:T=.int .u8 then iN (h▸cW l)else iF
 | .slice _,d=>d.get (.bx T)|_,_=>iF
def aaf(P:bw)(src dst t':aK)(n off:Nat):Bool:=
 match P.underlying src,P.underlying dst with
 | some (.pointer t),iN .unsafePointer=>match aZ P t with
  | some i=>!(dO i.size 0)&&bY off n|none=>eK
 | some .unsafePointer,iN (.pointer t)=>match aZ P t with
  | some _=>liesAt P P.depth t' (n / P.cellsOf t') off t 1|none=>eK
 | _,_=>eK
def ar6(P:bw)(e:aK):Bool:=match aZ P e with|some ⟨.int .u8,_,_,_⟩=>eQ|_=>eK
def aiB(P:bw)(ty:aK->O Ty)(st:TS E)(dst:O Nat)(c:Call):O (Bool×TS E):=
 match c.callee,c.args.toList,c.argTypes.toList with
 | .builtin .append,[x,y],[t,tx]=>match aZ P t,aZ P tx with
  | some ⟨.slice e,_,_,_⟩,iN ix=>match aZ P e,ty e with
   | some ie,iN T=>match aiA T ix.kind (st.ev y)with
    | some ys=>match st.ev x with
     | .cz j aF T' xs=>match st.g[j]? with
      | some g=>if hT:T'=T then
        iN (!(Qo st.c j)&&(dO g.aF aF&&(dO g.e e&&(dO g.k ie.size&&(dO ie.size (T.size E)&&(bY 0 ie.size&&(dO ie.zero.cells.size ie.size &&
          (eJ (Sx xs+Sx ys<=9223372036854775807)&&eJ ((Sx xs+Sx ys)*ie.bytes<=140737488355328)))))))),
         {st with t:=cE st.t dst (.cz j (g.aF+1) T ((hT▸xs:J (T.den E.D))++ys)),g:=st.g.set j {g with aF:=g.aF+1}})
       else iF
      | none=>iF
     | .val (.slice iF 0 0)=>iN (dO ie.size (T.size E)&&(bY 0 ie.size&&(dO ie.zero.cells.size ie.size&&(eJ (Sx ys<=9223372036854775807)&&eJ (Sx ys*ie.bytes<=140737488355328)))),
       {st with t:=cE st.t dst (.cz st.g.length 1 T ys),g:=st.g++[⟨1,e,ie.size⟩]})
     | _=>iF
    | none=>iF
   | _,_=>iF
  | _,_=>iF
 | .builtin .unsafeString,[x,y],[pt,it]=>match aZ P pt,st.ev x,st.ev y with
  | some ⟨.pointer e,_,_,_⟩,.Ua j aF xs,.dat (.int .i64) n=>match st.g[j]? with
   | some g=>iN (!(Qo st.c j)&&(dO (P.cellsOf e) 1&&(dO g.aF aF&&(dO g.e e&&(dO g.k 1&&(eJ (n=(Sx xs:Int))&&(LZ xs&&eJ (Sx xs<=9223372036854775807))))))),
     {st with t:=cE st.t dst (.dat .str (cu xs)),g:=st.g.set j {g with aF:=g.aF+1}})
   | none=>iF
  | _,_,_=>iF
 | _,_,_=>iF
def WI(P:bw)(ty:aK->O Ty)(st:TS E)(dst:O Nat):Op->O (Bool×TS E)
 | .alloc t=>match aZ P t with
  | some i=>iN (i.zero.cells.toList.all (·.oneCell'),{st with t:=cE st.t dst (.ptr st.H.length 0),H:=st.H++[.cells t (i.zero.cells.toList.map TV.L3)]})
  | none=>iF
 | .box t x=>match (st.ev x).qt with
  | some cs=>iN (eQ,{st with t:=cE st.t dst (.ptr st.H.length 0),H:=st.H++[.cells t cs]})
  | none=>iF
 | .store t x y=>match aZ P t,st.ev x,(st.ev y).qt with
  | some i,.ptr r off,iN ds=>match st.H[r]? with
   | some (.cells t' cs)=>iN (dO ds.length i.size&&iO (off+i.size) cs.length,{st with t:=cE st.t dst .any,H:=st.H.set r (.cells t' (cs.take off++ds++cs.drop (off+Sx ds))),d:=r::st.d})
   | _=>iF
  | _,_,_=>iF
 | .buildSlice t len parts=>match aZ P t with
  | some ⟨.slice e,_,_,_⟩=>match aZ P e,ty e with
   | some ie,iN T=>match pO T (parts.toList.map λp=>st.ev p.2)with
    | some xs=>cond (dO len 0)
      (cond (E.zc e) (iN (parts.toList.isEmpty&&dO ie.size (T.size E),{st with t:=cE st.t dst (.cz st.g.length 0 T []),g:=st.g++[⟨0,e,ie.size⟩]}))
       (iN (parts.toList.isEmpty,{st with t:=cE st.t dst (.dat (.bx T) [])})))
      (iN (eJ (parts.toList.map (·.1)=aT len)&&(iO (len*ie.size) 16777216&&(bY 0 ie.size&&dO ie.size (T.size E))),
       {st with t:=cE st.t dst (.cz st.g.length 0 T xs),g:=st.g++[⟨0,e,ie.size⟩]}))
    | none=>iF
   | _,_=>iF
  | _=>iF
 | .call c=>aiB P ty st dst c|.convert src dt x=>match st.ev x with
  | .ptr r off=>match st.H[r]? with
   | some (.cells t' cs)=>iN (aaf P src dt t' cs.length off,{st with t:=cE st.t dst (.ptr r off)})
   | _=>iF
  | d=>match d.L4,aZ P src,aZ P dt with
   | some ⟨.int .u8,xs⟩,iN ⟨.slice e,_,_,_⟩,iN ⟨.string,_,_,_⟩=>iN (ar6 P e,{st with t:=cE st.t dst (.dat .str (cu xs))})
   | _,_,_=>iF
 | .makeMap t iF=>match aZ P t with
  | some ⟨.map k e,_,_,_⟩=>match ty k,ty e with
   | some kt,iN vt=>iN (eQ,{st with t:=cE st.t dst (.jT st.H.length),H:=st.H++[.map kt vt []]})
   | _,_=>iF
  | _=>iF
 | .mapUpdate t x y z=>match aZ P t,st.ev x with
  | some ⟨.map k e,_,_,_⟩,.jT r=>match st.H[r]?,aZ P k with
   | some (.map kt vt m),iN ik=>match (st.ev y).get kt,(st.ev z).get vt with
    | some kk,iN vv=>iN (YQ E P k kt ik.kind,{st with t:=cE st.t dst .any,H:=st.H.set r (.map kt vt (jJ (kt.dc E) m kk vv)),d:=r::st.d})
    | _,_=>iF
   | _,_=>iF
  | _,_=>iF
 | .lookup t x y ok=>match aZ P t,st.ev x with
  | some ⟨.map k e,_,_,_⟩,.jT r=>match st.H[r]?,aZ P k,aZ P e with
   | some (.map kt vt m),iN ik,iN ie=>match (st.ev y).get kt,(zV E (iN vt) ie.zero).get vt with
    | some kk,iN z=>iN (YQ E P k kt ik.kind&&ie.zero.cells.toList.all (·.oneCell'),
      {st with t:=cE st.t dst (cond ok (.tuple [.dat vt (gp (kt.dc E) m kk z),.dat .bool (FU (kt.dc E) m kk)]) (.dat vt (gp (kt.dc E) m kk z)))})
    | _,_=>iF
   | _,_,_=>iF
  | _,_=>iF
 | _=>iF
theorem YT(hr:Rel E w0 G0 st a w G)(QB:aZ P tx=iN ix)(hk0:0<T.size E)(h:aiA T ix.kind (st.ev y)=iN ys):
  ∃news,Src P (T.size E) tx (a.eval y) ys.length news w/\Flat w G.pr (T.size E) news (ys.map (T.cells E)):=by
 unfold aiA at h;split at h
 .split at h
  .rename_i hT;subst hT;grind[aiw,cW,Ty.size]
  .cases h
 .rename_i e' hk;have hv:=TV.vW h (hr.ev y);exact ana hr QB hk hk0 (hv.atom rfl).uS
 .cases h
theorem U0(hr:Rel E w0 G0 st a w G){t:aK}(ho:o.op=.buildSlice t 0 parts)(ht:aZ P t=iN ⟨.slice e,j1,j2,z⟩)(hi:aZ P e=iN ie)(hp:parts.toList=[])(T:Ty):
  kG P w0 G0 a w o {st with t:=cE st.t o.dst (.dat (.bx T) [])}:=by
 obtain⟨xt,kI,eL,-⟩:=aS ht;obtain⟨xe,sw,Ci,hsz,-⟩:=aS hi;have hp':parts=#[]:=by simp_all
 have hG:=hr.grow (fI.alloc w (.cells #[] e)) rfl rfl rfl G.pr (λ_ _ h=>h) (λ_ _ _ h=>h) (λb o hp=>kF (hr.boxes.gT b o hp).1 si);refine⟨.value (.slice (iN ⟨w.heap.size,0,iF⟩) 0 0),_,w.alloc (.cells #[] e),_,?_,.inl rfl,hG.put (.list (.wM _ _)) o.dst⟩;simp[M2,ho,Instr.buildSlice,aW eL,fP sw,hp'];simp[newRow,Instr.fill];grind
theorem U1(hr:Rel E w0 G0 st a w G){t:aK}(ho:o.op=.buildSlice t 0 parts)(ht:aZ P t=iN ⟨.slice e,j1,j2,z⟩)(hi:aZ P e=iN ie)(hp:parts.toList=[])(hz:E.zc e=eQ)(T:Ty)(hk:ie.size=T.size E):
  kG P w0 G0 a w o {st with t:=cE st.t o.dst (.cz st.g.length 0 T []),g:=st.g++[⟨0,e,ie.size⟩]}:=by
 obtain⟨xt,kI,eL,-⟩:=aS ht;obtain⟨xe,sw,Ci,hsz,-⟩:=aS hi;have hp':parts=#[]:=by simp_all
 have hG:=hr.ap6 (k:=ie.size) hz;refine⟨.value (.slice (iN ⟨w.heap.size,0,iF⟩) 0 0),_,w.alloc (.cells #[] e),_,?_,.inl rfl,hG.put ?_ o.dst⟩
 .simp[M2,ho,Instr.buildSlice,aW eL,fP sw,hp'];simp[newRow,Instr.fill];grind
 .exact⟨.wM _ _,⟨0,e,ie.size⟩,.slice (iN ⟨w.heap.size,0,iF⟩) 0 0,by rw[<-hr.rG];simp,eE _,λ_=>rfl⟩
theorem afH(hE:E.Ok)(hr:Rel E w0 G0 st a w G){st':TS E}{c:Bool}(h:WI P ty st o.dst o.op=iN (c,st'))(hc:c=eQ):kG P w0 G0 a w o st':=by
 cases ho:o.op<;>rw[ho]at h<;>simp only[WI]at h<;>try trivial
 case alloc t=>grind[aiv]
 case box t x=>grind[am9]
 case store t x y=>grind[ait,Nat.eq_of_beq_eq_true,Nat.le_of_ble_eq_true]
 case buildSlice t len parts=>
  split at h<;>try trivial
  rename_i e j1 j2 z ht;split at h<;>try trivial
  rename_i ie T hi hT;split at h<;>try trivial
  rename_i xs hx;cases hl:dO len 0<;>rw[hl]at h<;>simp only[aQ,aI]at h
  .cases h;simp only[cH,fO]at hc;have h0:len≠0:=λe=>by subst e;cases hl
   exact WA hE hr ho ht hi hc.1 (lY hc.2.1) (lY hc.2.2.1) om (fm hc.2.2.2) hx
  .obtain rfl:=fm hl;cases hz:E.zc e<;>rw[hz]at h<;>simp at h<;>cases h
   .grind[U0]
   grind[U1,Nat.eq_of_beq_eq_true]
 case convert src dt x=>
  split at h
  .rename_i r off hd;split at h<;>try trivial
   rename_i t' cs hb;cases h;refine ac9 hr ho hd hb ?_;unfold aaf at hc;split at hc<;>try trivial
   .rename_i t hs hdt;split at hc<;>try trivial
    rename_i i hi;simp only[cH,wL]at hc;exact .inl ⟨t,i,hs,hdt,hi,λe=>(by simp_all),lY hc.2⟩
   grind
  grind[ar6,QD,TV.J9]
 case makeMap t res=>grind[adg]
 case mapUpdate t x y z=>grind[YR]
 case lookup t x y ok=>grind[afE]
 case call c'=>
  unfold aiB at h;split at h<;>try trivial
  .split at h<;>try trivial
   split at h<;>try trivial
   split at h<;>try trivial
   split at h<;>try trivial
   .split at h<;>try trivial
    split at h<;>try trivial
    cases h;simp only[cH,fO]at hc;obtain⟨c0,c1,c2,c3,c4,c5,c6,c7,c8⟩:=hc;have c0:=Ns (by simpa using c0);have c5:=lY c5;grind[YT,afA,Nat.eq_of_beq_eq_true]
   .cases h;simp only[cH,fO]at hc;obtain⟨c4,c5,c6,c7,c8⟩:=hc;have c5:=lY c5;grind[YT,YP,Nat.eq_of_beq_eq_true]
  .rename_i x y pt it hcl ha hat;split at h<;>try trivial
   rename_i e j1 j2 z j aF xs n hp hx hy;split at h<;>try trivial
   rename_i g hg;cases h;simp only[cH,fO]at hc;obtain⟨c0,c1,c2,c3,c4,c5,c6,c7⟩:=hc;have c0:=Ns (by simpa using c0);exact Tw (j3:=0) (j4:=0) (z2:=H5) hr ho hcl ha hat hp (fm c1) hx hg c0 (fm c2) (fm c3) (fm c4) hy c5 c6 c7
