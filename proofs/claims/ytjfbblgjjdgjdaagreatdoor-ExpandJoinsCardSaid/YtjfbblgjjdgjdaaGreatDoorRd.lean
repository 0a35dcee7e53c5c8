import Derived.Test.YtjfbblgjjdgjdaaGreatDoorAl
open Go.Op renaming bytesLess->pD
open UInt8 renaming ofNat->lL
open Nat renaming ble->iO,beq->eI,blt->dE
open Option renaming some->iN,none->iF
open Bool renaming true->hJ,false->eQ
open Decidable renaming decide->eK
open Int renaming toNat->eJ
open List renaming range->bY,length->Ts
open BitVec renaming ofInt->W0
open Go renaming Value->T1,execOp->R0,undef->M2,FuncId->H5,Oper->H3,wpList->H2
set_option linter.all false
namespace Go.RT
inductive Ty where
 | int (k:IntKind)|bool|str|bz (t:Ty)|unit|pair (a b:Ty)|ext (i:Nat)
 deriving DecidableEq,Inhabited
@[reducible] def Ty.den (D : Nat -> Type) : Ty -> Type
 | .int _=>Int|.bool=>Bool|.str=>J UInt8|.bz t=>J (t.den D)|.unit=>Unit|.pair a b=>a.den D×b.den D|.ext i=>D i
inductive DV where
 | int (k:IntKind) (n:Int)
 | bool (b:Bool)
 | str (l:List UInt8)
 | slice (k:Nat) (es:List (List DV))
 deriving Inhabited
structure YD where
 params:Array Tmp
 assign:Code
 body:Code
structure TEnv where
 D:Nat->Type
 df:Nat->Ty
 size:Nat->Nat
 enc:(i:Nat)->D i->List DV
 BO:(i:Nat)->D i->(df i).den D
 fold:(i:Nat)->(df i).den D->D i
 inh:(i:Nat)->D i
 gb:Nat->Option (Array T1->Prop)
 yd:Nat->YD->Prop
 ydn:Nat->Option Nat
 zc:TypeId->Bool
variable (E : TEnv)
def Ty.size:Ty->Nat|.int _=>1|.bool=>1|.str=>1|.bz _=>1|.unit=>0|.pair a b=>a.size+b.size|.ext i=>E.size i
def Ty.dflt:(t:Ty)->t.den E.D|.int _=>(0:Int)|.bool=>eQ|.str=>[]|.bz _=>[]|.unit=>()|.pair a b=>(a.dflt,b.dflt)|.ext i=>E.inh i
def Ty.isAgg:Ty->Bool|.unit=>hJ|.pair _ _=>hJ|.ext _=>hJ|_=>eQ
def Ty.cells:(t:Ty)->t.den E.D->J DV|.int k,n=>[.int k n]|.bool,b=>[.bool b]|.str,l=>[.str l]|.bz t,xs=>[.slice (t.size E) (xs.map (t.cells))]|.unit,_=>[]|.pair a b,x=>a.cells x.1++b.cells x.2|.ext i,x=>E.enc i x
structure TEnv.Ok:Prop where
 enc:∀i x,E.enc i x=(E.df i).cells E (E.BO i x)
 fold:∀i y,E.BO i (E.fold i y)=y
 size:∀i,E.size i=(E.df i).size E
 len:∀i x,(E.enc i x).length=E.size i
 ydn:∀y Y n,E.yd y Y->E.ydn y=iN n->Y.params.size=n
theorem Ty.BP(hE:E.Ok):∀(t:Ty)(x:t.den E.D),(t.cells E x).length=t.size E:=by
 intro t
 induction t with|int k=>intro x;rfl|bool=>intro x;rfl|str=>intro x;rfl|bz t _=>intro x;rfl|unit=>intro x;rfl|pair a b FU FV=>simp_all[Ty.cells,Ty.size]|ext i=>intro x;exact hE.len i x
def mkStr(l:J UInt8):T1:=.string ⟨⟨l⟩⟩
inductive VD(w:World)(pr:Nat->Nat->Prop):T1->DV->Prop
 | int (k:IntKind) (n:Int):VD w pr (.int k n) (.int k n)
 | bool (b:Bool):VD w pr (.bool b) (.bool b)
 | str (l:List UInt8):VD w pr (mkStr l) (.str l)
 | v8 (a:Option Addr) (k:Nat):VD w pr (.slice a 0 0) (.slice k [])
 | slice (b off cap k:Nat) (es:List (List DV)) (c:Nat->Nat->T1) (hc:Ts es<=cap)
   (hk:∀j,j<Ts es->(es.getD j []).length=k)
   (h0:∀j l,j<Ts es->l<k->pr b (off+j*k+l)/\w.cell? ⟨b,off+j*k+l,iF⟩=iN (c j l))
   (h:∀j l,j<Ts es->l<k->VD w pr (c j l) ((es.getD j []).getD l default)) :
   VD w pr (.slice (iN ⟨b,off,iF⟩) es.length cap) (.slice k es)
variable{w:U}{pr:Nat -> Nat -> Prop}{mO:Nat->Nat->Prop}
theorem VD.mono{w':U}(hp:∀b o,pr b o->mO b o)
  (hc:∀b o v,pr b o->w.cell? ⟨b,o,iF⟩=iN v->w'.cell? ⟨b,o,iF⟩=iN v)
  {v:T1} {d:DV} (h:VD w pr v d):VD w' mO v d:=by
 induction h with|int k n=>exact .int k n|bool b=>exact .bool b|str l=>exact .str l|v8 a k=>exact .v8 a k|slice b off cap k es c hcap hk h0 h ih=>exact .slice b off cap k es c hcap hk (λj l hj hl=>⟨hp _ _ (h0 j l hj hl).1,hc _ _ _ (h0 j l hj hl).1 (h0 j l hj hl).2⟩) ih
variable{v:T1}
theorem VD.one{d:DV}(h:VD w pr v d):v.oneCell'=hJ:=by cases h<;>rfl
def LD(w:U)(pr:Nat->Nat->Prop):J T1->J DV->Prop|[],[]=>True|v::vs,d::ds=>VD w pr v d/\LD w pr vs ds|_,_=>False
def Flat(w:U)(pr:Nat->Nat->Prop)(k:Nat)(xs:J T1)(es:J (J DV)):Prop:=
 xs.length=Ts es*k/\(∀j,j<Ts es->(es.getD j []).length=k) /\
 ∀j l,j<Ts es->l<k->VD w pr (xs.getD (j*k+l) M2) ((es.getD j []).getD l default)
theorem Flat.mono{w':U}{k:Nat}{xs:J T1}{es:J (J DV)}(h:Flat w pr k xs es)(hp:∀b o,pr b o->mO b o)
  (hc:∀b o v,pr b o->w.cell? ⟨b,o,iF⟩=iN v->w'.cell? ⟨b,o,iF⟩=iN v):Flat w' mO k xs es:=
 ⟨h.1,h.2.1,λj l hj hl=>(h.2.2 j l hj hl).mono hp hc⟩
inductive TV where
 | any
 | dat (t:Ty) (x:t.den E.D)
 | tT (t:Ty) (x:t.den E.D) (off:Nat)
 | ptr (r off:Nat)
 | qY (b:Bool) (r off:Nat)
 | jS (r:Nat)
 | vz (r:Nat)
 | iW (r n cap:Nat)
 | cH (j aG:Nat) (t:Ty) (xs:List (t.den E.D))
 | Ta (j aG:Nat) (l:List Int)
 | eF (j aG:Nat)
 | iZ (j aG k i off:Nat)
 | uZ (t:Ty) (xs:List (t.den E.D))
 | func (fn:Fn) (caps:List TV)
 | HV (fn:Fn) (firsts:List TV)
 | iface (ty:TypeId) (v:TV)
 | agg (cs:List TV)
 | tuple (vs:List TV)
 | val (v:T1)
instance:Inhabited (TV E):=⟨.any⟩
inductive gf where
 | cells (ty:TypeId) (cs:List (TV E))
 | iter (s:List UInt8) (pos:Nat)
 | map (kt vt:Ty) (m:List (kt.den E.D×vt.den E.D))
 | loop (y:Nat) (ds:List (TV E))
 | gone
 | Tb
 | mI (e:TypeId) (cap:Nat) (t:Ty) (xs:List (t.den E.D)) (d:TV E)
instance:Inhabited (gf E):=⟨.iter [] 0⟩
structure cV where
 aG:Nat
 e:TypeId
 k:Nat
 deriving DecidableEq,Inhabited
abbrev Cn(E:TEnv):=(t:Ty)×J (t.den E.D)
structure TS where
 t:List (TV E)
 H:List (gf E)
 g:List cV
 d:List Nat
 df:List (H5×List (TV E))
 c:List (Nat×Cn E)
structure bB where
 i:List Nat
 g:List (cV×T1)
 pr:Nat->Nat->Prop
mutual
def VT(w:U)(G:bB):TV E->T1->Prop
 | .any,_=>True|.dat t x,v=>match t.isAgg with
  | true=>∃vs:aK T1,v=.agg vs/\LD w G.pr vs.toList (t.cells E x)|false=>LD w G.pr [v] (t.cells E x)
 | .tT t x off,v=>∃(b o:Nat)(c:J T1),v=.pointer (iN ⟨b,o+off,iF⟩)/\LD w G.pr c (t.cells E x) /\
   ∀l u,c[l]? = iN u->G.pr b (o+l)/\w.cell? ⟨b,o+l,iF⟩=iN u
 | .ptr r off,v=>∃b,v=.pointer (iN ⟨b,off,iF⟩)/\G.i[r]? = iN b|.qY c r off,v=>match c with
  | true=>∃b,v=.pointer (iN ⟨b,off,iF⟩)/\G.i[r]? = iN b|false=>v=.pointer iF
 | .jS r,v=>∃b,v=.map (iN b)/\G.i[r]? = iN b|.vz r,v=>∃b,v=.func (.yield b) #[] #[]/\G.i[r]? = iN b|.iW r n cap,v=>∃b,v=.slice (iN ⟨b,0,iF⟩) n cap/\G.i[r]? = iN b|.cH j aG t xs,v=>VD w G.pr v (.slice (t.size E) (xs.map (t.cells E)))/\∃x h,G.g[j]? = iN (x,h)/\aG<=x.aG/\(aG=x.aG->v=h)|.Ta j aG l,v=>∃x h u,G.g[j]? = iN (x,h)/\aG<=x.aG/\VD w G.pr u (.slice 1 (l.map λn=>[.int .u8 n]))/\(aG=x.aG->u=h/\((h=.slice iF 0 0/\l=[]/\v=.pointer iF)\/∃b cap,h=.slice (iN ⟨b,0,iF⟩) l.length cap/\v=.pointer (iN ⟨b,0,iF⟩)))|.eF j aG,v=>∃x h,G.g[j]? = iN (x,h)/\aG<=x.aG/\v.oneCell'=hJ/\(aG=x.aG->v=h)|.iZ j aG k i off,v=>∃x h,G.g[j]? = iN (x,h)/\aG<=x.aG/\v.oneCell'=hJ/\(aG=x.aG->∃b m cap,h=.slice (iN ⟨b,0,iF⟩) m cap/\i<m/\v=.pointer (iN ⟨b,i*k+off,iF⟩))|.uZ t xs,v=>∃vs:aK T1,v=.agg vs/\(∀u,u∈vs->u.oneCell'=hJ)/\Flat w G.pr (t.size E) vs.toList (xs.map (t.cells E))|.func fn caps,v=>∃vs:aK T1,v=.func fn #[] vs/\bO w G caps vs.toList|.HV fn firsts,v=>∃vs:aK T1,v=.func fn vs #[]/\bO w G firsts vs.toList|.iface ty d,v=>∃u,v=.iface ty u/\VT w G d u|.agg cs,v=>∃vs:aK T1,v=.agg vs/\(∀u,u∈vs->u.oneCell'=hJ)/\bO w G cs vs.toList|.tuple ds,v=>∃vs:aK T1,v=.tuple vs/\bO w G ds vs.toList|.val u,v=>v=u
def bO(w:U)(G:bB):J (TV E)->J T1->Prop|[],vs=>vs=[]|d::ds,vs=>∃u us,vs=u::us/\VT w G d u/\bO w G ds us
end
section
variable {E : TEnv} {w w' : U} {G G' : bB}
theorem LD.mono{pr mO:Nat->Nat->Prop}(hp:∀b o,pr b o->mO b o)
  (hc:∀b o v,pr b o->w.cell? ⟨b,o,iF⟩=iN v->w'.cell? ⟨b,o,iF⟩=iN v) :
  ∀ {vs:J T1}{ds:J DV},LD w pr vs ds->LD w' mO vs ds
 | [],[],_=>trivial|_::_,_::_,h=>⟨h.1.mono hp hc,LD.mono hp hc h.2⟩|[],_::_,h=>h.elim|_::_,[],h=>h.elim
structure jc(w:World)(G:bB)(w':World)(G':bB):Prop where
 pr:∀b o,G.pr b o->G'.pr b o
 cells:∀b o v,G.pr b o->w.cell? ⟨b,o,iF⟩=iN v->w'.cell? ⟨b,o,iF⟩=iN v
 i:∀(r b:Nat),G.i[r]? = iN b->G'.i[r]? = iN b
 g:∀(j:Nat) x h,G.g[j]? = iN (x,h)->∃x' h',G'.g[j]? = iN (x',h')/\x.aG<=x'.aG/\(x.aG=x'.aG->h'=h)
mutual
theorem VT.mono(hg:jc w G w' G'):∀ {d:TV E}{v:T1},VT E w G d v->VT E w' G' d v
 | .any,_,_=>by simp only[VT]|.dat t x,v,h=>by
  simp only[VT]at h⊢;cases ha:t.isAgg<;>rw[ha]at h<;>dsimp only at h⊢
  rotate_left
  ·obtain⟨vs,rfl,h⟩:=h;exact⟨vs,rfl,h.mono hg.pr hg.cells⟩
  ·exact h.mono hg.pr hg.cells
 | .tT t x off,v,h=>by simp only[VT]at h⊢;obtain⟨b,o,c,rfl,h1,h2⟩:=h;exact⟨b,o,c,rfl,h1.mono hg.pr hg.cells,λl u hl=>⟨hg.pr _ _ (h2 l u hl).1,hg.cells _ _ _ (h2 l u hl).1 (h2 l u hl).2⟩⟩
 | .ptr r off,v,h=>by simp only[VT]at h⊢;obtain⟨b,rfl,h⟩:=h;exact⟨b,rfl,hg.i r b h⟩
 | .jS r,v,h=>by simp only[VT]at h⊢;obtain⟨b,rfl,h⟩:=h;exact⟨b,rfl,hg.i r b h⟩
 | .vz r,v,h=>by simp only[VT]at h⊢;obtain⟨b,rfl,h⟩:=h;exact⟨b,rfl,hg.i r b h⟩
 | .iW r n cap,v,h=>by simp only[VT]at h⊢;obtain⟨b,rfl,h⟩:=h;exact⟨b,rfl,hg.i r b h⟩
 | .qY c r off,v,h=>by
  cases c<;>simp only[VT]at h⊢
  ·exact h
  ·obtain⟨b,rfl,h⟩:=h;exact⟨b,rfl,hg.i r b h⟩
 | .cH j aG t xs,v,h=>by
  simp only[VT]at h⊢;obtain⟨h1,x,g,lC,hle,heq⟩:=h;obtain⟨x',g',hg',hle',heq'⟩:=hg.g j x g lC
  exact⟨h1.mono hg.pr hg.cells,x',g',hg',lG hle hle',λe=>by
   have e1:aG=x.aG:=aaW hle (e▸hle')
   rw[heq e1,heq' (e1.symm.trans e)]⟩
 | .Ta j aG l,v,h=>by simp only[VT]at h⊢;obtain⟨x,g,u,lC,hle,BQ,heq⟩:=h;obtain⟨x',g',hg',hle',heq'⟩:=hg.g j x g lC;refine⟨x',g',u,hg',lG hle hle',BQ.mono hg.pr hg.cells,λe=>?_⟩;have e1:aG=x.aG:=aaW hle (e▸hle');rw[heq' (e1.symm.trans e)];exact heq e1
 | .eF j aG,v,h=>by
  simp only[VT]at h⊢;obtain⟨x,g,lC,hle,h1,heq⟩:=h;obtain⟨x',g',hg',hle',heq'⟩:=hg.g j x g lC
  exact⟨x',g',hg',lG hle hle',h1,λe=>by
   have e1:aG=x.aG:=aaW hle (e▸hle')
   rw[heq e1,heq' (e1.symm.trans e)]⟩
 | .iZ j aG k i off,v,h=>by simp only[VT]at h⊢;obtain⟨x,g,lC,hle,h1,heq⟩:=h;obtain⟨x',g',hg',hle',heq'⟩:=hg.g j x g lC;refine⟨x',g',hg',lG hle hle',h1,λe=>?_⟩;have e1:aG=x.aG:=aaW hle (e▸hle');rw[heq' (e1.symm.trans e)];exact heq e1
 | .uZ t xs,v,h=>by simp only[VT]at h⊢;obtain⟨vs,rfl,h1,h⟩:=h;exact⟨vs,rfl,h1,h.mono hg.pr hg.cells⟩
 | .func fn caps,v,h=>by simp only[VT]at h⊢;obtain⟨vs,rfl,h⟩:=h;exact⟨vs,rfl,bO.mono hg h⟩
 | .HV fn firsts,v,h=>by simp only[VT]at h⊢;obtain⟨vs,rfl,h⟩:=h;exact⟨vs,rfl,bO.mono hg h⟩
 | .iface ty d,v,h=>by simp only[VT]at h⊢;obtain⟨u,rfl,h⟩:=h;exact⟨u,rfl,VT.mono hg h⟩
 | .agg cs,v,h=>by simp only[VT]at h⊢;obtain⟨vs,rfl,h1,h⟩:=h;exact⟨vs,rfl,h1,bO.mono hg h⟩
 | .tuple ds,v,h=>by simp only[VT]at h⊢;obtain⟨vs,rfl,h⟩:=h;exact⟨vs,rfl,bO.mono hg h⟩
 | .val u,v,h=>by simpa only[VT]using h
theorem bO.mono(hg:jc w G w' G'):∀ {ds:J (TV E)}{vs:J T1},bO E w G ds vs->bO E w' G' ds vs
 | [],_,h=>by simpa only[bO]using h|d::ds,vs,h=>by simp only[bO]at h⊢;obtain⟨u,us,rfl,h1,h2⟩:=h;exact⟨u,us,rfl,VT.mono hg h1,bO.mono hg h2⟩
end
end
def gK(w:U)(G:bB)(kt vt:Ty):J MapEntry->J (kt.den E.D×vt.den E.D)->Prop|[],[]=>True|e::es,p::ps=>VT E w G (.dat kt p.1) e.key/\VT E w G (.dat vt p.2) e.val/\gK w G kt vt es ps|_,_=>False
def kI(w:U)(G:bB)(b:Nat):gf E->Prop|.cells ty cs=>∃vs:aK T1,w.heap[b]? = iN (.cells vs ty (0,0))/\(∀u,u∈vs->u.oneCell'=hJ)/\bO E w G cs vs.toList|.iter s pos=>w.heap[b]? = iN (.stringIter ⟨⟨s⟩⟩ pos)|.map kt vt m=>∃(es:aK MapEntry)(clock:Nat),w.heap[b]? = iN (.map es clock)/\MapKept.Stamped es clock/\gK E w G kt vt es.toList m|.loop y ds=>∃(Y:YD)(fn:H5)(tmps:aK T1)(D:Nat),E.yd y Y/\w.heap[b]? = iN (.loop ⟨.ready,iF,fn,tmps,Y.params,Y.assign,Y.body,D⟩)/\bO E w G ds tmps.toList|.gone=>∃o,w.heap[b]? = iN o/\∀cs t m,o≠.cells cs t m|.Tb=>w.heap[b]? = iN (.deferred (iN []))|.mI e cap t xs d=>∃cur:aK T1,w.heap[b]? = iN (.cells cur e (0,0))/\cur.size=cap/\(∀(i:Nat) x,xs[i]? = iN x->VT E w G (.dat t x) (cur.getD i M2))/\VT E w G d (cur.getD xs.length M2)/\xs.length<cap
def zG(w:U)(G:bB)(x:cV)(h:T1):Prop:=∃n xs,w.ownsRow 0 x.e x.k h n xs/\(∀a m,h=.slice (iN a) m 0->E.zc x.e=hJ)/\∀b,h.ownBlock=iN b->b<w.heap.size/\b∉G.i/\∀o,n*x.k<=o->¬ G.pr b o
def bB.rows(G:bB)(b:Nat):Prop:=∃x h,(x,h)∈G.g/\h.ownBlock=iN b
def bB.Fw(G:bB)(b:Nat):Prop:=b∈G.i\/G.rows b
structure mm(w0:World)(G0:bB)(w:World)(G:bB):Prop where
 os:w.os=w0.os
 tape:w.tape=w0.tape
 output:w.output=w0.output
 size:w0.heap.size<=w.heap.size
 old:∀b,b<w0.heap.size->¬ G0.Fw b->w.heap[b]? = w0.heap[b]?
 goes:jc w0 G0 w G
 pE:∀b o,b<w0.heap.size->G.pr b o->G0.pr b o\/G0.rows b
 r7:∀(r b:Nat),G0.i.length<=r->G.i[r]? = iN b->w0.heap.size<=b
 iz:∀(j:Nat) x h b,G.g[j]? = iN (x,h)->h.ownBlock=iN b->w0.heap.size<=b\/∃x0 h0,G0.g[j]? = iN (x0,h0)/\h0.ownBlock=iN b
structure mY(w:World)(G:bB)(H:List (gf E))(gs:List cV):Prop where
 len:G.i.length=H.length
 gs:G.g.map (·.1)=gs
 box:∀(r b:Nat)(x:gf E),G.i[r]? = iN b->H[r]? = iN x->kI E w G b x
 lt:∀b,b∈G.i->b<w.heap.size
 nodup:G.i.Nodup
 gN:∀b o,G.pr b o->b<w.heap.size/\b∉G.i
 grow:∀(j:Nat) x h,G.g[j]? = iN (x,h)->zG E w G x h
 apart:∀(j j':Nat) x h x' h' b,G.g[j]? = iN (x,h)->G.g[j']? = iN (x',h')->h.ownBlock=iN b->h'.ownBlock=iN b->j=j'
def qR(w:U)(G:bB):Prop:=∀b p,E.gb b=iN p->(∃cs t m,w.heap[b]? = iN (.cells cs t m)/\p cs)/\¬ G.Fw b
def BR:H5:=2000000
def DOk(w:U)(G:bB)(d:Deferred)(x:H5×J (TV E)):Prop:=(eI x.1 BR=eQ/\∃cap,d.target=.fn (.func x.1) cap/\bO E w G x.2 (d.args++cap).toList)\/(x.1=BR/\∃b,d={target:=.collected b,args:=#[]}/\bO E w G x.2 [.func (.yield b) #[] #[]])
def kW(w:U)(G:bB):J Deferred->J (H5×J (TV E))->Prop|[],[]=>True|d::ds,x::xs=>DOk E w G d x/\kW w G ds xs|_,_=>False
def tU(w:U)(G:bB)(x:cV)(h:T1)(c:Cn E):Prop:=x.k=c.1.size E/\0<x.k/\(∃vals,w.ownsRow 0 x.e x.k h c.2.length vals/\Flat w G.pr x.k vals (c.2.map (c.1.cells E)))/\∀b,h.ownBlock=iN b->∀o,¬ G.pr b o
def lS(w:U)(G:bB)(cs:J (Nat×Cn E)):Prop:=∀j c,(j,c)∈cs->∃x h,G.g[j]? = iN (x,h)/\tU E w G x h c
structure Rel(w0:World)(G0:bB)(st:TS E)(a:Act)(w:World)(G:bB):Prop where
 fF:mm w0 G0 w G
 size:a.tmps.size=st.t.length
 tmps:∀(j:Nat) d,st.t[j]? = iN d->VT E w G d (a.tmps.getD j M2)
 defers:kW E w G a.defers st.df
 boxes:mY E w G st.H st.g
 fix:∀(r b:Nat),G0.i[r]? = iN b->r∉st.d->w.heap[b]? = w0.heap[b]?
 pins:qR E w0 G0
 gO:lS E w G st.c
inductive Ex where
 | normal|exit (id:Nat)|goto (l:Nat)|ret|panic (d:TV E)
def arC(w:U)(G:bB):Exit->Ex E->Prop|.normal,.normal=>True|.exit i,.exit j=>i=j|.goto i,.goto j=>i=j|.ret,.ret=>True|.panic ch,.panic d=>∃v,ch=[{v:=v,recovered:=eQ}]/\VT E w G d v|_,_=>False
def cQ(w0:U)(G0:bB)(Q:Ex E->TS E->Prop):Exit->Act->U->Prop:=λe a w=>∃x st G,arC E w G e x/\Rel E w0 G0 st a w G/\Q x st
def Jv(P:bx)(c:Code)(st:TS E)(Q:Ex E->TS E->Prop):Prop:=∀w0 G0 a w G,Rel E w0 G0 st a w G->c.wp P (cQ E w0 G0 Q) a w
def ahR(P:bx)(ops:aK H3)(l:J H3)(st:TS E)(Q:Ex E->TS E->Prop):Prop:=∀w0 G0 a w G,Rel E w0 G0 st a w G->H2 P ops (cQ E w0 G0 Q) l a w
variable {E : TEnv}
theorem LD.length:∀ {vs:J T1}{ds:J DV},LD w pr vs ds->Ts vs=Ts ds|[],[],_=>rfl|_::_,_::_,h=>by simp[LD.length h.2]|[],_::_,h=>h.elim|_::_,[],h=>h.elim
theorem LD.one:∀ {vs:J T1}{ds:J DV},LD w pr vs ds->∀u,u∈vs->u.oneCell'=hJ
 | [],[],_,u,hu=>by cases hu
 | v::vs,d::ds,h,u,hu=>by
  rcases hU.1 hu with rfl|hu
  ·exact h.1.one
  ·exact LD.one h.2 u hu
 | [],_::_,h,_,_=>h.elim|_::_,[],h,_,_=>h.elim
theorem LD.append:∀ {vs us:J T1}{ds es:J DV},LD w pr vs ds->LD w pr us es->LD w pr (vs++us) (ds++es)|[],_,[],_,_,h=>h|_::_,_,_::_,_,h,h'=>⟨h.1,LD.append h.2 h'⟩|[],_,_::_,_,h,_=>h.elim|_::_,_,[],_,h,_=>h.elim
theorem LD.take:∀(n:Nat){vs:J T1}{ds:J DV},LD w pr vs ds->LD w pr (vs.take n) (ds.take n)|0,_,_,_=>by simp[LD]|_+1,[],[],_=>trivial|n+1,_::_,_::_,h=>⟨h.1,LD.take n h.2⟩|_+1,[],_::_,h=>h.elim|_+1,_::_,[],h=>h.elim
theorem LD.drop:∀(n:Nat){vs:J T1}{ds:J DV},LD w pr vs ds->LD w pr (vs.drop n) (ds.drop n)|0,_,_,h=>h|_+1,[],[],_=>trivial|n+1,_::_,_::_,h=>LD.drop n h.2|_+1,[],_::_,h=>h.elim|_+1,_::_,[],h=>h.elim
theorem LD.split:∀ {ds es:J DV}{vs:J T1},LD w pr vs (ds++es)->∃us ts,vs=us++ts/\LD w pr us ds/\LD w pr ts es
 | [],_,vs,h=>⟨[],vs,rfl,trivial,h⟩|d::ds,es,v::vs,h=>by obtain⟨us,ts,rfl,h1,h2⟩:=LD.split h.2;exact⟨v::us,ts,rfl,⟨h.1,h1⟩,h2⟩
 | _::_,_,[],h=>h.elim
def LD.single{d:DV}(h:VD w pr v d):LD w pr [v] [d]:=⟨h,trivial⟩
def LD.uC{d:DV}(h:LD w pr [v] [d]):VD w pr v d:=h.1
variable{b:Bool}{l:J UInt8}
theorem VD.gq{k:eU}{n:Int}(h:VD w pr v (.int k n)):v=.int k n:=by cases h;rfl
theorem VD.nv(h:VD w pr v (.bool b)):v=.bool b:=by cases h;rfl
theorem VD.iS(h:VD w pr v (.str l)):v=mkStr l:=by cases h;rfl
variable{G:bB}
theorem VT.gq{k:eU}{n:Int}(h:VT E w G (.dat (.int k) n) v):v=.int k n:=h.uC.gq
theorem VT.nv(h:VT E w G (.dat .bool b) v):v=.bool b:=h.uC.nv
theorem VT.iS(h:VT E w G (.dat .str l) v):v=mkStr l:=h.uC.iS
theorem VT.int(w:U)(G:bB)(k:eU)(n:Int):VT E w G (.dat (.int k) n) (.int k n):=.single (.int k n)
theorem VT.bool(w:U)(G:bB)(b:Bool):VT E w G (.dat .bool b) (.bool b):=.single (.bool b)
theorem VT.str(w:U)(G:bB)(l:J UInt8):VT E w G (.dat .str l) (mkStr l):=.single (.str l)
def TV.Ll:T1->TV E|.int k n=>.dat (.int k) n|.bool b=>.dat .bool b|.string s=>.dat .str s.data.toList|v=>.val v
theorem acq(w:U)(G:bB)(v:T1):VT E w G (TV.Ll v) v:=by cases v<;>first|exact .int _ _ _ _|exact .bool _ _ _|exact .str w G _|(simp[TV.Ll,VT])
def TS.at(st:TS E)(i:Nat):TV E:=st.t.getD i .any
def TS.ev(st:TS E):dH->TV E|.tmp t=>st.at t|.const v=>.Ll v|.global _=>.any|.func f=>.func (.func f) []
def cG(l:J (TV E))(dst:O Nat)(d:TV E):J (TV E):=match dst with|some i=>l.set i d|none=>l
def Po:J (Nat×Cn E)->Nat->Bool|[],_=>eQ|p::cs,j=>eI p.1 j||Po cs j
theorem MF:∀ {cs:J (Nat×Cn E)}{j:Nat},Po cs j=eQ->∀c,(j,c)∉cs
 | [],j,_,c,h=>by cases h
 | p::cs,j,hs,c,h=>by
  simp[Po]at hs;rcases hU.1 h with h|h
  ·rw[<-h,OS]at hs;cases hs.1
  ·exact MF hs.2 c h
def pW:J (Nat×Cn E)->Nat->O (Cn E)|[],_=>iF|p::cs,j=>cond (eI p.1 j) (iN p.2) (pW cs j)
theorem Uc:∀ {cs:J (Nat×Cn E)}{j:Nat}{c:Cn E},pW cs j=iN c->(j,c)∈cs
 | [],j,c,h=>by cases h
 | p::cs,j,c,h=>by
  simp[pW]at h;cases hb:eI p.1 j<;>rw[hb]at h<;>simp at h
  ·exact kV _ (Uc h)
  ·cases h;have:=eY hb;subst this;simp
def oO(j:Nat):J (Nat×Cn E)->J (Nat×Cn E)|[]=>[]|p::cs=>cond (eI p.1 j) (oO j cs) (p::oO j cs)
theorem uD{j:Nat}:∀ {cs:J (Nat×Cn E)}{i:Nat}{c:Cn E},(i,c)∈oO j cs->(i,c)∈cs/\i≠j
 | [],i,c,h=>by cases h
 | p::cs,i,c,h=>by
  simp[oO]at h;cases hb:eI p.1 j<;>rw[hb]at h<;>simp only[aU,aJ]at h
  ·rcases hU.1 h with h|h
   ·refine⟨by rw[h];simp,λe=>?_⟩;rw[<-h]at hb;rw[e,OS]at hb;cases hb
   ·exact⟨kV _ (uD h).1,(uD h).2⟩
  ·exact⟨kV _ (uD h).1,(uD h).2⟩
variable{w0:U}{G0:bB}{st:TS E}{a:Act}{d:TV E}
theorem Rel.ev(h:Rel E w0 G0 st a w G)(x:dH):VT E w G (st.ev x) (a.eval x):=by
 cases x with
 | tmp t=>simp[TS.ev,TS.at];cases ht:st.t[t]? with|none=>simp_all[VT]|some d=>exact h.tmps t d ht
 | const v=>exact acq w G v|global g=>simp[TS.ev,VT]|func f=>exact⟨#[],rfl,by simp[bO]⟩
theorem MG(a:Act)(dst:O Nat)(v:T1):(a.put dst v).tmps.size=a.tmps.size:=by cases dst<;>simp[Act.put]
theorem put_defers(a:Act)(dst:O Nat)(v:T1):(a.put dst v).defers=a.defers:=by cases dst<;>simp[Act.put]
theorem Dy(a:Act)(dst:O Nat)(v:T1)(j:Nat):(a.put dst v).tmps.getD j M2=if dst=iN j/\j<a.tmps.size then v else a.tmps.getD j M2:=by cases dst with|none=>simp[Act.put]|some i=>simp[Act.put];grind
theorem Rel.put(h:Rel E w0 G0 st a w G)(hv:VT E w G d v)(dst:O Nat):
  Rel E w0 G0 {st with t:=cG st.t dst d} (a.put dst v) w G:=by
 refine⟨h.fF,?_,?_,?_,h.boxes,h.fix,h.pins,h.gO⟩
 ·rw[MG,h.size];cases dst<;>simp[cG]
 ·intro j d' hj;rw[Dy,h.size];cases dst with
  | none=>exact h.tmps j d' hj|some i=>
   simp[cG,Re]at hj;by_cases hij:i=j
   ·simp_all
   ·rw[if_neg (by simp[hij])];rw[if_neg hij]at hj;exact h.tmps j d' hj
 ·rw[put_defers];exact h.defers
structure TI where
 kind:TypeDesc
 size:Nat
 bytes:Nat
 zero:T1
def aY(P:bx)(t:aL):O TI:=
 match P.info? t,P.underlying t with
 | some i,iN d=>match i.zero with
  | some z=>iN ⟨d,i.size,i.bytes,z⟩|none=>iF
 | _,_=>iF
variable{P:bx}{t:aL}
theorem aQ{x:TI}(h:aY P t=iN x):
  ∃i,P.info? t=iN i/\P.underlying t=iN x.kind/\i.size=x.size/\i.bytes=x.bytes/\i.zero=iN x.zero:=by
 grind[aY]
def TI.isAgg(i:TI):Bool:=match i.kind with | .struct _=>hJ | .array _ _=>hJ|_=>eQ
def fG(w w':U):Prop:=w.heap.size<=w'.heap.size/\∀b,b<w.heap.size->w'.heap[b]? = w.heap[b]?
theorem fG.refl(w:U):fG w w:=⟨eo _,λ_ _=>rfl⟩
def fG.cell{w':U}(h:fG w w'){a:Addr}(hv:w.cell? a=iN v):w'.cell? a=iN v:=(Rf (h.2 a.block (agI w a hv))).trans hv
theorem aW{d:TypeDesc}(h:P.underlying t=iN d)(w:U):(underlying t).run P w=.ok d w:=by simp[underlying,h]
theorem NU{i:TypeInfo}(h:P.info? t=iN i)(w:U):(typeInfo t).run P w=.ok i w:=by simp[typeInfo,h]
theorem fK{i:TypeInfo}(h:P.info? t=iN i)(w:U):(sizeOf t).run P w=.ok i.size w:=by simp[sizeOf,NU h]
variable{i:TI}
theorem Vw(h:aY P t=iN i)(w:U):(isAgg t).run P w=.ok i.isAgg w:=by obtain⟨x,hx,hu,-⟩:=aQ h;unfold isAgg;simp[aW hu];unfold TI.isAgg;cases i.kind<;>rfl
theorem oy(h:aY P t=iN i)(w:U):(zeroValue t).run P w=.ok i.zero w:=by obtain⟨x,hx,hu,-,-,hz⟩:=aQ h;simp[zeroValue,NU hx,hz]
theorem add_lit(b o n:Nat):(⟨b,o,iF⟩:Addr).add n=⟨b,o+n,iF⟩:=by unfold Addr.add;split<;>simp_all
theorem nU(ht:aY P t=iN i)(b o n:Nat)(c:Nat->T1)
  (hc:∀l,l<n->w.cell? ⟨b,o+l,iF⟩=iN (c l)) (off:Nat) (h:cond i.isAgg (off+i.size<=n) (off<n)) (w':U) (hs:fG w w') :
  (Instr.loadAt t (.pointer (iN ⟨b,o+off,iF⟩))).run P w' =
   .ok (cond i.isAgg (.agg ((bY i.size).map λl=>c (off+l)).toArray) (c off)) w':=by
 obtain⟨x,hx,hu,hsz,-⟩:=aQ ht;unfold Instr.loadAt Instr.sureAddr loadVar;simp[Vw ht];cases hag:i.isAgg
 ·simp[hag]at h;have hcell:=hs.cell (hc off h);simp[hcell]
 ·simp[hag]at h;simp[fK hx,hsz]
  have:=run_loadCells (P:=P) w' ⟨b,o+off,iF⟩ i.size (λl=>c (off+l)) (λj hj=>by
   rw[add_lit];have:=hs.cell (hc (off+j) om)
   grind)
  rw[this];simp
def rq{R:Type}(b:Bool)(k:O R):O R:=cond b k iF
theorem dX{R:Type}{k:O R}{r:R}(h:rq b k=iN r):b=hJ/\k=iN r:=by
 cases b
 ·cases h
 ·exact⟨rfl,h⟩
def tV(a:Int)(f:Int->Int):Int:=match a with|.ofNat n=>f (.ofNat n)|.negSucc n=>f (.negSucc n)
theorem yC(a:Int)(f:Int->Int):tV a f=f a:=by cases a<;>rfl
def acr(k:eU)(a b:Int):Int:=k.wrap (a*2^(min b.toNat k.bits))
def XS(k:eU)(a b:Int):Int:=tV a λa=>a.fdiv (2^(min b.toNat k.bits))
def ny(k:eU)(a b:Int):Int:=tV a λa=>tV b λb=>k.wrap (W0 k.bits a &&& W0 k.bits b).toNat
def Tc(k:eU)(a b:Int):Int:=tV a λa=>tV b λb=>k.wrap (W0 k.bits a ||| W0 k.bits b).toNat
def Ud(k:eU)(a b:Int):Int:=tV a λa=>tV b λb=>k.wrap (W0 k.bits a ^^^ W0 k.bits b).toNat
def XT(k:eU)(a b:Int):Int:=tV a λa=>tV b λb=>k.wrap (W0 k.bits a &&& ~~~ W0 k.bits b).toNat
def XU(k:eU)(n:Int):Int:=tV n λn=>k.wrap (W0 k.bits (if k.signed then -1 else k.max) ^^^ W0 k.bits n).toNat
def af3(k:eU)(a b:Int):XS k a b=a.fdiv (2^(min b.toNat k.bits)):=yC _ _
theorem XW(k:eU)(a b:Int):ny k a b=k.wrap (W0 k.bits a &&& W0 k.bits b).toNat:=by grind[ny,yC]
theorem akg(k:eU)(a b:Int):Tc k a b=k.wrap (W0 k.bits a ||| W0 k.bits b).toNat:=by grind[Tc,yC]
theorem af4(k:eU)(a b:Int):Ud k a b=k.wrap (W0 k.bits a ^^^ W0 k.bits b).toNat:=by grind[Ud,yC]
theorem ahS(k:eU)(a b:Int):XT k a b=k.wrap (W0 k.bits a &&& ~~~ W0 k.bits b).toNat:=by simp_all[XT,yC]
def XX(k:eU)(n:Int):XU k n=k.wrap (W0 k.bits (if k.signed then -1 else k.max) ^^^ W0 k.bits n).toNat:=yC _ _
def amz(op:BinOp)(x y:TV E):O (Bool×TV E):=
 match x,y with
 | .dat (.int k) a,.dat (.int k') b=>match op with|.shl=>iN (eK (0<=b),.dat (.int k) (acr k a b))|.shr=>iN (eK (0<=b),.dat (.int k) (XS k a b))|.add=>iN (eK (k=k'),.dat (.int k) (k.wrap (a+b)))|.sub=>iN (eK (k=k'),.dat (.int k) (k.wrap (a-b)))|.mul=>iN (eK (k=k'),.dat (.int k) (k.wrap (a*b)))|.quo=>iN (eK (k=k') && !(b==0),.dat (.int k) (k.wrap (a.tdiv b)))|.rem=>iN (eK (k=k') && !(b==0),.dat (.int k) (a.tmod b))|.and=>iN (eK (k=k'),.dat (.int k) (ny k a b))|.or=>iN (eK (k=k'),.dat (.int k) (Tc k a b))|.xor=>iN (eK (k=k'),.dat (.int k) (Ud k a b))|.andNot=>iN (eK (k=k'),.dat (.int k) (XT k a b))|.eql=>iN (eK (k=k'),.dat .bool (a==b))|.neq=>iN (eK (k=k'),.dat .bool (a != b))|.lss=>iN (eK (k=k'),.dat .bool (eK (a<b)))|.leq=>iN (eK (k=k'),.dat .bool (eK (a<=b)))|.gtr=>iN (eK (k=k'),.dat .bool (eK (b<a)))|.geq=>iN (eK (k=k'),.dat .bool (eK (b<=a)))
 | .dat .str a,.dat .str b=>match op with|.add=>iN (eK (a.length+b.length<=9223372036854775807),.dat .str (a++b))|.eql=>iN (hJ,.dat .bool (a==b))|.neq=>iN (hJ,.dat .bool (!(a==b)))|.lss=>iN (hJ,.dat .bool (pD a b))|.leq=>iN (hJ,.dat .bool (pD a b||a==b))|.gtr=>iN (hJ,.dat .bool (!(pD a b||a==b)))|.geq=>iN (hJ,.dat .bool (!(pD a b)))|_=>iF
 | _,_=>iF
theorem ahT{op:BinOp}{x y:dH}{u:T1}{du dv:TV E}{c:Bool}
  (hu:VT E w G du u) (hv:VT E w G dv v) (h:amz op du dv=iN (c,d)) (NN:c=hJ) :
  ∃r,VT E w G d r/\∀w',(do eqGuard op t x y u v;binOp op t u v).run P w'=.ok r w':=by
 subst NN;unfold amz at h;split at h
 ·rename_i k a k' b;obtain rfl:=hu.gq;obtain rfl:=hv.gq;have hg:∀w',(eqGuard op t x y (.int k a) (.int k' b)).run P w'=.ok () w':=λw'=>by cases op<;>rfl
  cases op<;>simp at h<;>obtain⟨NN,rfl⟩:=h
  case shl=>exact⟨_,.int _ _ _ _,λw'=>by simp[acr,hg,binOp,Op.shift,show ¬ b<0 from Int.not_lt.2 NN]⟩
  case shr=>exact⟨_,.int _ _ _ _,λw'=>by simp[af3,hg,binOp,Op.shift,show ¬ b<0 from Int.not_lt.2 NN]⟩
  case quo=>obtain⟨rfl,hb⟩:=NN;have hb:b≠0:=by simpa using hb
            exact⟨_,.int _ _ _ _,λw'=>by simp[hg,binOp,Op.intDiv,hb]⟩
  case rem=>obtain⟨rfl,hb⟩:=NN;have hb:b≠0:=by simpa using hb
            exact⟨_,.int _ _ _ _,λw'=>by simp[hg,binOp,Op.intDiv,hb]⟩
  all_goals
   subst NN
   first
    | exact⟨_,.int _ _ _ _,λw'=>by simp;rfl⟩|exact⟨_,.int _ _ _ _,λw'=>by simp only[binOp,ne_eq,XW,akg,af4,ahS];rfl⟩|exact⟨_,.bool _ _ _,λw'=>by simp[hg,binOp,Op.intCmp]⟩
 ·rename_i a b;obtain rfl:=hu.iS;obtain rfl:=hv.iS;have hb:∀w',(do eqGuard op t x y (mkStr a) (mkStr b);binOp op t (mkStr a) (mkStr b)).run P w'=(Op.stringOp op ⟨⟨a⟩⟩ ⟨⟨b⟩⟩).run P w':=λw'=>by cases op<;>rfl
  simp[hb];cases op<;>simp at h<;>obtain⟨NN,rfl⟩:=h
  case add=>
   refine⟨_,.str _ _ _,λw'=>?_⟩;have hsz:∀l:J UInt8,(ByteArray.mk ⟨l⟩).size=Ts l:=λl=>rfl;have:¬ (((⟨⟨a⟩⟩:ByteArray).size+(⟨⟨b⟩⟩:ByteArray).size:Nat):Int)>IntKind.i64.max:=by
    rw[hsz,hsz];have:IntKind.i64.max=9223372036854775807:=by decide
    rw[this];omega
   simp only[Op.stringOp,this];rfl
  all_goals exact⟨_,.bool _ _ _,λw'=>by simp[Op.stringOp]⟩
 ·cases h
def Vx:Op->Bool|.load _ _=>hJ|_=>eQ
def Jw(o:H3)(w w':U):Prop:=Vx o.op=hJ->fG w w'
theorem Jw.refl(o:H3)(w:U):Jw o w w:=λ_=>fG.refl w
def jW(P:bx)(a:Act)(w:U)(G:bB)(o:H3)(d:TV E):Prop:=∃v,VT E w G d v/\∀w',Jw o w w'->(R0 a.eval o).run P w'=.ok (.value v) w'
variable{o:H3}
theorem acs(hr:Rel E w0 G0 st a w G)(x:dH)(ho:o.op=.move x\/o.op=.assign x):jW P a w G o (st.ev x):=⟨a.eval x,hr.ev x,λw' _=>by rcases ho with ho|ho<;>simp[R0,ho]⟩
theorem gr{f:(dH->T1)->Sem T1}(he:R0 a.eval o=(do let x <-f a.eval;pure (.value x)))
  (h:∃v,VT E w G d v/\∀w',Jw o w w'->(f a.eval).run P w'=.ok v w'):jW P a w G o d:=by
 obtain⟨v,hv,h⟩:=h;exact⟨v,hv,λw' hs=>by simp[he,h w' hs]⟩
def Part(E:TEnv)(w:U)(G:bB)(vs:J T1)(agg:Bool)(size off:Nat)(d:TV E):Prop:=cond agg (off+size<=Ts vs/\VT E w G d (.agg ((vs.drop off).take size).toArray)) (∃u,vs[off]? = iN u/\VT E w G d u)
def XY(E:TEnv)(f:(i:Nat)->E.D i->Bool->Nat->Nat->O (TV E)):(t:Ty)->t.den E.D->Bool->Nat->Nat->O (TV E)
 | .pair a b,x,agg,size,off=>cond (dE off (a.size E))
   (cond (eI off 0&&eI size (a.size E)&&(agg==a.isAgg)) (iN (.dat a x.1)) (XY E f a x.1 agg size off))
   (XY E f b x.2 agg size (off-a.size E))
 | .ext i,x,agg,size,off=>f i x agg size off|_,_,_,_,_=>iF
def amA(E:TEnv):Nat->(t:Ty)->t.den E.D->Bool->Nat->Nat->O (TV E)|0=>XY E λ_ _ _ _ _=>iF|n+1=>XY E λi x=>amA E n (E.df i) (E.BO i x)
def TV.part(t:Ty)(x:t.den E.D)(agg:Bool)(size off:Nat):O (TV E):=cond (eI off 0&&eI size (t.size E)&&(agg==t.isAgg)) (iN (.dat t x)) (amA E 4 t x agg size off)
variable{vs us ts:J T1}{agg:Bool}{off:Nat}
theorem Ty.akh{t:Ty}(h:t.isAgg=eQ):t.size E=1:=by cases t<;>first|rfl|cases h
theorem Part.whole(hE:E.Ok){t:Ty}{x:t.den E.D}(h:LD w G.pr vs (t.cells E x)):Part E w G vs t.isAgg (t.size E) 0 (.dat t x):=by
 have hl:=h.length;rw[Ty.BP E hE]at hl;unfold Part;cases ha:t.isAgg
 ·rw[Ty.akh ha]at hl;obtain⟨u,rfl⟩:=aaX.1 hl;simp_all[VT]
 grind[VT]
theorem Part.left{size:Nat}(h:Part E w G us agg size off d):Part E w G (us++ts) agg size off d:=by grind[Part]
theorem Part.right{size n:Nat}(hn:Ts us=n)(ho:n<=off)(h:Part E w G ts agg size (off-n) d):Part E w G (us++ts) agg size off d:=by grind[Part,List.drop_append,List.drop_eq_nil_of_le]
theorem Vy(hE:E.Ok){f:(i:Nat)->E.D i->Bool->Nat->Nat->O (TV E)}
  (hf:∀i x agg size off d vs,LD w G.pr vs (E.enc i x)->f i x agg size off=iN d->Part E w G vs agg size off d) :
  ∀(t:Ty)(x:t.den E.D){agg:Bool}{size off:Nat}{d:TV E}{vs:J T1},LD w G.pr vs (t.cells E x)->XY E f t x agg size off=iN d->Part E w G vs agg size off d:=by
 intro t
 induction t with
 | int k=>intro x _ _ _ _ _ _ h;cases h
 | bool=>intro x _ _ _ _ _ _ h;cases h
 | str=>intro x _ _ _ _ _ _ h;cases h
 | bz t _=>intro x _ _ _ _ _ _ h;cases h
 | unit=>intro x _ _ _ _ _ _ h;cases h
 | ext i=>intro x agg size off d vs hv h;exact hf i x agg size off d vs hv h|pair a b FU FV=>
  intro x agg size off d vs hv h;obtain⟨us,ts,rfl,h1,h2⟩:=hv.split;have hl:=h1.length;rw[Ty.BP E hE]at hl;simp[XY]at h;cases hb:dE off (a.size E)<;>rw[hb]at h<;>simp at h
  ·have ho:a.size E<=off:=by grind[Nat.blt_eq]
   exact(FV x.2 h2 h).right hl ho
  ·cases hc:(eI off 0&&eI size (a.size E)&&(agg==a.isAgg))<;>rw[hc]at h<;>simp at h
   ·exact(FU x.1 h1 h).left
   ·cases h;simp only[cK,uL]at hc;obtain⟨⟨e1,e2⟩,rfl⟩:=hc;rw[eY e1,eY e2];exact(Part.whole hE h1).left
theorem Vz(hE:E.Ok):∀(n:Nat)(t:Ty)(x:t.den E.D){agg:Bool}{size off:Nat}{d:TV E}{vs:J T1},
  LD w G.pr vs (t.cells E x)->amA E n t x agg size off=iN d->Part E w G vs agg size off d
 | 0,t,x,_,_,_,_,_,hv,h=>Vy hE (λ_ _ _ _ _ _ _ _ h=>by cases h) t x hv h
 | n+1,t,x,_,_,_,_,_,hv,h=>Vy hE (λi x agg size off d vs hv h=>by
   rw[hE.enc]at hv;exact Vz hE n (E.df i) (E.BO i x) hv h) t x hv h
theorem MH(hE:E.Ok){t:Ty}{x:t.den E.D}{size:Nat}
  (hv:LD w G.pr vs (t.cells E x)) (h:TV.part t x agg size off=iN d):Part E w G vs agg size off d:=by
 unfold TV.part at h;cases hc:(eI off 0&&eI size (t.size E)&&(agg==t.isAgg))<;>rw[hc]at h<;>simp at h
 ·grind[Vz]
 ·cases h;simp_all[uL,Part.whole]
def TV.get(t:Ty):TV E->O (t.den E.D)
 | .dat t' x=>if h:t'=t then iN (h▸x)else iF
 | .cH _ _ t' xs=>if h:Ty.bz t'=t then iN (h▸xs)else iF
 | .val (.slice iF 0 0)=>match t with
  | .bz _=>iN []|_=>iF
 | _=>iF
theorem TV.vA{t:Ty}{x:t.den E.D}(h:d.get t=iN x)(hv:VT E w G d v):VT E w G (.dat t x) v:=by
 unfold TV.get at h;split at h
 ·grind
 ·split at h
  ·rename_i e;subst e;cases h;exact .single hv.1
  ·cases h
 ·split at h
  ·cases h;subst hv;exact .single (.v8 _ _)
  ·cases h
 ·cases h
def Pp(E:TEnv)(f:(i:Nat)->J (TV E)->O (E.D i×J (TV E))):(t:Ty)->J (TV E)->O (t.den E.D×J (TV E))
 | .unit,cs=>iN ((),cs)|.pair a b,cs=>(Pp E f a cs).bind λp=>(Pp E f b p.2).bind λq=>iN ((p.1,q.1),q.2)|.ext i,cs=>f i cs|.int k,cs=>match cs with|c::r=>(c.get (.int k)).bind λx=>iN (x,r) | []=>iF
 | .bool,cs=>match cs with|c::r=>(c.get .bool).bind λx=>iN (x,r) | []=>iF
 | .str,cs=>match cs with|c::r=>(c.get .str).bind λx=>iN (x,r) | []=>iF
 | .bz t,cs=>match cs with|c::r=>(c.get (.bz t)).bind λx=>iN (x,r) | []=>iF
def Pq(E:TEnv):Nat->(t:Ty)->J (TV E)->O (t.den E.D×J (TV E))|0=>Pp E λ_ _=>iF|n+1=>Pp E λi cs=>(Pq E n (E.df i) cs).bind λp=>iN (E.fold i p.1,p.2)
variable{ds:J (TV E)}
theorem bO.nil:bO E w G [] []:=by simp[bO]
theorem bO.cons(h:VT E w G d v)(h':bO E w G ds vs):bO E w G (d::ds) (v::vs):=by grind[bO]
theorem bO.cons_inv(h:bO E w G (d::ds) vs):∃u us,vs=u::us/\VT E w G d u/\bO E w G ds us:=by simpa only[bO]using h
theorem bO.length:∀ {ds:J (TV E)}{vs:J T1},bO E w G ds vs->Ts vs=Ts ds
 | [],_,h=>by simp_all[bO]|d::ds,vs,h=>by obtain⟨u,us,rfl,-,h⟩:=h.cons_inv;simp[h.length]
theorem bO.append:∀ {ds es:J (TV E)}{vs us:J T1},bO E w G ds vs->bO E w G es us->bO E w G (ds++es) (vs++us)
 | [],es,vs,us,h,h'=>by simp_all[bO]|d::ds,es,vs,us,h,h'=>by obtain⟨u,us',rfl,h1,h2⟩:=h.cons_inv;exact .cons h1 (h2.append h')
theorem bO.get:∀ {ds:J (TV E)}{vs:J T1}(j:Nat){d:TV E},bO E w G ds vs->ds[j]? = iN d->∃u,vs[j]? = iN u/\VT E w G d u
 | [],_,_,_,_,h=>by simp at h|d::ds,vs,0,d',h,hj=>by obtain⟨u,us,rfl,h1,-⟩:=h.cons_inv;simp_all
 | d::ds,vs,j+1,d',h,hj=>by obtain⟨u,us,rfl,-,h2⟩:=h.cons_inv;exact bO.get j h2 (by simpa using hj)
theorem bO.drop:∀(n:Nat){ds:J (TV E)}{vs:J T1},bO E w G ds vs->bO E w G (ds.drop n) (vs.drop n)
 | 0,_,_,h=>h|n+1,[],_,h=>by simp_all[bO]|n+1,d::ds,vs,h=>by obtain⟨u,us,rfl,-,h2⟩:=h.cons_inv;exact bO.drop n h2
theorem bO.take:∀(n:Nat){ds:J (TV E)}{vs:J T1},bO E w G ds vs->bO E w G (ds.take n) (vs.take n)
 | 0,_,_,h=>bO.nil|n+1,[],_,h=>by simp_all[bO]|n+1,d::ds,vs,h=>by obtain⟨u,us,rfl,h1,h2⟩:=h.cons_inv;exact .cons h1 (bO.take n h2)
theorem VT.atom{t:Ty}{x:t.den E.D}(ha:t.isAgg=eQ)(h:VT E w G (.dat t x) v):LD w G.pr [v] (t.cells E x):=by simp_all[VT]
theorem VT.RO{t:Ty}{x:t.den E.D}(ha:t.isAgg=eQ)(h:LD w G.pr [v] (t.cells E x)):VT E w G (.dat t x) v:=by simp_all[VT]
theorem VT.ahU{t:Ty}{x:t.den E.D}(ha:t.isAgg=hJ)(h:VT E w G (.dat t x) v):∃vs:aK T1,v=.agg vs/\LD w G.pr vs.toList (t.cells E x):=by simp_all[VT]
theorem VA{f:(i:Nat)->J (TV E)->Option (E.D i×J (TV E))}
  (hf:∀i cs x r vs,bO E w G cs vs->f i cs=iN (x,r)->∃us ts,vs=us++ts/\LD w G.pr us (E.enc i x)/\bO E w G r ts) :
  ∀(t:Ty){cs:J (TV E)}{x:t.den E.D}{r:J (TV E)}{vs:J T1},bO E w G cs vs->Pp E f t cs=iN (x,r) ->
   ∃us ts,vs=us++ts/\LD w G.pr us (t.cells E x)/\bO E w G r ts:=by
 have atom:∀(t:Ty)(ha:t.isAgg=eQ){cs:J (TV E)}{x:t.den E.D}{r:J (TV E)}{vs:J T1},bO E w G cs vs ->
   (match cs with|c::r=>(c.get t).bind λx=>iN (x,r) | []=>iF)=iN (x,r)->∃us ts,vs=us++ts/\LD w G.pr us (t.cells E x)/\bO E w G r ts:=by
  intro t ha cs x r vs hv h;cases cs with
  | nil=>cases h
  | cons c cs=>
   obtain⟨u,us,rfl,h1,h2⟩:=hv.cons_inv;dsimp only at h;cases hc:c.get t with
   | none=>rw[hc]at h;cases h
   | some y=>rw[hc]at h;cases h;exact⟨[u],us,rfl,(TV.vA hc h1).atom ha,h2⟩
 intro t
 induction t with
 | int k=>intro cs x r vs hv h;exact atom (.int k) rfl hv h|bool=>intro cs x r vs hv h;exact atom .bool rfl hv h|str=>intro cs x r vs hv h;exact atom .str rfl hv h|bz t _=>intro cs x r vs hv h;exact atom (.bz t) rfl hv h|unit=>intro cs x r vs hv h;cases h;exact⟨[],vs,rfl,trivial,hv⟩
 | ext i=>intro cs x r vs hv h;exact hf i cs x r vs hv h|pair a b FU FV=>
  intro cs x r vs hv h;simp[Pp]at h;cases h1:Pp E f a cs with
  | none=>rw[h1]at h;cases h
  | some p=>
   obtain⟨y,r1⟩:=p;rw[h1]at h;dsimp at h;cases h2:Pp E f b r1 with
   | none=>rw[h2]at h;cases h
   | some q=>rw[h2]at h;cases h;obtain⟨us,ts,rfl,hu,ht⟩:=FU hv h1;obtain⟨us',ts',rfl,hu',ht'⟩:=FV ht h2;exact⟨us++us',ts',si,hu.append hu',ht'⟩
theorem BS(hE:E.Ok):∀(n:Nat)(t:Ty){cs:J (TV E)}{x:t.den E.D}{r:J (TV E)}{vs:J T1},bO E w G cs vs->Pq E n t cs=iN (x,r) ->
   ∃us ts,vs=us++ts/\LD w G.pr us (t.cells E x)/\bO E w G r ts
 | 0,t,_,_,_,_,hv,h=>VA (λ_ _ _ _ _ _ h=>by cases h) t hv h
 | n+1,t,_,_,_,_,hv,h=>VA (λi cs x r vs hv h=>by
   cases h1:Pq E n (E.df i) cs with
   | none=>rw[h1]at h;cases h
   | some p=>
    rw[h1]at h;cases h;obtain⟨us,ts,e,h2,h3⟩:=BS hE n (E.df i) hv h1;refine⟨us,ts,e,?_,h3⟩;rw[hE.enc,hE.fold];exact h2) t hv h
def BU(E:TEnv)(f:(i:Nat)->E.D i->O (J (TV E))):(t:Ty)->t.den E.D->O (J (TV E))|.unit,_=>iN []|.pair a b,x=>(BU E f a x.1).bind λl=>(BU E f b x.2).bind λm=>iN (l++m)|.ext i,x=>f i x|.int k,x=>iN [.dat (.int k) x]|.bool,x=>iN [.dat .bool x]|.str,x=>iN [.dat .str x]|.bz t,x=>iN [.dat (.bz t) x]
def Jx(E:TEnv):Nat->(t:Ty)->t.den E.D->O (J (TV E))|0=>BU E λ_ _=>iF|n+1=>BU E λi x=>Jx E n (E.df i) (E.BO i x)
def TV.qd:TV E->O (J (TV E))|.dat t x=>cond t.isAgg (Jx E 4 t x) (iN [.dat t x])|.agg cs=>iN cs|.tT t x off=>iN [.tT t x off]|.ptr r off=>iN [.ptr r off]|.qY c r off=>iN [.qY c r off]|.jS r=>iN [.jS r]|.vz r=>iN [.vz r]|.iW _ _ _=>iF|.cH j aG t xs=>iN [.cH j aG t xs]|.Ta _ _ _=>iF|.eF j aG=>iN [.eF j aG]|.iZ j aG k i off=>iN [.iZ j aG k i off]|.uZ _ _=>iF|.func fn caps=>iN [.func fn caps]|.HV fn fs=>iN [.HV fn fs]|.iface ty d=>iN [.iface ty d]|.val v=>cond v.oneCell' (iN [.val v]) iF|.any=>iF|.tuple _=>iF
variable{cs:J (TV E)}
theorem Td{f:(i:Nat)->E.D i->O (J (TV E))}(hf:∀i x cs vs,LD w G.pr vs (E.enc i x)->f i x=iN cs->bO E w G cs vs):
  ∀(t:Ty)(x:t.den E.D){cs:J (TV E)}{vs:J T1},LD w G.pr vs (t.cells E x)->BU E f t x=iN cs->bO E w G cs vs:=by
 have atom:∀(t:Ty)(ha:t.isAgg=eQ)(hl:∀x,(t.cells E x).length=1)(x:t.den E.D){cs:J (TV E)}{vs:J T1},LD w G.pr vs (t.cells E x)->iN [TV.dat t x]=iN cs->bO E w G cs vs:=by intro t ha hl x cs vs hv h;cases h;have:=hv.length;rw[hl]at this;obtain⟨u,rfl⟩:=aaX.1 this;exact .cons (.RO ha hv) .nil
 intro t
 induction t with
 | int k=>intro x cs vs hv h;exact atom (.int k) rfl (λ_=>rfl) x hv h|bool=>intro x cs vs hv h;exact atom .bool rfl (λ_=>rfl) x hv h|str=>intro x cs vs hv h;exact atom .str rfl (λ_=>rfl) x hv h|bz t _=>intro x cs vs hv h;exact atom (.bz t) rfl (λ_=>rfl) x hv h|unit=>intro x cs vs hv h;cases h;cases vs with|nil=>exact .nil|cons _ _=>exact hv.elim
 | ext i=>intro x cs vs hv h;exact hf i x cs vs hv h|pair a b FU FV=>
  intro x cs vs hv h;simp[BU]at h;obtain⟨us,ts,rfl,h1,h2⟩:=LD.split hv;cases e1:BU E f a x.1 with
  | none=>rw[e1]at h;cases h
  | some l=>
   rw[e1]at h;cases e2:BU E f b x.2 with
   | none=>rw[e2]at h;cases h
   | some m=>rw[e2]at h;cases h;exact(FU x.1 h1 e1).append (FV x.2 h2 e2)
theorem zH(hE:E.Ok):∀(n:Nat)(t:Ty)(x:t.den E.D){cs:J (TV E)}{vs:J T1},LD w G.pr vs (t.cells E x)->Jx E n t x=iN cs->bO E w G cs vs
 | 0,t,x,_,_,hv,h=>Td (λ_ _ _ _ _ h=>by cases h) t x hv h
 | n+1,t,x,_,_,hv,h=>Td (λi x cs vs hv h=>by
   rw[hE.enc]at hv;exact zH hE n (E.df i) (E.BO i x) hv h) t x hv h
theorem tW(hE:E.Ok)(hv:VT E w G d v)(h:d.qd=iN cs):
  bO E w G cs v.cells.toList/\∀u,u∈v.cells->u.oneCell'=hJ:=by
 have one:∀ {d:TV E},VT E w G d v->v.oneCell'=hJ->v.cells=#[v]->bO E w G [d] v.cells.toList/\∀u,u∈v.cells->u.oneCell'=hJ:=by intro d hv h1 hc;rw[hc];exact⟨.cons hv .nil,λu hu=>by simp_all⟩
 cases d with
 | any=>cases h
 | tuple ds=>cases h
 | dat t x=>
  simp[TV.qd]at h;cases ha:t.isAgg<;>rw[ha]at h<;>simp at h
  ·cases h;have h0:=hv.atom ha;have h1:=h0.one v si;refine one hv h1 ?_;cases v<;>first|rfl|cases h1
  ·obtain⟨vs,rfl,h0⟩:=hv.ahU ha;exact⟨zH hE 4 t x h0 h,λu hu=>h0.one u (by simpa[Value.cells]using hu)⟩
 | agg ds=>cases h;obtain⟨vs,rfl,h1,h2⟩:=hv;exact⟨h2,h1⟩
 | tT t x off=>cases h;have jT:=hv;obtain⟨b,o,c,rfl,-⟩:=jT;exact one hv rfl rfl
 | ptr r off=>cases h;have jT:=hv;obtain⟨b,rfl,-⟩:=jT;exact one hv rfl rfl
 | qY c r off=>
  cases h;have jT:=hv;cases c<;>simp[VT]at jT
  ·subst jT;exact one hv rfl rfl
  ·obtain⟨b,rfl,-⟩:=jT;exact one hv rfl rfl
 | jS r=>cases h;have jT:=hv;obtain⟨b,rfl,-⟩:=jT;exact one hv rfl rfl
 | iW r n cap=>cases h
 | vz r=>cases h;have jT:=hv;obtain⟨b,rfl,-⟩:=jT;exact one hv rfl rfl
 | cH j aG t xs=>cases h;have jT:=hv;have h1:=jT.1.one;refine one hv h1 ?_;cases v<;>first|rfl|cases h1
 | Ta j aG l=>cases h
 | uZ t xs=>cases h
 | eF j aG=>cases h;have jT:=hv;obtain⟨x,g,-,-,h1,-⟩:=jT;refine one hv h1 ?_;cases v<;>first|rfl|cases h1
 | iZ j aG k i off=>cases h;have jT:=hv;obtain⟨x,g,-,-,h1,-⟩:=jT;refine one hv h1 ?_;cases v<;>first|rfl|cases h1
 | func fn caps=>cases h;have jT:=hv;obtain⟨vs,rfl,-⟩:=jT;exact one hv rfl rfl
 | HV fn fs=>cases h;have jT:=hv;obtain⟨vs,rfl,-⟩:=jT;exact one hv rfl rfl
 | iface ty d=>cases h;have jT:=hv;obtain⟨u,rfl,-⟩:=jT;exact one hv rfl rfl
 | val u=>
  simp[TV.qd]at h;have jT:=hv;subst jT;cases ho:v.oneCell'<;>rw[ho]at h<;>simp only[aU,aJ]at h
  ·cases h
  ·cases h;refine one hv ho ?_;cases v<;>first|rfl|cases ho
def VB(E:TEnv)(ty:Option Ty)(cs:J (TV E))(agg:Bool)(size off:Nat):Option (TV E):=
 cond agg
  (cond (iO (off+size) cs.length)
   (match ty with
    | none=>iN (.agg ((cs.drop off).take size))|some t=>match Pq E 4 t ((cs.drop off).take size)with
     | some (x,[])=>cond t.isAgg (iN (.dat t x)) iF|_=>iN (.agg ((cs.drop off).take size)))
   iF)
  cs[off]?
theorem Kz(hE:E.Ok){ty:O Ty}{size:Nat}(hv:bO E w G cs vs)(h1:∀u,u∈vs->u.oneCell'=hJ)
  (h:VB E ty cs agg size off=iN d):Part E w G vs agg size off d:=by
 unfold VB at h;cases agg<;>simp at h⊢
 ·exact hv.get off h
 ·cases hb:iO (off+size) cs.length<;>rw[hb]at h<;>simp only[aU,aJ]at h
  ·cases h
  have hle:=lY hb;refine⟨by rw[hv.length];exact hle,?_⟩;have hp:=(hv.drop off).take size;have arD:VT E w G (.agg ((cs.drop off).take size)) (.agg ((vs.drop off).take size).toArray):=by grind[VT]
  split at h
  ·cases h;exact arD
  ·rename_i t;split at h
   ·cases ha:t.isAgg<;>rw[ha]at h<;>simp only[aU,aJ]at h
    ·cases h
    grind[BS,bO,VT]
   ·cases h;exact arD
end Go.RT
namespace Go.RT
variable {E : TEnv}
variable{P:bx}{w0:U}{G0:bB}{st:TS E}{a:Act}{w:U}{G:bB}{o:H3}{t:aL}{i:TI}{b off:Nat}{d:TV E}{x:dH}{T:Ty}{y:T.den E.D}{r:Nat}{cs:J (TV E)}{ty:O Ty}
theorem tX(ht:aY P t=iN i){o':Nat}{vs:J T1}(hc:∀(l:Nat) u,vs[l]? = iN u->w.cell? ⟨b,o'+l,iF⟩=iN u)
   (hp:Part E w G vs i.isAgg i.size off d):∃v,VT E w G d v/\∀w',fG w w'->(Instr.loadAt t (.pointer (iN ⟨b,o'+off,iF⟩))).run P w'=.ok v w':=by
 have tA:∀l,l<Ts vs->w.cell? ⟨b,o'+l,iF⟩=iN (vs.getD l M2):=λl hl=>by simp_all
 unfold Part at hp;cases ha:i.isAgg<;>rw[ha]at hp<;>simp at hp
 ·obtain⟨u,hu,hv⟩:=hp;refine⟨u,hv,λw' hs=>?_⟩;have hl:=(fC.1 hu).1;rw[nU ht b o' vs.length (λl=>vs.getD l M2) tA off (by rw[ha];exact hl) w' hs];simp_all
 ·obtain⟨hl,hv⟩:=hp;refine⟨_,hv,λw' hs=>?_⟩;rw[nU ht b o' vs.length (λl=>vs.getD l M2) tA off (by rw[ha];exact hl) w' hs,ha];simp;apply Bo
  ·simp;omega
  grind
theorem XZ(hE:E.Ok)(hr:Rel E w0 G0 st a w G)(ho:o.op=.load t x)(ht:aY P t=iN i)
     (hd:st.ev x=.tT T y off)  (hp:TV.part T y i.isAgg i.size off=iN d):jW P a w G o d:=by
 have hv:=hr.ev x;rw[hd]at hv;obtain⟨b,o',c,he,h1,h2⟩:=hv;obtain⟨v,hv,hrun⟩:=tX ht (λl u hl=>(h2 l u hl).2) (MH hE h1 hp);refine gr (f:=λρ=>Instr.loadAt t (ρ x)) (by simp[R0,ho]) ⟨v,hv,λw' hs=>?_⟩;rw[he];exact hrun w' (hs (by rw[ho];rfl))
theorem Rel.box(hr:Rel E w0 G0 st a w G)(hb:G.i[r]? = iN b){x:gf E}(hx:st.H[r]? = iN x):kI E w G b x:=hr.boxes.box r b x hb hx
theorem X0(hE:E.Ok)(hr:Rel E w0 G0 st a w G)(ho:o.op=.load t x)(ht:aY P t=iN i)
   (hd:st.ev x=.ptr r off) {t':aL}  (hb:st.H[r]? = iN (.cells t' cs))  
  (hp:VB E ty cs i.isAgg i.size off=iN d):jW P a w G o d:=by
 have hv:=hr.ev x;rw[hd]at hv;obtain⟨b,he,hat⟩:=hv;obtain⟨vs,hh,h1,h2⟩:=hr.box hat hb
 obtain⟨v,hv,hrun⟩:=tX (b:=b) (o':=0) ht (λl u hl=>by
  grind[cell_of_row]) (Kz hE h2 (λu hu=>h1 u (by simpa using hu)) hp)
 refine gr (f:=λρ=>Instr.loadAt t (ρ x)) (by simp[R0,ho]) ⟨v,hv,λw' hs=>?_⟩;rw[he];have:=hrun w' (hs (by rw[ho];rfl));simpa using this
variable{pr:Nat->Nat->Prop}{v:T1}
theorem VD.xB{k:Nat}{es:J (J DV)}(h:VD w pr v (.slice k es)):
  (∃a,v=.slice a 0 0/\es=[])\/∃(b off cap:Nat)(c:Nat->Nat->T1),v=.slice (iN ⟨b,off,iF⟩) es.length cap/\es.length<=cap /\
   (∀j,j<Ts es->(es.getD j []).length=k) /\
   (∀j l,j<Ts es->l<k->pr b (off+j*k+l)/\w.cell? ⟨b,off+j*k+l,iF⟩=iN (c j l)) /\
   (∀j l,j<Ts es->l<k->VD w pr (c j l) ((es.getD j []).getD l default)):=by
 cases h with|v8 a k=>simp_all|slice b off cap k es c hc hk h0 h=>exact .inr ⟨b,off,cap,c,rfl,hc,hk,h0,h⟩
inductive tY:TV E->(T:Ty)->List (T.den E.D)->Prop
 | dat (T:Ty) (xs:List (T.den E.D)):tY (.dat (.bz T) xs) T xs
 | cH (j aG:Nat) (T:Ty) (xs:List (T.den E.D)):tY (.cH j aG T xs) T xs
variable{xs:J (T.den E.D)}
theorem tY.vd(h:tY d T xs)(hv:VT E w G d v):
  VD w G.pr v (.slice (T.size E) (xs.map (T.cells E))):=by
 cases h with|dat=>exact(hv.atom rfl).uC|cH=>simp_all[VT]
def VT.list(h:VD w G.pr v (.slice (T.size E) (xs.map (T.cells E)))):VT E w G (.dat (.bz T) xs) v:=.RO rfl (.single h)
theorem LD.X3{w:U}{pr:Nat->Nat->Prop}:∀ {vs:J T1}{ds:J DV},Ts vs=Ts ds->(∀l,l<Ts ds->VD w pr (vs.getD l M2) (ds.getD l default))->LD w pr vs ds|[],[],_,_=>trivial|v::vs,d::ds,hl,h=>⟨by simpa using h 0 si,LD.X3 (by simpa using hl) λl hl'=>by simpa using h (l+1) (by simpa using hl')⟩|[],_::_,hl,_=>by simp at hl|_::_,[],hl,_=>by simp at hl
variable{ix:dH}{e:aL}{j1 j2:Nat}{z:T1}{kd:eU}{n:Int}{l:J UInt8}{fs:aK Field}
theorem aeV(hr:Rel E w0 G0 st a w G)(ho:o.op=.indexAddr t x ix)
  (ht:aY P t=iN ⟨.slice e,j1,j2,z⟩) (hi:aY P e=iN i)     (hd:tY (st.ev x) T xs)
  (hdi:st.ev ix=.dat (.int kd) n) (h0:0<=n) (hn:n<Ts xs) (hk:i.size=T.size E):jW P a w G o (.tT T (xs.getD n.toNat (T.dflt E)) 0):=by
 have hv:=hd.vd (hr.ev x);have EM:=hr.ev ix;rw[hdi]at EM;have VC:=EM.gq;have hnl:n.toNat<Ts xs:=om;rcases hv.xB with⟨-,-,hnil⟩|⟨b,off,cap,c,he,hcap,hkk,hc,h⟩
 ·simp at hnil;subst hnil;simp at hnl
 have hes:(xs.map (T.cells E)).getD n.toNat []=T.cells E (xs.getD n.toNat (T.dflt E)):=by simp[hnl]
 have hlen:(xs.map (T.cells E)).length=Ts xs:=by simp
 rw[hlen]at hcap hkk hc h he;obtain⟨xe,rW,BV,hsz,-⟩:=aQ hi;obtain⟨xt,kG,eG,-⟩:=aQ ht;have hkn:=hkk _ hnl;rw[hes]at hkn;refine gr (f:=λρ=>Instr.indexAt t (ρ x) (ρ ix)) (by simp[R0,ho]) ⟨.pointer (iN ⟨b,off+n.toNat*T.size E+0,iF⟩),?_,λw' hs=>?_⟩
 ·refine⟨b,off+n.toNat*T.size E,(bY (T.size E)).map (c n.toNat),rfl,LD.X3 (by rw[hkn];simp) (λl hl=>?_),λl u hl=>?_⟩
  ·grind
  grind
 ·rw[he];unfold Instr.indexAt asIntOf;simp[aW eG];simp_all[if_true,fK,add_lit]
theorem VE(hr:Rel E w0 G0 st a w G)(ho:o.op=.index t x ix)
  (ht:aY P t=iN ⟨.string,j1,j2,z⟩)    (hd:st.ev x=.dat .str l) (hdi:st.ev ix=.dat (.int kd) n) (h0:0<=n) (hn:n<Ts l) :
  jW (E:=E) P a w G o (.dat (.int .u8) ((l.getD n.toNat 0).toNat:Int)):=by
 have hv:=hr.ev x;rw[hd]at hv;have EM:=hr.ev ix;rw[hdi]at EM;obtain⟨xt,kG,eG,-⟩:=aQ ht;have hnl:n.toNat<Ts l:=om;refine gr (f:=λρ=>Instr.index t (ρ x) (ρ ix)) (by simp[R0,ho]) ⟨_,.int _ _ _ _,λw' hs=>?_⟩;rw[hv.iS,EM.gq];unfold Instr.index asIntOf mkStr;simp[aW eG,h0];have:(ByteArray.mk ⟨l⟩)[n.toNat]? = iN (l.getD n.toNat 0):=by have hsz:=hnl;rw[getElem?_pos (ByteArray.mk ⟨l⟩) n.toNat hsz];simp[ga hnl];rfl
 rw[this];rfl
theorem VF(hr:Rel E w0 G0 st a w G){s:aL}{f:Nat}{fd:Field}(ho:o.op=.fieldAddr s x f)
  (ht:aY P s=iN ⟨.struct fs,j1,j2,z⟩) (hf:fs[f]? = iN fd)  (hi:aY P fd.type=iN i) (hz:i.size≠0)    (hd:st.ev x=.tT T y off) :
  jW P a w G o (.tT T y (off+fd.offset)):=by
 have hv:=hr.ev x;rw[hd]at hv;obtain⟨b,o',c,he,h0,h1⟩:=hv;obtain⟨xt,kG,eG,-⟩:=aQ ht;obtain⟨xf,hxf,-,hsf,-⟩:=aQ hi;refine gr (f:=λρ=>Instr.fieldAt s (ρ x) f) (by simp[R0,ho]) ⟨.pointer (iN ⟨b,o'+(off+fd.offset),iF⟩),by grind[VT],λw' hs=>?_⟩;rw[he];unfold Instr.fieldAt Instr.sureAddr;simp[aW eG,hf];simp[fieldPlace,fK hxf,hsf,hz,add_lit,OT]
theorem VG(hr:Rel E w0 G0 st a w G){s:aL}{f:Nat}{fd:Field}(ho:o.op=.fieldAddr s x f)
  (ht:aY P s=iN ⟨.struct fs,j1,j2,z⟩) (hf:fs[f]? = iN fd)  (hi:aY P fd.type=iN i) (hz:i.size≠0)  (hd:st.ev x=.ptr r off) :
  jW P a w G o (.ptr r (off+fd.offset):TV E):=by
 have hv:=hr.ev x;rw[hd]at hv;obtain⟨b,he,hat⟩:=hv;obtain⟨xt,kG,eG,-⟩:=aQ ht;obtain⟨xf,hxf,-,hsf,-⟩:=aQ hi;refine gr (f:=λρ=>Instr.fieldAt s (ρ x) f) (by simp[R0,ho]) ⟨.pointer (iN ⟨b,off+fd.offset,iF⟩),by simp_all[VT],λw' hs=>?_⟩;rw[he];unfold Instr.fieldAt Instr.sureAddr;simp[aW eG,hf];simp[fieldPlace,fK hxf,hsf,hz,add_lit]
def mP(d:Int):O (TV E)->O Int|none=>iN d|some (.dat (.int _) n)=>iN n|some _=>iF
variable{lo hi:O dH}{ds:J (TV E)}{p q:Int}
theorem aam(l:J UInt8)(x y:Nat):(ByteArray.mk ⟨l⟩).extract x y=ByteArray.mk ⟨(l.take y).drop x⟩:=by apply ByteArray.ext;simp_all[UQ,List.drop_take]
theorem EN{k:eU}{y:Nat}{code:BoundsCode}(h0:0<=n)(h1:n<=y)(w':U):(Instr.sliceBound (.int k n) y code).run P w'=.ok n.toNat w':=by unfold Instr.sliceBound asIntOf;simp[h0,h1]
theorem Gp{isS:Bool}{len cap:Nat}(hlc:len<=cap){lo hi:O T1}{x y:Int}
  (hlo:(lo=iF/\x=0)\/∃k,lo=iN (.int k x)) (hhi:(hi=iF/\y=len)\/∃k,hi=iN (.int k y)) (h0:0<=x) (h1:x<=y) (h2:y<=len) (w':U) :
  (Instr.sliceBounds isS len cap lo hi iF).run P w'=.ok (x.toNat,y.toNat,cap) w':=by
 unfold Instr.sliceBounds;have hy:∀(k:eU)(code:BoundsCode),(Instr.sliceBound (.int k y) cap code).run P w'=.ok y.toNat w':=λk code=>EN om om w';have hx:∀(k:eU)(code:BoundsCode),(Instr.sliceBound (.int k x) y.toNat code).run P w'=.ok x.toNat w':=λk code=>EN h0 om w';rcases hlo with⟨rfl,rfl⟩|⟨k,rfl⟩<;>rcases hhi with⟨rfl,rfl⟩|⟨k',rfl⟩
 ·simp
 ·simp[hy]
 ·simp_all
 ·simp[hy,hx]
theorem uE(hr:Rel E w0 G0 st a w G){d x:Int}(hb:mP d (lo.map st.ev)=iN x):
  (lo.map a.eval=iF/\x=d)\/∃k,lo.map a.eval=iN (.int k x):=by
 cases lo with
 | none=>simp_all[mP]|some y=>
  have hv:=hr.ev y;simp only[aaY]at hb⊢;unfold mP at hb;split at hb
  ·rename_i he;cases he
  ·rename_i k n he;cases hb;rw[pO he]at hv;exact .inr ⟨k,by rw[hv.gq]⟩
  ·cases hb
theorem aan(hr:Rel E w0 G0 st a w G){j:Nat}(ho:o.op=.extract x j)(hd:st.ev x=.tuple ds)(hj:ds[j]? = iN d):
  jW P a w G o d:=by
 have hv:=hr.ev x;rw[hd]at hv;obtain⟨vs,he,h⟩:=hv;obtain⟨u,hu,h⟩:=h.get j hj;refine gr (f:=λρ=>Instr.extract (ρ x) j) (by simp[R0,ho]) ⟨u,h,λw' hs'=>?_⟩;rw[he];simp at hu;simp[Instr.extract,hu]
theorem aao(hr:Rel E w0 G0 st a w G){c:Call}(ho:o.op=.call c)(hc:c.callee=.builtin .len)(ha:c.args.toList=[x])(hat:c.argTypes.toList=[t])
  (ht:aY P t=iN ⟨.string,j1,j2,z⟩)  (hd:st.ev x=.dat .str l):jW (E:=E) P a w G o (.dat (.int .i64) (Ts l:Int)):=by
 have hv:=hr.ev x;rw[hd]at hv;obtain⟨xt,kG,eG,-⟩:=aQ ht;have gX:c.args=#[x]:=by grind
 have zo:c.argTypes=#[t]:=by grind
 refine⟨_,.int _ _ _ _,λw' hs=>?_⟩;unfold R0;simp[ho,resolve,hc,invoke,builtin,gX,zo];rw[hv.iS];simp[Builtin.len_,aW eG];rfl
theorem BZ(hr:Rel E w0 G0 st a w G){c:Call}(ho:o.op=.call c)(hc:c.callee=.builtin .len)(ha:c.args.toList=[x])(hat:c.argTypes.toList=[t])
  (ht:aY P t=iN ⟨.slice e,j1,j2,z⟩) {n:Nat} (hval:∃ad cap,a.eval x=.slice ad n cap):jW (E:=E) P a w G o (.dat (.int .i64) (n:Int)):=by
 obtain⟨xt,kG,eG,-⟩:=aQ ht;have gX:c.args=#[x]:=by grind
 have zo:c.argTypes=#[t]:=by grind
 obtain⟨ad,cap,he⟩:=hval;refine⟨_,.int _ _ _ _,λw' hs=>?_⟩;unfold R0;simp[ho,resolve,hc,invoke,builtin,gX,zo];rw[he];simp[Builtin.len_,aW eG,goInt]
theorem tY.header(h:tY d T xs)(hv:VT E w G d v):∃ad cap,v=.slice ad xs.length cap:=by
 rcases(h.vd hv).xB with⟨ad,he,hn⟩|⟨b,off,cap,c,he,-⟩
 ·simp_all
 simp_all
theorem VH(hr:Rel E w0 G0 st a w G)(ho:o.op=.slice t x lo hi iF)
  (ht:aY P t=iN ⟨.string,j1,j2,z⟩)  (hd:st.ev x=.dat .str l)  (hp:mP 0 (lo.map st.ev)=iN p) (hq:mP l.length (hi.map st.ev)=iN q)
  (h0:0<=p) (h1:p<=q) (h2:q<=Ts l):jW (E:=E) P a w G o (.dat .str ((l.take q.toNat).drop p.toNat)):=by
 have hv:=hr.ev x;rw[hd]at hv;obtain⟨xt,kG,eG,-⟩:=aQ ht;refine gr (f:=λρ=>Instr.sliceAt t (ρ x) (lo.map ρ) (hi.map ρ) iF) (by simp[R0,ho]) ⟨_,.str _ _ _,λw' hs=>?_⟩;have CZ:=Gp (P:=P) (isS:=eQ) (eo l.length) (uE hr hp) (uE hr hq) h0 h1 h2 w';rw[hv.iS];unfold Instr.sliceAt;unfold Instr.slice mkStr;have hsz:(ByteArray.mk ⟨l⟩).size=Ts l:=rfl;simp_all[aW,aam]
theorem Ue(hr:Rel E w0 G0 st a w G)(ho:o.op=.slice t x lo hi iF)
  (ht:aY P t=iN ⟨.slice e,j1,j2,z⟩) (hi':aY P e=iN i)   (hd:tY (st.ev x) T xs) 
  (hp:mP 0 (lo.map st.ev)=iN p) (hq:mP xs.length (hi.map st.ev)=iN q)
  (h0:0<=p) (h1:p<=q) (h2:q<=Ts xs) (hk:i.size=T.size E):jW P a w G o (.dat (.bz T) ((xs.take q.toNat).drop p.toNat)):=by
 have hv:=hd.vd (hr.ev x);obtain⟨xt,kG,eG,-⟩:=aQ ht;obtain⟨xe,rW,BV,hsz,-⟩:=aQ hi';have hmap:((xs.take q.toNat).drop p.toNat).map (T.cells E)=((xs.map (T.cells E)).take q.toNat).drop p.toNat:=by simp
 have hex:∃(ad:O Addr)(cap:Nat),a.eval x=.slice ad xs.length cap/\xs.length<=cap /\
   VT E w G (.dat (.bz T) ((xs.take q.toNat).drop p.toNat)) (.slice (if cap=p.toNat then ad else ad.map (·.add (p.toNat*T.size E))) (q.toNat-p.toNat) (cap-p.toNat)):=by
  have MI:(xs.map (T.cells E)).length=Ts xs:=by simp
  generalize hes:xs.map (T.cells E)=es at hv hmap MI;have hlen:((es.take q.toNat).drop p.toNat).length=q.toNat-p.toNat:=by simp;omega
  rcases hv.xB with⟨ad0,he,rfl⟩|⟨b,off,cap,c,he,hcap,hkk,hc,h⟩
  ·have hx0:=HA MI.symm;subst hx0;simp at h2;have hp0:p=0:=om;have hq0:q=0:=om;subst hp0;subst hq0;exact⟨ad0,0,he,eo _,.list (.v8 _ _)⟩
  ·rw[MI]at he hcap;refine⟨_,_,he,hcap,.list ?_⟩;rw[hmap];rw[<-hlen];by_cases sO:cap=p.toNat
   ·have hz:((es.take q.toNat).drop p.toNat)=[]:=by grind
    rw[hz,if_pos sO];exact .slice b off (cap-p.toNat) _ [] c (fq _) (λj hj=>by simp at hj) (λj l hj=>by simp at hj) (λj l hj=>by simp at hj)
   ·rw[if_neg sO];simp only[aaY,add_lit];refine .slice b (off+p.toNat*T.size E) (cap-p.toNat) _ _ (λj l=>c (p.toNat+j) l) (by rw[hlen];omega) (λj hj=>?_) (λj l hj hl=>?_) (λj l hj hl=>?_)
    ·grind
    ·grind
    grind
 obtain⟨ad,cap,he,hcap,hV⟩:=hex;refine gr (f:=λρ=>Instr.sliceAt t (ρ x) (lo.map ρ) (hi.map ρ) iF) (by simp[R0,ho]) ⟨_,hV,λw' hs=>?_⟩;have CZ:=Gp (P:=P) (isS:=hJ) hcap (uE hr hp) (uE hr hq) h0 h1 h2 w';unfold Instr.sliceAt;unfold Instr.slice;simp_all[aW,fK]
theorem aeW{len cap:Nat}{lo:O T1}{x y m:Int}{k1 k2:eU}
  (hlo:(lo=iF/\x=0)\/∃k,lo=iN (.int k x)) (h0:0<=x) (h1:x<=y) (h2:y<=m) (h3:m<=cap) (w':U) :
  (Instr.sliceBounds hJ len cap lo (iN (.int k1 y)) (iN (.int k2 m))).run P w'=.ok (x.toNat,y.toNat,m.toNat) w':=by
 unfold Instr.sliceBounds;have hm:∀(k:eU)(code:BoundsCode),(Instr.sliceBound (.int k m) cap code).run P w'=.ok m.toNat w':=λk code=>EN om om w';have hy:∀(k:eU)(code:BoundsCode),(Instr.sliceBound (.int k y) m.toNat code).run P w'=.ok y.toNat w':=λk code=>EN om om w';have hx:∀(k:eU)(code:BoundsCode),(Instr.sliceBound (.int k x) y.toNat code).run P w'=.ok x.toNat w':=λk code=>EN h0 om w';rcases hlo with⟨rfl,rfl⟩|⟨k,rfl⟩
 ·simp[hm,hy]
 ·simp[hm,hy,hx]
theorem acu(hr:Rel E w0 G0 st a w G){hi mx:dH}(ho:o.op=.slice t x lo (iN hi) (iN mx))
  (ht:aY P t=iN ⟨.slice e,j1,j2,z⟩) (hi':aY P e=iN i)   (hd:tY (st.ev x) T xs) {m:Int}
  (hp:mP 0 (lo.map st.ev)=iN p) (hq:mP 0 (iN (st.ev hi))=iN q) (hm:mP 0 (iN (st.ev mx))=iN m)
  (h0:0<=p) (h1:p<=q) (h2:q<=m) (h3:m<=Ts xs) (hk:i.size=T.size E):jW P a w G o (.dat (.bz T) ((xs.take q.toNat).drop p.toNat)):=by
 have hv:=hd.vd (hr.ev x);obtain⟨xt,kG,eG,-⟩:=aQ ht;obtain⟨xe,rW,BV,hsz,-⟩:=aQ hi';have hmap:((xs.take q.toNat).drop p.toNat).map (T.cells E)=((xs.map (T.cells E)).take q.toNat).drop p.toNat:=by simp
 have hex:∃(ad:O Addr)(cap:Nat),a.eval x=.slice ad xs.length cap/\xs.length<=cap /\
   VT E w G (.dat (.bz T) ((xs.take q.toNat).drop p.toNat)) (.slice (if m.toNat=p.toNat then ad else ad.map (·.add (p.toNat*T.size E))) (q.toNat-p.toNat) (m.toNat-p.toNat)):=by
  have MI:(xs.map (T.cells E)).length=Ts xs:=by simp
  generalize hes:xs.map (T.cells E)=es at hv hmap MI;have hlen:((es.take q.toNat).drop p.toNat).length=q.toNat-p.toNat:=by simp;omega
  rcases hv.xB with⟨ad0,he,rfl⟩|⟨b,off,cap,c,he,hcap,hkk,hc,h⟩
  ·have hx0:=HA MI.symm;subst hx0;simp at h3;have hp0:p=0:=om;have hq0:q=0:=om;have hm0:m=0:=om;subst hp0;subst hq0;subst hm0;exact⟨ad0,0,he,eo _,.list (.v8 _ _)⟩
  ·rw[MI]at he hcap;refine⟨_,_,he,hcap,.list ?_⟩;rw[hmap];rw[<-hlen];by_cases sO:m.toNat=p.toNat
   ·have hz:((es.take q.toNat).drop p.toNat)=[]:=by grind
    rw[hz,if_pos sO];exact .slice b off (m.toNat-p.toNat) _ [] c (fq _) (λj hj=>by simp at hj) (λj l hj=>by simp at hj) (λj l hj=>by simp at hj)
   ·rw[if_neg sO];simp only[aaY,add_lit];refine .slice b (off+p.toNat*T.size E) (m.toNat-p.toNat) _ _ (λj l=>c (p.toNat+j) l) (by rw[hlen];omega) (λj hj=>?_) (λj l hj hl=>?_) (λj l hj hl=>?_)
    ·grind
    ·grind
    grind
 obtain⟨ad,cap,he,hcap,hV⟩:=hex;have bi:∀(y:dH)(n:Int),mP 0 (iN (st.ev y))=iN n->∃k,a.eval y=.int k n:=λy n hb=>by
  rcases uE hr (lo:=iN y) hb with⟨h,-⟩|⟨k,h⟩
  ·cases h
  simp_all
 obtain⟨k1,hhi⟩:=bi hi q hq;obtain⟨k2,hmx⟩:=bi mx m hm;refine gr (f:=λρ=>Instr.sliceAt t (ρ x) (lo.map ρ) (iN (ρ hi)) (iN (ρ mx))) (by simp[R0,ho]) ⟨_,hV,λw' hs=>?_⟩;have CZ:=aeW (P:=P) (len:=Ts xs) (cap:=cap) (k1:=k1) (k2:=k2) (uE hr hp) h0 h1 h2 om w';unfold Instr.sliceAt;unfold Instr.slice;simp_all[aW,fK]
def VI(P:bx)(fs:aK Field):J (TV E)->J (Nat×TV E)->O (J (TV E))
 | cs,[]=>iN cs|cs,(j,d)::rest=>match fs[j]?,d.qd with
  | some fd,iN l=>match aY P fd.type with
   | some i=>cond (iO (fd.offset+Ts l) cs.length&&eI l.length i.size) (VI P fs (cs.take fd.offset++l++cs.drop (fd.offset+Ts l)) rest) iF|none=>iF
  | _,_=>iF
theorem Zm(off:Nat):∀(new:J T1)(i:Nat)(cs:aK T1),off+i+new.length<=cs.size ->
  ((new.zipIdx i).foldl (λcs (p:T1×Nat)=>cs.setIfInBounds (off+p.2) p.1) cs).toList=cs.toList.take (off+i)++new++cs.toList.drop (off+i+new.length)
 | [],i,cs,_=>by simp|v::rest,i,cs,h=>by simp;rw[Zm off rest (i+1) _ (by simp at h⊢;omega)];have e:=list_seg_step cs.toList (off+i) v rest (by simp at h⊢;omega);simpa[OT]using e
variable{place:Nat->O (Nat×Nat)}
theorem Pr{cells:aK T1}{j size:Nat}{rest:J (Nat×T1)}(hp:place j=iN (off,size))
  (hs:v.cells.size=size) (ho:off+size<=cells.size) :
  Instr.fill place cells ((j,v)::rest)=Instr.fill place (cells.toList.take off++v.cells.toList++cells.toList.drop (off+v.cells.size)).toArray rest:=by
 have hf:=Zm off v.cells.toList 0 cells aR;rw[Instr.fill,hp];have hc:¬ ((v.cells.size≠size||off+v.cells.size>cells.size)=hJ):=by simp;omega
 simp only;rw[if_neg hc];congr 1;grind[Array.ext',Array.toList_zipIdx]
theorem aeX(fs:J Field)(h:∀fd,fd∈fs->∃i,aY P fd.type=iN i):
  ∃places:J (Nat×Nat),fs.mapM (λf=>(P.info? f.type).map λi=>(f.offset,i.size))=iN places /\
   ∀(j:Nat) fd i,fs[j]? = iN fd->aY P fd.type=iN i->places[j]? = iN (fd.offset,i.size):=by
 induction fs with
 | nil=>simp_all|cons f fs ih=>obtain⟨places,hp,hq⟩:=ih λfd S3=>h fd (by simp[S3]);obtain⟨i,hi⟩:=h f si;obtain⟨x,hx,-,hs,-⟩:=aQ hi;refine⟨(f.offset,i.size)::places,by simp_all,λj fd i' hj hi'=>?_⟩;grind
theorem VJ(hE:E.Ok)(hr:Rel E w0 G0 st a w G){fs:aK Field}{place:Nat->O (Nat×Nat)}
  (hpl:∀(j:Nat) fd i,fs[j]? = iN fd->aY P fd.type=iN i->place j=iN (fd.offset,i.size)) :
  ∀(parts:J (Nat×dH))(cells:aK T1)(ds:J (TV E)){ds':J (TV E)},bO E w G ds cells.toList->(∀u,u∈cells.toList->u.oneCell'=hJ) ->
  VI P fs ds (parts.map λp=>(p.1,st.ev p.2))=iN ds' ->
  ∃cells':aK T1,Instr.fill place cells (parts.map λp=>(p.1,a.eval p.2))=iN cells'/\bO E w G ds' cells'.toList/\∀u,u∈cells'.toList->u.oneCell'=hJ
 | [],cells,ds,ds',h,h1,hf=>by cases hf;exact⟨cells,rfl,h,h1⟩
 | (j,x)::rest,cells,ds,ds',h,h1,hf=>by
  simp only[jI,VI]at hf;split at hf<;>try trivial
  rename_i fd l S3 hl;split at hf<;>try trivial
  rename_i i hi;cases hb:(iO (fd.offset+Ts l) ds.length&&eI l.length i.size)<;>rw[hb]at hf<;>simp only[aU,aJ]at hf
  ·cases hf
  rw[cK]at hb;have hsz:=eY hb.2;obtain⟨hx,hx1⟩:=tW hE (hr.ev x) hl;have hlen:(a.eval x).cells.size=Ts l:=by simpa using hx.length
  have hcl:cells.size=Ts ds:=by simpa using h.length
  simp only[jI];rw[Pr (hpl j fd i S3 hi) (by rw[hlen,hsz]) (by simp_all),hlen];refine VJ hE hr hpl rest _ _ ?_ ?_ hf
  ·exact((h.take _).append hx).append (h.drop _)
  grind
theorem bO.ofValues:∀ {vs:J T1},bO E w G (vs.map TV.Ll) vs|[]=>.nil|v::vs=>.cons (acq w G v) bO.ofValues
def RU(E:TEnv)(ty:O Ty)(cs:J (TV E)):TV E:=
 match ty with
 | none=>.agg cs|some t=>match Pq E 4 t cs with
  | some (x,[])=>cond t.isAgg (.dat t x) (.agg cs)|_=>.agg cs
theorem KA(hE:E.Ok){vs:aK T1}(h:bO E w G cs vs.toList)(h1:∀u,u∈vs.toList->u.oneCell'=hJ):VT E w G (RU E ty cs) (.agg vs):=by unfold RU;grind[BS,bO,VT]
theorem aeY(hE:E.Ok)(hr:Rel E w0 G0 st a w G){parts:aK (Nat×dH)}{z:aK T1}(ho:o.op=.build t parts)
  (ht:aY P t=iN ⟨.struct fs,j1,j2,.agg z⟩) (h2:(z.toList.all (·.oneCell')&&fs.toList.all λfd=>(aY P fd.type).isSome)=hJ) 
  (hf:VI P fs (z.toList.map TV.Ll) (parts.toList.map λp=>(p.1,st.ev p.2))=iN ds) (ty:O Ty):jW P a w G o (RU E ty ds):=by
 rw[cK]at h2;obtain⟨places,hpl,hpq⟩:=aeX fs.toList (λfd S3=>Option.isSome_iff_exists.1 (pP.1 h2.2 fd S3));obtain⟨xt,kG,eG,hsz,hby,hz⟩:=aQ ht
 obtain⟨cells,hc,hl,hl1⟩:=VJ hE hr (place:=(places.toArray[·]?)) (λj fd i hj hi=>by
  simp_all) parts.toList z (z.toList.map TV.Ll) bO.ofValues (λu hu=>pP.1 h2.1 u hu) hf
 refine gr (f:=λρ=>Instr.build t (parts.map λ(i,x)=>(i,ρ x))) (by simp[R0,ho]) ⟨.agg cells,KA hE hl hl1,λw' hs=>?_⟩;refine run_build w' t _ cells ?_;unfold Program.built;simp only[kG,eG,hz,hpl];rw[show(parts.map λ(i,x)=>(i,a.eval x)).toList=parts.toList.map λp=>(p.1,a.eval p.2) by simp];exact hc
def TV.Lm:TV E->O ((T:Ty)×J (T.den E.D))|.dat (.bz T) xs=>iN ⟨T,xs⟩|.cH _ _ T xs=>iN ⟨T,xs⟩|_=>iF
theorem TV.Jy(h:d.Lm=iN ⟨T,xs⟩):tY d T xs:=by
 unfold TV.Lm at h;split at h
 ·cases h;exact .dat _ _
 ·cases h;exact .cH _ _ _ _
 ·cases h
def okT(x:O (TV E)):O (Bool×TV E):=match x with|some d=>iN (hJ,d)|none=>iF
def arE(d:TV E)(k:TypeDesc):O (TV E):=match k,d with|.string,.dat .str l=>iN (.dat (.int .i64) (Ts l:Int))|.slice _,.dat (.bz T) xs=>iN (.dat (.int .i64) (Ts xs:Int))|.slice _,.cH _ _ T xs=>iN (.dat (.int .i64) (Ts xs:Int))|.slice _,.val (.slice iF 0 0)=>iN (.dat (.int .i64) (0:Int))|_,_=>iF
def nL(n:Int):J UInt8:=(Utf8.encode n).data.toList
def aoF(P:bx)(src dst:aL)(d:TV E):O (TV E):=match d,aY P src,aY P dst with|.dat (.int _) n,iN _,iN ⟨.int kk,_,_,_⟩=>iN (.dat (.int kk) (kk.wrap n))|.dat .str l,iN _,iN ⟨.string,_,_,_⟩=>iN (.dat .str l)|.dat (.int _) n,iN _,iN ⟨.string,_,_,_⟩=>iN (.dat .str (nL n))|_,_,_=>iF
def RW(P:bx)(ty:aL->O Ty)(st:TS E):Op->O (Bool×TV E)
 | .move x=>iN (hJ,st.ev x)|.assign x=>iN (hJ,st.ev x)|.load t x=>match aY P t,st.ev x with
  | some i,.tT T y off=>okT (TV.part T y i.isAgg i.size off)|some i,.ptr r off=>match st.H[r]? with
   | some (.cells _ cs)=>okT (VB E (ty t) cs i.isAgg i.size off)|_=>iF
  | _,_=>iF
 | .nilCheck x=>match st.ev x with
  | .ptr r off=>iN (hJ,.ptr r off)|.tT T y off=>iN (hJ,.tT T y off)|.func (.func f) cap=>iN (hJ,.func (.func f) cap)|_=>iF
 | .binOp op _ x y _=>amz op (st.ev x) (st.ev y)|.unOp op _ x=>match op,st.ev x with
  | .not,.dat .bool b=>iN (hJ,.dat .bool (!b))|.neg,.dat (.int k) n=>iN (hJ,.dat (.int k) (k.wrap (0-n)))|.xor,.dat (.int k) n=>iN (hJ,.dat (.int k) (XU k n))|_,_=>iF
 | .makeFunc fn first cap=>match first.toList with
  | []=>iN (hJ,.func fn (cap.toList.map st.ev))|x::xs=>match cap.toList with
   | []=>iN (hJ,.HV fn ((x::xs).map st.ev))|_=>iF
 | .fieldAddr s x f=>match aY P s,st.ev x with
  | some ⟨.struct fs,_,_,_⟩,.tT T y off=>match fs[f]? with
   | some fd=>match aY P fd.type with
    | some i=>iN (!(eI i.size 0),.tT T y (off+fd.offset))|none=>iF
   | none=>iF
  | some ⟨.struct fs,_,_,_⟩,.ptr r off=>match fs[f]? with
   | some fd=>match aY P fd.type with
    | some i=>iN (!(eI i.size 0),.ptr r (off+fd.offset))|none=>iF
   | none=>iF
  | _,_=>iF
 | .indexAddr t x ix=>match aY P t,(st.ev x).Lm,st.ev ix with
  | some ⟨.slice e,_,_,_⟩,iN ⟨T,xs⟩,.dat (.int _) n=>match aY P e with
   | some i=>iN (eI i.size (T.size E)&&(eK (0<=n)&&eK (n<(Ts xs:Int))),.tT T (xs.getD (eJ n) (T.dflt E)) 0)|none=>iF
  | _,_,_=>iF
 | .index t x ix=>match aY P t,st.ev x,st.ev ix with
  | some ⟨.string,_,_,_⟩,.dat .str l,.dat (.int _) n=>iN (eK (0<=n)&&eK (n<(Ts l:Int)),.dat (.int .u8) ((l.getD (eJ n) 0).toNat:Int))|_,_,_=>iF
 | .extract x j=>match st.ev x with
  | .tuple ds=>okT ds[j]?|_=>iF
 | .build t parts=>match aY P t with
  | some ⟨.struct fs,_,_,.agg z⟩=>match VI P fs (z.toList.map TV.Ll) (parts.toList.map λp=>(p.1,st.ev p.2))with
   | some ds=>iN (z.toList.all (·.oneCell')&&fs.toList.all (λfd=>(aY P fd.type).isSome),RU E (ty t) ds)
   | none=>iF
  | _=>iF
 | .convert src dst x=>okT (aoF P src dst (st.ev x))|.makeInterface t x=>match aY P t with
  | some ⟨.interface _,_,_,_⟩=>iF|some _=>iN (hJ,.iface t (st.ev x))|none=>iF
 | .slice t x lo hi iF=>match aY P t,st.ev x with
  | some ⟨.string,_,_,_⟩,.dat .str l=>match mP 0 (lo.map st.ev),mP (Ts l:Int) (hi.map st.ev)with
   | some p,iN q=>iN (eK (0<=p)&&(eK (p<=q)&&eK (q<=(Ts l:Int))),.dat .str ((l.take q.toNat).drop p.toNat))|_,_=>iF
  | some ⟨.slice e,_,_,_⟩,d=>match d.Lm,aY P e with
   | some ⟨T,xs⟩,iN i=>match mP 0 (lo.map st.ev),mP (Ts xs:Int) (hi.map st.ev)with
    | some p,iN q=>iN (eI i.size (T.size E)&&(eK (0<=p)&&(eK (p<=q)&&eK (q<=(Ts xs:Int)))),.dat (.bz T) ((xs.take q.toNat).drop p.toNat))|_,_=>iF
   | _,_=>iF
  | _,_=>iF
 | .slice t x lo (iN hi) (iN mx)=>match aY P t,st.ev x with
  | some ⟨.slice e,_,_,_⟩,d=>match d.Lm,aY P e with
   | some ⟨T,xs⟩,iN i=>match mP 0 (lo.map st.ev),mP 0 (iN (st.ev hi)),mP 0 (iN (st.ev mx))with
    | some p,iN q,iN m=>iN (eI i.size (T.size E)&&(eK (0<=p)&&(eK (p<=q)&&(eK (q<=m)&&eK (m<=(Ts xs:Int))))),.dat (.bz T) ((xs.take q.toNat).drop p.toNat))|_,_,_=>iF
   | _,_=>iF
  | _,_=>iF
 | .call c=>match c.callee,c.args.toList,c.argTypes.toList with
  | .builtin .len,[x],[t]=>match aY P t with
   | some i=>okT (arE (st.ev x) i.kind)|none=>iF
  | _,_,_=>iF
 | _=>iF
theorem Dz{x:O (TV E)}{c:Bool}(h:okT x=iN (c,d)):x=iN d:=by
 cases x with
 | none=>cases h
 | some y=>cases h;rfl
theorem aeZ(hE:E.Ok)(hr:Rel E w0 G0 st a w G){ty:aL->O Ty}{c:Bool}(h:RW P ty st o.op=iN (c,d))(hc:c=hJ):jW P a w G o d:=by
 cases ho:o.op<;>rw[ho]at h<;>simp only[RW]at h
 case move x=>grind[acs]
 case assign x=>grind[acs]
 case load t x=>grind[XZ,Dz,X0]
 case nilCheck x=>
  have hv:=hr.ev x;split at h<;>try trivial
  ·rename_i r off hd;cases h;rw[hd]at hv;have jT:=hv;obtain⟨b,he,-⟩:=jT;exact⟨_,hv,λw' hs=>by simp[R0,ho,he]⟩
  ·rename_i T y off hd;cases h;rw[hd]at hv;have jT:=hv;obtain⟨b,o',c',he,-⟩:=jT;exact⟨_,hv,λw' hs=>by simp[R0,ho,he]⟩
  ·rename_i f cap hd;cases h;rw[hd]at hv;have jT:=hv;obtain⟨vs,he,-⟩:=jT;exact⟨_,hv,λw' hs=>by simp[R0,ho,he]⟩
 case binOp op t x y ty'=>obtain⟨r,hv,hrun⟩:=ahT (P:=P) (op:=op) (t:=t) (x:=x) (y:=y) (hr.ev x) (hr.ev y) h hc;exact gr (f:=λρ=>do eqGuard op t x y (ρ x) (ρ y);binOp op t (ρ x) (ρ y)) (by simp[R0,ho]) ⟨r,hv,λw' _=>hrun w'⟩
 case unOp op t x=>
  have hv:=hr.ev x;split at h<;>try trivial
  ·rename_i b hd;cases h;rw[hd]at hv;exact⟨_,.bool _ _ _,λw' hs=>by simp[R0,ho,hv.nv,Op.unary]⟩
  ·rename_i k n hd;cases h;rw[hd]at hv;exact⟨_,.int _ _ _ _,λw' hs=>by simp[R0,ho,hv.gq,Op.unary,Op.intArith]⟩
  ·rename_i k n hd;cases h;rw[hd]at hv
   exact⟨_,.int _ _ _ _,λw' hs=>by
    simp only[R0,ho,hv.gq,Op.unary,XX];rfl⟩
 case makeFunc fn first cap=>
  have evs:∀l:J dH,bO E w G (l.map st.ev) (l.map a.eval):=by
   intro l
   induction l with|nil=>exact .nil|cons y l ih=>exact .cons (hr.ev y) ih
  split at h
  rotate_left
  ·rename_i x xs hf;split at h<;>try trivial
   cases h;have tA:cap=#[]:=by simp_all
   refine gr (f:=λρ=>Instr.makeFunc fn (first.map ρ) (cap.map ρ)) (by simp[R0,ho]) ⟨.func fn (first.map a.eval) #[],?_,λw' _=>by simp[Instr.makeFunc,tA]⟩;simp only[VT];rw[<-hf];simpa using evs first.toList
  rename_i hf;cases h;have hf':first=#[]:=by simp_all
  refine gr (f:=λρ=>Instr.makeFunc fn (first.map ρ) (cap.map ρ)) (by simp[R0,ho]) ⟨.func fn #[] (cap.map a.eval),?_,λw' _=>by simp[Instr.makeFunc,hf']⟩;simp_all[VT,bO]
 case fieldAddr s x f=>
  split at h<;>try trivial
  ·rename_i fs j1 j2 z T y off hs hd;split at h<;>try trivial
   rename_i fd hf;split at h<;>try trivial
   rename_i i hi;cases h;refine VF hr ho hs hf hi (λh0=>?_) hd;rw[h0]at hc;cases hc
  ·rename_i fs j1 j2 z r off hs hd;split at h<;>try trivial
   rename_i fd hf;split at h<;>try trivial
   rename_i i hi;cases h;refine VG hr ho hs hf hi (λh0=>?_) hd;rw[h0]at hc;cases hc
 case indexAddr t x ix=>grind[aeV,TV.Jy,Nat.eq_of_beq_eq_true]
 case index t x ix=>grind[VE]
 case extract x j=>grind[aan,Dz]
 case build t parts=>grind[aeY]
 case convert src dst x=>
  have hb:=Dz h;have hv:=hr.ev x;unfold aoF at hb;split at hb<;>try trivial
  ·rename_i k n _ kk j1 j2 z hd hs acv;cases hb;rw[hd]at hv;obtain⟨xs,hxs,Te,-⟩:=aQ hs;obtain⟨xd,hxd,hud,-⟩:=aQ acv;refine gr (f:=λρ=>convert src dst (ρ x)) (by simp[R0,ho]) ⟨_,.int _ _ _ _,λw' _=>?_⟩;rw[hv.gq];unfold convert;simp only[jJ,aW Te,aW hud,kn];rfl
  ·rename_i l _ j1 j2 z hd hs acv;cases hb;rw[hd]at hv;obtain⟨xs,hxs,Te,-⟩:=aQ hs;obtain⟨xd,hxd,hud,-⟩:=aQ acv;refine gr (f:=λρ=>convert src dst (ρ x)) (by simp[R0,ho]) ⟨_,.str _ _ _,λw' _=>?_⟩;rw[hv.iS];unfold convert mkStr;simp_all[jJ,aW,kn]
  ·rename_i k n _ j1 j2 z hd hs acv;cases hb;rw[hd]at hv;obtain⟨xs,hxs,Te,-⟩:=aQ hs;obtain⟨xd,hxd,hud,-⟩:=aQ acv;refine gr (f:=λρ=>convert src dst (ρ x)) (by simp[R0,ho]) ⟨_,.str _ _ _,λw' _=>?_⟩;rw[hv.gq];unfold convert mkStr nL;simp only[jJ,aW Te,aW hud,kn];rfl
 case makeInterface t x=>
  split at h<;>try trivial
  rename_i ti hne ht;cases h;obtain⟨xt,kG,eG,-⟩:=aQ ht;refine gr (f:=λρ=>Instr.makeInterface t (ρ x)) (by simp[R0,ho]) ⟨.iface t (a.eval x),by simp only[VT];exact⟨_,rfl,hr.ev x⟩,λw' _=>?_⟩;unfold Instr.makeInterface;simp only[jJ,aW eG,kn];split
  ·rename_i ms hk;exact(hne ms _ _ _ (by rw[<-hk])).elim
  ·rfl
 case slice t x lo hi mx=>
  cases mx with
  | some m=>cases hi with|none=>simp at h|some hi=>grind[acu,TV.Jy,Nat.eq_of_beq_eq_true]
  | none=>grind[VH,Ue,TV.Jy,Nat.eq_of_beq_eq_true]
 case call c'=>
  split at h<;>try trivial
  rename_i x t hcl ha hat;split at h<;>try trivial
  rename_i i ht;have hb:=Dz h;have hv:=hr.ev x;obtain⟨kind,j1,j2,z⟩:=i;unfold arE at hb;split at hb<;>try trivial
  ·grind[aao]
  ·rename_i e T xs hk hd;cases hb;dsimp only at hk;subst hk;rw[hd]at hv;exact BZ hr ho hcl ha hat ht ((tY.dat T xs).header hv)
  ·rename_i e j aG T xs hk hd;cases hb;dsimp only at hk;subst hk;rw[hd]at hv;exact BZ hr ho hcl ha hat ht ((tY.cH j aG T xs).header hv)
  ·rename_i e hk hd;cases hb;dsimp only at hk;subst hk;rw[hd]at hv;exact BZ (n:=0) hr ho hcl ha hat ht ⟨_,_,hv⟩
 all_goals cases h
variable{w' w'':U}{G' G'':bB}
theorem jc.refl(w:U)(G:bB):jc w G w G:=⟨λ_ _ h=>h,λ_ _ _ _ h=>h,λ_ _ h=>h,λj x h hj=>⟨x,h,hj,eo _,λ_=>rfl⟩⟩
theorem jc.trans(h:jc w G w' G')(h':jc w' G' w'' G''):jc w G w'' G'':=by refine⟨λb o hp=>h'.pr b o (h.pr b o hp),λb o v hp hv=>h'.cells b o v (h.pr b o hp) (h.cells b o v hp hv),λr b hb=>h'.i r b (h.i r b hb),λj x y hj=>?_⟩;obtain⟨x1,y1,h1,l1,e1⟩:=h.g j x y hj;obtain⟨x2,y2,h2,l2,e2⟩:=h'.g j x1 y1 h1;grind
theorem mm.refl(w:U)(G:bB):mm w G w G:=
 ⟨rfl,rfl,rfl,eo _,λ_ _ _=>rfl,.refl w G,λ_ _ _ h=>.inl h,λr b hl hb=>by
  simp_all,λj x h b hj hb=>.inr ⟨x,h,hj,hb⟩⟩
theorem gK.mono(hg:jc w G w' G'){kt vt:Ty}:∀ {es:J MapEntry}{m:J (kt.den E.D×vt.den E.D)},gK E w G kt vt es m->gK E w' G' kt vt es m|[],[],_=>trivial|_::_,_::_,h=>⟨h.1.mono hg,h.2.1.mono hg,gK.mono hg h.2.2⟩|[],_::_,h=>h.elim|_::_,[],h=>h.elim
theorem DOk.mono(hg:jc w G w' G'){d:Deferred}{x:H5×J (TV E)}(h:DOk E w G d x):DOk E w' G' d x:=h.imp (λ⟨h0,cap,h1,h2⟩=>⟨h0,cap,h1,h2.mono hg⟩) λ⟨h0,b,h1,h2⟩=>⟨h0,b,h1,h2.mono hg⟩
theorem kW.mono(hg:jc w G w' G'):∀ {ds:J Deferred}{xs:J (H5×J (TV E))},kW E w G ds xs->kW E w' G' ds xs|[],[],_=>trivial|_::_,_::_,h=>⟨h.1.mono hg,kW.mono hg h.2⟩|[],_::_,h=>h.elim|_::_,[],h=>h.elim
theorem kI.mono(hg:jc w G w' G'){x:gf E}(h:kI E w G b x)(hb:w'.heap[b]? = w.heap[b]?):kI E w' G' b x:=by
 cases x with
 | cells t cs=>obtain⟨vs,h1,h2,h3⟩:=h;exact⟨vs,by rw[hb];exact h1,h2,h3.mono hg⟩
 | iter s pos=>show _=_;rw[hb];exact h
 | loop y ds=>obtain⟨Y,fn,tmps,D,h0,h1,h2⟩:=h;exact⟨Y,fn,tmps,D,h0,by rw[hb];exact h1,h2.mono hg⟩
 | gone=>obtain⟨o,h,h'⟩:=h;exact⟨o,by rw[hb];exact h,h'⟩
 | Tb=>show _=_;rw[hb];exact h
 | map kt vt m=>obtain⟨es,clock,h1,h2,h3⟩:=h;exact⟨es,clock,by rw[hb];exact h1,h2,h3.mono hg⟩
 | mI e cap t xs d=>obtain⟨cur,h1,h2,h4,h5,h6⟩:=h;exact⟨cur,by rw[hb];exact h1,h2,λi x hx=>(h4 i x hx).mono hg,h5.mono hg,h6⟩
theorem fG.alloc(w:U)(o:Obj):fG w (w.alloc o):=⟨si,λb hb=>heap_alloc_old w o b hb⟩
theorem fG.trans{w1 w2 w3:U}(h:fG w1 w2)(h':fG w2 w3):fG w1 w3:=⟨lG h.1 h'.1,λb hb=>(h'.2 b (kD hb h.1)).trans (h.2 b hb)⟩
theorem zG.same{x:cV}{h:T1}(hg:zG E w G x h)(hs:fG w w')(hi:∀b,b∈G'.i->b<w.heap.size->b∈G.i)(HW:∀b o,b<w.heap.size->G'.pr b o->G.pr b o):zG E w' G' x h:=by
 obtain⟨n,xs,ho,hz,hb⟩:=hg;refine⟨n,xs,⟨ho.1,?_⟩,hz,λb HP=>?_⟩
 ·rcases ho.2 with h2|⟨g,cap,cur,h2,h3,h4,h5⟩
  ·exact .inl h2
  ·exact .inr ⟨g,cap,cur,h2,h3,by rw[hs.2 g (Bp.1 h4).1];exact h4,h5⟩
 ·obtain⟨h1,h2,h3⟩:=hb b HP;exact⟨kD h1 hs.1,λhm=>h2 (hi b hm h1),λo hno tZ=>h3 o hno (HW b o h1 tZ)⟩
theorem tU.keep{x x':cV}{hd:T1}{c:Cn E}(h:tU E w G x hd c)(he:x'.e=x.e)(hk:x'.k=x.k)(tZ:∀b o,G.pr b o->G'.pr b o)(hcl:∀b o v,G.pr b o->w.cell? ⟨b,o,iF⟩=iN v->w'.cell? ⟨b,o,iF⟩=iN v)(hb:∀b,hd.ownBlock=iN b->w'.heap[b]? = w.heap[b]?/\∀o,G'.pr b o->G.pr b o):
  tU E w' G' x' hd c:=by
 obtain⟨h1,h2,⟨vals,ho,hf⟩,hp⟩:=h;refine⟨by rw[hk];exact h1,by rw[hk];exact h2,⟨vals,⟨by rw[hk];exact ho.1,?_⟩,by rw[hk];exact hf.mono tZ hcl⟩,λb hbk o tZ=>hp b hbk o ((hb b hbk).2 o tZ)⟩;rcases ho.2 with q|⟨g,cap,cur,q1,q2,q3,q4⟩
 ·exact .inl q
 ·refine .inr ⟨g,cap,cur,q1,q2,?_,by rw[hk];exact q4⟩;rw[(hb g (by rw[q1];rfl)).1,he];exact q3
theorem lS.keep{cs:J (Nat×Cn E)}(h:lS E w G cs)(hg:jc w G w' G')(hrow:∀(j:Nat) x hd,G.g[j]? = iN (x,hd)->(∃c,(j,c)∈cs)->∃x',G'.g[j]? = iN (x',hd)/\x'.e=x.e/\x'.k=x.k/\∀b,hd.ownBlock=iN b->w'.heap[b]? = w.heap[b]?/\∀o,G'.pr b o->G.pr b o):
  lS E w' G' cs:=by
 intro j c hj;obtain⟨x,hd,h1,h2⟩:=h j c hj;obtain⟨x',q1,q2,q3,q4⟩:=hrow j x hd h1 ⟨c,hj⟩;exact⟨x',hd,q1,h2.keep q2 q3 hg.pr hg.cells q4⟩
theorem Rel.grow(h:Rel E w0 G0 st a w G)(hs:fG w w')(h1:w'.os=w.os)(h2:w'.tape=w.tape)(h3:w'.output=w.output)(mO:Nat->Nat->Prop)
  (hp:∀b o,G.pr b o->mO b o) (HW:∀b o,b<w.heap.size->mO b o->G.pr b o) (hpn:∀b o,mO b o->b<w'.heap.size) :
  Rel E w0 G0 st a w' {G with pr:=mO}:=by
 have hg:jc w G w' {G with pr:=mO}:=⟨hp,λb o v _ hv=>hs.cell hv,λ_ _ h=>h,λj x y hj=>⟨x,y,hj,eo _,λ_=>rfl⟩⟩;have ev:=h.fF
 refine⟨⟨h1.trans ev.os,h2.trans ev.tape,h3.trans ev.output,lG ev.size hs.1,λb hb hn=>(hs.2 b (kD hb ev.size)).trans (ev.old b hb hn),ev.goes.trans hg,
  λb o hb tZ=>ev.pE b o hb (HW b o (kD hb ev.size) tZ),ev.r7,ev.iz⟩,h.size,λj d hj=>(h.tmps j d hj).mono hg,h.defers.mono hg,?_,λr b hb hd=>(hs.2 b (h.boxes.lt b (jR (h.fF.goes.i r b hb)))).trans (h.fix r b hb hd),h.pins,h.gO.keep hg λj x hd hj _=>⟨x,hj,rfl,rfl,λb hbk=>by
   obtain⟨n,xs,-,-,hb⟩:=h.boxes.grow j x hd hj;exact⟨hs.2 b (hb b hbk).1,λo=>HW b o (hb b hbk).1⟩⟩⟩
 refine⟨h.boxes.len,h.boxes.gs,λr b x hb hx=>(h.boxes.box r b x hb hx).mono hg (hs.2 b (h.boxes.lt b (jR hb))),λb hb=>kD (h.boxes.lt b hb) hs.1,h.boxes.nodup,
  λb o tZ=>⟨hpn b o tZ,λhm=>(h.boxes.gN b o (HW b o (h.boxes.lt b hm) tZ)).2 hm⟩,λj x y hj=>(h.boxes.grow j x y hj).same hs (λb hb _=>hb) HW,h.boxes.apart⟩
theorem Rel.Ln(h:Rel E w0 G0 st a w G)(o:Obj)(x:gf E)(hx:kI E (w.alloc o) G w.heap.size x):
  Rel E w0 G0 {st with H:=st.H++[x]} a (w.alloc o) {G with i:=G.i++[w.heap.size]}:=by
 have h':=h.grow (fG.alloc w o) rfl rfl rfl G.pr (λ_ _ h=>h) (λ_ _ _ h=>h) (λb o' hp=>kD (h.boxes.gN b o' hp).1 si)
 have hg:jc (w.alloc o) G (w.alloc o) {G with i:=G.i++[w.heap.size]}:=⟨λ_ _ h=>h,λ_ _ _ _ h=>h,λr b hb=>by
  grind,λj x y hj=>⟨x,y,hj,Nat.le_refl _,λ_=>rfl⟩⟩
 have ev:=h'.fF;refine⟨⟨ev.os,ev.tape,ev.output,ev.size,ev.old,ev.goes.trans hg,ev.pE,λr b hl hb=>?_,ev.iz⟩,h.size,λj d hj=>(h'.tmps j d hj).mono hg,h'.defers.mono hg,?_,h'.fix,h.pins,h'.gO.keep hg λj x hd hj _=>⟨x,hj,rfl,rfl,λb hbk=>⟨rfl,λo h=>h⟩⟩⟩
 ·by_cases hr:r<G.i.length
  ·rw[wQ hr]at hb;exact ev.r7 r b hl hb
  ·have:=(fC.1 hb).1;simp at this;have hre:r=G.i.length:=om;subst hre;simp at hb;subst hb;exact h.fF.size
 refine⟨by simp[h.boxes.len],h.boxes.gs,λr b y hb hy=>?_,λb hb=>?_,?_,λb o' hp=>?_,λj y z hj=>?_,h.boxes.apart⟩
 ·by_cases hr:r<G.i.length
  ·rw[wQ hr]at hb;rw[wQ (by rw[<-h.boxes.len];exact hr)]at hy;exact(h'.boxes.box r b y hb hy).mono hg rfl
  ·have:=(fC.1 hb).1;simp at this;have hre:r=G.i.length:=om;subst hre;simp at hb;rw[h.boxes.len]at hy;simp at hy;subst hb;subst hy;exact hx.mono hg rfl
 ·rcases ni.1 hb with hb|hb
  ·exact h'.boxes.lt b hb
  simp_all
 ·refine agJ.2 ⟨h.boxes.nodup,si,λb hb c hc=>?_⟩;simp at hc;subst hc;exact Nat.ne_of_lt (h.boxes.lt b hb)
 ·obtain⟨p1,p2⟩:=h.boxes.gN b o' hp;refine⟨kD p1 si,λhm=>?_⟩;simp_all
 ·refine(h.boxes.grow j y z hj).same (fG.alloc w o) (λb hb hlt=>?_) (λ_ _ _ h=>h);grind
end Go.RT
namespace Go.RT
variable {E : TEnv}
variable{P:bx}{w0 w w' w'':U}{G0 G G' G'':bB}{st:TS E}{a:Act}{o:H3}
theorem Rel.zI(h:Rel E w0 G0 st a w G){r b:Nat}(hat:G.i[r]? = iN b)(hsz:w'.heap.size=w.heap.size)(h1:w'.os=w.os)(h2:w'.tape=w.tape)(h3:w'.output=w.output)
  (o4:∀b',b'≠b->w'.heap[b']? = w.heap[b']?) {x:gf E} (hx:jc w G w' G->kI E w' G b x):Rel E w0 G0 {st with H:=st.H.set r x,d:=r::st.d} a w' G:=by
 have hin:=jR hat;have au4:=λo hp=>(h.boxes.gN b o hp).2 hin
 have hg:jc w G w' G:=⟨λ_ _ h=>h,λb' o v hp hv=>by
  have:b'≠b:=λe=>by subst e;exact au4 o hp
  rw[Rf (o4 b' this)];exact hv,λ_ _ h=>h,λj x y hj=>⟨x,y,hj,eo _,λ_=>rfl⟩⟩
 have ev:=h.fF
 refine⟨⟨h1.trans ev.os,h2.trans ev.tape,h3.trans ev.output,by rw[hsz];exact ev.size,λb' hb' hn=>?_,ev.goes.trans hg,ev.pE,ev.r7,ev.iz⟩,h.size,λj d hj=>(h.tmps j d hj).mono hg,h.defers.mono hg,?_,λr' b' hb' hd=>?_,h.pins,h.gO.keep hg λj y z hj _=>⟨y,hj,rfl,rfl,λc hbk=>⟨o4 c (λe=>by
   obtain⟨n,xs,-,-,hb⟩:=h.boxes.grow j y z hj
   simp_all),λo h=>h⟩⟩⟩
 ·rw[o4 b' (λe=>?_)]
  ·exact ev.old b' hb' hn
  ·subst e;by_cases hr:r<G0.i.length
   ·have e1:=ev.goes.i r _ (ga hr);rw[hat]at e1;exact hn (.inl (by simp_all))
   ·have:=ev.r7 r b' om hat;omega
 rotate_left
 ·simp at hd;have q0:=ev.goes.i r' b' hb';rw[o4 b' (λe=>?_)]
  ·exact h.fix r' b' hb' hd.2
  ·subst e;have q1:=fC.1 hat;have q2:=fC.1 q0;exact hd.1 ((UR h.boxes.nodup).1 (q2.2.trans q1.2.symm))
 refine⟨by simp[h.boxes.len],h.boxes.gs,λr' b' y hb' hy=>?_,λb' hb'=>by rw[hsz];exact h.boxes.lt b' hb',h.boxes.nodup,λb' o hp=>by rw[hsz];exact h.boxes.gN b' o hp,λj y z hj=>?_,h.boxes.apart⟩
 ·by_cases hr:r=r'
  ·grind
  ·have hne:b'≠b:=λe=>by subst e;have q1:=fC.1 hat;have q2:=fC.1 hb';exact hr ((UR h.boxes.nodup).1 (q1.2.trans q2.2.symm))
   rw[Mb hr]at hy;exact(h.boxes.box r' b' y hb' hy).mono hg (o4 b' hne)
 ·obtain⟨n,xs,ho,hz,hb⟩:=h.boxes.grow j y z hj;refine⟨n,xs,⟨ho.1,?_⟩,hz,λc hcl=>?_⟩
  ·rcases ho.2 with h2|⟨g,cap,cur,h2,h3,h4,h5⟩
   ·exact .inl h2
   ·refine .inr ⟨g,cap,cur,h2,h3,?_,h5⟩;rw[o4 g (λe=>?_)]
    ·exact h4
    ·subst e;exact(hb g (by rw[h2];rfl)).2.1 hin
  simp_all
def kE(P:bx)(w0:U)(G0:bB)(a:Act)(w:U)(o:H3)(st':TS E):Prop:=∃nx v w' G',(R0 a.eval o).run P w=.ok nx w'/\(nx=.value v\/(nx=.skip/\v=M2))/\Rel E w0 G0 st' (a.put o.dst v) w' G'
theorem jW.amB(hr:Rel E w0 G0 st a w G){d:TV E}(h:jW P a w G o d):kE P w0 G0 a w o {st with t:=cG st.t o.dst d}:=by obtain⟨v,hv,hrun⟩:=h;exact⟨_,v,w,G,hrun w (Jw.refl _ w),.inl rfl,hr.put hv o.dst⟩
theorem KB(hr:Rel E w0 G0 st a w G){ob:Obj}{x:gf E}(hx:kI E (w.alloc ob) G w.heap.size x)
  (hrun:(R0 a.eval o).run P w=.ok (.value (.pointer (iN ⟨w.heap.size,0,iF⟩))) (w.alloc ob)) :
  kE P w0 G0 a w o {st with t:=cG st.t o.dst (.ptr st.H.length 0),H:=st.H++[x]}:=by
 have hN:=hr.Ln ob x hx;refine⟨_,_,_,_,hrun,.inl rfl,hN.put ?_ o.dst⟩;simp[VT];rw[<-hr.boxes.len];simp
theorem ahV(hE:E.Ok)(hr:Rel E w0 G0 st a w G){t:aL}{x y:dH}{i:TI}(ho:o.op=.store t x y)(ht:aY P t=iN i){r off:Nat}(hd:st.ev x=.ptr r off)
  {t':aL} {cs ds:J (TV E)} (hb:st.H[r]? = iN (.cells t' cs)) (hy:(st.ev y).qd=iN ds) (h4:Ts ds=i.size) (h5:off+i.size<=Ts cs) :
  kE P w0 G0 a w o {st with t:=cG st.t o.dst .any,H:=st.H.set r (.cells t' (cs.take off++ds++cs.drop (off+Ts ds))),d:=r::st.d}:=by
 have AX:=hr.ev x;rw[hd]at AX;obtain⟨b,he,hat⟩:=AX;obtain⟨vs,hh,hone,hvs⟩:=hr.box hat hb;obtain⟨hl,hl1⟩:=tW hE (hr.ev y) hy;have hlen:(a.eval y).cells.toList.length=i.size:=by rw[hl.length,h4]
 have hlen':(a.eval y).cells.size=i.size:=by simpa using hlen
 have hsz:vs.size=Ts cs:=by simpa using hvs.length
 obtain⟨xt,kG,-,hxs,-⟩:=aQ ht;have hfit:off+0+(a.eval y).cells.toList.length<=vs.size:=by rw[hsz];omega
 have VK:=run_storeCells_at (P:=P) b off t' (a.eval y).cells.toList 0 vs w hh hfit (λv hv=>hl1 v (by simpa using hv))
 let new:=(vs.toList.take off++(a.eval y).cells.toList++vs.toList.drop (off+(a.eval y).cells.toList.length)).toArray
 have hrun:(R0 a.eval o).run P w=.ok .skip (w.setRow b new):=by simp[R0,ho,Instr.storeAt,Instr.sureAddr,he,storeVar,fK kG,hxs,hlen'];simp only[VK];rfl
 have hnew:(w.setRow b new).heap[b]? = iN (.cells new t' (0,0)):=setRow_heap w b vs _ t' _ hh;have Fx:∀b',b'≠b->(w.setRow b new).heap[b']? = w.heap[b']?:=λb' hb'=>setRow_other w b b' _ hb'
 have hR:=hr.zI (w':=w.setRow b new) hat si rfl rfl rfl Fx (x:=.cells t' (cs.take off++ds++cs.drop (off+Ts ds))) (λhg=>by
  refine⟨new,hnew,λu hu=>?_,?_⟩
  ·grind
  ·have:=(((hvs.mono hg).take off).append (hl.mono hg)).append ((hvs.mono hg).drop (off+Ts ds))
   grind)
 refine⟨_,M2,_,G,hrun,.inr ⟨rfl,rfl⟩,hR.put (by simp[VT]) o.dst⟩
variable{e:aL}{k:Nat}
theorem Rel.DA(h:Rel E w0 G0 st a w G)(x:cV)(hd:T1)(hok:zG E w G x hd)(hnew:∀b,hd.ownBlock=iN b->w0.heap.size<=b)
  (hap:∀(j:Nat) y z b,G.g[j]? = iN (y,z)->z.ownBlock=iN b->hd.ownBlock≠iN b) :
  Rel E w0 G0 {st with g:=st.g++[x]} a w {G with g:=G.g++[(x,hd)]}:=by
 have hg:jc w G w {G with g:=G.g++[(x,hd)]}:=⟨λ_ _ h=>h,λ_ _ _ _ h=>h,λ_ _ h=>h,λj y z hj=>⟨y,z,by
  grind,Nat.le_refl _,λ_=>rfl⟩⟩
 have last:∀(j:Nat) y z,(G.g++[(x,hd)])[j]? = iN (y,z)->G.g[j]? = iN (y,z)\/(j=G.g.length/\y=x/\z=hd):=by grind
 have ev:=h.fF
 refine⟨⟨ev.os,ev.tape,ev.output,ev.size,ev.old,ev.goes.trans hg,ev.pE,ev.r7,λj y z b hj hb=>?_⟩,h.size,λj d hj=>(h.tmps j d hj).mono hg,h.defers.mono hg,?_,h.fix,h.pins,h.gO.keep hg λj y z hj _=>⟨y,by
   grind,rfl,rfl,λb hbk=>⟨rfl,λo h=>h⟩⟩⟩
 ·rcases last j y z hj with hj|⟨-,-,rfl⟩
  ·exact ev.iz j y z b hj hb
  ·exact .inl (hnew b hb)
 refine⟨h.boxes.len,by simp[h.boxes.gs],λr b y hb hy=>(h.boxes.box r b y hb hy).mono hg rfl,h.boxes.lt,h.boxes.nodup,h.boxes.gN,λj y z hj=>?_,λj j' y z y' z' b hj hj' hb hb'=>?_⟩
 ·rcases last j y z hj with hj|⟨-,rfl,rfl⟩
  ·exact h.boxes.grow j y z hj
  ·exact hok
 ·rcases last j y z hj with q|⟨q1,-,q3⟩<;>rcases last j' y' z' hj' with q'|⟨q1',-,q3'⟩
  ·exact h.boxes.apart j j' y z y' z' b q q' hb hb'
  ·grind
  ·grind
  ·rw[q1,q1']
theorem Rel.apE(h:Rel E w0 G0 st a w G)(hz:E.zc e=hJ):
  Rel E w0 G0 {st with g:=st.g++[⟨0,e,k⟩]} a (w.alloc (.cells #[] e))
   {G with g:=G.g++[(⟨0,e,k⟩,.slice (iN ⟨w.heap.size,0,iF⟩) 0 0)]}:=by
 have hG:=h.grow (fG.alloc w (.cells #[] e)) rfl rfl rfl G.pr (λ_ _ h=>h) (λb o hb hp=>hp) (λb o hp=>kD (h.boxes.gN b o hp).1 si);refine hG.DA ⟨0,e,k⟩ (.slice (iN ⟨w.heap.size,0,iF⟩) 0 0) ?_ (λb hb=>?_) (λj y z b hj hz hb=>?_)
 ·refine⟨0,[],⟨si,.inr ⟨w.heap.size,0,#[],rfl,fq _,heap_alloc_new w _,eo _,fq _,si,si⟩⟩,λa m _=>hz,λb hb=>?_⟩;cases hb;refine⟨si,λhm=>?_,λo ho hp=>?_⟩
  ·exact absurd (h.boxes.lt _ hm) (As _)
  ·exact absurd (h.boxes.gN _ _ hp).1 (As _)
 ·cases hb;exact h.fF.size
 ·cases hb;obtain⟨n',xs',-,-,hb'⟩:=h.boxes.grow j y z hj;simp_all
theorem Rel.newRow(h:Rel E w0 G0 st a w G){n cap:Nat}{cur:aK T1}(hsz:cur.size=cap*k)(hn:n<=cap)(hc0:0<cap)(hcap:cap<=maxLen):
  Rel E w0 G0 {st with g:=st.g++[⟨0,e,k⟩]} a (w.alloc (.cells cur e))
   {G with g:=G.g++[(⟨0,e,k⟩,.slice (iN ⟨w.heap.size,0,iF⟩) n cap)],pr:=λb o=>G.pr b o\/(b=w.heap.size/\o<n*k)}:=by
 have hG:=h.grow (fG.alloc w (.cells cur e)) rfl rfl rfl (λb o=>G.pr b o\/(b=w.heap.size/\o<n*k)) (λ_ _ h=>.inl h)
  (λb o hb hp=>hp.elim id λq=>absurd hb (by rw[q.1];omega)) (λb o hp=>by
   rcases hp with hp|⟨rfl,-⟩
   ·exact kD (h.boxes.gN b o hp).1 si
   ·simp)
 refine hG.DA ⟨0,e,k⟩ (.slice (iN ⟨w.heap.size,0,iF⟩) n cap) ?_ (λb hb=>?_) (λj y z b hj hz hb=>?_)
 ·refine⟨n,cur.toList.take (n*k),⟨?_,.inr ⟨w.heap.size,cap,cur,rfl,fq _,heap_alloc_new w _,hn,hcap,hsz,rfl⟩⟩,λa m e=>by simp at e;omega,λb hb=>?_⟩
  ·simp_all
  ·cases hb;refine⟨si,λhm=>?_,λo ho hp=>?_⟩
   ·exact absurd (h.boxes.lt _ hm) (As _)
   ·rcases hp with hp|⟨-,hlt⟩
    ·exact absurd (h.boxes.gN _ _ hp).1 (As _)
    grind
 ·cases hb;exact h.fF.size
 ·cases hb;obtain⟨n',xs',-,-,hb'⟩:=h.boxes.grow j y z hj;simp_all
variable{j:Nat}
theorem Rel.RX(h:Rel E w0 G0 st a w G){x:cV}{hd hd':T1}(hj:G.g[j]? = iN (x,hd))(B0:∀c,(j,c)∉st.c)(hsz:w.heap.size<=w'.heap.size)(h1:w'.os=w.os)(h2:w'.tape=w.tape)(h3:w'.output=w.output)
  (o4:∀b,b<w.heap.size->hd.ownBlock≠iN b->w'.heap[b]? = w.heap[b]?) (hcells:∀b o v,G.pr b o->w.cell? ⟨b,o,iF⟩=iN v->w'.cell? ⟨b,o,iF⟩=iN v)
  (mO:Nat->Nat->Prop) (hp:∀b o,G.pr b o->mO b o) (HW:∀b o,mO b o->G.pr b o\/hd'.ownBlock=iN b)
  (hok:zG E w' {G with pr:=mO} {x with aG:=x.aG+1} hd') (hblk:∀b,hd'.ownBlock=iN b->w.heap.size<=b\/hd.ownBlock=iN b) :
  Rel E w0 G0 {st with g:=st.g.set j {x with aG:=x.aG+1}} a w' {G with g:=G.g.set j ({x with aG:=x.aG+1},hd'),pr:=mO}:=by
 obtain⟨n0,xs0,-,-,hhd⟩:=h.boxes.grow j x hd hj;have at':∀(m:Nat) y z,(G.g.set j ({x with aG:=x.aG+1},hd'))[m]? = iN (y,z)->(m=j/\y={x with aG:=x.aG+1}/\z=hd')\/(m≠j/\G.g[m]? = iN (y,z)):=by grind
 have hg:jc w G w' {G with g:=G.g.set j ({x with aG:=x.aG+1},hd'),pr:=mO}:=by refine⟨hp,hcells,λ_ _ h=>h,λm y z hm=>?_⟩;grind
 have Pt:=λb hb e=>(hhd b e).2.1 hb;have ev:=h.fF;have hrow:∀b,b<w0.heap.size->hd.ownBlock=iN b->G0.rows b:=λb hb e=>by
  rcases ev.iz j x hd b hj e with q|⟨y,z,q1,q2⟩
  ·omega
  ·exact⟨y,z,jR q1,q2⟩
 have arF:=h.gO.keep hg λm y z hm hc=>by
  have hne:m≠j:=λe=>by simp_all
  obtain⟨n,xs,-,-,hq⟩:=h.boxes.grow m y z hm;refine⟨y,by grind,rfl,rfl,λb hb=>⟨o4 b (hq b hb).1 (λe=>hne (h.boxes.apart m j y z x hd b hm hj hb e)),λo tZ=>?_⟩⟩;rcases HW b o tZ with q|q
  ·exact q
  ·rcases hblk b q with q'|q'
   ·grind
   ·exact(hne (h.boxes.apart m j y z x hd b hm hj hb q')).elim
 refine⟨⟨h1.trans ev.os,h2.trans ev.tape,h3.trans ev.output,lG ev.size hsz,λb hb hn=>?_,ev.goes.trans hg,λb o hb tZ=>?_,ev.r7,λm y z b hm hb=>?_⟩,h.size,
  λm d hm=>(h.tmps m d hm).mono hg,h.defers.mono hg,?_,λr b hb hd=>(o4 b (h.boxes.lt b (jR (ev.goes.i r b hb))) (Pt b (jR (ev.goes.i r b hb)))).trans (h.fix r b hb hd),h.pins,arF⟩
 ·rw[o4 b (kD hb ev.size) (λe=>hn (.inr (hrow b hb e)))];exact ev.old b hb hn
 ·rcases HW b o tZ with q|q
  ·exact ev.pE b o hb q
  ·rcases hblk b q with q'|q'
   ·have:=ev.size;omega
   simp_all
 ·rcases at' m y z hm with⟨rfl,-,rfl⟩|⟨-,q⟩
  ·rcases hblk b hb with q|q
   ·exact .inl (lG ev.size q)
   ·exact ev.iz m x hd b hj q
  ·exact ev.iz m y z b q hb
 refine⟨h.boxes.len,?_,λr b y hb hy=>?_,λb hb=>kD (h.boxes.lt b hb) hsz,h.boxes.nodup,λb o tZ=>?_,λm y z hm=>?_,λm m' y z y' z' b hm hm' hb hb'=>?_⟩
 ·rw[<-h.boxes.gs,aaZ]
 ·have hm:=jR hb;exact(h.boxes.box r b y hb hy).mono hg (o4 b (h.boxes.lt b hm) (Pt b hm))
 ·rcases HW b o tZ with q|q
  ·exact⟨kD (h.boxes.gN b o q).1 hsz,(h.boxes.gN b o q).2⟩
  ·obtain⟨n,xs,-,-,hq⟩:=hok;simp_all
 ·rcases at' m y z hm with⟨-,rfl,rfl⟩|⟨hne,q⟩
  ·exact hok
  ·obtain⟨n,xs,ho,hz,hq⟩:=h.boxes.grow m y z q;refine⟨n,xs,⟨ho.1,?_⟩,hz,λb hb=>?_⟩
   ·rcases ho.2 with q2|⟨g,cap,cur,q2,q3,q4,q5⟩
    ·exact .inl q2
    ·have wG:z.ownBlock=iN g:=by rw[q2];rfl
     refine .inr ⟨g,cap,cur,q2,q3,?_,q5⟩;rw[o4 g (hq g wG).1 (λe=>hne (h.boxes.apart m j y z x hd g q hj wG e))];exact q4
   ·obtain⟨p1,p2,p3⟩:=hq b hb;refine⟨kD p1 hsz,p2,λo ho' tZ=>?_⟩;rcases HW b o tZ with q'|q'
    ·exact p3 o ho' q'
    ·rcases hblk b q' with Pu|Pu
     ·omega
     ·exact hne (h.boxes.apart m j y z x hd b q hj hb Pu)
 ·have key:∀(m:Nat) y z,m≠j->G.g[m]? = iN (y,z)->z.ownBlock=iN b->hd'.ownBlock=iN b->False:=by
   intro m y z hne q hb hb';obtain⟨n,xs,-,-,hq⟩:=h.boxes.grow m y z q;rcases hblk b hb' with Pu|Pu
   ·grind
   ·exact hne (h.boxes.apart m j y z x hd b q hj hb Pu)
  rcases at' m y z hm with⟨e1,-,e2⟩|⟨hne,q⟩<;>rcases at' m' y' z' hm' with⟨e1',-,e2'⟩|⟨amC,q'⟩
  ·rw[e1,e1']
  ·grind
  ·grind
  ·exact h.boxes.apart m m' y z y' z' b q q' hb hb'
theorem Pv{l n:Nat}(hj:j<n)(hl:l<k):j*k+l<n*k:=by have:=Au k hj;grind
variable{pr:Nat->Nat->Prop}{xs:J T1}{es fs:J (J DV)}
theorem Flat.append{ys:J T1}(h:Flat w pr k xs es)(h':Flat w pr k ys fs):Flat w pr k (xs++ys) (es++fs):=by
 have e1:∀j,j<Ts es->(es++fs).getD j []=es.getD j []:=λj hj=>by grind
 have e2:∀j,¬ j<Ts es->(es++fs).getD j []=fs.getD (j-Ts es) []:=λj hj=>by grind
 refine⟨by simp[h.1,h'.1,Rg],λj hj=>?_,λj l hj hl=>?_⟩
 ·by_cases hlt:j<Ts es
  ·rw[e1 j hlt];exact h.2.1 j hlt
  ·rw[e2 j hlt];exact h'.2.1 _ (by simp at hj;omega)
 ·by_cases hlt:j<Ts es
  ·have hq:j*k+l<Ts xs:=by rw[h.1];exact Pv hlt hl
   have:(xs++ys).getD (j*k+l) M2=xs.getD (j*k+l) M2:=by grind
   rw[this,e1 j hlt];exact h.2.2 j l hlt hl
  ·have hge:=Nat.le_of_not_lt hlt;have hq:Ts es*k<=j*k+l:=lG (Au k hge) (Nat.le_add_right _ _);have hsub:j*k+l-Ts es*k=(j-Ts es)*k+l:=by rw[Nat.sub_mul];have:=Au k hge;omega
   have:(xs++ys).getD (j*k+l) M2=ys.getD ((j-Ts es)*k+l) M2:=by simp;rw[Mc (by rw[h.1];exact hq),h.1,hsub]
   rw[this,e2 j hlt];exact h'.2.2 (j-Ts es) l (by simp at hj;omega) hl
theorem Flat.nil:Flat w pr k [] []:=⟨si,λj hj=>by simp at hj,λj l hj=>by simp at hj⟩
theorem Flat.one(hk0:0<k)(h:Flat w pr k xs es):∀u,u∈xs->u.oneCell'=hJ:=by
 intro u hu;obtain⟨q,hq,rfl⟩:=lH hu;have Vc:q<Ts es*k:=by rw[<-h.1];exact hq
 have:=(h.2.2 (q / k) (q%k) ((agK hk0).2 Vc) (US _ hk0)).one;rw[show q / k*k+q%k=q by have:=Nat.div_add_mod q k;grind]at this;simp_all
theorem Pw{b cap:Nat}(hcap:Ts es<=cap)
  (hx:∀q,q<Ts es*k->pr b q/\w.cell? ⟨b,q,iF⟩=iN (xs.getD q M2)) (h:Flat w pr k xs es) :
  VD w pr (.slice (iN ⟨b,0,iF⟩) es.length cap) (.slice k es):=by
 refine .slice b 0 cap k es (λj l=>xs.getD (j*k+l) M2) hcap h.2.1 (λj l hj hl=>?_) (λj l hj hl=>h.2.2 j l hj hl);simp_all[Pv]
theorem B1(g:Nat)(t:aL):∀(vs:J T1)(o:Nat)(cur:aK T1)(w:U),w.heap[g]? = iN (.cells cur t (0,0))->o+Ts vs<=cur.size ->
  w.setCells g o vs=w.setRow g (cur.toList.take o++vs++cur.toList.drop (o+Ts vs)).toArray
 | [],o,cur,w,hg,_=>by simp[World.setCells];grind[setRow_self]|v::rest,o,cur,w,hg,hl=>by simp[World.setCells];rw[setCell_eq_setRow w g o cur t (0,0) v hg];have ih:=B1 g t rest (o+1) (cur.setIfInBounds o v) (w.setRow g (cur.setIfInBounds o v)) (setRow_heap w g cur _ t _ hg) (by simp at hl⊢;omega);rw[ih,setRow_setRow];congr 2;have e:=list_seg_step cur.toList o v rest (by simp at hl⊢;omega);simpa using e
theorem VD.flat{v:T1}(hk:0<k)(h:VD w pr v (.slice k es)):
  ∃xs:J T1,Flat w pr k xs es/\((∃a,v=.slice a 0 0/\es=[])\/∃b off cap,v=.slice (iN ⟨b,off,iF⟩) es.length cap/\es.length<=cap /\
   ∀q,q<Ts es*k->pr b (off+q)/\w.cell? ⟨b,off+q,iF⟩=iN (xs.getD q M2)):=by
 rcases h.xB with⟨ad,rfl,rfl⟩|⟨b,off,cap,c,rfl,hcap,hkk,h0,hv⟩
 ·exact⟨[],Flat.nil,.inl ⟨ad,rfl,rfl⟩⟩
 ·have VM:∀q,q<Ts es*k->q / k<Ts es/\q%k<k:=λq hq=>⟨(agK hk).2 hq,US q hk⟩;refine⟨(bY (Ts es*k)).map λq=>c (q / k) (q%k),⟨si,hkk,λj l hj hl=>?_⟩,.inr ⟨b,off,cap,rfl,hcap,λq hq=>?_⟩⟩
  ·have hlt:=Pv hj hl;simp_all[aa0,Nat.mul_add_div,Nat.div_eq_of_lt,agH]
  ·grind[Nat.div_add_mod]
theorem Rel.append(h:Rel E w0 G0 st a w G){t tx ty:aL}{i:TI}{j1 j2:Nat}{z:T1}(ht:aY P t=iN ⟨.slice e,j1,j2,z⟩)(hi:aY P e=iN i)
  (hk0:0<i.size) (hzs:i.zero.cells.size=i.size)  {x:cV} {v:T1} (hj:G.g[j]? = iN (x,v)) (B0:∀c,(j,c)∉st.c) (rW:x.e=e) (hxk:x.k=i.size) 
  (hv:VD w G.pr v (.slice i.size es)) {y:T1} {news:J T1} (hsrc:Src P i.size tx y fs.length news w) (hf:Flat w G.pr i.size news fs)
  (h63:Ts es+Ts fs<=maxLen) (hbytes:(Ts es+Ts fs)*i.bytes<=140737488355328) :
  ∃v' w' mO,(Builtin.append_ #[t,tx] ty #[v,y]).run P w=.ok v' w' /\
   Rel E w0 G0 {st with g:=st.g.set j {x with aG:=x.aG+1}} a w' {G with g:=G.g.set j ({x with aG:=x.aG+1},v'),pr:=mO} /\
   VD w' mO v' (.slice i.size (es++fs)):=by
 obtain⟨xt,kG,eG,-⟩:=aQ ht;obtain⟨xe,Px,BV,hsz,hby,hz⟩:=aQ hi;obtain⟨n,xs,ho,Py,hg⟩:=h.boxes.grow j x v hj;obtain⟨xs',hfl,Ag⟩:=hv.flat hk0;have aoG:maxLen=9223372036854775807:=rfl;subst rW;rw[hxk]at ho hg;by_cases hm:Ts fs=0
 ·have hfs:fs=[]:=HA hm;subst hfs;have hnn:news=[]:=HA (by simpa using hf.1);subst hnn;refine⟨v,w,G.pr,?_,h.RX hj B0 (eo _) rfl rfl rfl (λ_ _ _=>rfl) (λ_ _ _ _ h=>h) G.pr (λ_ _ h=>h) (λ_ _ h=>.inl h) ?_ (λb hb=>.inr hb),by simp_all⟩
  ·have Gq:Src P xe.size tx y 0 [] w:=by rw[hsz];exact hsrc
   rcases Ag with⟨ad,rfl,-⟩|⟨b,off,cap,rfl,hcap,-⟩
   ·exact run_append_nothing w t tx ty x.e xe eG Px ad 0 0 (eo _) y Gq
   ·exact run_append_nothing w t tx ty x.e xe eG Px _ _ _ hcap y Gq
  ·exact⟨n,xs,by simp_all,Py,by simp_all⟩
 have Gq:Src P xe.size tx y fs.length news w:=by rw[hsz];exact hsrc
 have hzl:∀c,(Builtin.zeroCells i.zero.cells c).size=c*i.size:=λc=>by rw[size_zeroCells,hzs]
 have Lo:=hfl.append hf;have hlen:(es++fs).length=Ts es+Ts fs:=by simp
 have grow:∀(base:O Addr)(old:Nat),v=.slice base es.length old->old<Ts es+Ts fs ->
   (Builtin.firstCells xe.size es.length (.slice base es.length old)).run P w.drew=.ok xs'.toArray w.drew ->
   ∃v' w' mO,(Builtin.append_ #[t,tx] ty #[v,y]).run P w=.ok v' w' /\
   Rel E w0 G0 {st with g:=st.g.set j {x with aG:=x.aG+1}} a w' {G with g:=G.g.set j ({x with aG:=x.aG+1},v'),pr:=mO} /\
   VD w' mO v' (.slice i.size (es++fs)):=by
  intro base old hv0 hlt Zn;have hfit:=growslice_fits (need:=Ts es+Ts fs) (old:=old) (bytes:=xe.bytes) hlt (by rw[hby];exact hbytes);have hr:=run_append_grow_src (P:=P) w t tx ty x.e xe i.zero eG Px hz base es.length old xs' Zn y fs.length news Gq hlt (by grind) hfit;have hge:=grownCap_ge w (Ts es+Ts fs) old x.e;have hcm:=grownCap_le_maxLen w (Ts es+Ts fs) old x.e h63;generalize hcap:grownCap w (Ts es+Ts fs) old x.e=cap at hr hge hcm;generalize hcs:(xs'++news).toArray++Builtin.zeroCells i.zero.cells (cap-(Ts es+Ts fs))=cs at hr;have amD:cs.size=cap*i.size:=by rw[<-hcs,agL,agM,Lo.1,hzl,hlen,<-Rg];congr 1;omega
  have hheap:(w.drew.alloc (.cells cs x.e)).heap=w.heap.push (.cells cs x.e):=rfl;have hnew:(w.drew.alloc (.cells cs x.e)).heap[w.heap.size]? = iN (.cells cs x.e):=by rw[hheap];simp
  have hsame:fG w (w.drew.alloc (.cells cs x.e)):=⟨by rw[hheap];simp,λb hb=>by grind⟩;have acw:∀q,q<(es++fs).length*i.size->(w.drew.alloc (.cells cs x.e)).cell? ⟨w.heap.size,q,iF⟩=iN ((xs'++news).getD q M2):=by
   intro q hq;rw[cell_of_row _ w.heap.size q cs x.e (0,0) hnew];have h1:q<(xs'++news).length:=by rw[Lo.1];exact hq
   grind
  refine⟨_,_,λb o=>G.pr b o\/(b=w.heap.size/\o<(es++fs).length*i.size),by rw[hv0];exact hr,?_,?_⟩
  ·refine h.RX hj B0 hsame.1 rfl rfl rfl (λb hb _=>hsame.2 b hb) (λb o u _ hu=>hsame.cell hu) _ (λ_ _ h=>.inl h) (λb o hp=>?_) ?_ (λb hb=>?_)
   ·rcases hp with hp|⟨rfl,-⟩
    ·exact .inl hp
    ·exact .inr rfl
   ·refine⟨Ts es+Ts fs,cs.toList.take ((Ts es+Ts fs)*i.size),⟨?_,.inr ⟨w.heap.size,cap,cs,rfl,Nat.zero_le _,hnew,hge,hcm,by simp_all,by dsimp only;rw[hxk]⟩⟩,λa m e=>by simp at e;omega,λb hb=>?_⟩
    ·simp_all
    ·cases hb;refine⟨by rw[hheap];simp,λhm=>absurd (h.boxes.lt _ hm) (As _),λo ho' hp=>?_⟩;rcases hp with hp|⟨-,hp⟩
     ·exact absurd (h.boxes.gN _ _ hp).1 (As _)
     ·dsimp only at ho';rw[hxk]at ho';rw[hlen]at hp;omega
   ·cases hb;simp_all
  ·rw[<-hlen];exact Pw (xs:=xs'++news) (by rw[hlen];exact hge) (λq hq=>⟨.inr ⟨rfl,hq⟩,acw q hq⟩) (Lo.mono (λ_ _ h=>.inl h) (λb o u _ hu=>hsame.cell hu))
 rcases Ag with⟨ad,hv0,hes⟩|⟨b,off,cap,hv0,hcap,hcells⟩
 ·subst hes;have hx':xs'=[]:=HA (by simpa using hfl.1);cases ad with|some ad=>refine grow (iN ad) 0 hv0 aR ?_;rw[hx',hsz];exact run_firstCells_some w.drew i.size 0 ad 0 0 [] si (λj u hu=>by simp at hu)|none=>refine grow iF 0 hv0 aR ?_;rw[hx'];simp[Builtin.firstCells]
 ·rcases ho.2 with⟨hvn,-⟩|⟨g,cap',cur,hvg,hBg,Jz,av0,hcm,hcs,av1⟩
  ·simp_all
  have amE:=hvg;rw[hv0]at amE;simp only[Value.slice.injEq,agN,Addr.mk.injEq]at amE;obtain⟨⟨rfl,rfl,-⟩,hn,rfl⟩:=amE;by_cases hroom:Ts es+Ts fs<=cap
  ·
   have VN:Ts es*i.size+news.length<=cur.size:=by rw[hf.1,hcs,<-Rg];simp_all[Au]
   have hr:=run_append_room_src (P:=P) w t tx ty x.e xe eG Px b 0 es.length cap y fs.length news Gq hroom
    (λj hj=>by
     rw[cell_of_row w b _ cur x.e (0,0) Jz,hsz]
     grind)
    (λj hj=>frozen_of_row w b _ cur x.e Jz)
   rw[hsz,rX,B1 b x.e news (Ts es*i.size) cur w Jz VN]at hr;obtain⟨g0,g1,g3⟩:=hg b (by rw[hv0];rfl)
   let cur':=(cur.toList.take (Ts es*i.size)++news++cur.toList.drop (Ts es*i.size+news.length)).toArray
   have av2:cur'.size=cur.size:=by grind
   have hhb:(w.setRow b cur').heap[b]? = iN (.cells cur' x.e (0,0)):=setRow_heap w b cur _ x.e _ Jz;have Fx:∀b',b'≠b->(w.setRow b cur').heap[b']? = w.heap[b']?:=λb' hb'=>setRow_other w b b' _ hb';have au5:xs'=cur.toList.take (Ts es*i.size):=by
    have hl1:xs'.length=(cur.toList.take (Ts es*i.size)).length:=by rw[hfl.1,zh,show cur.toList.length=cur.size from aa1,hcs];simp_all
    refine Bo hl1 λq h1 h2=>?_;have hq:q<Ts es*i.size:=by rw[<-hfl.1];exact h1
    have hc:=(hcells q hq).2;rw[rX,cell_of_row w b q cur x.e (0,0) Jz]at hc;grind
   have ahW:cur'.toList=(xs'++news)++cur.toList.drop (Ts es*i.size+news.length):=by grind
   have hgc:∀o u,G.pr b o->w.cell? ⟨b,o,iF⟩=iN u->(w.setRow b cur').cell? ⟨b,o,iF⟩=iN u:=by intro o u hp hu;rw[cell_of_row _ b o cur' x.e (0,0) hhb];grind
   have qf:∀b' o u,G.pr b' o->w.cell? ⟨b',o,iF⟩=iN u->(w.setRow b cur').cell? ⟨b',o,iF⟩=iN u:=by
    intro b' o u hp hu;by_cases he:b'=b
    ·simp_all
    ·rw[Rf (Fx b' he)];exact hu
   have acw:∀q,q<(es++fs).length*i.size->(w.setRow b cur').cell? ⟨b,q,iF⟩=iN ((xs'++news).getD q M2):=by
    intro q hq;rw[cell_of_row _ b q cur' x.e (0,0) hhb];have h1:q<(xs'++news).length:=by rw[Lo.1];exact hq
    grind
   refine⟨_,_,λb' o=>G.pr b' o\/(b'=b/\o<(es++fs).length*i.size),by rw[hv0];exact hr,?_,?_⟩
   ·refine h.RX (w':=w.setRow b cur') hj B0 si rfl rfl rfl (λb' _ hne=>Fx b' (λe'=>hne (by rw[hv0,e'];rfl))) qf (λb' o=>G.pr b' o\/(b'=b/\o<(es++fs).length*i.size)) (λ_ _ h=>.inl h) (λb' o hp=>?_) ?_ (λb' hb'=>.inr (by rw[hv0];exact hb'))
    ·rcases hp with hp|⟨rfl,-⟩
     ·exact .inl hp
     ·exact .inr rfl
    ·refine⟨Ts es+Ts fs,xs'++news,⟨by dsimp only;rw[Lo.1,hlen,hxk],.inr ⟨b,cap,cur',rfl,hBg,hhb,hroom,hcm,by simp_all,?_⟩⟩,λa m e=>by simp at e;omega,λg' hg'=>?_⟩
     ·dsimp only;rw[hxk,ahW,<-hlen,<-Lo.1,List.take_left]
     ·cases hg';grind
   ·rw[show es.length+Ts fs=(es++fs).length from hlen.symm];exact Pw (xs:=xs'++news) (by rw[hlen];exact hroom) (λq hq=>⟨.inr ⟨rfl,hq⟩,acw q hq⟩) (Lo.mono (λ_ _ hp=>.inl hp) qf)
  ·refine grow _ cap hv0 om ?_;rw[hsz];refine run_firstCells_some w.drew i.size es.length ⟨b,0,iF⟩ es.length cap xs' hfl.1 (λj u hu=>?_);have hj:j<xs'.length:=(fC.1 hu).1;have:=(hcells j (by rw[<-hfl.1];exact hj)).2;simp_all[add_lit]
end Go.RT
namespace Go.RT
variable {E : TEnv}
theorem Flat.X4{w:U}{pr:Nat->Nat->Prop}{k:Nat}:∀ {rows:J (J T1)}{es:J (J DV)},rows.length=Ts es->(∀j,j<Ts es->(es.getD j []).length=k) ->
  (∀j,j<Ts es->LD w pr (rows.getD j []) (es.getD j []))->Flat w pr k rows.flatten es
 | [],[],_,_,_=>Flat.nil|r::rows,e::es,hl,hk,h=>by
  have h0:=h 0 si;have hk0:=hk 0 si;simp at h0 hk0;have ih:=Flat.X4 (by simpa using hl) (λj hj=>by simpa using hk (j+1) (by simpa using hj)) (λj hj=>by simpa using h (j+1) (by simpa using hj));have h1:Flat w pr k r [e]:=by
   refine⟨by simp[h0.length,hk0],λj hj=>?_,λj l hj hl'=>?_⟩
   ·simp_all
   ·have:∀ {vs:J T1}{ds:J DV}(l:Nat),LD w pr vs ds->l<Ts ds->VD w pr (vs.getD l M2) (ds.getD l default):=by
     intro vs
     induction vs with
     | nil=>intro ds l h hl;cases ds with|nil=>simp at hl|cons _ _=>exact h.elim
     | cons v vs ih=>
      intro ds l h hl;cases ds with
      | nil=>exact h.elim|cons d ds=>cases l with|zero=>simpa using h.1|succ l=>simpa using ih l h.2 (by simpa using hl)
    simp_all
  have:=h1.append ih;simpa using this
 | [],_::_,hl,_,_=>by simp at hl|_::_,[],hl,_,_=>by simp at hl
variable{w:U}{G:bB}{T:Ty}{v:T1}
theorem VT.Pz{x:T.den E.D}(h:VT E w G (.dat T x) v):LD w G.pr v.cells.toList (T.cells E x):=by
 cases ha:T.isAgg
 ·have h0:=h.atom ha;have h1:=h0.one v si;have:v.cells=#[v]:=by cases v<;>first|rfl|cases h1
  rw[this];exact h0
 ·obtain⟨vs,rfl,h0⟩:=h.ahU ha;exact h0
def pF(T:Ty):J (TV E)->O (J (T.den E.D))
 | []=>iN []|d::ds=>match d.get T,pF T ds with
  | some x,iN xs=>iN (x::xs)|_,_=>iF
theorem Lp{T:Ty}:∀ {ds:J (TV E)}{xs:J (T.den E.D)},pF T ds=iN xs->Ts xs=Ts ds
 | [],xs,h=>by cases h;rfl
 | d::ds,xs,h=>by
  simp[pF]at h;split at h<;>try trivial
  rename_i x xs' h1 h2;cases h;simp[Lp h2]
variable{P:bx}{w0 w':U}{G0 G':bB}{st:TS E}{a:Act}{o:H3}{k:Nat}{x:dH}{cs:J (TV E)}{e:aL}{n cap:Nat}{cur:aK T1}{xs:J (T.den E.D)}{parts:aK (Nat×dH)}{j1 j2:Nat}{z:T1}{ie:TI}{y:dH}{tx:aL}{ix:TI}{j:Nat}{ys:J (T.den E.D)}{g:cV}{news:J T1}
theorem VO(hr:Rel E w0 G0 st a w G){T:Ty}:∀ {l:J dH}{xs:J (T.den E.D)},pF T (l.map st.ev)=iN xs ->
  ∀j,j<Ts l->LD w G.pr ((l.map λx=>(a.eval x).cells.toList).getD j []) ((xs.map (T.cells E)).getD j [])
 | [],xs,_,j,hj=>by simp at hj|x::l,xs,h,j,hj=>by
  simp[pF]at h;split at h<;>try trivial
  rename_i y ys h1 h2;cases h;cases j with|zero=>simpa using(TV.vA h1 (hr.ev x)).Pz|succ j=>simpa using VO hr h2 j (by simpa using hj)
theorem ahX(hr:Rel E w0 G0 st a w G){t:aL}{i:TI}(ho:o.op=.alloc t)(ht:aY P t=iN i)(hz:i.zero.cells.toList.all (·.oneCell')=hJ):
  kE P w0 G0 a w o {st with t:=cG st.t o.dst (.ptr st.H.length 0),H:=st.H++[.cells t (i.zero.cells.toList.map TV.Ll)]}:=by
 refine KB (ob:=.cells i.zero.cells t) hr ?_ ?_
 ·exact⟨i.zero.cells,heap_alloc_new w _,λu hu=>pP.1 hz u (by simpa using hu),bO.ofValues⟩
 ·simp[R0,ho,Instr.alloc,oy ht];rfl
theorem amF(hE:E.Ok)(hr:Rel E w0 G0 st a w G){t:aL}(ho:o.op=.box t x)(hc:(st.ev x).qd=iN cs):
  kE P w0 G0 a w o {st with t:=cG st.t o.dst (.ptr st.H.length 0),H:=st.H++[.cells t cs]}:=by
 obtain⟨h1,h2⟩:=tW hE (hr.ev x) hc;refine KB (ob:=.cells (a.eval x).cells t) hr ?_ ?_
 ·have hg:jc w G (w.alloc (.cells (a.eval x).cells t)) G:=⟨λ_ _ h=>h,λb o v _ hv=>(fG.alloc w _).cell hv,λ_ _ h=>h,λj x y hj=>⟨x,y,hj,eo _,λ_=>rfl⟩⟩;exact⟨(a.eval x).cells,heap_alloc_new w _,h2,h1.mono hg⟩
 ·simp[R0,ho];rfl
theorem Rel.arG(h:Rel E w0 G0 st a w G)(hsz:cur.size=cap*k)(hn:n<=cap)(hc0:0<cap)(hcap:cap<=maxLen)(hk:k=T.size E)(hl:Ts xs=n)
  (hf:Flat w G.pr k (cur.toList.take (n*k)) (xs.map (T.cells E))) (dst:O Nat) :
  ∃G',Rel E w0 G0 {st with t:=cG st.t dst (.cH st.g.length 0 T xs),g:=st.g++[⟨0,e,k⟩]} (a.put dst (.slice (iN ⟨w.heap.size,0,iF⟩) n cap)) (w.alloc (.cells cur e)) G':=by
 have hN:=h.newRow (e:=e) hsz hn hc0 hcap;refine⟨_,hN.put ?_ dst⟩;refine⟨?_,⟨0,e,T.size E⟩,_,?_,eo _,λ_=>rfl⟩
 ·have hlm:(xs.map (T.cells E)).length=n:=by simp[hl]
  have:=Pw (w:=w.alloc (.cells cur e)) (pr:=λb o=>G.pr b o\/(b=w.heap.size/\o<n*T.size E)) (b:=w.heap.size) (by rw[hlm];exact hn)
   (λq hq=>by
    simp_all)
   (hf.mono (λ_ _ h=>.inl h) (λb o v _ hv=>(fG.alloc w _).cell hv))
  simp_all
 ·have:=h.boxes.gs;grind
theorem PA{k:Nat}:∀(vs:J T1)(m:Nat)(cells:aK T1),(∀v,v∈vs->v.cells.size=k)->(m+Ts vs)*k<=cells.size ->
  Instr.fill (λi=>iN (i*k,k)) cells ((List.range' m vs.length).zip vs)=iN (cells.toList.take (m*k)++(vs.map λv=>v.cells.toList).flatten++cells.toList.drop ((m+Ts vs)*k)).toArray
 | [],m,cells,_,_=>by simp[Instr.fill]|v::vs,m,cells,hk,hle=>by
  have hv:=hk v si;have hle':(m+1+Ts vs)*k<=cells.size:=by simp_all[Nat.add_comm,Nat.add_left_comm]
  have hmk:m*k+k<=cells.size:=by grind
  simp[aa2];rw[Pr rfl hv hmk];have hsz:(cells.toList.take (m*k)++v.cells.toList++cells.toList.drop (m*k+v.cells.size)).toArray.size=cells.size:=by grind
  rw[PA vs (m+1) _ (λu hu=>hk u (by simp[hu])) (by rw[hsz];exact hle')];have hl2:(cells.toList.take (m*k)++v.cells.toList).length=(m+1)*k:=by grind
  rw[aoi (by simp_all),<-hl2,s7];have hd:(cells.toList.take (m*k)++v.cells.toList++cells.toList.drop (m*k+v.cells.size)).drop ((m+1+Ts vs)*k)=cells.toList.drop ((m+(Ts vs+1))*k):=by
   rw[agO];have h0:(cells.toList.take (m*k)++v.cells.toList).drop ((m+1+Ts vs)*k)=[]:=by simp_all[Au]
   rw[agP];grind
  simp_all
theorem PB(hE:E.Ok)(hr:Rel E w0 G0 st a w G){t:aL}{len:Nat}(ho:o.op=.buildSlice t len parts)
  (ht:aY P t=iN ⟨.slice e,j1,j2,z⟩) (hi:aY P e=iN ie) (h1:parts.toList.map (·.1)=bY len) (h2:len*ie.size<=16777216) (h3:0<ie.size)
    (hk:ie.size=T.size E) (hx:pF T (parts.toList.map λp=>st.ev p.2)=iN xs) :
  ∃cs:aK T1,(R0 a.eval o).run P w=.ok (.value (.slice (iN ⟨w.heap.size,0,iF⟩) len len)) (w.alloc (.cells cs e))/\cs.size=len*ie.size/\xs.length=len/\Flat w G.pr ie.size (cs.toList.take (len*ie.size)) (xs.map (T.cells E)):=by
 obtain⟨xt,kG,eG,-⟩:=aQ ht;obtain⟨xe,rW,BV,hsz,-⟩:=aQ hi;have hlen:parts.toList.length=len:=by simpa using congrArg Ts h1
 let vs:=parts.toList.map λp=>a.eval p.2
 have hvl:Ts vs=len:=by simp[vs,hlen]
 have acy:=VO hr (by rw[Av];exact hx);have hxl:=Lp hx;have hrow:(parts.toList.map (·.2)).map (λx=>(a.eval x).cells.toList)=vs.map λv=>v.cells.toList:=by grind[Function.comp_def]
 rw[hrow]at acy;have VP:Ts xs=len:=by rw[hxl];simp[hlen]
 have hck:∀j,j<(xs.map (T.cells E)).length->((xs.map (T.cells E)).getD j []).length=ie.size:=λj hj=>by simp_all[Ty.BP]
 have atH:=Flat.X4 (by simp[hvl,VP]) hck (λj hj=>acy j (by simp_all));have hvk:∀v,v∈vs->v.cells.size=ie.size:=by
  intro v hv;obtain⟨j,hj,rfl⟩:=lH hv;have hjl:j<len:=by rw[<-hvl];exact hj
  have:=(acy j (by simpa[hlen]using hjl)).length;simp_all
 have awe:(parts.map λ(i,x)=>(i,a.eval x)).toList=(List.range' 0 vs.length).zip vs:=by grind[List.range_eq_range',Array.toList_map]
 let zero:aK T1:=if len*ie.size=0 then #[]else ie.zero.cells
 let base:aK T1:=(Array.range (len*ie.size)).map (zero[· % zero.size]!)
 have CZ:base.size=len*ie.size:=by simp[base]
 have aoH:=PA vs 0 base hvk (by rw[CZ,hvl];simp);have HP:base.toList.length=base.size:=aa1
 let cs:aK T1:=((vs.map λv=>v.cells.toList).flatten).toArray
 have arH:Instr.fill (λi=>iN (i*ie.size,ie.size)) base (parts.map λ(i,x)=>(i,a.eval x)).toList=iN cs:=by grind
 have hrun:(R0 a.eval o).run P w=.ok (.value (.slice (iN ⟨w.heap.size,0,iF⟩) len len)) (w.alloc (.cells cs e)):=by
  simp only[R0,ho,Instr.buildSlice,jJ,aW eG,kn,fK rW,hsz];rw[if_neg (show ¬ len*ie.size>2^24 by simpa using h2)];have VQ:Instr.fill (λi=>iN (i*ie.size,ie.size)) ((Array.range (len*ie.size)).map (zero[· % zero.size]!)) (parts.map λx=>(x.1,a.eval x.2)).toList=iN cs:=arH;by_cases h0:len*ie.size=0
  ·rw[if_pos h0];have hz:zero=#[]:=by grind
   rw[hz]at VQ;simp only[jJ,qj,kn,VQ];rfl
  ·rw[if_neg h0];have hz:zero=ie.zero.cells:=by grind
   rw[hz]at VQ;simp only[jJ,qj,oy hi,kn,VQ];rfl
 have hcs:cs.size=len*ie.size:=by have:=atH.1;grind
 grind
theorem VR(hE:E.Ok)(hr:Rel E w0 G0 st a w G){t:aL}{len:Nat}(ho:o.op=.buildSlice t len parts)
  (ht:aY P t=iN ⟨.slice e,j1,j2,z⟩) (hi:aY P e=iN ie) (h1:parts.toList.map (·.1)=bY len) (h2:len*ie.size<=16777216) (h3:0<ie.size) (h0':0<len)
    (hk:ie.size=T.size E) (hx:pF T (parts.toList.map λp=>st.ev p.2)=iN xs) :
  kE P w0 G0 a w o {st with t:=cG st.t o.dst (.cH st.g.length 0 T xs),g:=st.g++[⟨0,e,ie.size⟩]}:=by
 obtain⟨cs,hrun,hcs,VP,hfl⟩:=PB hE hr ho ht hi h1 h2 h3 hk hx
 obtain⟨G',hG'⟩:=hr.arG hcs (eo _) h0' (by
   have:len<=len*ie.size:=agQ _ h3;have hm:maxLen=9223372036854775807:=rfl;omega) hk VP hfl o.dst
 exact⟨_,_,_,G',hrun,.inl rfl,hG'⟩
theorem amG(hr:Rel E w0 G0 st a w G){e':aL}(htx:aY P tx=iN ix)(Tf:ix.kind=.slice e')(hk0:0<T.size E)
  (hd:VD w G.pr (a.eval y) (.slice (T.size E) (xs.map (T.cells E)))):∃news,Src P (T.size E) tx (a.eval y) xs.length news w/\Flat w G.pr (T.size E) news (xs.map (T.cells E)):=by
 obtain⟨xt,kG,eG,-⟩:=aQ htx;rw[Tf]at eG;obtain⟨cs,hfl,Ag⟩:=hd.flat hk0;refine⟨cs,?_,hfl⟩;have hone:=hfl.one hk0;have hl:(xs.map (T.cells E)).length=Ts xs:=by simp
 rcases Ag with⟨ad,he,hn⟩|⟨b,off,cap,he,hcap,hcells⟩
 ·have hx:=HA (by rw[hfl.1,hn];simp);have hx':xs=[]:=by simpa using hn
  subst hx';rw[he,hx];cases ad with|none=>exact Src.ofNil w eG 0|some ad=>simp_all[Src.ofSlice]
 ·rw[he,hl];refine Src.ofSlice w eG _ _ _ cs (by rw[hfl.1,hl]) (λj u hu=>?_) hone;have hj:=(fC.1 hu).1;have:=(hcells j (by rw[<-hfl.1];exact hj)).2;simp_all[add_lit]
def cY(l:J UInt8):J Int:=l.map λb=>(b.toNat:Int)
theorem ahY(hr:Rel E w0 G0 st a w G)(htx:aY P tx=iN ix)(Tf:ix.kind=.string){l:J UInt8}(hd:st.ev y=.dat .str l):
  ∃news,Src P 1 tx (a.eval y) l.length news w/\Flat w G.pr 1 news ((cY l).map (Ty.cells E (.int .u8))):=by
 obtain⟨xt,kG,eG,-⟩:=aQ htx;rw[Tf]at eG;have hv:=hr.ev y;rw[hd]at hv;rw[hv.iS];refine⟨byteCells ⟨⟨l⟩⟩,?_,?_⟩
 ·exact Src.ofString w eG ⟨⟨l⟩⟩
 ·refine⟨by simp[byteCells,cY],λj hj=>?_,λj k hj hk=>?_⟩
  ·simp_all[Ty.cells]
  ·simp[cY]at hj;obtain rfl:k=0:=om;have e1:(byteCells ⟨⟨l⟩⟩).getD (j*1+0) M2=.int .u8 l[j].toNat:=by simp[byteCells,hj]
   have e2:(((cY l).map (Ty.cells E (.int .u8))).getD j []).getD 0 default=.int .u8 l[j].toNat:=by grind[cY,Ty.cells]
   rw[e1,e2];exact .int _ _
theorem ae0(hE:E.Ok)(hr:Rel E w0 G0 st a w G){c:Call}{t:aL}(ho:o.op=.call c)(hcl:c.callee=.builtin .append)
  (ha:c.args.toList=[x,y]) (hat:c.argTypes.toList=[t,tx]) (ht:aY P t=iN ⟨.slice e,j1,j2,z⟩) (hi:aY P e=iN ie) {aG:Nat}  
  (hx:st.ev x=.cH j aG T xs)  (hg:st.g[j]? = iN g) (B0:∀c,(j,c)∉st.c) (acz:g.aG=aG) (hge:g.e=e) (B2:g.k=ie.size) (hk:ie.size=T.size E) (hk0:0<ie.size) (hzs:ie.zero.cells.size=ie.size)
  (h63:Ts xs+Ts ys<=9223372036854775807) (hbytes:(Ts xs+Ts ys)*ie.bytes<=140737488355328)
   (hsrc:Src P ie.size tx (a.eval y) ys.length news w) (hf:Flat w G.pr ie.size news (ys.map (T.cells E))) :
  kE P w0 G0 a w o {st with t:=cG st.t o.dst (.cH j (g.aG+1) T (xs++ys)),g:=st.g.set j {g with aG:=g.aG+1}}:=by
 have gX:c.args=#[x,y]:=by grind
 have zo:c.argTypes=#[t,tx]:=by grind
 have hv:=hr.ev x;rw[hx]at hv;obtain⟨BQ,gx,gh,lC,hle,heq⟩:=hv;have Jz:gx=g:=by have:=hr.boxes.gs;grind
 subst Jz;have mQ:=heq acz.symm;rw[<-mQ]at lC;have hl1:(xs.map (T.cells E)).length=Ts xs:=by simp
 have hl2:(ys.map (T.cells E)).length=Ts ys:=by simp
 obtain⟨v',w',mO,hrun,hR,hV⟩:=hr.append ht hi hk0 hzs lC B0 hge B2
  (by rw[hk];exact BQ) (by rw[hl2];exact hsrc) hf (by rw[hl1,hl2];exact h63) (by simp_all)
 refine⟨.value v',v',w',_,?_,.inl rfl,hR.put ?_ o.dst⟩
 ·unfold R0;simp[ho,resolve,hcl,invoke,builtin,gX,zo];rw[hrun];rfl
 ·simp[VT];grind
def Uf:DV->DV->O Bool|.int _ a,.int _ b=>iN (a==b)|.bool a,.bool b=>iN (a==b)|.str a,.str b=>iN (a==b)|_,_=>iF
def tC:J DV->J DV->O Bool
 | [],[]=>iN hJ|a::as,b::bs=>match Uf a b,tC as bs with
  | some p,iN q=>iN (p&&q)|_,_=>iF
 | _,_=>iF
def JA(P:bx)(t:aL):DV->Bool
 | .int k _=>match P.underlying t with
  | some (.int k')=>eK (k=k')|_=>eQ
 | .bool _=>match P.underlying t with
  | some .bool=>hJ|_=>eQ
 | .str _=>match P.underlying t with
  | some .string=>hJ|_=>eQ
 | _=>eQ
def xC(P:bx):Nat->J Field->J DV->J DV->Bool
 | _,[],[],[]=>hJ|n,f::fs,d::ds,c::cs=>eI f.offset n && !(f.name == "_")&&JA P f.type d&&JA P f.type c&&xC P (n+1) fs ds cs
 | _,_,_,_=>eQ
variable{pr:Nat->Nat->Prop}{u:T1}
theorem atI{t:aL}{d c:DV}{b:Bool}(hu:VD w pr u d)(hv:VD w pr v c)(hd:JA P t d=hJ)(hc:JA P t c=hJ)(h:Uf d c=iN b):
  (∀w',(isAgg t).run P w'=.ok eQ w')/\∀w' n,(Op.equalIn (n+1) t u v).run P w'=.ok b w':=by
 unfold Uf at h;split at h<;>try trivial
 ·rename_i k a k' a';cases h;cases hu;cases hv;unfold JA at hd hc;cases ht:P.underlying t with
  | none=>rw[ht]at hd;cases hd
  | some dd=>rw[ht]at hd hc;cases dd<;>simp at hd hc;subst hd;subst hc;exact⟨λw'=>by simp[isAgg,aW ht],λw' n=>run_equalIn_int w' n t _ _ a a' ht⟩
 ·rename_i a a';cases h;cases hu;cases hv;unfold JA at hd;cases ht:P.underlying t with
  | none=>rw[ht]at hd;cases hd
  | some dd=>rw[ht]at hd;cases dd<;>simp at hd;exact⟨λw'=>by simp[isAgg,aW ht],λw' n=>run_equalIn_bool' w' n t a a' ht⟩
 ·cases hu;cases hv;unfold JA at hd;cases ht:P.underlying t with
  | none=>rw[ht]at hd;cases hd
  | some dd=>
   rw[ht]at hd;cases dd<;>simp at hd
   exact⟨λw'=>by simp[isAgg,aW ht],λw' n=>by
    simp_all[run_equalIn_string,mkStr]⟩
theorem acA{P:bx}{w:U}{pr:Nat->Nat->Prop}{xs ys:aK T1}:∀(fs:J Field)(n:Nat)(as bs:J T1)(ds cs:J DV)(b:Bool),(∀j:Nat,xs[n+j]? = as[j]?)->(∀j:Nat,ys[n+j]? = bs[j]?) ->
  LD w pr as ds->LD w pr bs cs->xC P n fs ds cs=hJ->tC ds cs=iN b->∀w' d,(Op.eqFields (d+1) xs ys fs).run P w'=.ok b w'
 | [],n,as,bs,[],[],b,_,_,_,_,_,h,w',d=>by cases h;simp[Op.eqFields]
 | f::fs,n,a::as,b'::bs,dd::ds,c::cs,b,hx,hy,hA,hB,hf,h,w',d=>by
  simp only[xC,cK]at hf;obtain⟨⟨⟨⟨f1,f2⟩,f3⟩,f4⟩,f5⟩:=hf;have f1:=eY f1;have f2:f.name ≠ "_" := by simpa using f2
  unfold tC at h;cases h1:Uf dd c with
  | none=>rw[h1]at h;cases h
  | some p=>
   cases h2:tC ds cs with
   | none=>rw[h1,h2]at h;cases h
   | some q=>
    rw[h2]at h;obtain⟨g1,g2⟩:=atI hA.1 hB.1 f3 f4 h1;have hx0:xs[f.offset]? = iN a:=by rw[f1];simpa using hx 0
    have hy0:ys[f.offset]? = iN b':=by rw[f1];simpa using hy 0
    have px:∀w',(part f.type xs f.offset).run P w'=.ok a w':=λw'=>by simp[part,g1,hx0]
    have py:∀w',(part f.type ys f.offset).run P w'=.ok b' w':=λw'=>by simp[part,g1,hy0]
    have ih:=acA fs (n+1) as bs ds cs q (λj=>by have:=hx (j+1);rw[show n+(j+1)=n+1+j by omega]at this;simpa using this) (λj=>by have:=hy (j+1);rw[show n+(j+1)=n+1+j by omega]at this;simpa using this) hA.2 hB.2 f5 h2 w' d;simp[Op.eqFields];simp[px,py,g2];grind
 | [],_,_,_,_::_,_,_,_,_,_,_,hf,_,_,_=>by simp[xC]at hf|[],_,_,_,[],_::_,_,_,_,_,_,hf,_,_,_=>by simp[xC]at hf|_::_,_,_,_,[],_,_,_,_,_,_,hf,_,_,_=>by simp[xC]at hf|_::_,_,_,_,_::_,[],_,_,_,_,_,hf,_,_,_=>by simp[xC]at hf|_::_,_,[],_,_::_,_::_,_,_,_,hA,_,_,_,_,_=>hA.elim|_::_,_,_::_,[],_::_,_::_,_,_,_,_,hB,_,_,_,_=>hB.elim
def eqX(P:bx)(t:aL)(yc:Bool)(x y:TV E):Option Bool:=
 match aY P t,x,y with
 | some ⟨.bool,_,_,_⟩,.dat .bool a,.dat .bool b=>iN (a==b)|some ⟨.pointer _,_,_,_⟩,.qY c _ _,.val (.pointer iF)=>iN (!c)|some ⟨.pointer _,_,_,_⟩,.ptr _ _,.val (.pointer iF)=>iN eQ|some ⟨.pointer _,_,_,_⟩,.tT _ _ _,.val (.pointer iF)=>iN eQ|some ⟨.pointer _,_,_,_⟩,.val (.pointer iF),.val (.pointer iF)=>iN hJ|some ⟨.pointer e,_,_,_⟩,.qY c r off,.ptr r' off'=>cond (eI r r'&&eI off off') (match aY P e with|some _=>iN c|none=>iF) iF
 | some ⟨.interface _,_,_,_⟩,.iface _ _,.val .nilIface=>iN eQ|some ⟨.interface _,_,_,_⟩,.val .nilIface,.val .nilIface=>cond yc (iN hJ) iF|some ⟨.struct fs,_,_,_⟩,.dat a x,.dat b y=>cond (a.isAgg&&b.isAgg && !(P.stoodInHeld t) && !(P.eqGuardType P.depth t)&&xC P 0 fs.toList (a.cells E x) (b.cells E y)) (tC (a.cells E x) (b.cells E y)) iF|_,_,_=>iF
def isConst:dH->Bool|.const _=>hJ|_=>eQ
def Gr(op:BinOp)(b:Bool):Bool:=match op with|.eql=>b|_=>!b
theorem Ss(a:Addr)(w:U):(sameAddr a a).run P w=.ok hJ w:=by simp[sameAddr]
theorem vQ{t:aL}{b:Bool}{op:BinOp}(hop:op=.eql\/op=.neq)(h2:∀w' d,(Op.equalIn (d+1) t u v).run P w'=.ok b w':=by intro w' d;simp[Op.equalIn,aW eG])
  (h1:∀w',(eqGuard op t x y u v).run P w'=.ok () w':=by intro w';rcases hop with rfl|rfl<;>rfl) (h3:∀op',op'=.eql\/op'=.neq->binOp op' t u v=(do let r <-Op.equal t u v;pure (.bool (Gr op' r))):=by intro op' h;rcases h with rfl|rfl<;>rfl) (w':U) :
  (do eqGuard op t x y u v;binOp op t u v).run P w'=.ok (.bool (Gr op b)) w':=by
 simp only[jJ,h1,kn,h3 op hop,Op.equal,Op.maxDepth,h2 w' 9999,qj]
theorem Zo{t:aL}{du dv:TV E}{b:Bool}
  (hu:VT E w G du u) (hv:VT E w G dv v) (h:eqX P t (isConst y) du dv=iN b) (op:BinOp) (hop:op=.eql\/op=.neq) :
  ∀w',(do eqGuard op t x y u v;binOp op t u v).run P w'=.ok (.bool (Gr op b)) w':=by
 unfold eqX at h;split at h<;>try trivial
 ·rename_i j1 j2 z a c ht;cases h;obtain⟨xt,kG,eG,-⟩:=aQ ht;rw[hu.nv,hv.nv]at *;exact vQ hop
 ·rename_i e j1 j2 z c r off ht;cases h;obtain⟨xt,kG,eG,-⟩:=aQ ht;cases c<;>simp only[VT]at hu hv
  ·subst hu;subst hv;exact vQ hop
  ·obtain⟨b,rfl,-⟩:=hu;subst hv;exact vQ hop
 ·rename_i e j1 j2 z r off ht;cases h;obtain⟨xt,kG,eG,-⟩:=aQ ht;simp only[VT]at hu hv;obtain⟨b,rfl,-⟩:=hu;subst hv;exact vQ hop
 ·rename_i e j1 j2 z T y' off ht;cases h;obtain⟨xt,kG,eG,-⟩:=aQ ht;simp only[VT]at hu hv;obtain⟨b,o,c,rfl,-⟩:=hu;subst hv;exact vQ hop
 ·rename_i e j1 j2 z ht;cases h;obtain⟨xt,kG,eG,-⟩:=aQ ht;simp only[VT]at hu hv;subst hu;subst hv;exact vQ hop
 ·rename_i e j1 j2 z c r off r' off' ht;obtain⟨xt,kG,eG,-⟩:=aQ ht;cases hb:(eI r r'&&eI off off')<;>rw[hb]at h<;>simp only[aU,aJ]at h
  ·cases h
  rw[cK]at hb;obtain rfl:=eY hb.1;obtain rfl:=eY hb.2;split at h<;>try trivial
  rename_i ie VC;cases h;obtain⟨xe,rW,-⟩:=aQ VC;cases b<;>simp only[VT]at hu hv
  ·obtain⟨b,rfl,-⟩:=hv;subst hu;exact vQ hop
  ·obtain⟨b,rfl,h1⟩:=hu;obtain⟨b',rfl,h2⟩:=hv;rw[h1]at h2;cases h2;exact vQ hop (λw' d=>by simp[Op.equalIn,aW eG,sizeOf,typeInfo,rW,Ss])
 ·rename_i ms j1 j2 z ty d ht;cases h;obtain⟨xt,kG,eG,-⟩:=aQ ht;simp only[VT]at hu hv;obtain⟨u',rfl,-⟩:=hu;subst hv;exact vQ hop
 ·rename_i ms j1 j2 z ht;obtain⟨xt,kG,eG,-⟩:=aQ ht;simp only[VT]at hu hv;subst hu;subst hv;cases hc:isConst y<;>rw[hc]at h<;>simp only[aU,aJ]at h
  ·cases h
  cases h;have hcy:∃c,y=.const c:=by unfold isConst at hc;grind
  obtain⟨c,rfl⟩:=hcy;exact vQ hop (h1:=λw'=>by rcases hop with rfl|rfl<;>simp[eqGuard])
 ·rename_i fs j1 j2 z a x' b' y' ht;obtain⟨xt,kG,eG,-⟩:=aQ ht;cases hb:(a.isAgg&&b'.isAgg && !(P.stoodInHeld t) && !(P.eqGuardType P.depth t)&&xC P 0 fs.toList (a.cells E x') (b'.cells E y'))<;>rw[hb]at h<;>simp only[aU,aJ]at h
  ·cases h
  simp only[cK,wR]at hb;obtain⟨⟨⟨⟨a1,a2⟩,a3⟩,a4⟩,a5⟩:=hb;simp only[VT,a1]at hu;simp only[VT,a2]at hv;obtain⟨us,rfl,hu⟩:=hu;obtain⟨vs,rfl,hv⟩:=hv;have hfs:P.fieldsOf t=fs:=by unfold Program.fieldsOf;rw[eG]
  intro w';have he:(Op.equalIn 10000 t (.agg us) (.agg vs)).run P w'=.ok b w':=by grind[run_equalIn_struct,acA]
  rcases hop with rfl|rfl
  ·simp only[jJ,run_eqGuard_agg w' .eql t x y us vs a4,kn,run_eql_struct,he];rfl
  ·simp only[jJ,run_eqGuard_agg w' .neq t x y us vs a4,kn,run_neq_struct,he];rfl
def zJ(E:TEnv)(ty:O Ty):T1->TV E|.agg cs=>RU E ty (cs.toList.map TV.Ll)|v=>.Ll v
def X5(E:TEnv)(ty:aL->O Ty)(asserted:aL)(i:TI)(ok:Bool)(d:TV E):O (TV E):=match i.kind,d with|.interface _,_=>iF|_,.iface t v=>cond (eI t asserted) (iN (cond ok (.tuple [v,.dat .bool hJ]) v)) (cond ok (iN (.tuple [zJ E (ty asserted) i.zero,.dat .bool eQ])) iF)|_,.val .nilIface=>cond ok (iN (.tuple [zJ E (ty asserted) i.zero,.dat .bool eQ])) iF|_,_=>iF
def VS(P:bx)(ty:aL->O Ty)(st:TS E):Op->O (Bool×TV E)
 | .binOp op t x y _=>match op,eqX P t (isConst y) (st.ev x) (st.ev y)with
  | .eql,iN b=>iN (hJ,.dat .bool b)|.neq,iN b=>iN (hJ,.dat .bool (!b))|_,_=>iF
 | .typeAssert x _ asserted ok=>match aY P asserted with
  | some i=>match X5 E ty asserted i ok (st.ev x)with
   | some d=>iN (i.zero.cells.toList.all (·.oneCell'),d)
   | none=>iF
  | none=>iF
 | .call c=>match c.callee,c.args.toList,c.argTypes.toList with
  | .builtin .max,[x,y],_=>match st.ev x,st.ev y with
   | .dat (.int k) a,.dat (.int _) b=>iN (hJ,.dat (.int k) (cond (eK (a<b)) b a))|_,_=>iF
  | .builtin .min,[x,y],_=>match st.ev x,st.ev y with
   | .dat (.int k) a,.dat (.int _) b=>iN (hJ,.dat (.int k) (cond (eK (b<a)) b a))|_,_=>iF
  | .builtin .unsafeSliceData,[x],_=>match st.ev x with
   | .cH j aG (.int .u8) xs=>match st.g[j]? with
    | some g=>iN (eI g.aG aG && !(E.zc g.e),.Ta j aG xs)|none=>iF
   | _=>iF
  | _,_,_=>iF
 | _=>iF
variable{ty:aL->O Ty}
theorem RY(hE:E.Ok){ty:O Ty}(h:z.cells.toList.all (·.oneCell')=hJ):VT E w G (zJ E ty z) z:=by cases z with|agg cs=>exact KA hE bO.ofValues (λu hu=>pP.1 h u hu)|_=>simp_all[zJ,acq]
theorem acB(hE:E.Ok)(hr:Rel E w0 G0 st a w G){xt t:aL}{ok:Bool}{i:TI}{d:TV E}(ho:o.op=.typeAssert x xt t ok)(ht:aY P t=iN i)(h:X5 E ty t i ok (st.ev x)=iN d)
  (hz:i.zero.cells.toList.all (·.oneCell')=hJ):jW P a w G o d:=by
 have hv:=hr.ev x;obtain⟨xi,hxi,eG,-⟩:=aQ ht;have hzv:=RY (w:=w) (G:=G) hE (ty:=ty t) hz;have dI:∀(u:T1)(d:TV E)(b:Bool),VT E w G d u->VT E w G (.tuple [d,.dat .bool b]) (.tuple #[u,.bool b]):=λu d b hd=>⟨_,rfl,.cons hd (.cons (.bool _ _ _) .nil)⟩
 suffices hs:∃v,VT E w G d v/\∀w',(Instr.typeAssert (a.eval x) xt t ok).run P w'=.ok v w' by obtain⟨v,h1,h2⟩:=hs;exact gr (f:=λρ=>Instr.typeAssert (ρ x) xt t ok) (by simp[R0,ho]) ⟨v,h1,λw' _=>h2 w'⟩
 unfold X5 at h;split at h<;>try trivial
 ·rename_i ty' v' hd hni;rw[hd]at hv;obtain⟨u,hu,hv⟩:=hv;cases hb:eI ty' t<;>rw[hb]at h<;>simp at h
  ·have hne:ty'≠t:=λe=>by simp_all
   cases ok<;>simp only[aU,aJ]at h
   ·cases h
   cases h;unfold Instr.typeAssert;simp_all[aW,oy]
  ·cases h;cases ok
   ·unfold Instr.typeAssert;simp_all[aW]
   ·unfold Instr.typeAssert;simp_all[aW]
 ·rename_i hd hni;rw[hd]at hv;cases ok<;>simp only[aU,aJ]at h
  ·cases h
  cases h;rw[hv];unfold Instr.typeAssert;simp_all[aW,oy]
theorem ae1(hE:E.Ok)(hr:Rel E w0 G0 st a w G){d:TV E}{c:Bool}(h:VS P ty st o.op=iN (c,d))(hc:c=hJ):jW P a w G o d:=by
 cases ho:o.op<;>rw[ho]at h<;>simp[VS]at h<;>try trivial
 case binOp op t x y yt=>
  split at h<;>try trivial
  ·rename_i b hb;cases h;exact gr (f:=λρ=>do eqGuard .eql t x y (ρ x) (ρ y);binOp .eql t (ρ x) (ρ y)) (by simp[R0,ho]) ⟨_,.bool _ _ _,λw' _=>Zo (hr.ev x) (hr.ev y) hb .eql (.inl rfl) w'⟩
  ·rename_i b hb;cases h;exact gr (f:=λρ=>do eqGuard .neq t x y (ρ x) (ρ y);binOp .neq t (ρ x) (ρ y)) (by simp[R0,ho]) ⟨_,.bool _ _ _,λw' _=>Zo (hr.ev x) (hr.ev y) hb .neq (.inr rfl) w'⟩
 case typeAssert x xt t ok=>grind[acB]
 case call c'=>
  split at h<;>try trivial
  ·rename_i _ x y hcl ha;split at h<;>try trivial
   rename_i k p k' q hx hy;cases h;have AX:=hr.ev x;rw[hx]at AX;have C2:=hr.ev y;rw[hy]at C2;have gX:c'.args=#[x,y]:=by grind
   refine⟨_,.int _ _ _ _,λw' hs=>?_⟩;unfold R0;simp[ho,resolve,hcl,invoke,builtin,gX];rw[AX.gq,C2.gq];simp only[Builtin.max_,List.foldlM_cons,Builtin.max2];simp_all
  ·rename_i _ x y hcl ha;split at h<;>try trivial
   rename_i k p k' q hx hy;cases h;have AX:=hr.ev x;rw[hx]at AX;have C2:=hr.ev y;rw[hy]at C2;have gX:c'.args=#[x,y]:=by grind
   refine⟨_,.int _ _ _ _,λw' hs=>?_⟩;unfold R0;simp[ho,resolve,hcl,invoke,builtin,gX];rw[AX.gq,C2.gq];simp only[Builtin.min_,List.foldlM_cons,Builtin.min2];simp_all
  ·rename_i _ x hcl ha;split at h<;>try trivial
   rename_i j aG xs hx;split at h<;>try trivial
   rename_i g hg;cases h;rw[cK]at hc;obtain⟨hc,Zp⟩:=hc;have acz:=eY hc;have gX:c'.args=#[x]:=by grind
   have hv:=hr.ev x;rw[hx]at hv;obtain⟨BQ,gx,gh,lC,hle,heq⟩:=hv;have Jz:gx=g:=by
    have h2:(G.g.map (·.1))[j]? = iN gx:=by simp[lC]
    rw[hr.boxes.gs]at h2;simp_all
   subst Jz;have mQ:=heq acz.symm;obtain⟨n,ys,ho',Py,wG⟩:=hr.boxes.grow j gx gh lC;rcases BQ.xB with⟨ad,he,hn⟩|⟨b,off,cap,c,he,hcap,hk,-⟩
   ·have hxs:xs=[]:=by simpa using hn
    have:ad=iF:=by cases ad with|none=>rfl|some ad=>grind
    subst this;refine⟨.pointer iF,?_,λw' hs=>?_⟩
    ·simp only[VT];exact⟨gx,gh,a.eval x,lC,hle,BQ,λ_=>⟨mQ,.inl ⟨by rw[<-mQ,he],hxs,trivial⟩⟩⟩
    ·unfold R0;simp[ho,resolve,hcl,gX];rw[he];rfl
   ·have hl:(xs.map (Ty.cells E (.int .u8))).length=Ts xs:=by simp
    rw[hl]at he;have hc0:cap≠0:=λe=>by grind
    have hoff:off=0:=by
     rcases ho'.2 with⟨hnil,-⟩|⟨g',cap',cur,h2,-⟩
     ·simp_all
     simp_all
    subst hoff;refine⟨.pointer (iN ⟨b,0,iF⟩),?_,λw' hs=>?_⟩
    ·exact⟨gx,gh,a.eval x,lC,hle,BQ,λ_=>⟨mQ,.inr ⟨b,cap,by rw[<-mQ,he],rfl⟩⟩⟩
    ·unfold R0;simp[ho,resolve,hcl,invoke,builtin,gX];rw[he,Lib.run_unsafeSliceData_row _ _ _ _ _ _ hc0];rfl
def VU(P:bx)(ty:aL->O Ty)(st:TS E)(o:Op):O (Bool×TV E):=match RW P ty st o with|some x=>iN x|none=>VS P ty st o
theorem acC(hE:E.Ok)(hr:Rel E w0 G0 st a w G){d:TV E}{c:Bool}(h:VU P ty st o.op=iN (c,d))(hc:c=hJ):jW P a w G o d:=by grind[VU,aeZ,ae1]
variable{i r:Nat}{src dst:aL}{off:Nat}
theorem Rel.Lq(h:Rel E w0 G0 st a w G)(e:TypeId)(k:Nat):Rel E w0 G0 {st with g:=st.g++[⟨0,e,k⟩]} a w {G with g:=G.g++[(⟨0,e,k⟩,.slice iF 0 0)]}:=by refine h.DA ⟨0,e,k⟩ (.slice iF 0 0) ⟨0,[],⟨si,.inl ⟨rfl,rfl⟩⟩,(λa m e=>nomatch e),(λb hb=>nomatch hb)⟩ (λb hb=>nomatch hb) (λj y z b hj hb e=>nomatch e)
theorem Rel.qZ(h:Rel E w0 G0 st a w G):G.g.length=Ts st.g:=by rw[<-h.boxes.gs];simp
theorem PC(hl:G.g.length=Ts st.g)(e:aL)(T:Ty):VT E w {G with g:=G.g++[(⟨0,e,T.size E⟩,.slice iF 0 0)]} (.cH st.g.length 0 T []) (.slice iF 0 0):=by refine⟨.v8 _ _,⟨0,e,T.size E⟩,.slice iF 0 0,?_,eo _,λ_=>rfl⟩;simp_all
theorem Rel.atJ(h:Rel E w0 G0 st a w G)(hi:st.t[i]? = iN (.val (.slice iF 0 0)))(e:aL)(T:Ty):
  ∃G',Rel E w0 G0 {st with t:=st.t.set i (.cH st.g.length 0 T []),g:=st.g++[⟨0,e,T.size E⟩]} a w G':=by
 have hN:=h.Lq e (T.size E);refine⟨_,hN.fF,by simpa using hN.size,λj d hj=>?_,hN.defers,hN.boxes,hN.fix,hN.pins,hN.gO⟩;simp[Re]at hj;by_cases hij:i=j
 ·subst hij;have hlt:=(fC.1 hi).1;simp[hlt]at hj;subst hj;have hv:=h.tmps i _ hi;rw[hv];exact PC h.qZ e T
 ·rw[if_neg hij]at hj;exact hN.tmps j d hj
theorem Rel.aki(h:Rel E w0 G0 st a w G){c:Nat}{t:aL}(hr:st.H[r]? = iN (.cells t cs))(hc:cs[c]? = iN (.val (.slice iF 0 0)))(e:aL)(T:Ty):
  ∃G',Rel E w0 G0 {st with H:=st.H.set r (.cells t (cs.set c (.cH st.g.length 0 T []))),g:=st.g++[⟨0,e,T.size E⟩],d:=r::st.d} a w G':=by
 have hN:=h.Lq e (T.size E);have hlr:r<G.i.length:=by rw[h.boxes.len];grind
 have hat:=ga hlr;have hS:=hN.zI hat rfl rfl rfl rfl (λ_ _=>rfl) (x:=.cells t (cs.set c (.cH st.g.length 0 T []))) (λ_=>?_)
 ·exact⟨_,hS⟩
 ·obtain⟨vs,h1,h2,h3⟩:=hN.boxes.box r _ _ hat hr;refine⟨vs,h1,h2,?_⟩;obtain⟨u,hu,hv⟩:=h3.get c hc;subst hv;have key:∀(cs:J (TV E))(vs:J T1)(c:Nat)(d:TV E),bO E w {G with g:=G.g++[(⟨0,e,T.size E⟩,.slice iF 0 0)]} cs vs->vs[c]? = iN (.slice iF 0 0) ->
    VT E w {G with g:=G.g++[(⟨0,e,T.size E⟩,.slice iF 0 0)]} d (.slice iF 0 0)->bO E w {G with g:=G.g++[(⟨0,e,T.size E⟩,.slice iF 0 0)]} (cs.set c d) vs:=by
   intro cs
   induction cs with
   | nil=>simp_all|cons x cs ih=>intro vs c d h1 h2 h3;obtain⟨u,us,rfl,q1,q2⟩:=h1.cons_inv;cases c with|zero=>simp at h2;subst h2;exact .cons h3 q2|succ c=>exact .cons q1 (ih us c d q2 (by simpa using h2) h3)
  exact key cs vs.toList c _ h3 hu (PC h.qZ e T)
theorem X6(hE:E.Ok)(hr:Rel E w0 G0 st a w G){c:Call}{t:aL}(ho:o.op=.call c)(hcl:c.callee=.builtin .append)
  (ha:c.args.toList=[x,y]) (hat:c.argTypes.toList=[t,tx]) (ht:aY P t=iN ⟨.slice e,j1,j2,z⟩) (hi:aY P e=iN ie)  
  (hx:st.ev x=.val (.slice iF 0 0)) (hk:ie.size=T.size E) (hk0:0<ie.size) (hzs:ie.zero.cells.size=ie.size)
  (h63:Ts ys<=9223372036854775807) (hbytes:Ts ys*ie.bytes<=140737488355328)
   (hsrc:Src P ie.size tx (a.eval y) ys.length news w) (hf:Flat w G.pr ie.size news (ys.map (T.cells E))) :
  kE P w0 G0 a w o {st with t:=cG st.t o.dst (.cH st.g.length 1 T ys),g:=st.g++[⟨1,e,ie.size⟩]}:=by
 have gX:c.args=#[x,y]:=by grind
 have zo:c.argTypes=#[t,tx]:=by grind
 have hv:=hr.ev x;rw[hx]at hv;have hN:=hr.Lq e ie.size;have hl2:(ys.map (T.cells E)).length=Ts ys:=by simp
 have hrl:=hr.qZ;have lC:(G.g++[(⟨0,e,ie.size⟩,Value.slice iF 0 0)])[G.g.length]? = iN (⟨0,e,ie.size⟩,.slice iF 0 0):=by simp
 obtain⟨v',w',mO,hrun,hR,hV⟩:=hN.append ht hi hk0 hzs lC (λc hc=>by
   obtain⟨x,h,h1,-⟩:=hr.gO _ c hc
   simp_all) rfl rfl
  (.v8 _ _) (by rw[hl2];exact hsrc) hf (by simp;exact h63) (by simp_all)
 have nZ:(st.g++[(⟨0,e,ie.size⟩:cV)]).set G.g.length ⟨0+1,e,ie.size⟩=st.g++[⟨1,e,ie.size⟩]:=by simp_all
 simp[nZ]at hR;refine⟨.value v',v',w',_,?_,.inl rfl,hR.put ?_ o.dst⟩
 ·unfold R0;simp[ho,resolve,hcl,invoke,builtin,gX,zo];rw[hv,hrun];rfl
 ·simp[VT];grind
def Lg(l:J Int):Bool:=l.all λn=>eK (0<=n)&&eK (n<256)
def cx(l:J Int):J UInt8:=l.map λn=>lL n.toNat
theorem ahZ{l:J Int}(h:Lg l=hJ){x:UInt8}(hx:(cx l)[j]? = iN x):l[j]? = iN (x.toNat:Int):=by unfold cx at hx;rw[OU]at hx;obtain⟨n,hn,rfl⟩:=Rh.1 hx;have:=pP.1 h n (jR hn);simp at this;rw[hn];simp;omega
theorem VD.VV{xs:J Int}(h:VD w pr v (.slice 1 (xs.map (Ty.cells E (.int .u8))))):
  (∃ad,v=.slice ad 0 0/\xs=[])\/∃b off cap,v=.slice (iN ⟨b,off,iF⟩) xs.length cap/\xs.length<=cap/\∀(j:Nat) n,xs[j]? = iN n->pr b (off+j)/\w.cell? ⟨b,off+j,iF⟩=iN (.int .u8 n):=by
 rcases h.xB with⟨ad,he,hn⟩|⟨b,off,cap,c,he,hcap,hk,h0,hc⟩
 ·simp_all
 ·refine .inr ⟨b,off,cap,by simpa using he,by simpa using hcap,λj n hj=>?_⟩;have hjl:=(fC.1 hj).1;have h1:=h0 j 0 (by simpa using hjl) om;have h2:=hc j 0 (by simpa using hjl) om;have e1:((xs.map (Ty.cells E (.int .u8))).getD j []).getD 0 default=.int .u8 n:=by grind[Option.some.inj,Ty.cells]
  rw[e1]at h2;rw[h2.gq]at h1;simpa using h1
theorem fold_push:∀(ns:J Int)(r:ByteArray),ns.foldl (λr n=>r.push (lL n.toNat)) r=⟨⟨r.data.toList++cx ns⟩⟩|[],r=>by simp[cx]|n::ns,r=>by rw[v7,fold_push ns];simp[cx]
theorem HX(ad:Addr)(cap:Nat)(xs:J Int)(hc:∀(j:Nat) n,xs[j]? = iN n->w.cell? (ad.add j)=iN (.int .u8 n)):(Conv.bytesToString (.slice (iN ad) xs.length cap)).run P w=.ok (mkStr (cx xs)) w:=by
 have hl:=run_loadCells (P:=P) w ad xs.length (λj=>.int .u8 (xs.getD j 0)) (λj hj=>hc j _ (by simp[hj]));have hm:((bY xs.length).map λj=>Value.int .u8 (xs.getD j 0))=xs.map (Value.int .u8):=by apply Bo si;simp_all
 rw[run_bytesToString w ad xs.length cap xs (by simp_all),fold_push];rfl
theorem PD(hr:Rel E w0 G0 st a w G){j3 j4 j5 j6:Nat}{z1 z2 z3:T1}(ho:o.op=.convert src dst x)(hs:aY P src=iN ⟨.slice e,j1,j2,z1⟩)(hd:aY P dst=iN ⟨.string,j3,j4,z2⟩)
  (he:aY P e=iN ⟨.int .u8,j5,j6,z3⟩) {xs:J Int} (hx:tY (st.ev x) (.int .u8) xs):kE P w0 G0 a w o {st with t:=cG st.t o.dst (.dat .str (cx xs))}:=by
 obtain⟨_,_,Te,-⟩:=aQ hs;obtain⟨_,_,hud,-⟩:=aQ hd;obtain⟨_,_,BV,-⟩:=aQ he;have hv:=hx.vd (hr.ev x);have hrun:(convert src dst (a.eval x)).run P w=.ok (mkStr (cx xs)) w:=by
  rcases hv.VV with⟨ad,jT,rfl⟩|⟨b,off,cap,jT,hcap,hc⟩
  ·rw[jT];cases ad with|none=>unfold convert;simp[aW Te,aW hud,aW BV];rfl|some ad=>have:=HX (P:=P) (w:=w) ad 0 [] (λj n hj=>by simp at hj);unfold convert;simp_all[aW]
  ·have:=HX (P:=P) (w:=w) ⟨b,off,iF⟩ cap xs (λj n hj=>by simp_all[add_lit]);unfold convert;simp_all[aW]
 refine⟨_,mkStr (cx xs),w,G,?_,.inl rfl,hr.put (.str _ _ _) o.dst⟩;simp[R0,ho,hrun]
theorem Tg(w:U)(p:Addr)(n b:Nat)(hb:b≠p.block):(w.freeze p n).heap[b]? = w.heap[b]?:=by unfold World.freeze;grind
theorem ae2(w:U)(p:Addr)(n:Nat)(x:Addr):(w.freeze p n).cell? x=w.cell? x:=by
 by_cases h0:n=0
 ·simp[World.freeze,h0]
 by_cases hx:x.block=p.block
 ·simp[World.cell?,World.freeze];grind
 grind[World.cell?_of_block,Tg]
theorem St(hr:Rel E w0 G0 st a w G){c:Call}{pt it:TypeId}{j3 j4:Nat}{z1 z2:T1}(ho:o.op=.call c)(hcl:c.callee=.builtin .unsafeString)(ha:c.args.toList=[x,y])(hat:c.argTypes.toList=[pt,it])
  (hp:aY P pt=iN ⟨.pointer e,j1,j2,z1⟩) (hce:P.cellsOf e=1) {aG:Nat} {xs:J Int} (hx:st.ev x=.Ta j aG xs)  (hg:st.g[j]? = iN g) (B0:∀c,(j,c)∉st.c) (acz:g.aG=aG) (hge:g.e=e) (B2:g.k=1)
  {n:Int} (hy:st.ev y=.dat (.int .i64) n) (hn:n=Ts xs) (hok:Lg xs=hJ) (h63:Ts xs<=9223372036854775807) :
  kE P w0 G0 a w o {st with t:=cG st.t o.dst (.dat .str (cx xs)),g:=st.g.set j {g with aG:=g.aG+1}}:=by
 have gX:c.args=#[x,y]:=by grind
 have zo:c.argTypes=#[pt,it]:=by grind
 obtain⟨_,_,hup,-⟩:=aQ hp;have hv:=hr.ev x;rw[hx]at hv;have C2:=hr.ev y;rw[hy]at C2;have C2:=C2.gq;subst hn;obtain⟨gx,gh,u,lC,hle,BQ,heq⟩:=hv;have Jz:gx=g:=by
  have h2:(G.g.map (·.1))[j]? = iN gx:=by simp[lC]
  rw[hr.boxes.gs]at h2;simp_all
 subst Jz;obtain⟨mQ,Ag⟩:=heq acz.symm;have hlen:(cx xs).length=Ts xs:=by simp[cx]
 have step:∀w1,w.heap.size<=w1.heap.size->w1.os=w.os->w1.tape=w.tape->w1.output=w.output->(∀b,b<w.heap.size->gh.ownBlock≠iN b->w1.heap[b]? = w.heap[b]?)->(∀b o v,G.pr b o->w.cell? ⟨b,o,iF⟩=iN v->w1.cell? ⟨b,o,iF⟩=iN v) ->
   ∃G1,Rel E w0 G0 {st with g:=st.g.set j {gx with aG:=gx.aG+1}} a w1 G1:=λw1 s1 s2 s3 s4 s5 s6=>
  ⟨_,hr.RX lC B0 s1 s2 s3 s4 s5 s6 G.pr (λ_ _ h=>h) (λ_ _ h=>.inl h) ⟨0,[],⟨si,.inl ⟨rfl,rfl⟩⟩,(λa m e=>nomatch e),(λb hb=>nomatch hb)⟩ (λb hb=>nomatch hb)⟩
 have nothing:(Builtin.unsafeString_ c.argTypes o.type #[a.eval x,a.eval y]).run P w=.ok (mkStr (cx xs)) w->kE P w0 G0 a w o {st with t:=cG st.t o.dst (.dat .str (cx xs)),g:=st.g.set j {gx with aG:=gx.aG+1}}:=by intro hrun;obtain⟨G1,hR⟩:=step w (eo _) rfl rfl rfl (λ_ _ _=>rfl) (λ_ _ _ _ h=>h);refine⟨_,mkStr (cx xs),w,G1,?_,.inl rfl,hR.put (.str _ _ _) o.dst⟩;unfold R0;simp[ho,resolve,hcl,invoke,builtin,gX,hrun]
 by_cases h0:xs=[]
 ·subst h0;refine nothing ?_;rw[C2,zo];rcases Ag with⟨-,-,he⟩|⟨b,cap,-,he⟩<;>rw[he]<;>exact Lib.run_unsafeString_none w pt it o.type _
 ·rcases Ag with⟨-,hl,-⟩|⟨b,cap,hgh,he⟩
  ·exact(h0 hl).elim
  replace BQ:VD w G.pr _ (.slice 1 (xs.map (Ty.cells E (.int .u8)))):=BQ
  have hcell:∀(q:Nat) nn,xs[q]? = iN nn->G.pr b q/\w.cell? ⟨b,q,iF⟩=iN (.int .u8 nn):=by
   rcases BQ.VV with⟨ad,h1,h2⟩|⟨b',off,cap',h1,-,h3⟩
   ·exact(h0 h2).elim
   simp_all
  obtain⟨n',ys,hown,-,hblk⟩:=hr.boxes.grow j gx gh lC;rcases hown.2 with⟨hnil,-⟩|⟨gb,cap',cur,h2,-,hheap,hn',hcm,hcs,-⟩
  ·simp_all
  rw[hgh]at h2;obtain⟨⟨rfl,-,-⟩,rfl,rfl⟩:=h2;have hsh:w.shape? b=iN (e,cap):=by simp[World.shape?,hheap,hge,hcs,B2]
  have hrun:=Lib.run_unsafeString_row w pt it o.type e hup hce b cap hsh (cx xs) (by simpa[cx]using h0) (by rw[hlen];exact hn') (by rw[hlen];exact h63)
   (λq u hq=>by simp_all[add_lit,ahZ])
  rw[hlen]at hrun;obtain⟨G1,hR⟩:=step (w.freeze ⟨b,0,iF⟩ xs.length) (by unfold World.freeze;split<;>simp) (by unfold World.freeze;split<;>rfl) (by unfold World.freeze;split<;>rfl) (by unfold World.freeze;split<;>rfl)
   (λb' _ hne=>Tg w _ _ b' (λe'=>hne (by rw[hgh];simp at e';rw[e'];rfl))) (λb' o' v _ hv=>by simp_all[ae2])
  refine⟨_,mkStr (cx xs),_,G1,?_,.inl rfl,hR.put (.str _ _ _) o.dst⟩;unfold R0;simp[ho,resolve,hcl,invoke,builtin,gX,zo];rw[he,C2,hrun];rfl
theorem acD(hr:Rel E w0 G0 st a w G)(ho:o.op=.convert src dst x)(hx:st.ev x=.ptr r off){t':aL}(hb:st.H[r]? = iN (.cells t' cs))
  (Ag:(∃t i,P.underlying src=iN (.pointer t)/\P.underlying dst=iN .unsafePointer/\aY P t=iN i/\i.size≠0/\off<Ts cs) \/
   ∃t i,P.underlying src=iN .unsafePointer/\P.underlying dst=iN (.pointer t)/\aY P t=iN i/\liesAt P P.depth t' (Ts cs / P.cellsOf t') off t 1=hJ) :
  kE P w0 G0 a w o {st with t:=cG st.t o.dst (.ptr r off)}:=by
 have hv:=hr.ev x;rw[hx]at hv;have hv0:=hv;obtain⟨b,he,hat⟩:=hv;obtain⟨vs,hh,-,hvs⟩:=hr.box hat hb;have hsz:vs.size=Ts cs:=by simpa using hvs.length
 have hsh:w.shape? b=iN (t',Ts cs):=by simp[World.shape?,hh,hsz]
 have hrun:(convert src dst (a.eval x)).run P w=.ok (a.eval x) w:=by grind[aQ,Lib.run_to_unsafe,Lib.run_from_unsafe]
 refine⟨_,a.eval x,w,G,?_,.inl rfl,hr.put hv0 o.dst⟩;simp[R0,ho,hrun]
open Go.MapKept
def jM{α β:Type}(eq:α->α->Bool)(m:J (α×β))(k:α)(v:β):J (α×β):=bif m.any (λp=>eq p.1 k)then m.map (λp=>bif eq p.1 k then(k,v)else p)else m++[(k,v)]
def fX{α β:Type}(eq:α->α->Bool)(m:J (α×β))(k:α)(z:β):β:=match m.find? (λp=>eq p.1 k)with|some p=>p.2|none=>z
def Fy{α β:Type}(eq:α->α->Bool)(m:J (α×β))(k:α):Bool:=m.any (λp=>eq p.1 k)
def MJ:Ty->O (J Ty)
 | .int k=>iN [.int k]|.bool=>iN [.bool]|.str=>iN [.str]|.unit=>iN []|.pair a b=>match MJ a,MJ b with
  | some x,iN y=>iN (x++y)|_,_=>iF
 | _=>iF
def FX:DV->T1|.int k n=>.int k n|.bool b=>.bool b|.str l=>mkStr l|_=>M2
def Ty.fH(E:TEnv):(t:Ty)->t.den E.D->T1|.str,l=>mkStr l|.int k,n=>.int k n|.bool,b=>.bool b|.ext i,x=>.agg (((E.df i).cells E (E.BO i x)).map FX).toArray|_,_=>M2
def PE(E:TEnv):(t:Ty)->t.den E.D->t.den E.D->Bool|.str,a,b=>a==b|.int _,a,b=>a==b|.bool,a,b=>a==b|.pair s t,a,b=>PE E s a.1 b.1&&PE E t a.2 b.2|.unit,_,_=>hJ|_,_,_=>eQ
def Ty.dc(E:TEnv):(t:Ty)->t.den E.D->t.den E.D->Bool|.str,a,b=>a==b|.int _,a,b=>a==b|.bool,a,b=>a==b|.ext i,a,b=>PE E (E.df i) (E.BO i a) (E.BO i b)|_,_,_=>eQ
def Fz:Ty->TypeDesc->Bool|.str,.string=>hJ|.int k,.int k'=>eK (k=k')|.bool,.bool=>hJ|_,_=>eQ
def ah0(P:bx)(ty:aL):Ty->Bool
 | .int k=>match P.underlying ty with
  | some (.int k')=>eK (k=k')|_=>eQ
 | .bool=>match P.underlying ty with
  | some .bool=>hJ|_=>eQ
 | .str=>match P.underlying ty with
  | some .string=>hJ|_=>eQ
 | _=>eQ
def AY(P:bx):Nat->J Field->J Ty->Bool
 | _,[],[]=>hJ|n,f::fs,t::ts=>eI f.offset n && !(f.name == "_")&&ah0 P f.type t&&AY P (n+1) fs ts
 | _,_,_=>eQ
def amH(E:TEnv)(P:bx)(k:aL):Ty->TypeDesc->Bool
 | .ext i,.struct fs=>(match MJ (E.df i)with
  | some ts=>AY P 0 fs.toList ts|none=>eQ) && !(P.stoodInHeld k)
 | _,_=>eQ
def X7(E:TEnv)(P:bx)(k:aL)(t:Ty)(d:TypeDesc):Bool:=Fz t d||amH E P k t d
structure JB(E:TEnv)(P:Program)(k:TypeId)(t:Ty):Prop where
 vt:∀ {w:World}{G:bB}{x:t.den E.D}{v:T1},VT E w G (.dat t x) v->v=t.fH E x
 of:∀(w:World)(G:bB)(x:t.den E.D),VT E w G (.dat t x) (t.fH E x)
 dc:∀ {x y:t.den E.D},t.dc E x y=hJ↔t.fH E x=t.fH E y
 check:∀(em:Bool)(x:t.den E.D)(w:World),(Instr.checkKey em 10000 k (t.fH E x)).run P w=.ok () w
 find:∀(x:t.den E.D)(es:List MapEntry)(w:World),(∀e∈es,∃y:t.den E.D,e.key=t.fH E y) ->
  ((Instr.findKey k (t.fH E x) es).run P w=.ok iF w/\∀e∈es,e.key≠t.fH E x) \/
  ∃(j:Nat)(e:MapEntry),(Instr.findKey k (t.fH E x) es).run P w=.ok (iN (j,e.val)) w/\es[j]? = iN e/\e.key=t.fH E x
 stays:∀(x:t.den E.D)(w:World),(Instr.keyThatStays (t.fH E x) (t.fH E x)).run P w=.ok (t.fH E x) w
variable{t:Ty}{d:TypeDesc}
theorem arI(h:Fz t d=hJ){k:t.den E.D}(hv:VT E w G (.dat t k) v):v=t.fH E k:=by
 unfold Fz at h;split at h<;>try trivial
 ·exact hv.iS
 ·exact hv.gq
 ·exact hv.nv
theorem amI(h:Fz t d=hJ)(w:U)(G:bB)(k:t.den E.D):VT E w G (.dat t k) (t.fH E k):=by
 unfold Fz at h;split at h<;>try trivial
 ·exact .str w G _
 ·exact .int w G _ _
 ·exact .bool w G _
theorem MK(h:Fz t d=hJ)(k:t.den E.D):IsKey d (t.fH E k):=by
 unfold Fz at h;split at h<;>try (cases h;done)
 ·trivial
 ·simp at h;subst h;rfl
 ·trivial
theorem amJ(h:Fz t d=hJ){a b:t.den E.D}(e:t.fH E a=t.fH E b):a=b:=by
 unfold Fz at h;split at h<;>try trivial
 ·simp_all[Ty.fH,mkStr]
 ·simpa[Ty.fH]using e
 simp_all[Ty.fH]
theorem af5(h:Fz t d=hJ){a b:t.den E.D}:t.dc E a b=hJ↔a=b:=by
 unfold Fz at h;split at h<;>try trivial
 ·exact uL
 ·exact uL
 ·exact uL
theorem ae3{k:aL}(hd:P.underlying k=iN d)(h:Fz t d=hJ):JB E P k t:={
 vt:=arI h
 of:=amI h
 dc:=⟨λe=>by rw[(af5 h).1 e],λe=>(af5 h).2 (amJ h e)⟩
 check:=λem x w=>MapKept.run_checkKey hd (MK h x) em 9999
 find:=λx es w hk=>by grind[findNow_spec,MK,MapKept.run_findKey]
 stays:=λx w=>MapKept.run_keyThatStays (MK h x)}
def Jm:Ty->DV->Prop|.int k,d=>∃n,d=.int k n|.bool,d=>∃b,d=.bool b|.str,d=>∃l,d=.str l|_,_=>False
def B3:J Ty->J DV->Prop|[],[]=>True|t::ts,d::ds=>Jm t d/\B3 ts ds|_,_=>False
theorem B3.append:∀ {ts us:J Ty}{ds es:J DV},B3 ts ds->B3 us es->B3 (ts++us) (ds++es)|[],_,[],_,_,h=>h|_::_,_,_::_,_,h,h'=>⟨h.1,h.2.append h'⟩|[],_,_::_,_,h,_=>h.elim|_::_,_,[],_,h,_=>h.elim
theorem KC:∀(t:Ty){ts:J Ty}(x:t.den E.D),MJ t=iN ts->B3 ts (t.cells E x)
 | .int k,ts,x,h=>by cases h;exact⟨⟨x,rfl⟩,trivial⟩
 | .bool,ts,x,h=>by cases h;exact⟨⟨x,rfl⟩,trivial⟩
 | .str,ts,x,h=>by cases h;exact⟨⟨x,rfl⟩,trivial⟩
 | .unit,ts,x,h=>by cases h;trivial
 | .pair a b,ts,x,h=>by
  simp[MJ]at h;split at h<;>try trivial
  rename_i p q h1 h2;cases h;exact(KC a x.1 h1).append (KC b x.2 h2)
 | .bz _,ts,x,h=>by cases h
 | .ext _,ts,x,h=>by cases h
theorem Gt:∀(t:Ty){ts:J Ty}(x y:t.den E.D),MJ t=iN ts->tC (t.cells E x) (t.cells E y)=iN (PE E t x y)
 | .int k,ts,x,y,h=>by simp[Ty.cells,tC,Uf,PE]|.bool,ts,x,y,h=>by simp[Ty.cells,tC,Uf,PE]|.str,ts,x,y,h=>by simp[Ty.cells,tC,Uf,PE]|.unit,ts,x,y,h=>by simp[Ty.cells,tC,PE]|.pair a b,ts,x,y,h=>by
  simp[MJ]at h;split at h<;>try trivial
  rename_i p q h1 h2;have i1:=Gt a x.1 y.1 h1;have i2:=Gt b x.2 y.2 h2;have app:∀(as bs cs ds:J DV)(p q:Bool),tC as bs=iN p->tC cs ds=iN q->tC (as++cs) (bs++ds)=iN (p&&q):=by
   intro as
   induction as with
   | nil=>intro bs cs ds p q h1 h2;cases bs with
    | nil=>cases h1;simpa using h2
    | cons _ _=>cases h1
   | cons a as ih=>intro bs cs ds p q h1 h2;cases bs with
    | nil=>cases h1
    | cons b bs=>
     simp[tC]at h1⊢;split at h1<;>try trivial
     rename_i u v hu hv;cases h1;rw[hu,ih bs cs ds v q hv h2,Bool.and_assoc]
  exact app _ _ _ _ _ _ i1 i2
 | .bz _,ts,x,y,h=>by cases h
 | .ext _,ts,x,y,h=>by cases h
theorem af6{w:U}{pr:Nat->Nat->Prop}:∀ {ts:J Ty}{ds:J DV}{vs:J T1},B3 ts ds->LD w pr vs ds->vs=ds.map FX
 | [],[],[],_,_=>rfl|t::ts,d::ds,v::vs,h,hl=>by rw[jI,<-af6 h.2 hl.2];have h1:=h.1;cases t<;>first|exact h1.elim|(obtain⟨n,rfl⟩:=h1;cases hl.1;rfl)
 | [],[],_::_,_,hl=>hl.elim|[],_::_,_,h,_=>h.elim|_::_,[],_,h,_=>h.elim|_::_,_::_,[],_,hl=>hl.elim
theorem JC(w:U)(pr:Nat->Nat->Prop):∀ {ts:J Ty}{ds:J DV},B3 ts ds->LD w pr (ds.map FX) ds
 | [],[],_=>trivial|t::ts,d::ds,h=>by refine⟨?_,JC w pr h.2⟩;have h1:=h.1;cases t<;>first|exact h1.elim|(obtain⟨n,rfl⟩:=h1;constructor)
 | [],_::_,h=>h.elim|_::_,[],h=>h.elim
theorem Zq{P:bx}:∀ {n:Nat}{fs:J Field}{ts:J Ty}{ds cs:J DV},AY P n fs ts=hJ->B3 ts ds->B3 ts cs->xC P n fs ds cs=hJ
 | n,[],[],[],[],_,_,_=>rfl|n,f::fs,t::ts,d::ds,c::cs,h,h1,h2=>by
  simp[AY]at h;obtain⟨⟨⟨a1,a2⟩,a3⟩,a4⟩:=h;simp[xC,a1,a2,Zq a4 h1.2 h2.2];have key:∀ {d:DV},Jm t d->JA P f.type d=hJ:=by intro d hd;cases t<;>first|exact hd.elim|(obtain⟨n,rfl⟩:=hd;exact a3)
  exact⟨key h1.1,key h2.1⟩
 | _,[],[],_::_,_,_,h,_=>h.elim|_,[],[],[],_::_,_,_,h=>h.elim|_,[],_::_,_,_,h,_,_=>by simp[AY]at h|_,_::_,[],_,_,h,_,_=>by simp[AY]at h|_,_::_,_::_,[],_,_,h,_=>h.elim|_,_::_,_::_,_::_,[],_,_,h=>h.elim
theorem Zr:∀ {ts:J Ty}{ds cs:J DV}{b:Bool},B3 ts ds->B3 ts cs->tC ds cs=iN b->(b=hJ↔ds.map FX=cs.map FX)
 | [],[],[],b,_,_,h=>by cases h;simp
 | t::ts,d::ds,c::cs,b,h1,h2,h=>by
  simp[tC]at h;split at h<;>try trivial
  rename_i p q hp hq;cases h;rw[cK,Zr h1.2 h2.2 hq];have h1:=h1.1;have h2:=h2.1;cases t<;>first|exact h1.elim|(obtain⟨n,rfl⟩:=h1;obtain⟨m,rfl⟩:=h2;cases hp;simp[FX,mkStr])
 | [],_::_,_,_,h,_,_=>h.elim|[],[],_::_,_,_,h,_=>h.elim|_::_,[],_,_,h,_,_=>h.elim|_::_,_::_,[],_,_,h,_=>h.elim
theorem akj{w:U}{ty:aL}{d:DV}(h:ah0 P ty t=hJ)(hd:Jm t d):(∀w,(isAgg ty).run P w=.ok eQ w)/\∀em n w,(Instr.checkKey em (n+1) ty (FX d)).run P w=.ok () w:=by
 unfold ah0 at h;split at h<;>try trivial
 all_goals
  split at h<;>try trivial
  rename_i hu;exact⟨λw=>by simp[isAgg,aW hu],λem n w=>by simp[Instr.checkKey,aW hu]⟩
theorem acE(hE:E.Ok){k:aL}(hd:P.underlying k=iN d)(h:amH E P k t d=hJ):JB E P k t:=by
 unfold amH at h;split at h<;>try trivial
 rename_i i fs;rw[cK,wR]at h;obtain⟨h,hst⟩:=h;split at h<;>try trivial
 rename_i ts hts;have hall:∀x:E.D i,B3 ts ((E.df i).cells E (E.BO i x)):=λx=>KC _ _ hts;have hfs:P.fieldsOf k=fs:=by unfold Program.fieldsOf;rw[hd]
 have arJ:∀x y:E.D i,(Ty.ext i).dc E x y=hJ↔(Ty.ext i).fH E x=(Ty.ext i).fH E y:=λx y=>by have:=Zr (hall x) (hall y) (Gt (E.df i) (E.BO i x) (E.BO i y) hts);grind[Ty.dc,Ty.fH]
 have acF:∀(x y:E.D i)(w:U),(Op.equal k ((Ty.ext i).fH E x) ((Ty.ext i).fH E y)).run P w=.ok ((Ty.ext i).dc E x y) w:=λx y w=>by simp[Op.equal,Op.maxDepth,Ty.fH];rw[run_equalIn_struct w 9999 k _ _ (by rw[hfs];exact hd) hst,hfs];exact acA (pr:=λ_ _=>True) fs.toList 0 _ _ _ _ _ (λj=>by simp) (λj=>by simp) (JC w _ (hall x)) (JC w _ (hall y)) (Zq h (hall x) (hall y)) (Gt (E.df i) _ _ hts) w 9998
 refine⟨λ{w G x v} hv=>?_,λw G x=>?_,λ{x y}=>arJ x y,λem x w=>?_,λx es w hk=>?_,λx w=>?_⟩
 ·obtain⟨vs,rfl,hl⟩:=hv;rw[show Ty.cells E (.ext i) x=E.enc i x from rfl,hE.enc]at hl;have:=af6 (hall x) hl;simp[Ty.fH];rw[<-this]
 ·refine⟨_,rfl,?_⟩;rw[show Ty.cells E (.ext i) x=E.enc i x from rfl,hE.enc];grind[JC]
 ·simp[Ty.fH];rw[Instr.checkKey];simp only[jJ,aW hd,kn];rw[<-Array.forIn_toList];have hx:∀j:Nat,(((E.df i).cells E (E.BO i x)).map FX).toArray[0+j]? = (((E.df i).cells E (E.BO i x)).map FX)[j]?:=λj=>by simp
  have hp:=hall x;clear hall arJ acF hfs hd hts;generalize(((E.df i).cells E (E.BO i x)).map FX).toArray=xs at hx⊢;generalize(E.df i).cells E (E.BO i x)=ds at hx hp;generalize fs.toList=l at h⊢;generalize(0:Nat)=n at hx h
  induction l generalizing n ts ds with
  | nil=>simp|cons f l ih=>
   cases ts with
   | nil=>simp[AY]at h|cons t ts=>
    cases ds with
    | nil=>exact hp.elim|cons d ds=>
     simp only[AY,cK]at h;obtain⟨⟨⟨f1,f2⟩,f3⟩,f4⟩:=h;have f1:=eY f1;have f2:f.name ≠ "_" := by simpa using f2
     obtain⟨g1,g2⟩:=akj (w:=w) f3 hp.1;have hx0:xs[f.offset]? = iN (FX d):=by rw[f1];simpa using hx 0
     have px:∀w',(part f.type xs f.offset).run P w'=.ok (FX d) w':=λw'=>by simp[part,g1,hx0]
     have:=ih (n:=n+1) (ts:=ts) (ds:=ds) hp.2 (λj=>by have:=hx (j+1);grind) f4;rw[List.forIn_cons];simp only[if_pos f2,jJ,px,g2,kn];exact this
 ·cases es with
  | nil=>exact .inl ⟨by simp[Instr.findKey,aW hd,Instr.findNow],λe he=>by cases he⟩
  | cons e0 es=>
   have arv:(Instr.findKey k ((Ty.ext i).fH E x) (e0::es)).run P w=(Instr.findAsking k ((Ty.ext i).fH E x) (e0::es)).run P w:=by simp[Instr.findKey,aW hd,Instr.findNow,Instr.sameNow]
   have key:∀(es:J MapEntry)(n:Nat),(∀e∈es,∃y:E.D i,e.key=(Ty.ext i).fH E y) ->
     ((Instr.findAsking k ((Ty.ext i).fH E x) es n).run P w=.ok iF w/\∀e∈es,e.key≠(Ty.ext i).fH E x) \/
     ∃(j:Nat)(e:MapEntry),(Instr.findAsking k ((Ty.ext i).fH E x) es n).run P w=.ok (iN (n+j,e.val)) w/\es[j]? = iN e/\e.key=(Ty.ext i).fH E x:=by
    intro es
    induction es with
    | nil=>intro n _;exact .inl ⟨by simp[Instr.findAsking],λe he=>by cases he⟩
    | cons e es ih=>
     intro n hk;obtain⟨y,hy⟩:=hk e si;cases hb:(Ty.ext i).dc E x y with
     | true=>refine .inr ⟨0,e,?_,rfl,by simp_all⟩;simp[Instr.findAsking,hy,acF,hb]|false=>
      have hne:e.key≠(Ty.ext i).fH E x:=λhe=>by grind
      have hstep:(Instr.findAsking k ((Ty.ext i).fH E x) (e::es) n).run P w=(Instr.findAsking k ((Ty.ext i).fH E x) es (n+1)).run P w:=by simp[Instr.findAsking,hy,acF,hb]
      rw[hstep];rcases ih (n+1) (λe he=>hk e (by simp[he]))with⟨h1,h2⟩|⟨j,e',h1,h2,h3⟩
      ·simp_all
      ·exact .inr ⟨j+1,e',by rw[h1];congr 3;omega,by simpa using h2,h3⟩
   grind
 ·have hp:∀(ts:J Ty)(ds:J DV),B3 ts ds->((ds.map FX).zip (ds.map FX)).all (λ(x,y)=>Instr.sameBits 9999 x y)=hJ:=by
   intro ts
   induction ts with
   | nil=>intro ds h;cases ds with
    | nil=>rfl|cons _ _=>exact h.elim
   | cons t ts ih=>intro ds h;cases ds with
    | nil=>exact h.elim|cons d ds=>simp[ih ds h.2];have h1:=h.1;cases t<;>first|exact h1.elim|(obtain⟨n,rfl⟩:=h1;simp[FX];exact(MapKept.bytes_beq _ _).2 rfl)|(obtain⟨n,rfl⟩:=h1;simp[FX,Instr.sameBits])
  have hs:Instr.sameBits 10000 ((Ty.ext i).fH E x) ((Ty.ext i).fH E x)=hJ:=by simp only[Ty.fH,Instr.sameBits,HB];exact hp ts _ (hall x)
  simp[Instr.keyThatStays,hs]
theorem acG(hE:E.Ok){k:aL}(hd:P.underlying k=iN d)(h:X7 E P k t d=hJ):JB E P k t:=by grind[X7,ae3,acE]
variable{kt vt:Ty}{m:J (kt.den E.D × vt.den E.D)}{b:Nat}{ki:aL}{es:aK MapEntry}{clock:Nat}{kk:kt.den E.D}
theorem gK.length:∀ {es:J MapEntry}{m:J (kt.den E.D×vt.den E.D)},gK E w G kt vt es m->Ts es=m.length|[],[],_=>rfl|_::_,_::_,h=>by simp[gK.length h.2.2]|[],_::_,h=>h.elim|_::_,[],h=>h.elim
theorem gK.get:∀ {es:J MapEntry}{m:J (kt.den E.D×vt.den E.D)}(j:Nat){e:MapEntry},gK E w G kt vt es m->es[j]? = iN e->∃p,m[j]? = iN p/\VT E w G (.dat kt p.1) e.key/\VT E w G (.dat vt p.2) e.val|[],[],_,_,_,h=>by simp at h|e::es,p::ps,0,x,h,hj=>by simp at hj;subst hj;exact⟨p,rfl,h.1,h.2.1⟩|e::es,p::ps,j+1,x,h,hj=>by simpa using gK.get j h.2.2 (by simpa using hj)|[],_::_,_,_,h,_=>h.elim|_::_,[],_,_,h,_=>h.elim
theorem gK.get':∀ {es:J MapEntry}{m:J (kt.den E.D×vt.den E.D)}(j:Nat){p:kt.den E.D×vt.den E.D},gK E w G kt vt es m->m[j]? = iN p->∃e,es[j]? = iN e/\VT E w G (.dat kt p.1) e.key/\VT E w G (.dat vt p.2) e.val|[],[],_,_,_,h=>by simp at h|e::es,p::ps,0,x,h,hj=>by simp at hj;subst hj;exact⟨e,rfl,h.1,h.2.1⟩|e::es,p::ps,j+1,x,h,hj=>by simpa using gK.get' j h.2.2 (by simpa using hj)|[],_::_,_,_,h,_=>h.elim|_::_,[],_,_,h,_=>h.elim
theorem gK.append:∀ {es:J MapEntry}{m:J (kt.den E.D×vt.den E.D)}{e:MapEntry}{p:kt.den E.D×vt.den E.D},gK E w G kt vt es m->VT E w G (.dat kt p.1) e.key->VT E w G (.dat vt p.2) e.val->gK E w G kt vt (es++[e]) (m++[p])|[],[],_,_,_,h1,h2=>⟨h1,h2,trivial⟩|_::_,_::_,_,_,h,h1,h2=>⟨h.1,h.2.1,gK.append h.2.2 h1 h2⟩|[],_::_,_,_,h,_,_=>h.elim|_::_,[],_,_,h,_,_=>h.elim
theorem gK.set:∀ {es:J MapEntry}{m:J (kt.den E.D×vt.den E.D)}(j:Nat){e:MapEntry}{p:kt.den E.D×vt.den E.D},gK E w G kt vt es m->VT E w G (.dat kt p.1) e.key->VT E w G (.dat vt p.2) e.val->gK E w G kt vt (es.set j e) (m.set j p)|[],[],_,_,_,_,_,_=>trivial|_::_,_::_,0,_,_,h,h1,h2=>⟨h1,h2,h.2.2⟩|_::_,_::_,j+1,_,_,h,h1,h2=>⟨h.1,h.2.1,gK.set j h.2.2 h1 h2⟩|[],_::_,_,_,_,h,_,_=>h.elim|_::_,[],_,_,_,h,_,_=>h.elim
theorem acH(K:JB E P ki kt){es:aK MapEntry}(h:gK E w G kt vt es.toList m)(k:kt.den E.D)(W:U):
  ((Instr.findKey ki (kt.fH E k) es.toList).run P W=.ok iF W/\m.any (λp=>kt.dc E p.1 k)=eQ/\∀x∈es.toList,x.key≠kt.fH E k) \/
  ∃j e p,(Instr.findKey ki (kt.fH E k) es.toList).run P W=.ok (iN (j,e.val)) W/\es[j]? = iN e/\e.key=kt.fH E k/\m[j]? = iN p/\kt.dc E p.1 k=hJ/\VT E w G (.dat vt p.2) e.val:=by
 have hkey:∀x∈es.toList,∃p∈m,x.key=kt.fH E p.1:=λx hx=>by obtain⟨j,hj,rfl⟩:=lH hx;obtain⟨p,hp,h1,-⟩:=h.get j (ga hj);exact⟨p,jR hp,K.vt h1⟩
 rcases K.find k es.toList W (λx hx=>by grind)with⟨h1,h2⟩|⟨j,e,h1,h2,h3⟩
 ·refine .inl ⟨h1,?_,h2⟩;apply TG.2;intro ha;obtain⟨p,hp,he⟩:=TH.1 ha;obtain⟨j,hj,rfl⟩:=lH hp;obtain⟨x,hx,hk,-⟩:=h.get' j (ga hj);exact h2 x (jR hx) (by rw[K.vt hk,K.dc.1 he])
 ·have hj:es[j]? = iN e:=by simpa using h2
  obtain⟨p,hp,hk,hv⟩:=h.get j h2;exact .inr ⟨j,e,p,h1,hj,h3,hp,K.dc.2 ((K.vt hk).symm.trans h3),hv⟩
theorem Zs(K:JB E P ki kt)(hs:Stamped es clock)(h:gK E w G kt vt es.toList m):m.Pairwise (λp q=>kt.fH E p.1≠kt.fH E q.1):=by
 have h3:=hs.2.2;have:es.toList.map (·.key)=(m.map (·.1)).map (kt.fH E):=by
  apply Bo (by simp[h.length]);intro j h1 h2;have hj:j<es.toList.length:=by simpa using h1
  obtain⟨p,hp,hk,-⟩:=h.get j (ga hj);have hjm:=(fC.1 hp).1;have:m[j]=p:=by simp_all
  simp[this];exact K.vt hk
 grind
theorem apF(K:JB E P ki kt)(hn:m.Pairwise (λp q=>kt.fH E p.1≠kt.fH E q.1)){p:kt.den E.D×vt.den E.D}(hj:m[j]? = iN p){k:kt.den E.D}(hk:kt.dc E p.1 k=hJ)(v:vt.den E.D):jM (kt.dc E) m k v=m.set j (k,v):=by
 have amK:m.any (λp=>kt.dc E p.1 k)=hJ:=TH.2 ⟨p,jR hj,hk⟩;unfold jM;rw[amK,aU];apply Bo si;intro q h1 h2;have hq:q<m.length:=by simpa using h1
 rw[Md,List.getElem_set];by_cases hqj:j=q
 ·simp_all
 ·rw[if_neg hqj];have hne:kt.dc E m[q].1 k=eQ:=by apply TG.2;intro he;have he':=K.dc.1 he;have hk':=K.dc.1 hk;grind[List.pairwise_iff_getElem]
  rw[hne,aJ]
theorem ah1{t k:aL}(K:JB E P k kt)(hm:P.underlying t=iN (.map k e))(hb:w.heap[b]? = iN (.map es clock))(hs:Stamped es clock)(h:gK E w G kt vt es.toList m)
  (x:kt.den E.D) (v:vt.den E.D) {vv:T1} (hv:VT E w G (.dat vt v) vv) :
  ∃es' clock',(Instr.mapUpdate t (.map (iN b)) (kt.fH E x) vv).run P w=.ok () {w with heap:=w.heap.setIfInBounds b (.map es' clock')}/\Stamped es' clock'/\gK E w G kt vt es'.toList (jM (kt.dc E) m x v):=by
 rcases acH K h x w with⟨h1,h2,h3⟩|⟨j,e,p,h1,hj,h3,hp,hpk,NM⟩
 ·refine⟨es.push ⟨kt.fH E x,vv,clock⟩,clock+1,?_,stamped_push hs h3,?_⟩
  ·simp[Instr.mapUpdate,run_underlying hm,aa3 hb,K.check,h1,MapKept.run_setObj_map _ hb]
  ·unfold jM;rw[h2,Array.toList_push];exact h.append (K.of w G x) hv
 ·refine⟨es.modify j λe=>{e with key:=kt.fH E x,val:=vv},clock,?_,stamped_modify hs _ _ (λ_ _=>rfl) (λe' _ he'=>by simp_all),?_⟩
  ·simp[Instr.mapUpdate,run_underlying hm,aa3 hb,K.check,h1,hj,h3,K.stays,MapKept.run_setObj_map _ hb]
  ·rw[apF K (Zs K hs h) hp hpk v];have:(es.modify j λe=>{e with key:=kt.fH E x,val:=vv}).toList=es.toList.set j {e with key:=kt.fH E x,val:=vv}:=by apply Bo si;grind
   rw[this];exact h.set j (K.of w G x) hv
theorem amL{t k:aL}{z:vt.den E.D}{zv:T1}(K:JB E P k kt)(hm:P.underlying t=iN (.map k e))(hz:∀w,(zeroValue e).run P w=.ok zv w)(hzv:VT E w G (.dat vt z) zv)
  (hb:w.heap[b]? = iN (.map es clock)) (hs:Stamped es clock) (h:gK E w G kt vt es.toList m) (x:kt.den E.D) (c:Bool) :
  ∃u,VT E w G (.dat vt (fX (kt.dc E) m x z)) u/\(Instr.lookup t (.map (iN b)) (kt.fH E x) c).run P w=.ok (if c then .tuple #[u,.bool (Fy (kt.dc E) m x)]else u) w:=by
 rcases acH K h x w with⟨h1,h2,h3⟩|⟨j,en,p,h1,hj,h3,hp,hpk,hv⟩
 ·have hf:m.find? (λp=>kt.dc E p.1 x)=iF:=by grind
  have hg:fX (kt.dc E) m x z=z:=by unfold fX;rw[hf]
  rw[hg];unfold Fy;rw[h2];refine⟨zv,hzv,?_⟩;simp[Instr.lookup,run_underlying hm,aa3 hb,K.check,h1,hz]
 ·have hf:m.find? (λp=>kt.dc E p.1 x)=iN p:=by obtain⟨hjl,hjp⟩:=fC.1 hp;rw[List.find?_eq_some_iff_getElem];refine⟨hpk,j,hjl,hjp,λq hq=>?_⟩;have hn:=agR.1 (Zs K hs h) q j om hjl hq;rw[hjp,K.dc.1 hpk]at hn;cases hb:kt.dc E m[q].1 x with|false=>rfl|true=>exact(hn (K.dc.1 hb)).elim
  have hg:fX (kt.dc E) m x z=p.2:=by unfold fX;rw[hf]
  have amK:Fy (kt.dc E) m x=hJ:=TH.2 ⟨p,jR hp,hpk⟩;rw[hg,amK];refine⟨en.val,hv,?_⟩;simp[Instr.lookup,run_underlying hm,aa3 hb,K.check,h1]
theorem acI(hr:Rel E w0 G0 st a w G){t:aL}(ho:o.op=.makeMap t iF)(kt vt:Ty):
  kE P w0 G0 a w o {st with t:=cG st.t o.dst (.jS st.H.length),H:=st.H++[.map kt vt []]}:=by
 have hN:=hr.Ln (.map #[] 0) (.map kt vt []) ⟨#[],0,(MapKept.heap_alloc w _).1,stamped_empty 0,trivial⟩;refine⟨.value (.map (iN w.heap.size)),_,_,_,?_,.inl rfl,hN.put ?_ o.dst⟩
 ·simp[R0,ho,Instr.makeMap]
 ·simp[VT];rw[<-hr.boxes.len];simp
theorem X8(hE:E.Ok)(hr:Rel E w0 G0 st a w G){t k:aL}{z:dH}(ho:o.op=.mapUpdate t x y z){zz:T1}(hm:aY P t=iN ⟨.map k e,j1,j2,zz⟩){ik:TI}(hk:aY P k=iN ik)(K0:X7 E P k kt ik.kind=hJ)
   (hx:st.ev x=.jS r) (hb:st.H[r]? = iN (.map kt vt m))  {vv:vt.den E.D} (hy:(st.ev y).get kt=iN kk) (hz:(st.ev z).get vt=iN vv) :
  kE P w0 G0 a w o {st with t:=cG st.t o.dst .any,H:=st.H.set r (.map kt vt (jM (kt.dc E) m kk vv)),d:=r::st.d}:=by
 obtain⟨_,_,hum,-⟩:=aQ hm;obtain⟨_,_,huk,-⟩:=aQ hk;have K:=acG hE huk K0;have AX:=hr.ev x;rw[hx]at AX;obtain⟨b,he,hat⟩:=AX;obtain⟨es,clock,hh,hs,hmr⟩:=hr.box hat hb;have hvk:=K.vt (TV.vA hy (hr.ev y));obtain⟨es',clock',hrun,hs',au6⟩:=ah1 K hum hh hs hmr kk vv (TV.vA hz (hr.ev z));have hR:=hr.zI (w':={w with heap:=w.heap.setIfInBounds b (.map es' clock')}) hat si rfl rfl rfl (λb' hb'=>(MapKept.heap_set hh).2 b' hb') (x:=.map kt vt (jM (kt.dc E) m kk vv))
  (λhg=>⟨es',clock',(MapKept.heap_set hh).1,hs',au6.mono hg⟩)
 refine⟨_,M2,_,G,?_,.inr ⟨rfl,rfl⟩,hR.put (by simp[VT]) o.dst⟩;simp[R0,ho,he,hvk,hrun]
theorem ae4(hE:E.Ok)(hr:Rel E w0 G0 st a w G){t k:aL}{ok:Bool}(ho:o.op=.lookup t x y ok){zz:T1}(hm:aY P t=iN ⟨.map k e,j1,j2,zz⟩){ik:TI}(hk:aY P k=iN ik)(he':aY P e=iN ie)(K0:X7 E P k kt ik.kind=hJ)
  (hzo:ie.zero.cells.toList.all (·.oneCell')=hJ)  (hx:st.ev x=.jS r) (hb:st.H[r]? = iN (.map kt vt m))  (hy:(st.ev y).get kt=iN kk) {z:vt.den E.D} (hz:(zJ E (iN vt) ie.zero).get vt=iN z) :
  kE P w0 G0 a w o {st with t:=cG st.t o.dst (cond ok (.tuple [.dat vt (fX (kt.dc E) m kk z),.dat .bool (Fy (kt.dc E) m kk)]) (.dat vt (fX (kt.dc E) m kk z)))}:=by
 obtain⟨_,_,hum,-⟩:=aQ hm;obtain⟨_,_,huk,-⟩:=aQ hk;have K:=acG hE huk K0;have AX:=hr.ev x;rw[hx]at AX;obtain⟨b,he,hat⟩:=AX;obtain⟨es,clock,hh,hs,hmr⟩:=hr.box hat hb;have hvk:=K.vt (TV.vA hy (hr.ev y));obtain⟨u,hu,hrun⟩:=amL K hum (λw=>oy he' w) (TV.vA hz (RY hE hzo)) hh hs hmr kk ok;refine⟨_,_,w,G,?_,.inl rfl,hr.put (v:=if ok then .tuple #[u,.bool (Fy (kt.dc E) m kk)]else u) ?_ o.dst⟩
 ·simp[R0,ho,he,hvk,hrun]
 ·cases ok
  ·exact hu
  ·exact⟨_,rfl,.cons hu (.cons (.bool _ _ _) .nil)⟩
variable{c:Cn E}{L:J T1}
theorem Rel.setRow(h:Rel E w0 G0 st a w G){x x':cV}{hd hd':T1}{cs:J (Nat×Cn E)}(hj:G.g[j]? = iN (x,hd))(hle:x.aG<=x'.aG)(heq:x.aG=x'.aG->hd'=hd)(hsz:w.heap.size<=w'.heap.size)(h1:w'.os=w.os)(h2:w'.tape=w.tape)(h3:w'.output=w.output)
  (o4:∀b,b<w.heap.size->hd.ownBlock≠iN b->w'.heap[b]? = w.heap[b]?) (hcells:∀b o v,G.pr b o->w.cell? ⟨b,o,iF⟩=iN v->w'.cell? ⟨b,o,iF⟩=iN v)
  (mO:Nat->Nat->Prop) (hp:∀b o,G.pr b o->mO b o) (HW:∀b o,mO b o->G.pr b o\/hd'.ownBlock=iN b)
  (hok:zG E w' {G with pr:=mO} x' hd') (hblk:∀b,hd'.ownBlock=iN b->w.heap.size<=b\/hd.ownBlock=iN b)
  (hcs:jc w G w' {G with g:=G.g.set j (x',hd'),pr:=mO}->lS E w' {G with g:=G.g.set j (x',hd'),pr:=mO} cs) :
  Rel E w0 G0 {st with g:=st.g.set j x',c:=cs} a w' {G with g:=G.g.set j (x',hd'),pr:=mO}:=by
 obtain⟨n0,xs0,-,-,hhd⟩:=h.boxes.grow j x hd hj;have at':∀(m:Nat) y z,(G.g.set j (x',hd'))[m]? = iN (y,z)->(m=j/\y=x'/\z=hd')\/(m≠j/\G.g[m]? = iN (y,z)):=by grind
 have hg:jc w G w' {G with g:=G.g.set j (x',hd'),pr:=mO}:=by refine⟨hp,hcells,λ_ _ h=>h,λm y z hm=>?_⟩;grind
 have Pt:=λb hb e=>(hhd b e).2.1 hb;have ev:=h.fF;have hrow:∀b,b<w0.heap.size->hd.ownBlock=iN b->G0.rows b:=λb hb e=>by
  rcases ev.iz j x hd b hj e with q|⟨y,z,q1,q2⟩
  ·omega
  ·exact⟨y,z,jR q1,q2⟩
 refine⟨⟨h1.trans ev.os,h2.trans ev.tape,h3.trans ev.output,lG ev.size hsz,λb hb hn=>?_,ev.goes.trans hg,λb o hb tZ=>?_,ev.r7,λm y z b hm hb=>?_⟩,h.size,
  λm d hm=>(h.tmps m d hm).mono hg,h.defers.mono hg,?_,λr b hb hd=>(o4 b (h.boxes.lt b (jR (ev.goes.i r b hb))) (Pt b (jR (ev.goes.i r b hb)))).trans (h.fix r b hb hd),h.pins,hcs hg⟩
 ·rw[o4 b (kD hb ev.size) (λe=>hn (.inr (hrow b hb e)))];exact ev.old b hb hn
 ·rcases HW b o tZ with q|q
  ·exact ev.pE b o hb q
  ·rcases hblk b q with q'|q'
   ·have:=ev.size;omega
   simp_all
 ·rcases at' m y z hm with⟨rfl,-,rfl⟩|⟨-,q⟩
  ·rcases hblk b hb with q|q
   ·exact .inl (lG ev.size q)
   ·exact ev.iz m x hd b hj q
  ·exact ev.iz m y z b q hb
 refine⟨h.boxes.len,?_,λr b y hb hy=>?_,λb hb=>kD (h.boxes.lt b hb) hsz,h.boxes.nodup,λb o tZ=>?_,λm y z hm=>?_,λm m' y z y' z' b hm hm' hb hb'=>?_⟩
 ·rw[<-h.boxes.gs,aaZ]
 ·have hm:=jR hb;exact(h.boxes.box r b y hb hy).mono hg (o4 b (h.boxes.lt b hm) (Pt b hm))
 ·rcases HW b o tZ with q|q
  ·exact⟨kD (h.boxes.gN b o q).1 hsz,(h.boxes.gN b o q).2⟩
  ·obtain⟨n,xs,-,-,hq⟩:=hok;simp_all
 ·rcases at' m y z hm with⟨-,rfl,rfl⟩|⟨hne,q⟩
  ·exact hok
  ·obtain⟨n,xs,ho,hz,hq⟩:=h.boxes.grow m y z q;refine⟨n,xs,⟨ho.1,?_⟩,hz,λb hb=>?_⟩
   ·rcases ho.2 with q2|⟨g,cap,cur,q2,q3,q4,q5⟩
    ·exact .inl q2
    ·have wG:z.ownBlock=iN g:=by rw[q2];rfl
     refine .inr ⟨g,cap,cur,q2,q3,?_,q5⟩;rw[o4 g (hq g wG).1 (λe=>hne (h.boxes.apart m j y z x hd g q hj wG e))];exact q4
   ·obtain⟨p1,p2,p3⟩:=hq b hb;refine⟨kD p1 hsz,p2,λo ho' tZ=>?_⟩;rcases HW b o tZ with q'|q'
    ·exact p3 o ho' q'
    ·rcases hblk b q' with Pu|Pu
     ·omega
     ·exact hne (h.boxes.apart m j y z x hd b q hj hb Pu)
 ·have key:∀(m:Nat) y z,m≠j->G.g[m]? = iN (y,z)->z.ownBlock=iN b->hd'.ownBlock=iN b->False:=by
   intro m y z hne q hb hb';obtain⟨n,xs,-,-,hq⟩:=h.boxes.grow m y z q;rcases hblk b hb' with Pu|Pu
   ·grind
   ·exact hne (h.boxes.apart m j y z x hd b q hj hb Pu)
  rcases at' m y z hm with⟨e1,-,e2⟩|⟨hne,q⟩<;>rcases at' m' y' z' hm' with⟨e1',-,e2'⟩|⟨amC,q'⟩
  ·rw[e1,e1']
  ·grind
  ·grind
  ·exact h.boxes.apart m m' y z y' z' b q q' hb hb'
theorem Rel.B4(hr:Rel E w0 G0 st a w G)(hg:st.g[j]? = iN g):∃h,G.g[j]? = iN (g,h):=by rw[<-hr.boxes.gs]at hg;simp_all
theorem Rel.soft(hr:Rel E w0 G0 st a w G)(hg:st.g[j]? = iN g)(hc:pW st.c j=iN c):
  ∃h,G.g[j]? = iN (g,h)/\tU E w G g h c/\(∀v,VT E w G (.eF j g.aG) v->v=h):=by
 obtain⟨h,hh⟩:=hr.B4 hg;obtain⟨x,h',h1,h2⟩:=hr.gO j c (Uc hc);simp_all[VT]
theorem tU.block{x:cV}{h:T1}(hs:tU E w G x h c):(h=.slice iF 0 0/\c.2=[])\/∃(b cap:Nat)(cur:aK T1),h=.slice (iN ⟨b,0,iF⟩) c.2.length cap/\w.heap[b]? = iN (.cells cur x.e (0,0))/\c.2.length<=cap/\cap<=maxLen/\cur.size=cap*x.k /\
  Flat w G.pr x.k (cur.toList.take (c.2.length*x.k)) (c.2.map (c.1.cells E))/\∀o,¬ G.pr b o:=by
 obtain⟨h1,h2,⟨vals,ho,hf⟩,hp⟩:=hs;rcases ho.2 with⟨q1,q2⟩|⟨b,cap,cur,q1,q2,q3,q4,q5,q6,q7⟩
 ·simp_all
 ·refine .inr ⟨b,cap,cur,q1,q3,q4,q5,q6,?_,hp b (by rw[q1];rfl)⟩;rw[q7];exact hf
theorem Zt{e:Nat}(hk:k=T.size E)(hh:w.heap[b]? = iN (.cells cur e (0,0)))(hf:Flat w G.pr k (cur.toList.take (Ts xs*k)) (xs.map (T.cells E)))(hle:Ts xs*k<=cur.size)(hi:i<Ts xs):
  ∃vs:J T1,LD w G.pr vs (T.cells E (xs.getD i (T.dflt E)))/\vs.length=k/\vs=(cur.toList.drop (i*k)).take k/\∀(l:Nat) u,vs[l]? = iN u->w.cell? ⟨b,i*k+l,iF⟩=iN u:=by
 have hlen:(T.cells E (xs.getD i (T.dflt E))).length=k:=by have:=hf.2.1 i (by simpa using hi);simp_all
 have hik:i*k+k<=Ts xs*k:=by have:=Au k hi;grind
 have hvl:((cur.toList.drop (i*k)).take k).length=k:=by simp;omega
 refine⟨(cur.toList.drop (i*k)).take k,LD.X3 (by rw[hvl,hlen]) (λl hl=>?_),hvl,rfl,λl u hl=>?_⟩
 ·rw[hlen]at hl;have:=hf.2.2 i l (by simpa using hi) hl;grind
 grind[cell_of_row]
theorem tU.len{x:cV}{h:T1}(hs:tU E w G x h c){xs:J T1}(ho:w.ownsRow 0 x.e x.k h n xs):n=c.2.length:=by
 rcases hs.block with⟨h1,h2⟩|⟨b,cap,cur,h1,-⟩
 ·rcases ho.2 with⟨-,q⟩|⟨g,cap',cur',q1,-⟩
  ·rw[q,h2];rfl
  simp_all
 ·rcases ho.2 with⟨q,-⟩|⟨g,cap',cur',q1,-⟩
  ·rw[h1]at q;cases q
  simp_all
theorem Rel.arK(hr:Rel E w0 G0 st a w G)(hg:st.g[j]? = iN g)(hc:pW st.c j=iN c):
  ∃G',Rel E w0 G0 {st with c:=oO j st.c} a w G'/\jc w G w G'/\∀v,VT E w G (.eF j g.aG) v->VT E w G' (.dat (.bz c.1) c.2) v:=by
 obtain⟨h,hj,hs,hval⟩:=hr.soft hg hc;obtain⟨n0,xs0,Vb,Py,hb0⟩:=hr.boxes.grow j g h hj;have ev:=hr.fF
 let mO:Nat->Nat->Prop:=λb o=>G.pr b o\/(h.ownBlock=iN b/\o<c.2.length*g.k)
 have vw:jc w G w {G with pr:=mO}:=⟨λ_ _ h=>.inl h,λ_ _ _ _ h=>h,λ_ _ h=>h,λj x y hj=>⟨x,y,hj,eo _,λ_=>rfl⟩⟩;have hk:=hs.1;refine⟨{G with pr:=mO},⟨⟨ev.os,ev.tape,ev.output,ev.size,ev.old,ev.goes.trans vw,λb o hb hp=>?_,ev.r7,ev.iz⟩,hr.size,λj d hj=>(hr.tmps j d hj).mono vw,hr.defers.mono vw,?_,hr.fix,hr.pins,?_⟩,vw,λv hv=>?_⟩
 ·rcases hp with hp|⟨hp,-⟩
  ·exact ev.pE b o hb hp
  ·rcases ev.iz j g h b hj hp with q|⟨x0,h0,q1,q2⟩
   ·omega
   ·exact .inr ⟨x0,h0,jR q1,q2⟩
 ·refine⟨hr.boxes.len,hr.boxes.gs,λr b x hb hx=>(hr.boxes.box r b x hb hx).mono vw rfl,hr.boxes.lt,hr.boxes.nodup,λb o hp=>?_,λm x hd hm=>?_,hr.boxes.apart⟩
  ·rcases hp with hp|⟨hp,-⟩
   ·exact hr.boxes.gN b o hp
   simp_all
  ·obtain⟨n',xs',ho',hz',hb'⟩:=hr.boxes.grow m x hd hm;refine⟨n',xs',ho',hz',λb hbk=>⟨(hb' b hbk).1,(hb' b hbk).2.1,λo hno hp=>?_⟩⟩;rcases hp with hp|⟨hp,hlt⟩
   ·simp_all
   ·have hmj:=hr.boxes.apart m j x hd g h b hm hj hbk hp;subst hmj;rw[hj]at hm;cases hm;have:=hs.len ho';grind
 ·intro i c' hm;obtain⟨hm,hne⟩:=uD hm;obtain⟨x,hd,h1,h2⟩:=hr.gO i c' hm;refine⟨x,hd,h1,h2.keep rfl rfl vw.pr vw.cells λb hbk=>⟨rfl,λo hp=>?_⟩⟩;rcases hp with hp|⟨hp,-⟩
  ·exact hp
  ·exact(hne (hr.boxes.apart i j x hd g h b h1 hj hbk hp)).elim
 ·rw[hval v hv];rcases hs.block with⟨h1,h2⟩|⟨b,cap,cur,h1,hheap,hcap,hcm,hcs,hf,-⟩
  ·rw[h1,h2];exact .list (.v8 _ _)
  ·refine .list ?_;have hl:(c.2.map (c.1.cells E)).length=c.2.length:=by simp
   have:=Pw (b:=b) (by rw[hl];exact hcap) (λq hq=>?_) (hf.mono vw.pr vw.cells)
   ·simp_all
   ·rw[hl]at hq;refine⟨.inr ⟨by rw[h1];rfl,hq⟩,?_⟩;rw[cell_of_row w b q cur g.e (0,0) hheap];simp_all
theorem Flat.take{es:J (J DV)}(h:Flat w pr k L es)(hi:i<=Ts es):Flat w pr k (L.take (i*k)) (es.take i):=by
 have hik:i*k<=L.length:=by rw[h.1];exact Au k hi
 have hl:(es.take i).length=i:=by simp;omega
 refine⟨by simp_all,λj hj=>?_,λj l hj hl'=>?_⟩
 ·have:(es.take i).getD j []=es.getD j []:=by grind
  rw[this];exact h.2.1 j om
 ·have e1:(es.take i).getD j []=es.getD j []:=by grind
  have e2:(L.take (i*k)).getD (j*k+l) M2=L.getD (j*k+l) M2:=by have:=Pv hj hl';grind
  rw[e1,e2];exact h.2.2 j l om hl'
theorem Flat.drop{es:J (J DV)}(h:Flat w pr k L es)(hi:i<=Ts es):Flat w pr k (L.drop (i*k)) (es.drop i):=by
 have hl:(es.drop i).length=Ts es-i:=by simp
 have hgd:∀j,(es.drop i).getD j []=es.getD (i+j) []:=λj=>by simp_all
 refine⟨by rw[Kl,hl,h.1,Nat.sub_mul],λj hj=>?_,λj l hj hl'=>?_⟩
 ·rw[hgd];exact h.2.1 _ om
 ·rw[hgd];have e2:(L.drop (i*k)).getD (j*k+l) M2=L.getD ((i+j)*k+l) M2:=by grind
  rw[e2];exact h.2.2 (i+j) l om hl'
theorem Flat.single{us:J T1}{e:J DV}(h:LD w pr us e)(hk:Ts us=k):Flat w pr k us [e]:=by have hl:=h.length;have:=Flat.X4 (w:=w) (pr:=pr) (k:=k) (rows:=[us]) (es:=[e]) rfl (λj hj=>by simp_all) (λj hj=>by simp_all);simpa using this
theorem Flat.splice{es fs:J (J DV)}(h:Flat w pr k L es)(h':Flat w pr k news fs){p:Nat}(hp:p+Ts fs<=Ts es):
  Flat w pr k (L.take (p*k)++news++L.drop (p*k+news.length)) (es.take p++fs++es.drop (p+Ts fs)):=by
 have h1:=h.take (i:=p) om;have h2:=h.drop om;have e:p*k+news.length=(p+Ts fs)*k:=by rw[h'.1,Rg]
 rw[e];exact(h1.append h').append h2
theorem ae5(cur news:J T1){o:Nat}(h:o+news.length<=n)(hn:n<=cur.length):(cur.take o++news++cur.drop (o+news.length)).take n=(cur.take n).take o++news++(cur.take n).drop (o+news.length):=by
 have h1:(cur.take o++news).length=o+news.length:=by simp;omega
 rw[agS,uK (l:=cur.take o++news) om,h1,aa4,show min o n=o by omega,List.drop_take]
theorem ML{α:Type}{l:J α}{x:α}(h:l[j]? = iN x):l.set j x=l:=by grind[List.set_getElem_self]
theorem Rel.akk(hr:Rel E w0 G0 st a w G)(hg:st.g[j]? = iN g)(hc:pW st.c j=iN c){new:aK T1}(hj:G.g[j]? = iN (g,.slice (iN ⟨b,0,iF⟩) c.2.length cap))
  (hheap:w.heap[b]? = iN (.cells cur g.e (0,0))) (hsz:new.size=cur.size) {xs':J (c.1.den E.D)} (hl:xs'.length=c.2.length) (hf:Flat w G.pr g.k (new.toList.take (xs'.length*g.k)) (xs'.map (c.1.cells E))) :
  Rel E w0 G0 {st with c:=(j,⟨c.1,xs'⟩)::oO j st.c} a (w.setRow b new) G:=by
 obtain⟨h,hj',hs,-⟩:=hr.soft hg hc;rw[hj]at hj';cases hj';rcases hs.block with⟨h1,-⟩|⟨b',cap',cur',h1,HY,hcap,hcm,hcs,hf0,hnp⟩
 ·cases h1
 obtain⟨rfl,rfl⟩:=h1;rw[hheap]at HY;cases HY;obtain⟨n0,xs0,Vb,Py,hb0⟩:=hr.boxes.grow j g _ hj;have SQ:=hb0 b rfl;have hnew:(w.setRow b new).heap[b]? = iN (.cells new g.e (0,0)):=setRow_heap w b cur _ g.e _ hheap;have Fx:∀b',b'≠b->(w.setRow b new).heap[b']? = w.heap[b']?:=λb' hb'=>setRow_other w b b' _ hb';have hown:(w.setRow b new).ownsRow 0 g.e g.k (.slice (iN ⟨b,0,iF⟩) c.2.length cap) c.2.length (new.toList.take (c.2.length*g.k)):=by refine⟨?_,.inr ⟨b,cap,new,rfl,fq _,hnew,hcap,hcm,by rw[hsz];exact hcs,rfl⟩⟩;simp_all
 have nZ:=ML hj;have hcells:∀b' o v,G.pr b' o->w.cell? ⟨b',o,iF⟩=iN v->(w.setRow b new).cell? ⟨b',o,iF⟩=iN v:=λb' o v hp hv=>by
  have:b'≠b:=λe=>by subst e;exact hnp o hp
  rw[Rf (Fx b' this)];exact hv
 have key:=hr.setRow (cs:=(j,⟨c.1,xs'⟩)::oO j st.c) hj (eo _) (λ_=>rfl) (w':=w.setRow b new) si rfl rfl rfl
  (λb' _ hne=>Fx b' (λe=>hne (by rw[e];rfl))) hcells G.pr (λ_ _ h=>h) (λ_ _ h=>.inl h)
  ⟨c.2.length,_,hown,Py,λb' hb'=>by cases hb';simp_all⟩ (λ_ h=>.inr h) (λhg'=>?_)
 ·simp_all[ML]
 ·intro i c' hm;rcases hU.1 hm with e|hm
  ·cases e;refine⟨g,_,by rw[nZ];exact hj,hs.1,hs.2.1,⟨_,by rw[hl];exact hown,?_⟩,λb' hb' o hp=>by cases hb';exact hnp o hp⟩;rw[<-hl];exact hf.mono hg'.pr hg'.cells
  ·obtain⟨hm,hne⟩:=uD hm;obtain⟨x,hd,h1,h2⟩:=hr.gO i c' hm;refine⟨x,hd,by rw[nZ];exact h1,h2.keep rfl rfl hg'.pr hg'.cells λb' hb'=>⟨Fx b' (λe=>?_),λo hp=>hp⟩⟩;subst e;exact hne (hr.boxes.apart i j x hd g _ b' h1 hj hb' rfl)
def abn(P:bx)(st:TS E):Op->O (Bool×TV E)
 | .indexAddr t x ix=>match aY P t,st.ev ix with
  | some ⟨.slice e,_,_,_⟩,.dat (.int _) n=>match aY P e,st.ev x with
   | some i,.eF j aG=>match st.g[j]?,pW st.c j with
    | some g,iN c=>iN (eI g.aG aG&&(eI i.size (c.1.size E)&&(eK (0<=n)&&eK (n<(c.2.length:Int)))),.iZ j aG (c.1.size E) (eJ n) 0)|_,_=>iF
   | _,_=>iF
  | _,_=>iF
 | .fieldAddr s x f=>match aY P s,st.ev x with
  | some ⟨.struct fs,_,_,_⟩,.iZ j aG k i off=>match fs[f]? with
   | some fd=>match aY P fd.type,st.g[j]? with
    | some fi,iN g=>iN (!(eI fi.size 0)&&eI g.aG aG,.iZ j aG k i (off+fd.offset))|_,_=>iF
   | none=>iF
  | _,_=>iF
 | .nilCheck x=>match st.ev x with
  | .iZ j aG k i off=>match st.g[j]? with
   | some g=>iN (eI g.aG aG,.iZ j aG k i off)|none=>iF
  | _=>iF
 | .call c=>match c.callee,c.args.toList,c.argTypes.toList with
  | .builtin .len,[x],[t]=>match aY P t,st.ev x with
   | some ⟨.slice _,_,_,_⟩,.eF j aG=>match st.g[j]?,pW st.c j with
    | some g,iN c=>iN (eI g.aG aG,.dat (.int .i64) (c.2.length:Int))|_,_=>iF
   | _,_=>iF
  | _,_,_=>iF
 | _=>iF
theorem Rel.iZ(hr:Rel E w0 G0 st a w G)(hg:st.g[j]? = iN g)(hv:VT E w G (.iZ j g.aG k i off) v):∃b m cap,G.g[j]? = iN (g,.slice (iN ⟨b,0,iF⟩) m cap)/\i<m/\v=.pointer (iN ⟨b,i*k+off,iF⟩):=by obtain⟨h,hh⟩:=hr.B4 hg;grind[VT]
def X9{m:Nat}(hj:G.g[j]? = iN (g,.slice (iN ⟨b,0,iF⟩) m cap))(hi:i<m):VT E w G (.iZ j g.aG k i off) (.pointer (iN ⟨b,i*k+off,iF⟩)):=⟨g,_,hj,eo _,rfl,λ_=>⟨b,m,cap,rfl,hi,rfl⟩⟩
theorem ae6(hE:E.Ok)(hr:Rel E w0 G0 st a w G){d:TV E}{cc:Bool}(h:abn P st o.op=iN (cc,d))(hc:cc=hJ):jW P a w G o d:=by
 cases ho:o.op<;>rw[ho]at h<;>simp only[abn]at h<;>try trivial
 case indexAddr t x ix=>
  split at h<;>try trivial
  rename_i e j1 j2 z kd n ht hn;obtain⟨xt,kG,eG,-⟩:=aQ ht;obtain⟨n,hn0⟩:∃m:Int,m=n:=⟨n,rfl⟩;subst hn0;have EM:=hr.ev ix;rw[hn]at EM;have VC:=EM.gq;split at h<;>try trivial
  ·rename_i i j aG hi hx;obtain⟨xe,rW,BV,hsz,-⟩:=aQ hi;split at h<;>try trivial
   rename_i g c hg hcg;cases h;simp only[cK,fW]at hc;obtain⟨c1,c2,c3,c4⟩:=hc;have c1:=eY c1;have c3:(0:Int)<=n:=c3;have c4:n<(c.2.length:Int):=c4;subst c1;obtain⟨hh,hj,hs,hval⟩:=hr.soft hg hcg;have hv:=hr.ev x;rw[hx]at hv;have mQ:=hval _ hv;rcases hs.block with⟨h1,h2⟩|⟨b,cap,cur,h1,-⟩
   ·grind
   rw[h1]at hj mQ;refine gr (f:=λρ=>Instr.indexAt t (ρ x) (ρ ix)) (by simp[R0,ho]) ⟨_,X9 (i:=n.toNat) (off:=0) hj om,λw' hs=>?_⟩;rw[mQ,VC];unfold Instr.indexAt asIntOf;simp only[jJ,qj,kn,aW eG];simp_all[and_self,if_true,jJ,fK,kn,qj,add_lit,rX,OR]
 case fieldAddr s x f=>
  split at h<;>try trivial
  rename_i fs j1 j2 z j aG k i off ht hx;split at h<;>try trivial
  rename_i fd hf;split at h<;>try trivial
  rename_i fi g hi hg;cases h;simp only[cK,wR]at hc;obtain⟨c1,c2⟩:=hc;have c2:=eY c2;have hz:fi.size≠0:=λe=>by rw[e]at c1;cases c1
  subst c2;have hv:=hr.ev x;rw[hx]at hv;obtain⟨b,m,cap,hj,hlt,mQ⟩:=hr.iZ hg hv;obtain⟨xt,kG,eG,-⟩:=aQ ht;obtain⟨xf,hxf,-,hsf,-⟩:=aQ hi;refine gr (f:=λρ=>Instr.fieldAt s (ρ x) f) (by simp[R0,ho]) ⟨_,X9 (i:=i) (off:=off+fd.offset) hj hlt,λw' hs=>?_⟩;rw[mQ];unfold Instr.fieldAt Instr.sureAddr;simp only[jJ,qj,kn,aW eG,hf];simp[fieldPlace,fK hxf,hsf,hz,add_lit,OT]
 case nilCheck x=>
  split at h<;>try trivial
  rename_i j aG k i off hx;split at h<;>try trivial
  rename_i g hg;cases h;have c1:=eY hc;subst c1;have hv:=hr.ev x;rw[hx]at hv;obtain⟨b,m,cap,hj,hlt,mQ⟩:=hr.iZ hg hv;refine⟨a.eval x,hv,λw' _=>?_⟩;simp[R0,ho,mQ]
 case call c'=>
  split at h<;>try trivial
  rename_i x t hcl ha hat;have gX:c'.args=#[x]:=by grind
  have zo:c'.argTypes=#[t]:=by grind
  split at h<;>try trivial
  ·rename_i e j1 j2 z j aG ht hx;split at h<;>try trivial
   rename_i g c hg hcg;cases h;have c1:=eY hc;subst c1;obtain⟨hh,hj,hs,hval⟩:=hr.soft hg hcg;have hv:=hr.ev x;rw[hx]at hv;have mQ:=hval _ hv;have hlen:∃ad cap,hh=.slice ad c.2.length cap:=by
    rcases hs.block with⟨h1,h2⟩|⟨b,cap,cur,h1,-⟩
    ·simp_all
    ·exact⟨_,_,h1⟩
   obtain⟨ad,cap,hlen⟩:=hlen;obtain⟨xt,kG,eG,-⟩:=aQ ht;refine⟨_,.int _ _ _ _,λw' hs=>?_⟩;unfold R0;simp only[ho,resolve,hcl,jJ,qj,kn,invoke,builtin,gX,zo,List.map_toArray,jI,Km];rw[mQ,hlen];simp[Builtin.len_,aW eG,goInt]
def VW(P:bx)(ty:aL->O Ty)(st:TS E)(o:Op):O (Bool×TV E):=match VU P ty st o with|some x=>iN x|none=>abn P st o
theorem acJ(hE:E.Ok)(hr:Rel E w0 G0 st a w G){d:TV E}{c:Bool}(h:VW P ty st o.op=iN (c,d))(hc:c=hJ):jW P a w G o d:=by grind[VW,acC,ae6]
def ah2(T:Ty)(k:TypeDesc)(d:TV E):O (J (T.den E.D)):=
 match k,d with
 | .string,.dat .str l=>if h:T=.int .u8 then iN (h▸cY l)else iF
 | .slice _,d=>d.get (.bz T)|_,_=>iF
def Zu(P:bx)(src dst t':aL)(n off:Nat):Bool:=
 match P.underlying src,P.underlying dst with
 | some (.pointer t),iN .unsafePointer=>match aY P t with
  | some i=>!(eI i.size 0)&&dE off n|none=>eQ
 | some .unsafePointer,iN (.pointer t)=>match aY P t with
  | some _=>liesAt P P.depth t' (n / P.cellsOf t') off t 1|none=>eQ
 | _,_=>eQ
def arL(P:bx)(e:aL):Bool:=match aY P e with|some ⟨.int .u8,_,_,_⟩=>hJ|_=>eQ
def ah3(P:bx)(ty:aL->O Ty)(st:TS E)(dst:O Nat)(c:Call):O (Bool×TS E):=
 match c.callee,c.args.toList,c.argTypes.toList with
 | .builtin .append,[x,y],[t,tx]=>match aY P t,aY P tx with
  | some ⟨.slice e,_,_,_⟩,iN ix=>match aY P e,ty e with
   | some ie,iN T=>match ah2 T ix.kind (st.ev y)with
    | some ys=>match st.ev x with
     | .cH j aG T' xs=>match st.g[j]? with
      | some g=>if hT:T'=T then
        iN (!(Po st.c j)&&(eI g.aG aG&&(eI g.e e&&(eI g.k ie.size&&(eI ie.size (T.size E)&&(dE 0 ie.size&&(eI ie.zero.cells.size ie.size &&
          (eK (Ts xs+Ts ys<=9223372036854775807)&&eK ((Ts xs+Ts ys)*ie.bytes<=140737488355328)))))))),
         {st with t:=cG st.t dst (.cH j (g.aG+1) T ((hT▸xs:J (T.den E.D))++ys)),g:=st.g.set j {g with aG:=g.aG+1}})
       else iF
      | none=>iF
     | .val (.slice iF 0 0)=>iN (eI ie.size (T.size E)&&(dE 0 ie.size&&(eI ie.zero.cells.size ie.size&&(eK (Ts ys<=9223372036854775807)&&eK (Ts ys*ie.bytes<=140737488355328)))),
       {st with t:=cG st.t dst (.cH st.g.length 1 T ys),g:=st.g++[⟨1,e,ie.size⟩]})
     | _=>iF
    | none=>iF
   | _,_=>iF
  | _,_=>iF
 | .builtin .unsafeString,[x,y],[pt,it]=>match aY P pt,st.ev x,st.ev y with
  | some ⟨.pointer e,_,_,_⟩,.Ta j aG xs,.dat (.int .i64) n=>match st.g[j]? with
   | some g=>iN (!(Po st.c j)&&(eI (P.cellsOf e) 1&&(eI g.aG aG&&(eI g.e e&&(eI g.k 1&&(eK (n=(Ts xs:Int))&&(Lg xs&&eK (Ts xs<=9223372036854775807))))))),
     {st with t:=cG st.t dst (.dat .str (cx xs)),g:=st.g.set j {g with aG:=g.aG+1}})
   | none=>iF
  | _,_,_=>iF
 | _,_,_=>iF
def VX(P:bx)(ty:aL->O Ty)(st:TS E)(dst:O Nat):Op->O (Bool×TS E)
 | .alloc t=>match aY P t with
  | some i=>iN (i.zero.cells.toList.all (·.oneCell'),{st with t:=cG st.t dst (.ptr st.H.length 0),H:=st.H++[.cells t (i.zero.cells.toList.map TV.Ll)]})
  | none=>iF
 | .box t x=>match (st.ev x).qd with
  | some cs=>iN (hJ,{st with t:=cG st.t dst (.ptr st.H.length 0),H:=st.H++[.cells t cs]})
  | none=>iF
 | .store t x y=>match aY P t,st.ev x,(st.ev y).qd with
  | some i,.ptr r off,iN ds=>match st.H[r]? with
   | some (.cells t' cs)=>iN (eI ds.length i.size&&iO (off+i.size) cs.length,{st with t:=cG st.t dst .any,H:=st.H.set r (.cells t' (cs.take off++ds++cs.drop (off+Ts ds))),d:=r::st.d})
   | _=>iF
  | _,_,_=>iF
 | .buildSlice t len parts=>match aY P t with
  | some ⟨.slice e,_,_,_⟩=>match aY P e,ty e with
   | some ie,iN T=>match pF T (parts.toList.map λp=>st.ev p.2)with
    | some xs=>cond (eI len 0)
      (cond (E.zc e) (iN (parts.toList.isEmpty&&eI ie.size (T.size E),{st with t:=cG st.t dst (.cH st.g.length 0 T []),g:=st.g++[⟨0,e,ie.size⟩]}))
       (iN (parts.toList.isEmpty,{st with t:=cG st.t dst (.dat (.bz T) [])})))
      (iN (eK (parts.toList.map (·.1)=bY len)&&(iO (len*ie.size) 16777216&&(dE 0 ie.size&&eI ie.size (T.size E))),
       {st with t:=cG st.t dst (.cH st.g.length 0 T xs),g:=st.g++[⟨0,e,ie.size⟩]}))
    | none=>iF
   | _,_=>iF
  | _=>iF
 | .call c=>ah3 P ty st dst c|.convert src dt x=>match st.ev x with
  | .ptr r off=>match st.H[r]? with
   | some (.cells t' cs)=>iN (Zu P src dt t' cs.length off,{st with t:=cG st.t dst (.ptr r off)})
   | _=>iF
  | d=>match d.Lm,aY P src,aY P dt with
   | some ⟨.int .u8,xs⟩,iN ⟨.slice e,_,_,_⟩,iN ⟨.string,_,_,_⟩=>iN (arL P e,{st with t:=cG st.t dst (.dat .str (cx xs))})
   | _,_,_=>iF
 | .makeMap t iF=>match aY P t with
  | some ⟨.map k e,_,_,_⟩=>match ty k,ty e with
   | some kt,iN vt=>iN (hJ,{st with t:=cG st.t dst (.jS st.H.length),H:=st.H++[.map kt vt []]})
   | _,_=>iF
  | _=>iF
 | .mapUpdate t x y z=>match aY P t,st.ev x with
  | some ⟨.map k e,_,_,_⟩,.jS r=>match st.H[r]?,aY P k with
   | some (.map kt vt m),iN ik=>match (st.ev y).get kt,(st.ev z).get vt with
    | some kk,iN vv=>iN (X7 E P k kt ik.kind,{st with t:=cG st.t dst .any,H:=st.H.set r (.map kt vt (jM (kt.dc E) m kk vv)),d:=r::st.d})
    | _,_=>iF
   | _,_=>iF
  | _,_=>iF
 | .lookup t x y ok=>match aY P t,st.ev x with
  | some ⟨.map k e,_,_,_⟩,.jS r=>match st.H[r]?,aY P k,aY P e with
   | some (.map kt vt m),iN ik,iN ie=>match (st.ev y).get kt,(zJ E (iN vt) ie.zero).get vt with
    | some kk,iN z=>iN (X7 E P k kt ik.kind&&ie.zero.cells.toList.all (·.oneCell'),
      {st with t:=cG st.t dst (cond ok (.tuple [.dat vt (fX (kt.dc E) m kk z),.dat .bool (Fy (kt.dc E) m kk)]) (.dat vt (fX (kt.dc E) m kk z)))})
    | _,_=>iF
   | _,_,_=>iF
  | _,_=>iF
 | _=>iF
theorem Ya(hr:Rel E w0 G0 st a w G)(htx:aY P tx=iN ix)(hk0:0<T.size E)(h:ah2 T ix.kind (st.ev y)=iN ys):
  ∃news,Src P (T.size E) tx (a.eval y) ys.length news w/\Flat w G.pr (T.size E) news (ys.map (T.cells E)):=by
 unfold ah2 at h;split at h
 ·split at h
  ·rename_i hT;subst hT;grind[ahY,cY,Ty.size]
  ·cases h
 ·rename_i e' hk;have hv:=TV.vA h (hr.ev y);exact amG hr htx hk hk0 (hv.atom rfl).uC
 ·cases h
theorem Ug(hr:Rel E w0 G0 st a w G){t:aL}(ho:o.op=.buildSlice t 0 parts)(ht:aY P t=iN ⟨.slice e,j1,j2,z⟩)(hi:aY P e=iN ie)(hp:parts.toList=[])(T:Ty):
  kE P w0 G0 a w o {st with t:=cG st.t o.dst (.dat (.bz T) [])}:=by
 obtain⟨xt,kG,eG,-⟩:=aQ ht;obtain⟨xe,rW,BV,hsz,-⟩:=aQ hi;have hp':parts=#[]:=by simp_all
 have hG:=hr.grow (fG.alloc w (.cells #[] e)) rfl rfl rfl G.pr (λ_ _ h=>h) (λ_ _ _ h=>h) (λb o hp=>kD (hr.boxes.gN b o hp).1 si);refine⟨.value (.slice (iN ⟨w.heap.size,0,iF⟩) 0 0),_,w.alloc (.cells #[] e),_,?_,.inl rfl,hG.put (.list (.v8 _ _)) o.dst⟩;simp[R0,ho,Instr.buildSlice,aW eG,fK rW,hp'];simp[newRow,Instr.fill];grind
theorem Uh(hr:Rel E w0 G0 st a w G){t:aL}(ho:o.op=.buildSlice t 0 parts)(ht:aY P t=iN ⟨.slice e,j1,j2,z⟩)(hi:aY P e=iN ie)(hp:parts.toList=[])(hz:E.zc e=hJ)(T:Ty)(hk:ie.size=T.size E):
  kE P w0 G0 a w o {st with t:=cG st.t o.dst (.cH st.g.length 0 T []),g:=st.g++[⟨0,e,ie.size⟩]}:=by
 obtain⟨xt,kG,eG,-⟩:=aQ ht;obtain⟨xe,rW,BV,hsz,-⟩:=aQ hi;have hp':parts=#[]:=by simp_all
 have hG:=hr.apE (k:=ie.size) hz;refine⟨.value (.slice (iN ⟨w.heap.size,0,iF⟩) 0 0),_,w.alloc (.cells #[] e),_,?_,.inl rfl,hG.put ?_ o.dst⟩
 ·simp[R0,ho,Instr.buildSlice,aW eG,fK rW,hp'];simp[newRow,Instr.fill];grind
 ·exact⟨.v8 _ _,⟨0,e,ie.size⟩,.slice (iN ⟨w.heap.size,0,iF⟩) 0 0,by rw[<-hr.qZ];simp,eo _,λ_=>rfl⟩
theorem ae7(hE:E.Ok)(hr:Rel E w0 G0 st a w G){st':TS E}{c:Bool}(h:VX P ty st o.dst o.op=iN (c,st'))(hc:c=hJ):kE P w0 G0 a w o st':=by
 cases ho:o.op<;>rw[ho]at h<;>simp only[VX]at h<;>try trivial
 case alloc t=>grind[ahX]
 case box t x=>grind[amF]
 case store t x y=>grind[ahV,Nat.eq_of_beq_eq_true,Nat.le_of_ble_eq_true]
 case buildSlice t len parts=>
  split at h<;>try trivial
  rename_i e j1 j2 z ht;split at h<;>try trivial
  rename_i ie T hi hT;split at h<;>try trivial
  rename_i xs hx;cases hl:eI len 0<;>rw[hl]at h<;>simp only[aU,aJ]at h
  ·cases h;simp only[cK,fW]at hc;have h0:len≠0:=λe=>by subst e;cases hl
   exact VR hE hr ho ht hi hc.1 (lY hc.2.1) (lY hc.2.2.1) om (eY hc.2.2.2) hx
  ·obtain rfl:=eY hl;cases hz:E.zc e<;>rw[hz]at h<;>simp at h<;>cases h
   ·grind[Ug]
   grind[Uh,Nat.eq_of_beq_eq_true]
 case convert src dt x=>
  split at h
  ·rename_i r off hd;split at h<;>try trivial
   rename_i t' cs hb;cases h;refine acD hr ho hd hb ?_;unfold Zu at hc;split at hc<;>try trivial
   ·rename_i t hs hdt;split at hc<;>try trivial
    rename_i i hi;simp only[cK,wR]at hc;exact .inl ⟨t,i,hs,hdt,hi,λe=>(by simp_all),lY hc.2⟩
   grind
  grind[arL,PD,TV.Jy]
 case makeMap t res=>grind[acI]
 case mapUpdate t x y z=>grind[X8]
 case lookup t x y ok=>grind[ae4]
 case call c'=>
  unfold ah3 at h;split at h<;>try trivial
  ·split at h<;>try trivial
   split at h<;>try trivial
   split at h<;>try trivial
   split at h<;>try trivial
   ·split at h<;>try trivial
    split at h<;>try trivial
    cases h;simp only[cK,fW]at hc;obtain⟨c0,c1,c2,c3,c4,c5,c6,c7,c8⟩:=hc;have c0:=MF (by simpa using c0);have c5:=lY c5;grind[Ya,ae0,Nat.eq_of_beq_eq_true]
   ·cases h;simp only[cK,fW]at hc;obtain⟨c4,c5,c6,c7,c8⟩:=hc;have c5:=lY c5;grind[Ya,X6,Nat.eq_of_beq_eq_true]
  ·rename_i x y pt it hcl ha hat;split at h<;>try trivial
   rename_i e j1 j2 z j aG xs n hp hx hy;split at h<;>try trivial
   rename_i g hg;cases h;simp only[cK,fW]at hc;obtain⟨c0,c1,c2,c3,c4,c5,c6,c7⟩:=hc;have c0:=MF (by simpa using c0);exact St (j3:=0) (j4:=0) (z2:=M2) hr ho hcl ha hat hp (eY c1) hx hg c0 (eY c2) (eY c3) (eY c4) hy c5 c6 c7
