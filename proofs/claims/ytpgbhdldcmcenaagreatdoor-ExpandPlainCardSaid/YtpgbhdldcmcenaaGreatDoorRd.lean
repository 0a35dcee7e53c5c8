import Derived.Test.YtpgbhdldcmcenaaGreatDoorAl
set_option linter.all false
namespace Go.RT
inductive Ty where
 | int (k:IntKind)|bool|str|bn (t:Ty)|unit|pair (a b:Ty)|ext (i:Nat)
 deriving DecidableEq,Inhabited
@[reducible] def Ty.den (D : Nat -> Type) : Ty -> Type
 | .int _=>Int
 | .bool=>Bool
 | .str=>J UInt8
 | .bn t=>J (t.den D)
 | .unit=>Unit
 | .pair a b=>a.den D×b.den D
 | .ext i=>D i
inductive DV where
 | int (k:IntKind) (n:Int)
 | bool (b:Bool)
 | str (l:List UInt8)
 | slice (k:Nat) (es:List (List DV))
 deriving Inhabited
structure YD where
 params:Array Tmp
 assign:Code
 body:Code
structure TEnv where
 D:Nat->Type
 df:Nat->Ty
 size:Nat->Nat
 enc:(i:Nat)->D i->List DV
 AE:(i:Nat)->D i->(df i).den D
 fold:(i:Nat)->(df i).den D->D i
 inh:(i:Nat)->D i
 gb:Nat->Option (Array Value->Prop)
 yd:Nat->YD->Prop
 ydn:Nat->Option Nat
 zc:TypeId->Bool
variable (E : TEnv)
def Ty.size:Ty->Nat
 | .int _=>1
 | .bool=>1
 | .str=>1
 | .bn _=>1
 | .unit=>0
 | .pair a b=>a.size+b.size
 | .ext i=>E.size i
def Ty.dflt:(t:Ty)->t.den E.D
 | .int _=>(0:Int)
 | .bool=>false
 | .str=>[]
 | .bn _=>[]
 | .unit=>()
 | .pair a b=>(a.dflt,b.dflt)
 | .ext i=>E.inh i
def Ty.isAgg:Ty->Bool
 | .unit=>true
 | .pair _ _=>true
 | .ext _=>true
 | _=>false
def Ty.cells:(t:Ty)->t.den E.D->J DV
 | .int k,n=>[.int k n]
 | .bool,b=>[.bool b]
 | .str,l=>[.str l]
 | .bn t,xs=>[.slice (t.size E) (xs.map (t.cells))]
 | .unit,_=>[]
 | .pair a b,x=>a.cells x.1++b.cells x.2
 | .ext i,x=>E.enc i x
structure TEnv.Ok:Prop where
 enc:∀i x,E.enc i x=(E.df i).cells E (E.AE i x)
 fold:∀i y,E.AE i (E.fold i y)=y
 size:∀i,E.size i=(E.df i).size E
 len:∀i x,(E.enc i x).length=E.size i
 ydn:∀y Y n,E.yd y Y->E.ydn y=some n->Y.params.size=n
theorem Ty.AF(hE:E.Ok):∀(t:Ty)(x:t.den E.D),(t.cells E x).length=t.size E:=by
 intro t
 induction t with
 | int k=>intro x;rfl
 | bool=>intro x;rfl
 | str=>intro x;rfl
 | bn t _=>intro x;rfl
 | unit=>intro x;rfl
 | pair a b EA EB=>simp_all [Ty.cells,Ty.size]
 | ext i=>intro x;exact hE.len i x
def mkStr(l:J UInt8):Value:=.string ⟨⟨l⟩⟩
inductive VD(w:World)(pr:Nat->Nat->Prop):Value->DV->Prop
 | int (k:IntKind) (n:Int):VD w pr (.int k n) (.int k n)
 | bool (b:Bool):VD w pr (.bool b) (.bool b)
 | str (l:List UInt8):VD w pr (mkStr l) (.str l)
 | va (a:Option Addr) (k:Nat):VD w pr (.slice a 0 0) (.slice k [])
 | slice (b off cap k:Nat) (es:List (List DV)) (c:Nat->Nat->Value) (hc:es.length<=cap)
   (hk:∀j,j<es.length->(es.getD j []).length=k)
   (h0:∀j l,j<es.length->l<k->pr b (off+j*k+l)/\w.cell? ⟨b,off+j*k+l,none⟩=some (c j l))
   (h:∀j l,j<es.length->l<k->VD w pr (c j l) ((es.getD j []).getD l default)) :
   VD w pr (.slice (some ⟨b,off,none⟩) es.length cap) (.slice k es)
variable{w:U}{pr:Nat -> Nat -> Prop}{lH:Nat->Nat->Prop}
theorem VD.mono{w':U}(hp:∀b o,pr b o->lH b o)
  (hc:∀b o v,pr b o->w.cell? ⟨b,o,none⟩=some v->w'.cell? ⟨b,o,none⟩=some v)
  {v:Value} {d:DV} (h:VD w pr v d):VD w' lH v d:=by
 induction h with
 | int k n=>exact .int k n
 | bool b=>exact .bool b
 | str l=>exact .str l
 | va a k=>exact .va a k
 | slice b off cap k es c hcap hk h0 h ih=>
  exact .slice b off cap k es c hcap hk (fun j l hj hl=>⟨hp _ _ (h0 j l hj hl).1,hc _ _ _ (h0 j l hj hl).1 (h0 j l hj hl).2⟩) ih
variable{v:Value}
theorem VD.one{d:DV}(h:VD w pr v d):v.oneCell'=true:=by
 cases h<;>rfl
def LD(w:U)(pr:Nat->Nat->Prop):J Value->J DV->Prop
 | [],[]=>True
 | v::vs,d::ds=>VD w pr v d/\LD w pr vs ds
 | _,_=>False
def Flat(w:U)(pr:Nat->Nat->Prop)(k:Nat)(xs:J Value)(es:J (J DV)):Prop:=
 xs.length=es.length*k/\(∀j,j<es.length->(es.getD j []).length=k) /\
 ∀j l,j<es.length->l<k->VD w pr (xs.getD (j*k+l) undef) ((es.getD j []).getD l default)
theorem Flat.mono{w':U}{k:Nat}{xs:J Value}{es:J (J DV)}(h:Flat w pr k xs es)(hp:∀b o,pr b o->lH b o)
  (hc:∀b o v,pr b o->w.cell? ⟨b,o,none⟩=some v->w'.cell? ⟨b,o,none⟩=some v):Flat w' lH k xs es:=
 ⟨h.1,h.2.1,fun j l hj hl=>(h.2.2 j l hj hl).mono hp hc⟩
inductive TV where
 | any
 | dat (t:Ty) (x:t.den E.D)
 | sH (t:Ty) (x:t.den E.D) (off:Nat)
 | ptr (r off:Nat)
 | p9 (b:Bool) (r off:Nat)
 | jq (r:Nat)
 | ux (r:Nat)
 | iq (r n cap:Nat)
 | cA (j aF:Nat) (t:Ty) (xs:List (t.den E.D))
 | QO (j aF:Nat) (l:List Int)
 | eu (j aF:Nat)
 | ir (j aF k i off:Nat)
 | tU (t:Ty) (xs:List (t.den E.D))
 | func (fn:Fn) (caps:List TV)
 | Gt (fn:Fn) (firsts:List TV)
 | iface (ty:TypeId) (v:TV)
 | agg (cs:List TV)
 | tuple (vs:List TV)
 | val (v:Value)
instance:Inhabited (TV E):=⟨.any⟩
inductive fM where
 | cells (ty:TypeId) (cs:List (TV E))
 | iter (s:List UInt8) (pos:Nat)
 | map (kt vt:Ty) (m:List (kt.den E.D×vt.den E.D))
 | loop (y:Nat) (ds:List (TV E))
 | gone
 | QS
 | lC (e:TypeId) (cap:Nat) (t:Ty) (xs:List (t.den E.D)) (d:TV E)
instance:Inhabited (fM E):=⟨.iter [] 0⟩
structure cH where
 aF:Nat
 e:TypeId
 k:Nat
 deriving DecidableEq,Inhabited
abbrev Cn(E:TEnv):=(t:Ty)×J (t.den E.D)
structure TS where
 t:List (TV E)
 H:List (fM E)
 g:List cH
 d:List Nat
 df:List (FuncId×List (TV E))
 c:List (Nat×Cn E)
structure bq where
 i:List Nat
 g:List (cH×Value)
 pr:Nat->Nat->Prop
mutual
def VT(w:U)(G:bq):TV E->Value->Prop
 | .any,_=>True
 | .dat t x,v=>match t.isAgg with
  | true=>∃vs:aG Value,v=.agg vs/\LD w G.pr vs.toList (t.cells E x)
  | false=>LD w G.pr [v] (t.cells E x)
 | .sH t x off,v=>∃(b o:Nat)(c:J Value),v=.pointer (some ⟨b,o+off,none⟩)/\LD w G.pr c (t.cells E x) /\
   ∀l u,c[l]? = some u->G.pr b (o+l)/\w.cell? ⟨b,o+l,none⟩=some u
 | .ptr r off,v=>∃b,v=.pointer (some ⟨b,off,none⟩)/\G.i[r]? = some b
 | .p9 c r off,v=>match c with
  | true=>∃b,v=.pointer (some ⟨b,off,none⟩)/\G.i[r]? = some b
  | false=>v=.pointer none
 | .jq r,v=>∃b,v=.map (some b)/\G.i[r]? = some b
 | .ux r,v=>∃b,v=.func (.yield b) #[] #[]/\G.i[r]? = some b
 | .iq r n cap,v=>∃b,v=.slice (some ⟨b,0,none⟩) n cap/\G.i[r]? = some b
 | .cA j aF t xs,v=>VD w G.pr v (.slice (t.size E) (xs.map (t.cells E)))/\∃x h,G.g[j]? = some (x,h)/\aF<=x.aF/\(aF=x.aF->v=h)
 | .QO j aF l,v=>∃x h u,G.g[j]? = some (x,h)/\aF<=x.aF/\VD w G.pr u (.slice 1 (l.map fun n=>[.int .u8 n]))/\(aF=x.aF->u=h/\((h=.slice none 0 0/\l=[]/\v=.pointer none)\/∃b cap,h=.slice (some ⟨b,0,none⟩) l.length cap/\v=.pointer (some ⟨b,0,none⟩)))
 | .eu j aF,v=>∃x h,G.g[j]? = some (x,h)/\aF<=x.aF/\v.oneCell'=true/\(aF=x.aF->v=h)
 | .ir j aF k i off,v=>∃x h,G.g[j]? = some (x,h)/\aF<=x.aF/\v.oneCell'=true/\(aF=x.aF->∃b m cap,h=.slice (some ⟨b,0,none⟩) m cap/\i<m/\v=.pointer (some ⟨b,i*k+off,none⟩))
 | .tU t xs,v=>∃vs:aG Value,v=.agg vs/\(∀u,u∈vs->u.oneCell'=true)/\Flat w G.pr (t.size E) vs.toList (xs.map (t.cells E))
 | .func fn caps,v=>∃vs:aG Value,v=.func fn #[] vs/\bI w G caps vs.toList
 | .Gt fn firsts,v=>∃vs:aG Value,v=.func fn vs #[]/\bI w G firsts vs.toList
 | .iface ty d,v=>∃u,v=.iface ty u/\VT w G d u
 | .agg cs,v=>∃vs:aG Value,v=.agg vs/\(∀u,u∈vs->u.oneCell'=true)/\bI w G cs vs.toList
 | .tuple ds,v=>∃vs:aG Value,v=.tuple vs/\bI w G ds vs.toList
 | .val u,v=>v=u
def bI(w:U)(G:bq):J (TV E)->J Value->Prop
 | [],vs=>vs=[]
 | d::ds,vs=>∃u us,vs=u::us/\VT w G d u/\bI w G ds us
end
section
variable {E : TEnv} {w w' : U} {G G' : bq}
theorem LD.mono{pr lH:Nat->Nat->Prop}(hp:∀b o,pr b o->lH b o)
  (hc:∀b o v,pr b o->w.cell? ⟨b,o,none⟩=some v->w'.cell? ⟨b,o,none⟩=some v) :
  ∀ {vs:J Value}{ds:J DV},LD w pr vs ds->LD w' lH vs ds
 | [],[],_=>trivial
 | _::_,_::_,h=>⟨h.1.mono hp hc,LD.mono hp hc h.2⟩
 | [],_::_,h=>h.elim
 | _::_,[],h=>h.elim
structure iB(w:World)(G:bq)(w':World)(G':bq):Prop where
 pr:∀b o,G.pr b o->G'.pr b o
 cells:∀b o v,G.pr b o->w.cell? ⟨b,o,none⟩=some v->w'.cell? ⟨b,o,none⟩=some v
 i:∀(r b:Nat),G.i[r]? = some b->G'.i[r]? = some b
 g:∀(j:Nat) x h,G.g[j]? = some (x,h)->∃x' h',G'.g[j]? = some (x',h')/\x.aF<=x'.aF/\(x.aF=x'.aF->h'=h)
mutual
theorem VT.mono(hg:iB w G w' G'):∀ {d:TV E}{v:Value},VT E w G d v->VT E w' G' d v
 | .any,_,_=>by simp only [VT]
 | .dat t x,v,h=>by
  simp only [VT] at h⊢;cases ha:t.isAgg<;>rw [ha] at h<;>dsimp only at h⊢
  rotate_left
  ·obtain⟨vs,rfl,h⟩:=h
   exact⟨vs,rfl,h.mono hg.pr hg.cells⟩
  ·exact h.mono hg.pr hg.cells
 | .sH t x off,v,h=>by
  simp only [VT] at h⊢;obtain⟨b,o,c,rfl,h1,h2⟩:=h
  exact⟨b,o,c,rfl,h1.mono hg.pr hg.cells,fun l u hl=>⟨hg.pr _ _ (h2 l u hl).1,hg.cells _ _ _ (h2 l u hl).1 (h2 l u hl).2⟩⟩
 | .ptr r off,v,h=>by
  simp only [VT] at h⊢;obtain⟨b,rfl,h⟩:=h
  exact⟨b,rfl,hg.i r b h⟩
 | .jq r,v,h=>by
  simp only [VT] at h⊢;obtain⟨b,rfl,h⟩:=h
  exact⟨b,rfl,hg.i r b h⟩
 | .ux r,v,h=>by
  simp only [VT] at h⊢;obtain⟨b,rfl,h⟩:=h
  exact⟨b,rfl,hg.i r b h⟩
 | .iq r n cap,v,h=>by
  simp only [VT] at h⊢;obtain⟨b,rfl,h⟩:=h
  exact⟨b,rfl,hg.i r b h⟩
 | .p9 c r off,v,h=>by
  cases c<;>simp only [VT] at h⊢
  ·exact h
  ·obtain⟨b,rfl,h⟩:=h
   exact⟨b,rfl,hg.i r b h⟩
 | .cA j aF t xs,v,h=>by
  simp only [VT] at h⊢;obtain⟨h1,x,g,lz,hle,heq⟩:=h;obtain⟨x',g',hg',hle',heq'⟩:=hg.g j x g lz
  exact⟨h1.mono hg.pr hg.cells,x',g',hg',oD hle hle',fun e=>by
   have e1:aF=x.aF:=YA hle (e▸hle')
   rw [heq e1,heq' (e1.symm.trans e)]⟩
 | .QO j aF l,v,h=>by
  simp only [VT] at h⊢;obtain⟨x,g,u,lz,hle,AG,heq⟩:=h;obtain⟨x',g',hg',hle',heq'⟩:=hg.g j x g lz;refine⟨x',g',u,hg',oD hle hle',AG.mono hg.pr hg.cells,fun e=>?_⟩;have e1:aF=x.aF:=YA hle (e▸hle');rw [heq' (e1.symm.trans e)]
  exact heq e1
 | .eu j aF,v,h=>by
  simp only [VT] at h⊢;obtain⟨x,g,lz,hle,h1,heq⟩:=h;obtain⟨x',g',hg',hle',heq'⟩:=hg.g j x g lz
  exact⟨x',g',hg',oD hle hle',h1,fun e=>by
   have e1:aF=x.aF:=YA hle (e▸hle')
   rw [heq e1,heq' (e1.symm.trans e)]⟩
 | .ir j aF k i off,v,h=>by
  simp only [VT] at h⊢;obtain⟨x,g,lz,hle,h1,heq⟩:=h;obtain⟨x',g',hg',hle',heq'⟩:=hg.g j x g lz;refine⟨x',g',hg',oD hle hle',h1,fun e=>?_⟩;have e1:aF=x.aF:=YA hle (e▸hle');rw [heq' (e1.symm.trans e)]
  exact heq e1
 | .tU t xs,v,h=>by
  simp only [VT] at h⊢;obtain⟨vs,rfl,h1,h⟩:=h
  exact⟨vs,rfl,h1,h.mono hg.pr hg.cells⟩
 | .func fn caps,v,h=>by
  simp only [VT] at h⊢;obtain⟨vs,rfl,h⟩:=h
  exact⟨vs,rfl,bI.mono hg h⟩
 | .Gt fn firsts,v,h=>by
  simp only [VT] at h⊢;obtain⟨vs,rfl,h⟩:=h
  exact⟨vs,rfl,bI.mono hg h⟩
 | .iface ty d,v,h=>by
  simp only [VT] at h⊢;obtain⟨u,rfl,h⟩:=h
  exact⟨u,rfl,VT.mono hg h⟩
 | .agg cs,v,h=>by
  simp only [VT] at h⊢;obtain⟨vs,rfl,h1,h⟩:=h
  exact⟨vs,rfl,h1,bI.mono hg h⟩
 | .tuple ds,v,h=>by
  simp only [VT] at h⊢;obtain⟨vs,rfl,h⟩:=h
  exact⟨vs,rfl,bI.mono hg h⟩
 | .val u,v,h=>by simpa only [VT] using h
theorem bI.mono(hg:iB w G w' G'):∀ {ds:J (TV E)}{vs:J Value},bI E w G ds vs->bI E w' G' ds vs
 | [],_,h=>by simpa only [bI] using h
 | d::ds,vs,h=>by
  simp only [bI] at h⊢;obtain⟨u,us,rfl,h1,h2⟩:=h;exact⟨u,us,rfl,VT.mono hg h1,bI.mono hg h2⟩
end
end
def gj(w:U)(G:bq)(kt vt:Ty):J MapEntry->J (kt.den E.D×vt.den E.D)->Prop
 | [],[]=>True
 | e::es,p::ps=>VT E w G (.dat kt p.1) e.key/\VT E w G (.dat vt p.2) e.val/\gj w G kt vt es ps
 | _,_=>False
def jS(w:U)(G:bq)(b:Nat):fM E->Prop
 | .cells ty cs=>∃vs:aG Value,w.heap[b]? = some (.cells vs ty (0,0))/\(∀u,u∈vs->u.oneCell'=true)/\bI E w G cs vs.toList
 | .iter s pos=>w.heap[b]? = some (.stringIter ⟨⟨s⟩⟩ pos)
 | .map kt vt m=>∃(es:aG MapEntry)(clock:Nat),w.heap[b]? = some (.map es clock)/\MapKept.Stamped es clock/\gj E w G kt vt es.toList m
 | .loop y ds=>∃(Y:YD)(fn:FuncId)(tmps:aG Value)(D:Nat),E.yd y Y/\w.heap[b]? = some (.loop ⟨.ready,none,fn,tmps,Y.params,Y.assign,Y.body,D⟩)/\bI E w G ds tmps.toList
 | .gone=>∃o,w.heap[b]? = some o/\∀cs t m,o≠.cells cs t m
 | .QS=>w.heap[b]? = some (.deferred (some []))
 | .lC e cap t xs d=>∃cur:aG Value,w.heap[b]? = some (.cells cur e (0,0))/\cur.size=cap/\(∀(i:Nat) x,xs[i]? = some x->VT E w G (.dat t x) (cur.getD i undef))/\VT E w G d (cur.getD xs.length undef)/\xs.length<cap
def yE(w:U)(G:bq)(x:cH)(h:Value):Prop:=
 ∃n xs,w.ownsRow 0 x.e x.k h n xs/\(∀a m,h=.slice (some a) m 0->E.zc x.e=true)/\∀b,h.ownBlock=some b->b<w.heap.size/\b∉G.i/\∀o,n*x.k<=o->¬ G.pr b o
def bq.rows(G:bq)(b:Nat):Prop:=∃x h,(x,h)∈G.g/\h.ownBlock=some b
def bq.Ea(G:bq)(b:Nat):Prop:=b∈G.i\/G.rows b
structure kQ(w0:World)(G0:bq)(w:World)(G:bq):Prop where
 os:w.os=w0.os
 tape:w.tape=w0.tape
 output:w.output=w0.output
 size:w0.heap.size<=w.heap.size
 old:∀b,b<w0.heap.size->¬ G0.Ea b->w.heap[b]? = w0.heap[b]?
 goes:iB w0 G0 w G
 oe:∀b o,b<w0.heap.size->G.pr b o->G0.pr b o\/G0.rows b
 qH:∀(r b:Nat),G0.i.length<=r->G.i[r]? = some b->w0.heap.size<=b
 gL:∀(j:Nat) x h b,G.g[j]? = some (x,h)->h.ownBlock=some b->w0.heap.size<=b\/∃x0 h0,G0.g[j]? = some (x0,h0)/\h0.ownBlock=some b
structure lP(w:World)(G:bq)(H:List (fM E))(gs:List cH):Prop where
 len:G.i.length=H.length
 gs:G.g.map (·.1)=gs
 box:∀(r b:Nat)(x:fM E),G.i[r]? = some b->H[r]? = some x->jS E w G b x
 lt:∀b,b∈G.i->b<w.heap.size
 nodup:G.i.Nodup
 gq:∀b o,G.pr b o->b<w.heap.size/\b∉G.i
 grow:∀(j:Nat) x h,G.g[j]? = some (x,h)->yE E w G x h
 apart:∀(j j':Nat) x h x' h' b,G.g[j]? = some (x,h)->G.g[j']? = some (x',h')->h.ownBlock=some b->h'.ownBlock=some b->j=j'
def p6(w:U)(G:bq):Prop:=∀b p,E.gb b=some p->(∃cs t m,w.heap[b]? = some (.cells cs t m)/\p cs)/\¬ G.Ea b
def AH:FuncId:=2000000
def DOk(w:U)(G:bq)(d:Deferred)(x:FuncId×J (TV E)):Prop:=
 (Nat.beq x.1 AH=false/\∃cap,d.target=.fn (.func x.1) cap/\bI E w G x.2 (d.args++cap).toList)\/(x.1=AH/\∃b,d={target:=.collected b,args:=#[]}/\bI E w G x.2 [.func (.yield b) #[] #[]])
def kj(w:U)(G:bq):J Deferred->J (FuncId×J (TV E))->Prop
 | [],[]=>True
 | d::ds,x::xs=>DOk E w G d x/\kj w G ds xs
 | _,_=>False
def sI(w:U)(G:bq)(x:cH)(h:Value)(c:Cn E):Prop:=
 x.k=c.1.size E/\0<x.k/\(∃vals,w.ownsRow 0 x.e x.k h c.2.length vals/\Flat w G.pr x.k vals (c.2.map (c.1.cells E)))/\∀b,h.ownBlock=some b->∀o,¬ G.pr b o
def kH(w:U)(G:bq)(cs:J (Nat×Cn E)):Prop:=∀j c,(j,c)∈cs->∃x h,G.g[j]? = some (x,h)/\sI E w G x h c
structure Rel(w0:World)(G0:bq)(st:TS E)(a:Act)(w:World)(G:bq):Prop where
 eX:kQ w0 G0 w G
 size:a.tmps.size=st.t.length
 tmps:∀(j:Nat) d,st.t[j]? = some d->VT E w G d (a.tmps.getD j undef)
 defers:kj E w G a.defers st.df
 boxes:lP E w G st.H st.g
 fix:∀(r b:Nat),G0.i[r]? = some b->r∉st.d->w.heap[b]? = w0.heap[b]?
 pins:p6 E w0 G0
 gr:kH E w G st.c
inductive Ex where
 | normal|exit (id:Nat)|goto (l:Nat)|ret|panic (d:TV E)
def anP(w:U)(G:bq):Exit->Ex E->Prop
 | .normal,.normal=>True
 | .exit i,.exit j=>i=j
 | .goto i,.goto j=>i=j
 | .ret,.ret=>True
 | .panic ch,.panic d=>∃v,ch=[{v:=v,recovered:=false}]/\VT E w G d v
 | _,_=>False
def cG(w0:U)(G0:bq)(Q:Ex E->TS E->Prop):Exit->Act->U->Prop:=
 fun e a w=>∃x st G,anP E w G e x/\Rel E w0 G0 st a w G/\Q x st
def HZ(P:bh)(c:Code)(st:TS E)(Q:Ex E->TS E->Prop):Prop:=
 ∀w0 G0 a w G,Rel E w0 G0 st a w G->c.wp P (cG E w0 G0 Q) a w
def aeW(P:bh)(ops:aG Oper)(l:J Oper)(st:TS E)(Q:Ex E->TS E->Prop):Prop:=
 ∀w0 G0 a w G,Rel E w0 G0 st a w G->wpList P ops (cG E w0 G0 Q) l a w
variable {E : TEnv}
theorem LD.length:∀ {vs:J Value}{ds:J DV},LD w pr vs ds->vs.length=ds.length
 | [],[],_=>rfl
 | _::_,_::_,h=>by simp [LD.length h.2]
 | [],_::_,h=>h.elim
 | _::_,[],h=>h.elim
theorem LD.one:∀ {vs:J Value}{ds:J DV},LD w pr vs ds->∀u,u∈vs->u.oneCell'=true
 | [],[],_,u,hu=>by cases hu
 | v::vs,d::ds,h,u,hu=>by
  rcases iE.1 hu with rfl|hu
  ·exact h.1.one
  ·exact LD.one h.2 u hu
 | [],_::_,h,_,_=>h.elim
 | _::_,[],h,_,_=>h.elim
theorem LD.append:∀ {vs us:J Value}{ds es:J DV},LD w pr vs ds->LD w pr us es->LD w pr (vs++us) (ds++es)
 | [],_,[],_,_,h=>h
 | _::_,_,_::_,_,h,h'=>⟨h.1,LD.append h.2 h'⟩
 | [],_,_::_,_,h,_=>h.elim
 | _::_,_,[],_,h,_=>h.elim
theorem LD.take:∀(n:Nat){vs:J Value}{ds:J DV},LD w pr vs ds->LD w pr (vs.take n) (ds.take n)
 | 0,_,_,_=>by simp [LD]
 | _+1,[],[],_=>trivial
 | n+1,_::_,_::_,h=>⟨h.1,LD.take n h.2⟩
 | _+1,[],_::_,h=>h.elim
 | _+1,_::_,[],h=>h.elim
theorem LD.drop:∀(n:Nat){vs:J Value}{ds:J DV},LD w pr vs ds->LD w pr (vs.drop n) (ds.drop n)
 | 0,_,_,h=>h
 | _+1,[],[],_=>trivial
 | n+1,_::_,_::_,h=>LD.drop n h.2
 | _+1,[],_::_,h=>h.elim
 | _+1,_::_,[],h=>h.elim
theorem LD.split:∀ {ds es:J DV}{vs:J Value},LD w pr vs (ds++es)->∃us ts,vs=us++ts/\LD w pr us ds/\LD w pr ts es
 | [],_,vs,h=>⟨[],vs,rfl,trivial,h⟩
 | d::ds,es,v::vs,h=>by
  obtain⟨us,ts,rfl,h1,h2⟩:=LD.split h.2
  exact⟨v::us,ts,rfl,⟨h.1,h1⟩,h2⟩
 | _::_,_,[],h=>h.elim
theorem LD.single{d:DV}(h:VD w pr v d):LD w pr [v] [d]:=⟨h,trivial⟩
theorem LD.tw{d:DV}(h:LD w pr [v] [d]):VD w pr v d:=h.1
variable{b:Bool}{l:J UInt8}
theorem VD.fU{k:eF}{n:Int}(h:VD w pr v (.int k n)):v=.int k n:=by cases h;rfl
theorem VD.mh(h:VD w pr v (.bool b)):v=.bool b:=by cases h;rfl
theorem VD.hU(h:VD w pr v (.str l)):v=mkStr l:=by cases h;rfl
variable{G:bq}
theorem VT.fU{k:eF}{n:Int}(h:VT E w G (.dat (.int k) n) v):v=.int k n:=h.tw.fU
theorem VT.mh(h:VT E w G (.dat .bool b) v):v=.bool b:=h.tw.mh
theorem VT.hU(h:VT E w G (.dat .str l) v):v=mkStr l:=h.tw.hU
theorem VT.int(w:U)(G:bq)(k:eF)(n:Int):VT E w G (.dat (.int k) n) (.int k n):=.single (.int k n)
theorem VT.bool(w:U)(G:bq)(b:Bool):VT E w G (.dat .bool b) (.bool b):=.single (.bool b)
theorem VT.str(w:U)(G:bq)(l:J UInt8):VT E w G (.dat .str l) (mkStr l):=.single (.str l)
def TV.JZ:Value->TV E
 | .int k n=>.dat (.int k) n
 | .bool b=>.dat .bool b
 | .string s=>.dat .str s.data.toList
 | v=>.val v
theorem ZL(w:U)(G:bq)(v:Value):VT E w G (TV.JZ v) v:=by
 cases v<;>first|exact .int _ _ _ _|exact .bool _ _ _|exact .str w G _|(simp [TV.JZ,VT])
def TS.at(st:TS E)(i:Nat):TV E:=st.t.getD i .any
def TS.ev(st:TS E):dy->TV E
 | .tmp t=>st.at t
 | .const v=>.JZ v
 | .global _=>.any
 | .func f=>.func (.func f) []
def cx(l:J (TV E))(dst:O Nat)(d:TV E):J (TV E):=
 match dst with
 | some i=>l.set i d
 | none=>l
def ND:J (Nat×Cn E)->Nat->Bool
 | [],_=>false
 | p::cs,j=>Nat.beq p.1 j||ND cs j
theorem K3:∀ {cs:J (Nat×Cn E)}{j:Nat},ND cs j=false->∀c,(j,c)∉cs
 | [],j,_,c,h=>by cases h
 | p::cs,j,hs,c,h=>by
  simp [ND] at hs;rcases iE.1 h with h|h
  ·rw [<-h,M9] at hs;cases hs.1
  ·exact K3 hs.2 c h
def oM:J (Nat×Cn E)->Nat->O (Cn E)
 | [],_=>none
 | p::cs,j=>cond (Nat.beq p.1 j) (some p.2) (oM cs j)
theorem R1:∀ {cs:J (Nat×Cn E)}{j:Nat}{c:Cn E},oM cs j=some c->(j,c)∈cs
 | [],j,c,h=>by cases h
 | p::cs,j,c,h=>by
  simp [oM] at h;cases hb:Nat.beq p.1 j<;>rw [hb] at h<;>simp at h
  ·exact kf _ (R1 h)
  ·cases h
   have:=eM hb;subst this;simp
def nI(j:Nat):J (Nat×Cn E)->J (Nat×Cn E)
 | []=>[]
 | p::cs=>cond (Nat.beq p.1 j) (nI j cs) (p::nI j cs)
theorem tA{j:Nat}:∀ {cs:J (Nat×Cn E)}{i:Nat}{c:Cn E},(i,c)∈nI j cs->(i,c)∈cs/\i≠j
 | [],i,c,h=>by cases h
 | p::cs,i,c,h=>by
  simp [nI] at h;cases hb:Nat.beq p.1 j<;>rw [hb] at h<;>simp only [aZ,aK] at h
  ·rcases iE.1 h with h|h
   ·refine⟨by rw [h];simp,fun e=>?_⟩
    rw [<-h] at hb;rw [e,M9] at hb;cases hb
   ·exact⟨kf _ (tA h).1,(tA h).2⟩
  ·exact⟨kf _ (tA h).1,(tA h).2⟩
variable{w0:U}{G0:bq}{st:TS E}{a:Act}{d:TV E}
theorem Rel.ev(h:Rel E w0 G0 st a w G)(x:dy):VT E w G (st.ev x) (a.eval x):=by
 cases x with
 | tmp t=>
  simp [TS.ev,TS.at]
  cases ht:st.t[t]? with
  | none=>simp_all [VT]
  | some d=>exact h.tmps t d ht
 | const v=>exact ZL w G v
 | global g=>simp [TS.ev,VT]
 | func f=>
  exact⟨#[],rfl,by simp [bI]⟩
theorem K4(a:Act)(dst:O Nat)(v:Value):(a.put dst v).tmps.size=a.tmps.size:=by cases dst<;>simp [Act.put]
theorem put_defers(a:Act)(dst:O Nat)(v:Value):(a.put dst v).defers=a.defers:=by cases dst<;>simp [Act.put]
theorem Cr(a:Act)(dst:O Nat)(v:Value)(j:Nat):(a.put dst v).tmps.getD j undef=if dst=some j/\j<a.tmps.size then v else a.tmps.getD j undef:=by
 cases dst with
 | none=>simp [Act.put]
 | some i=>
  simp [Act.put]
  grind
theorem Rel.put(h:Rel E w0 G0 st a w G)(hv:VT E w G d v)(dst:O Nat):
  Rel E w0 G0 {st with t:=cx st.t dst d} (a.put dst v) w G:=by
 refine⟨h.eX,?_,?_,?_,h.boxes,h.fix,h.pins,h.gr⟩
 ·rw [K4,h.size];cases dst<;>simp [cx]
 ·intro j d' hj
  rw [Cr,h.size]
  cases dst with
  | none=>
   exact h.tmps j d' hj
  | some i=>
   simp [cx,UZ] at hj;by_cases hij:i=j
   ·simp_all
   ·rw [if_neg (by simp [hij])]
    rw [if_neg hij] at hj;exact h.tmps j d' hj
 ·rw [put_defers];exact h.defers
structure TI where
 kind:TypeDesc
 size:Nat
 bytes:Nat
 zero:Value
def aU(P:bh)(t:aI):O TI:=
 match P.info? t,P.underlying t with
 | some i,some d=>match i.zero with
  | some z=>some ⟨d,i.size,i.bytes,z⟩
  | none=>none
 | _,_=>none
variable{P:bh}{t:aI}
theorem aM{x:TI}(h:aU P t=some x):
  ∃i,P.info? t=some i/\P.underlying t=some x.kind/\i.size=x.size/\i.bytes=x.bytes/\i.zero=some x.zero:=by
 grind [aU]
def TI.isAgg(i:TI):Bool:=match i.kind with | .struct _=>true | .array _ _=>true|_=>false
def eY(w w':U):Prop:=w.heap.size<=w'.heap.size/\∀b,b<w.heap.size->w'.heap[b]? = w.heap[b]?
theorem eY.refl(w:U):eY w w:=⟨ek _,fun _ _=>rfl⟩
theorem eY.cell{w':U}(h:eY w w'){a:Addr}(hv:w.cell? a=some v):w'.cell? a=some v:=
 (U3 (h.2 a.block (adZ w a hv))).trans hv
theorem aQ{d:TypeDesc}(h:P.underlying t=some d)(w:U):(underlying t).run P w=.ok d w:=by
 simp [underlying,h]
theorem Mb{i:TypeInfo}(h:P.info? t=some i)(w:U):(typeInfo t).run P w=.ok i w:=by
 simp [typeInfo,h]
theorem fy{i:TypeInfo}(h:P.info? t=some i)(w:U):(sizeOf t).run P w=.ok i.size w:=by
 simp [sizeOf,Mb h]
variable{i:TI}
theorem S5(h:aU P t=some i)(w:U):(isAgg t).run P w=.ok i.isAgg w:=by
 obtain⟨x,hx,hu,-⟩:=aM h;unfold isAgg;simp [aQ hu];unfold TI.isAgg;cases i.kind<;>rfl
theorem nt(h:aU P t=some i)(w:U):(zeroValue t).run P w=.ok i.zero w:=by
 obtain⟨x,hx,hu,-,-,hz⟩:=aM h;simp [zeroValue,Mb hx,hz]
theorem add_lit(b o n:Nat):(⟨b,o,none⟩:Addr).add n=⟨b,o+n,none⟩:=by
 unfold Addr.add;split<;>simp_all
theorem mF(ht:aU P t=some i)(b o n:Nat)(c:Nat->Value)
  (hc:∀l,l<n->w.cell? ⟨b,o+l,none⟩=some (c l)) (off:Nat) (h:cond i.isAgg (off+i.size<=n) (off<n)) (w':U) (hs:eY w w') :
  (Instr.loadAt t (.pointer (some ⟨b,o+off,none⟩))).run P w' =
   .ok (cond i.isAgg (.agg ((List.range i.size).map fun l=>c (off+l)).toArray) (c off)) w':=by
 obtain⟨x,hx,hu,hsz,-⟩:=aM ht;unfold Instr.loadAt Instr.sureAddr loadVar;simp [S5 ht];cases hag:i.isAgg
 ·simp [hag] at h
  have hcell:=hs.cell (hc off h);simp [hcell]
 ·simp [hag] at h
  simp [fy hx,hsz]
  have:=run_loadCells (P:=P) w' ⟨b,o+off,none⟩ i.size (fun l=>c (off+l)) (fun j hj=>by
   rw [add_lit];have:=hs.cell (hc (off+j) om)
   grind)
  rw [this];simp
def rq{R:Type}(b:Bool)(k:O R):O R:=cond b k none
theorem dQ{R:Type}{k:O R}{r:R}(h:rq b k=some r):b=true/\k=some r:=by
 cases b
 ·cases h
 ·exact⟨rfl,h⟩
def sJ(a:Int)(f:Int->Int):Int:=match a with
 | .ofNat n=>f (.ofNat n)
 | .negSucc n=>f (.negSucc n)
theorem xl(a:Int)(f:Int->Int):sJ a f=f a:=by cases a<;>rfl
def ZM(k:eF)(a b:Int):Int:=k.wrap (a*2^(min b.toNat k.bits))
def Vp(k:eF)(a b:Int):Int:=sJ a fun a=>a.fdiv (2^(min b.toNat k.bits))
def lD(k:eF)(a b:Int):Int:=sJ a fun a=>sJ b fun b=>k.wrap (BitVec.ofInt k.bits a &&& BitVec.ofInt k.bits b).toNat
def J0(k:eF)(a b:Int):Int:=sJ a fun a=>sJ b fun b=>k.wrap (BitVec.ofInt k.bits a ||| BitVec.ofInt k.bits b).toNat
def R2(k:eF)(a b:Int):Int:=sJ a fun a=>sJ b fun b=>k.wrap (BitVec.ofInt k.bits a ^^^ BitVec.ofInt k.bits b).toNat
def Vq(k:eF)(a b:Int):Int:=sJ a fun a=>sJ b fun b=>k.wrap (BitVec.ofInt k.bits a &&& ~~~ BitVec.ofInt k.bits b).toNat
def Vr(k:eF)(n:Int):Int:=sJ n fun n=>k.wrap (BitVec.ofInt k.bits (if k.signed then -1 else k.max) ^^^ BitVec.ofInt k.bits n).toNat
theorem adh(k:eF)(a b:Int):Vp k a b=a.fdiv (2^(min b.toNat k.bits)):=xl _ _
theorem Vs(k:eF)(a b:Int):lD k a b=k.wrap (BitVec.ofInt k.bits a &&& BitVec.ofInt k.bits b).toNat:=by grind [lD,xl]
theorem ahb(k:eF)(a b:Int):J0 k a b=k.wrap (BitVec.ofInt k.bits a ||| BitVec.ofInt k.bits b).toNat:=by grind [J0,xl]
theorem adi(k:eF)(a b:Int):R2 k a b=k.wrap (BitVec.ofInt k.bits a ^^^ BitVec.ofInt k.bits b).toNat:=by grind [R2,xl]
theorem aeX(k:eF)(a b:Int):Vq k a b=k.wrap (BitVec.ofInt k.bits a &&& ~~~ BitVec.ofInt k.bits b).toNat:=by simp_all [Vq,xl]
theorem Vt(k:eF)(n:Int):Vr k n=k.wrap (BitVec.ofInt k.bits (if k.signed then -1 else k.max) ^^^ BitVec.ofInt k.bits n).toNat:=xl _ _
def ajb(op:BinOp)(x y:TV E):O (Bool×TV E):=
 match x,y with
 | .dat (.int k) a,.dat (.int k') b=>
  match op with
  | .shl=>some (decide (0<=b),.dat (.int k) (ZM k a b))
  | .shr=>some (decide (0<=b),.dat (.int k) (Vp k a b))
  | .add=>some (decide (k=k'),.dat (.int k) (k.wrap (a+b)))
  | .sub=>some (decide (k=k'),.dat (.int k) (k.wrap (a-b)))
  | .mul=>some (decide (k=k'),.dat (.int k) (k.wrap (a*b)))
  | .quo=>some (decide (k=k') && !(b==0),.dat (.int k) (k.wrap (a.tdiv b)))
  | .rem=>some (decide (k=k') && !(b==0),.dat (.int k) (a.tmod b))
  | .and=>some (decide (k=k'),.dat (.int k) (lD k a b))
  | .or=>some (decide (k=k'),.dat (.int k) (J0 k a b))
  | .xor=>some (decide (k=k'),.dat (.int k) (R2 k a b))
  | .andNot=>some (decide (k=k'),.dat (.int k) (Vq k a b))
  | .eql=>some (decide (k=k'),.dat .bool (a==b))
  | .neq=>some (decide (k=k'),.dat .bool (a != b))
  | .lss=>some (decide (k=k'),.dat .bool (decide (a<b)))
  | .leq=>some (decide (k=k'),.dat .bool (decide (a<=b)))
  | .gtr=>some (decide (k=k'),.dat .bool (decide (b<a)))
  | .geq=>some (decide (k=k'),.dat .bool (decide (b<=a)))
 | .dat .str a,.dat .str b=>
  match op with
  | .add=>some (decide (a.length+b.length<=9223372036854775807),.dat .str (a++b))
  | .eql=>some (true,.dat .bool (a==b))
  | .neq=>some (true,.dat .bool (!(a==b)))
  | .lss=>some (true,.dat .bool (Op.bytesLess a b))
  | .leq=>some (true,.dat .bool (Op.bytesLess a b||a==b))
  | .gtr=>some (true,.dat .bool (!(Op.bytesLess a b||a==b)))
  | .geq=>some (true,.dat .bool (!(Op.bytesLess a b)))
  | _=>none
 | _,_=>none
theorem aeY{op:BinOp}{x y:dy}{u:Value}{du dv:TV E}{c:Bool}
  (hu:VT E w G du u) (hv:VT E w G dv v) (h:ajb op du dv=some (c,d)) (L9:c=true) :
  ∃r,VT E w G d r/\∀w',(do eqGuard op t x y u v;binOp op t u v).run P w'=.ok r w':=by
 subst L9;unfold ajb at h;split at h
 ·rename_i k a k' b
  obtain rfl:=hu.fU;obtain rfl:=hv.fU;have hg:∀w',(eqGuard op t x y (.int k a) (.int k' b)).run P w'=.ok () w':=fun w'=>by cases op<;>rfl
  cases op<;>simp at h<;>obtain⟨L9,rfl⟩:=h
  case shl=>exact⟨_,.int _ _ _ _,fun w'=>by simp [ZM,hg,binOp,Op.shift,show ¬ b<0 from Int.not_lt.2 L9]⟩
  case shr=>exact⟨_,.int _ _ _ _,fun w'=>by simp [adh,hg,binOp,Op.shift,show ¬ b<0 from Int.not_lt.2 L9]⟩
  case quo=>obtain⟨rfl,hb⟩:=L9;have hb:b≠0:=by simpa using hb
            exact⟨_,.int _ _ _ _,fun w'=>by simp [hg,binOp,Op.intDiv,hb]⟩
  case rem=>obtain⟨rfl,hb⟩:=L9;have hb:b≠0:=by simpa using hb
            exact⟨_,.int _ _ _ _,fun w'=>by simp [hg,binOp,Op.intDiv,hb]⟩
  all_goals
   subst L9
   first
    | exact⟨_,.int _ _ _ _,fun w'=>by simp;rfl⟩
    | exact⟨_,.int _ _ _ _,fun w'=>by simp only [binOp,ne_eq,Vs,ahb,adi,aeX];rfl⟩
    | exact⟨_,.bool _ _ _,fun w'=>by simp [hg,binOp,Op.intCmp]⟩
 ·rename_i a b
  obtain rfl:=hu.hU;obtain rfl:=hv.hU
  have hb:∀w',(do eqGuard op t x y (mkStr a) (mkStr b);binOp op t (mkStr a) (mkStr b)).run P w'=(Op.stringOp op ⟨⟨a⟩⟩ ⟨⟨b⟩⟩).run P w':=fun w'=>by
   cases op<;>rfl
  simp [hb];cases op<;>simp at h<;>obtain⟨L9,rfl⟩:=h
  case add=>
   refine⟨_,.str _ _ _,fun w'=>?_⟩;have hsz:∀l:J UInt8,(ByteArray.mk ⟨l⟩).size=l.length:=fun l=>rfl
   have:¬ (((⟨⟨a⟩⟩:ByteArray).size+(⟨⟨b⟩⟩:ByteArray).size:Nat):Int)>IntKind.i64.max:=by
    rw [hsz,hsz];have:IntKind.i64.max=9223372036854775807:=by decide
    rw [this];omega
   simp only [Op.stringOp,this];rfl
  all_goals exact⟨_,.bool _ _ _,fun w'=>by simp [Op.stringOp]⟩
 ·cases h
def S6:Op->Bool
 | .load _ _=>true
 | _=>false
def H6(o:Oper)(w w':U):Prop:=S6 o.op=true->eY w w'
theorem H6.refl(o:Oper)(w:U):H6 o w w:=fun _=>eY.refl w
def jw(P:bh)(a:Act)(w:U)(G:bq)(o:Oper)(d:TV E):Prop:=
 ∃v,VT E w G d v/\∀w',H6 o w w'->(execOp a.eval o).run P w'=.ok (.value v) w'
variable{o:Oper}
theorem ZN(hr:Rel E w0 G0 st a w G)(x:dy)(ho:o.op=.move x\/o.op=.assign x):jw P a w G o (st.ev x):=
 ⟨a.eval x,hr.ev x,fun w' _=>by rcases ho with ho|ho<;>simp [execOp,ho]⟩
theorem fV{f:(dy->Value)->Sem Value}(he:execOp a.eval o=(do let x <-f a.eval;pure (.value x)))
  (h:∃v,VT E w G d v/\∀w',H6 o w w'->(f a.eval).run P w'=.ok v w'):jw P a w G o d:=by
 obtain⟨v,hv,h⟩:=h;exact⟨v,hv,fun w' hs=>by simp [he,h w' hs]⟩
def Part(E:TEnv)(w:U)(G:bq)(vs:J Value)(agg:Bool)(size off:Nat)(d:TV E):Prop:=
 cond agg (off+size<=vs.length/\VT E w G d (.agg ((vs.drop off).take size).toArray)) (∃u,vs[off]? = some u/\VT E w G d u)
def Vu(E:TEnv)(f:(i:Nat)->E.D i->Bool->Nat->Nat->O (TV E)):(t:Ty)->t.den E.D->Bool->Nat->Nat->O (TV E)
 | .pair a b,x,agg,size,off=>cond (Nat.blt off (a.size E))
   (cond (Nat.beq off 0&&Nat.beq size (a.size E)&&(agg==a.isAgg)) (some (.dat a x.1)) (Vu E f a x.1 agg size off))
   (Vu E f b x.2 agg size (off-a.size E))
 | .ext i,x,agg,size,off=>f i x agg size off
 | _,_,_,_,_=>none
def ajc(E:TEnv):Nat->(t:Ty)->t.den E.D->Bool->Nat->Nat->O (TV E)
 | 0=>Vu E fun _ _ _ _ _=>none
 | n+1=>Vu E fun i x=>ajc E n (E.df i) (E.AE i x)
def TV.part(t:Ty)(x:t.den E.D)(agg:Bool)(size off:Nat):O (TV E):=
 cond (Nat.beq off 0&&Nat.beq size (t.size E)&&(agg==t.isAgg)) (some (.dat t x)) (ajc E 4 t x agg size off)
variable{vs us ts:J Value}{agg:Bool}{off:Nat}
theorem Ty.ahc{t:Ty}(h:t.isAgg=false):t.size E=1:=by
 cases t<;>first|rfl|cases h
theorem Part.whole(hE:E.Ok){t:Ty}{x:t.den E.D}(h:LD w G.pr vs (t.cells E x)):Part E w G vs t.isAgg (t.size E) 0 (.dat t x):=by
 have hl:=h.length;rw [Ty.AF E hE] at hl;unfold Part;cases ha:t.isAgg
 ·rw [Ty.ahc ha] at hl
  obtain⟨u,rfl⟩:=YB.1 hl
  simp_all [VT]
 grind [VT]
theorem Part.left{size:Nat}(h:Part E w G us agg size off d):Part E w G (us++ts) agg size off d:=by
 grind [Part]
theorem Part.right{size n:Nat}(hn:us.length=n)(ho:n<=off)(h:Part E w G ts agg size (off-n) d):Part E w G (us++ts) agg size off d:=by
 grind [Part,List.drop_append,List.drop_eq_nil_of_le]
theorem S7(hE:E.Ok){f:(i:Nat)->E.D i->Bool->Nat->Nat->O (TV E)}
  (hf:∀i x agg size off d vs,LD w G.pr vs (E.enc i x)->f i x agg size off=some d->Part E w G vs agg size off d) :
  ∀(t:Ty)(x:t.den E.D){agg:Bool}{size off:Nat}{d:TV E}{vs:J Value},LD w G.pr vs (t.cells E x)->Vu E f t x agg size off=some d->Part E w G vs agg size off d:=by
 intro t
 induction t with
 | int k=>intro x _ _ _ _ _ _ h;cases h
 | bool=>intro x _ _ _ _ _ _ h;cases h
 | str=>intro x _ _ _ _ _ _ h;cases h
 | bn t _=>intro x _ _ _ _ _ _ h;cases h
 | unit=>intro x _ _ _ _ _ _ h;cases h
 | ext i=>intro x agg size off d vs hv h;exact hf i x agg size off d vs hv h
 | pair a b EA EB=>
  intro x agg size off d vs hv h;obtain⟨us,ts,rfl,h1,h2⟩:=hv.split;have hl:=h1.length;rw [Ty.AF E hE] at hl;simp [Vu] at h;cases hb:Nat.blt off (a.size E)<;>rw [hb] at h<;>simp at h
  ·have ho:a.size E<=off:=by
    grind [Nat.blt_eq]
   exact (EB x.2 h2 h).right hl ho
  ·cases hc:(Nat.beq off 0&&Nat.beq size (a.size E)&&(agg==a.isAgg))<;>rw [hc] at h<;>simp at h
   ·exact (EA x.1 h1 h).left
   ·cases h
    simp only [cE,uW] at hc;obtain⟨⟨e1,e2⟩,rfl⟩:=hc;rw [eM e1,eM e2];exact (Part.whole hE h1).left
theorem S8(hE:E.Ok):∀(n:Nat)(t:Ty)(x:t.den E.D){agg:Bool}{size off:Nat}{d:TV E}{vs:J Value},
  LD w G.pr vs (t.cells E x)->ajc E n t x agg size off=some d->Part E w G vs agg size off d
 | 0,t,x,_,_,_,_,_,hv,h=>S7 hE (fun _ _ _ _ _ _ _ _ h=>by cases h) t x hv h
 | n+1,t,x,_,_,_,_,_,hv,h=>S7 hE (fun i x agg size off d vs hv h=>by
   rw [hE.enc] at hv;exact S8 hE n (E.df i) (E.AE i x) hv h) t x hv h
theorem K5(hE:E.Ok){t:Ty}{x:t.den E.D}{size:Nat}
  (hv:LD w G.pr vs (t.cells E x)) (h:TV.part t x agg size off=some d):Part E w G vs agg size off d:=by
 unfold TV.part at h;cases hc:(Nat.beq off 0&&Nat.beq size (t.size E)&&(agg==t.isAgg))<;>rw [hc] at h<;>simp at h
 ·grind [S8]
 ·cases h
  simp_all [uW,Part.whole]
def TV.get(t:Ty):TV E->O (t.den E.D)
 | .dat t' x=>if h:t'=t then some (h▸x) else none
 | .cA _ _ t' xs=>if h:Ty.bn t'=t then some (h▸xs) else none
 | .val (.slice none 0 0)=>match t with
  | .bn _=>some []
  | _=>none
 | _=>none
theorem TV.uy{t:Ty}{x:t.den E.D}(h:d.get t=some x)(hv:VT E w G d v):VT E w G (.dat t x) v:=by
 unfold TV.get at h;split at h
 ·grind
 ·split at h
  ·rename_i e
   subst e;cases h;exact .single hv.1
  ·cases h
 ·split at h
  ·cases h
   subst hv;exact .single (.va _ _)
  ·cases h
 ·cases h
def NF(E:TEnv)(f:(i:Nat)->J (TV E)->O (E.D i×J (TV E))):(t:Ty)->J (TV E)->O (t.den E.D×J (TV E))
 | .unit,cs=>some ((),cs)
 | .pair a b,cs=>(NF E f a cs).bind fun p=>(NF E f b p.2).bind fun q=>some ((p.1,q.1),q.2)
 | .ext i,cs=>f i cs
 | .int k,cs=>match cs with|c::r=>(c.get (.int k)).bind fun x=>some (x,r) | []=>none
 | .bool,cs=>match cs with|c::r=>(c.get .bool).bind fun x=>some (x,r) | []=>none
 | .str,cs=>match cs with|c::r=>(c.get .str).bind fun x=>some (x,r) | []=>none
 | .bn t,cs=>match cs with|c::r=>(c.get (.bn t)).bind fun x=>some (x,r) | []=>none
def NH(E:TEnv):Nat->(t:Ty)->J (TV E)->O (t.den E.D×J (TV E))
 | 0=>NF E fun _ _=>none
 | n+1=>NF E fun i cs=>(NH E n (E.df i) cs).bind fun p=>some (E.fold i p.1,p.2)
variable{ds:J (TV E)}
theorem bI.nil:bI E w G [] []:=by simp [bI]
theorem bI.cons(h:VT E w G d v)(h':bI E w G ds vs):bI E w G (d::ds) (v::vs):=by
 grind [bI]
theorem bI.cons_inv(h:bI E w G (d::ds) vs):∃u us,vs=u::us/\VT E w G d u/\bI E w G ds us:=by
 simpa only [bI] using h
theorem bI.length:∀ {ds:J (TV E)}{vs:J Value},bI E w G ds vs->vs.length=ds.length
 | [],_,h=>by simp_all [bI]
 | d::ds,vs,h=>by
  obtain⟨u,us,rfl,-,h⟩:=h.cons_inv;simp [h.length]
theorem bI.append:∀ {ds es:J (TV E)}{vs us:J Value},bI E w G ds vs->bI E w G es us->bI E w G (ds++es) (vs++us)
 | [],es,vs,us,h,h'=>by simp_all [bI]
 | d::ds,es,vs,us,h,h'=>by
  obtain⟨u,us',rfl,h1,h2⟩:=h.cons_inv;exact .cons h1 (h2.append h')
theorem bI.get:∀ {ds:J (TV E)}{vs:J Value}(j:Nat){d:TV E},bI E w G ds vs->ds[j]? = some d->∃u,vs[j]? = some u/\VT E w G d u
 | [],_,_,_,_,h=>by simp at h
 | d::ds,vs,0,d',h,hj=>by
  obtain⟨u,us,rfl,h1,-⟩:=h.cons_inv
  simp_all
 | d::ds,vs,j+1,d',h,hj=>by
  obtain⟨u,us,rfl,-,h2⟩:=h.cons_inv;exact bI.get j h2 (by simpa using hj)
theorem bI.drop:∀(n:Nat){ds:J (TV E)}{vs:J Value},bI E w G ds vs->bI E w G (ds.drop n) (vs.drop n)
 | 0,_,_,h=>h
 | n+1,[],_,h=>by simp_all [bI]
 | n+1,d::ds,vs,h=>by
  obtain⟨u,us,rfl,-,h2⟩:=h.cons_inv;exact bI.drop n h2
theorem bI.take:∀(n:Nat){ds:J (TV E)}{vs:J Value},bI E w G ds vs->bI E w G (ds.take n) (vs.take n)
 | 0,_,_,h=>bI.nil
 | n+1,[],_,h=>by simp_all [bI]
 | n+1,d::ds,vs,h=>by
  obtain⟨u,us,rfl,h1,h2⟩:=h.cons_inv;exact .cons h1 (bI.take n h2)
theorem VT.atom{t:Ty}{x:t.den E.D}(ha:t.isAgg=false)(h:VT E w G (.dat t x) v):LD w G.pr [v] (t.cells E x):=by
 simp_all [VT]
theorem VT.PB{t:Ty}{x:t.den E.D}(ha:t.isAgg=false)(h:LD w G.pr [v] (t.cells E x)):VT E w G (.dat t x) v:=by
 simp_all [VT]
theorem VT.aeZ{t:Ty}{x:t.den E.D}(ha:t.isAgg=true)(h:VT E w G (.dat t x) v):∃vs:aG Value,v=.agg vs/\LD w G.pr vs.toList (t.cells E x):=by
 simp_all [VT]
theorem S9{f:(i:Nat)->J (TV E)->Option (E.D i×J (TV E))}
  (hf:∀i cs x r vs,bI E w G cs vs->f i cs=some (x,r)->∃us ts,vs=us++ts/\LD w G.pr us (E.enc i x)/\bI E w G r ts) :
  ∀(t:Ty){cs:J (TV E)}{x:t.den E.D}{r:J (TV E)}{vs:J Value},bI E w G cs vs->NF E f t cs=some (x,r) ->
   ∃us ts,vs=us++ts/\LD w G.pr us (t.cells E x)/\bI E w G r ts:=by
 have atom:∀(t:Ty)(ha:t.isAgg=false){cs:J (TV E)}{x:t.den E.D}{r:J (TV E)}{vs:J Value},bI E w G cs vs ->
   (match cs with|c::r=>(c.get t).bind fun x=>some (x,r) | []=>none)=some (x,r)->∃us ts,vs=us++ts/\LD w G.pr us (t.cells E x)/\bI E w G r ts:=by
  intro t ha cs x r vs hv h
  cases cs with
  | nil=>cases h
  | cons c cs=>
   obtain⟨u,us,rfl,h1,h2⟩:=hv.cons_inv;dsimp only at h
   cases hc:c.get t with
   | none=>rw [hc] at h;cases h
   | some y=>
    rw [hc] at h;cases h;exact⟨[u],us,rfl,(TV.uy hc h1).atom ha,h2⟩
 intro t
 induction t with
 | int k=>intro cs x r vs hv h;exact atom (.int k) rfl hv h
 | bool=>intro cs x r vs hv h;exact atom .bool rfl hv h
 | str=>intro cs x r vs hv h;exact atom .str rfl hv h
 | bn t _=>intro cs x r vs hv h;exact atom (.bn t) rfl hv h
 | unit=>intro cs x r vs hv h;cases h;exact⟨[],vs,rfl,trivial,hv⟩
 | ext i=>intro cs x r vs hv h;exact hf i cs x r vs hv h
 | pair a b EA EB=>
  intro cs x r vs hv h;simp [NF] at h
  cases h1:NF E f a cs with
  | none=>rw [h1] at h;cases h
  | some p=>
   obtain⟨y,r1⟩:=p;rw [h1] at h;dsimp at h
   cases h2:NF E f b r1 with
   | none=>rw [h2] at h;cases h
   | some q=>
    rw [h2] at h;cases h;obtain⟨us,ts,rfl,hu,ht⟩:=EA hv h1;obtain⟨us',ts',rfl,hu',ht'⟩:=EB ht h2;exact⟨us++us',ts',si,hu.append hu',ht'⟩
theorem AJ(hE:E.Ok):∀(n:Nat)(t:Ty){cs:J (TV E)}{x:t.den E.D}{r:J (TV E)}{vs:J Value},bI E w G cs vs->NH E n t cs=some (x,r) ->
   ∃us ts,vs=us++ts/\LD w G.pr us (t.cells E x)/\bI E w G r ts
 | 0,t,_,_,_,_,hv,h=>S9 (fun _ _ _ _ _ _ h=>by cases h) t hv h
 | n+1,t,_,_,_,_,hv,h=>S9 (fun i cs x r vs hv h=>by
   cases h1:NH E n (E.df i) cs with
   | none=>rw [h1] at h;cases h
   | some p=>
    rw [h1] at h;cases h;obtain⟨us,ts,e,h2,h3⟩:=AJ hE n (E.df i) hv h1;refine⟨us,ts,e,?_,h3⟩;rw [hE.enc,hE.fold];exact h2) t hv h
def AK(E:TEnv)(f:(i:Nat)->E.D i->O (J (TV E))):(t:Ty)->t.den E.D->O (J (TV E))
 | .unit,_=>some []
 | .pair a b,x=>(AK E f a x.1).bind fun l=>(AK E f b x.2).bind fun m=>some (l++m)
 | .ext i,x=>f i x
 | .int k,x=>some [.dat (.int k) x]
 | .bool,x=>some [.dat .bool x]
 | .str,x=>some [.dat .str x]
 | .bn t,x=>some [.dat (.bn t) x]
def H7(E:TEnv):Nat->(t:Ty)->t.den E.D->O (J (TV E))
 | 0=>AK E fun _ _=>none
 | n+1=>AK E fun i x=>H7 E n (E.df i) (E.AE i x)
def TV.o4:TV E->O (J (TV E))
 | .dat t x=>cond t.isAgg (H7 E 4 t x) (some [.dat t x])
 | .agg cs=>some cs
 | .sH t x off=>some [.sH t x off]
 | .ptr r off=>some [.ptr r off]
 | .p9 c r off=>some [.p9 c r off]
 | .jq r=>some [.jq r]
 | .ux r=>some [.ux r]
 | .iq _ _ _=>none
 | .cA j aF t xs=>some [.cA j aF t xs]
 | .QO _ _ _=>none
 | .eu j aF=>some [.eu j aF]
 | .ir j aF k i off=>some [.ir j aF k i off]
 | .tU _ _=>none
 | .func fn caps=>some [.func fn caps]
 | .Gt fn fs=>some [.Gt fn fs]
 | .iface ty d=>some [.iface ty d]
 | .val v=>cond v.oneCell' (some [.val v]) none
 | .any=>none
 | .tuple _=>none
variable{cs:J (TV E)}
theorem QT{f:(i:Nat)->E.D i->O (J (TV E))}(hf:∀i x cs vs,LD w G.pr vs (E.enc i x)->f i x=some cs->bI E w G cs vs):
  ∀(t:Ty)(x:t.den E.D){cs:J (TV E)}{vs:J Value},LD w G.pr vs (t.cells E x)->AK E f t x=some cs->bI E w G cs vs:=by
 have atom:∀(t:Ty)(ha:t.isAgg=false)(hl:∀x,(t.cells E x).length=1)(x:t.den E.D){cs:J (TV E)}{vs:J Value},LD w G.pr vs (t.cells E x)->some [TV.dat t x]=some cs->bI E w G cs vs:=by
  intro t ha hl x cs vs hv h;cases h;have:=hv.length;rw [hl] at this;obtain⟨u,rfl⟩:=YB.1 this;exact .cons (.PB ha hv) .nil
 intro t
 induction t with
 | int k=>intro x cs vs hv h;exact atom (.int k) rfl (fun _=>rfl) x hv h
 | bool=>intro x cs vs hv h;exact atom .bool rfl (fun _=>rfl) x hv h
 | str=>intro x cs vs hv h;exact atom .str rfl (fun _=>rfl) x hv h
 | bn t _=>intro x cs vs hv h;exact atom (.bn t) rfl (fun _=>rfl) x hv h
 | unit=>intro x cs vs hv h;cases h;cases vs with|nil=>exact .nil|cons _ _=>exact hv.elim
 | ext i=>intro x cs vs hv h;exact hf i x cs vs hv h
 | pair a b EA EB=>
  intro x cs vs hv h;simp [AK] at h;obtain⟨us,ts,rfl,h1,h2⟩:=LD.split hv
  cases e1:AK E f a x.1 with
  | none=>rw [e1] at h;cases h
  | some l=>
   rw [e1] at h
   cases e2:AK E f b x.2 with
   | none=>rw [e2] at h;cases h
   | some m=>
    rw [e2] at h;cases h;exact (EA x.1 h1 e1).append (EB x.2 h2 e2)
theorem yF(hE:E.Ok):∀(n:Nat)(t:Ty)(x:t.den E.D){cs:J (TV E)}{vs:J Value},LD w G.pr vs (t.cells E x)->H7 E n t x=some cs->bI E w G cs vs
 | 0,t,x,_,_,hv,h=>QT (fun _ _ _ _ _ h=>by cases h) t x hv h
 | n+1,t,x,_,_,hv,h=>QT (fun i x cs vs hv h=>by
   rw [hE.enc] at hv;exact yF hE n (E.df i) (E.AE i x) hv h) t x hv h
theorem sK(hE:E.Ok)(hv:VT E w G d v)(h:d.o4=some cs):
  bI E w G cs v.cells.toList/\∀u,u∈v.cells->u.oneCell'=true:=by
 have one:∀ {d:TV E},VT E w G d v->v.oneCell'=true->v.cells=#[v]->bI E w G [d] v.cells.toList/\∀u,u∈v.cells->u.oneCell'=true:=by
  intro d hv h1 hc;rw [hc];exact⟨.cons hv .nil,fun u hu=>by simp_all⟩
 cases d with
 | any=>cases h
 | tuple ds=>cases h
 | dat t x=>
  simp [TV.o4] at h;cases ha:t.isAgg<;>rw [ha] at h<;>simp at h
  ·cases h
   have h0:=hv.atom ha;have h1:=h0.one v si;refine one hv h1 ?_;cases v<;>first|rfl|cases h1
  ·obtain⟨vs,rfl,h0⟩:=hv.aeZ ha
   exact⟨yF hE 4 t x h0 h,fun u hu=>h0.one u (by simpa [Value.cells] using hu)⟩
 | agg ds=>
  cases h;obtain⟨vs,rfl,h1,h2⟩:=hv
  exact⟨h2,h1⟩
 | sH t x off=>
  cases h;have jt:=hv;obtain⟨b,o,c,rfl,-⟩:=jt
  exact one hv rfl rfl
 | ptr r off=>
  cases h;have jt:=hv;obtain⟨b,rfl,-⟩:=jt
  exact one hv rfl rfl
 | p9 c r off=>
  cases h;have jt:=hv;cases c<;>simp [VT] at jt
  ·subst jt;exact one hv rfl rfl
  ·obtain⟨b,rfl,-⟩:=jt
   exact one hv rfl rfl
 | jq r=>
  cases h;have jt:=hv;obtain⟨b,rfl,-⟩:=jt
  exact one hv rfl rfl
 | iq r n cap=>cases h
 | ux r=>
  cases h;have jt:=hv;obtain⟨b,rfl,-⟩:=jt
  exact one hv rfl rfl
 | cA j aF t xs=>
  cases h;have jt:=hv;have h1:=jt.1.one;refine one hv h1 ?_
  cases v<;>first|rfl|cases h1
 | QO j aF l=>cases h
 | tU t xs=>cases h
 | eu j aF=>
  cases h;have jt:=hv;obtain⟨x,g,-,-,h1,-⟩:=jt;refine one hv h1 ?_
  cases v<;>first|rfl|cases h1
 | ir j aF k i off=>
  cases h;have jt:=hv;obtain⟨x,g,-,-,h1,-⟩:=jt;refine one hv h1 ?_
  cases v<;>first|rfl|cases h1
 | func fn caps=>
  cases h;have jt:=hv;obtain⟨vs,rfl,-⟩:=jt
  exact one hv rfl rfl
 | Gt fn fs=>
  cases h;have jt:=hv;obtain⟨vs,rfl,-⟩:=jt
  exact one hv rfl rfl
 | iface ty d=>
  cases h;have jt:=hv;obtain⟨u,rfl,-⟩:=jt
  exact one hv rfl rfl
 | val u=>
  simp [TV.o4] at h;have jt:=hv;subst jt;cases ho:v.oneCell'<;>rw [ho] at h<;>simp only [aZ,aK] at h
  ·cases h
  ·cases h
   refine one hv ho ?_;cases v<;>first|rfl|cases ho
def Ta(E:TEnv)(ty:Option Ty)(cs:J (TV E))(agg:Bool)(size off:Nat):Option (TV E):=
 cond agg
  (cond (Nat.ble (off+size) cs.length)
   (match ty with
    | none=>some (.agg ((cs.drop off).take size))
    | some t=>match NH E 4 t ((cs.drop off).take size) with
     | some (x,[])=>cond t.isAgg (some (.dat t x)) none
     | _=>some (.agg ((cs.drop off).take size)))
   none)
  cs[off]?
theorem Jb(hE:E.Ok){ty:O Ty}{size:Nat}(hv:bI E w G cs vs)(h1:∀u,u∈vs->u.oneCell'=true)
  (h:Ta E ty cs agg size off=some d):Part E w G vs agg size off d:=by
 unfold Ta at h;cases agg<;>simp at h⊢
 ·exact hv.get off h
 ·cases hb:Nat.ble (off+size) cs.length<;>rw [hb] at h<;>simp only [aZ,aK] at h
  ·cases h
  have hle:=lR hb;refine⟨by rw [hv.length];exact hle,?_⟩;have hp:=(hv.drop off).take size
  have anQ:VT E w G (.agg ((cs.drop off).take size)) (.agg ((vs.drop off).take size).toArray):=by
   grind [VT]
  split at h
  ·cases h;exact anQ
  ·rename_i t
   split at h
   ·cases ha:t.isAgg<;>rw [ha] at h<;>simp only [aZ,aK] at h
    ·cases h
    grind [AJ,bI,VT]
   ·cases h;exact anQ
end Go.RT
namespace Go.RT
variable {E : TEnv}
variable{P:bh}{w0:U}{G0:bq}{st:TS E}{a:Act}{w:U}{G:bq}{o:Oper}{t:aI}{i:TI}{b off:Nat}{d:TV E}{x:dy}{T:Ty}{y:T.den E.D}{r:Nat}{cs:J (TV E)}{ty:O Ty}
theorem sM(ht:aU P t=some i){o':Nat}{vs:J Value}(hc:∀(l:Nat) u,vs[l]? = some u->w.cell? ⟨b,o'+l,none⟩=some u)
   (hp:Part E w G vs i.isAgg i.size off d):∃v,VT E w G d v/\∀w',eY w w'->(Instr.loadAt t (.pointer (some ⟨b,o'+off,none⟩))).run P w'=.ok v w':=by
 have uz:∀l,l<vs.length->w.cell? ⟨b,o'+l,none⟩=some (vs.getD l undef):=fun l hl=>by
  simp_all
 unfold Part at hp;cases ha:i.isAgg<;>rw [ha] at hp<;>simp at hp
 ·obtain⟨u,hu,hv⟩:=hp
  refine⟨u,hv,fun w' hs=>?_⟩;have hl:=(eV.1 hu).1;rw [mF ht b o' vs.length (fun l=>vs.getD l undef) uz off (by rw [ha];exact hl) w' hs]
  simp_all
 ·obtain⟨hl,hv⟩:=hp
  refine⟨_,hv,fun w' hs=>?_⟩;rw [mF ht b o' vs.length (fun l=>vs.getD l undef) uz off (by rw [ha];exact hl) w' hs,ha];simp;apply Af
  ·simp;omega
  grind
theorem Vv(hE:E.Ok)(hr:Rel E w0 G0 st a w G)(ho:o.op=.load t x)(ht:aU P t=some i)
     (hd:st.ev x=.sH T y off)  (hp:TV.part T y i.isAgg i.size off=some d):jw P a w G o d:=by
 have hv:=hr.ev x;rw [hd] at hv;obtain⟨b,o',c,he,h1,h2⟩:=hv;obtain⟨v,hv,hrun⟩:=sM ht (fun l u hl=>(h2 l u hl).2) (K5 hE h1 hp);refine fV (f:=fun ρ=>Instr.loadAt t (ρ x)) (by simp [execOp,ho]) ⟨v,hv,fun w' hs=>?_⟩;rw [he];exact hrun w' (hs (by rw [ho];rfl))
theorem Rel.box(hr:Rel E w0 G0 st a w G)(hb:G.i[r]? = some b){x:fM E}(hx:st.H[r]? = some x):jS E w G b x:=hr.boxes.box r b x hb hx
theorem Vw(hE:E.Ok)(hr:Rel E w0 G0 st a w G)(ho:o.op=.load t x)(ht:aU P t=some i)
   (hd:st.ev x=.ptr r off) {t':aI}  (hb:st.H[r]? = some (.cells t' cs))  
  (hp:Ta E ty cs i.isAgg i.size off=some d):jw P a w G o d:=by
 have hv:=hr.ev x;rw [hd] at hv;obtain⟨b,he,hat⟩:=hv;obtain⟨vs,hh,h1,h2⟩:=hr.box hat hb
 obtain⟨v,hv,hrun⟩:=sM (b:=b) (o':=0) ht (fun l u hl=>by
  grind [cell_of_row]) (Jb hE h2 (fun u hu=>h1 u (by simpa using hu)) hp)
 refine fV (f:=fun ρ=>Instr.loadAt t (ρ x)) (by simp [execOp,ho]) ⟨v,hv,fun w' hs=>?_⟩;rw [he];have:=hrun w' (hs (by rw [ho];rfl));simpa using this
variable{pr:Nat->Nat->Prop}{v:Value}
theorem VD.vR{k:Nat}{es:J (J DV)}(h:VD w pr v (.slice k es)):
  (∃a,v=.slice a 0 0/\es=[])\/∃(b off cap:Nat)(c:Nat->Nat->Value),v=.slice (some ⟨b,off,none⟩) es.length cap/\es.length<=cap /\
   (∀j,j<es.length->(es.getD j []).length=k) /\
   (∀j l,j<es.length->l<k->pr b (off+j*k+l)/\w.cell? ⟨b,off+j*k+l,none⟩=some (c j l)) /\
   (∀j l,j<es.length->l<k->VD w pr (c j l) ((es.getD j []).getD l default)):=by
 cases h with
 | va a k=>simp_all
 | slice b off cap k es c hc hk h0 h=>exact .inr ⟨b,off,cap,c,rfl,hc,hk,h0,h⟩
inductive sN:TV E->(T:Ty)->List (T.den E.D)->Prop
 | dat (T:Ty) (xs:List (T.den E.D)):sN (.dat (.bn T) xs) T xs
 | cA (j aF:Nat) (T:Ty) (xs:List (T.den E.D)):sN (.cA j aF T xs) T xs
variable{xs:J (T.den E.D)}
theorem sN.vd(h:sN d T xs)(hv:VT E w G d v):
  VD w G.pr v (.slice (T.size E) (xs.map (T.cells E))):=by
 cases h with
 | dat=>exact (hv.atom rfl).tw
 | cA=>simp_all [VT]
theorem VT.list(h:VD w G.pr v (.slice (T.size E) (xs.map (T.cells E)))):VT E w G (.dat (.bn T) xs) v:=
 .PB rfl (.single h)
theorem LD.Vx{w:U}{pr:Nat->Nat->Prop}:∀ {vs:J Value}{ds:J DV},vs.length=ds.length->(∀l,l<ds.length->VD w pr (vs.getD l undef) (ds.getD l default))->LD w pr vs ds
 | [],[],_,_=>trivial
 | v::vs,d::ds,hl,h=>⟨by simpa using h 0 si,LD.Vx (by simpa using hl) fun l hl'=>by simpa using h (l+1) (by simpa using hl')⟩
 | [],_::_,hl,_=>by simp at hl
 | _::_,[],hl,_=>by simp at hl
variable{ix:dy}{e:aI}{j1 j2:Nat}{z:Value}{kd:eF}{n:Int}{l:J UInt8}{fs:aG Field}
theorem ab6(hr:Rel E w0 G0 st a w G)(ho:o.op=.indexAddr t x ix)
  (ht:aU P t=some ⟨.slice e,j1,j2,z⟩) (hi:aU P e=some i)     (hd:sN (st.ev x) T xs)
  (hdi:st.ev ix=.dat (.int kd) n) (h0:0<=n) (hn:n<xs.length) (hk:i.size=T.size E):jw P a w G o (.sH T (xs.getD n.toNat (T.dflt E)) 0):=by
 have hv:=hd.vd (hr.ev x);have Dp:=hr.ev ix;rw [hdi] at Dp;have Tb:=Dp.fU;have hnl:n.toNat<xs.length:=om;rcases hv.vR with⟨-,-,hnil⟩|⟨b,off,cap,c,he,hcap,hkk,hc,h⟩
 ·simp at hnil;subst hnil;simp at hnl
 have hes:(xs.map (T.cells E)).getD n.toNat []=T.cells E (xs.getD n.toNat (T.dflt E)):=by
  simp [hnl]
 have hlen:(xs.map (T.cells E)).length=xs.length:=by simp
 rw [hlen] at hcap hkk hc h he;obtain⟨xe,qA,AL,hsz,-⟩:=aM hi;obtain⟨xt,jP,ey,-⟩:=aM ht;have hkn:=hkk _ hnl;rw [hes] at hkn;refine fV (f:=fun ρ=>Instr.indexAt t (ρ x) (ρ ix)) (by simp [execOp,ho]) ⟨.pointer (some ⟨b,off+n.toNat*T.size E+0,none⟩),?_,fun w' hs=>?_⟩
 ·refine⟨b,off+n.toNat*T.size E,(List.range (T.size E)).map (c n.toNat),rfl,LD.Vx (by rw [hkn];simp) (fun l hl=>?_),fun l u hl=>?_⟩
  ·grind
  grind
 ·rw [he]
  unfold Instr.indexAt asIntOf;simp [aQ ey]
  simp_all [if_true,fy,add_lit]
theorem Tc(hr:Rel E w0 G0 st a w G)(ho:o.op=.index t x ix)
  (ht:aU P t=some ⟨.string,j1,j2,z⟩)    (hd:st.ev x=.dat .str l) (hdi:st.ev ix=.dat (.int kd) n) (h0:0<=n) (hn:n<l.length) :
  jw (E:=E) P a w G o (.dat (.int .u8) ((l.getD n.toNat 0).toNat:Int)):=by
 have hv:=hr.ev x;rw [hd] at hv;have Dp:=hr.ev ix;rw [hdi] at Dp;obtain⟨xt,jP,ey,-⟩:=aM ht;have hnl:n.toNat<l.length:=om;refine fV (f:=fun ρ=>Instr.index t (ρ x) (ρ ix)) (by simp [execOp,ho]) ⟨_,.int _ _ _ _,fun w' hs=>?_⟩;rw [hv.hU,Dp.fU];unfold Instr.index asIntOf mkStr;simp [aQ ey,h0]
 have:(ByteArray.mk ⟨l⟩)[n.toNat]? = some (l.getD n.toNat 0):=by
  have hsz:=hnl;rw [getElem?_pos (ByteArray.mk ⟨l⟩) n.toNat hsz];simp [fJ hnl];rfl
 rw [this];rfl
theorem Td(hr:Rel E w0 G0 st a w G){s:aI}{f:Nat}{fd:Field}(ho:o.op=.fieldAddr s x f)
  (ht:aU P s=some ⟨.struct fs,j1,j2,z⟩) (hf:fs[f]? = some fd)  (hi:aU P fd.type=some i) (hz:i.size≠0)    (hd:st.ev x=.sH T y off) :
  jw P a w G o (.sH T y (off+fd.offset)):=by
 have hv:=hr.ev x;rw [hd] at hv;obtain⟨b,o',c,he,h0,h1⟩:=hv;obtain⟨xt,jP,ey,-⟩:=aM ht;obtain⟨xf,hxf,-,hsf,-⟩:=aM hi;refine fV (f:=fun ρ=>Instr.fieldAt s (ρ x) f) (by simp [execOp,ho]) ⟨.pointer (some ⟨b,o'+(off+fd.offset),none⟩),by grind [VT],fun w' hs=>?_⟩;rw [he];unfold Instr.fieldAt Instr.sureAddr;simp [aQ ey,hf];simp [fieldPlace,fy hxf,hsf,hz,add_lit,Pg]
theorem Te(hr:Rel E w0 G0 st a w G){s:aI}{f:Nat}{fd:Field}(ho:o.op=.fieldAddr s x f)
  (ht:aU P s=some ⟨.struct fs,j1,j2,z⟩) (hf:fs[f]? = some fd)  (hi:aU P fd.type=some i) (hz:i.size≠0)  (hd:st.ev x=.ptr r off) :
  jw P a w G o (.ptr r (off+fd.offset):TV E):=by
 have hv:=hr.ev x;rw [hd] at hv;obtain⟨b,he,hat⟩:=hv;obtain⟨xt,jP,ey,-⟩:=aM ht;obtain⟨xf,hxf,-,hsf,-⟩:=aM hi;refine fV (f:=fun ρ=>Instr.fieldAt s (ρ x) f) (by simp [execOp,ho]) ⟨.pointer (some ⟨b,off+fd.offset,none⟩),by simp_all [VT],fun w' hs=>?_⟩;rw [he];unfold Instr.fieldAt Instr.sureAddr;simp [aQ ey,hf];simp [fieldPlace,fy hxf,hsf,hz,add_lit]
def lI(d:Int):O (TV E)->O Int
 | none=>some d
 | some (.dat (.int _) n)=>some n
 | some _=>none
variable{lo hi:O dy}{ds:J (TV E)}{p q:Int}
theorem XT(l:J UInt8)(x y:Nat):(ByteArray.mk ⟨l⟩).extract x y=ByteArray.mk ⟨(l.take y).drop x⟩:=by
 apply ByteArray.ext
 simp_all [SI,List.drop_take]
theorem Dq{k:eF}{y:Nat}{code:BoundsCode}(h0:0<=n)(h1:n<=y)(w':U):(Instr.sliceBound (.int k n) y code).run P w'=.ok n.toNat w':=by
 unfold Instr.sliceBound asIntOf;simp [h0,h1]
theorem E8{isS:Bool}{len cap:Nat}(hlc:len<=cap){lo hi:O Value}{x y:Int}
  (hlo:(lo=none/\x=0)\/∃k,lo=some (.int k x)) (hhi:(hi=none/\y=len)\/∃k,hi=some (.int k y)) (h0:0<=x) (h1:x<=y) (h2:y<=len) (w':U) :
  (Instr.sliceBounds isS len cap lo hi none).run P w'=.ok (x.toNat,y.toNat,cap) w':=by
 unfold Instr.sliceBounds;have hy:∀(k:eF)(code:BoundsCode),(Instr.sliceBound (.int k y) cap code).run P w'=.ok y.toNat w':=fun k code=>Dq om om w';have hx:∀(k:eF)(code:BoundsCode),(Instr.sliceBound (.int k x) y.toNat code).run P w'=.ok x.toNat w':=fun k code=>Dq h0 om w';rcases hlo with⟨rfl,rfl⟩|⟨k,rfl⟩<;>rcases hhi with⟨rfl,rfl⟩|⟨k',rfl⟩
 ·simp
 ·simp [hy]
 ·simp_all
 ·simp [hy,hx]
theorem tB(hr:Rel E w0 G0 st a w G){d x:Int}(hb:lI d (lo.map st.ev)=some x):
  (lo.map a.eval=none/\x=d)\/∃k,lo.map a.eval=some (.int k x):=by
 cases lo with
 | none=>simp_all [lI]
 | some y=>
  have hv:=hr.ev y;simp only [YC] at hb⊢;unfold lI at hb;split at hb
  ·rename_i he;cases he
  ·rename_i k n he
   cases hb;rw [qE he] at hv;exact .inr ⟨k,by rw [hv.fU]⟩
  ·cases hb
theorem XU(hr:Rel E w0 G0 st a w G){j:Nat}(ho:o.op=.extract x j)(hd:st.ev x=.tuple ds)(hj:ds[j]? = some d):
  jw P a w G o d:=by
 have hv:=hr.ev x;rw [hd] at hv;obtain⟨vs,he,h⟩:=hv;obtain⟨u,hu,h⟩:=h.get j hj;refine fV (f:=fun ρ=>Instr.extract (ρ x) j) (by simp [execOp,ho]) ⟨u,h,fun w' hs'=>?_⟩;rw [he];simp at hu;simp [Instr.extract,hu]
theorem XW(hr:Rel E w0 G0 st a w G){c:Call}(ho:o.op=.call c)(hc:c.callee=.builtin .len)(ha:c.args.toList=[x])(hat:c.argTypes.toList=[t])
  (ht:aU P t=some ⟨.string,j1,j2,z⟩)  (hd:st.ev x=.dat .str l):jw (E:=E) P a w G o (.dat (.int .i64) (l.length:Int)):=by
 have hv:=hr.ev x;rw [hd] at hv;obtain⟨xt,jP,ey,-⟩:=aM ht;have gD:c.args=#[x]:=by grind
 have yp:c.argTypes=#[t]:=by grind
 refine⟨_,.int _ _ _ _,fun w' hs=>?_⟩;unfold execOp;simp [ho,resolve,hc,invoke,builtin,gD,yp];rw [hv.hU];simp [Builtin.len_,aQ ey];rfl
theorem AM(hr:Rel E w0 G0 st a w G){c:Call}(ho:o.op=.call c)(hc:c.callee=.builtin .len)(ha:c.args.toList=[x])(hat:c.argTypes.toList=[t])
  (ht:aU P t=some ⟨.slice e,j1,j2,z⟩) {n:Nat} (hval:∃ad cap,a.eval x=.slice ad n cap):jw (E:=E) P a w G o (.dat (.int .i64) (n:Int)):=by
 obtain⟨xt,jP,ey,-⟩:=aM ht;have gD:c.args=#[x]:=by grind
 have yp:c.argTypes=#[t]:=by grind
 obtain⟨ad,cap,he⟩:=hval;refine⟨_,.int _ _ _ _,fun w' hs=>?_⟩;unfold execOp;simp [ho,resolve,hc,invoke,builtin,gD,yp];rw [he];simp [Builtin.len_,aQ ey,goInt]
theorem sN.header(h:sN d T xs)(hv:VT E w G d v):∃ad cap,v=.slice ad xs.length cap:=by
 rcases (h.vd hv).vR with⟨ad,he,hn⟩|⟨b,off,cap,c,he,-⟩
 ·simp_all
 simp_all
theorem Tf(hr:Rel E w0 G0 st a w G)(ho:o.op=.slice t x lo hi none)
  (ht:aU P t=some ⟨.string,j1,j2,z⟩)  (hd:st.ev x=.dat .str l)  (hp:lI 0 (lo.map st.ev)=some p) (hq:lI l.length (hi.map st.ev)=some q)
  (h0:0<=p) (h1:p<=q) (h2:q<=l.length):jw (E:=E) P a w G o (.dat .str ((l.take q.toNat).drop p.toNat)):=by
 have hv:=hr.ev x;rw [hd] at hv;obtain⟨xt,jP,ey,-⟩:=aM ht;refine fV (f:=fun ρ=>Instr.sliceAt t (ρ x) (lo.map ρ) (hi.map ρ) none) (by simp [execOp,ho]) ⟨_,.str _ _ _,fun w' hs=>?_⟩;have BX:=E8 (P:=P) (isS:=false) (ek l.length) (tB hr hp) (tB hr hq) h0 h1 h2 w';rw [hv.hU];unfold Instr.sliceAt;unfold Instr.slice mkStr;have hsz:(ByteArray.mk ⟨l⟩).size=l.length:=rfl
 simp_all [aQ,XT]
theorem R3(hr:Rel E w0 G0 st a w G)(ho:o.op=.slice t x lo hi none)
  (ht:aU P t=some ⟨.slice e,j1,j2,z⟩) (hi':aU P e=some i)   (hd:sN (st.ev x) T xs) 
  (hp:lI 0 (lo.map st.ev)=some p) (hq:lI xs.length (hi.map st.ev)=some q)
  (h0:0<=p) (h1:p<=q) (h2:q<=xs.length) (hk:i.size=T.size E):jw P a w G o (.dat (.bn T) ((xs.take q.toNat).drop p.toNat)):=by
 have hv:=hd.vd (hr.ev x);obtain⟨xt,jP,ey,-⟩:=aM ht;obtain⟨xe,qA,AL,hsz,-⟩:=aM hi';have hmap:((xs.take q.toNat).drop p.toNat).map (T.cells E)=((xs.map (T.cells E)).take q.toNat).drop p.toNat:=by simp
 have hex:∃(ad:O Addr)(cap:Nat),a.eval x=.slice ad xs.length cap/\xs.length<=cap /\
   VT E w G (.dat (.bn T) ((xs.take q.toNat).drop p.toNat)) (.slice (if cap=p.toNat then ad else ad.map (·.add (p.toNat*T.size E))) (q.toNat-p.toNat) (cap-p.toNat)):=by
  have K6:(xs.map (T.cells E)).length=xs.length:=by simp
  generalize hes:xs.map (T.cells E)=es at hv hmap K6;have hlen:((es.take q.toNat).drop p.toNat).length=q.toNat-p.toNat:=by simp;omega
  rcases hv.vR with⟨ad0,he,rfl⟩|⟨b,off,cap,c,he,hcap,hkk,hc,h⟩
  ·have hx0:=D3 K6.symm
   subst hx0;simp at h2;have hp0:p=0:=om;have hq0:q=0:=om;subst hp0;subst hq0;exact⟨ad0,0,he,ek _,.list (.va _ _)⟩
  ·rw [K6] at he hcap
   refine⟨_,_,he,hcap,.list ?_⟩;rw [hmap];rw [<-hlen];by_cases qZ:cap=p.toNat
   ·have hz:((es.take q.toNat).drop p.toNat)=[]:=by
     grind
    rw [hz,if_pos qZ];exact .slice b off (cap-p.toNat) _ [] c (eA _) (fun j hj=>by simp at hj) (fun j l hj=>by simp at hj) (fun j l hj=>by simp at hj)
   ·rw [if_neg qZ]
    simp only [YC,add_lit];refine .slice b (off+p.toNat*T.size E) (cap-p.toNat) _ _ (fun j l=>c (p.toNat+j) l) (by rw [hlen];omega) (fun j hj=>?_) (fun j l hj hl=>?_) (fun j l hj hl=>?_)
    ·grind
    ·grind
    grind
 obtain⟨ad,cap,he,hcap,hV⟩:=hex;refine fV (f:=fun ρ=>Instr.sliceAt t (ρ x) (lo.map ρ) (hi.map ρ) none) (by simp [execOp,ho]) ⟨_,hV,fun w' hs=>?_⟩;have BX:=E8 (P:=P) (isS:=true) hcap (tB hr hp) (tB hr hq) h0 h1 h2 w';unfold Instr.sliceAt;unfold Instr.slice
 simp_all [aQ,fy]
theorem ab7{len cap:Nat}{lo:O Value}{x y m:Int}{k1 k2:eF}
  (hlo:(lo=none/\x=0)\/∃k,lo=some (.int k x)) (h0:0<=x) (h1:x<=y) (h2:y<=m) (h3:m<=cap) (w':U) :
  (Instr.sliceBounds true len cap lo (some (.int k1 y)) (some (.int k2 m))).run P w'=.ok (x.toNat,y.toNat,m.toNat) w':=by
 unfold Instr.sliceBounds;have hm:∀(k:eF)(code:BoundsCode),(Instr.sliceBound (.int k m) cap code).run P w'=.ok m.toNat w':=fun k code=>Dq om om w';have hy:∀(k:eF)(code:BoundsCode),(Instr.sliceBound (.int k y) m.toNat code).run P w'=.ok y.toNat w':=fun k code=>Dq om om w';have hx:∀(k:eF)(code:BoundsCode),(Instr.sliceBound (.int k x) y.toNat code).run P w'=.ok x.toNat w':=fun k code=>Dq h0 om w';rcases hlo with⟨rfl,rfl⟩|⟨k,rfl⟩
 ·simp [hm,hy]
 ·simp [hm,hy,hx]
theorem ZO(hr:Rel E w0 G0 st a w G){hi mx:dy}(ho:o.op=.slice t x lo (some hi) (some mx))
  (ht:aU P t=some ⟨.slice e,j1,j2,z⟩) (hi':aU P e=some i)   (hd:sN (st.ev x) T xs) {m:Int}
  (hp:lI 0 (lo.map st.ev)=some p) (hq:lI 0 (some (st.ev hi))=some q) (hm:lI 0 (some (st.ev mx))=some m)
  (h0:0<=p) (h1:p<=q) (h2:q<=m) (h3:m<=xs.length) (hk:i.size=T.size E):jw P a w G o (.dat (.bn T) ((xs.take q.toNat).drop p.toNat)):=by
 have hv:=hd.vd (hr.ev x);obtain⟨xt,jP,ey,-⟩:=aM ht;obtain⟨xe,qA,AL,hsz,-⟩:=aM hi';have hmap:((xs.take q.toNat).drop p.toNat).map (T.cells E)=((xs.map (T.cells E)).take q.toNat).drop p.toNat:=by simp
 have hex:∃(ad:O Addr)(cap:Nat),a.eval x=.slice ad xs.length cap/\xs.length<=cap /\
   VT E w G (.dat (.bn T) ((xs.take q.toNat).drop p.toNat)) (.slice (if m.toNat=p.toNat then ad else ad.map (·.add (p.toNat*T.size E))) (q.toNat-p.toNat) (m.toNat-p.toNat)):=by
  have K6:(xs.map (T.cells E)).length=xs.length:=by simp
  generalize hes:xs.map (T.cells E)=es at hv hmap K6;have hlen:((es.take q.toNat).drop p.toNat).length=q.toNat-p.toNat:=by simp;omega
  rcases hv.vR with⟨ad0,he,rfl⟩|⟨b,off,cap,c,he,hcap,hkk,hc,h⟩
  ·have hx0:=D3 K6.symm
   subst hx0;simp at h3;have hp0:p=0:=om;have hq0:q=0:=om;have hm0:m=0:=om;subst hp0;subst hq0;subst hm0;exact⟨ad0,0,he,ek _,.list (.va _ _)⟩
  ·rw [K6] at he hcap
   refine⟨_,_,he,hcap,.list ?_⟩;rw [hmap];rw [<-hlen];by_cases qZ:m.toNat=p.toNat
   ·have hz:((es.take q.toNat).drop p.toNat)=[]:=by
     grind
    rw [hz,if_pos qZ];exact .slice b off (m.toNat-p.toNat) _ [] c (eA _) (fun j hj=>by simp at hj) (fun j l hj=>by simp at hj) (fun j l hj=>by simp at hj)
   ·rw [if_neg qZ]
    simp only [YC,add_lit];refine .slice b (off+p.toNat*T.size E) (m.toNat-p.toNat) _ _ (fun j l=>c (p.toNat+j) l) (by rw [hlen];omega) (fun j hj=>?_) (fun j l hj hl=>?_) (fun j l hj hl=>?_)
    ·grind
    ·grind
    grind
 obtain⟨ad,cap,he,hcap,hV⟩:=hex
 have bi:∀(y:dy)(n:Int),lI 0 (some (st.ev y))=some n->∃k,a.eval y=.int k n:=fun y n hb=>by
  rcases tB hr (lo:=some y) hb with⟨h,-⟩|⟨k,h⟩
  ·cases h
  simp_all
 obtain⟨k1,hhi⟩:=bi hi q hq;obtain⟨k2,hmx⟩:=bi mx m hm;refine fV (f:=fun ρ=>Instr.sliceAt t (ρ x) (lo.map ρ) (some (ρ hi)) (some (ρ mx))) (by simp [execOp,ho]) ⟨_,hV,fun w' hs=>?_⟩;have BX:=ab7 (P:=P) (len:=xs.length) (cap:=cap) (k1:=k1) (k2:=k2) (tB hr hp) h0 h1 h2 om w';unfold Instr.sliceAt;unfold Instr.slice
 simp_all [aQ,fy]
def Tg(P:bh)(fs:aG Field):J (TV E)->J (Nat×TV E)->O (J (TV E))
 | cs,[]=>some cs
 | cs,(j,d)::rest=>match fs[j]?,d.o4 with
  | some fd,some l=>match aU P fd.type with
   | some i=>cond (Nat.ble (fd.offset+l.length) cs.length&&Nat.beq l.length i.size) (Tg P fs (cs.take fd.offset++l++cs.drop (fd.offset+l.length)) rest) none
   | none=>none
  | _,_=>none
theorem WS(off:Nat):∀(new:J Value)(i:Nat)(cs:aG Value),off+i+new.length<=cs.size ->
  ((new.zipIdx i).foldl (fun cs (p:Value×Nat)=>cs.setIfInBounds (off+p.2) p.1) cs).toList=cs.toList.take (off+i)++new++cs.toList.drop (off+i+new.length)
 | [],i,cs,_=>by simp
 | v::rest,i,cs,h=>by
  simp;rw [WS off rest (i+1) _ (by simp at h⊢;omega)];have e:=list_seg_step cs.toList (off+i) v rest (by simp at h⊢;omega);simpa [Pg] using e
variable{place:Nat->O (Nat×Nat)}
theorem NI{cells:aG Value}{j size:Nat}{rest:J (Nat×Value)}(hp:place j=some (off,size))
  (hs:v.cells.size=size) (ho:off+size<=cells.size) :
  Instr.fill place cells ((j,v)::rest)=Instr.fill place (cells.toList.take off++v.cells.toList++cells.toList.drop (off+v.cells.size)).toArray rest:=by
 have hf:=WS off v.cells.toList 0 cells bz;rw [Instr.fill,hp];have hc:¬ ((v.cells.size≠size||off+v.cells.size>cells.size)=true):=by simp;omega
 simp only;rw [if_neg hc];congr 1
 grind [Array.ext',Array.toList_zipIdx]
theorem ab8(fs:J Field)(h:∀fd,fd∈fs->∃i,aU P fd.type=some i):
  ∃places:J (Nat×Nat),fs.mapM (fun f=>(P.info? f.type).map fun i=>(f.offset,i.size))=some places /\
   ∀(j:Nat) fd i,fs[j]? = some fd->aU P fd.type=some i->places[j]? = some (fd.offset,i.size):=by
 induction fs with
 | nil=>simp_all
 | cons f fs ih=>
  obtain⟨places,hp,hq⟩:=ih fun fd hfd=>h fd (by simp [hfd]);obtain⟨i,hi⟩:=h f si;obtain⟨x,hx,-,hs,-⟩:=aM hi;refine⟨(f.offset,i.size)::places,by simp_all,fun j fd i' hj hi'=>?_⟩
  grind
theorem Th(hE:E.Ok)(hr:Rel E w0 G0 st a w G){fs:aG Field}{place:Nat->O (Nat×Nat)}
  (hpl:∀(j:Nat) fd i,fs[j]? = some fd->aU P fd.type=some i->place j=some (fd.offset,i.size)) :
  ∀(parts:J (Nat×dy))(cells:aG Value)(ds:J (TV E)){ds':J (TV E)},bI E w G ds cells.toList->(∀u,u∈cells.toList->u.oneCell'=true) ->
  Tg P fs ds (parts.map fun p=>(p.1,st.ev p.2))=some ds' ->
  ∃cells':aG Value,Instr.fill place cells (parts.map fun p=>(p.1,a.eval p.2))=some cells'/\bI E w G ds' cells'.toList/\∀u,u∈cells'.toList->u.oneCell'=true
 | [],cells,ds,ds',h,h1,hf=>by cases hf;exact⟨cells,rfl,h,h1⟩
 | (j,x)::rest,cells,ds,ds',h,h1,hf=>by
  simp only [jU,Tg] at hf;split at hf<;>try trivial
  rename_i fd l hfd hl;split at hf<;>try trivial
  rename_i i hi;cases hb:(Nat.ble (fd.offset+l.length) ds.length&&Nat.beq l.length i.size)<;>rw [hb] at hf<;>simp only [aZ,aK] at hf
  ·cases hf
  rw [cE] at hb;have hsz:=eM hb.2;obtain⟨hx,hx1⟩:=sK hE (hr.ev x) hl;have hlen:(a.eval x).cells.size=l.length:=by simpa using hx.length
  have hcl:cells.size=ds.length:=by simpa using h.length
  simp only [jU];rw [NI (hpl j fd i hfd hi) (by rw [hlen,hsz]) (by simp_all),hlen];refine Th hE hr hpl rest _ _ ?_ ?_ hf
  ·exact ((h.take _).append hx).append (h.drop _)
  grind
theorem bI.ofValues:∀ {vs:J Value},bI E w G (vs.map TV.JZ) vs
 | []=>.nil
 | v::vs=>.cons (ZL w G v) bI.ofValues
def PC(E:TEnv)(ty:O Ty)(cs:J (TV E)):TV E:=
 match ty with
 | none=>.agg cs
 | some t=>match NH E 4 t cs with
  | some (x,[])=>cond t.isAgg (.dat t x) (.agg cs)
  | _=>.agg cs
theorem Jc(hE:E.Ok){vs:aG Value}(h:bI E w G cs vs.toList)(h1:∀u,u∈vs.toList->u.oneCell'=true):VT E w G (PC E ty cs) (.agg vs):=by
 unfold PC
 grind [AJ,bI,VT]
theorem ab9(hE:E.Ok)(hr:Rel E w0 G0 st a w G){parts:aG (Nat×dy)}{z:aG Value}(ho:o.op=.build t parts)
  (ht:aU P t=some ⟨.struct fs,j1,j2,.agg z⟩) (h2:(z.toList.all (·.oneCell')&&fs.toList.all fun fd=>(aU P fd.type).isSome)=true) 
  (hf:Tg P fs (z.toList.map TV.JZ) (parts.toList.map fun p=>(p.1,st.ev p.2))=some ds) (ty:O Ty):jw P a w G o (PC E ty ds):=by
 rw [cE] at h2;obtain⟨places,hpl,hpq⟩:=ab8 fs.toList (fun fd hfd=>Option.isSome_iff_exists.1 (p4.1 h2.2 fd hfd));obtain⟨xt,jP,ey,hsz,hby,hz⟩:=aM ht
 obtain⟨cells,hc,hl,hl1⟩:=Th hE hr (place:=(places.toArray[·]?)) (fun j fd i hj hi=>by
  simp_all) parts.toList z (z.toList.map TV.JZ) bI.ofValues (fun u hu=>p4.1 h2.1 u hu) hf
 refine fV (f:=fun ρ=>Instr.build t (parts.map fun (i,x)=>(i,ρ x))) (by simp [execOp,ho]) ⟨.agg cells,Jc hE hl hl1,fun w' hs=>?_⟩;refine run_build w' t _ cells ?_;unfold Program.built;simp only [jP,ey,hz,hpl];rw [show (parts.map fun (i,x)=>(i,a.eval x)).toList=parts.toList.map fun p=>(p.1,a.eval p.2) by simp];exact hc
def TV.J2:TV E->O ((T:Ty)×J (T.den E.D))
 | .dat (.bn T) xs=>some ⟨T,xs⟩
 | .cA _ _ T xs=>some ⟨T,xs⟩
 | _=>none
theorem TV.H8(h:d.J2=some ⟨T,xs⟩):sN d T xs:=by
 unfold TV.J2 at h;split at h
 ·cases h;exact .dat _ _
 ·cases h;exact .cA _ _ _ _
 ·cases h
def okT(x:O (TV E)):O (Bool×TV E):=match x with
 | some d=>some (true,d)
 | none=>none
def anR(d:TV E)(k:TypeDesc):O (TV E):=
 match k,d with
 | .string,.dat .str l=>some (.dat (.int .i64) (l.length:Int))
 | .slice _,.dat (.bn T) xs=>some (.dat (.int .i64) (xs.length:Int))
 | .slice _,.cA _ _ T xs=>some (.dat (.int .i64) (xs.length:Int))
 | .slice _,.val (.slice none 0 0)=>some (.dat (.int .i64) (0:Int))
 | _,_=>none
def JK(n:Int):J UInt8:=(Utf8.encode n).data.toList
def alb(P:bh)(src dst:aI)(d:TV E):O (TV E):=
 match d,aU P src,aU P dst with
 | .dat (.int _) n,some _,some ⟨.int kk,_,_,_⟩=>some (.dat (.int kk) (kk.wrap n))
 | .dat .str l,some _,some ⟨.string,_,_,_⟩=>some (.dat .str l)
 | .dat (.int _) n,some _,some ⟨.string,_,_,_⟩=>some (.dat .str (JK n))
 | _,_,_=>none
def PD(P:bh)(ty:aI->O Ty)(st:TS E):Op->O (Bool×TV E)
 | .move x=>some (true,st.ev x)
 | .assign x=>some (true,st.ev x)
 | .load t x=>match aU P t,st.ev x with
  | some i,.sH T y off=>okT (TV.part T y i.isAgg i.size off)
  | some i,.ptr r off=>match st.H[r]? with
   | some (.cells _ cs)=>okT (Ta E (ty t) cs i.isAgg i.size off)
   | _=>none
  | _,_=>none
 | .nilCheck x=>match st.ev x with
  | .ptr r off=>some (true,.ptr r off)
  | .sH T y off=>some (true,.sH T y off)
  | .func (.func f) cap=>some (true,.func (.func f) cap)
  | _=>none
 | .binOp op _ x y _=>ajb op (st.ev x) (st.ev y)
 | .unOp op _ x=>match op,st.ev x with
  | .not,.dat .bool b=>some (true,.dat .bool (!b))
  | .neg,.dat (.int k) n=>some (true,.dat (.int k) (k.wrap (0-n)))
  | .xor,.dat (.int k) n=>some (true,.dat (.int k) (Vr k n))
  | _,_=>none
 | .makeFunc fn first cap=>match first.toList with
  | []=>some (true,.func fn (cap.toList.map st.ev))
  | x::xs=>match cap.toList with
   | []=>some (true,.Gt fn ((x::xs).map st.ev))
   | _=>none
 | .fieldAddr s x f=>match aU P s,st.ev x with
  | some ⟨.struct fs,_,_,_⟩,.sH T y off=>match fs[f]? with
   | some fd=>match aU P fd.type with
    | some i=>some (!(Nat.beq i.size 0),.sH T y (off+fd.offset))
    | none=>none
   | none=>none
  | some ⟨.struct fs,_,_,_⟩,.ptr r off=>match fs[f]? with
   | some fd=>match aU P fd.type with
    | some i=>some (!(Nat.beq i.size 0),.ptr r (off+fd.offset))
    | none=>none
   | none=>none
  | _,_=>none
 | .indexAddr t x ix=>match aU P t,(st.ev x).J2,st.ev ix with
  | some ⟨.slice e,_,_,_⟩,some ⟨T,xs⟩,.dat (.int _) n=>match aU P e with
   | some i=>some (Nat.beq i.size (T.size E)&&(decide (0<=n)&&decide (n<(xs.length:Int))),.sH T (xs.getD (Int.toNat n) (T.dflt E)) 0)
   | none=>none
  | _,_,_=>none
 | .index t x ix=>match aU P t,st.ev x,st.ev ix with
  | some ⟨.string,_,_,_⟩,.dat .str l,.dat (.int _) n=>some (decide (0<=n)&&decide (n<(l.length:Int)),.dat (.int .u8) ((l.getD (Int.toNat n) 0).toNat:Int))
  | _,_,_=>none
 | .extract x j=>match st.ev x with
  | .tuple ds=>okT ds[j]?
  | _=>none
 | .build t parts=>match aU P t with
  | some ⟨.struct fs,_,_,.agg z⟩=>match Tg P fs (z.toList.map TV.JZ) (parts.toList.map fun p=>(p.1,st.ev p.2)) with
   | some ds=>some (z.toList.all (·.oneCell')&&fs.toList.all (fun fd=>(aU P fd.type).isSome),PC E (ty t) ds)
   | none=>none
  | _=>none
 | .convert src dst x=>okT (alb P src dst (st.ev x))
 | .makeInterface t x=>match aU P t with
  | some ⟨.interface _,_,_,_⟩=>none
  | some _=>some (true,.iface t (st.ev x))
  | none=>none
 | .slice t x lo hi none=>match aU P t,st.ev x with
  | some ⟨.string,_,_,_⟩,.dat .str l=>match lI 0 (lo.map st.ev),lI (l.length:Int) (hi.map st.ev) with
   | some p,some q=>some (decide (0<=p)&&(decide (p<=q)&&decide (q<=(l.length:Int))),.dat .str ((l.take q.toNat).drop p.toNat))
   | _,_=>none
  | some ⟨.slice e,_,_,_⟩,d=>match d.J2,aU P e with
   | some ⟨T,xs⟩,some i=>match lI 0 (lo.map st.ev),lI (xs.length:Int) (hi.map st.ev) with
    | some p,some q=>some (Nat.beq i.size (T.size E)&&(decide (0<=p)&&(decide (p<=q)&&decide (q<=(xs.length:Int)))),.dat (.bn T) ((xs.take q.toNat).drop p.toNat))
    | _,_=>none
   | _,_=>none
  | _,_=>none
 | .slice t x lo (some hi) (some mx)=>match aU P t,st.ev x with
  | some ⟨.slice e,_,_,_⟩,d=>match d.J2,aU P e with
   | some ⟨T,xs⟩,some i=>match lI 0 (lo.map st.ev),lI 0 (some (st.ev hi)),lI 0 (some (st.ev mx)) with
    | some p,some q,some m=>some (Nat.beq i.size (T.size E)&&(decide (0<=p)&&(decide (p<=q)&&(decide (q<=m)&&decide (m<=(xs.length:Int))))),.dat (.bn T) ((xs.take q.toNat).drop p.toNat))
    | _,_,_=>none
   | _,_=>none
  | _,_=>none
 | .call c=>match c.callee,c.args.toList,c.argTypes.toList with
  | .builtin .len,[x],[t]=>match aU P t with
   | some i=>okT (anR (st.ev x) i.kind)
   | none=>none
  | _,_,_=>none
 | _=>none
theorem Cs{x:O (TV E)}{c:Bool}(h:okT x=some (c,d)):x=some d:=by
 cases x with
 | none=>cases h
 | some y=>cases h;rfl
theorem acd(hE:E.Ok)(hr:Rel E w0 G0 st a w G){ty:aI->O Ty}{c:Bool}(h:PD P ty st o.op=some (c,d))(hc:c=true):jw P a w G o d:=by
 cases ho:o.op<;>rw [ho] at h<;>simp only [PD] at h
 case move x=>grind [ZN]
 case assign x=>grind [ZN]
 case load t x=>
  grind [Vv,Cs,Vw]
 case nilCheck x=>
  have hv:=hr.ev x;split at h<;>try trivial
  ·rename_i r off hd
   cases h;rw [hd] at hv;have jt:=hv;obtain⟨b,he,-⟩:=jt;exact⟨_,hv,fun w' hs=>by simp [execOp,ho,he]⟩
  ·rename_i T y off hd
   cases h;rw [hd] at hv;have jt:=hv;obtain⟨b,o',c',he,-⟩:=jt;exact⟨_,hv,fun w' hs=>by simp [execOp,ho,he]⟩
  ·rename_i f cap hd
   cases h;rw [hd] at hv;have jt:=hv;obtain⟨vs,he,-⟩:=jt;exact⟨_,hv,fun w' hs=>by simp [execOp,ho,he]⟩
 case binOp op t x y ty'=>
  obtain⟨r,hv,hrun⟩:=aeY (P:=P) (op:=op) (t:=t) (x:=x) (y:=y) (hr.ev x) (hr.ev y) h hc;exact fV (f:=fun ρ=>do eqGuard op t x y (ρ x) (ρ y);binOp op t (ρ x) (ρ y)) (by simp [execOp,ho]) ⟨r,hv,fun w' _=>hrun w'⟩
 case unOp op t x=>
  have hv:=hr.ev x;split at h<;>try trivial
  ·rename_i b hd
   cases h;rw [hd] at hv;exact⟨_,.bool _ _ _,fun w' hs=>by simp [execOp,ho,hv.mh,Op.unary]⟩
  ·rename_i k n hd
   cases h;rw [hd] at hv;exact⟨_,.int _ _ _ _,fun w' hs=>by simp [execOp,ho,hv.fU,Op.unary,Op.intArith]⟩
  ·rename_i k n hd
   cases h;rw [hd] at hv
   exact⟨_,.int _ _ _ _,fun w' hs=>by
    simp only [execOp,ho,hv.fU,Op.unary,Vt];rfl⟩
 case makeFunc fn first cap=>
  have evs:∀l:J dy,bI E w G (l.map st.ev) (l.map a.eval):=by
   intro l
   induction l with
   | nil=>exact .nil
   | cons y l ih=>exact .cons (hr.ev y) ih
  split at h
  rotate_left
  ·rename_i x xs hf
   split at h<;>try trivial
   cases h;have uz:cap=#[]:=by simp_all
   refine fV (f:=fun ρ=>Instr.makeFunc fn (first.map ρ) (cap.map ρ)) (by simp [execOp,ho]) ⟨.func fn (first.map a.eval) #[],?_,fun w' _=>by simp [Instr.makeFunc,uz]⟩;simp only [VT];rw [<-hf];simpa using evs first.toList
  rename_i hf;cases h;have hf':first=#[]:=by simp_all
  refine fV (f:=fun ρ=>Instr.makeFunc fn (first.map ρ) (cap.map ρ)) (by simp [execOp,ho]) ⟨.func fn #[] (cap.map a.eval),?_,fun w' _=>by simp [Instr.makeFunc,hf']⟩
  simp_all [VT,bI]
 case fieldAddr s x f=>
  split at h<;>try trivial
  ·rename_i fs j1 j2 z T y off hs hd
   split at h<;>try trivial
   rename_i fd hf;split at h<;>try trivial
   rename_i i hi;cases h;refine Td hr ho hs hf hi (fun h0=>?_) hd;rw [h0] at hc;cases hc
  ·rename_i fs j1 j2 z r off hs hd
   split at h<;>try trivial
   rename_i fd hf;split at h<;>try trivial
   rename_i i hi;cases h;refine Te hr ho hs hf hi (fun h0=>?_) hd;rw [h0] at hc;cases hc
 case indexAddr t x ix=>
  grind [ab6,TV.H8,Nat.eq_of_beq_eq_true]
 case index t x ix=>
  grind [Tc]
 case extract x j=>
  grind [XU,Cs]
 case build t parts=>
  grind [ab9]
 case convert src dst x=>
  have hb:=Cs h;have hv:=hr.ev x;unfold alb at hb;split at hb<;>try trivial
  ·rename_i k n _ kk j1 j2 z hd hs ZP
   cases hb;rw [hd] at hv;obtain⟨xs,hxs,QU,-⟩:=aM hs;obtain⟨xd,hxd,hud,-⟩:=aM ZP;refine fV (f:=fun ρ=>convert src dst (ρ x)) (by simp [execOp,ho]) ⟨_,.int _ _ _ _,fun w' _=>?_⟩;rw [hv.fU];unfold convert;simp only [jf,aQ QU,aQ hud,jG];rfl
  ·rename_i l _ j1 j2 z hd hs ZP
   cases hb;rw [hd] at hv;obtain⟨xs,hxs,QU,-⟩:=aM hs;obtain⟨xd,hxd,hud,-⟩:=aM ZP;refine fV (f:=fun ρ=>convert src dst (ρ x)) (by simp [execOp,ho]) ⟨_,.str _ _ _,fun w' _=>?_⟩;rw [hv.hU];unfold convert mkStr
   simp_all [jf,aQ,jG]
  ·rename_i k n _ j1 j2 z hd hs ZP
   cases hb;rw [hd] at hv;obtain⟨xs,hxs,QU,-⟩:=aM hs;obtain⟨xd,hxd,hud,-⟩:=aM ZP;refine fV (f:=fun ρ=>convert src dst (ρ x)) (by simp [execOp,ho]) ⟨_,.str _ _ _,fun w' _=>?_⟩;rw [hv.fU];unfold convert mkStr JK;simp only [jf,aQ QU,aQ hud,jG];rfl
 case makeInterface t x=>
  split at h<;>try trivial
  rename_i ti hne ht;cases h;obtain⟨xt,jP,ey,-⟩:=aM ht;refine fV (f:=fun ρ=>Instr.makeInterface t (ρ x)) (by simp [execOp,ho]) ⟨.iface t (a.eval x),by simp only [VT];exact⟨_,rfl,hr.ev x⟩,fun w' _=>?_⟩;unfold Instr.makeInterface;simp only [jf,aQ ey,jG];split
  ·rename_i ms hk
   exact (hne ms _ _ _ (by rw [<-hk])).elim
  ·rfl
 case slice t x lo hi mx=>
  cases mx with
  | some m=>
   cases hi with
   | none=>simp at h
   | some hi=>
    grind [ZO,TV.H8,Nat.eq_of_beq_eq_true]
  | none=>
   grind [Tf,R3,TV.H8,Nat.eq_of_beq_eq_true]
 case call c'=>
  split at h<;>try trivial
  rename_i x t hcl ha hat;split at h<;>try trivial
  rename_i i ht;have hb:=Cs h;have hv:=hr.ev x;obtain⟨kind,j1,j2,z⟩:=i;unfold anR at hb;split at hb<;>try trivial
  ·grind [XW]
  ·rename_i e T xs hk hd
   cases hb;dsimp only at hk;subst hk;rw [hd] at hv;exact AM hr ho hcl ha hat ht ((sN.dat T xs).header hv)
  ·rename_i e j aF T xs hk hd
   cases hb;dsimp only at hk;subst hk;rw [hd] at hv;exact AM hr ho hcl ha hat ht ((sN.cA j aF T xs).header hv)
  ·rename_i e hk hd
   cases hb;dsimp only at hk;subst hk;rw [hd] at hv;exact AM (n:=0) hr ho hcl ha hat ht ⟨_,_,hv⟩
 all_goals cases h
variable{w' w'':U}{G' G'':bq}
theorem iB.refl(w:U)(G:bq):iB w G w G:=
 ⟨fun _ _ h=>h,fun _ _ _ _ h=>h,fun _ _ h=>h,fun j x h hj=>⟨x,h,hj,ek _,fun _=>rfl⟩⟩
theorem iB.trans(h:iB w G w' G')(h':iB w' G' w'' G''):iB w G w'' G'':=by
 refine⟨fun b o hp=>h'.pr b o (h.pr b o hp),fun b o v hp hv=>h'.cells b o v (h.pr b o hp) (h.cells b o v hp hv),fun r b hb=>h'.i r b (h.i r b hb),fun j x y hj=>?_⟩;obtain⟨x1,y1,h1,l1,e1⟩:=h.g j x y hj;obtain⟨x2,y2,h2,l2,e2⟩:=h'.g j x1 y1 h1
 grind
theorem kQ.refl(w:U)(G:bq):kQ w G w G:=
 ⟨rfl,rfl,rfl,ek _,fun _ _ _=>rfl,.refl w G,fun _ _ _ h=>.inl h,fun r b hl hb=>by
  simp_all,fun j x h b hj hb=>.inr ⟨x,h,hj,hb⟩⟩
theorem gj.mono(hg:iB w G w' G'){kt vt:Ty}:∀ {es:J MapEntry}{m:J (kt.den E.D×vt.den E.D)},gj E w G kt vt es m->gj E w' G' kt vt es m
 | [],[],_=>trivial
 | _::_,_::_,h=>⟨h.1.mono hg,h.2.1.mono hg,gj.mono hg h.2.2⟩
 | [],_::_,h=>h.elim
 | _::_,[],h=>h.elim
theorem DOk.mono(hg:iB w G w' G'){d:Deferred}{x:FuncId×J (TV E)}(h:DOk E w G d x):DOk E w' G' d x:=
 h.imp (fun⟨h0,cap,h1,h2⟩=>⟨h0,cap,h1,h2.mono hg⟩) fun⟨h0,b,h1,h2⟩=>⟨h0,b,h1,h2.mono hg⟩
theorem kj.mono(hg:iB w G w' G'):∀ {ds:J Deferred}{xs:J (FuncId×J (TV E))},kj E w G ds xs->kj E w' G' ds xs
 | [],[],_=>trivial
 | _::_,_::_,h=>⟨h.1.mono hg,kj.mono hg h.2⟩
 | [],_::_,h=>h.elim
 | _::_,[],h=>h.elim
theorem jS.mono(hg:iB w G w' G'){x:fM E}(h:jS E w G b x)(hb:w'.heap[b]? = w.heap[b]?):jS E w' G' b x:=by
 cases x with
 | cells t cs=>
  obtain⟨vs,h1,h2,h3⟩:=h
  exact⟨vs,by rw [hb];exact h1,h2,h3.mono hg⟩
 | iter s pos=>show _=_;rw [hb];exact h
 | loop y ds=>obtain⟨Y,fn,tmps,D,h0,h1,h2⟩:=h;exact⟨Y,fn,tmps,D,h0,by rw [hb];exact h1,h2.mono hg⟩
 | gone=>obtain⟨o,h,h'⟩:=h;exact⟨o,by rw [hb];exact h,h'⟩
 | QS=>show _=_;rw [hb];exact h
 | map kt vt m=>obtain⟨es,clock,h1,h2,h3⟩:=h;exact⟨es,clock,by rw [hb];exact h1,h2,h3.mono hg⟩
 | lC e cap t xs d=>obtain⟨cur,h1,h2,h4,h5,h6⟩:=h;exact⟨cur,by rw [hb];exact h1,h2,fun i x hx=>(h4 i x hx).mono hg,h5.mono hg,h6⟩
theorem eY.alloc(w:U)(o:Obj):eY w (w.alloc o):=⟨si,fun b hb=>heap_alloc_old w o b hb⟩
theorem eY.trans{w1 w2 w3:U}(h:eY w1 w2)(h':eY w2 w3):eY w1 w3:=⟨oD h.1 h'.1,fun b hb=>(h'.2 b (jN hb h.1)).trans (h.2 b hb)⟩
theorem yE.same{x:cH}{h:Value}(hg:yE E w G x h)(hs:eY w w')(hi:∀b,b∈G'.i->b<w.heap.size->b∈G.i)(Gu:∀b o,b<w.heap.size->G'.pr b o->G.pr b o):yE E w' G' x h:=by
 obtain⟨n,xs,ho,hz,hb⟩:=hg;refine⟨n,xs,⟨ho.1,?_⟩,hz,fun b Gp=>?_⟩
 ·rcases ho.2 with h2|⟨g,cap,cur,h2,h3,h4,h5⟩
  ·exact .inl h2
  ·exact .inr ⟨g,cap,cur,h2,h3,by rw [hs.2 g (Ag.1 h4).1];exact h4,h5⟩
 ·obtain⟨h1,h2,h3⟩:=hb b Gp
  exact⟨jN h1 hs.1,fun hm=>h2 (hi b hm h1),fun o hno sO=>h3 o hno (Gu b o h1 sO)⟩
theorem sI.keep{x x':cH}{hd:Value}{c:Cn E}(h:sI E w G x hd c)(he:x'.e=x.e)(hk:x'.k=x.k)(sO:∀b o,G.pr b o->G'.pr b o)(hcl:∀b o v,G.pr b o->w.cell? ⟨b,o,none⟩=some v->w'.cell? ⟨b,o,none⟩=some v)(hb:∀b,hd.ownBlock=some b->w'.heap[b]? = w.heap[b]?/\∀o,G'.pr b o->G.pr b o):
  sI E w' G' x' hd c:=by
 obtain⟨h1,h2,⟨vals,ho,hf⟩,hp⟩:=h;refine⟨by rw [hk];exact h1,by rw [hk];exact h2,⟨vals,⟨by rw [hk];exact ho.1,?_⟩,by rw [hk];exact hf.mono sO hcl⟩,fun b hbk o sO=>hp b hbk o ((hb b hbk).2 o sO)⟩;rcases ho.2 with q|⟨g,cap,cur,q1,q2,q3,q4⟩
 ·exact .inl q
 ·refine .inr ⟨g,cap,cur,q1,q2,?_,by rw [hk];exact q4⟩
  rw [(hb g (by rw [q1];rfl)).1,he];exact q3
theorem kH.keep{cs:J (Nat×Cn E)}(h:kH E w G cs)(hg:iB w G w' G')(hrow:∀(j:Nat) x hd,G.g[j]? = some (x,hd)->(∃c,(j,c)∈cs)->∃x',G'.g[j]? = some (x',hd)/\x'.e=x.e/\x'.k=x.k/\∀b,hd.ownBlock=some b->w'.heap[b]? = w.heap[b]?/\∀o,G'.pr b o->G.pr b o):
  kH E w' G' cs:=by
 intro j c hj;obtain⟨x,hd,h1,h2⟩:=h j c hj;obtain⟨x',q1,q2,q3,q4⟩:=hrow j x hd h1 ⟨c,hj⟩;exact⟨x',hd,q1,h2.keep q2 q3 hg.pr hg.cells q4⟩
theorem Rel.grow(h:Rel E w0 G0 st a w G)(hs:eY w w')(h1:w'.os=w.os)(h2:w'.tape=w.tape)(h3:w'.output=w.output)(lH:Nat->Nat->Prop)
  (hp:∀b o,G.pr b o->lH b o) (Gu:∀b o,b<w.heap.size->lH b o->G.pr b o) (ZQ:∀b o,lH b o->b<w'.heap.size) :
  Rel E w0 G0 st a w' {G with pr:=lH}:=by
 have hg:iB w G w' {G with pr:=lH}:=⟨hp,fun b o v _ hv=>hs.cell hv,fun _ _ h=>h,fun j x y hj=>⟨x,y,hj,ek _,fun _=>rfl⟩⟩;have ev:=h.eX
 refine⟨⟨h1.trans ev.os,h2.trans ev.tape,h3.trans ev.output,oD ev.size hs.1,fun b hb hn=>(hs.2 b (jN hb ev.size)).trans (ev.old b hb hn),ev.goes.trans hg,
  fun b o hb sO=>ev.oe b o hb (Gu b o (jN hb ev.size) sO),ev.qH,ev.gL⟩,h.size,fun j d hj=>(h.tmps j d hj).mono hg,h.defers.mono hg,?_,fun r b hb hd=>(hs.2 b (h.boxes.lt b (jo (h.eX.goes.i r b hb)))).trans (h.fix r b hb hd),h.pins,h.gr.keep hg fun j x hd hj _=>⟨x,hj,rfl,rfl,fun b hbk=>by
   obtain⟨n,xs,-,-,hb⟩:=h.boxes.grow j x hd hj;exact⟨hs.2 b (hb b hbk).1,fun o=>Gu b o (hb b hbk).1⟩⟩⟩
 refine⟨h.boxes.len,h.boxes.gs,fun r b x hb hx=>(h.boxes.box r b x hb hx).mono hg (hs.2 b (h.boxes.lt b (jo hb))),fun b hb=>jN (h.boxes.lt b hb) hs.1,h.boxes.nodup,
  fun b o sO=>⟨ZQ b o sO,fun hm=>(h.boxes.gq b o (Gu b o (h.boxes.lt b hm) sO)).2 hm⟩,fun j x y hj=>(h.boxes.grow j x y hj).same hs (fun b hb _=>hb) Gu,h.boxes.apart⟩
theorem Rel.J3(h:Rel E w0 G0 st a w G)(o:Obj)(x:fM E)(hx:jS E (w.alloc o) G w.heap.size x):
  Rel E w0 G0 {st with H:=st.H++[x]} a (w.alloc o) {G with i:=G.i++[w.heap.size]}:=by
 have h':=h.grow (eY.alloc w o) rfl rfl rfl G.pr (fun _ _ h=>h) (fun _ _ _ h=>h) (fun b o' hp=>jN (h.boxes.gq b o' hp).1 si)
 have hg:iB (w.alloc o) G (w.alloc o) {G with i:=G.i++[w.heap.size]}:=⟨fun _ _ h=>h,fun _ _ _ _ h=>h,fun r b hb=>by
  grind,fun j x y hj=>⟨x,y,hj,Nat.le_refl _,fun _=>rfl⟩⟩
 have ev:=h'.eX;refine⟨⟨ev.os,ev.tape,ev.output,ev.size,ev.old,ev.goes.trans hg,ev.oe,fun r b hl hb=>?_,ev.gL⟩,h.size,fun j d hj=>(h'.tmps j d hj).mono hg,h'.defers.mono hg,?_,h'.fix,h.pins,h'.gr.keep hg fun j x hd hj _=>⟨x,hj,rfl,rfl,fun b hbk=>⟨rfl,fun o h=>h⟩⟩⟩
 ·by_cases hr:r<G.i.length
  ·rw [vq hr] at hb
   exact ev.qH r b hl hb
  ·have:=(eV.1 hb).1
   simp at this;have hre:r=G.i.length:=om;subst hre;simp at hb;subst hb;exact h.eX.size
 refine⟨by simp [h.boxes.len],h.boxes.gs,fun r b y hb hy=>?_,fun b hb=>?_,?_,fun b o' hp=>?_,fun j y z hj=>?_,h.boxes.apart⟩
 ·by_cases hr:r<G.i.length
  ·rw [vq hr] at hb
   rw [vq (by rw [<-h.boxes.len];exact hr)] at hy;exact (h'.boxes.box r b y hb hy).mono hg rfl
  ·have:=(eV.1 hb).1
   simp at this;have hre:r=G.i.length:=om;subst hre;simp at hb;rw [h.boxes.len] at hy;simp at hy;subst hb;subst hy;exact hx.mono hg rfl
 ·rcases qF.1 hb with hb|hb
  ·exact h'.boxes.lt b hb
  simp_all
 ·refine List.nodup_append.2 ⟨h.boxes.nodup,si,fun b hb c hc=>?_⟩
  simp at hc;subst hc;exact Nat.ne_of_lt (h.boxes.lt b hb)
 ·obtain⟨p1,p2⟩:=h.boxes.gq b o' hp
  refine⟨jN p1 si,fun hm=>?_⟩
  simp_all
 ·refine (h.boxes.grow j y z hj).same (eY.alloc w o) (fun b hb hlt=>?_) (fun _ _ _ h=>h)
  grind
end Go.RT
namespace Go.RT
variable {E : TEnv}
variable{P:bh}{w0 w w' w'':U}{G0 G G' G'':bq}{st:TS E}{a:Act}{o:Oper}
theorem Rel.yG(h:Rel E w0 G0 st a w G){r b:Nat}(hat:G.i[r]? = some b)(hsz:w'.heap.size=w.heap.size)(h1:w'.os=w.os)(h2:w'.tape=w.tape)(h3:w'.output=w.output)
  (nQ:∀b',b'≠b->w'.heap[b']? = w.heap[b']?) {x:fM E} (hx:iB w G w' G->jS E w' G b x):Rel E w0 G0 {st with H:=st.H.set r x,d:=r::st.d} a w' G:=by
 have hin:=jo hat;have aqP:=fun o hp=>(h.boxes.gq b o hp).2 hin
 have hg:iB w G w' G:=⟨fun _ _ h=>h,fun b' o v hp hv=>by
  have:b'≠b:=fun e=>by subst e;exact aqP o hp
  rw [U3 (nQ b' this)];exact hv,fun _ _ h=>h,fun j x y hj=>⟨x,y,hj,ek _,fun _=>rfl⟩⟩
 have ev:=h.eX
 refine⟨⟨h1.trans ev.os,h2.trans ev.tape,h3.trans ev.output,by rw [hsz];exact ev.size,fun b' hb' hn=>?_,ev.goes.trans hg,ev.oe,ev.qH,ev.gL⟩,h.size,fun j d hj=>(h.tmps j d hj).mono hg,h.defers.mono hg,?_,fun r' b' hb' hd=>?_,h.pins,h.gr.keep hg fun j y z hj _=>⟨y,hj,rfl,rfl,fun c hbk=>⟨nQ c (fun e=>by
   obtain⟨n,xs,-,-,hb⟩:=h.boxes.grow j y z hj
   simp_all),fun o h=>h⟩⟩⟩
 ·rw [nQ b' (fun e=>?_)]
  ·exact ev.old b' hb' hn
  ·subst e
   by_cases hr:r<G0.i.length
   ·have e1:=ev.goes.i r _ (fJ hr)
    rw [hat] at e1;exact hn (.inl (by simp_all))
   ·have:=ev.qH r b' om hat
    omega
 rotate_left
 ·simp at hd
  have q0:=ev.goes.i r' b' hb';rw [nQ b' (fun e=>?_)]
  ·exact h.fix r' b' hb' hd.2
  ·subst e
   have q1:=eV.1 hat;have q2:=eV.1 q0;exact hd.1 ((SJ h.boxes.nodup).1 (q2.2.trans q1.2.symm))
 refine⟨by simp [h.boxes.len],h.boxes.gs,fun r' b' y hb' hy=>?_,fun b' hb'=>by rw [hsz];exact h.boxes.lt b' hb',h.boxes.nodup,fun b' o hp=>by rw [hsz];exact h.boxes.gq b' o hp,fun j y z hj=>?_,h.boxes.apart⟩
 ·by_cases hr:r=r'
  ·grind
  ·have hne:b'≠b:=fun e=>by
    subst e;have q1:=eV.1 hat;have q2:=eV.1 hb';exact hr ((SJ h.boxes.nodup).1 (q1.2.trans q2.2.symm))
   rw [Na hr] at hy;exact (h.boxes.box r' b' y hb' hy).mono hg (nQ b' hne)
 ·obtain⟨n,xs,ho,hz,hb⟩:=h.boxes.grow j y z hj
  refine⟨n,xs,⟨ho.1,?_⟩,hz,fun c hcl=>?_⟩
  ·rcases ho.2 with h2|⟨g,cap,cur,h2,h3,h4,h5⟩
   ·exact .inl h2
   ·refine .inr ⟨g,cap,cur,h2,h3,?_,h5⟩
    rw [nQ g (fun e=>?_)]
    ·exact h4
    ·subst e
     exact (hb g (by rw [h2];rfl)).2.1 hin
  simp_all
def jO(P:bh)(w0:U)(G0:bq)(a:Act)(w:U)(o:Oper)(st':TS E):Prop:=
 ∃nx v w' G',(execOp a.eval o).run P w=.ok nx w'/\(nx=.value v\/(nx=.skip/\v=undef))/\Rel E w0 G0 st' (a.put o.dst v) w' G'
theorem jw.ajd(hr:Rel E w0 G0 st a w G){d:TV E}(h:jw P a w G o d):jO P w0 G0 a w o {st with t:=cx st.t o.dst d}:=by
 obtain⟨v,hv,hrun⟩:=h;exact⟨_,v,w,G,hrun w (H6.refl _ w),.inl rfl,hr.put hv o.dst⟩
theorem Jd(hr:Rel E w0 G0 st a w G){ob:Obj}{x:fM E}(hx:jS E (w.alloc ob) G w.heap.size x)
  (hrun:(execOp a.eval o).run P w=.ok (.value (.pointer (some ⟨w.heap.size,0,none⟩))) (w.alloc ob)) :
  jO P w0 G0 a w o {st with t:=cx st.t o.dst (.ptr st.H.length 0),H:=st.H++[x]}:=by
 have hN:=hr.J3 ob x hx;refine⟨_,_,_,_,hrun,.inl rfl,hN.put ?_ o.dst⟩;simp [VT];rw [<-hr.boxes.len];simp
theorem ae0(hE:E.Ok)(hr:Rel E w0 G0 st a w G){t:aI}{x y:dy}{i:TI}(ho:o.op=.store t x y)(ht:aU P t=some i){r off:Nat}(hd:st.ev x=.ptr r off)
  {t':aI} {cs ds:J (TV E)} (hb:st.H[r]? = some (.cells t' cs)) (hy:(st.ev y).o4=some ds) (h4:ds.length=i.size) (h5:off+i.size<=cs.length) :
  jO P w0 G0 a w o {st with t:=cx st.t o.dst .any,H:=st.H.set r (.cells t' (cs.take off++ds++cs.drop (off+ds.length))),d:=r::st.d}:=by
 have zV:=hr.ev x;rw [hd] at zV;obtain⟨b,he,hat⟩:=zV;obtain⟨vs,hh,hone,hvs⟩:=hr.box hat hb;obtain⟨hl,hl1⟩:=sK hE (hr.ev y) hy;have hlen:(a.eval y).cells.toList.length=i.size:=by rw [hl.length,h4]
 have hlen':(a.eval y).cells.size=i.size:=by simpa using hlen
 have hsz:vs.size=cs.length:=by simpa using hvs.length
 obtain⟨xt,jP,-,hxs,-⟩:=aM ht;have hfit:off+0+(a.eval y).cells.toList.length<=vs.size:=by rw [hsz];omega
 have Ti:=run_storeCells_at (P:=P) b off t' (a.eval y).cells.toList 0 vs w hh hfit (fun v hv=>hl1 v (by simpa using hv))
 let new:=(vs.toList.take off++(a.eval y).cells.toList++vs.toList.drop (off+(a.eval y).cells.toList.length)).toArray
 have hrun:(execOp a.eval o).run P w=.ok .skip (w.setRow b new):=by
  simp [execOp,ho,Instr.storeAt,Instr.sureAddr,he,storeVar,fy jP,hxs,hlen'];simp only [Ti];rfl
 have hnew:(w.setRow b new).heap[b]? = some (.cells new t' (0,0)):=setRow_heap w b vs _ t' _ hh;have Eb:∀b',b'≠b->(w.setRow b new).heap[b']? = w.heap[b']?:=fun b' hb'=>setRow_other w b b' _ hb'
 have hR:=hr.yG (w':=w.setRow b new) hat si rfl rfl rfl Eb (x:=.cells t' (cs.take off++ds++cs.drop (off+ds.length))) (fun hg=>by
  refine⟨new,hnew,fun u hu=>?_,?_⟩
  ·grind
  ·have:=(((hvs.mono hg).take off).append (hl.mono hg)).append ((hvs.mono hg).drop (off+ds.length))
   grind)
 refine⟨_,undef,_,G,hrun,.inr ⟨rfl,rfl⟩,hR.put (by simp [VT]) o.dst⟩
variable{e:aI}{k:Nat}
theorem Rel.Ct(h:Rel E w0 G0 st a w G)(x:cH)(hd:Value)(hok:yE E w G x hd)(hnew:∀b,hd.ownBlock=some b->w0.heap.size<=b)
  (hap:∀(j:Nat) y z b,G.g[j]? = some (y,z)->z.ownBlock=some b->hd.ownBlock≠some b) :
  Rel E w0 G0 {st with g:=st.g++[x]} a w {G with g:=G.g++[(x,hd)]}:=by
 have hg:iB w G w {G with g:=G.g++[(x,hd)]}:=⟨fun _ _ h=>h,fun _ _ _ _ h=>h,fun _ _ h=>h,fun j y z hj=>⟨y,z,by
  grind,Nat.le_refl _,fun _=>rfl⟩⟩
 have last:∀(j:Nat) y z,(G.g++[(x,hd)])[j]? = some (y,z)->G.g[j]? = some (y,z)\/(j=G.g.length/\y=x/\z=hd):=by
  grind
 have ev:=h.eX
 refine⟨⟨ev.os,ev.tape,ev.output,ev.size,ev.old,ev.goes.trans hg,ev.oe,ev.qH,fun j y z b hj hb=>?_⟩,h.size,fun j d hj=>(h.tmps j d hj).mono hg,h.defers.mono hg,?_,h.fix,h.pins,h.gr.keep hg fun j y z hj _=>⟨y,by
   grind,rfl,rfl,fun b hbk=>⟨rfl,fun o h=>h⟩⟩⟩
 ·rcases last j y z hj with hj|⟨-,-,rfl⟩
  ·exact ev.gL j y z b hj hb
  ·exact .inl (hnew b hb)
 refine⟨h.boxes.len,by simp [h.boxes.gs],fun r b y hb hy=>(h.boxes.box r b y hb hy).mono hg rfl,h.boxes.lt,h.boxes.nodup,h.boxes.gq,fun j y z hj=>?_,fun j j' y z y' z' b hj hj' hb hb'=>?_⟩
 ·rcases last j y z hj with hj|⟨-,rfl,rfl⟩
  ·exact h.boxes.grow j y z hj
  ·exact hok
 ·rcases last j y z hj with q|⟨q1,-,q3⟩<;>rcases last j' y' z' hj' with q'|⟨q1',-,q3'⟩
  ·exact h.boxes.apart j j' y z y' z' b q q' hb hb'
  ·grind
  ·grind
  ·rw [q1,q1']
theorem Rel.al2(h:Rel E w0 G0 st a w G)(hz:E.zc e=true):
  Rel E w0 G0 {st with g:=st.g++[⟨0,e,k⟩]} a (w.alloc (.cells #[] e))
   {G with g:=G.g++[(⟨0,e,k⟩,.slice (some ⟨w.heap.size,0,none⟩) 0 0)]}:=by
 have hG:=h.grow (eY.alloc w (.cells #[] e)) rfl rfl rfl G.pr (fun _ _ h=>h) (fun b o hb hp=>hp) (fun b o hp=>jN (h.boxes.gq b o hp).1 si);refine hG.Ct ⟨0,e,k⟩ (.slice (some ⟨w.heap.size,0,none⟩) 0 0) ?_ (fun b hb=>?_) (fun j y z b hj hz hb=>?_)
 ·refine⟨0,[],⟨si,.inr ⟨w.heap.size,0,#[],rfl,eA _,heap_alloc_new w _,ek _,eA _,si,si⟩⟩,fun a m _=>hz,fun b hb=>?_⟩
  cases hb;refine⟨si,fun hm=>?_,fun o ho hp=>?_⟩
  ·exact absurd (h.boxes.lt _ hm) (zx _)
  ·exact absurd (h.boxes.gq _ _ hp).1 (zx _)
 ·cases hb;exact h.eX.size
 ·cases hb
  obtain⟨n',xs',-,-,hb'⟩:=h.boxes.grow j y z hj
  simp_all
theorem Rel.newRow(h:Rel E w0 G0 st a w G){n cap:Nat}{cur:aG Value}(hsz:cur.size=cap*k)(hn:n<=cap)(hc0:0<cap)(hcap:cap<=maxLen):
  Rel E w0 G0 {st with g:=st.g++[⟨0,e,k⟩]} a (w.alloc (.cells cur e))
   {G with g:=G.g++[(⟨0,e,k⟩,.slice (some ⟨w.heap.size,0,none⟩) n cap)],pr:=fun b o=>G.pr b o\/(b=w.heap.size/\o<n*k)}:=by
 have hG:=h.grow (eY.alloc w (.cells cur e)) rfl rfl rfl (fun b o=>G.pr b o\/(b=w.heap.size/\o<n*k)) (fun _ _ h=>.inl h)
  (fun b o hb hp=>hp.elim id fun q=>absurd hb (by rw [q.1];omega)) (fun b o hp=>by
   rcases hp with hp|⟨rfl,-⟩
   ·exact jN (h.boxes.gq b o hp).1 si
   ·simp)
 refine hG.Ct ⟨0,e,k⟩ (.slice (some ⟨w.heap.size,0,none⟩) n cap) ?_ (fun b hb=>?_) (fun j y z b hj hz hb=>?_)
 ·refine⟨n,cur.toList.take (n*k),⟨?_,.inr ⟨w.heap.size,cap,cur,rfl,eA _,heap_alloc_new w _,hn,hcap,hsz,rfl⟩⟩,fun a m e=>by simp at e;omega,fun b hb=>?_⟩
  ·simp_all
  ·cases hb
   refine⟨si,fun hm=>?_,fun o ho hp=>?_⟩
   ·exact absurd (h.boxes.lt _ hm) (zx _)
   ·rcases hp with hp|⟨-,hlt⟩
    ·exact absurd (h.boxes.gq _ _ hp).1 (zx _)
    grind
 ·cases hb;exact h.eX.size
 ·cases hb
  obtain⟨n',xs',-,-,hb'⟩:=h.boxes.grow j y z hj
  simp_all
variable{j:Nat}
theorem Rel.PE(h:Rel E w0 G0 st a w G){x:cH}{hd hd':Value}(hj:G.g[j]? = some (x,hd))(AN:∀c,(j,c)∉st.c)(hsz:w.heap.size<=w'.heap.size)(h1:w'.os=w.os)(h2:w'.tape=w.tape)(h3:w'.output=w.output)
  (nQ:∀b,b<w.heap.size->hd.ownBlock≠some b->w'.heap[b]? = w.heap[b]?) (hcells:∀b o v,G.pr b o->w.cell? ⟨b,o,none⟩=some v->w'.cell? ⟨b,o,none⟩=some v)
  (lH:Nat->Nat->Prop) (hp:∀b o,G.pr b o->lH b o) (Gu:∀b o,lH b o->G.pr b o\/hd'.ownBlock=some b)
  (hok:yE E w' {G with pr:=lH} {x with aF:=x.aF+1} hd') (hblk:∀b,hd'.ownBlock=some b->w.heap.size<=b\/hd.ownBlock=some b) :
  Rel E w0 G0 {st with g:=st.g.set j {x with aF:=x.aF+1}} a w' {G with g:=G.g.set j ({x with aF:=x.aF+1},hd'),pr:=lH}:=by
 obtain⟨n0,ZR,-,-,hhd⟩:=h.boxes.grow j x hd hj
 have at':∀(m:Nat) y z,(G.g.set j ({x with aF:=x.aF+1},hd'))[m]? = some (y,z)->(m=j/\y={x with aF:=x.aF+1}/\z=hd')\/(m≠j/\G.g[m]? = some (y,z)):=by
  grind
 have hg:iB w G w' {G with g:=G.g.set j ({x with aF:=x.aF+1},hd'),pr:=lH}:=by
  refine⟨hp,hcells,fun _ _ h=>h,fun m y z hm=>?_⟩
  grind
 have NJ:=fun b hb e=>(hhd b e).2.1 hb;have ev:=h.eX
 have hrow:∀b,b<w0.heap.size->hd.ownBlock=some b->G0.rows b:=fun b hb e=>by
  rcases ev.gL j x hd b hj e with q|⟨y,z,q1,q2⟩
  ·omega
  ·exact⟨y,z,jo q1,q2⟩
 have anS:=h.gr.keep hg fun m y z hm hc=>by
  have hne:m≠j:=fun e=>by simp_all
  obtain⟨n,xs,-,-,hq⟩:=h.boxes.grow m y z hm;refine⟨y,by grind,rfl,rfl,fun b hb=>⟨nQ b (hq b hb).1 (fun e=>hne (h.boxes.apart m j y z x hd b hm hj hb e)),fun o sO=>?_⟩⟩;rcases Gu b o sO with q|q
  ·exact q
  ·rcases hblk b q with q'|q'
   ·grind
   ·exact (hne (h.boxes.apart m j y z x hd b hm hj hb q')).elim
 refine⟨⟨h1.trans ev.os,h2.trans ev.tape,h3.trans ev.output,oD ev.size hsz,fun b hb hn=>?_,ev.goes.trans hg,fun b o hb sO=>?_,ev.qH,fun m y z b hm hb=>?_⟩,h.size,
  fun m d hm=>(h.tmps m d hm).mono hg,h.defers.mono hg,?_,fun r b hb hd=>(nQ b (h.boxes.lt b (jo (ev.goes.i r b hb))) (NJ b (jo (ev.goes.i r b hb)))).trans (h.fix r b hb hd),h.pins,anS⟩
 ·rw [nQ b (jN hb ev.size) (fun e=>hn (.inr (hrow b hb e)))]
  exact ev.old b hb hn
 ·rcases Gu b o sO with q|q
  ·exact ev.oe b o hb q
  ·rcases hblk b q with q'|q'
   ·have:=ev.size;omega
   simp_all
 ·rcases at' m y z hm with⟨rfl,-,rfl⟩|⟨-,q⟩
  ·rcases hblk b hb with q|q
   ·exact .inl (oD ev.size q)
   ·exact ev.gL m x hd b hj q
  ·exact ev.gL m y z b q hb
 refine⟨h.boxes.len,?_,fun r b y hb hy=>?_,fun b hb=>jN (h.boxes.lt b hb) hsz,h.boxes.nodup,fun b o sO=>?_,fun m y z hm=>?_,fun m m' y z y' z' b hm hm' hb hb'=>?_⟩
 ·rw [<-h.boxes.gs,Yx]
 ·have hm:=jo hb
  exact (h.boxes.box r b y hb hy).mono hg (nQ b (h.boxes.lt b hm) (NJ b hm))
 ·rcases Gu b o sO with q|q
  ·exact⟨jN (h.boxes.gq b o q).1 hsz,(h.boxes.gq b o q).2⟩
  ·obtain⟨n,xs,-,-,hq⟩:=hok
   simp_all
 ·rcases at' m y z hm with⟨-,rfl,rfl⟩|⟨hne,q⟩
  ·exact hok
  ·obtain⟨n,xs,ho,hz,hq⟩:=h.boxes.grow m y z q
   refine⟨n,xs,⟨ho.1,?_⟩,hz,fun b hb=>?_⟩
   ·rcases ho.2 with q2|⟨g,cap,cur,q2,q3,q4,q5⟩
    ·exact .inl q2
    ·have vg:z.ownBlock=some g:=by rw [q2];rfl
     refine .inr ⟨g,cap,cur,q2,q3,?_,q5⟩;rw [nQ g (hq g vg).1 (fun e=>hne (h.boxes.apart m j y z x hd g q hj vg e))];exact q4
   ·obtain⟨p1,p2,p3⟩:=hq b hb
    refine⟨jN p1 hsz,p2,fun o ho' sO=>?_⟩;rcases Gu b o sO with q'|q'
    ·exact p3 o ho' q'
    ·rcases hblk b q' with NK|NK
     ·omega
     ·exact hne (h.boxes.apart m j y z x hd b q hj hb NK)
 ·have key:∀(m:Nat) y z,m≠j->G.g[m]? = some (y,z)->z.ownBlock=some b->hd'.ownBlock=some b->False:=by
   intro m y z hne q hb hb';obtain⟨n,xs,-,-,hq⟩:=h.boxes.grow m y z q;rcases hblk b hb' with NK|NK
   ·grind
   ·exact hne (h.boxes.apart m j y z x hd b q hj hb NK)
  rcases at' m y z hm with⟨e1,-,e2⟩|⟨hne,q⟩<;>rcases at' m' y' z' hm' with⟨ZS,-,e2'⟩|⟨aje,q'⟩
  ·rw [e1,ZS]
  ·grind
  ·grind
  ·exact h.boxes.apart m m' y z y' z' b q q' hb hb'
theorem NL{l n:Nat}(hj:j<n)(hl:l<k):j*k+l<n*k:=by
 have:=zy k hj
 grind
variable{pr:Nat->Nat->Prop}{xs:J Value}{es fs:J (J DV)}
theorem Flat.append{ys:J Value}(h:Flat w pr k xs es)(h':Flat w pr k ys fs):Flat w pr k (xs++ys) (es++fs):=by
 have e1:∀j,j<es.length->(es++fs).getD j []=es.getD j []:=fun j hj=>by grind
 have e2:∀j,¬ j<es.length->(es++fs).getD j []=fs.getD (j-es.length) []:=fun j hj=>by grind
 refine⟨by simp [h.1,h'.1,Ph],fun j hj=>?_,fun j l hj hl=>?_⟩
 ·by_cases hlt:j<es.length
  ·rw [e1 j hlt];exact h.2.1 j hlt
  ·rw [e2 j hlt];exact h'.2.1 _ (by simp at hj;omega)
 ·by_cases hlt:j<es.length
  ·have hq:j*k+l<xs.length:=by rw [h.1];exact NL hlt hl
   have:(xs++ys).getD (j*k+l) undef=xs.getD (j*k+l) undef:=by grind
   rw [this,e1 j hlt];exact h.2.2 j l hlt hl
  ·have hge:=Nat.le_of_not_lt hlt
   have hq:es.length*k<=j*k+l:=oD (zy k hge) (Nat.le_add_right _ _)
   have hsub:j*k+l-es.length*k=(j-es.length)*k+l:=by
    rw [Nat.sub_mul];have:=zy k hge;omega
   have:(xs++ys).getD (j*k+l) undef=ys.getD ((j-es.length)*k+l) undef:=by
    simp;rw [I7 (by rw [h.1];exact hq),h.1,hsub]
   rw [this,e2 j hlt];exact h'.2.2 (j-es.length) l (by simp at hj;omega) hl
theorem Flat.nil:Flat w pr k [] []:=⟨si,fun j hj=>by simp at hj,fun j l hj=>by simp at hj⟩
theorem Flat.one(hk0:0<k)(h:Flat w pr k xs es):∀u,u∈xs->u.oneCell'=true:=by
 intro u hu;obtain⟨q,hq,rfl⟩:=lS hu;have Zf:q<es.length*k:=by rw [<-h.1];exact hq
 have:=(h.2.2 (q / k) (q%k) ((ad1 hk0).2 Zf) (Ys _ hk0)).one;rw [show q / k*k+q%k=q by have:=Nat.div_add_mod q k;grind] at this
 simp_all
theorem NM{b cap:Nat}(hcap:es.length<=cap)
  (hx:∀q,q<es.length*k->pr b q/\w.cell? ⟨b,q,none⟩=some (xs.getD q undef)) (h:Flat w pr k xs es) :
  VD w pr (.slice (some ⟨b,0,none⟩) es.length cap) (.slice k es):=by
 refine .slice b 0 cap k es (fun j l=>xs.getD (j*k+l) undef) hcap h.2.1 (fun j l hj hl=>?_) (fun j l hj hl=>h.2.2 j l hj hl)
 simp_all [NL]
theorem AP(g:Nat)(t:aI):∀(vs:J Value)(o:Nat)(cur:aG Value)(w:U),w.heap[g]? = some (.cells cur t (0,0))->o+vs.length<=cur.size ->
  w.setCells g o vs=w.setRow g (cur.toList.take o++vs++cur.toList.drop (o+vs.length)).toArray
 | [],o,cur,w,hg,_=>by
  simp [World.setCells]
  grind [setRow_self]
 | v::rest,o,cur,w,hg,hl=>by
  simp [World.setCells];rw [setCell_eq_setRow w g o cur t (0,0) v hg];have ih:=AP g t rest (o+1) (cur.setIfInBounds o v) (w.setRow g (cur.setIfInBounds o v)) (setRow_heap w g cur _ t _ hg) (by simp at hl⊢;omega);rw [ih,setRow_setRow];congr 2;have e:=list_seg_step cur.toList o v rest (by simp at hl⊢;omega);simpa using e
theorem VD.flat{v:Value}(hk:0<k)(h:VD w pr v (.slice k es)):
  ∃xs:J Value,Flat w pr k xs es/\((∃a,v=.slice a 0 0/\es=[])\/∃b off cap,v=.slice (some ⟨b,off,none⟩) es.length cap/\es.length<=cap /\
   ∀q,q<es.length*k->pr b (off+q)/\w.cell? ⟨b,off+q,none⟩=some (xs.getD q undef)):=by
 rcases h.vR with⟨ad,rfl,rfl⟩|⟨b,off,cap,c,rfl,hcap,hkk,h0,hv⟩
 ·exact⟨[],Flat.nil,.inl ⟨ad,rfl,rfl⟩⟩
 ·have Tj:∀q,q<es.length*k->q / k<es.length/\q%k<k:=fun q hq=>⟨(ad1 hk).2 hq,Ys q hk⟩
  refine⟨(List.range (es.length*k)).map fun q=>c (q / k) (q%k),⟨si,hkk,fun j l hj hl=>?_⟩,.inr ⟨b,off,cap,rfl,hcap,fun q hq=>?_⟩⟩
  ·have hlt:=NL hj hl
   simp_all [YE,Nat.mul_add_div,Nat.div_eq_of_lt,ad2]
  ·grind [Nat.div_add_mod]
theorem Rel.append(h:Rel E w0 G0 st a w G){t tx ty:aI}{i:TI}{j1 j2:Nat}{z:Value}(ht:aU P t=some ⟨.slice e,j1,j2,z⟩)(hi:aU P e=some i)
  (hk0:0<i.size) (hzs:i.zero.cells.size=i.size)  {x:cH} {v:Value} (hj:G.g[j]? = some (x,v)) (AN:∀c,(j,c)∉st.c) (qA:x.e=e) (hxk:x.k=i.size) 
  (hv:VD w G.pr v (.slice i.size es)) {y:Value} {news:J Value} (hsrc:Src P i.size tx y fs.length news w) (hf:Flat w G.pr i.size news fs)
  (h63:es.length+fs.length<=maxLen) (hbytes:(es.length+fs.length)*i.bytes<=140737488355328) :
  ∃v' w' lH,(Builtin.append_ #[t,tx] ty #[v,y]).run P w=.ok v' w' /\
   Rel E w0 G0 {st with g:=st.g.set j {x with aF:=x.aF+1}} a w' {G with g:=G.g.set j ({x with aF:=x.aF+1},v'),pr:=lH} /\
   VD w' lH v' (.slice i.size (es++fs)):=by
 obtain⟨xt,jP,ey,-⟩:=aM ht;obtain⟨xe,NN,AL,hsz,hby,hz⟩:=aM hi;obtain⟨n,xs,ho,NO,hg⟩:=h.boxes.grow j x v hj;obtain⟨xs',hfl,CY⟩:=hv.flat hk0;have alc:maxLen=9223372036854775807:=rfl;subst qA;rw [hxk] at ho hg;by_cases hm:fs.length=0
 ·have hfs:fs=[]:=D3 hm
  subst hfs;have hnn:news=[]:=D3 (by simpa using hf.1);subst hnn;refine⟨v,w,G.pr,?_,h.PE hj AN (ek _) rfl rfl rfl (fun _ _ _=>rfl) (fun _ _ _ _ h=>h) G.pr (fun _ _ h=>h) (fun _ _ h=>.inl h) ?_ (fun b hb=>.inr hb),by simp_all⟩
  ·have E9:Src P xe.size tx y 0 [] w:=by rw [hsz];exact hsrc
   rcases CY with⟨ad,rfl,-⟩|⟨b,off,cap,rfl,hcap,-⟩
   ·exact run_append_nothing w t tx ty x.e xe ey NN ad 0 0 (ek _) y E9
   ·exact run_append_nothing w t tx ty x.e xe ey NN _ _ _ hcap y E9
  ·exact⟨n,xs,by simp_all,NO,by simp_all⟩
 have E9:Src P xe.size tx y fs.length news w:=by rw [hsz];exact hsrc
 have hzl:∀c,(Builtin.zeroCells i.zero.cells c).size=c*i.size:=fun c=>by rw [size_zeroCells,hzs]
 have J4:=hfl.append hf;have hlen:(es++fs).length=es.length+fs.length:=by simp
 have grow:∀(base:O Addr)(old:Nat),v=.slice base es.length old->old<es.length+fs.length ->
   (Builtin.firstCells xe.size es.length (.slice base es.length old)).run P w.drew=.ok xs'.toArray w.drew ->
   ∃v' w' lH,(Builtin.append_ #[t,tx] ty #[v,y]).run P w=.ok v' w' /\
   Rel E w0 G0 {st with g:=st.g.set j {x with aF:=x.aF+1}} a w' {G with g:=G.g.set j ({x with aF:=x.aF+1},v'),pr:=lH} /\
   VD w' lH v' (.slice i.size (es++fs)):=by
  intro base old hv0 hlt WT;have hfit:=growslice_fits (need:=es.length+fs.length) (old:=old) (bytes:=xe.bytes) hlt (by rw [hby];exact hbytes);have hr:=run_append_grow_src (P:=P) w t tx ty x.e xe i.zero ey NN hz base es.length old xs' WT y fs.length news E9 hlt (by grind) hfit;have hge:=grownCap_ge w (es.length+fs.length) old x.e;have hcm:=grownCap_le_maxLen w (es.length+fs.length) old x.e h63;generalize hcap:grownCap w (es.length+fs.length) old x.e=cap at hr hge hcm;generalize hcs:(xs'++news).toArray++Builtin.zeroCells i.zero.cells (cap-(es.length+fs.length))=cs at hr
  have ajf:cs.size=cap*i.size:=by
   rw [<-hcs,ad3,ad4,J4.1,hzl,hlen,<-Ph];congr 1;omega
  have hheap:(w.drew.alloc (.cells cs x.e)).heap=w.heap.push (.cells cs x.e):=rfl;have hnew:(w.drew.alloc (.cells cs x.e)).heap[w.heap.size]? = some (.cells cs x.e):=by rw [hheap];simp
  have hsame:eY w (w.drew.alloc (.cells cs x.e)):=⟨by rw [hheap];simp,fun b hb=>by grind⟩
  have ZT:∀q,q<(es++fs).length*i.size->(w.drew.alloc (.cells cs x.e)).cell? ⟨w.heap.size,q,none⟩=some ((xs'++news).getD q undef):=by
   intro q hq;rw [cell_of_row _ w.heap.size q cs x.e (0,0) hnew];have h1:q<(xs'++news).length:=by rw [J4.1];exact hq
   grind
  refine⟨_,_,fun b o=>G.pr b o\/(b=w.heap.size/\o<(es++fs).length*i.size),by rw [hv0];exact hr,?_,?_⟩
  ·refine h.PE hj AN hsame.1 rfl rfl rfl (fun b hb _=>hsame.2 b hb) (fun b o u _ hu=>hsame.cell hu) _ (fun _ _ h=>.inl h) (fun b o hp=>?_) ?_ (fun b hb=>?_)
   ·rcases hp with hp|⟨rfl,-⟩
    ·exact .inl hp
    ·exact .inr rfl
   ·refine⟨es.length+fs.length,cs.toList.take ((es.length+fs.length)*i.size),⟨?_,.inr ⟨w.heap.size,cap,cs,rfl,Nat.zero_le _,hnew,hge,hcm,by simp_all,by dsimp only;rw [hxk]⟩⟩,fun a m e=>by simp at e;omega,fun b hb=>?_⟩
    ·simp_all
    ·cases hb
     refine⟨by rw [hheap];simp,fun hm=>absurd (h.boxes.lt _ hm) (zx _),fun o ho' hp=>?_⟩;rcases hp with hp|⟨-,hp⟩
     ·exact absurd (h.boxes.gq _ _ hp).1 (zx _)
     ·dsimp only at ho'
      rw [hxk] at ho';rw [hlen] at hp;omega
   ·cases hb;simp_all
  ·rw [<-hlen]
   exact NM (xs:=xs'++news) (by rw [hlen];exact hge) (fun q hq=>⟨.inr ⟨rfl,hq⟩,ZT q hq⟩) (J4.mono (fun _ _ h=>.inl h) (fun b o u _ hu=>hsame.cell hu))
 rcases CY with⟨ad,hv0,hes⟩|⟨b,off,cap,hv0,hcap,hcells⟩
 ·subst hes
  have hx':xs'=[]:=D3 (by simpa using hfl.1)
  cases ad with
  | some ad=>
   refine grow (some ad) 0 hv0 bz ?_;rw [hx',hsz]
   exact run_firstCells_some w.drew i.size 0 ad 0 0 [] si (fun j u hu=>by simp at hu)
  | none=>
   refine grow none 0 hv0 bz ?_;rw [hx'];simp [Builtin.firstCells]
 ·rcases ho.2 with⟨hvn,-⟩|⟨g,cap',cur,hvg,hBg,H9,arL,hcm,hcs,arM⟩
  ·simp_all
  have ajg:=hvg;rw [hv0] at ajg;simp only [Value.slice.injEq,ad5,Addr.mk.injEq] at ajg;obtain⟨⟨rfl,rfl,-⟩,hn,rfl⟩:=ajg;by_cases hroom:es.length+fs.length<=cap
  ·
   have Tk:es.length*i.size+news.length<=cur.size:=by
    rw [hf.1,hcs,<-Ph];simp_all [zy]
   have hr:=run_append_room_src (P:=P) w t tx ty x.e xe ey NN b 0 es.length cap y fs.length news E9 hroom
    (fun j hj=>by
     rw [cell_of_row w b _ cur x.e (0,0) H9,hsz]
     grind)
    (fun j hj=>frozen_of_row w b _ cur x.e H9)
   rw [hsz,qC,AP b x.e news (es.length*i.size) cur w H9 Tk] at hr;obtain⟨g0,g1,g3⟩:=hg b (by rw [hv0];rfl)
   let cur':=(cur.toList.take (es.length*i.size)++news++cur.toList.drop (es.length*i.size+news.length)).toArray
   have arN:cur'.size=cur.size:=by
    grind
   have hhb:(w.setRow b cur').heap[b]? = some (.cells cur' x.e (0,0)):=setRow_heap w b cur _ x.e _ H9;have Eb:∀b',b'≠b->(w.setRow b cur').heap[b']? = w.heap[b']?:=fun b' hb'=>setRow_other w b b' _ hb'
   have aqQ:xs'=cur.toList.take (es.length*i.size):=by
    have hl1:xs'.length=(cur.toList.take (es.length*i.size)).length:=by
     rw [hfl.1,yj,show cur.toList.length=cur.size from YF,hcs]
     simp_all
    refine Af hl1 fun q h1 h2=>?_;have hq:q<es.length*i.size:=by rw [<-hfl.1];exact h1
    have hc:=(hcells q hq).2;rw [qC,cell_of_row w b q cur x.e (0,0) H9] at hc
    grind
   have ae1:cur'.toList=(xs'++news)++cur.toList.drop (es.length*i.size+news.length):=by
    grind
   have hgc:∀o u,G.pr b o->w.cell? ⟨b,o,none⟩=some u->(w.setRow b cur').cell? ⟨b,o,none⟩=some u:=by
    intro o u hp hu;rw [cell_of_row _ b o cur' x.e (0,0) hhb]
    grind
   have o5:∀b' o u,G.pr b' o->w.cell? ⟨b',o,none⟩=some u->(w.setRow b cur').cell? ⟨b',o,none⟩=some u:=by
    intro b' o u hp hu;by_cases he:b'=b
    ·simp_all
    ·rw [U3 (Eb b' he)];exact hu
   have ZT:∀q,q<(es++fs).length*i.size->(w.setRow b cur').cell? ⟨b,q,none⟩=some ((xs'++news).getD q undef):=by
    intro q hq;rw [cell_of_row _ b q cur' x.e (0,0) hhb];have h1:q<(xs'++news).length:=by rw [J4.1];exact hq
    grind
   refine⟨_,_,fun b' o=>G.pr b' o\/(b'=b/\o<(es++fs).length*i.size),by rw [hv0];exact hr,?_,?_⟩
   ·refine h.PE (w':=w.setRow b cur') hj AN si rfl rfl rfl (fun b' _ hne=>Eb b' (fun e'=>hne (by rw [hv0,e'];rfl))) o5 (fun b' o=>G.pr b' o\/(b'=b/\o<(es++fs).length*i.size)) (fun _ _ h=>.inl h) (fun b' o hp=>?_) ?_ (fun b' hb'=>.inr (by rw [hv0];exact hb'))
    ·rcases hp with hp|⟨rfl,-⟩
     ·exact .inl hp
     ·exact .inr rfl
    ·refine⟨es.length+fs.length,xs'++news,⟨by dsimp only;rw [J4.1,hlen,hxk],.inr ⟨b,cap,cur',rfl,hBg,hhb,hroom,hcm,by simp_all,?_⟩⟩,fun a m e=>by simp at e;omega,fun g' hg'=>?_⟩
     ·dsimp only
      rw [hxk,ae1,<-hlen,<-J4.1,List.take_left]
     ·cases hg'
      grind
   ·rw [show es.length+fs.length=(es++fs).length from hlen.symm]
    exact NM (xs:=xs'++news) (by rw [hlen];exact hroom) (fun q hq=>⟨.inr ⟨rfl,hq⟩,ZT q hq⟩) (J4.mono (fun _ _ hp=>.inl hp) o5)
  ·refine grow _ cap hv0 om ?_
   rw [hsz];refine run_firstCells_some w.drew i.size es.length ⟨b,0,none⟩ es.length cap xs' hfl.1 (fun j u hu=>?_);have hj:j<xs'.length:=(eV.1 hu).1;have:=(hcells j (by rw [<-hfl.1];exact hj)).2
   simp_all [add_lit]
end Go.RT
namespace Go.RT
variable {E : TEnv}
theorem Flat.Vy{w:U}{pr:Nat->Nat->Prop}{k:Nat}:∀ {rows:J (J Value)}{es:J (J DV)},rows.length=es.length->(∀j,j<es.length->(es.getD j []).length=k) ->
  (∀j,j<es.length->LD w pr (rows.getD j []) (es.getD j []))->Flat w pr k rows.flatten es
 | [],[],_,_,_=>Flat.nil
 | r::rows,e::es,hl,hk,h=>by
  have h0:=h 0 si;have hk0:=hk 0 si;simp at h0 hk0;have ih:=Flat.Vy (by simpa using hl) (fun j hj=>by simpa using hk (j+1) (by simpa using hj)) (fun j hj=>by simpa using h (j+1) (by simpa using hj))
  have h1:Flat w pr k r [e]:=by
   refine⟨by simp [h0.length,hk0],fun j hj=>?_,fun j l hj hl'=>?_⟩
   ·simp_all
   ·have:∀ {vs:J Value}{ds:J DV}(l:Nat),LD w pr vs ds->l<ds.length->VD w pr (vs.getD l undef) (ds.getD l default):=by
     intro vs
     induction vs with
     | nil=>intro ds l h hl;cases ds with|nil=>simp at hl|cons _ _=>exact h.elim
     | cons v vs ih=>
      intro ds l h hl
      cases ds with
      | nil=>exact h.elim
      | cons d ds=>
       cases l with
       | zero=>simpa using h.1
       | succ l=>simpa using ih l h.2 (by simpa using hl)
    simp_all
  have:=h1.append ih
  simpa using this
 | [],_::_,hl,_,_=>by simp at hl
 | _::_,[],hl,_,_=>by simp at hl
variable{w:U}{G:bq}{T:Ty}{v:Value}
theorem VT.NP{x:T.den E.D}(h:VT E w G (.dat T x) v):LD w G.pr v.cells.toList (T.cells E x):=by
 cases ha:T.isAgg
 ·have h0:=h.atom ha
  have h1:=h0.one v si;have:v.cells=#[v]:=by cases v<;>first|rfl|cases h1
  rw [this];exact h0
 ·obtain⟨vs,rfl,h0⟩:=h.aeZ ha
  exact h0
def og(T:Ty):J (TV E)->O (J (T.den E.D))
 | []=>some []
 | d::ds=>match d.get T,og T ds with
  | some x,some xs=>some (x::xs)
  | _,_=>none
theorem J5{T:Ty}:∀ {ds:J (TV E)}{xs:J (T.den E.D)},og T ds=some xs->xs.length=ds.length
 | [],xs,h=>by cases h;rfl
 | d::ds,xs,h=>by
  simp [og] at h;split at h<;>try trivial
  rename_i x xs' h1 h2;cases h;simp [J5 h2]
variable{P:bh}{w0 w':U}{G0 G':bq}{st:TS E}{a:Act}{o:Oper}{k:Nat}{x:dy}{cs:J (TV E)}{e:aI}{n cap:Nat}{cur:aG Value}{xs:J (T.den E.D)}{parts:aG (Nat×dy)}{j1 j2:Nat}{z:Value}{ie:TI}{y:dy}{tx:aI}{ix:TI}{j:Nat}{ys:J (T.den E.D)}{g:cH}{news:J Value}
theorem Tm(hr:Rel E w0 G0 st a w G){T:Ty}:∀ {l:J dy}{xs:J (T.den E.D)},og T (l.map st.ev)=some xs ->
  ∀j,j<l.length->LD w G.pr ((l.map fun x=>(a.eval x).cells.toList).getD j []) ((xs.map (T.cells E)).getD j [])
 | [],xs,_,j,hj=>by simp at hj
 | x::l,xs,h,j,hj=>by
  simp [og] at h;split at h<;>try trivial
  rename_i y ys h1 h2;cases h
  cases j with
  | zero=>simpa using (TV.uy h1 (hr.ev x)).NP
  | succ j=>simpa using Tm hr h2 j (by simpa using hj)
theorem ae2(hr:Rel E w0 G0 st a w G){t:aI}{i:TI}(ho:o.op=.alloc t)(ht:aU P t=some i)(hz:i.zero.cells.toList.all (·.oneCell')=true):
  jO P w0 G0 a w o {st with t:=cx st.t o.dst (.ptr st.H.length 0),H:=st.H++[.cells t (i.zero.cells.toList.map TV.JZ)]}:=by
 refine Jd (ob:=.cells i.zero.cells t) hr ?_ ?_
 ·exact⟨i.zero.cells,heap_alloc_new w _,fun u hu=>p4.1 hz u (by simpa using hu),bI.ofValues⟩
 ·simp [execOp,ho,Instr.alloc,nt ht]
  rfl
theorem ajh(hE:E.Ok)(hr:Rel E w0 G0 st a w G){t:aI}(ho:o.op=.box t x)(hc:(st.ev x).o4=some cs):
  jO P w0 G0 a w o {st with t:=cx st.t o.dst (.ptr st.H.length 0),H:=st.H++[.cells t cs]}:=by
 obtain⟨h1,h2⟩:=sK hE (hr.ev x) hc;refine Jd (ob:=.cells (a.eval x).cells t) hr ?_ ?_
 ·have hg:iB w G (w.alloc (.cells (a.eval x).cells t)) G:=⟨fun _ _ h=>h,fun b o v _ hv=>(eY.alloc w _).cell hv,fun _ _ h=>h,fun j x y hj=>⟨x,y,hj,ek _,fun _=>rfl⟩⟩
  exact⟨(a.eval x).cells,heap_alloc_new w _,h2,h1.mono hg⟩
 ·simp [execOp,ho]
  rfl
theorem Rel.anT(h:Rel E w0 G0 st a w G)(hsz:cur.size=cap*k)(hn:n<=cap)(hc0:0<cap)(hcap:cap<=maxLen)(hk:k=T.size E)(hl:xs.length=n)
  (hf:Flat w G.pr k (cur.toList.take (n*k)) (xs.map (T.cells E))) (dst:O Nat) :
  ∃G',Rel E w0 G0 {st with t:=cx st.t dst (.cA st.g.length 0 T xs),g:=st.g++[⟨0,e,k⟩]} (a.put dst (.slice (some ⟨w.heap.size,0,none⟩) n cap)) (w.alloc (.cells cur e)) G':=by
 have hN:=h.newRow (e:=e) hsz hn hc0 hcap;refine⟨_,hN.put ?_ dst⟩;refine⟨?_,⟨0,e,T.size E⟩,_,?_,ek _,fun _=>rfl⟩
 ·have hlm:(xs.map (T.cells E)).length=n:=by simp [hl]
  have:=NM (w:=w.alloc (.cells cur e)) (pr:=fun b o=>G.pr b o\/(b=w.heap.size/\o<n*T.size E)) (b:=w.heap.size) (by rw [hlm];exact hn)
   (fun q hq=>by
    simp_all)
   (hf.mono (fun _ _ h=>.inl h) (fun b o v _ hv=>(eY.alloc w _).cell hv))
  simp_all
 ·have:=h.boxes.gs
  grind
theorem NQ{k:Nat}:∀(vs:J Value)(m:Nat)(cells:aG Value),(∀v,v∈vs->v.cells.size=k)->(m+vs.length)*k<=cells.size ->
  Instr.fill (fun i=>some (i*k,k)) cells ((List.range' m vs.length).zip vs)=some (cells.toList.take (m*k)++(vs.map fun v=>v.cells.toList).flatten++cells.toList.drop ((m+vs.length)*k)).toArray
 | [],m,cells,_,_=>by simp [Instr.fill]
 | v::vs,m,cells,hk,hle=>by
  have hv:=hk v si;have hle':(m+1+vs.length)*k<=cells.size:=by simp_all [Nat.add_comm,Nat.add_left_comm]
  have hmk:m*k+k<=cells.size:=by
   grind
  simp [Yq];rw [NI rfl hv hmk]
  have hsz:(cells.toList.take (m*k)++v.cells.toList++cells.toList.drop (m*k+v.cells.size)).toArray.size=cells.size:=by
   grind
  rw [NQ vs (m+1) _ (fun u hu=>hk u (by simp [hu])) (by rw [hsz];exact hle')]
  have hl2:(cells.toList.take (m*k)++v.cells.toList).length=(m+1)*k:=by
   grind
  rw [List.take_append_of_le_length (by simp_all),<-hl2,yf]
  have hd:(cells.toList.take (m*k)++v.cells.toList++cells.toList.drop (m*k+v.cells.size)).drop ((m+1+vs.length)*k)=cells.toList.drop ((m+(vs.length+1))*k):=by
   rw [ad6]
   have h0:(cells.toList.take (m*k)++v.cells.toList).drop ((m+1+vs.length)*k)=[]:=by
    simp_all [zy]
   rw [adQ]
   grind
  simp_all
theorem NS(hE:E.Ok)(hr:Rel E w0 G0 st a w G){t:aI}{len:Nat}(ho:o.op=.buildSlice t len parts)
  (ht:aU P t=some ⟨.slice e,j1,j2,z⟩) (hi:aU P e=some ie) (h1:parts.toList.map (·.1)=List.range len) (h2:len*ie.size<=16777216) (h3:0<ie.size)
    (hk:ie.size=T.size E) (hx:og T (parts.toList.map fun p=>st.ev p.2)=some xs) :
  ∃cs:aG Value,(execOp a.eval o).run P w=.ok (.value (.slice (some ⟨w.heap.size,0,none⟩) len len)) (w.alloc (.cells cs e))/\cs.size=len*ie.size/\xs.length=len/\Flat w G.pr ie.size (cs.toList.take (len*ie.size)) (xs.map (T.cells E)):=by
 obtain⟨xt,jP,ey,-⟩:=aM ht;obtain⟨xe,qA,AL,hsz,-⟩:=aM hi;have hlen:parts.toList.length=len:=by simpa using congrArg List.length h1
 let vs:=parts.toList.map fun p=>a.eval p.2
 have hvl:vs.length=len:=by simp [vs,hlen]
 have ZU:=Tm hr (by rw [Ah];exact hx);have hxl:=J5 hx;have hrow:(parts.toList.map (·.2)).map (fun x=>(a.eval x).cells.toList)=vs.map fun v=>v.cells.toList:=by grind [Function.comp_def]
 rw [hrow] at ZU;have Tn:xs.length=len:=by rw [hxl];simp [hlen]
 have hck:∀j,j<(xs.map (T.cells E)).length->((xs.map (T.cells E)).getD j []).length=ie.size:=fun j hj=>by
  simp_all [Ty.AF]
 have apy:=
  Flat.Vy (by simp [hvl,Tn]) hck (fun j hj=>ZU j (by simp_all))
 have hvk:∀v,v∈vs->v.cells.size=ie.size:=by
  intro v hv;obtain⟨j,hj,rfl⟩:=lS hv;have hjl:j<len:=by rw [<-hvl];exact hj
  have:=(ZU j (by simpa [hlen] using hjl)).length
  simp_all
 have arW:(parts.map fun (i,x)=>(i,a.eval x)).toList=(List.range' 0 vs.length).zip vs:=by
  grind [List.range_eq_range',Array.toList_map]
 let zero:aG Value:=if len*ie.size=0 then #[] else ie.zero.cells
 let base:aG Value:=(Array.range (len*ie.size)).map (zero[· % zero.size]!)
 have BX:base.size=len*ie.size:=by simp [base]
 have ald:=NQ vs 0 base hvk (by rw [BX,hvl];simp);have Gp:base.toList.length=base.size:=YF
 let cs:aG Value:=((vs.map fun v=>v.cells.toList).flatten).toArray
 have anU:Instr.fill (fun i=>some (i*ie.size,ie.size)) base (parts.map fun (i,x)=>(i,a.eval x)).toList=some cs:=by
  grind
 have hrun:(execOp a.eval o).run P w=.ok (.value (.slice (some ⟨w.heap.size,0,none⟩) len len)) (w.alloc (.cells cs e)):=by
  simp only [execOp,ho,Instr.buildSlice,jf,aQ ey,jG,fy qA,hsz];rw [if_neg (show ¬ len*ie.size>2^24 by simpa using h2)];have To:Instr.fill (fun i=>some (i*ie.size,ie.size)) ((Array.range (len*ie.size)).map (zero[· % zero.size]!)) (parts.map fun x=>(x.1,a.eval x.2)).toList=some cs:=anU;by_cases h0:len*ie.size=0
  ·rw [if_pos h0]
   have hz:zero=#[]:=by grind
   rw [hz] at To;simp only [jf,pe,jG,To];rfl
  ·rw [if_neg h0]
   have hz:zero=ie.zero.cells:=by grind
   rw [hz] at To;simp only [jf,pe,nt hi,jG,To];rfl
 have hcs:cs.size=len*ie.size:=by
  have:=apy.1
  grind
 grind
theorem Tp(hE:E.Ok)(hr:Rel E w0 G0 st a w G){t:aI}{len:Nat}(ho:o.op=.buildSlice t len parts)
  (ht:aU P t=some ⟨.slice e,j1,j2,z⟩) (hi:aU P e=some ie) (h1:parts.toList.map (·.1)=List.range len) (h2:len*ie.size<=16777216) (h3:0<ie.size) (h0':0<len)
    (hk:ie.size=T.size E) (hx:og T (parts.toList.map fun p=>st.ev p.2)=some xs) :
  jO P w0 G0 a w o {st with t:=cx st.t o.dst (.cA st.g.length 0 T xs),g:=st.g++[⟨0,e,ie.size⟩]}:=by
 obtain⟨cs,hrun,hcs,Tn,hfl⟩:=NS hE hr ho ht hi h1 h2 h3 hk hx
 obtain⟨G',hG'⟩:=hr.anT hcs (ek _) h0' (by
   have:len<=len*ie.size:=ad7 _ h3;have hm:maxLen=9223372036854775807:=rfl;omega) hk Tn hfl o.dst
 exact⟨_,_,_,G',hrun,.inl rfl,hG'⟩
theorem aji(hr:Rel E w0 G0 st a w G){e':aI}(htx:aU P tx=some ix)(QV:ix.kind=.slice e')(hk0:0<T.size E)
  (hd:VD w G.pr (a.eval y) (.slice (T.size E) (xs.map (T.cells E)))):∃news,Src P (T.size E) tx (a.eval y) xs.length news w/\Flat w G.pr (T.size E) news (xs.map (T.cells E)):=by
 obtain⟨xt,jP,ey,-⟩:=aM htx;rw [QV] at ey;obtain⟨cs,hfl,CY⟩:=hd.flat hk0;refine⟨cs,?_,hfl⟩;have hone:=hfl.one hk0;have hl:(xs.map (T.cells E)).length=xs.length:=by simp
 rcases CY with⟨ad,he,hn⟩|⟨b,off,cap,he,hcap,hcells⟩
 ·have hx:=D3 (by rw [hfl.1,hn];simp)
  have hx':xs=[]:=by simpa using hn
  subst hx';rw [he,hx]
  cases ad with
  | none=>exact Src.ofNil w ey 0
  | some ad=>simp_all [Src.ofSlice]
 ·rw [he,hl]
  refine Src.ofSlice w ey _ _ _ cs (by rw [hfl.1,hl]) (fun j u hu=>?_) hone;have hj:=(eV.1 hu).1;have:=(hcells j (by rw [<-hfl.1];exact hj)).2
  simp_all [add_lit]
def cU(l:J UInt8):J Int:=l.map fun b=>(b.toNat:Int)
theorem ae3(hr:Rel E w0 G0 st a w G)(htx:aU P tx=some ix)(QV:ix.kind=.string){l:J UInt8}(hd:st.ev y=.dat .str l):
  ∃news,Src P 1 tx (a.eval y) l.length news w/\Flat w G.pr 1 news ((cU l).map (Ty.cells E (.int .u8))):=by
 obtain⟨xt,jP,ey,-⟩:=aM htx;rw [QV] at ey;have hv:=hr.ev y;rw [hd] at hv;rw [hv.hU];refine⟨byteCells ⟨⟨l⟩⟩,?_,?_⟩
 ·exact Src.ofString w ey ⟨⟨l⟩⟩
 ·refine⟨by simp [byteCells,cU],fun j hj=>?_,fun j k hj hk=>?_⟩
  ·simp_all [Ty.cells]
  ·simp [cU] at hj
   obtain rfl:k=0:=om;have e1:(byteCells ⟨⟨l⟩⟩).getD (j*1+0) undef=.int .u8 l[j].toNat:=by simp [byteCells,hj]
   have e2:(((cU l).map (Ty.cells E (.int .u8))).getD j []).getD 0 default=.int .u8 l[j].toNat:=by grind [cU,Ty.cells]
   rw [e1,e2];exact .int _ _
theorem ace(hE:E.Ok)(hr:Rel E w0 G0 st a w G){c:Call}{t:aI}(ho:o.op=.call c)(hcl:c.callee=.builtin .append)
  (ha:c.args.toList=[x,y]) (hat:c.argTypes.toList=[t,tx]) (ht:aU P t=some ⟨.slice e,j1,j2,z⟩) (hi:aU P e=some ie) {aF:Nat}  
  (hx:st.ev x=.cA j aF T xs)  (hg:st.g[j]? = some g) (AN:∀c,(j,c)∉st.c) (ZV:g.aF=aF) (hge:g.e=e) (AQ:g.k=ie.size) (hk:ie.size=T.size E) (hk0:0<ie.size) (hzs:ie.zero.cells.size=ie.size)
  (h63:xs.length+ys.length<=9223372036854775807) (hbytes:(xs.length+ys.length)*ie.bytes<=140737488355328)
   (hsrc:Src P ie.size tx (a.eval y) ys.length news w) (hf:Flat w G.pr ie.size news (ys.map (T.cells E))) :
  jO P w0 G0 a w o {st with t:=cx st.t o.dst (.cA j (g.aF+1) T (xs++ys)),g:=st.g.set j {g with aF:=g.aF+1}}:=by
 have gD:c.args=#[x,y]:=by grind
 have yp:c.argTypes=#[t,tx]:=by grind
 have hv:=hr.ev x;rw [hx] at hv;obtain⟨AG,gx,gh,lz,hle,heq⟩:=hv
 have H9:gx=g:=by
  have:=hr.boxes.gs
  grind
 subst H9;have lJ:=heq ZV.symm;rw [<-lJ] at lz;have hl1:(xs.map (T.cells E)).length=xs.length:=by simp
 have hl2:(ys.map (T.cells E)).length=ys.length:=by simp
 obtain⟨v',w',lH,hrun,hR,hV⟩:=hr.append ht hi hk0 hzs lz AN hge AQ
  (by rw [hk];exact AG) (by rw [hl2];exact hsrc) hf (by rw [hl1,hl2];exact h63) (by simp_all)
 refine⟨.value v',v',w',_,?_,.inl rfl,hR.put ?_ o.dst⟩
 ·unfold execOp
  simp [ho,resolve,hcl,invoke,builtin,gD,yp];rw [hrun];rfl
 ·simp [VT]
  grind
def R4:DV->DV->O Bool
 | .int _ a,.int _ b=>some (a==b)
 | .bool a,.bool b=>some (a==b)
 | .str a,.str b=>some (a==b)
 | _,_=>none
def rY:J DV->J DV->O Bool
 | [],[]=>some true
 | a::as,b::bs=>match R4 a b,rY as bs with
  | some p,some q=>some (p&&q)
  | _,_=>none
 | _,_=>none
def Ia(P:bh)(t:aI):DV->Bool
 | .int k _=>match P.underlying t with
  | some (.int k')=>decide (k=k')
  | _=>false
 | .bool _=>match P.underlying t with
  | some .bool=>true
  | _=>false
 | .str _=>match P.underlying t with
  | some .string=>true
  | _=>false
 | _=>false
def vS(P:bh):Nat->J Field->J DV->J DV->Bool
 | _,[],[],[]=>true
 | n,f::fs,d::ds,c::cs=>Nat.beq f.offset n && !(f.name == "_")&&Ia P f.type d&&Ia P f.type c&&vS P (n+1) fs ds cs
 | _,_,_,_=>false
variable{pr:Nat->Nat->Prop}{u:Value}
theorem apz{t:aI}{d c:DV}{b:Bool}(hu:VD w pr u d)(hv:VD w pr v c)(hd:Ia P t d=true)(hc:Ia P t c=true)(h:R4 d c=some b):
  (∀w',(isAgg t).run P w'=.ok false w')/\∀w' n,(Op.equalIn (n+1) t u v).run P w'=.ok b w':=by
 unfold R4 at h;split at h<;>try trivial
 ·rename_i k a k' a'
  cases h;cases hu;cases hv;unfold Ia at hd hc
  cases ht:P.underlying t with
  | none=>rw [ht] at hd;cases hd
  | some dd=>
   rw [ht] at hd hc;cases dd<;>simp at hd hc;subst hd;subst hc;exact⟨fun w'=>by simp [isAgg,aQ ht],fun w' n=>run_equalIn_int w' n t _ _ a a' ht⟩
 ·rename_i a a'
  cases h;cases hu;cases hv;unfold Ia at hd
  cases ht:P.underlying t with
  | none=>rw [ht] at hd;cases hd
  | some dd=>
   rw [ht] at hd;cases dd<;>simp at hd;exact⟨fun w'=>by simp [isAgg,aQ ht],fun w' n=>run_equalIn_bool' w' n t a a' ht⟩
 ·cases hu
  cases hv;unfold Ia at hd
  cases ht:P.underlying t with
  | none=>rw [ht] at hd;cases hd
  | some dd=>
   rw [ht] at hd;cases dd<;>simp at hd
   exact⟨fun w'=>by simp [isAgg,aQ ht],fun w' n=>by
    simp_all [run_equalIn_string,mkStr]⟩
theorem ZW{P:bh}{w:U}{pr:Nat->Nat->Prop}{xs ys:aG Value}:∀(fs:J Field)(n:Nat)(as bs:J Value)(ds cs:J DV)(b:Bool),(∀j:Nat,xs[n+j]? = as[j]?)->(∀j:Nat,ys[n+j]? = bs[j]?) ->
  LD w pr as ds->LD w pr bs cs->vS P n fs ds cs=true->rY ds cs=some b->∀w' d,(Op.eqFields (d+1) xs ys fs).run P w'=.ok b w'
 | [],n,as,bs,[],[],b,_,_,_,_,_,h,w',d=>by
  cases h
  simp [Op.eqFields]
 | f::fs,n,a::as,b'::bs,dd::ds,c::cs,b,hx,hy,hA,hB,hf,h,w',d=>by
  simp only [vS,cE] at hf;obtain⟨⟨⟨⟨f1,f2⟩,f3⟩,f4⟩,f5⟩:=hf;have f1:=eM f1
  have f2:f.name ≠ "_" := by simpa using f2
  unfold rY at h
  cases h1:R4 dd c with
  | none=>rw [h1] at h;cases h
  | some p=>
   cases h2:rY ds cs with
   | none=>rw [h1,h2] at h;cases h
   | some q=>
    rw [h2] at h;obtain⟨g1,g2⟩:=apz hA.1 hB.1 f3 f4 h1;have hx0:xs[f.offset]? = some a:=by rw [f1];simpa using hx 0
    have hy0:ys[f.offset]? = some b':=by rw [f1];simpa using hy 0
    have px:∀w',(part f.type xs f.offset).run P w'=.ok a w':=fun w'=>by simp [part,g1,hx0]
    have py:∀w',(part f.type ys f.offset).run P w'=.ok b' w':=fun w'=>by simp [part,g1,hy0]
    have ih:=ZW fs (n+1) as bs ds cs q (fun j=>by have:=hx (j+1);rw [show n+(j+1)=n+1+j by omega] at this;simpa using this) (fun j=>by have:=hy (j+1);rw [show n+(j+1)=n+1+j by omega] at this;simpa using this) hA.2 hB.2 f5 h2 w' d;simp [Op.eqFields];simp [px,py,g2]
    grind
 | [],_,_,_,_::_,_,_,_,_,_,_,hf,_,_,_=>by simp [vS] at hf
 | [],_,_,_,[],_::_,_,_,_,_,_,hf,_,_,_=>by simp [vS] at hf
 | _::_,_,_,_,[],_,_,_,_,_,_,hf,_,_,_=>by simp [vS] at hf
 | _::_,_,_,_,_::_,[],_,_,_,_,_,hf,_,_,_=>by simp [vS] at hf
 | _::_,_,[],_,_::_,_::_,_,_,_,hA,_,_,_,_,_=>hA.elim
 | _::_,_,_::_,[],_::_,_::_,_,_,_,_,hB,_,_,_,_=>hB.elim
def eqX(P:bh)(t:aI)(yc:Bool)(x y:TV E):Option Bool:=
 match aU P t,x,y with
 | some ⟨.bool,_,_,_⟩,.dat .bool a,.dat .bool b=>some (a==b)
 | some ⟨.pointer _,_,_,_⟩,.p9 c _ _,.val (.pointer none)=>some (!c)
 | some ⟨.pointer _,_,_,_⟩,.ptr _ _,.val (.pointer none)=>some false
 | some ⟨.pointer _,_,_,_⟩,.sH _ _ _,.val (.pointer none)=>some false
 | some ⟨.pointer _,_,_,_⟩,.val (.pointer none),.val (.pointer none)=>some true
 | some ⟨.pointer e,_,_,_⟩,.p9 c r off,.ptr r' off'=>cond (Nat.beq r r'&&Nat.beq off off') (match aU P e with|some _=>some c|none=>none) none
 | some ⟨.interface _,_,_,_⟩,.iface _ _,.val .nilIface=>some false
 | some ⟨.interface _,_,_,_⟩,.val .nilIface,.val .nilIface=>cond yc (some true) none
 | some ⟨.struct fs,_,_,_⟩,.dat a x,.dat b y=>cond (a.isAgg&&b.isAgg && !(P.stoodInHeld t) && !(P.eqGuardType P.depth t)&&vS P 0 fs.toList (a.cells E x) (b.cells E y)) (rY (a.cells E x) (b.cells E y)) none
 | _,_,_=>none
def isConst:dy->Bool
 | .const _=>true
 | _=>false
def Fa(op:BinOp)(b:Bool):Bool:=match op with
 | .eql=>b
 | _=>!b
theorem Qj(a:Addr)(w:U):(sameAddr a a).run P w=.ok true w:=by simp [sameAddr]
theorem uM{t:aI}{b:Bool}{op:BinOp}(hop:op=.eql\/op=.neq)(h2:∀w' d,(Op.equalIn (d+1) t u v).run P w'=.ok b w':=by intro w' d;simp [Op.equalIn,aQ ey])
  (h1:∀w',(eqGuard op t x y u v).run P w'=.ok () w':=by intro w';rcases hop with rfl|rfl<;>rfl) (h3:∀op',op'=.eql\/op'=.neq->binOp op' t u v=(do let r <-Op.equal t u v;pure (.bool (Fa op' r))):=by intro op' h;rcases h with rfl|rfl<;>rfl) (w':U) :
  (do eqGuard op t x y u v;binOp op t u v).run P w'=.ok (.bool (Fa op b)) w':=by
 simp only [jf,h1,jG,h3 op hop,Op.equal,Op.maxDepth,h2 w' 9999,pe]
theorem WU{t:aI}{du dv:TV E}{b:Bool}
  (hu:VT E w G du u) (hv:VT E w G dv v) (h:eqX P t (isConst y) du dv=some b) (op:BinOp) (hop:op=.eql\/op=.neq) :
  ∀w',(do eqGuard op t x y u v;binOp op t u v).run P w'=.ok (.bool (Fa op b)) w':=by
 unfold eqX at h;split at h<;>try trivial
 ·rename_i j1 j2 z a c ht
  cases h;obtain⟨xt,jP,ey,-⟩:=aM ht;rw [hu.mh,hv.mh] at *;exact uM hop
 ·rename_i e j1 j2 z c r off ht
  cases h;obtain⟨xt,jP,ey,-⟩:=aM ht;cases c<;>simp only [VT] at hu hv
  ·subst hu;subst hv
   exact uM hop
  ·obtain⟨b,rfl,-⟩:=hu
   subst hv;exact uM hop
 ·rename_i e j1 j2 z r off ht
  cases h;obtain⟨xt,jP,ey,-⟩:=aM ht;simp only [VT] at hu hv;obtain⟨b,rfl,-⟩:=hu;subst hv;exact uM hop
 ·rename_i e j1 j2 z T y' off ht
  cases h;obtain⟨xt,jP,ey,-⟩:=aM ht;simp only [VT] at hu hv;obtain⟨b,o,c,rfl,-⟩:=hu;subst hv;exact uM hop
 ·rename_i e j1 j2 z ht
  cases h;obtain⟨xt,jP,ey,-⟩:=aM ht;simp only [VT] at hu hv;subst hu;subst hv;exact uM hop
 ·rename_i e j1 j2 z c r off r' off' ht
  obtain⟨xt,jP,ey,-⟩:=aM ht;cases hb:(Nat.beq r r'&&Nat.beq off off')<;>rw [hb] at h<;>simp only [aZ,aK] at h
  ·cases h
  rw [cE] at hb;obtain rfl:=eM hb.1;obtain rfl:=eM hb.2;split at h<;>try trivial
  rename_i ie Tb;cases h;obtain⟨xe,qA,-⟩:=aM Tb;cases b<;>simp only [VT] at hu hv
  ·obtain⟨b,rfl,-⟩:=hv
   subst hu;exact uM hop
  ·obtain⟨b,rfl,h1⟩:=hu
   obtain⟨b',rfl,h2⟩:=hv;rw [h1] at h2;cases h2;exact uM hop (fun w' d=>by simp [Op.equalIn,aQ ey,sizeOf,typeInfo,qA,Qj])
 ·rename_i ms j1 j2 z ty d ht
  cases h;obtain⟨xt,jP,ey,-⟩:=aM ht;simp only [VT] at hu hv;obtain⟨u',rfl,-⟩:=hu;subst hv;exact uM hop
 ·rename_i ms j1 j2 z ht
  obtain⟨xt,jP,ey,-⟩:=aM ht;simp only [VT] at hu hv;subst hu;subst hv;cases hc:isConst y<;>rw [hc] at h<;>simp only [aZ,aK] at h
  ·cases h
  cases h;have hcy:∃c,y=.const c:=by unfold isConst at hc;grind
  obtain⟨c,rfl⟩:=hcy;exact uM hop (h1:=fun w'=>by rcases hop with rfl|rfl<;>simp [eqGuard])
 ·rename_i fs j1 j2 z a x' b' y' ht
  obtain⟨xt,jP,ey,-⟩:=aM ht;cases hb:(a.isAgg&&b'.isAgg && !(P.stoodInHeld t) && !(P.eqGuardType P.depth t)&&vS P 0 fs.toList (a.cells E x') (b'.cells E y'))<;>rw [hb] at h<;>simp only [aZ,aK] at h
  ·cases h
  simp only [cE,Gd] at hb;obtain⟨⟨⟨⟨a1,a2⟩,a3⟩,a4⟩,a5⟩:=hb;simp only [VT,a1] at hu;simp only [VT,a2] at hv;obtain⟨us,rfl,hu⟩:=hu;obtain⟨vs,rfl,hv⟩:=hv;have hfs:P.fieldsOf t=fs:=by unfold Program.fieldsOf;rw [ey]
  intro w'
  have he:(Op.equalIn 10000 t (.agg us) (.agg vs)).run P w'=.ok b w':=by
   grind [run_equalIn_struct,ZW]
  rcases hop with rfl|rfl
  ·simp only [jf,run_eqGuard_agg w' .eql t x y us vs a4,jG,run_eql_struct,he]
   rfl
  ·simp only [jf,run_eqGuard_agg w' .neq t x y us vs a4,jG,run_neq_struct,he]
   rfl
def yH(E:TEnv)(ty:O Ty):Value->TV E
 | .agg cs=>PC E ty (cs.toList.map TV.JZ)
 | v=>.JZ v
def Vz(E:TEnv)(ty:aI->O Ty)(asserted:aI)(i:TI)(ok:Bool)(d:TV E):O (TV E):=
 match i.kind,d with
 | .interface _,_=>none
 | _,.iface t v=>cond (Nat.beq t asserted) (some (cond ok (.tuple [v,.dat .bool true]) v)) (cond ok (some (.tuple [yH E (ty asserted) i.zero,.dat .bool false])) none)
 | _,.val .nilIface=>cond ok (some (.tuple [yH E (ty asserted) i.zero,.dat .bool false])) none
 | _,_=>none
def Tq(P:bh)(ty:aI->O Ty)(st:TS E):Op->O (Bool×TV E)
 | .binOp op t x y _=>match op,eqX P t (isConst y) (st.ev x) (st.ev y) with
  | .eql,some b=>some (true,.dat .bool b)
  | .neq,some b=>some (true,.dat .bool (!b))
  | _,_=>none
 | .typeAssert x _ asserted ok=>match aU P asserted with
  | some i=>match Vz E ty asserted i ok (st.ev x) with
   | some d=>some (i.zero.cells.toList.all (·.oneCell'),d)
   | none=>none
  | none=>none
 | .call c=>match c.callee,c.args.toList,c.argTypes.toList with
  | .builtin .max,[x,y],_=>match st.ev x,st.ev y with
   | .dat (.int k) a,.dat (.int _) b=>some (true,.dat (.int k) (cond (decide (a<b)) b a))
   | _,_=>none
  | .builtin .min,[x,y],_=>match st.ev x,st.ev y with
   | .dat (.int k) a,.dat (.int _) b=>some (true,.dat (.int k) (cond (decide (b<a)) b a))
   | _,_=>none
  | .builtin .unsafeSliceData,[x],_=>match st.ev x with
   | .cA j aF (.int .u8) xs=>match st.g[j]? with
    | some g=>some (Nat.beq g.aF aF && !(E.zc g.e),.QO j aF xs)
    | none=>none
   | _=>none
  | _,_,_=>none
 | _=>none
variable{ty:aI->O Ty}
theorem PF(hE:E.Ok){ty:O Ty}(h:z.cells.toList.all (·.oneCell')=true):VT E w G (yH E ty z) z:=by
 cases z with
 | agg cs=>exact Jc hE bI.ofValues (fun u hu=>p4.1 h u hu)
 | _=>simp_all [yH,ZL]
theorem ZX(hE:E.Ok)(hr:Rel E w0 G0 st a w G){xt t:aI}{ok:Bool}{i:TI}{d:TV E}(ho:o.op=.typeAssert x xt t ok)(ht:aU P t=some i)(h:Vz E ty t i ok (st.ev x)=some d)
  (hz:i.zero.cells.toList.all (·.oneCell')=true):jw P a w G o d:=by
 have hv:=hr.ev x;obtain⟨xi,hxi,ey,-⟩:=aM ht;have hzv:=PF (w:=w) (G:=G) hE (ty:=ty t) hz;have dz:∀(u:Value)(d:TV E)(b:Bool),VT E w G d u->VT E w G (.tuple [d,.dat .bool b]) (.tuple #[u,.bool b]):=fun u d b hd=>⟨_,rfl,.cons hd (.cons (.bool _ _ _) .nil)⟩
 suffices hs:∃v,VT E w G d v/\∀w',(Instr.typeAssert (a.eval x) xt t ok).run P w'=.ok v w' by
  obtain⟨v,h1,h2⟩:=hs;exact fV (f:=fun ρ=>Instr.typeAssert (ρ x) xt t ok) (by simp [execOp,ho]) ⟨v,h1,fun w' _=>h2 w'⟩
 unfold Vz at h;split at h<;>try trivial
 ·rename_i ty' v' hd hni
  rw [hd] at hv;obtain⟨u,hu,hv⟩:=hv;cases hb:Nat.beq ty' t<;>rw [hb] at h<;>simp at h
  ·have hne:ty'≠t:=fun e=>by simp_all
   cases ok<;>simp only [aZ,aK] at h
   ·cases h
   cases h;unfold Instr.typeAssert
   simp_all [aQ,nt]
  ·cases h
   cases ok
   ·unfold Instr.typeAssert
    simp_all [aQ]
   ·unfold Instr.typeAssert
    simp_all [aQ]
 ·rename_i hd hni
  rw [hd] at hv;cases ok<;>simp only [aZ,aK] at h
  ·cases h
  cases h;rw [hv];unfold Instr.typeAssert
  simp_all [aQ,nt]
theorem acf(hE:E.Ok)(hr:Rel E w0 G0 st a w G){d:TV E}{c:Bool}(h:Tq P ty st o.op=some (c,d))(hc:c=true):jw P a w G o d:=by
 cases ho:o.op<;>rw [ho] at h<;>simp [Tq] at h<;>try trivial
 case binOp op t x y yt=>
  split at h<;>try trivial
  ·rename_i b hb
   cases h;exact fV (f:=fun ρ=>do eqGuard .eql t x y (ρ x) (ρ y);binOp .eql t (ρ x) (ρ y)) (by simp [execOp,ho]) ⟨_,.bool _ _ _,fun w' _=>WU (hr.ev x) (hr.ev y) hb .eql (.inl rfl) w'⟩
  ·rename_i b hb
   cases h;exact fV (f:=fun ρ=>do eqGuard .neq t x y (ρ x) (ρ y);binOp .neq t (ρ x) (ρ y)) (by simp [execOp,ho]) ⟨_,.bool _ _ _,fun w' _=>WU (hr.ev x) (hr.ev y) hb .neq (.inr rfl) w'⟩
 case typeAssert x xt t ok=>
  grind [ZX]
 case call c'=>
  split at h<;>try trivial
  ·rename_i _ x y hcl ha
   split at h<;>try trivial
   rename_i k p k' q hx hy;cases h;have zV:=hr.ev x;rw [hx] at zV;have BZ:=hr.ev y;rw [hy] at BZ;have gD:c'.args=#[x,y]:=by grind
   refine⟨_,.int _ _ _ _,fun w' hs=>?_⟩;unfold execOp;simp [ho,resolve,hcl,invoke,builtin,gD];rw [zV.fU,BZ.fU];simp only [Builtin.max_,List.foldlM_cons,Builtin.max2]
   simp_all
  ·rename_i _ x y hcl ha
   split at h<;>try trivial
   rename_i k p k' q hx hy;cases h;have zV:=hr.ev x;rw [hx] at zV;have BZ:=hr.ev y;rw [hy] at BZ;have gD:c'.args=#[x,y]:=by grind
   refine⟨_,.int _ _ _ _,fun w' hs=>?_⟩;unfold execOp;simp [ho,resolve,hcl,invoke,builtin,gD];rw [zV.fU,BZ.fU];simp only [Builtin.min_,List.foldlM_cons,Builtin.min2]
   simp_all
  ·rename_i _ x hcl ha
   split at h<;>try trivial
   rename_i j aF xs hx;split at h<;>try trivial
   rename_i g hg;cases h;rw [cE] at hc;obtain⟨hc,WV⟩:=hc;have ZV:=eM hc;have gD:c'.args=#[x]:=by grind
   have hv:=hr.ev x;rw [hx] at hv;obtain⟨AG,gx,gh,lz,hle,heq⟩:=hv
   have H9:gx=g:=by
    have h2:(G.g.map (·.1))[j]? = some gx:=by simp [lz]
    rw [hr.boxes.gs] at h2
    simp_all
   subst H9;have lJ:=heq ZV.symm;obtain⟨n,ys,ho',NO,vg⟩:=hr.boxes.grow j gx gh lz;rcases AG.vR with⟨ad,he,hn⟩|⟨b,off,cap,c,he,hcap,hk,-⟩
   ·have hxs:xs=[]:=by simpa using hn
    have:ad=none:=by
     cases ad with
     | none=>rfl
     | some ad=>grind
    subst this;refine⟨.pointer none,?_,fun w' hs=>?_⟩
    ·simp only [VT]
     exact⟨gx,gh,a.eval x,lz,hle,AG,fun _=>⟨lJ,.inl ⟨by rw [<-lJ,he],hxs,trivial⟩⟩⟩
    ·unfold execOp
     simp [ho,resolve,hcl,gD];rw [he];rfl
   ·have hl:(xs.map (Ty.cells E (.int .u8))).length=xs.length:=by simp
    rw [hl] at he;have hc0:cap≠0:=fun e=>by grind
    have hoff:off=0:=by
     rcases ho'.2 with⟨hnil,-⟩|⟨g',cap',cur,h2,-⟩
     ·simp_all
     simp_all
    subst hoff;refine⟨.pointer (some ⟨b,0,none⟩),?_,fun w' hs=>?_⟩
    ·exact⟨gx,gh,a.eval x,lz,hle,AG,fun _=>⟨lJ,.inr ⟨b,cap,by rw [<-lJ,he],rfl⟩⟩⟩
    ·unfold execOp
     simp [ho,resolve,hcl,invoke,builtin,gD];rw [he,Lib.run_unsafeSliceData_row _ _ _ _ _ _ hc0];rfl
def Tr(P:bh)(ty:aI->O Ty)(st:TS E)(o:Op):O (Bool×TV E):=match PD P ty st o with
 | some x=>some x
 | none=>Tq P ty st o
theorem ZY(hE:E.Ok)(hr:Rel E w0 G0 st a w G){d:TV E}{c:Bool}(h:Tr P ty st o.op=some (c,d))(hc:c=true):jw P a w G o d:=by
 grind [Tr,acd,acf]
variable{i r:Nat}{src dst:aI}{off:Nat}
theorem Rel.J6(h:Rel E w0 G0 st a w G)(e:TypeId)(k:Nat):Rel E w0 G0 {st with g:=st.g++[⟨0,e,k⟩]} a w {G with g:=G.g++[(⟨0,e,k⟩,.slice none 0 0)]}:=by
 refine h.Ct ⟨0,e,k⟩ (.slice none 0 0) ⟨0,[],⟨si,.inl ⟨rfl,rfl⟩⟩,(fun a m e=>nomatch e),(fun b hb=>nomatch hb)⟩ (fun b hb=>nomatch hb) (fun j y z b hj hb e=>nomatch e)
theorem Rel.qb(h:Rel E w0 G0 st a w G):G.g.length=st.g.length:=by rw [<-h.boxes.gs];simp
theorem NU(hl:G.g.length=st.g.length)(e:aI)(T:Ty):VT E w {G with g:=G.g++[(⟨0,e,T.size E⟩,.slice none 0 0)]} (.cA st.g.length 0 T []) (.slice none 0 0):=by
 refine⟨.va _ _,⟨0,e,T.size E⟩,.slice none 0 0,?_,ek _,fun _=>rfl⟩
 simp_all
theorem Rel.apA(h:Rel E w0 G0 st a w G)(hi:st.t[i]? = some (.val (.slice none 0 0)))(e:aI)(T:Ty):
  ∃G',Rel E w0 G0 {st with t:=st.t.set i (.cA st.g.length 0 T []),g:=st.g++[⟨0,e,T.size E⟩]} a w G':=by
 have hN:=h.J6 e (T.size E);refine⟨_,hN.eX,by simpa using hN.size,fun j d hj=>?_,hN.defers,hN.boxes,hN.fix,hN.pins,hN.gr⟩;simp [UZ] at hj;by_cases hij:i=j
 ·subst hij
  have hlt:=(eV.1 hi).1;simp [hlt] at hj;subst hj;have hv:=h.tmps i _ hi;rw [hv];exact NU h.qb e T
 ·rw [if_neg hij] at hj
  exact hN.tmps j d hj
theorem Rel.ahd(h:Rel E w0 G0 st a w G){c:Nat}{t:aI}(hr:st.H[r]? = some (.cells t cs))(hc:cs[c]? = some (.val (.slice none 0 0)))(e:aI)(T:Ty):
  ∃G',Rel E w0 G0 {st with H:=st.H.set r (.cells t (cs.set c (.cA st.g.length 0 T []))),g:=st.g++[⟨0,e,T.size E⟩],d:=r::st.d} a w G':=by
 have hN:=h.J6 e (T.size E);have hlr:r<G.i.length:=by rw [h.boxes.len];grind
 have hat:=fJ hlr;have hS:=hN.yG hat rfl rfl rfl rfl (fun _ _=>rfl) (x:=.cells t (cs.set c (.cA st.g.length 0 T []))) (fun _=>?_)
 ·exact⟨_,hS⟩
 ·obtain⟨vs,h1,h2,h3⟩:=hN.boxes.box r _ _ hat hr
  refine⟨vs,h1,h2,?_⟩;obtain⟨u,hu,hv⟩:=h3.get c hc;subst hv
  have key:∀(cs:J (TV E))(vs:J Value)(c:Nat)(d:TV E),bI E w {G with g:=G.g++[(⟨0,e,T.size E⟩,.slice none 0 0)]} cs vs->vs[c]? = some (.slice none 0 0) ->
    VT E w {G with g:=G.g++[(⟨0,e,T.size E⟩,.slice none 0 0)]} d (.slice none 0 0)->bI E w {G with g:=G.g++[(⟨0,e,T.size E⟩,.slice none 0 0)]} (cs.set c d) vs:=by
   intro cs
   induction cs with
   | nil=>simp_all
   | cons x cs ih=>
    intro vs c d h1 h2 h3;obtain⟨u,us,rfl,q1,q2⟩:=h1.cons_inv
    cases c with
    | zero=>simp at h2;subst h2;exact .cons h3 q2
    | succ c=>exact .cons q1 (ih us c d q2 (by simpa using h2) h3)
  exact key cs vs.toList c _ h3 hu (NU h.qb e T)
theorem VA(hE:E.Ok)(hr:Rel E w0 G0 st a w G){c:Call}{t:aI}(ho:o.op=.call c)(hcl:c.callee=.builtin .append)
  (ha:c.args.toList=[x,y]) (hat:c.argTypes.toList=[t,tx]) (ht:aU P t=some ⟨.slice e,j1,j2,z⟩) (hi:aU P e=some ie)  
  (hx:st.ev x=.val (.slice none 0 0)) (hk:ie.size=T.size E) (hk0:0<ie.size) (hzs:ie.zero.cells.size=ie.size)
  (h63:ys.length<=9223372036854775807) (hbytes:ys.length*ie.bytes<=140737488355328)
   (hsrc:Src P ie.size tx (a.eval y) ys.length news w) (hf:Flat w G.pr ie.size news (ys.map (T.cells E))) :
  jO P w0 G0 a w o {st with t:=cx st.t o.dst (.cA st.g.length 1 T ys),g:=st.g++[⟨1,e,ie.size⟩]}:=by
 have gD:c.args=#[x,y]:=by grind
 have yp:c.argTypes=#[t,tx]:=by grind
 have hv:=hr.ev x;rw [hx] at hv;have hN:=hr.J6 e ie.size;have hl2:(ys.map (T.cells E)).length=ys.length:=by simp
 have hrl:=hr.qb;have lz:(G.g++[(⟨0,e,ie.size⟩,Value.slice none 0 0)])[G.g.length]? = some (⟨0,e,ie.size⟩,.slice none 0 0):=by simp
 obtain⟨v',w',lH,hrun,hR,hV⟩:=hN.append ht hi hk0 hzs lz (fun c hc=>by
   obtain⟨x,h,h1,-⟩:=hr.gr _ c hc
   simp_all) rfl rfl
  (.va _ _) (by rw [hl2];exact hsrc) hf (by simp;exact h63) (by simp_all)
 have mL:(st.g++[(⟨0,e,ie.size⟩:cH)]).set G.g.length ⟨0+1,e,ie.size⟩=st.g++[⟨1,e,ie.size⟩]:=by
  simp_all
 simp [mL] at hR;refine⟨.value v',v',w',_,?_,.inl rfl,hR.put ?_ o.dst⟩
 ·unfold execOp
  simp [ho,resolve,hcl,invoke,builtin,gD,yp];rw [hv,hrun];rfl
 ·simp [VT]
  grind
def JX(l:J Int):Bool:=l.all fun n=>decide (0<=n)&&decide (n<256)
def cu(l:J Int):J UInt8:=l.map fun n=>UInt8.ofNat n.toNat
theorem ae4{l:J Int}(h:JX l=true){x:UInt8}(hx:(cu l)[j]? = some x):l[j]? = some (x.toNat:Int):=by
 unfold cu at hx;rw [Nb] at hx;obtain⟨n,hn,rfl⟩:=Pj.1 hx;have:=p4.1 h n (jo hn);simp at this;rw [hn];simp;omega
theorem VD.Tt{xs:J Int}(h:VD w pr v (.slice 1 (xs.map (Ty.cells E (.int .u8))))):
  (∃ad,v=.slice ad 0 0/\xs=[])\/∃b off cap,v=.slice (some ⟨b,off,none⟩) xs.length cap/\xs.length<=cap/\∀(j:Nat) n,xs[j]? = some n->pr b (off+j)/\w.cell? ⟨b,off+j,none⟩=some (.int .u8 n):=by
 rcases h.vR with⟨ad,he,hn⟩|⟨b,off,cap,c,he,hcap,hk,h0,hc⟩
 ·simp_all
 ·refine .inr ⟨b,off,cap,by simpa using he,by simpa using hcap,fun j n hj=>?_⟩
  have hjl:=(eV.1 hj).1;have h1:=h0 j 0 (by simpa using hjl) om;have h2:=hc j 0 (by simpa using hjl) om
  have e1:((xs.map (Ty.cells E (.int .u8))).getD j []).getD 0 default=.int .u8 n:=by
   grind [Option.some.inj,Ty.cells]
  rw [e1] at h2;rw [h2.fU] at h1;simpa using h1
theorem fold_push:∀(ns:J Int)(r:ByteArray),ns.foldl (fun r n=>r.push (UInt8.ofNat n.toNat)) r=⟨⟨r.data.toList++cu ns⟩⟩
 | [],r=>by simp [cu]
 | n::ns,r=>by
  rw [yg,fold_push ns];simp [cu]
theorem Gv(ad:Addr)(cap:Nat)(xs:J Int)(hc:∀(j:Nat) n,xs[j]? = some n->w.cell? (ad.add j)=some (.int .u8 n)):(Conv.bytesToString (.slice (some ad) xs.length cap)).run P w=.ok (mkStr (cu xs)) w:=by
 have hl:=run_loadCells (P:=P) w ad xs.length (fun j=>.int .u8 (xs.getD j 0)) (fun j hj=>hc j _ (by simp [hj]))
 have hm:((List.range xs.length).map fun j=>Value.int .u8 (xs.getD j 0))=xs.map (Value.int .u8):=by
  apply Af si
  simp_all
 rw [run_bytesToString w ad xs.length cap xs (by simp_all),fold_push];rfl
theorem NV(hr:Rel E w0 G0 st a w G){j3 j4 j5 j6:Nat}{z1 z2 z3:Value}(ho:o.op=.convert src dst x)(hs:aU P src=some ⟨.slice e,j1,j2,z1⟩)(hd:aU P dst=some ⟨.string,j3,j4,z2⟩)
  (he:aU P e=some ⟨.int .u8,j5,j6,z3⟩) {xs:J Int} (hx:sN (st.ev x) (.int .u8) xs):jO P w0 G0 a w o {st with t:=cx st.t o.dst (.dat .str (cu xs))}:=by
 obtain⟨_,_,QU,-⟩:=aM hs;obtain⟨_,_,hud,-⟩:=aM hd;obtain⟨_,_,AL,-⟩:=aM he;have hv:=hx.vd (hr.ev x)
 have hrun:(convert src dst (a.eval x)).run P w=.ok (mkStr (cu xs)) w:=by
  rcases hv.Tt with⟨ad,jt,rfl⟩|⟨b,off,cap,jt,hcap,hc⟩
  ·rw [jt]
   cases ad with
   | none=>
    unfold convert;simp [aQ QU,aQ hud,aQ AL]
    rfl
   | some ad=>
    have:=Gv (P:=P) (w:=w) ad 0 [] (fun j n hj=>by simp at hj);unfold convert
    simp_all [aQ]
  ·have:=Gv (P:=P) (w:=w) ⟨b,off,none⟩ cap xs (fun j n hj=>by simp_all [add_lit])
   unfold convert
   simp_all [aQ]
 refine⟨_,mkStr (cu xs),w,G,?_,.inl rfl,hr.put (.str _ _ _) o.dst⟩;simp [execOp,ho,hrun]
theorem QW(w:U)(p:Addr)(n b:Nat)(hb:b≠p.block):(w.freeze p n).heap[b]? = w.heap[b]?:=by
 unfold World.freeze
 grind
theorem acg(w:U)(p:Addr)(n:Nat)(x:Addr):(w.freeze p n).cell? x=w.cell? x:=by
 by_cases h0:n=0
 ·simp [World.freeze,h0]
 by_cases hx:x.block=p.block
 ·simp [World.cell?,World.freeze]
  grind
 grind [World.cell?_of_block,QW]
theorem Qk(hr:Rel E w0 G0 st a w G){c:Call}{pt it:TypeId}{j3 j4:Nat}{z1 z2:Value}(ho:o.op=.call c)(hcl:c.callee=.builtin .unsafeString)(ha:c.args.toList=[x,y])(hat:c.argTypes.toList=[pt,it])
  (hp:aU P pt=some ⟨.pointer e,j1,j2,z1⟩) (hce:P.cellsOf e=1) {aF:Nat} {xs:J Int} (hx:st.ev x=.QO j aF xs)  (hg:st.g[j]? = some g) (AN:∀c,(j,c)∉st.c) (ZV:g.aF=aF) (hge:g.e=e) (AQ:g.k=1)
  {n:Int} (hy:st.ev y=.dat (.int .i64) n) (hn:n=xs.length) (hok:JX xs=true) (h63:xs.length<=9223372036854775807) :
  jO P w0 G0 a w o {st with t:=cx st.t o.dst (.dat .str (cu xs)),g:=st.g.set j {g with aF:=g.aF+1}}:=by
 have gD:c.args=#[x,y]:=by grind
 have yp:c.argTypes=#[pt,it]:=by grind
 obtain⟨_,_,hup,-⟩:=aM hp;have hv:=hr.ev x;rw [hx] at hv;have BZ:=hr.ev y;rw [hy] at BZ;have BZ:=BZ.fU;subst hn;obtain⟨gx,gh,u,lz,hle,AG,heq⟩:=hv
 have H9:gx=g:=by
  have h2:(G.g.map (·.1))[j]? = some gx:=by simp [lz]
  rw [hr.boxes.gs] at h2
  simp_all
 subst H9;obtain⟨lJ,CY⟩:=heq ZV.symm;have hlen:(cu xs).length=xs.length:=by simp [cu]
 have step:∀w1,w.heap.size<=w1.heap.size->w1.os=w.os->w1.tape=w.tape->w1.output=w.output->(∀b,b<w.heap.size->gh.ownBlock≠some b->w1.heap[b]? = w.heap[b]?)->(∀b o v,G.pr b o->w.cell? ⟨b,o,none⟩=some v->w1.cell? ⟨b,o,none⟩=some v) ->
   ∃G1,Rel E w0 G0 {st with g:=st.g.set j {gx with aF:=gx.aF+1}} a w1 G1:=fun w1 s1 s2 s3 s4 s5 s6=>
  ⟨_,hr.PE lz AN s1 s2 s3 s4 s5 s6 G.pr (fun _ _ h=>h) (fun _ _ h=>.inl h) ⟨0,[],⟨si,.inl ⟨rfl,rfl⟩⟩,(fun a m e=>nomatch e),(fun b hb=>nomatch hb)⟩ (fun b hb=>nomatch hb)⟩
 have nothing:(Builtin.unsafeString_ c.argTypes o.type #[a.eval x,a.eval y]).run P w=.ok (mkStr (cu xs)) w->jO P w0 G0 a w o {st with t:=cx st.t o.dst (.dat .str (cu xs)),g:=st.g.set j {gx with aF:=gx.aF+1}}:=by
  intro hrun;obtain⟨G1,hR⟩:=step w (ek _) rfl rfl rfl (fun _ _ _=>rfl) (fun _ _ _ _ h=>h);refine⟨_,mkStr (cu xs),w,G1,?_,.inl rfl,hR.put (.str _ _ _) o.dst⟩;unfold execOp;simp [ho,resolve,hcl,invoke,builtin,gD,hrun]
 by_cases h0:xs=[]
 ·subst h0
  refine nothing ?_;rw [BZ,yp];rcases CY with⟨-,-,he⟩|⟨b,cap,-,he⟩<;>rw [he]<;>exact Lib.run_unsafeString_none w pt it o.type _
 ·rcases CY with⟨-,hl,-⟩|⟨b,cap,hgh,he⟩
  ·exact (h0 hl).elim
  replace AG:VD w G.pr _ (.slice 1 (xs.map (Ty.cells E (.int .u8)))):=AG
  have hcell:∀(q:Nat) nn,xs[q]? = some nn->G.pr b q/\w.cell? ⟨b,q,none⟩=some (.int .u8 nn):=by
   rcases AG.Tt with⟨ad,h1,h2⟩|⟨b',off,cap',h1,-,h3⟩
   ·exact (h0 h2).elim
   simp_all
  obtain⟨n',ys,hown,-,hblk⟩:=hr.boxes.grow j gx gh lz;rcases hown.2 with⟨hnil,-⟩|⟨gb,cap',cur,h2,-,hheap,hn',hcm,hcs,-⟩
  ·simp_all
  rw [hgh] at h2;obtain⟨⟨rfl,-,-⟩,rfl,rfl⟩:=h2
  have hsh:w.shape? b=some (e,cap):=by
   simp [World.shape?,hheap,hge,hcs,AQ]
  have hrun:=Lib.run_unsafeString_row w pt it o.type e hup hce b cap hsh (cu xs) (by simpa [cu] using h0) (by rw [hlen];exact hn') (by rw [hlen];exact h63)
   (fun q u hq=>by simp_all [add_lit,ae4])
  rw [hlen] at hrun
  obtain⟨G1,hR⟩:=step (w.freeze ⟨b,0,none⟩ xs.length) (by unfold World.freeze;split<;>simp) (by unfold World.freeze;split<;>rfl) (by unfold World.freeze;split<;>rfl) (by unfold World.freeze;split<;>rfl)
   (fun b' _ hne=>QW w _ _ b' (fun e'=>hne (by rw [hgh];simp at e';rw [e'];rfl))) (fun b' o' v _ hv=>by simp_all [acg])
  refine⟨_,mkStr (cu xs),_,G1,?_,.inl rfl,hR.put (.str _ _ _) o.dst⟩;unfold execOp;simp [ho,resolve,hcl,invoke,builtin,gD,yp];rw [he,BZ,hrun];rfl
theorem ZZ(hr:Rel E w0 G0 st a w G)(ho:o.op=.convert src dst x)(hx:st.ev x=.ptr r off){t':aI}(hb:st.H[r]? = some (.cells t' cs))
  (CY:(∃t i,P.underlying src=some (.pointer t)/\P.underlying dst=some .unsafePointer/\aU P t=some i/\i.size≠0/\off<cs.length) \/
   ∃t i,P.underlying src=some .unsafePointer/\P.underlying dst=some (.pointer t)/\aU P t=some i/\liesAt P P.depth t' (cs.length / P.cellsOf t') off t 1=true) :
  jO P w0 G0 a w o {st with t:=cx st.t o.dst (.ptr r off)}:=by
 have hv:=hr.ev x;rw [hx] at hv;have hv0:=hv;obtain⟨b,he,hat⟩:=hv;obtain⟨vs,hh,-,hvs⟩:=hr.box hat hb;have hsz:vs.size=cs.length:=by simpa using hvs.length
 have hsh:w.shape? b=some (t',cs.length):=by simp [World.shape?,hh,hsz]
 have hrun:(convert src dst (a.eval x)).run P w=.ok (a.eval x) w:=by
  grind [aM,Lib.run_to_unsafe,Lib.run_from_unsafe]
 refine⟨_,a.eval x,w,G,?_,.inl rfl,hr.put hv0 o.dst⟩;simp [execOp,ho,hrun]
open Go.MapKept
def jI{α β:Type}(eq:α->α->Bool)(m:J (α×β))(k:α)(v:β):J (α×β):=
 bif m.any (fun p=>eq p.1 k) then m.map (fun p=>bif eq p.1 k then (k,v) else p) else m++[(k,v)]
def fZ{α β:Type}(eq:α->α->Bool)(m:J (α×β))(k:α)(z:β):β:=match m.find? (fun p=>eq p.1 k) with|some p=>p.2|none=>z
def Ec{α β:Type}(eq:α->α->Bool)(m:J (α×β))(k:α):Bool:=m.any (fun p=>eq p.1 k)
def K7:Ty->O (J Ty)
 | .int k=>some [.int k]
 | .bool=>some [.bool]
 | .str=>some [.str]
 | .unit=>some []
 | .pair a b=>match K7 a,K7 b with
  | some x,some y=>some (x++y)
  | _,_=>none
 | _=>none
def EC:DV->Value
 | .int k n=>.int k n
 | .bool b=>.bool b
 | .str l=>mkStr l
 | _=>undef
def Ty.eZ(E:TEnv):(t:Ty)->t.den E.D->Value
 | .str,l=>mkStr l
 | .int k,n=>.int k n
 | .bool,b=>.bool b
 | .ext i,x=>.agg (((E.df i).cells E (E.AE i x)).map EC).toArray
 | _,_=>undef
def NW(E:TEnv):(t:Ty)->t.den E.D->t.den E.D->Bool
 | .str,a,b=>a==b
 | .int _,a,b=>a==b
 | .bool,a,b=>a==b
 | .pair s t,a,b=>NW E s a.1 b.1&&NW E t a.2 b.2
 | .unit,_,_=>true
 | _,_,_=>false
def Ty.cV(E:TEnv):(t:Ty)->t.den E.D->t.den E.D->Bool
 | .str,a,b=>a==b
 | .int _,a,b=>a==b
 | .bool,a,b=>a==b
 | .ext i,a,b=>NW E (E.df i) (E.AE i a) (E.AE i b)
 | _,_,_=>false
def Ed:Ty->TypeDesc->Bool
 | .str,.string=>true
 | .int k,.int k'=>decide (k=k')
 | .bool,.bool=>true
 | _,_=>false
def ae5(P:bh)(ty:aI):Ty->Bool
 | .int k=>match P.underlying ty with
  | some (.int k')=>decide (k=k')
  | _=>false
 | .bool=>match P.underlying ty with
  | some .bool=>true
  | _=>false
 | .str=>match P.underlying ty with
  | some .string=>true
  | _=>false
 | _=>false
def zX(P:bh):Nat->J Field->J Ty->Bool
 | _,[],[]=>true
 | n,f::fs,t::ts=>Nat.beq f.offset n && !(f.name == "_")&&ae5 P f.type t&&zX P (n+1) fs ts
 | _,_,_=>false
def ajj(E:TEnv)(P:bh)(k:aI):Ty->TypeDesc->Bool
 | .ext i,.struct fs=>(match K7 (E.df i) with
  | some ts=>zX P 0 fs.toList ts
  | none=>false) && !(P.stoodInHeld k)
 | _,_=>false
def VB(E:TEnv)(P:bh)(k:aI)(t:Ty)(d:TypeDesc):Bool:=Ed t d||ajj E P k t d
structure Ib(E:TEnv)(P:Program)(k:TypeId)(t:Ty):Prop where
 vt:∀ {w:World}{G:bq}{x:t.den E.D}{v:Value},VT E w G (.dat t x) v->v=t.eZ E x
 of:∀(w:World)(G:bq)(x:t.den E.D),VT E w G (.dat t x) (t.eZ E x)
 cV:∀ {x y:t.den E.D},t.cV E x y=true↔t.eZ E x=t.eZ E y
 check:∀(em:Bool)(x:t.den E.D)(w:World),(Instr.checkKey em 10000 k (t.eZ E x)).run P w=.ok () w
 find:∀(x:t.den E.D)(es:List MapEntry)(w:World),(∀e∈es,∃y:t.den E.D,e.key=t.eZ E y) ->
  ((Instr.findKey k (t.eZ E x) es).run P w=.ok none w/\∀e∈es,e.key≠t.eZ E x) \/
  ∃(j:Nat)(e:MapEntry),(Instr.findKey k (t.eZ E x) es).run P w=.ok (some (j,e.val)) w/\es[j]? = some e/\e.key=t.eZ E x
 stays:∀(x:t.den E.D)(w:World),(Instr.keyThatStays (t.eZ E x) (t.eZ E x)).run P w=.ok (t.eZ E x) w
variable{t:Ty}{d:TypeDesc}
theorem anV(h:Ed t d=true){k:t.den E.D}(hv:VT E w G (.dat t k) v):v=t.eZ E k:=by
 unfold Ed at h;split at h<;>try trivial
 ·exact hv.hU
 ·exact hv.fU
 ·exact hv.mh
theorem ajk(h:Ed t d=true)(w:U)(G:bq)(k:t.den E.D):VT E w G (.dat t k) (t.eZ E k):=by
 unfold Ed at h;split at h<;>try trivial
 ·exact .str w G _
 ·exact .int w G _ _
 ·exact .bool w G _
theorem K8(h:Ed t d=true)(k:t.den E.D):IsKey d (t.eZ E k):=by
 unfold Ed at h;split at h<;>try (cases h;done)
 ·trivial
 ·simp at h;subst h;rfl
 ·trivial
theorem ajl(h:Ed t d=true){a b:t.den E.D}(e:t.eZ E a=t.eZ E b):a=b:=by
 unfold Ed at h;split at h<;>try trivial
 ·simp_all [Ty.eZ,mkStr]
 ·simpa [Ty.eZ] using e
 simp_all [Ty.eZ]
theorem adj(h:Ed t d=true){a b:t.den E.D}:t.cV E a b=true↔a=b:=by
 unfold Ed at h;split at h<;>try trivial
 ·exact uW
 ·exact uW
 ·exact uW
theorem ach{k:aI}(hd:P.underlying k=some d)(h:Ed t d=true):Ib E P k t:={
 vt:=anV h
 of:=ajk h
 cV:=⟨fun e=>by rw [(adj h).1 e],fun e=>(adj h).2 (ajl h e)⟩
 check:=fun em x w=>MapKept.run_checkKey hd (K8 h x) em 9999
 find:=fun x es w hk=>by
  grind [findNow_spec,K8,MapKept.run_findKey]
 stays:=fun x w=>MapKept.run_keyThatStays (K8 h x)}
def Nv:Ty->DV->Prop
 | .int k,d=>∃n,d=.int k n
 | .bool,d=>∃b,d=.bool b
 | .str,d=>∃l,d=.str l
 | _,_=>False
def AR:J Ty->J DV->Prop
 | [],[]=>True
 | t::ts,d::ds=>Nv t d/\AR ts ds
 | _,_=>False
theorem AR.append:∀ {ts us:J Ty}{ds es:J DV},AR ts ds->AR us es->AR (ts++us) (ds++es)
 | [],_,[],_,_,h=>h
 | _::_,_,_::_,_,h,h'=>⟨h.1,h.2.append h'⟩
 | [],_,_::_,_,h,_=>h.elim
 | _::_,_,[],_,h,_=>h.elim
theorem Je:∀(t:Ty){ts:J Ty}(x:t.den E.D),K7 t=some ts->AR ts (t.cells E x)
 | .int k,ts,x,h=>by cases h;exact⟨⟨x,rfl⟩,trivial⟩
 | .bool,ts,x,h=>by cases h;exact⟨⟨x,rfl⟩,trivial⟩
 | .str,ts,x,h=>by cases h;exact⟨⟨x,rfl⟩,trivial⟩
 | .unit,ts,x,h=>by cases h;trivial
 | .pair a b,ts,x,h=>by
  simp [K7] at h;split at h<;>try trivial
  rename_i p q h1 h2;cases h
  exact (Je a x.1 h1).append (Je b x.2 h2)
 | .bn _,ts,x,h=>by cases h
 | .ext _,ts,x,h=>by cases h
theorem Fb:∀(t:Ty){ts:J Ty}(x y:t.den E.D),K7 t=some ts->rY (t.cells E x) (t.cells E y)=some (NW E t x y)
 | .int k,ts,x,y,h=>by simp [Ty.cells,rY,R4,NW]
 | .bool,ts,x,y,h=>by simp [Ty.cells,rY,R4,NW]
 | .str,ts,x,y,h=>by simp [Ty.cells,rY,R4,NW]
 | .unit,ts,x,y,h=>by simp [Ty.cells,rY,NW]
 | .pair a b,ts,x,y,h=>by
  simp [K7] at h;split at h<;>try trivial
  rename_i p q h1 h2;have i1:=Fb a x.1 y.1 h1;have i2:=Fb b x.2 y.2 h2
  have app:∀(as bs cs ds:J DV)(p q:Bool),rY as bs=some p->rY cs ds=some q->rY (as++cs) (bs++ds)=some (p&&q):=by
   intro as
   induction as with
   | nil=>intro bs cs ds p q h1 h2;cases bs with
    | nil=>cases h1;simpa using h2
    | cons _ _=>cases h1
   | cons a as ih=>intro bs cs ds p q h1 h2;cases bs with
    | nil=>cases h1
    | cons b bs=>
     simp [rY] at h1⊢;split at h1<;>try trivial
     rename_i u v hu hv;cases h1;rw [hu,ih bs cs ds v q hv h2,Bool.and_assoc]
  exact app _ _ _ _ _ _ i1 i2
 | .bn _,ts,x,y,h=>by cases h
 | .ext _,ts,x,y,h=>by cases h
theorem adk{w:U}{pr:Nat->Nat->Prop}:∀ {ts:J Ty}{ds:J DV}{vs:J Value},AR ts ds->LD w pr vs ds->vs=ds.map EC
 | [],[],[],_,_=>rfl
 | t::ts,d::ds,v::vs,h,hl=>by
  rw [jU,<-adk h.2 hl.2];have h1:=h.1
  cases t<;>first|exact h1.elim|(obtain⟨n,rfl⟩:=h1;cases hl.1;rfl)
 | [],[],_::_,_,hl=>hl.elim
 | [],_::_,_,h,_=>h.elim
 | _::_,[],_,h,_=>h.elim
 | _::_,_::_,[],_,hl=>hl.elim
theorem Ic(w:U)(pr:Nat->Nat->Prop):∀ {ts:J Ty}{ds:J DV},AR ts ds->LD w pr (ds.map EC) ds
 | [],[],_=>trivial
 | t::ts,d::ds,h=>by
  refine⟨?_,Ic w pr h.2⟩;have h1:=h.1
  cases t<;>first|exact h1.elim|(obtain⟨n,rfl⟩:=h1;constructor)
 | [],_::_,h=>h.elim
 | _::_,[],h=>h.elim
theorem WW{P:bh}:∀ {n:Nat}{fs:J Field}{ts:J Ty}{ds cs:J DV},zX P n fs ts=true->AR ts ds->AR ts cs->vS P n fs ds cs=true
 | n,[],[],[],[],_,_,_=>rfl
 | n,f::fs,t::ts,d::ds,c::cs,h,h1,h2=>by
  simp [zX] at h;obtain⟨⟨⟨a1,a2⟩,a3⟩,a4⟩:=h;simp [vS,a1,a2,WW a4 h1.2 h2.2]
  have key:∀ {d:DV},Nv t d->Ia P f.type d=true:=by
   intro d hd;cases t<;>first|exact hd.elim|(obtain⟨n,rfl⟩:=hd;exact a3)
  exact⟨key h1.1,key h2.1⟩
 | _,[],[],_::_,_,_,h,_=>h.elim
 | _,[],[],[],_::_,_,_,h=>h.elim
 | _,[],_::_,_,_,h,_,_=>by simp [zX] at h
 | _,_::_,[],_,_,h,_,_=>by simp [zX] at h
 | _,_::_,_::_,[],_,_,h,_=>h.elim
 | _,_::_,_::_,_::_,[],_,_,h=>h.elim
theorem WX:∀ {ts:J Ty}{ds cs:J DV}{b:Bool},AR ts ds->AR ts cs->rY ds cs=some b->(b=true↔ds.map EC=cs.map EC)
 | [],[],[],b,_,_,h=>by cases h;simp
 | t::ts,d::ds,c::cs,b,h1,h2,h=>by
  simp [rY] at h;split at h<;>try trivial
  rename_i p q hp hq;cases h;rw [cE,WX h1.2 h2.2 hq];have h1:=h1.1;have h2:=h2.1
  cases t<;>first|exact h1.elim|(obtain⟨n,rfl⟩:=h1;obtain⟨m,rfl⟩:=h2;cases hp;simp [EC,mkStr])
 | [],_::_,_,_,h,_,_=>h.elim
 | [],[],_::_,_,_,h,_=>h.elim
 | _::_,[],_,_,h,_,_=>h.elim
 | _::_,_::_,[],_,_,h,_=>h.elim
theorem ahe{w:U}{ty:aI}{d:DV}(h:ae5 P ty t=true)(hd:Nv t d):(∀w,(isAgg ty).run P w=.ok false w)/\∀em n w,(Instr.checkKey em (n+1) ty (EC d)).run P w=.ok () w:=by
 unfold ae5 at h;split at h<;>try trivial
 all_goals
  split at h<;>try trivial
  rename_i hu;exact⟨fun w=>by simp [isAgg,aQ hu],fun em n w=>by simp [Instr.checkKey,aQ hu]⟩
theorem Z0(hE:E.Ok){k:aI}(hd:P.underlying k=some d)(h:ajj E P k t d=true):Ib E P k t:=by
 unfold ajj at h;split at h<;>try trivial
 rename_i i fs;rw [cE,Gd] at h;obtain⟨h,hst⟩:=h;split at h<;>try trivial
 rename_i ts hts;have hall:∀x:E.D i,AR ts ((E.df i).cells E (E.AE i x)):=fun x=>Je _ _ hts;have hfs:P.fieldsOf k=fs:=by unfold Program.fieldsOf;rw [hd]
 have anW:∀x y:E.D i,(Ty.ext i).cV E x y=true↔(Ty.ext i).eZ E x=(Ty.ext i).eZ E y:=fun x y=>by
  have:=WX (hall x) (hall y) (Fb (E.df i) (E.AE i x) (E.AE i y) hts)
  grind [Ty.cV,Ty.eZ]
 have Z1:∀(x y:E.D i)(w:U),(Op.equal k ((Ty.ext i).eZ E x) ((Ty.ext i).eZ E y)).run P w=.ok ((Ty.ext i).cV E x y) w:=fun x y w=>by
  simp [Op.equal,Op.maxDepth,Ty.eZ];rw [run_equalIn_struct w 9999 k _ _ (by rw [hfs];exact hd) hst,hfs];exact ZW (pr:=fun _ _=>True) fs.toList 0 _ _ _ _ _ (fun j=>by simp) (fun j=>by simp) (Ic w _ (hall x)) (Ic w _ (hall y)) (WW h (hall x) (hall y)) (Fb (E.df i) _ _ hts) w 9998
 refine⟨fun {w G x v} hv=>?_,fun w G x=>?_,fun {x y}=>anW x y,fun em x w=>?_,fun x es w hk=>?_,fun x w=>?_⟩
 ·obtain⟨vs,rfl,hl⟩:=hv
  rw [show Ty.cells E (.ext i) x=E.enc i x from rfl,hE.enc] at hl;have:=adk (hall x) hl;simp [Ty.eZ];rw [<-this]
 ·refine⟨_,rfl,?_⟩
  rw [show Ty.cells E (.ext i) x=E.enc i x from rfl,hE.enc]
  grind [Ic]
 ·simp [Ty.eZ]
  rw [Instr.checkKey];simp only [jf,aQ hd,jG];rw [<-Array.forIn_toList];have hx:∀j:Nat,(((E.df i).cells E (E.AE i x)).map EC).toArray[0+j]? = (((E.df i).cells E (E.AE i x)).map EC)[j]?:=fun j=>by simp
  have hp:=hall x;clear hall anW Z1 hfs hd hts;generalize (((E.df i).cells E (E.AE i x)).map EC).toArray=xs at hx⊢;generalize (E.df i).cells E (E.AE i x)=ds at hx hp;generalize fs.toList=l at h⊢;generalize (0:Nat)=n at hx h
  induction l generalizing n ts ds with
  | nil=>simp
  | cons f l ih=>
   cases ts with
   | nil=>simp [zX] at h
   | cons t ts=>
    cases ds with
    | nil=>exact hp.elim
    | cons d ds=>
     simp only [zX,cE] at h;obtain⟨⟨⟨f1,f2⟩,f3⟩,f4⟩:=h;have f1:=eM f1
     have f2:f.name ≠ "_" := by simpa using f2
     obtain⟨g1,g2⟩:=ahe (w:=w) f3 hp.1;have hx0:xs[f.offset]? = some (EC d):=by rw [f1];simpa using hx 0
     have px:∀w',(part f.type xs f.offset).run P w'=.ok (EC d) w':=fun w'=>by simp [part,g1,hx0]
     have:=ih (n:=n+1) (ts:=ts) (ds:=ds) hp.2 (fun j=>by have:=hx (j+1);grind) f4;rw [List.forIn_cons];simp only [if_pos f2,jf,px,g2,jG];exact this
 ·cases es with
  | nil=>exact .inl ⟨by simp [Instr.findKey,aQ hd,Instr.findNow],fun e he=>by cases he⟩
  | cons e0 es=>
   have arX:(Instr.findKey k ((Ty.ext i).eZ E x) (e0::es)).run P w=(Instr.findAsking k ((Ty.ext i).eZ E x) (e0::es)).run P w:=by
    simp [Instr.findKey,aQ hd,Instr.findNow,Instr.sameNow]
   have key:∀(es:J MapEntry)(n:Nat),(∀e∈es,∃y:E.D i,e.key=(Ty.ext i).eZ E y) ->
     ((Instr.findAsking k ((Ty.ext i).eZ E x) es n).run P w=.ok none w/\∀e∈es,e.key≠(Ty.ext i).eZ E x) \/
     ∃(j:Nat)(e:MapEntry),(Instr.findAsking k ((Ty.ext i).eZ E x) es n).run P w=.ok (some (n+j,e.val)) w/\es[j]? = some e/\e.key=(Ty.ext i).eZ E x:=by
    intro es
    induction es with
    | nil=>intro n _;exact .inl ⟨by simp [Instr.findAsking],fun e he=>by cases he⟩
    | cons e es ih=>
     intro n hk;obtain⟨y,hy⟩:=hk e si
     cases hb:(Ty.ext i).cV E x y with
     | true=>
      refine .inr ⟨0,e,?_,rfl,by simp_all⟩
      simp [Instr.findAsking,hy,Z1,hb]
     | false=>
      have hne:e.key≠(Ty.ext i).eZ E x:=fun he=>by
       grind
      have hstep:(Instr.findAsking k ((Ty.ext i).eZ E x) (e::es) n).run P w=(Instr.findAsking k ((Ty.ext i).eZ E x) es (n+1)).run P w:=by
       simp [Instr.findAsking,hy,Z1,hb]
      rw [hstep];rcases ih (n+1) (fun e he=>hk e (by simp [he])) with⟨h1,h2⟩|⟨j,e',h1,h2,h3⟩
      ·simp_all
      ·exact .inr ⟨j+1,e',by rw [h1];congr 3;omega,by simpa using h2,h3⟩
   grind
 ·have hp:∀(ts:J Ty)(ds:J DV),AR ts ds->((ds.map EC).zip (ds.map EC)).all (fun (x,y)=>Instr.sameBits 9999 x y)=true:=by
   intro ts
   induction ts with
   | nil=>intro ds h;cases ds with
    | nil=>rfl
    | cons _ _=>exact h.elim
   | cons t ts ih=>intro ds h;cases ds with
    | nil=>exact h.elim
    | cons d ds=>
     simp [ih ds h.2];have h1:=h.1;cases t<;>first|exact h1.elim|(obtain⟨n,rfl⟩:=h1;simp [EC];exact (MapKept.bytes_beq _ _).2 rfl)|(obtain⟨n,rfl⟩:=h1;simp [EC,Instr.sameBits])
  have hs:Instr.sameBits 10000 ((Ty.ext i).eZ E x) ((Ty.ext i).eZ E x)=true:=by
   simp only [Ty.eZ,Instr.sameBits,I3];exact hp ts _ (hall x)
  simp [Instr.keyThatStays,hs]
theorem Z2(hE:E.Ok){k:aI}(hd:P.underlying k=some d)(h:VB E P k t d=true):Ib E P k t:=by
 grind [VB,ach,Z0]
variable{kt vt:Ty}{m:J (kt.den E.D × vt.den E.D)}{b:Nat}{ki:aI}{es:aG MapEntry}{clock:Nat}{kk:kt.den E.D}
theorem gj.length:∀ {es:J MapEntry}{m:J (kt.den E.D×vt.den E.D)},gj E w G kt vt es m->es.length=m.length
 | [],[],_=>rfl
 | _::_,_::_,h=>by simp [gj.length h.2.2]
 | [],_::_,h=>h.elim
 | _::_,[],h=>h.elim
theorem gj.get:∀ {es:J MapEntry}{m:J (kt.den E.D×vt.den E.D)}(j:Nat){e:MapEntry},gj E w G kt vt es m->es[j]? = some e->∃p,m[j]? = some p/\VT E w G (.dat kt p.1) e.key/\VT E w G (.dat vt p.2) e.val
 | [],[],_,_,_,h=>by simp at h
 | e::es,p::ps,0,x,h,hj=>by simp at hj;subst hj;exact⟨p,rfl,h.1,h.2.1⟩
 | e::es,p::ps,j+1,x,h,hj=>by simpa using gj.get j h.2.2 (by simpa using hj)
 | [],_::_,_,_,h,_=>h.elim
 | _::_,[],_,_,h,_=>h.elim
theorem gj.get':∀ {es:J MapEntry}{m:J (kt.den E.D×vt.den E.D)}(j:Nat){p:kt.den E.D×vt.den E.D},gj E w G kt vt es m->m[j]? = some p->∃e,es[j]? = some e/\VT E w G (.dat kt p.1) e.key/\VT E w G (.dat vt p.2) e.val
 | [],[],_,_,_,h=>by simp at h
 | e::es,p::ps,0,x,h,hj=>by simp at hj;subst hj;exact⟨e,rfl,h.1,h.2.1⟩
 | e::es,p::ps,j+1,x,h,hj=>by simpa using gj.get' j h.2.2 (by simpa using hj)
 | [],_::_,_,_,h,_=>h.elim
 | _::_,[],_,_,h,_=>h.elim
theorem gj.append:∀ {es:J MapEntry}{m:J (kt.den E.D×vt.den E.D)}{e:MapEntry}{p:kt.den E.D×vt.den E.D},gj E w G kt vt es m->VT E w G (.dat kt p.1) e.key->VT E w G (.dat vt p.2) e.val->gj E w G kt vt (es++[e]) (m++[p])
 | [],[],_,_,_,h1,h2=>⟨h1,h2,trivial⟩
 | _::_,_::_,_,_,h,h1,h2=>⟨h.1,h.2.1,gj.append h.2.2 h1 h2⟩
 | [],_::_,_,_,h,_,_=>h.elim
 | _::_,[],_,_,h,_,_=>h.elim
theorem gj.set:∀ {es:J MapEntry}{m:J (kt.den E.D×vt.den E.D)}(j:Nat){e:MapEntry}{p:kt.den E.D×vt.den E.D},gj E w G kt vt es m->VT E w G (.dat kt p.1) e.key->VT E w G (.dat vt p.2) e.val->gj E w G kt vt (es.set j e) (m.set j p)
 | [],[],_,_,_,_,_,_=>trivial
 | _::_,_::_,0,_,_,h,h1,h2=>⟨h1,h2,h.2.2⟩
 | _::_,_::_,j+1,_,_,h,h1,h2=>⟨h.1,h.2.1,gj.set j h.2.2 h1 h2⟩
 | [],_::_,_,_,_,h,_,_=>h.elim
 | _::_,[],_,_,_,h,_,_=>h.elim
theorem Z3(K:Ib E P ki kt){es:aG MapEntry}(h:gj E w G kt vt es.toList m)(k:kt.den E.D)(W:U):
  ((Instr.findKey ki (kt.eZ E k) es.toList).run P W=.ok none W/\m.any (fun p=>kt.cV E p.1 k)=false/\∀x∈es.toList,x.key≠kt.eZ E k) \/
  ∃j e p,(Instr.findKey ki (kt.eZ E k) es.toList).run P W=.ok (some (j,e.val)) W/\es[j]? = some e/\e.key=kt.eZ E k/\m[j]? = some p/\kt.cV E p.1 k=true/\VT E w G (.dat vt p.2) e.val:=by
 have hkey:∀x∈es.toList,∃p∈m,x.key=kt.eZ E p.1:=fun x hx=>by
  obtain⟨j,hj,rfl⟩:=lS hx;obtain⟨p,hp,h1,-⟩:=h.get j (fJ hj);exact⟨p,jo hp,K.vt h1⟩
 rcases K.find k es.toList W (fun x hx=>by grind) with⟨h1,h2⟩|⟨j,e,h1,h2,h3⟩
 ·refine .inl ⟨h1,?_,h2⟩
  apply Rq.2;intro ha;obtain⟨p,hp,he⟩:=Pk.1 ha;obtain⟨j,hj,rfl⟩:=lS hp;obtain⟨x,hx,hk,-⟩:=h.get' j (fJ hj);exact h2 x (jo hx) (by rw [K.vt hk,K.cV.1 he])
 ·have hj:es[j]? = some e:=by simpa using h2
  obtain⟨p,hp,hk,hv⟩:=h.get j h2;exact .inr ⟨j,e,p,h1,hj,h3,hp,K.cV.2 ((K.vt hk).symm.trans h3),hv⟩
theorem WY(K:Ib E P ki kt)(hs:Stamped es clock)(h:gj E w G kt vt es.toList m):m.Pairwise (fun p q=>kt.eZ E p.1≠kt.eZ E q.1):=by
 have h3:=hs.2.2
 have:es.toList.map (·.key)=(m.map (·.1)).map (kt.eZ E):=by
  apply Af (by simp [h.length]);intro j h1 h2;have hj:j<es.toList.length:=by simpa using h1
  obtain⟨p,hp,hk,-⟩:=h.get j (fJ hj);have hjm:=(eV.1 hp).1;have:m[j]=p:=by simp_all
  simp [this];exact K.vt hk
 grind
theorem al3(K:Ib E P ki kt)(hn:m.Pairwise (fun p q=>kt.eZ E p.1≠kt.eZ E q.1)){p:kt.den E.D×vt.den E.D}(hj:m[j]? = some p){k:kt.den E.D}(hk:kt.cV E p.1 k=true)(v:vt.den E.D):jI (kt.cV E) m k v=m.set j (k,v):=by
 have ajm:m.any (fun p=>kt.cV E p.1 k)=true:=Pk.2 ⟨p,jo hj,hk⟩;unfold jI;rw [ajm,aZ];apply Af si;intro q h1 h2;have hq:q<m.length:=by simpa using h1
 rw [Rt,List.getElem_set];by_cases hqj:j=q
 ·simp_all
 ·rw [if_neg hqj]
  have hne:kt.cV E m[q].1 k=false:=by
   apply Rq.2;intro he;have he':=K.cV.1 he;have hk':=K.cV.1 hk
   grind [List.pairwise_iff_getElem]
  rw [hne,aK]
theorem ae6{t k:aI}(K:Ib E P k kt)(hm:P.underlying t=some (.map k e))(hb:w.heap[b]? = some (.map es clock))(hs:Stamped es clock)(h:gj E w G kt vt es.toList m)
  (x:kt.den E.D) (v:vt.den E.D) {vv:Value} (hv:VT E w G (.dat vt v) vv) :
  ∃es' clock',(Instr.mapUpdate t (.map (some b)) (kt.eZ E x) vv).run P w=.ok () {w with heap:=w.heap.setIfInBounds b (.map es' clock')}/\Stamped es' clock'/\gj E w G kt vt es'.toList (jI (kt.cV E) m x v):=by
 rcases Z3 K h x w with⟨h1,h2,h3⟩|⟨j,e,p,h1,hj,h3,hp,hpk,L8⟩
 ·refine⟨es.push ⟨kt.eZ E x,vv,clock⟩,clock+1,?_,stamped_push hs h3,?_⟩
  ·simp [Instr.mapUpdate,run_underlying hm,YG hb,K.check,h1,MapKept.run_setObj_map _ hb]
  ·unfold jI
   rw [h2,Array.toList_push];exact h.append (K.of w G x) hv
 ·refine⟨es.modify j fun e=>{e with key:=kt.eZ E x,val:=vv},clock,?_,stamped_modify hs _ _ (fun _ _=>rfl) (fun e' _ he'=>by simp_all),?_⟩
  ·simp [Instr.mapUpdate,run_underlying hm,YG hb,K.check,h1,hj,h3,K.stays,MapKept.run_setObj_map _ hb]
  ·rw [al3 K (WY K hs h) hp hpk v]
   have:(es.modify j fun e=>{e with key:=kt.eZ E x,val:=vv}).toList=es.toList.set j {e with key:=kt.eZ E x,val:=vv}:=by
    apply Af si
    grind
   rw [this];exact h.set j (K.of w G x) hv
theorem ajn{t k:aI}{z:vt.den E.D}{zv:Value}(K:Ib E P k kt)(hm:P.underlying t=some (.map k e))(hz:∀w,(zeroValue e).run P w=.ok zv w)(hzv:VT E w G (.dat vt z) zv)
  (hb:w.heap[b]? = some (.map es clock)) (hs:Stamped es clock) (h:gj E w G kt vt es.toList m) (x:kt.den E.D) (c:Bool) :
  ∃u,VT E w G (.dat vt (fZ (kt.cV E) m x z)) u/\(Instr.lookup t (.map (some b)) (kt.eZ E x) c).run P w=.ok (if c then .tuple #[u,.bool (Ec (kt.cV E) m x)] else u) w:=by
 rcases Z3 K h x w with⟨h1,h2,h3⟩|⟨j,en,p,h1,hj,h3,hp,hpk,hv⟩
 ·have hf:m.find? (fun p=>kt.cV E p.1 x)=none:=by
   grind
  have hg:fZ (kt.cV E) m x z=z:=by unfold fZ;rw [hf]
  rw [hg];unfold Ec;rw [h2];refine⟨zv,hzv,?_⟩;simp [Instr.lookup,run_underlying hm,YG hb,K.check,h1,hz]
 ·have hf:m.find? (fun p=>kt.cV E p.1 x)=some p:=by
   obtain⟨hjl,hjp⟩:=eV.1 hp;rw [List.find?_eq_some_iff_getElem];refine⟨hpk,j,hjl,hjp,fun q hq=>?_⟩;have hn:=ad8.1 (WY K hs h) q j om hjl hq;rw [hjp,K.cV.1 hpk] at hn
   cases hb:kt.cV E m[q].1 x with
   | false=>rfl
   | true=>exact (hn (K.cV.1 hb)).elim
  have hg:fZ (kt.cV E) m x z=p.2:=by unfold fZ;rw [hf]
  have ajm:Ec (kt.cV E) m x=true:=Pk.2 ⟨p,jo hp,hpk⟩;rw [hg,ajm];refine⟨en.val,hv,?_⟩;simp [Instr.lookup,run_underlying hm,YG hb,K.check,h1]
theorem Z4(hr:Rel E w0 G0 st a w G){t:aI}(ho:o.op=.makeMap t none)(kt vt:Ty):
  jO P w0 G0 a w o {st with t:=cx st.t o.dst (.jq st.H.length),H:=st.H++[.map kt vt []]}:=by
 have hN:=hr.J3 (.map #[] 0) (.map kt vt []) ⟨#[],0,(MapKept.heap_alloc w _).1,stamped_empty 0,trivial⟩;refine⟨.value (.map (some w.heap.size)),_,_,_,?_,.inl rfl,hN.put ?_ o.dst⟩
 ·simp [execOp,ho,Instr.makeMap]
 ·simp [VT]
  rw [<-hr.boxes.len];simp
theorem VC(hE:E.Ok)(hr:Rel E w0 G0 st a w G){t k:aI}{z:dy}(ho:o.op=.mapUpdate t x y z){zz:Value}(hm:aU P t=some ⟨.map k e,j1,j2,zz⟩){ik:TI}(hk:aU P k=some ik)(K0:VB E P k kt ik.kind=true)
   (hx:st.ev x=.jq r) (hb:st.H[r]? = some (.map kt vt m))  {vv:vt.den E.D} (hy:(st.ev y).get kt=some kk) (hz:(st.ev z).get vt=some vv) :
  jO P w0 G0 a w o {st with t:=cx st.t o.dst .any,H:=st.H.set r (.map kt vt (jI (kt.cV E) m kk vv)),d:=r::st.d}:=by
 obtain⟨_,_,hum,-⟩:=aM hm;obtain⟨_,_,huk,-⟩:=aM hk;have K:=Z2 hE huk K0;have zV:=hr.ev x;rw [hx] at zV;obtain⟨b,he,hat⟩:=zV;obtain⟨es,clock,hh,hs,hmr⟩:=hr.box hat hb;have hvk:=K.vt (TV.uy hy (hr.ev y));obtain⟨es',clock',hrun,hs',aqR⟩:=ae6 K hum hh hs hmr kk vv (TV.uy hz (hr.ev z))
 have hR:=hr.yG (w':={w with heap:=w.heap.setIfInBounds b (.map es' clock')}) hat si rfl rfl rfl (fun b' hb'=>(MapKept.heap_set hh).2 b' hb') (x:=.map kt vt (jI (kt.cV E) m kk vv))
  (fun hg=>⟨es',clock',(MapKept.heap_set hh).1,hs',aqR.mono hg⟩)
 refine⟨_,undef,_,G,?_,.inr ⟨rfl,rfl⟩,hR.put (by simp [VT]) o.dst⟩;simp [execOp,ho,he,hvk,hrun]
theorem aci(hE:E.Ok)(hr:Rel E w0 G0 st a w G){t k:aI}{ok:Bool}(ho:o.op=.lookup t x y ok){zz:Value}(hm:aU P t=some ⟨.map k e,j1,j2,zz⟩){ik:TI}(hk:aU P k=some ik)(he':aU P e=some ie)(K0:VB E P k kt ik.kind=true)
  (hzo:ie.zero.cells.toList.all (·.oneCell')=true)  (hx:st.ev x=.jq r) (hb:st.H[r]? = some (.map kt vt m))  (hy:(st.ev y).get kt=some kk) {z:vt.den E.D} (hz:(yH E (some vt) ie.zero).get vt=some z) :
  jO P w0 G0 a w o {st with t:=cx st.t o.dst (cond ok (.tuple [.dat vt (fZ (kt.cV E) m kk z),.dat .bool (Ec (kt.cV E) m kk)]) (.dat vt (fZ (kt.cV E) m kk z)))}:=by
 obtain⟨_,_,hum,-⟩:=aM hm;obtain⟨_,_,huk,-⟩:=aM hk;have K:=Z2 hE huk K0;have zV:=hr.ev x;rw [hx] at zV;obtain⟨b,he,hat⟩:=zV;obtain⟨es,clock,hh,hs,hmr⟩:=hr.box hat hb;have hvk:=K.vt (TV.uy hy (hr.ev y));obtain⟨u,hu,hrun⟩:=ajn K hum (fun w=>nt he' w) (TV.uy hz (PF hE hzo)) hh hs hmr kk ok;refine⟨_,_,w,G,?_,.inl rfl,hr.put (v:=if ok then .tuple #[u,.bool (Ec (kt.cV E) m kk)] else u) ?_ o.dst⟩
 ·simp [execOp,ho,he,hvk,hrun]
 ·cases ok
  ·exact hu
  ·exact⟨_,rfl,.cons hu (.cons (.bool _ _ _) .nil)⟩
variable{c:Cn E}{L:J Value}
theorem Rel.setRow(h:Rel E w0 G0 st a w G){x x':cH}{hd hd':Value}{cs:J (Nat×Cn E)}(hj:G.g[j]? = some (x,hd))(hle:x.aF<=x'.aF)(heq:x.aF=x'.aF->hd'=hd)(hsz:w.heap.size<=w'.heap.size)(h1:w'.os=w.os)(h2:w'.tape=w.tape)(h3:w'.output=w.output)
  (nQ:∀b,b<w.heap.size->hd.ownBlock≠some b->w'.heap[b]? = w.heap[b]?) (hcells:∀b o v,G.pr b o->w.cell? ⟨b,o,none⟩=some v->w'.cell? ⟨b,o,none⟩=some v)
  (lH:Nat->Nat->Prop) (hp:∀b o,G.pr b o->lH b o) (Gu:∀b o,lH b o->G.pr b o\/hd'.ownBlock=some b)
  (hok:yE E w' {G with pr:=lH} x' hd') (hblk:∀b,hd'.ownBlock=some b->w.heap.size<=b\/hd.ownBlock=some b)
  (hcs:iB w G w' {G with g:=G.g.set j (x',hd'),pr:=lH}->kH E w' {G with g:=G.g.set j (x',hd'),pr:=lH} cs) :
  Rel E w0 G0 {st with g:=st.g.set j x',c:=cs} a w' {G with g:=G.g.set j (x',hd'),pr:=lH}:=by
 obtain⟨n0,ZR,-,-,hhd⟩:=h.boxes.grow j x hd hj
 have at':∀(m:Nat) y z,(G.g.set j (x',hd'))[m]? = some (y,z)->(m=j/\y=x'/\z=hd')\/(m≠j/\G.g[m]? = some (y,z)):=by
  grind
 have hg:iB w G w' {G with g:=G.g.set j (x',hd'),pr:=lH}:=by
  refine⟨hp,hcells,fun _ _ h=>h,fun m y z hm=>?_⟩
  grind
 have NJ:=fun b hb e=>(hhd b e).2.1 hb;have ev:=h.eX
 have hrow:∀b,b<w0.heap.size->hd.ownBlock=some b->G0.rows b:=fun b hb e=>by
  rcases ev.gL j x hd b hj e with q|⟨y,z,q1,q2⟩
  ·omega
  ·exact⟨y,z,jo q1,q2⟩
 refine⟨⟨h1.trans ev.os,h2.trans ev.tape,h3.trans ev.output,oD ev.size hsz,fun b hb hn=>?_,ev.goes.trans hg,fun b o hb sO=>?_,ev.qH,fun m y z b hm hb=>?_⟩,h.size,
  fun m d hm=>(h.tmps m d hm).mono hg,h.defers.mono hg,?_,fun r b hb hd=>(nQ b (h.boxes.lt b (jo (ev.goes.i r b hb))) (NJ b (jo (ev.goes.i r b hb)))).trans (h.fix r b hb hd),h.pins,hcs hg⟩
 ·rw [nQ b (jN hb ev.size) (fun e=>hn (.inr (hrow b hb e)))]
  exact ev.old b hb hn
 ·rcases Gu b o sO with q|q
  ·exact ev.oe b o hb q
  ·rcases hblk b q with q'|q'
   ·have:=ev.size;omega
   simp_all
 ·rcases at' m y z hm with⟨rfl,-,rfl⟩|⟨-,q⟩
  ·rcases hblk b hb with q|q
   ·exact .inl (oD ev.size q)
   ·exact ev.gL m x hd b hj q
  ·exact ev.gL m y z b q hb
 refine⟨h.boxes.len,?_,fun r b y hb hy=>?_,fun b hb=>jN (h.boxes.lt b hb) hsz,h.boxes.nodup,fun b o sO=>?_,fun m y z hm=>?_,fun m m' y z y' z' b hm hm' hb hb'=>?_⟩
 ·rw [<-h.boxes.gs,Yx]
 ·have hm:=jo hb
  exact (h.boxes.box r b y hb hy).mono hg (nQ b (h.boxes.lt b hm) (NJ b hm))
 ·rcases Gu b o sO with q|q
  ·exact⟨jN (h.boxes.gq b o q).1 hsz,(h.boxes.gq b o q).2⟩
  ·obtain⟨n,xs,-,-,hq⟩:=hok
   simp_all
 ·rcases at' m y z hm with⟨-,rfl,rfl⟩|⟨hne,q⟩
  ·exact hok
  ·obtain⟨n,xs,ho,hz,hq⟩:=h.boxes.grow m y z q
   refine⟨n,xs,⟨ho.1,?_⟩,hz,fun b hb=>?_⟩
   ·rcases ho.2 with q2|⟨g,cap,cur,q2,q3,q4,q5⟩
    ·exact .inl q2
    ·have vg:z.ownBlock=some g:=by rw [q2];rfl
     refine .inr ⟨g,cap,cur,q2,q3,?_,q5⟩;rw [nQ g (hq g vg).1 (fun e=>hne (h.boxes.apart m j y z x hd g q hj vg e))];exact q4
   ·obtain⟨p1,p2,p3⟩:=hq b hb
    refine⟨jN p1 hsz,p2,fun o ho' sO=>?_⟩;rcases Gu b o sO with q'|q'
    ·exact p3 o ho' q'
    ·rcases hblk b q' with NK|NK
     ·omega
     ·exact hne (h.boxes.apart m j y z x hd b q hj hb NK)
 ·have key:∀(m:Nat) y z,m≠j->G.g[m]? = some (y,z)->z.ownBlock=some b->hd'.ownBlock=some b->False:=by
   intro m y z hne q hb hb';obtain⟨n,xs,-,-,hq⟩:=h.boxes.grow m y z q;rcases hblk b hb' with NK|NK
   ·grind
   ·exact hne (h.boxes.apart m j y z x hd b q hj hb NK)
  rcases at' m y z hm with⟨e1,-,e2⟩|⟨hne,q⟩<;>rcases at' m' y' z' hm' with⟨ZS,-,e2'⟩|⟨aje,q'⟩
  ·rw [e1,ZS]
  ·grind
  ·grind
  ·exact h.boxes.apart m m' y z y' z' b q q' hb hb'
theorem Rel.AU(hr:Rel E w0 G0 st a w G)(hg:st.g[j]? = some g):∃h,G.g[j]? = some (g,h):=by
 rw [<-hr.boxes.gs] at hg
 simp_all
theorem Rel.soft(hr:Rel E w0 G0 st a w G)(hg:st.g[j]? = some g)(hc:oM st.c j=some c):
  ∃h,G.g[j]? = some (g,h)/\sI E w G g h c/\(∀v,VT E w G (.eu j g.aF) v->v=h):=by
 obtain⟨h,hh⟩:=hr.AU hg;obtain⟨x,h',h1,h2⟩:=hr.gr j c (R1 hc)
 simp_all [VT]
theorem sI.block{x:cH}{h:Value}(hs:sI E w G x h c):(h=.slice none 0 0/\c.2=[])\/∃(b cap:Nat)(cur:aG Value),h=.slice (some ⟨b,0,none⟩) c.2.length cap/\w.heap[b]? = some (.cells cur x.e (0,0))/\c.2.length<=cap/\cap<=maxLen/\cur.size=cap*x.k /\
  Flat w G.pr x.k (cur.toList.take (c.2.length*x.k)) (c.2.map (c.1.cells E))/\∀o,¬ G.pr b o:=by
 obtain⟨h1,h2,⟨vals,ho,hf⟩,hp⟩:=hs;rcases ho.2 with⟨q1,q2⟩|⟨b,cap,cur,q1,q2,q3,q4,q5,q6,q7⟩
 ·simp_all
 ·refine .inr ⟨b,cap,cur,q1,q3,q4,q5,q6,?_,hp b (by rw [q1];rfl)⟩
  rw [q7];exact hf
theorem WZ{e:Nat}(hk:k=T.size E)(hh:w.heap[b]? = some (.cells cur e (0,0)))(hf:Flat w G.pr k (cur.toList.take (xs.length*k)) (xs.map (T.cells E)))(hle:xs.length*k<=cur.size)(hi:i<xs.length):
  ∃vs:J Value,LD w G.pr vs (T.cells E (xs.getD i (T.dflt E)))/\vs.length=k/\vs=(cur.toList.drop (i*k)).take k/\∀(l:Nat) u,vs[l]? = some u->w.cell? ⟨b,i*k+l,none⟩=some u:=by
 have hlen:(T.cells E (xs.getD i (T.dflt E))).length=k:=by
  have:=hf.2.1 i (by simpa using hi)
  simp_all
 have hik:i*k+k<=xs.length*k:=by
  have:=zy k hi
  grind
 have hvl:((cur.toList.drop (i*k)).take k).length=k:=by simp;omega
 refine⟨(cur.toList.drop (i*k)).take k,LD.Vx (by rw [hvl,hlen]) (fun l hl=>?_),hvl,rfl,fun l u hl=>?_⟩
 ·rw [hlen] at hl
  have:=hf.2.2 i l (by simpa using hi) hl
  grind
 grind [cell_of_row]
theorem sI.len{x:cH}{h:Value}(hs:sI E w G x h c){xs:J Value}(ho:w.ownsRow 0 x.e x.k h n xs):n=c.2.length:=by
 rcases hs.block with⟨h1,h2⟩|⟨b,cap,cur,h1,-⟩
 ·rcases ho.2 with⟨-,q⟩|⟨g,cap',cur',q1,-⟩
  ·rw [q,h2];rfl
  simp_all
 ·rcases ho.2 with⟨q,-⟩|⟨g,cap',cur',q1,-⟩
  ·rw [h1] at q;cases q
  simp_all
theorem Rel.anX(hr:Rel E w0 G0 st a w G)(hg:st.g[j]? = some g)(hc:oM st.c j=some c):
  ∃G',Rel E w0 G0 {st with c:=nI j st.c} a w G'/\iB w G w G'/\∀v,VT E w G (.eu j g.aF) v->VT E w G' (.dat (.bn c.1) c.2) v:=by
 obtain⟨h,hj,hs,hval⟩:=hr.soft hg hc;obtain⟨n0,ZR,SV,NO,hb0⟩:=hr.boxes.grow j g h hj;have ev:=hr.eX
 let lH:Nat->Nat->Prop:=fun b o=>G.pr b o\/(h.ownBlock=some b/\o<c.2.length*g.k)
 have AV:iB w G w {G with pr:=lH}:=⟨fun _ _ h=>.inl h,fun _ _ _ _ h=>h,fun _ _ h=>h,fun j x y hj=>⟨x,y,hj,ek _,fun _=>rfl⟩⟩;have hk:=hs.1;refine⟨{G with pr:=lH},⟨⟨ev.os,ev.tape,ev.output,ev.size,ev.old,ev.goes.trans AV,fun b o hb hp=>?_,ev.qH,ev.gL⟩,hr.size,fun j d hj=>(hr.tmps j d hj).mono AV,hr.defers.mono AV,?_,hr.fix,hr.pins,?_⟩,AV,fun v hv=>?_⟩
 ·rcases hp with hp|⟨hp,-⟩
  ·exact ev.oe b o hb hp
  ·rcases ev.gL j g h b hj hp with q|⟨x0,h0,q1,q2⟩
   ·omega
   ·exact .inr ⟨x0,h0,jo q1,q2⟩
 ·refine⟨hr.boxes.len,hr.boxes.gs,fun r b x hb hx=>(hr.boxes.box r b x hb hx).mono AV rfl,hr.boxes.lt,hr.boxes.nodup,fun b o hp=>?_,fun m x hd hm=>?_,hr.boxes.apart⟩
  ·rcases hp with hp|⟨hp,-⟩
   ·exact hr.boxes.gq b o hp
   simp_all
  ·obtain⟨n',xs',ho',hz',hb'⟩:=hr.boxes.grow m x hd hm
   refine⟨n',xs',ho',hz',fun b hbk=>⟨(hb' b hbk).1,(hb' b hbk).2.1,fun o hno hp=>?_⟩⟩;rcases hp with hp|⟨hp,hlt⟩
   ·simp_all
   ·have hmj:=hr.boxes.apart m j x hd g h b hm hj hbk hp
    subst hmj;rw [hj] at hm;cases hm;have:=hs.len ho'
    grind
 ·intro i c' hm
  obtain⟨hm,hne⟩:=tA hm;obtain⟨x,hd,h1,h2⟩:=hr.gr i c' hm;refine⟨x,hd,h1,h2.keep rfl rfl AV.pr AV.cells fun b hbk=>⟨rfl,fun o hp=>?_⟩⟩;rcases hp with hp|⟨hp,-⟩
  ·exact hp
  ·exact (hne (hr.boxes.apart i j x hd g h b h1 hj hbk hp)).elim
 ·rw [hval v hv]
  rcases hs.block with⟨h1,h2⟩|⟨b,cap,cur,h1,hheap,hcap,hcm,hcs,hf,-⟩
  ·rw [h1,h2];exact .list (.va _ _)
  ·refine .list ?_
   have hl:(c.2.map (c.1.cells E)).length=c.2.length:=by simp
   have:=NM (b:=b) (by rw [hl];exact hcap) (fun q hq=>?_) (hf.mono AV.pr AV.cells)
   ·simp_all
   ·rw [hl] at hq
    refine⟨.inr ⟨by rw [h1];rfl,hq⟩,?_⟩;rw [cell_of_row w b q cur g.e (0,0) hheap]
    simp_all
theorem Flat.take{es:J (J DV)}(h:Flat w pr k L es)(hi:i<=es.length):Flat w pr k (L.take (i*k)) (es.take i):=by
 have hik:i*k<=L.length:=by rw [h.1];exact zy k hi
 have hl:(es.take i).length=i:=by simp;omega
 refine⟨by simp_all,fun j hj=>?_,fun j l hj hl'=>?_⟩
 ·have:(es.take i).getD j []=es.getD j []:=by grind
  rw [this];exact h.2.1 j om
 ·have e1:(es.take i).getD j []=es.getD j []:=by grind
  have e2:(L.take (i*k)).getD (j*k+l) undef=L.getD (j*k+l) undef:=by
   have:=NL hj hl'
   grind
  rw [e1,e2];exact h.2.2 j l om hl'
theorem Flat.drop{es:J (J DV)}(h:Flat w pr k L es)(hi:i<=es.length):Flat w pr k (L.drop (i*k)) (es.drop i):=by
 have hl:(es.drop i).length=es.length-i:=by simp
 have hgd:∀j,(es.drop i).getD j []=es.getD (i+j) []:=fun j=>by simp_all
 refine⟨by rw [KJ,hl,h.1,Nat.sub_mul],fun j hj=>?_,fun j l hj hl'=>?_⟩
 ·rw [hgd];exact h.2.1 _ om
 ·rw [hgd]
  have e2:(L.drop (i*k)).getD (j*k+l) undef=L.getD ((i+j)*k+l) undef:=by
   grind
  rw [e2];exact h.2.2 (i+j) l om hl'
theorem Flat.single{us:J Value}{e:J DV}(h:LD w pr us e)(hk:us.length=k):Flat w pr k us [e]:=by
 have hl:=h.length;have:=Flat.Vy (w:=w) (pr:=pr) (k:=k) (rows:=[us]) (es:=[e]) rfl (fun j hj=>by simp_all) (fun j hj=>by simp_all);simpa using this
theorem Flat.splice{es fs:J (J DV)}(h:Flat w pr k L es)(h':Flat w pr k news fs){p:Nat}(hp:p+fs.length<=es.length):
  Flat w pr k (L.take (p*k)++news++L.drop (p*k+news.length)) (es.take p++fs++es.drop (p+fs.length)):=by
 have h1:=h.take (i:=p) om;have h2:=h.drop om;have e:p*k+news.length=(p+fs.length)*k:=by rw [h'.1,Ph]
 rw [e];exact (h1.append h').append h2
theorem acj(cur news:J Value){o:Nat}(h:o+news.length<=n)(hn:n<=cur.length):(cur.take o++news++cur.drop (o+news.length)).take n=(cur.take n).take o++news++(cur.take n).drop (o+news.length):=by
 have h1:(cur.take o++news).length=o+news.length:=by simp;omega
 rw [ad9,tL (l:=cur.take o++news) om,h1,YH,show min o n=o by omega,List.drop_take]
theorem K9{α:Type}{l:J α}{x:α}(h:l[j]? = some x):l.set j x=l:=by
 grind [List.set_getElem_self]
theorem Rel.ahf(hr:Rel E w0 G0 st a w G)(hg:st.g[j]? = some g)(hc:oM st.c j=some c){new:aG Value}(hj:G.g[j]? = some (g,.slice (some ⟨b,0,none⟩) c.2.length cap))
  (hheap:w.heap[b]? = some (.cells cur g.e (0,0))) (hsz:new.size=cur.size) {xs':J (c.1.den E.D)} (hl:xs'.length=c.2.length) (hf:Flat w G.pr g.k (new.toList.take (xs'.length*g.k)) (xs'.map (c.1.cells E))) :
  Rel E w0 G0 {st with c:=(j,⟨c.1,xs'⟩)::nI j st.c} a (w.setRow b new) G:=by
 obtain⟨h,hj',hs,-⟩:=hr.soft hg hc;rw [hj] at hj';cases hj';rcases hs.block with⟨h1,-⟩|⟨b',cap',cur',h1,Gw,hcap,hcm,hcs,hf0,hnp⟩
 ·cases h1
 obtain⟨rfl,rfl⟩:=h1;rw [hheap] at Gw;cases Gw;obtain⟨n0,ZR,SV,NO,hb0⟩:=hr.boxes.grow j g _ hj;have hbb:=hb0 b rfl;have hnew:(w.setRow b new).heap[b]? = some (.cells new g.e (0,0)):=setRow_heap w b cur _ g.e _ hheap;have Eb:∀b',b'≠b->(w.setRow b new).heap[b']? = w.heap[b']?:=fun b' hb'=>setRow_other w b b' _ hb'
 have hown:(w.setRow b new).ownsRow 0 g.e g.k (.slice (some ⟨b,0,none⟩) c.2.length cap) c.2.length (new.toList.take (c.2.length*g.k)):=by
  refine⟨?_,.inr ⟨b,cap,new,rfl,eA _,hnew,hcap,hcm,by rw [hsz];exact hcs,rfl⟩⟩
  simp_all
 have mL:=K9 hj
 have hcells:∀b' o v,G.pr b' o->w.cell? ⟨b',o,none⟩=some v->(w.setRow b new).cell? ⟨b',o,none⟩=some v:=fun b' o v hp hv=>by
  have:b'≠b:=fun e=>by subst e;exact hnp o hp
  rw [U3 (Eb b' this)];exact hv
 have key:=hr.setRow (cs:=(j,⟨c.1,xs'⟩)::nI j st.c) hj (ek _) (fun _=>rfl) (w':=w.setRow b new) si rfl rfl rfl
  (fun b' _ hne=>Eb b' (fun e=>hne (by rw [e];rfl))) hcells G.pr (fun _ _ h=>h) (fun _ _ h=>.inl h)
  ⟨c.2.length,_,hown,NO,fun b' hb'=>by cases hb';simp_all⟩ (fun _ h=>.inr h) (fun hg'=>?_)
 ·simp_all [K9]
 ·intro i c' hm
  rcases iE.1 hm with e|hm
  ·cases e
   refine⟨g,_,by rw [mL];exact hj,hs.1,hs.2.1,⟨_,by rw [hl];exact hown,?_⟩,fun b' hb' o hp=>by cases hb';exact hnp o hp⟩;rw [<-hl];exact hf.mono hg'.pr hg'.cells
  ·obtain⟨hm,hne⟩:=tA hm
   obtain⟨x,hd,h1,h2⟩:=hr.gr i c' hm;refine⟨x,hd,by rw [mL];exact h1,h2.keep rfl rfl hg'.pr hg'.cells fun b' hb'=>⟨Eb b' (fun e=>?_),fun o hp=>hp⟩⟩;subst e;exact hne (hr.boxes.apart i j x hd g _ b' h1 hj hb' rfl)
def YP(P:bh)(st:TS E):Op->O (Bool×TV E)
 | .indexAddr t x ix=>match aU P t,st.ev ix with
  | some ⟨.slice e,_,_,_⟩,.dat (.int _) n=>match aU P e,st.ev x with
   | some i,.eu j aF=>match st.g[j]?,oM st.c j with
    | some g,some c=>some (Nat.beq g.aF aF&&(Nat.beq i.size (c.1.size E)&&(decide (0<=n)&&decide (n<(c.2.length:Int)))),.ir j aF (c.1.size E) (Int.toNat n) 0)
    | _,_=>none
   | _,_=>none
  | _,_=>none
 | .fieldAddr s x f=>match aU P s,st.ev x with
  | some ⟨.struct fs,_,_,_⟩,.ir j aF k i off=>match fs[f]? with
   | some fd=>match aU P fd.type,st.g[j]? with
    | some fi,some g=>some (!(Nat.beq fi.size 0)&&Nat.beq g.aF aF,.ir j aF k i (off+fd.offset))
    | _,_=>none
   | none=>none
  | _,_=>none
 | .nilCheck x=>match st.ev x with
  | .ir j aF k i off=>match st.g[j]? with
   | some g=>some (Nat.beq g.aF aF,.ir j aF k i off)
   | none=>none
  | _=>none
 | .call c=>match c.callee,c.args.toList,c.argTypes.toList with
  | .builtin .len,[x],[t]=>match aU P t,st.ev x with
   | some ⟨.slice _,_,_,_⟩,.eu j aF=>match st.g[j]?,oM st.c j with
    | some g,some c=>some (Nat.beq g.aF aF,.dat (.int .i64) (c.2.length:Int))
    | _,_=>none
   | _,_=>none
  | _,_,_=>none
 | _=>none
theorem Rel.ir(hr:Rel E w0 G0 st a w G)(hg:st.g[j]? = some g)(hv:VT E w G (.ir j g.aF k i off) v):∃b m cap,G.g[j]? = some (g,.slice (some ⟨b,0,none⟩) m cap)/\i<m/\v=.pointer (some ⟨b,i*k+off,none⟩):=by
 obtain⟨h,hh⟩:=hr.AU hg
 grind [VT]
theorem VE{m:Nat}(hj:G.g[j]? = some (g,.slice (some ⟨b,0,none⟩) m cap))(hi:i<m):VT E w G (.ir j g.aF k i off) (.pointer (some ⟨b,i*k+off,none⟩)):=⟨g,_,hj,ek _,rfl,fun _=>⟨b,m,cap,rfl,hi,rfl⟩⟩
theorem ack(hE:E.Ok)(hr:Rel E w0 G0 st a w G){d:TV E}{cc:Bool}(h:YP P st o.op=some (cc,d))(hc:cc=true):jw P a w G o d:=by
 cases ho:o.op<;>rw [ho] at h<;>simp only [YP] at h<;>try trivial
 case indexAddr t x ix=>
  split at h<;>try trivial
  rename_i e j1 j2 z kd n ht hn;obtain⟨xt,jP,ey,-⟩:=aM ht;obtain⟨n,hn0⟩:∃m:Int,m=n:=⟨n,rfl⟩;subst hn0;have Dp:=hr.ev ix;rw [hn] at Dp;have Tb:=Dp.fU;split at h<;>try trivial
  ·rename_i i j aF hi hx
   obtain⟨xe,qA,AL,hsz,-⟩:=aM hi;split at h<;>try trivial
   rename_i g c hg hcg;cases h;simp only [cE,fL] at hc;obtain⟨c1,c2,c3,c4⟩:=hc;have c1:=eM c1;have c3:(0:Int)<=n:=c3;have c4:n<(c.2.length:Int):=c4;subst c1;obtain⟨hh,hj,hs,hval⟩:=hr.soft hg hcg;have hv:=hr.ev x;rw [hx] at hv;have lJ:=hval _ hv;rcases hs.block with⟨h1,h2⟩|⟨b,cap,cur,h1,-⟩
   ·grind
   rw [h1] at hj lJ;refine fV (f:=fun ρ=>Instr.indexAt t (ρ x) (ρ ix)) (by simp [execOp,ho]) ⟨_,VE (i:=n.toNat) (off:=0) hj om,fun w' hs=>?_⟩;rw [lJ,Tb];unfold Instr.indexAt asIntOf;simp only [jf,pe,jG,aQ ey]
   simp_all [and_self,if_true,jf,fy,jG,pe,add_lit,qC,UU]
 case fieldAddr s x f=>
  split at h<;>try trivial
  rename_i fs j1 j2 z j aF k i off ht hx;split at h<;>try trivial
  rename_i fd hf;split at h<;>try trivial
  rename_i fi g hi hg;cases h;simp only [cE,Gd] at hc;obtain⟨c1,c2⟩:=hc;have c2:=eM c2;have hz:fi.size≠0:=fun e=>by rw [e] at c1;cases c1
  subst c2;have hv:=hr.ev x;rw [hx] at hv;obtain⟨b,m,cap,hj,hlt,lJ⟩:=hr.ir hg hv;obtain⟨xt,jP,ey,-⟩:=aM ht;obtain⟨xf,hxf,-,hsf,-⟩:=aM hi;refine fV (f:=fun ρ=>Instr.fieldAt s (ρ x) f) (by simp [execOp,ho]) ⟨_,VE (i:=i) (off:=off+fd.offset) hj hlt,fun w' hs=>?_⟩;rw [lJ];unfold Instr.fieldAt Instr.sureAddr;simp only [jf,pe,jG,aQ ey,hf];simp [fieldPlace,fy hxf,hsf,hz,add_lit,Pg]
 case nilCheck x=>
  split at h<;>try trivial
  rename_i j aF k i off hx;split at h<;>try trivial
  rename_i g hg;cases h;have c1:=eM hc;subst c1;have hv:=hr.ev x;rw [hx] at hv;obtain⟨b,m,cap,hj,hlt,lJ⟩:=hr.ir hg hv;refine⟨a.eval x,hv,fun w' _=>?_⟩;simp [execOp,ho,lJ]
 case call c'=>
  split at h<;>try trivial
  rename_i x t hcl ha hat;have gD:c'.args=#[x]:=by grind
  have yp:c'.argTypes=#[t]:=by grind
  split at h<;>try trivial
  ·rename_i e j1 j2 z j aF ht hx
   split at h<;>try trivial
   rename_i g c hg hcg;cases h;have c1:=eM hc;subst c1;obtain⟨hh,hj,hs,hval⟩:=hr.soft hg hcg;have hv:=hr.ev x;rw [hx] at hv;have lJ:=hval _ hv
   have hlen:∃ad cap,hh=.slice ad c.2.length cap:=by
    rcases hs.block with⟨h1,h2⟩|⟨b,cap,cur,h1,-⟩
    ·simp_all
    ·exact⟨_,_,h1⟩
   obtain⟨ad,cap,hlen⟩:=hlen;obtain⟨xt,jP,ey,-⟩:=aM ht;refine⟨_,.int _ _ _ _,fun w' hs=>?_⟩;unfold execOp;simp only [ho,resolve,hcl,jf,pe,jG,invoke,builtin,gD,yp,List.map_toArray,jU,Nc];rw [lJ,hlen];simp [Builtin.len_,aQ ey,goInt]
def Tu(P:bh)(ty:aI->O Ty)(st:TS E)(o:Op):O (Bool×TV E):=match Tr P ty st o with
 | some x=>some x
 | none=>YP P st o
theorem Z5(hE:E.Ok)(hr:Rel E w0 G0 st a w G){d:TV E}{c:Bool}(h:Tu P ty st o.op=some (c,d))(hc:c=true):jw P a w G o d:=by
 grind [Tu,ZY,ack]
def ae7(T:Ty)(k:TypeDesc)(d:TV E):O (J (T.den E.D)):=
 match k,d with
 | .string,.dat .str l=>if h:T=.int .u8 then some (h▸cU l) else none
 | .slice _,d=>d.get (.bn T)
 | _,_=>none
def W4(P:bh)(src dst t':aI)(n off:Nat):Bool:=
 match P.underlying src,P.underlying dst with
 | some (.pointer t),some .unsafePointer=>match aU P t with
  | some i=>!(Nat.beq i.size 0)&&Nat.blt off n
  | none=>false
 | some .unsafePointer,some (.pointer t)=>match aU P t with
  | some _=>liesAt P P.depth t' (n / P.cellsOf t') off t 1
  | none=>false
 | _,_=>false
def anY(P:bh)(e:aI):Bool:=match aU P e with
 | some ⟨.int .u8,_,_,_⟩=>true
 | _=>false
def ae8(P:bh)(ty:aI->O Ty)(st:TS E)(dst:O Nat)(c:Call):O (Bool×TS E):=
 match c.callee,c.args.toList,c.argTypes.toList with
 | .builtin .append,[x,y],[t,tx]=>match aU P t,aU P tx with
  | some ⟨.slice e,_,_,_⟩,some ix=>match aU P e,ty e with
   | some ie,some T=>match ae7 T ix.kind (st.ev y) with
    | some ys=>match st.ev x with
     | .cA j aF T' xs=>match st.g[j]? with
      | some g=>if hT:T'=T then
        some (!(ND st.c j)&&(Nat.beq g.aF aF&&(Nat.beq g.e e&&(Nat.beq g.k ie.size&&(Nat.beq ie.size (T.size E)&&(Nat.blt 0 ie.size&&(Nat.beq ie.zero.cells.size ie.size &&
          (decide (xs.length+ys.length<=9223372036854775807)&&decide ((xs.length+ys.length)*ie.bytes<=140737488355328)))))))),
         {st with t:=cx st.t dst (.cA j (g.aF+1) T ((hT▸xs:J (T.den E.D))++ys)),g:=st.g.set j {g with aF:=g.aF+1}})
       else none
      | none=>none
     | .val (.slice none 0 0)=>some (Nat.beq ie.size (T.size E)&&(Nat.blt 0 ie.size&&(Nat.beq ie.zero.cells.size ie.size&&(decide (ys.length<=9223372036854775807)&&decide (ys.length*ie.bytes<=140737488355328)))),
       {st with t:=cx st.t dst (.cA st.g.length 1 T ys),g:=st.g++[⟨1,e,ie.size⟩]})
     | _=>none
    | none=>none
   | _,_=>none
  | _,_=>none
 | .builtin .unsafeString,[x,y],[pt,it]=>match aU P pt,st.ev x,st.ev y with
  | some ⟨.pointer e,_,_,_⟩,.QO j aF xs,.dat (.int .i64) n=>match st.g[j]? with
   | some g=>some (!(ND st.c j)&&(Nat.beq (P.cellsOf e) 1&&(Nat.beq g.aF aF&&(Nat.beq g.e e&&(Nat.beq g.k 1&&(decide (n=(xs.length:Int))&&(JX xs&&decide (xs.length<=9223372036854775807))))))),
     {st with t:=cx st.t dst (.dat .str (cu xs)),g:=st.g.set j {g with aF:=g.aF+1}})
   | none=>none
  | _,_,_=>none
 | _,_,_=>none
def Tv(P:bh)(ty:aI->O Ty)(st:TS E)(dst:O Nat):Op->O (Bool×TS E)
 | .alloc t=>match aU P t with
  | some i=>some (i.zero.cells.toList.all (·.oneCell'),{st with t:=cx st.t dst (.ptr st.H.length 0),H:=st.H++[.cells t (i.zero.cells.toList.map TV.JZ)]})
  | none=>none
 | .box t x=>match (st.ev x).o4 with
  | some cs=>some (true,{st with t:=cx st.t dst (.ptr st.H.length 0),H:=st.H++[.cells t cs]})
  | none=>none
 | .store t x y=>match aU P t,st.ev x,(st.ev y).o4 with
  | some i,.ptr r off,some ds=>match st.H[r]? with
   | some (.cells t' cs)=>some (Nat.beq ds.length i.size&&Nat.ble (off+i.size) cs.length,{st with t:=cx st.t dst .any,H:=st.H.set r (.cells t' (cs.take off++ds++cs.drop (off+ds.length))),d:=r::st.d})
   | _=>none
  | _,_,_=>none
 | .buildSlice t len parts=>match aU P t with
  | some ⟨.slice e,_,_,_⟩=>match aU P e,ty e with
   | some ie,some T=>match og T (parts.toList.map fun p=>st.ev p.2) with
    | some xs=>cond (Nat.beq len 0)
      (cond (E.zc e) (some (parts.toList.isEmpty&&Nat.beq ie.size (T.size E),{st with t:=cx st.t dst (.cA st.g.length 0 T []),g:=st.g++[⟨0,e,ie.size⟩]}))
       (some (parts.toList.isEmpty,{st with t:=cx st.t dst (.dat (.bn T) [])})))
      (some (decide (parts.toList.map (·.1)=List.range len)&&(Nat.ble (len*ie.size) 16777216&&(Nat.blt 0 ie.size&&Nat.beq ie.size (T.size E))),
       {st with t:=cx st.t dst (.cA st.g.length 0 T xs),g:=st.g++[⟨0,e,ie.size⟩]}))
    | none=>none
   | _,_=>none
  | _=>none
 | .call c=>ae8 P ty st dst c
 | .convert src dt x=>match st.ev x with
  | .ptr r off=>match st.H[r]? with
   | some (.cells t' cs)=>some (W4 P src dt t' cs.length off,{st with t:=cx st.t dst (.ptr r off)})
   | _=>none
  | d=>match d.J2,aU P src,aU P dt with
   | some ⟨.int .u8,xs⟩,some ⟨.slice e,_,_,_⟩,some ⟨.string,_,_,_⟩=>some (anY P e,{st with t:=cx st.t dst (.dat .str (cu xs))})
   | _,_,_=>none
 | .makeMap t none=>match aU P t with
  | some ⟨.map k e,_,_,_⟩=>match ty k,ty e with
   | some kt,some vt=>some (true,{st with t:=cx st.t dst (.jq st.H.length),H:=st.H++[.map kt vt []]})
   | _,_=>none
  | _=>none
 | .mapUpdate t x y z=>match aU P t,st.ev x with
  | some ⟨.map k e,_,_,_⟩,.jq r=>match st.H[r]?,aU P k with
   | some (.map kt vt m),some ik=>match (st.ev y).get kt,(st.ev z).get vt with
    | some kk,some vv=>some (VB E P k kt ik.kind,{st with t:=cx st.t dst .any,H:=st.H.set r (.map kt vt (jI (kt.cV E) m kk vv)),d:=r::st.d})
    | _,_=>none
   | _,_=>none
  | _,_=>none
 | .lookup t x y ok=>match aU P t,st.ev x with
  | some ⟨.map k e,_,_,_⟩,.jq r=>match st.H[r]?,aU P k,aU P e with
   | some (.map kt vt m),some ik,some ie=>match (st.ev y).get kt,(yH E (some vt) ie.zero).get vt with
    | some kk,some z=>some (VB E P k kt ik.kind&&ie.zero.cells.toList.all (·.oneCell'),
      {st with t:=cx st.t dst (cond ok (.tuple [.dat vt (fZ (kt.cV E) m kk z),.dat .bool (Ec (kt.cV E) m kk)]) (.dat vt (fZ (kt.cV E) m kk z)))})
    | _,_=>none
   | _,_,_=>none
  | _,_=>none
 | _=>none
theorem VF(hr:Rel E w0 G0 st a w G)(htx:aU P tx=some ix)(hk0:0<T.size E)(h:ae7 T ix.kind (st.ev y)=some ys):
  ∃news,Src P (T.size E) tx (a.eval y) ys.length news w/\Flat w G.pr (T.size E) news (ys.map (T.cells E)):=by
 unfold ae7 at h;split at h
 ·split at h
  ·rename_i hT
   subst hT
   grind [ae3,cU,Ty.size]
  ·cases h
 ·rename_i e' hk
  have hv:=TV.uy h (hr.ev y);exact aji hr htx hk hk0 (hv.atom rfl).tw
 ·cases h
theorem R5(hr:Rel E w0 G0 st a w G){t:aI}(ho:o.op=.buildSlice t 0 parts)(ht:aU P t=some ⟨.slice e,j1,j2,z⟩)(hi:aU P e=some ie)(hp:parts.toList=[])(T:Ty):
  jO P w0 G0 a w o {st with t:=cx st.t o.dst (.dat (.bn T) [])}:=by
 obtain⟨xt,jP,ey,-⟩:=aM ht;obtain⟨xe,qA,AL,hsz,-⟩:=aM hi;have hp':parts=#[]:=by simp_all
 have hG:=hr.grow (eY.alloc w (.cells #[] e)) rfl rfl rfl G.pr (fun _ _ h=>h) (fun _ _ _ h=>h) (fun b o hp=>jN (hr.boxes.gq b o hp).1 si);refine⟨.value (.slice (some ⟨w.heap.size,0,none⟩) 0 0),_,w.alloc (.cells #[] e),_,?_,.inl rfl,hG.put (.list (.va _ _)) o.dst⟩;simp [execOp,ho,Instr.buildSlice,aQ ey,fy qA,hp'];simp [newRow,Instr.fill]
 grind
theorem R6(hr:Rel E w0 G0 st a w G){t:aI}(ho:o.op=.buildSlice t 0 parts)(ht:aU P t=some ⟨.slice e,j1,j2,z⟩)(hi:aU P e=some ie)(hp:parts.toList=[])(hz:E.zc e=true)(T:Ty)(hk:ie.size=T.size E):
  jO P w0 G0 a w o {st with t:=cx st.t o.dst (.cA st.g.length 0 T []),g:=st.g++[⟨0,e,ie.size⟩]}:=by
 obtain⟨xt,jP,ey,-⟩:=aM ht;obtain⟨xe,qA,AL,hsz,-⟩:=aM hi;have hp':parts=#[]:=by simp_all
 have hG:=hr.al2 (k:=ie.size) hz;refine⟨.value (.slice (some ⟨w.heap.size,0,none⟩) 0 0),_,w.alloc (.cells #[] e),_,?_,.inl rfl,hG.put ?_ o.dst⟩
 ·simp [execOp,ho,Instr.buildSlice,aQ ey,fy qA,hp']
  simp [newRow,Instr.fill]
  grind
 ·exact⟨.va _ _,⟨0,e,ie.size⟩,.slice (some ⟨w.heap.size,0,none⟩) 0 0,by rw [<-hr.qb];simp,ek _,fun _=>rfl⟩
theorem acm(hE:E.Ok)(hr:Rel E w0 G0 st a w G){st':TS E}{c:Bool}(h:Tv P ty st o.dst o.op=some (c,st'))(hc:c=true):jO P w0 G0 a w o st':=by
 cases ho:o.op<;>rw [ho] at h<;>simp only [Tv] at h<;>try trivial
 case alloc t=>
  grind [ae2]
 case box t x=>
  grind [ajh]
 case store t x y=>
  grind [ae0,Nat.eq_of_beq_eq_true,Nat.le_of_ble_eq_true]
 case buildSlice t len parts=>
  split at h<;>try trivial
  rename_i e j1 j2 z ht;split at h<;>try trivial
  rename_i ie T hi hT;split at h<;>try trivial
  rename_i xs hx;cases hl:Nat.beq len 0<;>rw [hl] at h<;>simp only [aZ,aK] at h
  ·cases h
   simp only [cE,fL] at hc;have h0:len≠0:=fun e=>by subst e;cases hl
   exact Tp hE hr ho ht hi hc.1 (lR hc.2.1) (lR hc.2.2.1) om (eM hc.2.2.2) hx
  ·obtain rfl:=eM hl
   cases hz:E.zc e<;>rw [hz] at h<;>simp at h<;>cases h
   ·grind [R5]
   grind [R6,Nat.eq_of_beq_eq_true]
 case convert src dt x=>
  split at h
  ·rename_i r off hd
   split at h<;>try trivial
   rename_i t' cs hb;cases h;refine ZZ hr ho hd hb ?_;unfold W4 at hc;split at hc<;>try trivial
   ·rename_i t hs hdt
    split at hc<;>try trivial
    rename_i i hi;simp only [cE,Gd] at hc;exact .inl ⟨t,i,hs,hdt,hi,fun e=>(by simp_all),lR hc.2⟩
   grind
  grind [anY,NV,TV.H8]
 case makeMap t res=>
  grind [Z4]
 case mapUpdate t x y z=>
  grind [VC]
 case lookup t x y ok=>
  grind [aci]
 case call c'=>
  unfold ae8 at h;split at h<;>try trivial
  ·split at h<;>try trivial
   split at h<;>try trivial
   split at h<;>try trivial
   split at h<;>try trivial
   ·split at h<;>try trivial
    split at h<;>try trivial
    cases h;simp only [cE,fL] at hc;obtain⟨c0,c1,c2,c3,c4,c5,c6,c7,c8⟩:=hc;have c0:=K3 (by simpa using c0);have c5:=lR c5
    grind [VF,ace,Nat.eq_of_beq_eq_true]
   ·cases h
    simp only [cE,fL] at hc;obtain⟨c4,c5,c6,c7,c8⟩:=hc;have c5:=lR c5
    grind [VF,VA,Nat.eq_of_beq_eq_true]
  ·rename_i x y pt it hcl ha hat
   split at h<;>try trivial
   rename_i e j1 j2 z j aF xs n hp hx hy;split at h<;>try trivial
   rename_i g hg;cases h;simp only [cE,fL] at hc;obtain⟨c0,c1,c2,c3,c4,c5,c6,c7⟩:=hc;have c0:=K3 (by simpa using c0);exact Qk (j3:=0) (j4:=0) (z2:=undef) hr ho hcl ha hat hp (eM c1) hx hg c0 (eM c2) (eM c3) (eM c4) hy c5 c6 c7
end Go.RT
