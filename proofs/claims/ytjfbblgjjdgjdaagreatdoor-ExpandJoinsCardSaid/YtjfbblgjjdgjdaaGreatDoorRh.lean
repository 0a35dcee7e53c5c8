import Derived.Test.YtjfbblgjjdgjdaaGreatDoorRf
import Derived.Sort.Row
import Derived.OrdersHeld
import Derived.Lib.ConvBytes
import Derived.Scope
import Derived.Lib.Bytealg
import Derived.Recover
open Go.Region renaming wanted->pC,ready->pB,binds->pA
open Go.Lib renaming indexByte->lO
open Array renaming replicate->lA
open Nat renaming ble->iO,beq->eI,blt->dE
open Option renaming some->iN,none->iF
open Bool renaming true->hJ,false->eQ
open Decidable renaming decide->eK
open Int renaming toNat->eJ
open Go.IntKind renaming wrap->dO
open List renaming range->bY,length->Ts
open Go renaming Value->T1,execOp->R0,undef->M2,FuncId->H5,callFunc->H4,Oper->H3,wpList->H2
set_option linter.all false
namespace Go.RT
variable {E : TEnv}
def Ah(E:TEnv)(w:U)(G:bB)(r:acU E)(e:Ending)(w':U):Prop:=∃v G',e=Eg r.ok v/\mm w G w' G'/\mY E w' G' r.H r.g/\lS E w' G' r.c/\VT E w' G' r.d v/\∀(q b:Nat),G.i[q]? = iN b->q∉r.D->w'.heap[b]? = w.heap[b]?
def Inv:=H5->aK T1->U->(Ending->U->Prop)->Prop
def Inv.ac4(I:Inv):Prop:=∀f args w (R R':Ending->U->Prop),(∀e w',R e w'->R' e w')->I f args w R->I f args w R'
def AGC(E:TEnv)(I:Inv)(f:H5)(ds:J (TV E))(H:J (gf E))(gs:J cV)(cs:J (Nat×Cn E))(r:acU E):Prop:=∀(w:U)(G:bB)(args:aK T1),qR E w G->mY E w G H gs->lS E w G cs->bO E w G ds args.toList->I f args w (Ah E w G r)
def bQ.H9(I:Inv)(C:bQ E):Prop:=∀x y,C.m x=iN y->AGC E I C.s.f (C.s.ds (aV C.s.tys x)) (C.s.H (aV C.s.tys x)) C.s.g0 (C.s.c (aV C.s.tys x)) (kY C.s (C.s.H (aV C.s.tys x)) C.s.nj y)
variable{st:TS E}
theorem EU(hE:E.Ok){I:Inv}(hI:I.ac4){R:Type}{f:H5}{ds:J (TV E)}{dst:Option Nat}{k:Ex E->TS E->Option R}{r:R}:
  ∀ {Γ:J (bQ E)},(∀C∈Γ,C.H9 I)->sP st dst f ds k Γ=iN r->∀(w0:World)(G0:bB)(a:Act)(w:World)(G:bB)(args:Array T1),Rel E w0 G0 st a w G->bO E w G ds args.toList ->
   I f args w (λe w'=>(∃v st' G',e=.returned v/\Rel E w0 G0 st' (a.put dst v) w' G'/\k .normal st'=iN r/\Fr (jd dst) hJ st st')\/∃x st',x≠.normal/\k x st'=iN r)
 | [],_,h=>by cases h
 | C::Γ,hΓ,h=>by
  have eS:sP st dst f ds k Γ=iN r->_:=EU hE hI (λC' hC=>hΓ C' (by simp[hC]));simp[sP]at h;cases hf:eI C.s.f f<;>rw[hf]at h<;>simp at h
  ·exact eS h
  have hf:=eY hf;obtain⟨SN,kg,hhs⟩:∃SN kg,zM C.s.args ds st=(SN,kg):=⟨_,_,rfl⟩;rw[hhs]at h;split at h
  ·rename_i ls hls;split at h
   ·rename_i xx hxx;generalize CZ:sB (C.s.ey kg SN).b=bs at *;generalize hgs:sB (C.s.ey kg SN).g=gs at *;obtain⟨hwf,h⟩:=dX h;cases hm:C.m xx with
    | none=>rw[hm]at h;cases h
    | some y=>
     intro w0 G0 a w G0' args hr PO;obtain⟨R4,G,fB,vw,hvs⟩:=PK C.s.args ds hr;have hargs:=hvs _ PO;rw[hhs]at fB hargs R4;have hr:=fB;have hnd:bs.Nodup/\gs.Nodup/\bs.length=C.s.boxes.length/\C.s.rows.length=Ts gs:=by
      unfold dm.enter at hls;split at hls<;>try trivial
      rename_i H g hH hg;cases qf:(xE bs&&(xE gs&&(eI bs.length C.s.boxes.length&&AD C.s.rows g)))<;>rw[qf]at hls<;>simp only[aU]at hls
      ·cases hls
      simp only[cK]at qf;exact⟨xF qf.1,xF qf.2.1,eY qf.2.2.1,by rw[(Eh qf.2.2.2).1,(tf hg).1]⟩
     obtain⟨is,gg,hi,B2,hB,hS,hV⟩:=hr.enter hE hls hargs;have hput:=EO _ hxx;have hok:=hΓ C si xx y hm w (G.ey is gg) args (hr.V5.ey hi B2) (by rw[hput];exact hB) (by rw[hput];exact hS) (by rw[hput];exact hV);have hg0:=hB.gs;have hwf':∀(q:Outs),q.wf bs.length gs.length=hJ->AE bs.length q.boxes=hJ/\gs.length<=q.rows.length:=λq hq=>by simp_all[Outs.wf]
     unfold dm.wf at hwf;rw[cK]at hwf;have PR:∀(y:dens E C.s.out.tys)(e:Ending)(w':World),okK C.s.out bs gs kg dst k y=iN r ->
       Ah E w (G.ey is gg) (C.s.out.oa hJ (C.s.H (aV C.s.tys xx)) C.s.g0 (aV C.s.out.tys y)) e w' ->
       ∃v st' G',e=.returned v/\Rel E w0 G0 st' (a.put dst v) w' G'/\k .normal st'=iN r/\Fr (jd dst) hJ st st':=by
      rintro y e w' hk ⟨v1,G',he,hE,Lu,V8,V9,MS⟩;subst he;obtain⟨hs1,hs2⟩:=hwf' _ hwf.1;rw[<-hg0]at Lu V8 V9;obtain⟨Gn,hR,hval⟩:=hr.leave hi B2 hnd.1 hnd.2.1 C.s.out hs1 hs2 hE Lu V8 V9 MS;exact⟨v1,_,Gn,rfl,hR.put hval dst,hk,(C.s.out.Uj bs gs kg _ dst _).ofC R4⟩
     have fin:∀(p:Option Outs)(hp:C.s.nj=p)(y:OutP E C.s.out p),ac2 C.s bs gs kg dst k p y=iN r->I f args w (Ah E w (G.ey is gg) (kY C.s (C.s.H (aV C.s.tys xx)) p y)) ->
       I f args w (λe w'=>(∃v st' G',e=.returned v/\Rel E w0 G0 st' (a.put dst v) w' G'/\k .normal st'=iN r/\Fr (jd dst) hJ st st')\/∃x st',x≠.normal/\k x st'=iN r):=by
      intro p hp y hk hi;refine hI _ _ _ _ _ (λe w' hR=>?_) hi;cases p with
      | none=>exact .inl (PR y e w' hk hR)|some q=>cases y with|inl y=>exact .inl (PR y e w' hk hR)|inr y=>exact .inr ⟨.panic (q.val bs gs kg (aV q.tys y)),_,(λh=>nomatch h),hk⟩
     grind
   ·exact eS h
  ·exact eS h
def Ye(E:TEnv)(P:bx):Inv:=λf args w R=>∀(Y:YD)(fn l D:Nat)(xs tmps:aK T1),E.yd f Y->args=xs++tmps->xs.size=Y.params.size ->
 w.heap[l]? = iN (.loop ⟨.ready,iF,fn,tmps,Y.params,Y.assign,Y.body,D⟩)->RoundIn Fence.wide 0 P l fn ((Y.params.zip xs).foldl (λt (p,v)=>t.setIfInBounds p v) tmps) Y.assign Y.body w R
theorem Ye.mono(P:bx):(Ye E P).ac4:=λf args w R R' h hi Y fn l D xs tmps h1 h2 h3 h4=>(hi Y fn l D xs tmps h1 h2 h3 h4).mono h
def ave{E:TEnv}(P:bx)(Y:J (bQ E)):Prop:=∀C∈Y,C.H9 (Ye E P)
structure U6(P:Program)(f:H5):Prop where
 enters:∀args w,(H4 f args).run P w=.ok (.enter f args) w
 call:∀(blk cap:Nat)(zs:List Int)(w:World),Sort.Holds (Value.int .u8) w blk 0 zs.toArray->zs.length<=9223372036854775807->Calls P f #[.slice (iN ⟨blk,0,iF⟩) zs.length cap] w λe w'=>e=.returned (.tuple #[])/\∃n,w'=Sort.putRow (Value.int .u8) (Sort.ahead w n) blk 0 zs.reverse.toArray
structure Cx(E:TEnv) where
 P:Program
 ty:TypeId->Option Ty
 Γ:List (bQ E)
 Y:List (bQ E):=[]
 rv:Option H5:=iF
structure Cx.Ok(X:Cx E):Prop where
 E:E.Ok
 Γ:∀C∈X.Γ,C.Ok X.P
 mix:X.P.follows .mixedOrders=hJ
 Y:ave X.P X.Y:=by exact λ_ h=>nomatch h
 rv:∀f,X.rv=iN f->U6 X.P f:=by exact λ_ h=>nomatch h
variable{P:bx}
def SO:∀f,(iF:Option H5)=iN f->U6 P f:=λ_ h=>nomatch h
theorem rvS{g:H5}(h:U6 P g):∀f,iN g=iN f->U6 P f:=λ_ e=>by cases e;exact h
def dec(l:J UInt8)(p:Nat):Nat×Nat:=Utf8.decode ⟨⟨l⟩⟩ p
def aoK(P:bx)(src dst t:aL)(n:Nat):Bool:=match P.underlying src,P.underlying dst with
 | some (.pointer e),iN .unsafePointer=>(match P.info? e with|some j=>!(eI j.size 0)|none=>eQ)&&dE 0 n
 | some .unsafePointer,iN (.pointer u)=>(match P.info? u with|some _=>hJ|none=>eQ)&&liesAt P P.depth t (n / P.cellsOf t) 0 u 1
 | _,_=>eQ
def R6(st:TS E):Op->Bool
 | .move _=>hJ|.assign _=>hJ|.unOp _ _ _=>hJ|.field _ _ _=>hJ|.fieldAddr _ _ _=>hJ|.load _ _=>hJ|.nilCheck _=>hJ|.extract _ _=>hJ|.alloc _=>hJ|.binOp op _ x y _=>match op with
  | .quo=>isConst y|.rem=>isConst y|.shl=>isConst y|.shr=>isConst y|.add=>match st.ev x with
   | .dat (.int _) _=>hJ|_=>eQ
  | _=>hJ
 | .convert _ _ x=>match st.ev x with
  | .dat (.int _) _=>hJ|_=>eQ
 | _=>eQ
abbrev abv{α:Type}(b:Bool)(x y:α):α:=match b with|true=>x|false=>y
theorem amS{α:Type}(b:Bool)(x y:α):abv b x y=cond b x y:=by cases b<;>rfl
abbrev rqP{R:Type}(pl c:Bool)(k:O R):O R:=match pl with
 | true=>match c with
  | true=>k|false=>iF
 | false=>rq c k
variable{R:Type}
theorem Ia{pl c:Bool}{k:O R}{r:R}(h:rqP pl c k=iN r):c=hJ/\k=iN r:=by grind[dX]
noncomputable def agree{R:Type}(a b:O R):O R:=@ite _ (a=b) (Classical.propDecidable _) a iF
theorem va{a b:O R}{r:R}(h:agree a b=iN r):a=iN r/\b=iN r:=by unfold agree at h;grind
theorem MW(a:O R):agree a a=a:=by simp_all[agree]
theorem aku{t e:aL}(eG:P.underlying t=iN (.slice e))(ad:O Addr)(n c:Nat)(hn:ad=iF->n=0/\c=0)(x y:dH)(op:BinOp)(hop:op=.eql\/op=.neq)(w:U):
  (do eqGuard op t x y (.slice ad n c) (.slice iF 0 0);binOp op t (.slice ad n c) (.slice iF 0 0)).run P w=.ok (.bool (Gr op ad.isNone)) w:=by
 have h1:(eqGuard op t x y (.slice ad n c) (.slice iF 0 0)).run P w=.ok () w:=by rcases hop with rfl|rfl<;>rfl
 have h3:binOp op t (.slice ad n c) (.slice iF 0 0)=(do let r <-Op.equal t (.slice ad n c) (.slice iF 0 0);pure (.bool (Gr op r))):=by rcases hop with rfl|rfl<;>rfl
 have h2:∀d,(Op.equalIn (d+1) t (.slice ad n c) (.slice iF 0 0)).run P w=.ok ad.isNone w:=by cases ad with|none=>simp[Op.equalIn,aW eG]|some a=>simp[Op.equalIn,aW eG]
 simp[h1,h3,Op.equal,Op.maxDepth,h2 9999]
noncomputable def ZF{R:Type}(X:Cx E)(st:TS E)(o:H3)(k:Ex E->TS E->Option R):Option R:=
 match V0 X.P X.ty st o.op with
 | some (c,d)=>rqP (R6 st o.op) c (k .normal {st with t:=cG st.t o.dst d})
 | none=>match acO X.P X.ty st o.dst o.op with
  | some (c,st')=>rqP (R6 st o.op) c (k .normal st')|none=>match o.op with
   | .pick c x y=>match st.ev c with
    | .dat .bool b=>cond b (k .normal {st with t:=cG st.t o.dst (st.ev x)}) (k .normal {st with t:=cG st.t o.dst (st.ev y)})
    | _=>iF
   | .call c=>match c.callee with
    | .value x=>match st.ev x with
     | .func (.func f) caps=>sP st o.dst f (c.args.toList.map st.ev++caps) k X.Γ|.HV (.func f) fs=>sP st o.dst f (fs++c.args.toList.map st.ev) k X.Γ|_=>iF
    | _=>iF
   | .defer c=>match c.callee with
    | .value x=>match st.ev x with
     | .func (.func f) caps=>cond (eI f BR) iF (k .normal {st with t:=cG st.t o.dst .any,df:=(f,c.args.toList.map st.ev++caps)::st.df})
     | _=>iF
    | _=>iF
   | .panic x=>match st.ev x with
    | .iface t d=>k (.panic (.iface t d)) st|_=>iF
   | .range t x=>match aY X.P t,st.ev x with
    | some ⟨.string,_,_,_⟩,.dat .str l=>k .normal {st with t:=cG st.t o.dst (.ptr st.H.length 0),H:=st.H++[.iter l 0]}
    | _,_=>iF
   | .next x s=>cond s (match st.ev x with
    | .ptr r 0=>match st.H[r]? with
     | some (.iter l p)=>cond (dE p l.length)
       (k .normal {st with t:=cG st.t o.dst (.tuple [.dat .bool hJ,.dat (.int .i64) (p:Int),.dat (.int .i32) ((dec l p).1:Int)]),H:=st.H.set r (.iter l (p+(dec l p).2)),d:=r::st.d})
       (k .normal {st with t:=cG st.t o.dst (.tuple [.dat .bool eQ])})
     | _=>iF
    | _=>iF) iF
   | .convert src dst x=>match st.ev x with
    | .ptr r 0=>match st.H[r]? with
     | some (.cells t cs)=>rq (aoK X.P src dst t cs.length) (k .normal {st with t:=cG st.t o.dst (.ptr r 0)})
     | _=>iF
    | _=>iF
   | .binOp op t x y _=>match aY X.P t,st.ev x,st.ev y with
    | some ⟨.slice _,_,_,_⟩,.dat (.bz T) xs,.val (.slice iF 0 0)=>rq (dE 0 (T.size E)) (match op with
     | .eql=>cond xs.isEmpty (agree (k .normal {st with t:=cG st.t o.dst (.dat .bool hJ)}) (k .normal {st with t:=cG st.t o.dst (.dat .bool eQ)})) (k .normal {st with t:=cG st.t o.dst (.dat .bool eQ)})
     | .neq=>cond xs.isEmpty (agree (k .normal {st with t:=cG st.t o.dst (.dat .bool eQ)}) (k .normal {st with t:=cG st.t o.dst (.dat .bool hJ)})) (k .normal {st with t:=cG st.t o.dst (.dat .bool hJ)})
     | _=>iF)
    | _,_,_=>iF
   | _=>iF
def Gx:Op->Bool|.defer _=>hJ|_=>eQ
variable{X:Cx E}{o:H3}{a:Act}{w:U}{k:Ex E->TS E->O R}{t:Nat}{w0:U}{G0:bB}{n1 n2:Act->U->Prop}{G:bB}{all:aK H3}{j:Nat}
theorem PU(hX:X.Ok){r:R}(h:ZF X st o k=iN r):DG X.P o (jd o.dst) (!(Gx o.op)) st (λx st'=>k x st'=iN r):=by
 unfold ZF at h;split at h
 ·rename_i pc pd hp;obtain⟨h1,h2⟩:=Ia h;exact DG.Hr (λw0 G0 a w G hr=>(Th hX.E hr hp h1).amB hr) h2 ((Fr.put st o.dst pd).wide (λi h=>h) (λ_=>rfl))
 ·split at h
  ·rename_i pc pd hp;obtain⟨h1,h2⟩:=Ia h;exact DG.Hr (λw0 G0 a w G hr=>aij hX.E hr hp h1) h2 ((apL hp).wide (λi h=>h) (λ_=>rfl))
  ·split at h<;>try trivial
   ·rename_i c x y ho;split at h<;>try trivial
    rename_i b hb;intro w0 G0 a w G hr;have hv:=hr.ev c;rw[hb]at hv;have hv:=hv.nv;have hrun:(R0 a.eval o).run X.P w=.ok (.value (if b then a.eval x else a.eval y)) w:=by simp[R0,ho,hv,asBool]
    unfold Oper.wp;rw[hrun];cases b<;>simp only[aU,aJ]at h
    ·exact⟨_,G,hr.put (hr.ev y) o.dst,h,(Fr.put st o.dst _).wide (λi h=>h) (λ_=>rfl)⟩
    ·exact⟨_,G,hr.put (hr.ev x) o.dst,h,(Fr.put st o.dst _).wide (λi h=>h) (λ_=>rfl)⟩
   ·rename_i c ho;split at h<;>try trivial
    rename_i x hc;split at h<;>try trivial
    ·rename_i f caps hx;have:=afi hX.E (P:=X.P) ho hc hx hX.Γ h;rw[ho];exact this
    ·rename_i f caps hx;have:=afj hX.E (P:=X.P) ho hc hx hX.Γ h;rw[ho];exact this
   ·rename_i c ho;split at h<;>try trivial
    rename_i x hc;split at h<;>try trivial
    rename_i f caps hx;cases aip:eI f BR<;>rw[aip]at h<;>simp only[aU,aJ]at h
    rotate_left
    ·cases h
    intro w0 G0 a w G hr;have hv:=hr.ev x;rw[hx]at hv;simp only[VT]at hv;obtain⟨cv,HZ,R5⟩:=hv;have hrun:(R0 a.eval o).run X.P w=.ok (.defer {target:=.fn (.func f) cv,args:=c.args.map a.eval}) w:=by simp[R0,ho,resolve,hc,HZ,Deferred.ofValue]
    unfold Oper.wp;rw[hrun];have hargs:bO E w G (c.args.toList.map st.ev++caps) (c.args.map a.eval++cv).toList:=by have:=(PM hr c.args.toList).append R5;simpa using this
    have fB:Rel E w0 G0 {st with df:=(f,c.args.toList.map st.ev++caps)::st.df} {a with defers:={target:=.fn (.func f) cv,args:=c.args.map a.eval} :: a.defers} w G:=⟨hr.fF,hr.size,hr.tmps,⟨.inl ⟨aip,cv,rfl,hargs⟩,hr.defers⟩,hr.boxes,hr.fix,hr.pins,hr.gO⟩;refine⟨_,G,fB.put (d:=.any) (by simp only[VT]) o.dst,h,?_⟩;exact⟨MU _ _ _,λi hi=>JH _ _ _ _ hi,⟨[],rfl,λ_ _ _=>rfl⟩,eo _,λhh=>by rw[ho]at hh;cases hh⟩
   ·rename_i x ho;split at h<;>try trivial
    rename_i t d hx;intro w0 G0 a w G hr;have hv:=hr.ev x;rw[hx]at hv;have hv0:=hv;simp only[VT]at hv;obtain⟨u,hu,-⟩:=hv;have hrun:(R0 a.eval o).run X.P w=.halt (.panic (a.eval x)) w:=by simp[R0,ho,Instr.panic,hu,goPanic]
    unfold Oper.wp;rw[hrun];exact⟨.panic (.iface t d),st,G,⟨a.eval x,rfl,hv0⟩,hr,(λh=>nomatch h),h,Fr.refl _ _ _⟩
   ·rename_i t x ho;split at h<;>try trivial
    rename_i j1 j2 z l ht hd;refine DG.Hr (λw0 G0 a w G hr=>?_) h ?_
    ·have hv:=hr.ev x;rw[hd]at hv;obtain⟨xt,kG,eG,-⟩:=aQ ht;refine KB hr (ob:=.stringIter ⟨⟨l⟩⟩ 0) (x:=.iter l 0) (heap_alloc_new w _) ?_;simp only[R0,ho,hv.iS,Instr.range,mkStr,jJ,aW eG,kn,qj];rfl
    ·exact(Fr.mem st o.dst _ _ st.g [] (MV _ _) si).wide (λi h=>h) (λ_=>rfl)
   ·rename_i x s ho;cases s<;>simp only[aU,aJ]at h
    ·cases h
    split at h<;>try trivial
    rename_i r hd;split at h<;>try trivial
    rename_i l p hb;cases hlt:dE p l.length<;>rw[hlt]at h<;>simp only[aU,aJ]at h
    ·refine DG.Hr (λw0 G0 a w G hr=>?_) h ((Fr.put st o.dst _).wide (λi h=>h) (λ_=>rfl));have hv:=hr.ev x;rw[hd]at hv;simp only[VT]at hv;obtain⟨b,he,hat⟩:=hv;have hheap:w.heap[b]? = iN (.stringIter ⟨⟨l⟩⟩ p):=hr.box hat hb;have hlt':¬ p<(ByteArray.mk ⟨l⟩).size:=λhh=>by
      have:dE p l.length=hJ:=by rw[dE,aa6];exact hh
      simp_all
     have hrun:(R0 a.eval o).run X.P w=.ok (.value (.tuple #[.bool eQ])) w:=by
      have vw:(getObj b).run X.P w=.ok (.stringIter ⟨⟨l⟩⟩ p) w:=by simp only[getObj,Sem.run,hheap]
      simp only[R0,ho,Instr.next,he,jJ,vw,kn,hlt',TJ,qj]
     refine⟨_,_,w,G,hrun,.inl rfl,hr.put ?_ o.dst⟩;simp only[VT];exact⟨_,rfl,.cons (.bool _ _ _) (by simp only[bO])⟩
    ·refine DG.Hr (λw0 G0 a w G hr=>?_) h ((Fr.mem st o.dst _ _ st.g [r] (DF _ _ _) si).wide (λi h=>h) (λ_=>rfl));have hv:=hr.ev x;rw[hd]at hv;simp only[VT]at hv;obtain⟨b,he,hat⟩:=hv;have hheap:w.heap[b]? = iN (.stringIter ⟨⟨l⟩⟩ p):=hr.box hat hb;have hlt':p<(ByteArray.mk ⟨l⟩).size:=by rw[dE,aa6]at hlt;exact hlt
     let w':World:={w with heap:=w.heap.setIfInBounds b (.stringIter ⟨⟨l⟩⟩ (p+(dec l p).2))}
     have Fx:∀b',b'≠b->w'.heap[b']? = w.heap[b']?:=λb' hb'=>by grind
     have hnew:w'.heap[b]? = iN (.stringIter ⟨⟨l⟩⟩ (p+(dec l p).2)):=by grind
     have hrun:(R0 a.eval o).run X.P w=.ok (.value (.tuple #[.bool hJ,.int .i64 p,.int .i32 (dec l p).1])) w':=by
      have vw:(getObj b).run X.P w=.ok (.stringIter ⟨⟨l⟩⟩ p) w:=by simp only[getObj,Sem.run,hheap]
      have hso:(setObj b (.stringIter ⟨⟨l⟩⟩ (p+(Utf8.decode ⟨⟨l⟩⟩ p).2))).run X.P w=.ok () w':=by simp only[setObj,Sem.run,hheap];rfl
      simp only[R0,ho,Instr.next,he,jJ,vw,kn,hlt',if_true,hso,qj,goInt,dec]
     have hR:=hr.zI (w':=w') hat (by simp[w']) rfl rfl rfl Fx (x:=.iter l (p+(dec l p).2)) (λ_=>hnew);refine⟨_,_,w',G,hrun,.inl rfl,hR.put (d:=.tuple [.dat .bool hJ,.dat (.int .i64) (p:Int),.dat (.int .i32) ((dec l p).1:Int)]) ?_ o.dst⟩;simp only[VT];exact⟨_,rfl,.cons (.bool _ _ _) (.cons (.int _ _ _ _) (.cons (.int _ _ _ _) (by simp only[bO])))⟩
   ·rename_i src dst x ho;split at h<;>try trivial
    rename_i r hd;split at h<;>try trivial
    rename_i t cs hb;obtain⟨hc,h⟩:=dX h;refine DG.Hr (λw0 G0 a w G hr=>?_) h ((Fr.put st o.dst _).wide (λi h=>h) (λ_=>rfl));have hv:=hr.ev x;rw[hd]at hv;have hv0:=hv;simp only[VT]at hv;obtain⟨b,he,hat⟩:=hv;obtain⟨vs,hh,hone,hvs⟩:=hr.box hat hb;have hsz:vs.size=Ts cs:=by simpa using hvs.length
    have hsh:w.shape? b=iN (t,Ts cs):=by simp[World.shape?,hh,hsz]
    have hrun:(convert src dst (.pointer (iN ⟨b,0,iF⟩))).run X.P w=.ok (.pointer (iN ⟨b,0,iF⟩)) w:=by
     unfold aoK at hc;split at hc
     ·rename_i e hs hdd;rw[cK]at hc;obtain⟨h1,h2⟩:=hc;split at h1
      ·rename_i j hj;refine Lib.run_to_unsafe (j:=j) w ⟨b,0,iF⟩ hs hdd hj (λh0=>?_) hsh ?_
       ·rw[h0]at h1;cases h1
       simp_all
      ·cases h1
     ·rename_i u hs hdd;grind[Lib.run_from_unsafe]
     ·cases hc
    refine⟨.value (.pointer (iN ⟨b,0,iF⟩)),_,w,G,?_,.inl rfl,hr.put (v:=.pointer (iN ⟨b,0,iF⟩)) (d:=.ptr r 0) ?_ o.dst⟩
    ·simp only[R0,ho,he,jJ,hrun,kn,qj]
    simp_all
   ·rename_i op t x y yt ho;split at h<;>try trivial
    rename_i e j1 j2 z T xs ht hx hy;obtain⟨hk0,h⟩:=dX h;have hk0:0<T.size E:=by simp_all
    obtain⟨xt,kG,eG,-⟩:=aQ ht;have hop:op=.eql\/op=.neq:=by grind
    have key:(xs=[]->k .normal {st with t:=cG st.t o.dst (.dat .bool (Gr op hJ))} = iN r)/\k .normal {st with t:=cG st.t o.dst (.dat .bool (Gr op eQ))} = iN r:=by
     rcases hop with rfl|rfl<;>cases xs<;>simp only[List.isEmpty_nil,List.isEmpty_cons,aU,aJ]at h
     ·exact⟨λ_=>(va h).1,(va h).2⟩
     ·exact⟨(λe=>by cases e),h⟩
     ·exact⟨λ_=>(va h).1,(va h).2⟩
     ·exact⟨(λe=>by cases e),h⟩
    clear h;intro w0 G0 a w G hr;have hv:=hr.ev x;rw[hx]at hv;have C2:=hr.ev y;rw[hy]at C2;simp only[VT]at C2;have hd:=(hv.atom rfl).uC;obtain⟨cs,hfl,Ag⟩:=VD.flat hk0 hd;have hsh:∃ad n c,a.eval x=.slice ad n c/\(ad=iF->n=0/\c=0/\xs=[]):=by
     rcases Ag with⟨ad,he,hn⟩|⟨b,off,cap,he,hcap,hcells⟩
     ·exact⟨ad,0,0,he,λ_=>⟨rfl,rfl,by simpa using hn⟩⟩
     grind
    obtain⟨ad,n,c,he,hn⟩:=hsh;have hrun:(R0 a.eval o).run X.P w=.ok (.value (.bool (Gr op ad.isNone))) w:=by
     have hq:=aku (P:=X.P) eG ad n c (λe=>⟨(hn e).1,(hn e).2.1⟩) x y op hop w;have hx:R0 a.eval o=(do let z <- (do eqGuard op t x y (a.eval x) (a.eval y);binOp op t (a.eval x) (a.eval y));pure (.value z)):=by simp[R0,ho]
     rw[hx,he,C2,jJ,hq];rfl
    unfold Oper.wp;rw[hrun];refine⟨_,G,hr.put (d:=.dat .bool (Gr op ad.isNone)) (.bool _ _ _) o.dst,?_,(Fr.put st o.dst _).wide (λi h=>h) (λ_=>rfl)⟩;cases ad with|none=>exact key.1 (hn rfl).2.2|some _=>exact key.2
def mo(all:aK H3)(o:H3):J Nat:=match o.guard with
 | some (j,_)=>match (all[j]?).bind (·.dst)with
  | some t=>[t]|none=>[]
 | none=>[]
def eZ(all:aK H3):J H3->J Nat|[]=>[]|o::os=>jd o.dst++(mo all o++eZ all os)
def cJ:J H3->Bool|[]=>hJ|o::os=>!(Gx o.op)&&cJ os
abbrev jX{R:Type}(k1:TS E->O R)(k:Ex E->TS E->O R):Ex E->TS E->O R|.normal,st=>k1 st|e,st=>k e st
noncomputable def vb{R:Type}(X:Cx E)(all:aK H3):J H3->TS E->(Ex E->TS E->O R)->O R
 | [],st,k=>k .normal st|o::rest,st,k=>match o.guard with
  | none=>ZF X st o (jX (λst'=>vb X all rest st' k) k)|some (j,want)=>match (all[j]?).bind (·.dst)with
   | some t=>match st.at t with
    | .dat .bool b=>cond b
      (abv want (ZF X {st with t:=st.t.set t (.dat .bool hJ)} o (jX (λst'=>vb X all rest st' k) k))
       (vb X all rest {st with t:=cG (st.t.set t (.dat .bool hJ)) o.dst (.val M2)} k))
      (abv want (vb X all rest {st with t:=cG (st.t.set t (.dat .bool eQ)) o.dst (.val M2)} k)
       (ZF X {st with t:=st.t.set t (.dat .bool eQ)} o (jX (λst'=>vb X all rest st' k) k)))
    | .val (.bool _)=>iF|.val _=>vb X all rest {st with t:=cG st.t o.dst (.val M2)} k
    | _=>iF
   | none=>iF
theorem cQ.mono{Q Q':Ex E->TS E->Prop}(h:∀x s,Q x s->Q' x s){e:Exit}(hp:cQ E w0 G0 Q e a w):cQ E w0 G0 Q' e a w:=by obtain⟨x,s,G,h1,h2,h3⟩:=hp;exact⟨x,s,G,h1,h2,h _ _ h3⟩
theorem qH{a:Act}{w:U}{Q1 Q2:Exit->Act->U->Prop}(hn:∀a w,n1 a w->n2 a w)(hq:∀e a w,Q1 e a w->Q2 e a w)(h:o.wp P a w n1 Q1):o.wp P a w n2 Q2:=by
 have hout:LetsOut Q1->LetsOut Q2:=λ⟨a,w,h⟩=>⟨a,w,hq _ _ _ h⟩;unfold Oper.wp at *;generalize(R0 a.eval o).run P w=r at *;cases r with
 | ok n w'=>
  cases n<;>simp[Oper.upon]at h⊢
  case value u=>exact hn _ _ h
  case skip=>exact hn _ _ h
  case defer d=>exact hn _ _ h
  case enter f args=>grind[Calls.mono]
  grind[Rows.mono]
 | halt x w'=>cases x<;>simp[Oper.upon]at h⊢;simp_all
theorem KH(hr:Rel E w0 G0 st a w G){want b:Bool}(hg:o.guard=iN (j,want))(ht:(all[j]?).bind (·.dst)=iN t)(hb:st.at t=.dat .bool b):
  pC o (yielded all a.tmps)=(b==want)/\a.tmps[t]? = iN (.bool b):=by
 have hv:=hr.at t;rw[hb]at hv;have hv:=hv.nv;have hlt:t<st.t.length:=by grind[TS.at]
 have h2:a.tmps[t]? = iN (.bool b):=by
  have:t<a.tmps.size:=by rw[hr.size];exact hlt
  simp_all
 unfold pC yielded;simp_all
theorem MX(hr:Rel E w0 G0 st a w G){want:Bool}{u:T1}(hg:o.guard=iN (j,want))(ht:(all[j]?).bind (·.dst)=iN t)(hb:st.at t=.val u)(hu:∀b,u≠.bool b):
  pC o (yielded all a.tmps)=eQ:=by
 have hv:=hr.at t;rw[hb]at hv;simp[VT]at hv;have hlt:t<st.t.length:=by grind[TS.at]
 have h2:a.tmps[t]? = iN u:=by
  have:t<a.tmps.size:=by rw[hr.size];exact hlt
  simp_all
 unfold pC yielded;simp_all
theorem Rel.lit(hr:Rel E w0 G0 st a w G){b:Bool}(h:a.tmps[t]? = iN (.bool b)):Rel E w0 G0 {st with t:=st.t.set t (.dat .bool b)} a w G:=by
 refine⟨hr.fF,by simpa using hr.size,λj d hj=>?_,hr.defers,hr.boxes,hr.fix,hr.pins,hr.gO⟩;simp[Re]at hj;by_cases hij:t=j
 ·subst hij;have hlt:t<st.t.length:=by simp_all
  simp[hlt]at hj;subst hj;have:a.tmps.getD t M2=.bool b:=by simp_all
  rw[this];exact .bool _ _ _
 ·rw[if_neg hij]at hj;exact hr.tmps j d hj
theorem Fr.lit(st:TS E)(t:Nat)(d:TV E):Fr [t] hJ st {st with t:=st.t.set t d}:=
 ⟨si,λi hi=>by
  grind,⟨[],rfl,λ_ _ _=>rfl⟩,Nat.le_refl _,λ_=>rfl⟩
theorem sQ{R:Type}(hX:X.Ok){all:aK H3}{k:Ex E->TS E->O R}{r:R}:∀ {l:J H3}{st:TS E},vb X all l st k=iN r->ahR E X.P all l st (λx st'=>k x st'=iN r/\Fr (eZ all l) (cJ l) st st')
 | [],st,h=>λw0 G0 a w G hr=>⟨.normal,st,G,trivial,hr,h,Fr.refl _ _ _⟩|o::rest,st,h=>by
  have ih:∀ {st:TS E},vb X all rest st k=iN r->ahR E X.P all rest st (λx st'=>k x st'=iN r/\Fr (eZ all rest) (cJ rest) st st'):=λh=>sQ hX h;have step:∀(s0 s1:TS E),Fr (mo all o) hJ s0 s1->ZF X s1 o (jX (λst'=>vb X all rest st' k) k)=iN r->∀w0 G0 a w G,Rel E w0 G0 s1 a w G ->
    o.wp X.P a w (H2 X.P all (cQ E w0 G0 λx st'=>k x st'=iN r/\Fr (eZ all (o::rest)) (cJ (o::rest)) s0 st') rest) (cQ E w0 G0 λx st'=>k x st'=iN r/\Fr (eZ all (o::rest)) (cJ (o::rest)) s0 st'):=by
   intro s0 s1 Wa h w0 G0 a w G hr;have h1:=PU hX h w0 G0 a w G hr;have hF:∀ {s2 s3:TS E},Fr (jd o.dst) (!(Gx o.op)) s1 s2->Fr (eZ all rest) (cJ rest) s2 s3->Fr (eZ all (o::rest)) (cJ (o::rest)) s0 s3:=λf1 f2=>
    (Wa.trans f1 (W:=jd o.dst++mo all o) (λi hi=>by simp[hi]) (λi hi=>by simp[hi]) (λh=>⟨rfl,h⟩)).trans f2 (λi hi=>by
     grind[eZ]) (λi hi=>by simp[eZ,hi]) (λh=>by
     simp_all[cJ])
   refine qH (λa' w' hn=>?_) (λe a' w' hp=>?_) h1
   ·obtain⟨s2,G2,hr2,hk,f1⟩:=hn;have hA:=ih hk w0 G0 a' w' G2 hr2;have key:∀(l:J H3)(a:Act)(w:U){Q1 Q2:Exit->Act->U->Prop},(∀e a w,Q1 e a w->Q2 e a w)->H2 X.P all Q1 l a w->H2 X.P all Q2 l a w:=by
     intro l
     induction l with
     | nil=>intro a w Q1 Q2 hq h;exact hq _ _ _ h|cons o l ihl=>
      intro a w Q1 Q2 hq h;unfold H2 at h⊢;split
      ·rename_i hw;rw[if_pos hw]at h;rcases h with h|⟨h,a1,w1,h2⟩
       ·grind[qH]
       ·exact .inr ⟨h,a1,w1,hq _ _ _ h2⟩
      grind
    grind[cQ.mono]
   ·obtain⟨x,s2,G2,he,hr2,hn,hk,f1⟩:=hp;cases x with|normal=>exact(hn rfl).elim|_=>exact⟨_,s2,G2,he,hr2,hk,hF f1 (Fr.refl _ _ _)⟩
  simp[vb]at h;intro w0 G0 a w G hr;split at h
  ·rename_i hg;unfold H2;rw[if_pos (by simp[pC,hg])];exact .inl (step st st (by grind[mo,Fr.refl]) h w0 G0 a w G hr)
  ·rename_i j want hg;split at h<;>try trivial
   rename_i t ht;have hgt:mo all o=[t]:=by simp_all[mo]
   have skip:∀(s1:TS E),Fr (mo all o) hJ st s1->Rel E w0 G0 s1 a w G->vb X all rest {s1 with t:=cG s1.t o.dst (.val M2)} k=iN r ->
     H2 X.P all (cQ E w0 G0 λx st'=>k x st'=iN r/\Fr (eZ all (o::rest)) (cJ (o::rest)) st st') rest (a.put o.dst M2) w:=by
    intro s1 f0 fB hk;have hr2:=fB.put (v:=M2) (d:=.val M2) (by simp[VT]) o.dst;have hA:=ih hk w0 G0 _ w G hr2;have key:∀(l:J H3)(a:Act)(w:U){Q1 Q2:Exit->Act->U->Prop},(∀e a w,Q1 e a w->Q2 e a w)->H2 X.P all Q1 l a w->H2 X.P all Q2 l a w:=by
     intro l
     induction l with
     | nil=>intro a w Q1 Q2 hq h;exact hq _ _ _ h|cons o l ihl=>
      intro a w Q1 Q2 hq h;unfold H2 at h⊢;split
      ·rename_i hw;rw[if_pos hw]at h;rcases h with h|⟨h,a1,w1,h2⟩
       ·grind[qH]
       ·exact .inr ⟨h,a1,w1,hq _ _ _ h2⟩
      grind
    refine key rest _ w (λe a w hp=>cQ.mono (λx s hh=>⟨hh.1,?_⟩) hp) hA;have f1:Fr (jd o.dst) (!(Gx o.op)) s1 {s1 with t:=cG s1.t o.dst (.val M2)}:=(Fr.put s1 o.dst (.val M2)).wide (λi h=>h) (λ_=>rfl)
    exact(f0.trans f1 (W:=jd o.dst++mo all o) (λi hi=>by simp[hi]) (λi hi=>by simp[hi]) (λh=>⟨rfl,h⟩)).trans hh.2 (λi hi=>by
     grind[eZ]) (λi hi=>by simp[eZ,hi]) (λh=>by
     simp_all[cJ])
   split at h<;>try trivial
   ·rename_i b hb;obtain⟨hw,hbv⟩:=KH hr hg ht hb;have hl:=hr.lit hbv;have hfl:Fr (mo all o) hJ st {st with t:=st.t.set t (.dat .bool b)}:=by simp_all[Fr.lit]
    unfold H2;grind
   ·rename_i u hnb hu;have hw:=MX hr hg ht hu (λb e=>hnb b e);unfold H2;grind[Fr.refl]
variable{ops:aK H3}{Q:Exit -> Act -> U -> Prop}{S:U -> Prop}{lo hi:Nat}{Q':Exit->Act->U->Prop}{i:Nat}{listed:aK Bool}{oi:H3}{v:T1}{K K':Act->U->Prop}
def pre(n i:Nat):aK Bool:=((bY n).map λk=>dE k i).toArray
theorem DH{a b:Nat}:dE a b=hJ↔a<b:=by simp_all
theorem age{a b:Nat}(h:b<=a):dE a b=eQ:=by simp_all[TG]
theorem amT(n:Nat):lA n eQ=pre n 0:=by grind[Array.ext',pre,age]
theorem Uk{n:Nat}:(pre n i).setIfInBounds i hJ=pre n (i+1):=by
 apply UQ;apply Bo
 ·simp[pre]
 ·intro k h1 h2;simp only[pre,List.setIfInBounds_toArray,List.getElem_set,Md,List.getElem_range];by_cases hk:i=k
  ·simp_all
  ·rw[if_neg hk];rw[tH,DH,DH];omega
theorem apM{n k:Nat}(h:i<=k)(hk:k<n):(pre n i).getD k hJ=eQ:=by simp[pre,hk,age h]
theorem Gy{n k:Nat}(h:k<i)(hk:k<n)(d:Bool):(pre n i).getD k d=hJ:=by simp[pre,hk,DH.2 h]
def waits(ops:aK H3):Nat->Nat->Nat->Bool
 | 0,_,_=>eQ|fuel+1,j,i=>match ops[j]? with
  | none=>eQ|some o=>o.after.any (λe=>pA .any e&&e.on==i)||o.after.any (λe=>pA .any e&&(dE i e.on&&waits ops fuel e.on i))
def Lv(ops:aK H3)(listed:aK Bool):Prop:=∀(j:Nat)(o:H3),ops[j]? = iN o->listed.getD j eQ=hJ->∀e∈o.after,pA .any e=hJ->listed.getD e.on eQ=hJ
theorem PV{listed:aK Bool}(hc:Lv ops listed){i:Nat}:∀(fuel j:Nat),waits ops fuel j i=hJ ->
  (∀o,ops[j]? = iN o->∀e∈o.after,pA .any e=hJ->listed.getD e.on eQ=hJ)->listed.getD i eQ=hJ
 | 0,_,h,_=>by cases h
 | fuel+1,j,h,hj=>by
  unfold waits at h;cases ho:ops[j]? with
  | none=>rw[ho]at h;cases h
  | some o=>
   rw[ho]at h;simp only[Mf]at h;rcases h with h|h
   ·grind
   ·obtain⟨e,he,hb⟩:=Array.any_eq_true'.1 h;simp at hb;refine PV hc fuel e.on hb.2.2 λo' ho'=>hc e.on o' ho' (hj o ho e he hb.1)
theorem Yf{k:Nat}(h:(listed.setIfInBounds i hJ).getD k eQ=hJ):k=i\/listed.getD k eQ=hJ:=by
 by_cases hik:i=k
 ·exact .inl hik.symm
 simp_all
theorem Lv.step(hc:Lv ops listed)(hr:i∈pB .any ops listed):Lv ops (listed.setIfInBounds i hJ):=by
 intro j o ho hj e he hb;obtain⟨_,oi,Ib,hall⟩:=mem_ready.1 hr;rcases Yf hj with rfl|hj
 ·rw[Ib]at ho;cases ho;exact getD_set_true (hall e he hb)
 ·exact getD_set_true (hc j o ho hj e he hb)
def wpAnyS(P:bx)(ops:aK H3)(Q:Exit->Act->U->Prop)(S:U->Prop)(lo hi:Nat):Nat->aK Bool->Act->U->Prop
 | 0,listed,a,w=>pB .any ops listed=[]/\Q .normal a w|fuel+1,listed,a,w=>
  (pB .any ops listed=[]->Q .normal a w) /\
  ∀i∈pB .any ops listed,wpOp P ops Q i (λa' w'=>(lo<=i/\i<hi->S w->S w')/\wpAnyS P ops Q S lo hi fuel (listed.setIfInBounds i hJ) a' w') a w
theorem Wb:∀(fuel:Nat)(listed:aK Bool)(a:Act)(w:U),wpAnyS P ops Q S lo hi fuel listed a w->wpAny P .any ops Q fuel listed a w|0,_,_,_,h=>h|fuel+1,_,_,_,h=>⟨h.1,λi hi=>wpOp_mono (λa' w' h'=>Wb fuel _ a' w' h'.2) (h.2 i hi)⟩
theorem Wc:∀(fuel:Nat)(listed:aK Bool)(a:Act)(w:U),(∀k,lo<=k->k<hi->listed.getD k hJ=hJ)->wpAny P .any ops Q fuel listed a w->wpAnyS P ops Q S lo hi fuel listed a w
 | 0,_,_,_,_,h=>h|fuel+1,listed,_,_,hp,h=>⟨h.1,λi hm=>wpOp_mono (λa' w' h'=>by
   have hun:=(mem_ready.1 hm).1;refine⟨λhx _=>?_,Wc fuel _ a' w' (λk h1 h2=>?_) h'⟩
   ·simp_all
   ·by_cases hik:i=k
    ·simp_all
    simp_all) (h.2 i hm)⟩
theorem wpAnyS_first(Ib:ops[i]? = iN oi)(hsel:∀(j:Nat)(o:H3) cs b,ops[j]? = iN o->o.op≠.select cs b)
  (hQ:∀c a w,Q (.panic c) (a.put oi.dst v) w->Q (.panic c) a w) (hW:∀j,hi<=j->j<ops.size->waits ops ops.size j i=hJ) :
  ∀(fuel:Nat)(listed:aK Bool)(a:Act)(w:U),Lv ops listed->(∀k,k<lo->k<ops.size->listed.getD k hJ=hJ) ->
   (∀j oj,ops[j]? = iN oj->j≠i->listed.getD j hJ=eQ->(∀e∈oj.after,pA .any e=hJ->e.on≠i)->oi.apart ops oj=hJ) ->
   i∈pB .any ops listed->YieldsIf P ops S oi v a->S w ->
   wpAnyS P ops Q S lo hi fuel (listed.setIfInBounds i hJ) (a.put oi.dst v) w->wpAnyS P ops Q S lo hi (fuel+1) listed a w:=by
 intro fuel
 induction fuel with
 | zero=>
  intro listed a w _ _ _ hr hy hS H;refine⟨λh=>(by rw[h]at hr;cases hr),λj hj=>?_⟩;by_cases hji:j=i
  ·subst hji;exact hy.wpOp Ib hS ⟨λ_ h=>h,H⟩
  ·have:=ready_mono hj hji;rw[H.1]at this;cases this
 | succ fuel ih=>
  intro listed a w hcl hlo hfree hr hy hS H;refine⟨λh=>(by rw[h]at hr;cases hr),λj hj=>?_⟩;by_cases hji:j=i
  ·subst hji;exact hy.wpOp Ib hS ⟨λ_ h=>h,H⟩
  ·have h1:=H.2 j (ready_mono hj hji);obtain⟨PW,oj,PX,hall⟩:=mem_ready.1 hj;have hpi:=(mem_ready.1 hr).1;have hnot:∀e∈oj.after,pA .any e=hJ->e.on≠i:=λe he hb heq=>by grind
   have Wd:lo<=j/\j<hi:=by grind[PV]
   have h2:=wpOp_putIf PX (hfree j oj PX hji PW hnot) (λcs b=>hsel i oi cs b Ib) (λcs b=>hsel j oj cs b PX) hQ hy h1;have PY:∀k ok,ops[k]? = iN ok->k≠i->(listed.setIfInBounds j hJ).getD k hJ=eQ ->
     (∀e∈ok.after,pA .any e=hJ->e.on≠i)->oi.apart ops ok=hJ:=λk ok hk hki hun hno=>by
    refine hfree k ok hk hki ?_ hno;by_cases hjk:j=k
    ·subst hjk;exact PW
    simp_all
   have avf:∀k,k<lo->k<ops.size->(listed.setIfInBounds j hJ).getD k hJ=hJ:=λk h1 h2=>by
    by_cases hjk:j=k
    ·subst hjk;omega
    ·rw[getD_set_ne hJ hjk];exact hlo k h1 h2
   refine wpOp_mono (λa' w' h3=>⟨λ_ _=>h3.2.1 Wd hS,ih (listed.setIfInBounds j hJ) a' w' (hcl.step hj) avf PY (ready_mono hr (Ne.symm hji)) h3.1 (h3.2.1 Wd hS) ?_⟩) h2;grind[Array.setIfInBounds_comm]
theorem afk(Ib:ops[i]? = iN oi)(hsel:∀(j:Nat)(o:H3) cs b,ops[j]? = iN o->o.op≠.select cs b)
  (hQ:∀c a w,Q (.panic c) (a.put oi.dst v) w->Q (.panic c) a w) :
  ∀(fuel:Nat)(listed:aK Bool)(a:Act)(w:U),
   (∀j oj,ops[j]? = iN oj->j≠i->listed.getD j hJ=eQ->(∀e∈oj.after,pA .any e=hJ->e.on≠i)->oi.apart ops oj=hJ) ->
   i∈pB .any ops listed->YieldsIf P ops (λ_=>True) oi v a ->
   wpAnyS P ops Q S lo hi fuel (listed.setIfInBounds i hJ) (a.put oi.dst v) w->wpAnyS P ops Q S lo hi (fuel+1) listed a w:=by
 intro fuel
 induction fuel with
 | zero=>
  intro listed a w _ hr hy H;refine⟨λh=>(by rw[h]at hr;cases hr),λj hj=>?_⟩;by_cases hji:j=i
  ·subst hji;exact hy.wpOp Ib trivial ⟨λ_ h=>h,H⟩
  ·have:=ready_mono hj hji;rw[H.1]at this;cases this
 | succ fuel ih=>
  intro listed a w hfree hr hy H;refine⟨λh=>(by rw[h]at hr;cases hr),λj hj=>?_⟩;by_cases hji:j=i
  ·subst hji;exact hy.wpOp Ib trivial ⟨λ_ h=>h,H⟩
  ·have h1:=H.2 j (ready_mono hj hji);obtain⟨PW,oj,PX,hall⟩:=mem_ready.1 hj;have hpi:=(mem_ready.1 hr).1;have hnot:∀e∈oj.after,pA .any e=hJ->e.on≠i:=λe he hb heq=>by grind
   have h2:=wpOp_putIf PX (hfree j oj PX hji PW hnot) (λcs b=>hsel i oi cs b Ib) (λcs b=>hsel j oj cs b PX) hQ hy h1;have PY:∀k ok,ops[k]? = iN ok->k≠i->(listed.setIfInBounds j hJ).getD k hJ=eQ ->
     (∀e∈ok.after,pA .any e=hJ->e.on≠i)->oi.apart ops ok=hJ:=λk ok hk hki hun hno=>by
    refine hfree k ok hk hki ?_ hno;by_cases hjk:j=k
    ·subst hjk;exact PW
    simp_all
   refine wpOp_mono (λa' w' h3=>⟨h3.2.1,ih (listed.setIfInBounds j hJ) a' w' PY (ready_mono hr (Ne.symm hji)) h3.1 ?_⟩) h2;grind[Array.setIfInBounds_comm]
theorem Oper.ac5{a:Act}{w:U}(h:∀a w,K a w->K' a w)(hq:∀e a w,e≠.normal->Q e a w->Q' e a w)
  (hh:o.wp P a w K Q):o.wp P a w K' Q':=by
 have hout:LetsOut Q->LetsOut Q':=λ⟨a,w,h⟩=>⟨a,w,hq _ _ _ si h⟩;unfold Oper.wp at *;generalize(R0 a.eval o).run P w=r at *;cases r with
 | ok n w'=>
  cases n<;>simp[Oper.upon]at hh⊢
  case value u=>exact h _ _ hh
  case skip=>exact h _ _ hh
  case defer d=>exact h _ _ hh
  case enter f args=>refine HC hh λe w'' he=>?_;grind
  case row row args=>exact Rows.mono hh λu w'' he=>h _ _ he
 | halt x w'=>cases x<;>simp[Oper.upon]at hh⊢;simp_all
def forced(ops:aK H3)(i:Nat):Nat->Bool|0=>hJ|m+1=>(pB .any ops (pre ops.size i)==[i])&&forced ops (i+1) m
theorem ZG{R Q':Exit->Act->U->Prop}:∀(seg:J H3)(i fuel:Nat),(∀k,k<seg.length->ops[i+k]? = seg[k]?)->forced ops i seg.length=hJ->∀a w,H2 P ops R seg a w ->
  (∀e a w,R e a w->e=.normal/\wpAny P .any ops Q' fuel (pre ops.size (i+seg.length)) a w)->wpAny P .any ops Q' (seg.length+fuel) (pre ops.size i) a w
 | [],i,fuel,_,_,a,w,h,hR=>by have:=(hR _ a w h).2;simpa using this|o::seg,i,fuel,hs,hf,a,w,h,hR=>by
  simp[forced]at hf;have Ib:ops[i]? = iN o:=by simpa using hs 0 si
  rw[show(o::seg).length+fuel=(seg.length+fuel)+1 by simp;omega];refine wpAny_all hf.1 si λj hj=>?_;have:j=i:=by simpa using hj
  subst this;have ih:∀a w,H2 P ops R seg a w->wpAny P .any ops Q' (seg.length+fuel) ((pre ops.size j).setIfInBounds j hJ) a w:=λa w hw=>by
   rw[Uk];refine ZG seg (j+1) fuel (λk hk=>?_) hf.2 a w hw (λe a w hr=>?_)
   ·have:=hs (k+1) (by simpa using hk);grind
   grind
  unfold wpOp;simp[Ib];have h':(if pC o (yielded ops a.tmps)then o.wp P a w (H2 P ops R seg) R\/(o.asks P a w/\LetsOut R)else H2 P ops R seg (a.put o.dst M2) w):=h;split
  ·rename_i hw;rw[if_pos hw]at h';rcases h' with h'|⟨_,a1,w1,h1⟩
   ·grind[Oper.ac5]
   grind
  simp_all
def akv(j:Nat):J (Nat×Ty)->O Ty|[]=>iF|(q,t)::ps=>cond (eI q j) (iN t) (akv j ps)
def PZ(j:Nat):J (Nat×Cn E)->Bool|[]=>hJ|p::cs=>!(eI p.1 j)&&PZ j cs
theorem P0{j:Nat}:∀ {cs:J (Nat×Cn E)},PZ j cs=hJ->∀c,(j,c)∉cs
 | [],_,_,h=>nomatch h|p::cs,h,c,hm=>by
  simp[PZ]at h;rcases hU.1 hm with e|hm
  ·rw[<-e,OS]at h;exact nomatch h.1
  ·exact P0 h.2 c hm
def ZH(j j':Nat):J (Nat×Cn E)->J (Nat×Cn E)|[]=>[]|p::cs=>cond (eI p.1 j) (ZH j j' cs) (cond (eI p.1 j') ((j,p.2)::ZH j j' cs) (p::ZH j j' cs))
theorem agf{j j':Nat}:∀ {cs:J (Nat×Cn E)}{q:Nat}{x:Cn E},(q,x)∈ZH j j' cs->(q=j/\(j',x)∈cs)\/(q≠j/\q≠j'/\(q,x)∈cs)
 | p::cs,q,x,h=>by
  rw[ZH]at h;have next:(q,x)∈ZH j j' cs->(q=j/\(j',x)∈p::cs)\/(q≠j/\q≠j'/\(q,x)∈p::cs):=λh=>(agf h).imp (λ⟨a,b⟩=>⟨a,kV _ b⟩) λ⟨a,b,c⟩=>⟨a,b,kV _ c⟩
  cases h1:eI p.1 j<;>rw[h1]at h
  ·cases h2:eI p.1 j'<;>rw[h2]at h
   ·rcases hU.1 h with e|h
    ·rw[<-e]at h1 h2;exact .inr ⟨λe=>(by rw[e,OS]at h1;cases h1),λe=>(by rw[e,OS]at h2;cases h2),by rw[e];exact tJ ..⟩
    ·exact next h
   ·rcases hU.1 h with e|h
    ·cases e;exact .inl ⟨rfl,by rw[<-eY h2];exact tJ ..⟩
    ·exact next h
  ·exact next h
 | [],_,_,h=>nomatch h
def We(c:Cut)(n0 i:Nat)(p:PT)(st:TS E):TS E:=match p,st.t[i]? with
 | .one (.cH j _),iN (.cH j' v T xs)=>match st.g[j]?,st.g[j']? with
  | some g,iN g'=>cond (!(eI j' j)&&(iO n0 j'&&(eI g'.aG v&&(eI g.e g'.e&&(eI g.k g'.k&&(PZ j st.c&&PZ j' st.c))))))
    {st with t:=st.t.set i (.cH j (g.aG+1) T xs),g:=(st.g.set j' {g' with aG:=g'.aG+1}).set j {g with aG:=g.aG+1}} st
  | _,_=>st
 | .one (.cH j T),iN (.val (.slice iF 0 0))=>match st.g[j]? with
  | some g=>cond (PZ j st.c) {st with t:=st.t.set i (.cH j (g.aG+1) T []),g:=st.g.set j {g with aG:=g.aG+1}} st
  | none=>st
 | .one (.eF j),iN (.eF j' v)=>match st.g[j]?,st.g[j']? with
  | some g,iN g'=>cond (!(eI j' j)&&(iO n0 j'&&(eI g'.aG v&&(eI g.e g'.e&&eI g.k g'.k))))
    {st with t:=st.t.set i (.eF j (g.aG+1)),g:=(st.g.set j' {g' with aG:=g'.aG+1}).set j {g with aG:=g.aG+1},c:=ZH j j' st.c} st
  | _,_=>st
 | .one (.eF j),iN (.val (.slice iF 0 0))=>match c.rows[j]?,akv j c.soft with
  | some (iN (e,_)),iN T=>cond (eI st.g.length j&&dE 0 (T.size E)) {st with t:=st.t.set i (.eF st.g.length 0),g:=st.g++[⟨0,e,T.size E⟩],c:=(Ts st.g,⟨T,[]⟩)::st.c} st
  | _,_=>st
 | .one (.dat t),iN (.eF j v)=>{(wH (.dat t) (.eF j v) st).2 with t:=st.t.set i (wH (.dat t) (.eF j v) st).1}
 | _,_=>st
def abw(c:Cut)(n0:Nat):J (Nat×PT)->TS E->TS E|[],st=>st|(i,p)::vs,st=>abw c n0 vs (We c n0 i p st)
def Cut.pack(c:Cut)(bG st:TS E):O (dens E c.tys):=match c.leaves bG (abw c bG.g.length c.vars st)with|some ls=>getAll c.tys ls|none=>iF
def Cut.un(c:Cut)(W:J Nat)(bG:TS E)(x:dens E c.tys):TS E:=c.unpack W bG (aV c.tys x)
def Cut.okW(c:Cut)(W:J Nat):Bool:=c.vars.all λp=>W.elem p.1
theorem FC(n:Rn):∀(bs:J (O BT))(r0:Nat)(H:J (gf E))(ls:J (Lf E))(r:Nat),r<Ts bs->r0+r∉ES r0 bs->r<H.length->(ff n bs H ls)[r]? = H[r]?
 | [],_,_,_,_,h,_,_=>by simp at h|none::bs,r0,H,ls,0,_,_,h=>by cases H with|nil=>simp at h|cons x H=>simp[ff]
 | none::bs,r0,H,ls,r+1,h1,h2,h3=>by
  cases H with
  | nil=>simp at h3|cons x H=>have:=FC n bs (r0+1) H ls r (by simpa using h1) (by rw[show r0+1+r=r0+(r+1) by omega];exact h2) (by simpa using h3);simpa[ff]using this
 | some t::bs,r0,H,ls,0,_,h2,_=>(h2 (by simp[ES])).elim|some t::bs,r0,H,ls,r+1,h1,h2,h3=>by
  cases H with
  | nil=>simp at h3|cons x H=>have:=FC n bs (r0+1) H (t.put n ls).2 r (by simpa using h1) (by rw[show r0+1+r=r0+(r+1) by omega];exact λhm=>h2 (by simp[ES,hm])) (by simpa using h3);simpa[ff]using this
theorem Ti(n:Rn):∀(vs:J (Nat×PT))(t:J (TV E))(ls:J (Lf E))(i:Nat),i∉vs.map (·.1)->(oh n vs t ls).1[i]? = t[i]?|[],t,ls,i,_=>rfl|(j,p)::vs,t,ls,i,h=>by simp only[jI,hU,not_or]at h;rw[oh,Ti n vs _ _ i h.2,Mb (λe=>h.1 e.symm)]
theorem Wf(n:Rn):∀(vs:J (Nat×PT))(t:J (TV E))(ls:J (Lf E)),(oh n vs t ls).1.length=t.length|[],t,ls=>rfl|(j,p)::vs,t,ls=>by simp_all[oh,Wf]
theorem Wg(W:J Nat):∀(i:Nat)(l:J (TV E))(j:Nat),(i+j)∉W->(oP W i l)[j]? = l[j]?
 | _,[],j,_=>rfl|i,d::ds,0,h=>by simp_all[OR,oP]|i,d::ds,j+1,h=>by have:=Wg W (i+1) ds j (by rw[show i+1+j=i+(j+1) by omega];exact h);simpa[oP]using this
variable{c:Cut}{bG:TS E}{ls:J (Lf E)}
theorem Cut.aiq(h:c.leaves bG st=iN ls):bG.H.length<=c.boxes.length:=by
 unfold Cut.leaves at h;cases hc:(below c.rows.length c.soft&&(iO bG.H.length c.boxes.length&&(iO bG.g.length c.rows.length&&zK c.rows bG.g st.g)))<;>rw[hc]at h<;>simp only[aU]at h
 ·cases h
 simp_all
variable{W:J Nat}
theorem Cut.ZI{ls':J (Lf E)}(hW:c.okW W=hJ)(h:c.leaves bG st=iN ls):Fr W hJ bG (c.unpack W bG ls'):=by
 have hl:=Cut.aiq h;refine⟨?_,λi hi=>?_,⟨ES 0 c.boxes,rfl,λr hr hd=>?_⟩,?_,λ_=>rfl⟩
 ·show((oh _ c.vars (oP W 0 bG.t) ls').1).length=_;rw[Wf,H6]
 ·show((oh _ c.vars (oP W 0 bG.t) ls').1)[i]? = _;rw[Ti _ _ _ _ i (λhm=>?_),Wg W 0 bG.t i (by simp_all)];obtain⟨p,hp,rfl⟩:=lI.1 hm;exact hi (Rp (pP.1 hW p hp))
 ·exact FC _ c.boxes 0 bG.H _ r om (by simp_all) hr
 ·show bG.H.length<=(ff _ c.boxes bG.H _).length;simp_all[pG]
theorem Rel.avg{G1:bB}{kg:TS E}(hr:Rel E w0 G0 st a w G)(hc:qx st kg)(fB:Rel E w0 G0 kg a w G1){d d1:TV E}(hi:st.t[i]? = iN d)(hv:∀v,VT E w G d v->VT E w G1 d1 v):
  Rel E w0 G0 {kg with t:=st.t.set i d1} a w G1:=by
 obtain⟨c',rfl⟩:=hc;refine⟨fB.fF,by simpa using fB.size,λj d' hj=>?_,fB.defers,fB.boxes,fB.fix,fB.pins,fB.gO⟩;simp[Re]at hj;by_cases hij:i=j
 ·subst hij;have hlt:=(fC.1 hi).1;simp[hlt]at hj;subst hj;exact hv _ (hr.tmps i _ hi)
 ·rw[if_neg hij]at hj;exact fB.tmps j d' hj
theorem Rel.ac6(h:Rel E w0 G0 st a w G){x x':cV}{hd hd':T1}(c':J (Nat×Cn E))(hj:G.g[j]? = iN (x,hd))(hlt:x.aG<x'.aG)(hok:zG E w G x' hd')(B0:∀i c,(i,c)∈c'->∃y z,(G.g.set j (x',hd'))[i]? = iN (y,z)/\tU E w G y z c)
  (hnew:∀b,hd'.ownBlock=iN b->w0.heap.size<=b) (hap:∀(m:Nat) y z b,m≠j->G.g[m]? = iN (y,z)->z.ownBlock=iN b->hd'.ownBlock≠iN b) :
  Rel E w0 G0 {st with g:=st.g.set j x',c:=c'} a w {G with g:=G.g.set j (x',hd')}:=by
 have at':∀(m:Nat) y z,(G.g.set j (x',hd'))[m]? = iN (y,z)->(m=j/\y=x'/\z=hd')\/(m≠j/\G.g[m]? = iN (y,z)):=by grind
 have hg:jc w G w {G with g:=G.g.set j (x',hd')}:=by refine⟨λ_ _ h=>h,λ_ _ _ _ h=>h,λ_ _ h=>h,λm y z hm=>?_⟩;grind
 have ev:=h.fF;refine⟨⟨ev.os,ev.tape,ev.output,ev.size,ev.old,ev.goes.trans hg,ev.pE,ev.r7,λm y z b hm hb=>?_⟩,h.size,λm d hm=>(h.tmps m d hm).mono hg,h.defers.mono hg,?_,h.fix,h.pins,?_⟩
 ·rcases at' m y z hm with⟨-,-,rfl⟩|⟨-,hm⟩
  ·exact .inl (hnew b hb)
  ·exact ev.iz m y z b hm hb
 ·refine⟨h.boxes.len,?_,λr b y hb hy=>(h.boxes.box r b y hb hy).mono hg rfl,h.boxes.lt,h.boxes.nodup,h.boxes.gN,λm y z hm=>?_,λm m' y z y' z' b hm hm' hb hb'=>?_⟩
  ·rw[aaZ,h.boxes.gs]
  ·rcases at' m y z hm with⟨-,rfl,rfl⟩|⟨-,hm⟩
   ·exact hok
   ·exact h.boxes.grow m y z hm
  ·rcases at' m y z hm with⟨q1,-,q3⟩|⟨q1,q⟩<;>rcases at' m' y' z' hm' with⟨q1',-,q3'⟩|⟨q1',q'⟩
   ·rw[q1,q1']
   ·grind
   ·grind
   ·exact h.boxes.apart m m' y z y' z' b q q' hb hb'
 ·exact λi c hm=>B0 i c hm
theorem Rel.R7(h:Rel E w0 G0 st a w G){x x':cV}{hd hd':T1}(hj:G.g[j]? = iN (x,hd))(hlt:x.aG<x'.aG)(hok:zG E w G x' hd')(B0:∀c,(j,c)∉st.c)
  (hnew:∀b,hd'.ownBlock=iN b->w0.heap.size<=b) (hap:∀(m:Nat) y z b,m≠j->G.g[m]? = iN (y,z)->z.ownBlock=iN b->hd'.ownBlock≠iN b) :
  Rel E w0 G0 {st with g:=st.g.set j x'} a w {G with g:=G.g.set j (x',hd')}:=
 h.ac6 st.c hj hlt hok (λi c hm=>by
  obtain⟨y,z,q1,q2⟩:=h.gO i c hm
  grind) hnew hap
theorem yD(x:cV):zG E w G x (.slice iF 0 0):=⟨0,[],⟨si,.inl ⟨rfl,rfl⟩⟩,(λa m e=>nomatch e),(λb hb=>nomatch hb)⟩
theorem Rel.air(h:Rel E w0 G0 st a w G){d1:TV E}(hv:VT E w G d1 (a.tmps.getD i M2)):Rel E w0 G0 {st with t:=st.t.set i d1} a w G:=by
 refine⟨h.fF,by simpa using h.size,λj d' hj=>?_,h.defers,h.boxes,h.fix,h.pins,h.gO⟩;simp[Re]at hj;by_cases hij:i=j
 ·simp_all
 ·rw[if_neg hij]at hj;exact h.tmps j d' hj
theorem ac7(c:Cut)(n0 i:Nat)(p:PT)(hn0:G0.g.length<=n0)(hr:Rel E w0 G0 st a w G):(∃G',Rel E w0 G0 (We c n0 i p st) a w G')/\Fr [i] hJ st (We c n0 i p st):=by
 have xG:(∃G',Rel E w0 G0 st a w G')/\Fr [i] hJ st st:=⟨⟨G,hr⟩,Fr.refl _ _ _⟩;have nZ:∀(d:TV E)(j:Nat),j∉[i]->(st.t.set i d)[j]? = st.t[j]?:=λd j hj=>Mb (λe=>hj (by simp[e]));have awi:∀(t:Ty)(d:TV E),st.t[i]? = iN d->(∃G',Rel E w0 G0 {(wH (.dat t) d st).2 with t:=st.t.set i (wH (.dat t) d st).1} a w G')/\Fr [i] hJ st {(wH (.dat t) d st).2 with t:=st.t.set i (wH (.dat t) d st).1}:=by intro t d hi;obtain⟨o1,G1,fB,g1,v1⟩:=Ui (.dat t) d hr;refine⟨⟨G1,hr.avg o1 fB hi v1⟩,?_⟩;obtain⟨c',tA⟩:=o1;rw[tA];exact⟨si,λj hj=>nZ _ j hj,⟨[],rfl,λ_ _ _=>rfl⟩,eo _,λ_=>rfl⟩
 unfold We;split
 ·rename_i j T0 j' v T xs hi;split
  ·rename_i g g' hg hg';generalize hb:(!(eI j' j)&&(iO n0 j'&&(eI g'.aG v&&(eI g.e g'.e&&(eI g.k g'.k&&(PZ j st.c&&PZ j' st.c))))))=b;cases b
   ·exact xG
   simp only[cK,wR]at hb;obtain⟨b1,b2,b3,b4,b5,b6,b7⟩:=hb;have b1:j'≠j:=λe=>by simp_all
   have b2:=lY b2;have b3:=eY b3;obtain⟨hd,hj⟩:=hr.B4 hg;obtain⟨hd',hj'⟩:=hr.B4 hg';have hv:=hr.tmps i _ hi;have ac8:=hr.boxes.grow j' g' hd' hj';have r1:=hr.R7 (x':={g' with aG:=g'.aG+1}) (hd':=.slice iF 0 0) hj' (Ko _) (yD _) (P0 b7) (λb hb=>nomatch hb) (λ_ _ _ _ _ _ _ hb=>nomatch hb)
   have r2:=r1.R7 (j:=j) (x:=g) (hd:=hd) (x':={g with aG:=g.aG+1}) (hd':=hd') (by
     simp_all) (Ko _) (by
     obtain⟨n,xs',g1,g2,g3⟩:=ac8;exact⟨n,xs',by simp_all,λa m h=>by simp_all,λb hb=>by simp_all⟩) (P0 b6) (λb hb=>by
     rcases hr.fF.iz j' g' hd' b hj' hb with q|⟨x0,h0,q,-⟩
     ·exact q
     grind) (λm y z b hm Wh hb hb'=>by
     by_cases e:m=j'
     ·subst e;rw[abf (fC.1 hj').1]at Wh;cases Wh;cases hb
     ·rw[Mb (λq=>e q.symm)]at Wh
      exact e (hr.boxes.apart m j' y z g' hd' b Wh hj' hb hb'))
   refine⟨⟨_,r2.air (d1:=.cH j (g.aG+1) T xs) ?_⟩,si,λq hq=>nZ _ q hq,⟨[],rfl,λ_ _ _=>rfl⟩,eo _,λ_=>rfl⟩;grind[VT]
  ·exact xG
 ·rename_i j T hi;split
  ·rename_i g hg;cases hb:PZ j st.c
   ·exact xG
   obtain⟨hd,hj⟩:=hr.B4 hg;have hjl:j<G.g.length:=(fC.1 hj).1;have hv:=hr.tmps i _ hi;have r1:=hr.R7 (x':={g with aG:=g.aG+1}) (hd':=.slice iF 0 0) hj (Ko _) (yD _) (P0 hb) (λb hb=>nomatch hb) (λ_ _ _ _ _ _ _ hb=>nomatch hb);refine⟨⟨_,r1.air (d1:=.cH j (g.aG+1) T []) ?_⟩,si,λq hq=>nZ _ q hq,⟨[],rfl,λ_ _ _=>rfl⟩,eo _,λ_=>rfl⟩;rw[hv];simp only[VT];exact⟨.v8 _ _,{g with aG:=g.aG+1},.slice iF 0 0,by simp[hjl],eo _,λ_=>rfl⟩
  ·exact xG
 ·rename_i j j' v hi;split
  ·rename_i g g' hg hg';generalize hb:(!(eI j' j)&&(iO n0 j'&&(eI g'.aG v&&(eI g.e g'.e&&eI g.k g'.k))))=b;cases b
   ·exact xG
   simp only[cK,wR]at hb;obtain⟨b1,b2,b3,b4,b5⟩:=hb;have b1:j'≠j:=λe=>by simp_all
   have b2:=lY b2;have b3:=eY b3;have b4:=eY b4;have b5:=eY b5;obtain⟨hd,hj⟩:=hr.B4 hg;obtain⟨hd',hj'⟩:=hr.B4 hg';have hv:=hr.tmps i _ hi;have ac8:=hr.boxes.grow j' g' hd' hj';have r1:=hr.ac6 (x':={g' with aG:=g'.aG+1}) (hd':=.slice iF 0 0) [] hj' (Ko _) (yD _) (λ_ _ h=>nomatch h) (λb hb=>nomatch hb) (λ_ _ _ _ _ _ _ hb=>nomatch hb)
   have r2:=r1.ac6 (j:=j) (x:=g) (hd:=hd) (x':={g with aG:=g.aG+1}) (hd':=hd') (ZH j j' st.c) (by
     simp_all) (Ko _) (by
     obtain⟨n,xs',g1,g2,g3⟩:=ac8;exact⟨n,xs',by simp_all,λa m h=>by simp_all,λb hb=>by simp_all⟩) (λq x hm=>by
     show ∃y z,((G.g.set j' _).set j _)[q]? = iN (y,z)/\tU E w G y z x;rcases agf hm with⟨rfl,hm2⟩|⟨h1,h2,hm2⟩
     ·obtain⟨y,z,q1,q2⟩:=hr.gO j' x hm2;grind[List.getElem?_set_self,tU]
     ·obtain⟨y,z,q1,q2⟩:=hr.gO q x hm2;grind) (λb hb=>by
     rcases hr.fF.iz j' g' hd' b hj' hb with q|⟨x0,h0,q,-⟩
     ·exact q
     grind) (λm y z b hm Wh hb hb'=>by
     by_cases e:m=j'
     ·subst e;rw[abf (fC.1 hj').1]at Wh;cases Wh;cases hb
     ·rw[Mb (λq=>e q.symm)]at Wh
      exact e (hr.boxes.apart m j' y z g' hd' b Wh hj' hb hb'))
   refine⟨⟨_,r2.air (d1:=.eF j (g.aG+1)) ?_⟩,si,λq hq=>nZ _ q hq,⟨[],rfl,λ_ _ _=>rfl⟩,eo _,λ_=>rfl⟩;grind[VT]
  ·exact xG
 ·rename_i j hi;split
  ·rename_i e k T h1 h2;cases hb:(eI st.g.length j&&dE 0 (T.size E))
   ·exact xG
   ·rw[cK]at hb;exact⟨hr.akt hi e T (lY hb.2),⟨si,λj hj=>nZ _ j hj,⟨[],rfl,λ_ _ _=>rfl⟩,eo _,λ_=>rfl⟩⟩
  ·exact xG
 ·simp_all
 ·exact xG
theorem ac9(c:Cut)(n0:Nat){W:J Nat}{w0 w:U}{G0:bB}{a:Act}(hn0:G0.g.length<=n0):∀(vs:J (Nat×PT)),(∀p∈vs,p.1∈W)->∀ {st:TS E}{G:bB},Rel E w0 G0 st a w G->(∃G',Rel E w0 G0 (abw c n0 vs st) a w G')/\Fr W hJ st (abw c n0 vs st)
 | [],_,st,G,hr=>⟨⟨G,hr⟩,Fr.refl _ _ _⟩|(i,p)::vs,hW,st,G,hr=>by obtain⟨⟨G1,fB⟩,f1⟩:=ac7 c n0 i p hn0 hr;obtain⟨h2,f2⟩:=ac9 c n0 hn0 vs (λq hq=>hW q (by simp[hq])) fB;exact⟨h2,Fr.trans f1 f2 (λj hj=>by simp_all) (λj hj=>hj) (λh=>⟨rfl,h⟩)⟩
theorem AF(hE:E.Ok){x:dens E c.tys}(hp:Pre G0 bG)(hr:Rel E w0 G0 st a w G)(hF:Fr W hJ bG st)(hW:c.okW W=hJ)(h:c.pack bG st=iN x):
  (∃G2,Rel E w0 G0 (c.un W bG x) a w G2)/\Fr W hJ bG (c.un W bG x):=by
 unfold Cut.pack at h;split at h<;>try trivial
 rename_i ls hls
 obtain⟨⟨G1,hr⟩,hF1⟩:=ac9 c bG.g.length (by
  rcases abb bG.g.length G0.g.length with hlt|hge
  ·obtain⟨x,hx,-⟩:=hp.rows bG.g.length _ _ (ga hlt);simp_all
  ·exact hge) c.vars (λp hp=>Rp (pP.1 hW p hp)) hr
 have hF:=Fr.trans hF hF1 (λ_ h=>h) (λ_ h=>h) (λh=>⟨h,h⟩);obtain⟨D,hD,hH⟩:=hF.d;obtain⟨G2,hR,-⟩:=Rel.cut hE hp hr hF.len hF.keep hD hH (hF.df rfl) hls;grind[EO,Cut.un,Cut.ZI]
def Yg{R:Type}(X:Cx E)(st:TS E)(o:H3)(k:TS E->O R):O R:=
 match V0 X.P X.ty st o.op with
 | some (c,d)=>rqP (R6 st o.op) c (k {st with t:=cG st.t o.dst d})
 | none=>match o.op with
  | .pick c x y=>match st.ev c with
   | .dat .bool b=>cond b (k {st with t:=cG st.t o.dst (st.ev x)}) (k {st with t:=cG st.t o.dst (st.ev y)})
   | _=>iF
  | _=>iF
def qld(P:bx)(st:TS E):Op->O (Bool×TV E)
 | .load t x=>match aY P t,st.ev x with
  | some i,.iZ j aG k ix off=>match st.g[j]?,pW st.c j with
   | some g,iN c=>match TV.part c.1 (c.2.getD ix (c.1.dflt E)) i.isAgg i.size off with
    | some d=>iN (eI g.aG aG&&eI k (c.1.size E),d)|none=>iF
   | _,_=>iF
  | _,_=>iF
 | _=>iF
def Yh{R:Type}(X:Cx E)(st:TS E)(o:H3)(k:TS E->O R):O R:=
 match qld X.P st o.op with
 | some (c,d)=>rqP (R6 st o.op) c (k {st with t:=cG st.t o.dst d})
 | none=>Yg X st o k
def vC{R:Type}(X:Cx E)(all:aK H3):J H3->TS E->(TS E->O R)->O R
 | [],st,k=>k st|o::rest,st,k=>match o.guard with
  | none=>Yh X st o (λst'=>vC X all rest st' k)|some (j,want)=>match (all[j]?).bind (·.dst)with
   | some t=>match st.at t with
    | .dat .bool b=>cond b
      (cond want (Yh X {st with t:=st.t.set t (.dat .bool hJ)} o (λst'=>vC X all rest st' k))
       (vC X all rest {st with t:=cG (st.t.set t (.dat .bool hJ)) o.dst (.val M2)} k))
      (cond want (vC X all rest {st with t:=cG (st.t.set t (.dat .bool eQ)) o.dst (.val M2)} k)
       (Yh X {st with t:=st.t.set t (.dat .bool eQ)} o (λst'=>vC X all rest st' k)))
    | .val (.bool _)=>iF|.val _=>vC X all rest {st with t:=cG st.t o.dst (.val M2)} k
    | _=>iF
   | none=>iF
def akw(ops:aK H3)(i:Nat):Bool:=match ops[i]? with|some o=>!(Vx o.op)|none=>eQ
def takes(ops:aK H3)(hi:Nat):Nat->Nat->Bool|_,0=>hJ|i,m+1=>(Region.free .any ops (pre ops.size i) i&&(pB .any ops (pre ops.size i)).contains i&&(akw ops i||(List.range' hi (ops.size-hi)).all (λj=>waits ops ops.size j i)))&&takes ops hi (i+1) m
def backward(ops:aK H3):Bool:=(bY ops.size).all λj=>match ops[j]? with|some o=>o.after.all λe=>!(pA .any e)||Nat.blt e.on j|none=>hJ
structure ada where
 q:Bool
 m:Nat
 c:Option Cut
noncomputable def adb{R:Type}(X:Cx E)(l:J H3)(i:Nat)(q:Bool)(m:Nat)(st:TS E)(k:TS E->O R):O R:=
 cond q (rq ((Region.noSelect l.toArray&&backward l.toArray&&takes l.toArray (i+m) i m)&&iO (i+m) l.length) (vC X l.toArray ((l.drop i).take m) st k))
  (rq (forced l.toArray i m&&iO (i+m) l.length) (vb X l.toArray ((l.drop i).take m) st (jX k λ_ _=>iF)))
noncomputable def MY{R:Type}(X:Cx E)(l:J H3):Nat->J ada->TS E->(TS E->O R)->O R
 | i,[],st,k=>cond (eI i l.length) (k st) iF|i,s::ss,st,k=>match s.c with
  | none=>adb X l i s.q s.m st (λst'=>MY X l (i+s.m) ss st' k)|some c=>rq (c.okW (eZ l.toArray ((l.drop i).take s.m))&&cJ l) ((adb X l i s.q s.m st (λst'=>c.pack st st')).bind λx=>MY X l (i+s.m) ss (c.un (eZ l.toArray ((l.drop i).take s.m)) st x) k)
variable{w':U}{f m id:Nat}{ws:U}{Gs:bB}{Z:J Nat}{L:aK Bool}{R':Type}
def pH(Q:TS E->Prop):Ex E->TS E->Prop:=λx s=>x=.normal/\Q s
theorem cQ.pH{e:Exit}{R:TS E->Prop}(h:cQ E w0 G0 (λx s=>x=.normal/\R s) e a w):e=.normal:=by obtain⟨x,s,G,he,_,rfl,_⟩:=h;cases e<;>first|rfl|exact he.elim
def yE(w0:U)(G0:bB)(P:bx)(ops:aK H3)(i:Nat)(st:TS E)(Q:TS E->Prop):Prop:=∀a w G,Rel E w0 G0 st a w G->wpAny P .any ops (cQ E w0 G0 (pH Q)) (ops.size-i) (pre ops.size i) a w
theorem yE.done{l:J H3}{Q:TS E->Prop}(i:Nat)(hi:i=Ts l)(h:Q st):yE w0 G0 P l.toArray i st Q:=by
 subst hi;intro a w G hr;have:l.toArray.size-Ts l=0:=by simp
 rw[this];refine⟨?_,.normal,st,G,trivial,hr,rfl,h⟩;apply List.eq_nil_iff_forall_not_mem.2;intro j hj;obtain⟨h1,o,ho,_⟩:=mem_ready.1 hj;have hlt:j<Ts l:=by grind
 rw[Gy hlt (by simpa using hlt)]at h1;cases h1
theorem apN{l:J H3}(hm:i+m<=Ts l)(k:Nat)(hk:k<((l.drop i).take m).length):l.toArray[i+k]? = ((l.drop i).take m)[k]?:=by simp_all
theorem ais(h:backward ops=hJ)(i:Nat):Lv ops (pre ops.size i):=by
 intro j o ho hj e he hb;have hlt:=(Bp.1 ho).1;have h1:=pP.1 h j (List.mem_range.2 hlt);simp only[ho]at h1;have h2:=Array.all_eq_true_iff_forall_mem.1 h1 e he;simp only[hb]at h2;have h3:=DH.1 h2;have hji:j<i:=by simp_all[apM,pre]
 exact Gy om om eQ
theorem Wi(hX:X.Ok){k:TS E->O R}{r:R}(h:Yg X st o k=iN r)(hr:Rel E w0 G0 st a w G):
  ∃v st',(∀w',Jw o w w'->(R0 a.eval o).run X.P w'=.ok (.value v) w')/\Rel E w0 G0 st' (a.put o.dst v) w G/\k st'=iN r/\Fr (jd o.dst) hJ st st':=by
 unfold Yg at h;split at h
 ·rename_i pc pd hp;obtain⟨h1,h2⟩:=Ia h;obtain⟨v,hv,hrun⟩:=Th hX.E hr hp h1;exact⟨v,_,hrun,hr.put hv o.dst,h2,Fr.put _ _ _⟩
 ·split at h<;>try trivial
  rename_i c x y ho;split at h<;>try trivial
  rename_i b hb;have hv:=hr.ev c;rw[hb]at hv;have hv:=hv.nv;have hrun:∀w',(R0 a.eval o).run X.P w'=.ok (.value (if b then a.eval x else a.eval y)) w':=λw'=>by simp[R0,ho,hv,asBool]
  cases b<;>simp at h
  ·exact⟨a.eval y,_,λw' _=>hrun w',hr.put (hr.ev y) o.dst,h,Fr.put _ _ _⟩
  ·exact⟨a.eval x,_,λw' _=>hrun w',hr.put (hr.ev x) o.dst,h,Fr.put _ _ _⟩
theorem ait(hX:X.Ok){k:TS E->O R}{r:R}(h:Yh X st o k=iN r)(hr:Rel E w0 G0 st a w G):
  ∃v st',(∀w',Jw o w w'->(R0 a.eval o).run X.P w'=.ok (.value v) w')/\Rel E w0 G0 st' (a.put o.dst v) w G/\k st'=iN r/\Fr (jd o.dst) hJ st st':=by
 unfold Yh at h;split at h
 ·rename_i pc pd hp;obtain⟨h1,h2⟩:=Ia h;cases ho:o.op<;>rw[ho]at hp<;>try trivial
  simp[qld]at hp;split at hp<;>try trivial
  rename_i i j aG k' ix off ht hx;split at hp<;>try trivial
  rename_i g c hg hc;split at hp<;>try trivial
  rename_i d hpart;cases hp;rw[cK]at h1;obtain rfl:=eY h1.1;obtain⟨v,hv,hrun⟩:=JD hX.E hr ho ht hx hg hc (eY h1.2) hpart;exact⟨v,_,hrun,hr.put hv o.dst,h2,Fr.put _ _ _⟩
 grind[Wi]
theorem afl(hX:X.Ok){l:J H3}{k:TS E->O R}{r:R}{Q:TS E->Prop}(hs:(Region.noSelect l.toArray&&backward l.toArray&&takes l.toArray (i+m) i m)=hJ)(hm:i+m<=Ts l)
  (h:vC X l.toArray ((l.drop i).take m) st k=iN r)    (eS:∀st',k st'=iN r->Fr (eZ l.toArray ((l.drop i).take m)) hJ st st'->yE w0 G0 X.P l.toArray (i+m) st' Q) (hr:Rel E w0 G0 st a w G) :
  wpAny X.P .any l.toArray (cQ E w0 G0 (pH Q)) (l.toArray.size-i) (pre l.toArray.size i) a w:=by
 simp only[cK]at hs;obtain⟨⟨rV,hbk⟩,htk⟩:=hs;refine Wb (S:=λw'=>fG w w') (lo:=i) (hi:=i+m) _ _ _ _ ?_;have hQp:∀c a w,¬ cQ E w0 G0 (pH Q) (.panic c) a w:=λc a w hp=>by have:=cQ.pH hp;cases this
 have key:∀(seg:J H3)(q:Nat)(s:TS E)(a:Act),(∀k,k<seg.length->l.toArray[q+k]? = seg[k]?)->q+seg.length=i+m->i<=q->takes l.toArray (i+m) q seg.length=hJ ->
   Rel E w0 G0 s a w G->vC X l.toArray seg s k=iN r->(∀st',k st'=iN r->Fr (eZ l.toArray seg) hJ s st'->yE w0 G0 X.P l.toArray (i+m) st' Q) ->
   wpAnyS X.P l.toArray (cQ E w0 G0 (pH Q)) (λw'=>fG w w') i (i+m) (l.toArray.size-q) (pre l.toArray.size q) a w:=by
  intro seg
  induction seg with
  | nil=>intro q s a hsg hq hiq _ hr h eS;subst hq;refine Wc _ _ _ _ (λk h1 h2=>Gy h2 aR hJ) ?_;exact eS s h (Fr.refl _ _ _) a w G hr|cons o seg ih=>
   intro q s a hsg hq hiq ht hr h eS;simp only[qi]at hq ht;simp only[takes,cK]at ht;obtain⟨⟨⟨hfr,hrd⟩,hwt⟩,ht'⟩:=ht;have hoq:l.toArray[q]? = iN o:=by simpa using hsg 0 si
   have arX:∀k,k<seg.length->l.toArray[(q+1)+k]? = seg[k]?:=λk hk=>by have:=hsg (k+1) (by simpa using hk);grind
   rw[show l.toArray.size-q=(l.toArray.size-(q+1))+1 by simp;omega];have first:∀v,YieldsIf X.P l.toArray (λw'=>Jw o w w') o v a->wpAnyS X.P l.toArray (cQ E w0 G0 (pH Q)) (λw'=>fG w w') i (i+m) (l.toArray.size-(q+1)) (pre l.toArray.size (q+1)) (a.put o.dst v) w ->
     wpAnyS X.P l.toArray (cQ E w0 G0 (pH Q)) (λw'=>fG w w') i (i+m) ((l.toArray.size-(q+1))+1) (pre l.toArray.size q) a w:=λv hy hh=>by
    simp only[Mf]at hwt;rcases hwt with hnl|hwt
    ·have avh:Vx o.op=eQ:=by simp_all[akw]
     refine afk (v:=v) hoq (ag2 rV) (λc a w hp=>(hQp _ _ _ hp).elim) _ _ a w (ag3 hoq hfr) (by simpa using hrd) ?_ ?_
     ·rcases hy with⟨h1,h2⟩|hy
      ·exact .inl ⟨h1,λw' _=>h2 w' (λhl=>by rw[avh]at hl;cases hl)⟩
      ·exact .inr hy
     simp_all[Uk]
    refine wpAnyS_first (v:=v) hoq (ag2 rV) (λc a w hp=>(hQp _ _ _ hp).elim) (λj h1 h2=>?_) _ _ a w (ais hbk q) (λk h1 h2=>Gy om h2 hJ) (ag3 hoq hfr) (by simpa using hrd) ?_ (fG.refl w) ?_
    rotate_left
    ·rcases hy with⟨h1,h2⟩|hy
     ·exact .inl ⟨h1,λw' hs=>h2 w' (λ_=>hs)⟩
     ·exact .inr hy
    rotate_left
    ·simp_all
    simp_all[Uk]
   have run:∀(s1:TS E),Fr (mo l.toArray o) hJ s s1->Rel E w0 G0 s1 a w G->pC o (yielded l.toArray a.tmps)=hJ->Yh X s1 o (λst'=>vC X l.toArray seg st' k)=iN r ->
     wpAnyS X.P l.toArray (cQ E w0 G0 (pH Q)) (λw'=>fG w w') i (i+m) ((l.toArray.size-(q+1))+1) (pre l.toArray.size q) a w:=by
    intro s1 f0 fB hw h1;obtain⟨v,s2,hrun,hr2,h2,f1⟩:=ait hX h1 fB;refine first v (.inl ⟨hw,hrun⟩) (ih (q+1) s2 _ arX om om ht' hr2 h2 (λst' hk f2=>eS st' hk ?_))
    exact(f0.trans f1 (W:=jd o.dst++mo l.toArray o) (n:=hJ) (λi hi=>by simp[hi]) (λi hi=>by simp[hi]) (λh=>⟨rfl,rfl⟩)).trans f2 (λi hi=>by
     grind[eZ]) (λi hi=>by simp[eZ,hi]) (λh=>⟨rfl,rfl⟩)
   have skip:∀(s1:TS E),Fr (mo l.toArray o) hJ s s1->Rel E w0 G0 s1 a w G->pC o (yielded l.toArray a.tmps)=eQ->vC X l.toArray seg {s1 with t:=cG s1.t o.dst (.val M2)} k=iN r ->
     wpAnyS X.P l.toArray (cQ E w0 G0 (pH Q)) (λw'=>fG w w') i (i+m) ((l.toArray.size-(q+1))+1) (pre l.toArray.size q) a w:=by
    intro s1 f0 fB hw h1;have hr2:=fB.put (v:=M2) (d:=.val M2) (by simp only[VT]) o.dst;refine first M2 (.inr ⟨hw,rfl⟩) (ih (q+1) _ _ arX om om ht' hr2 h1 (λst' hk f2=>eS st' hk ?_))
    exact(f0.trans (Fr.put s1 o.dst (.val M2)) (W:=jd o.dst++mo l.toArray o) (n:=hJ) (λi hi=>by simp[hi]) (λi hi=>by simp[hi]) (λh=>⟨rfl,rfl⟩)).trans f2 (λi hi=>by
     grind[eZ]) (λi hi=>by simp[eZ,hi]) (λh=>⟨rfl,rfl⟩)
   simp only[vC]at h;split at h
   ·rename_i hg;exact run s (Fr.refl _ _ _) hr (by simp[pC,hg]) h
   ·rename_i j want hg;split at h<;>try trivial
    rename_i t htt;split at h<;>try trivial
    ·rename_i b hb;obtain⟨hw,hbv⟩:=KH hr hg htt hb;have hl:=hr.lit hbv;grind[mo,Fr.lit]
    grind[Fr.refl,MX]
 grind
theorem Wj(hX:X.Ok){l:J H3}{q:Bool}{k:TS E->O R}{r:R}{Q:TS E->Prop}(h:adb X l i q m st k=iN r)
  (eS:∀st',k st'=iN r->Fr (eZ l.toArray ((l.drop i).take m)) (cJ ((l.drop i).take m)) st st'->yE w0 G0 X.P l.toArray (i+m) st' Q):yE w0 G0 X.P l.toArray i st Q:=by
 intro a w G hr;unfold adb at h;cases q<;>simp at h
 ·obtain⟨h1,h2⟩:=dX h;rw[cK]at h1;have hm:=lY h1.2;have hlen:((l.drop i).take m).length=m:=by simp;omega
  have key:=ZG (Q':=cQ E w0 G0 (pH Q)) ((l.drop i).take m) i (l.toArray.size-(i+m)) (apN hm) (by rw[hlen];exact h1.1) a w (sQ hX h2 w0 G0 a w G hr) (λe a w hp=>?_)
  ·grind
  ·obtain⟨x,s,G',he,hr',hk,hf⟩:=hp;cases x with
   | normal=>refine⟨by cases e<;>first|rfl|exact he.elim,?_⟩;rw[hlen];exact eS s hk hf a w G' hr'
   | _=>cases hk
 ·obtain⟨h1,h2⟩:=dX h;rw[cK]at h1;exact afl hX h1.1 (lY h1.2) h2 (λst' hk hf=>eS st' hk (hf.wide (λ_ h=>h) (λ_=>rfl))) hr
theorem yE.mono{Q Q':TS E->Prop}(hq:∀s,Q s->Q' s)(h:yE w0 G0 P ops i st Q):yE w0 G0 P ops i st Q':=by
 intro a w G hr;have key:∀(fuel:Nat)(listed:aK Bool)(a:Act)(w:U){Q1 Q2:Exit->Act->U->Prop},(∀e a w,Q1 e a w->Q2 e a w)->wpAny P .any ops Q1 fuel listed a w->wpAny P .any ops Q2 fuel listed a w:=by
  intro fuel
  induction fuel with
  | zero=>intro listed a w Q1 Q2 hq h;exact⟨h.1,hq _ _ _ h.2⟩|succ fuel ih=>
   intro listed a w Q1 Q2 hq h;refine⟨λhe=>hq _ _ _ (h.1 he),λi hi=>?_⟩;have h1:=h.2 i hi;unfold wpOp at h1⊢;split
   ·grind
   ·rename_i o ho;rw[ho]at h1;simp only at h1;split
    ·rename_i hw;rw[if_pos hw]at h1;rcases h1 with h1|⟨h1,a1,w1,h2⟩
     ·exact .inl (qH (λa w h=>ih _ a w hq h) hq h1)
     ·exact .inr ⟨h1,a1,w1,hq _ _ _ h2⟩
    grind
 exact key _ _ _ _ (λe a w hp=>cQ.mono (λx s hh=>⟨hh.1,hq _ hh.2⟩) hp) (h a w G hr)
theorem Hs{all:aK H3}:∀(l:J H3)(a b:Nat)(i:Nat),i∈eZ all ((l.drop a).take b)->i∈eZ all l
 | [],a,b,i,h=>by simp at h;exact h|o::l,0,0,i,h=>by simp[eZ]at h|o::l,0,b+1,i,h=>by
  simp[eZ]at h⊢;rcases h with h|h|h
  ·exact .inl h
  ·exact .inr (.inl h)
  ·exact .inr (.inr (Hs l 0 b i (by simpa using h)))
 | o::l,a+1,b,i,h=>by simp[eZ];exact .inr (.inr (Hs l a b i (by simpa using h)))
theorem Ca:∀(l:J H3)(a b:Nat),cJ l=hJ->cJ ((l.drop a).take b)=hJ|[],a,b,h=>by simp[cJ]|o::l,0,0,h=>by simp[cJ]|o::l,0,b+1,h=>by simp only[cJ,cK]at h;simp only[TF,List.take_succ_cons,cJ,cK];exact⟨h.1,by simpa using Ca l 0 b h.2⟩|o::l,a+1,b,h=>by simp_all[cJ,Ca]
theorem KI{R:Type}(hX:X.Ok){l:J H3}{k:TS E->O R}{r:R}{w0:U}{G0:bB}:∀(ss:J ada)(i:Nat){st:TS E},MY X l i ss st k=iN r ->
  yE w0 G0 X.P l.toArray i st (λst'=>k st'=iN r/\Fr (eZ l.toArray l) (cJ l) st st')
 | [],i,st,h=>by
  simp[MY]at h;cases hi:eI i l.length<;>rw[hi]at h<;>simp only[aU,aJ]at h
  ·cases h
  simp_all[yE.done,Fr.refl]
 | s::ss,i,st,h=>by
  simp[MY]at h;split at h
  ·refine Wj hX h λst' hk hf=>?_;refine yE.mono (λs' hh=>⟨hh.1,hf.trans hh.2 (λj hj=>Hs l i s.m j hj) (λj hj=>hj) (λhn=>⟨Ca l i s.m hn,hn⟩)⟩) (KI hX ss (i+s.m) hk)
  ·rename_i c hc;obtain⟨h1,h2⟩:=dX h;rw[cK]at h1;cases hs:adb X l i s.q s.m st (λst'=>c.pack st st')with
   | none=>rw[hs]at h2;cases h2
   | some x=>rw[hs]at h2;intro a w G hr;have hpre:=hr.pre;refine Wj hX hs (λst' hk hf=>?_) a w G hr;intro a' w' G' hr';obtain⟨⟨G2,hR⟩,hF⟩:=AF hX.E hpre hr' (hf.wide (λ_ h=>h) (λ_=>Ca l i s.m h1.2)) h1.1 hk;exact yE.mono (λs' hh=>⟨hh.1,hF.trans hh.2 (λj hj=>Hs l i s.m j hj) (λj hj=>hj) (λhn=>⟨rfl,hn⟩)⟩) (KI hX ss (i+s.m) h2) a' w' G2 hR
theorem aiu(hX:X.Ok){ss:J ada}{k:TS E->O R}{r:R}(h:MY X ops.toList 0 ss st k=iN r):
  Jv E X.P (.region id ops hJ) st (λx st'=>x=.normal/\k st'=iN r/\Fr (eZ ops ops.toList) (cJ ops.toList) st st'):=by
 intro w0 G0 a w G hr;have hs:fG w {w with drawn:=w.drawn+1}:=⟨eo _,λ_ _=>rfl⟩;have hr':=hr.grow hs rfl rfl rfl G.pr (λ_ _ h=>h) (λ_ _ _ h=>h) (λb o hp=>kD (hr.boxes.gN b o hp).1 hs.1);have h1:=KI hX ss 0 h a _ _ hr';refine wp_region_any hX.mix ?_;rw[amT];exact h1
theorem mm.trans{w1 w2:U}{G1 G2:bB}(h:mm w0 G0 w1 G1)(h':mm w1 G1 w2 G2):mm w0 G0 w2 G2:=by
 have Fw:∀b,b<w0.heap.size->G1.Fw b->G0.Fw b:=by
  intro b hb hf;rcases hf with hf|⟨x,hd,hm,hbk⟩
  ·obtain⟨q,hq,he⟩:=lH hf;have V4:G1.i[q]? = iN b:=by rw[<-he];exact ga hq
   by_cases qF:q<G0.i.length
   ·have e1:=h.goes.i q _ (ga qF);rw[V4]at e1;exact .inl (by rw[pO e1];exact fm qF)
   ·have:=h.r7 q b om V4;omega
  ·obtain⟨j,hj,he⟩:=lH hm;rcases h.iz j x hd b (by rw[<-he];exact ga hj) hbk with q|⟨x0,h0,q1,q2⟩
   ·omega
   ·exact .inr ⟨x0,h0,jR q1,q2⟩
 refine⟨h'.os.trans h.os,h'.tape.trans h.tape,h'.output.trans h.output,lG h.size h'.size,λb hb hn=>(h'.old b (kD hb h.size) (λhf=>hn (Fw b hb hf))).trans (h.old b hb hn),h.goes.trans h'.goes,λb o hb hp=>?_,λr b h1 h2=>?_,λj x hd b hj hbk=>?_⟩
 ·rcases h'.pE b o (kD hb h.size) hp with q|⟨x,hd,hm,hbk⟩
  ·exact h.pE b o hb q
  ·obtain⟨j,hj,he⟩:=lH hm;rcases h.iz j x hd b (by rw[<-he];exact ga hj) hbk with q|⟨x0,h0,q1,q2⟩
   ·omega
   ·exact .inr ⟨x0,h0,jR q1,q2⟩
 ·by_cases hr:r<G1.i.length
  ·have e1:=h'.goes.i r _ (ga hr);rw[h2]at e1;exact h.r7 r b h1 (by rw[pO e1];exact ga hr)
  ·exact lG h.size (h'.r7 r b om h2)
 ·rcases h'.iz j x hd b hj hbk with q|⟨x0,h0,q1,q2⟩
  ·exact .inl (lG h.size q)
  ·exact h.iz j x0 h0 b q1 q2
def Rel.root(h:Rel E w0 G0 st a w G):Rel E w G {st with d:=[]} a w G:=⟨mm.refl w G,h.size,h.tmps,h.defers,h.boxes,λ_ _ _ _=>rfl,h.V5,h.gO⟩
theorem Rel.P7{G':bB}{a':Act}{st':TS E}(h:Rel E w0 G0 st a w G)(h':Rel E w G st' a' w' G'):Rel E w0 G0 {st' with d:=st'.d++st.d} a' w' G':=
 ⟨h.fF.trans h'.fF,h'.size,h'.tmps,h'.defers,h'.boxes,λr b hb hd=>by
  rw[ni,not_or]at hd;exact(h'.fix r b (h.fF.goes.i r b hb) hd.1).trans (h.fix r b hb hd.2),h.pins,h'.gO⟩
theorem Fr.P7{nd:Bool}{st':TS E}(h:Fr W nd {st with d:=[]} st'):Fr W nd st {st' with d:=st'.d++st.d}:=by obtain⟨D,hD,hH⟩:=h.d;simp at hD;exact⟨h.len,h.keep,⟨D,by rw[hD],hH⟩,h.hl,h.df⟩
def NX(ws:U)(Gs:bB)(R:J Nat)(w':U):Prop:=(∀r b,r∈R->Gs.i[r]? = iN b->w'.heap[b]? = ws.heap[b]?)/\∀b o u,Gs.pr b o->ws.cell? ⟨b,o,iF⟩=iN u->w'.cell? ⟨b,o,iF⟩=iN u
def pinned(R:J Nat)(st:TS E):Bool:=R.all λr=>!(st.d.elem r)
theorem Rel.pin{R:J Nat}(h:Rel E ws Gs st a w G)(hR:pinned R st=hJ):NX ws Gs R w:=
 ⟨λr b hr hb=>h.fix r b hb (λhm=>by
  have:=pP.1 hR r hr
  simp_all),h.fF.goes.cells⟩
def Wk(R:J Nat)(first:Bool)(st:TS E):Op->Bool
 | .load _ x=>match st.ev x with
  | .ptr r _=>R.elem r|.tT _ _ _=>first
  | _=>eQ
 | _=>hJ
def xH(P:bx)(ops:aK H3)(Q:Exit->Act->U->Prop)(S:U->Prop)(Z:J Nat):Nat->aK Bool->Act->U->Prop
 | 0,listed,a,w=>pB .any ops listed=[]/\Q .normal a w|fuel+1,listed,a,w=>
  (pB .any ops listed=[]->Q .normal a w) /\
  ∀i∈pB .any ops listed,wpOp P ops Q i (λa' w'=>(Z.elem i=eQ->S w')/\xH P ops Q S Z fuel (listed.setIfInBounds i hJ) a' w') a w
theorem MZ{P:bx}{ops:aK H3}{Q:Exit->Act->U->Prop}{S:U->Prop}{Z:J Nat}:∀(fuel:Nat)(listed:aK Bool)(a:Act)(w:U),xH P ops Q S Z fuel listed a w->wpAny P .any ops Q fuel listed a w|0,_,_,_,h=>h|fuel+1,_,_,_,h=>⟨h.1,λi hi=>wpOp_mono (λa' w' h'=>MZ fuel _ a' w' h'.2) (h.2 i hi)⟩
theorem ade(Ib:ops[i]? = iN oi)(hsel:∀(j:Nat)(o:H3) cs b,ops[j]? = iN o->o.op≠.select cs b)
  (hQ:∀c a w,Q (.panic c) (a.put oi.dst v) w->Q (.panic c) a w) {B:J Nat} (hZ:∀j,Z.elem j=hJ->j∈B) (hB:∀j∈B,∃oj,ops[j]? = iN oj/\∃e∈oj.after,pA .any e=hJ/\(e.on=i\/e.on∈B)) :
  ∀(fuel:Nat)(listed:aK Bool)(a:Act)(w:U),
   (∀j oj,ops[j]? = iN oj->j≠i->listed.getD j hJ=eQ->(∀e∈oj.after,pA .any e=hJ->e.on≠i)->oi.apart ops oj=hJ) ->
   (∀j∈B,listed.getD j hJ=eQ)->i∈pB .any ops listed->YieldsIf P ops S oi v a->S w ->
   xH P ops Q S Z fuel (listed.setIfInBounds i hJ) (a.put oi.dst v) w->xH P ops Q S Z (fuel+1) listed a w:=by
 intro fuel
 induction fuel with
 | zero=>
  intro listed a w _ _ hr hy hS H;refine⟨λh=>(by rw[h]at hr;cases hr),λj hj=>?_⟩;by_cases hji:j=i
  ·subst hji;exact hy.wpOp Ib hS ⟨λ_=>hS,H⟩
  ·have:=ready_mono hj hji;rw[H.1]at this;cases this
 | succ fuel ih=>
  intro listed a w hfree hL hr hy hS H;refine⟨λh=>(by rw[h]at hr;cases hr),λj hj=>?_⟩;by_cases hji:j=i
  ·subst hji;exact hy.wpOp Ib hS ⟨λ_=>hS,H⟩
  ·have h1:=H.2 j (ready_mono hj hji);obtain⟨PW,oj,PX,hall⟩:=mem_ready.1 hj;have hpi:=(mem_ready.1 hr).1;have hnot:∀e∈oj.after,pA .any e=hJ->e.on≠i:=λe he hb heq=>by grind
   have h2:=wpOp_putIf PX (hfree j oj PX hji PW hnot) (λcs b=>hsel i oi cs b Ib) (λcs b=>hsel j oj cs b PX) hQ hy h1;have PY:∀k ok,ops[k]? = iN ok->k≠i->(listed.setIfInBounds j hJ).getD k hJ=eQ ->
     (∀e∈ok.after,pA .any e=hJ->e.on≠i)->oi.apart ops ok=hJ:=λk ok hk hki hun hno=>by
    refine hfree k ok hk hki ?_ hno;by_cases hjk:j=k
    ·subst hjk;exact PW
    ·rw[getD_set_ne hJ hjk]at hun;exact hun
   have hjB:j∉B:=λhjB=>by grind
   have hjZ:Z.elem j=eQ:=by grind
   have hL':∀k∈B,(listed.setIfInBounds j hJ).getD k hJ=eQ:=λk hk=>by rw[getD_set_ne hJ (λe=>hjB (by rw[e];exact hk))];exact hL k hk
   refine wpOp_mono (λa' w' h3=>⟨h3.2.1,ih (listed.setIfInBounds j hJ) a' w' PY hL' (ready_mono hr (Ne.symm hji)) h3.1 (h3.2.1 hjZ) ?_⟩) h2;grind[Array.setIfInBounds_comm]
def gdT{R':Type}(all:aK H3)(o:H3)(st:TS E)(run skip:TS E->O R'):O R':=match o.guard with
 | none=>run st|some (j,want)=>match (all[j]?).bind (·.dst)with
  | some t=>match st.at t with
   | .dat .bool b=>cond b
     (cond want (run {st with t:=st.t.set t (.dat .bool hJ)}) (skip {st with t:=st.t.set t (.dat .bool hJ)}))
     (cond want (skip {st with t:=st.t.set t (.dat .bool eQ)}) (run {st with t:=st.t.set t (.dat .bool eQ)}))
   | .val (.bool _)=>iF|.val _=>skip st|_=>iF
  | none=>iF
def hasDep(all:aK H3)(i:Nat)(S:J Nat)(j:Nat):Bool:=match all[j]? with|some o=>o.after.any (λe=>pA .any e&&(eI e.on i||S.elem e.on))|none=>eQ
def upG(all:aK H3)(i:Nat):J Nat->J Nat->J Nat|[],acc=>acc|j::js,acc=>upG all i js (cond (hasDep all i acc j) (j::acc) acc)
def agh(all:aK H3)(Z:J Nat)(L:aK Bool)(i:Nat)(B:J Nat):Bool:=Z.all (B.elem ·)&&B.all λj=>hasDep all i B j && !(L.getD j hJ)
def behind(all:aK H3)(Z:J Nat)(L:aK Bool)(i:Nat):Bool:=cond Z.isEmpty hJ (agh all Z L i (upG all i (bY all.size) []))
theorem akx(h:behind all Z L i=hJ):∃B:J Nat,(∀j,Z.elem j=hJ->j∈B)/\∀j∈B,L.getD j hJ=eQ/\∃oj,all[j]? = iN oj/\∃e∈oj.after,pA .any e=hJ/\(e.on=i\/e.on∈B):=by
 unfold behind at h;cases hz:Z.isEmpty<;>rw[hz]at h<;>simp at h
 ·unfold agh at h;rw[cK]at h;refine⟨_,λj hj=>Rp (pP.1 h.1 j (Rp hj)),λj hj=>?_⟩;have h2:=pP.1 h.2 j hj;grind[hasDep,Array.any_eq_true',Nat.eq_of_beq_eq_true,List.mem_of_elem_eq_true]
 ·refine⟨[],λj hj=>?_,λj hj=>by cases hj⟩;simp_all
noncomputable def NY{R':Type}(X:Cx E)(R Z:J Nat)(all:aK H3):J (Nat×Bool)->Nat->aK Bool->TS E->(Nat->TS E->O R')->O R'
 | [],f,_,st,k=>k f st|p::is,f,L,st,k=>match all[p.1]? with
  | none=>iF|some o=>cond p.2
    (rq ((Region.free .any all L p.1&&(pB .any all L).contains p.1)&&(iO f 1&&behind all Z L p.1)) (gdT all o st
     (λst=>rq (Wk R (eI f 0) st o.op) (Yg X st o (λst'=>NY X R Z all is f (L.setIfInBounds p.1 hJ) st' k)))
     (λst=>NY X R Z all is f (L.setIfInBounds p.1 hJ) {st with t:=cG st.t o.dst (.val M2)} k)))
    (rq (pB .any all L==[p.1]) (gdT all o st
     (λst=>ZF X st o (jX (λst'=>cond (Z.elem p.1) (NY X R Z all is 2 (L.setIfInBounds p.1 hJ) st' k) (rq (pinned R st') (NY X R Z all is 1 (L.setIfInBounds p.1 hJ) st' k))) λ_ _=>iF))
     (λst=>rq (iO f 1||Z.elem p.1) (NY X R Z all is f (L.setIfInBounds p.1 hJ) {st with t:=cG st.t o.dst (.val M2)} k))))
structure zq where
 l:List (Nat×Bool)
 c:Option Cut
def abx(L:aK Bool):J (Nat×Bool)->aK Bool|[]=>L|p::l=>abx (L.setIfInBounds p.1 hJ) l
def rj(all:aK H3)(l:J (Nat×Bool)):J H3:=l.filterMap λp=>all[p.1]?
noncomputable def R8{R':Type}(X:Cx E)(R Z:J Nat)(all:aK H3):J zq->Nat->aK Bool->TS E->(TS E->O R')->O R'
 | [],_,L,st,k=>rq (pB .any all L).isEmpty (k st)|s::ss,f,L,st,k=>match s.c with
  | none=>NY X R Z all s.l f L st (λf' st'=>R8 X R Z all ss f' (abx L s.l) st' k)|some c=>rq (c.okW (eZ all (rj all s.l))&&cJ all.toList) ((NY X R Z all s.l f L st (λ_ st'=>c.pack st st')).bind λx=>rq (pinned R (c.un (eZ all (rj all s.l)) st x)) (R8 X R Z all ss 1 (abx L s.l) (c.un (eZ all (rj all s.l)) st x) k))
def zq.n:J zq->Nat|[]=>0|s::ss=>s.l.length+zq.n ss
def mR(ws:U)(Gs:bB)(R Z:J Nat)(P:bx)(ops:aK H3)(f n:Nat)(L:aK Bool)(st:TS E)(Q:TS E->Prop):Prop:=∀a w G,Rel E ws Gs st a w G->(f=0->w.heap=ws.heap/\G=Gs)->(f<=1->NX ws Gs R w)->xH P ops (cQ E ws Gs (pH Q)) (NX ws Gs R) Z n L a w
theorem mR.done{R:J Nat}{Q:TS E->Prop}(hL:(pB .any ops L).isEmpty=hJ)(h:Q st):∀n,mR ws Gs R Z P ops f n L st Q:=by
 have hL:=List.isEmpty_iff.1 hL;intro n a w G hr _ _;have hq:cQ E ws Gs (pH Q) .normal a w:=⟨.normal,st,G,trivial,hr,rfl,h⟩;cases n with
 | zero=>exact⟨hL,hq⟩|succ n=>exact⟨λ_=>hq,λi hi=>by rw[hL]at hi;cases hi⟩
theorem aiv(hX:X.Ok){R:J Nat}{first:Bool}{k:TS E->O R'}{r:R'}(hl:Wk R first st o.op=hJ)(h:Yg X st o k=iN r)(hr:Rel E ws Gs st a w G)
  (hf:first=hJ->w.heap=ws.heap/\G=Gs) (hp:NX ws Gs R w) (Cb:∀q,q∈R->q<Gs.i.length) :
  ∃v st',(∀w',NX ws Gs R w'->(R0 a.eval o).run X.P w'=.ok (.value v) w')/\Rel E ws Gs st' (a.put o.dst v) w G/\k st'=iN r/\Fr (jd o.dst) hJ st st':=by
 cases hld:Vx o.op with
 | false=>obtain⟨v,st',h1,h2,h3,h4⟩:=Wi hX h hr;exact⟨v,st',λw' _=>h1 w' (λhh=>by rw[hld]at hh;cases hh),h2,h3,h4⟩
 | true=>
  obtain⟨t,x,ho⟩:∃t x,o.op=.load t x:=by cases ho:o.op<;>rw[ho]at hld<;>first|exact⟨_,_,rfl⟩|cases hld
  unfold Yg at h;split at h
  ·rename_i pc pd Vp;obtain⟨h1,h2⟩:=Ia h;obtain⟨p,hpd⟩:∃p:Bool×TV E,p=(pc,pd):=⟨_,rfl⟩;rw[<-hpd]at Vp;have arY:pc=p.1:=by rw[hpd]
   have arZ:pd=p.2:=by rw[hpd]
   rw[arY]at h1;rw[arZ]at h2;clear hpd arY arZ;have avi:VY X.P X.ty st o.op=iN p\/VZ X.P st o.op=iN p:=by grind[V0,abq]
   rcases avi with Vp|hpn
   rotate_left
   ·rw[ho]at hpn hl;simp only[VZ]at hpn;simp only[Wk]at hl;have hv:=hr.ev x;split at hpn<;>try trivial
    rename_i i r' off hi hd;rw[hd]at hv hl;have hrR:=Rp hl;split at hpn<;>try trivial
    rename_i e cap T xs d' hb;cases hpn;obtain⟨b,he,hat⟩:=hv;obtain⟨cur,q1,q2,q4,q5,q6⟩:=hr.box hat hb;simp only[cK,wR]at h1;obtain⟨c1,c2,c3⟩:=h1;have c1:=eY c1;have c3:=eY c3;subst c3;have hGs:Gs.i[r']? = iN b:=by have hlt:=Cb r' hrR;have e1:=hr.fF.goes.i r' _ (ga hlt);simp_all
    refine⟨_,_,λw' hP=>?_,hr.put q5 o.dst,h2,Fr.put _ _ _⟩;have hh':w'.heap[b]? = iN (.cells cur e (0,0)):=by rw[hP.1 r' b hrR hGs,<-hp.1 r' b hrR hGs];exact q1
    have hrun:=NW (P:=X.P) hi c1 c2 w' (Zv hh' (by rw[q2];exact q6));simp only[R0,ho,he,jJ,hrun,kn,qj]
   have P8:RW X.P X.ty st o.op=iN p\/(RW X.P X.ty st o.op=iF/\VS X.P X.ty st o.op=iN p):=by grind[VY,VW,VU,abn,abp]
   rw[ho]at P8 hl;rcases P8 with P8|⟨-,P8⟩
   rotate_left
   ·simp_all[VS]
   simp only[RW]at P8;simp only[Wk]at hl;have hv:=hr.ev x;split at P8<;>try trivial
   ·rename_i i T y off hi hd;rw[hd]at hv hl;subst hl;obtain⟨hw,hG⟩:=hf rfl;subst hG;have hcell:∀a,w.cell? a=ws.cell? a:=λa=>by unfold World.cell?;rw[hw]
    obtain⟨b,o',c,he,q1,q2⟩:=hv;have hpart:=MH hX.E q1 (Dz P8);obtain⟨v,NM,V7⟩:=tX (P:=X.P) hi (λl u hl=>(q2 l u hl).2) hpart;refine⟨v,_,λw' hP=>?_,hr.put NM o.dst,h2,Fr.put _ _ _⟩;have hrow:∀(l:Nat) u,c[l]? = iN u->w'.cell? ⟨b,o'+l,iF⟩=iN u:=λl u hl=>hP.2 _ _ _ (q2 l u hl).1 (by simp_all);have hrun:(Instr.loadAt t (.pointer (iN ⟨b,o'+off,iF⟩))).run X.P w'=.ok v w':=by
     have e0:=V7 w (fG.refl w);have key:∀(W:U),(∀(l:Nat) u,c[l]? = iN u->W.cell? ⟨b,o'+l,iF⟩=iN u)->∀(p1:Part E w G c i.isAgg i.size off p.2),(Instr.loadAt t (.pointer (iN ⟨b,o'+off,iF⟩))).run X.P W=.ok (cond i.isAgg (.agg ((c.drop off).take i.size).toArray) (c.getD off M2)) W:=by
      intro W hW p1;have tA:∀l,l<c.length->W.cell? ⟨b,o'+l,iF⟩=iN (c.getD l M2):=λl hl=>by simp_all
      cases ha:i.isAgg<;>rw[ha]at p1<;>simp only[aU,aJ]at p1⊢
      ·obtain⟨u,hu,-⟩:=p1;have hl:=(fC.1 hu).1;rw[nU hi b o' c.length (λl=>c.getD l M2) tA off (by rw[ha];exact hl) W (fG.refl W),ha];rfl
      ·obtain⟨hl,-⟩:=p1;rw[nU hi b o' c.length (λl=>c.getD l M2) tA off (by rw[ha];exact hl) W (fG.refl W),ha];simp only[aU];congr 3;apply Bo
       ·simp;omega
       grind
     simp_all
    simp only[R0,ho,he,jJ,hrun,kn,qj]
   ·rename_i i r' off hi hd;rw[hd]at hv hl;have hrR:=Rp hl;split at P8<;>try trivial
    rename_i t' cs hb;obtain⟨b,he,hat⟩:=hv;obtain⟨vs,hh,q1,q2⟩:=hr.box hat hb;have hGs:Gs.i[r']? = iN b:=by have hlt:=Cb r' hrR;have e1:=hr.fF.goes.i r' _ (ga hlt);simp_all
    have hpart:=Kz hX.E q2 (λu hu=>q1 u (by simpa using hu)) (Dz P8)
    obtain⟨v,NM,V7⟩:=tX (P:=X.P) (w:=w) (b:=b) (o':=0) hi (λl u hl=>by
     grind[cell_of_row]) hpart
    refine⟨v,_,λw' hP=>?_,hr.put NM o.dst,h2,Fr.put _ _ _⟩;have hh':w'.heap[b]? = iN (.cells vs t' (0,0)):=by rw[hP.1 r' b hrR hGs,<-hp.1 r' b hrR hGs];exact hh
    have hrun:(Instr.loadAt t (.pointer (iN ⟨b,0+off,iF⟩))).run X.P w'=.ok v w':=by
     have e0:=V7 w (fG.refl w);have key:∀(W:U),W.heap[b]? = iN (.cells vs t' (0,0))->(Instr.loadAt t (.pointer (iN ⟨b,0+off,iF⟩))).run X.P W=.ok (cond i.isAgg (.agg ((vs.toList.drop off).take i.size).toArray) (vs.toList.getD off M2)) W:=by
      intro W hW;have tA:∀l,l<vs.toList.length->W.cell? ⟨b,0+l,iF⟩=iN (vs.toList.getD l M2):=λl hl=>by grind[cell_of_row]
      have p1:=hpart;cases ha:i.isAgg<;>rw[ha]at p1<;>simp only[aU,aJ]at p1⊢
      ·obtain⟨u,hu,-⟩:=p1;have hl:=(fC.1 hu).1;rw[nU hi b 0 vs.toList.length (λl=>vs.toList.getD l M2) tA off (by rw[ha];exact hl) W (fG.refl W),ha];rfl
      ·obtain⟨hl,-⟩:=p1;rw[nU hi b 0 vs.toList.length (λl=>vs.toList.getD l M2) tA off (by rw[ha];exact hl) W (fG.refl W),ha];simp only[aU];congr 3;apply Bo
       ·simp;simp at hl;omega
       grind
     simp_all
    rw[rX]at hrun;simp only[R0,ho,he,jJ,hrun,kn,qj]
  ·rw[ho]at h;cases h
theorem Ul{run skip:TS E->O R'}{r:R'}(h:gdT all o st run skip=iN r)(hr:Rel E w0 G0 st a w G):
  ∃s1,Fr (mo all o) hJ st s1/\Rel E w0 G0 s1 a w G/\((pC o (yielded all a.tmps)=hJ/\run s1=iN r)\/(pC o (yielded all a.tmps)=eQ/\skip s1=iN r)):=by
 unfold gdT at h;split at h
 ·rename_i hg;exact⟨st,Fr.refl _ _ _,hr,.inl ⟨by simp[pC,hg],h⟩⟩
 ·rename_i j want hg;split at h<;>try trivial
  rename_i t htt;split at h<;>try trivial
  ·rename_i b hb;obtain⟨hw,hbv⟩:=KH hr hg htt hb;have hl:=hr.lit hbv;grind[mo,Fr.lit]
  grind[Fr.refl,MX]
theorem xI{R':Type}(hX:X.Ok){R Z:J Nat}{all:aK H3}(rV:Region.noSelect all=hJ){ws:U}{Gs:bB}(Cb:∀q,q∈R->q<Gs.i.length){Q:TS E->Prop}{n:Nat}{k:Nat->TS E->O R'}{r:R'}:
  ∀(is:J (Nat×Bool))(f:Nat)(L:aK Bool){st:TS E},NY X R Z all is f L st k=iN r ->
   (∀f' st',k f' st'=iN r->Fr (eZ all (rj all is)) (cJ (rj all is)) st st'->mR ws Gs R Z X.P all f' n (abx L is) st' Q)->mR ws Gs R Z X.P all f (Ts is+n) L st Q
 | [],f,L,st,h,eS=>by simp;exact eS f st h (Fr.refl _ _ _)|(i,q)::is,f,L,st,h,eS=>by
  intro a w G hr hf hp;simp only[NY]at h;split at h<;>try trivial
  rename_i o ho;have hQp:∀c a w,¬ cQ E ws Gs (pH Q) (.panic c) a w:=λc a w hp=>by have:=cQ.pH hp;cases this
  have oC:rj all ((i,q)::is)=o::rj all is:=by simp[rj,ho]
  have hfr:∀ {s1 s2 s3:TS E}{nd:Bool},(nd=!(Gx o.op)\/nd=hJ)->Fr (mo all o) hJ st s1->Fr (jd o.dst) nd s1 s2->Fr (eZ all (rj all is)) (cJ (rj all is)) s2 s3->Fr (eZ all (rj all ((i,q)::is))) (cJ (rj all ((i,q)::is))) st s3:=by
   intro s1 s2 s3 nd hnd f0 f1 f2;rw[oC]
   refine(f0.trans f1 (W:=jd o.dst++mo all o) (λi hi=>by simp[hi]) (λi hi=>by simp[hi]) (λh=>⟨rfl,h⟩)).trans f2 (λi hi=>by
     grind[eZ]) (λi hi=>by simp[eZ,hi]) (λh=>by
     simp_all[cJ])
  rw[show((i,q)::is).length+n=(Ts is+n)+1 by simp;omega];have aoL:∀(s1:TS E),Fr (mo all o) hJ st s1->Rel E ws Gs s1 a w G->NY X R Z all is f (L.setIfInBounds i hJ) {s1 with t:=cG s1.t o.dst (.val M2)} k=iN r ->
    xH X.P all (cQ E ws Gs (pH Q)) (NX ws Gs R) Z (Ts is+n) (L.setIfInBounds i hJ) (a.put o.dst M2) w:=by
   intro s1 f0 fB h1;have hr2:=fB.put (v:=M2) (d:=.val M2) (by simp[VT]) o.dst;exact xI hX rV Cb is f _ h1 (λf' st' hk f2=>eS f' st' hk (hfr (.inr rfl) f0 (Fr.put s1 o.dst (.val M2)) f2)) _ w G hr2 hf hp
  cases q<;>simp only[aU,aJ]at h
  ·obtain⟨h1,h⟩:=dX h;refine⟨λhe=>(by rw[he]at h1;cases h1),λj hj=>?_⟩;have hji:j=i:=by simp_all
   subst hji;obtain⟨s1,f0,fB,hc⟩:=Ul h hr;unfold wpOp;simp only[ho];rcases hc with⟨hw,h2⟩|⟨hw,h2⟩
   ·rw[if_pos hw];have hop:=PU hX h2 ws Gs a w G fB;refine .inl (qH (λa' w' hn=>?_) (λe a' w' Vp=>?_) hop)
    ·obtain⟨s2,G2,hr2,hk,f1⟩:=hn;cases hz:Z.elem j<;>rw[hz]at hk<;>simp at hk
     ·obtain⟨adf,hk⟩:=dX hk;have hp2:=hr2.pin adf;exact⟨λ_=>hp2,xI hX rV Cb is 1 _ hk (λf' st' hk' f2=>eS f' st' hk' (hfr (.inl rfl) f0 f1 f2)) a' w' G2 hr2 (λe=>by cases e) (λ_=>hp2)⟩
     ·exact⟨λe=>(by cases e),xI hX rV Cb is 2 _ hk (λf' st' hk' f2=>eS f' st' hk' (hfr (.inl rfl) f0 f1 f2)) a' w' G2 hr2 (λe=>by cases e) (λe=>om)⟩
    ·obtain⟨x,s2,G2,he,hr2,hn,hk,f1⟩:=Vp;grind
   ·rw[if_neg (by rw[hw];simp)];obtain⟨h3,h2⟩:=dX h2;refine⟨λhz=>hp ?_,aoL s1 f0 fB h2⟩;simp_all
  ·obtain⟨h1,h⟩:=dX h;simp only[cK]at h1;obtain⟨h1,hf1,hbe⟩:=h1;have hp:=hp (lY hf1);obtain⟨B,hZ,hB⟩:=akx hbe;have first:∀v,YieldsIf X.P all (NX ws Gs R) o v a->xH X.P all (cQ E ws Gs (pH Q)) (NX ws Gs R) Z (Ts is+n) (L.setIfInBounds i hJ) (a.put o.dst v) w ->
     xH X.P all (cQ E ws Gs (pH Q)) (NX ws Gs R) Z ((Ts is+n)+1) L a w:=λv hy hh=>
    ade ho (ag2 rV) (λc a w hp=>(hQp _ _ _ hp).elim) hZ (λj hj=>(hB j hj).2) _ _ a w (ag3 ho h1.1) (λj hj=>(hB j hj).1) (by simpa using h1.2) hy hp hh
   obtain⟨s1,f0,fB,hc⟩:=Ul h hr;rcases hc with⟨hw,h2⟩|⟨hw,h2⟩
   ·obtain⟨hl,h2⟩:=dX h2;obtain⟨v,s2,hrun,hr2,hk,f1⟩:=aiv hX hl h2 fB (λe=>hf (eY e)) hp Cb;exact first v (.inl ⟨hw,hrun⟩) (xI hX rV Cb is f _ hk (λf' st' hk' f2=>eS f' st' hk' (hfr (.inr rfl) f0 f1 f2)) _ w G hr2 hf (λ_=>hp))
   ·exact first M2 (.inr ⟨hw,rfl⟩) (aoL s1 f0 fB h2)
theorem Yi{all:aK H3}{o:H3}:∀ {l:J H3},o∈l->∀i,i∈jd o.dst++mo all o->i∈eZ all l
 | [],h,_,_=>by cases h
 | o'::l,h,i,hi=>by
  simp[eZ];rcases hU.1 h with rfl|h
  ·simp at hi;rcases hi with hi|hi
   ·exact .inl hi
   ·exact .inr (.inl hi)
  ·exact .inr (.inr (Yi h i hi))
theorem M0{l:J (Nat×Bool)}(h:o∈rj all l):o∈all.toList:=by obtain⟨p,_,hp⟩:=List.mem_filterMap.1 h;grind
theorem Um{all:aK H3}:∀ {l:J H3},(∀o,o∈l->o∈all.toList)->∀i,i∈eZ all l->i∈eZ all all.toList
 | [],_,i,h=>by cases h
 | o::l,hm,i,h=>by
  simp[eZ]at h;rcases h with h|h|h
  ·exact Yi (hm o si) i (by simp[h])
  ·exact Yi (hm o si) i (by simp[h])
  ·exact Um (λo h=>hm o (by simp[h])) i h
theorem Wl{l m:J H3}(hm:∀o,o∈l->o∈m)(h:cJ m=hJ):cJ l=hJ:=by
 have key:∀(l:J H3),cJ l=hJ↔∀o,o∈l->(!(Gx o.op))=hJ:=by
  intro l
  induction l with|nil=>simp[cJ]|cons o l ih=>simp_all[cJ]
 simp_all
theorem mR.mono{R:J Nat}{n:Nat}{Q Q':TS E->Prop}(hq:∀s,Q s->Q' s)(h:mR ws Gs R Z P ops f n L st Q):mR ws Gs R Z P ops f n L st Q':=by
 intro a w G hr hf hp;have key:∀(fuel:Nat)(listed:aK Bool)(a:Act)(w:U){Q1 Q2:Exit->Act->U->Prop}{S:U->Prop},(∀e a w,Q1 e a w->Q2 e a w)->xH P ops Q1 S Z fuel listed a w->xH P ops Q2 S Z fuel listed a w:=by
  intro fuel
  induction fuel with
  | zero=>intro listed a w Q1 Q2 S hq h;exact⟨h.1,hq _ _ _ h.2⟩|succ fuel ih=>
   intro listed a w Q1 Q2 S hq h;refine⟨λhe=>hq _ _ _ (h.1 he),λi hi=>?_⟩;have h1:=h.2 i hi;unfold wpOp at h1⊢;split
   ·grind
   ·rename_i o ho;rw[ho]at h1;simp only at h1;split
    ·rename_i hw;rw[if_pos hw]at h1;rcases h1 with h1|⟨h1,a1,w1,h2⟩
     ·exact .inl (qH (λa w h=>⟨h.1,ih _ a w hq h.2⟩) hq h1)
     ·exact .inr ⟨h1,a1,w1,hq _ _ _ h2⟩
    grind
 exact key _ _ _ _ (λe a w hp=>cQ.mono (λx s hh=>⟨hh.1,hq _ hh.2⟩) hp) (h a w G hr hf hp)
theorem KJ{R':Type}(hX:X.Ok){R Z:J Nat}{all:aK H3}(rV:Region.noSelect all=hJ){ws:U}{Gs:bB}(Cb:∀q,q∈R->q<Gs.i.length){n:Nat}{k:TS E->O R'}{r:R'}:
  ∀(ss:J zq)(f:Nat)(L:aK Bool){st:TS E},R8 X R Z all ss f L st k=iN r->mR ws Gs R Z X.P all f (zq.n ss+n) L st (λst'=>k st'=iN r/\Fr (eZ all all.toList) (cJ all.toList) st st')
 | [],f,L,st,h=>by grind[R8,dX,mR.done,Fr.refl]|s::ss,f,L,st,h=>by
  have hW:∀j,j∈eZ all (rj all s.l)->j∈eZ all all.toList:=Um (λo ho=>M0 ho);have hN:cJ all.toList=hJ->cJ (rj all s.l)=hJ:=Wl (λo ho=>M0 ho);simp[R8]at h;rw[show zq.n (s::ss)+n=s.l.length+(zq.n ss+n) by simp[zq.n];omega];split at h
  ·refine xI hX rV Cb s.l f L h λf' st' hk hf=>?_;exact mR.mono (λs' hh=>⟨hh.1,hf.trans hh.2 hW (λj hj=>hj) (λhn=>⟨hN hn,hn⟩)⟩) (KJ hX rV Cb ss f' _ hk)
  ·rename_i c hc;obtain⟨h1,h2⟩:=dX h;rw[cK]at h1;cases hs:NY X R Z all s.l f L st (λ_ st'=>c.pack st st')with
   | none=>rw[hs]at h2;cases h2
   | some x=>rw[hs]at h2;obtain⟨h3,h2⟩:=dX h2;intro a w G hr;have hpre:=hr.pre;refine xI hX rV Cb s.l f L hs (λf' st' hk hf=>?_) a w G hr;intro a' w' G' hr' _ _;obtain⟨⟨G2,hR⟩,hF⟩:=AF hX.E hpre hr' (hf.wide (λ_ h=>h) (λ_=>hN h1.2)) h1.1 hk;exact mR.mono (λs' hh=>⟨hh.1,hF.trans hh.2 hW (λj hj=>hj) (λhn=>⟨rfl,hn⟩)⟩) (KJ hX rV Cb ss 1 _ h2) a' w' G2 hR (λe=>by cases e) (λ_=>hR.pin h3)
noncomputable def fM{R':Type}(X:Cx E)(R Z:J Nat)(ops:aK H3)(ss:J zq)(st:TS E)(k:TS E->O R'):O R':=rq ((Region.noSelect ops&&iO (zq.n ss) ops.size)&&R.all (λq=>dE q st.H.length)) (R8 X R Z ops ss 0 (lA ops.size eQ) {st with d:=[]} (λst'=>k {st' with d:=st'.d++st.d}))
theorem afm(hX:X.Ok){R:J Nat}{ss:J zq}{k:TS E->O R'}{r:R'}(h:fM X R Z ops ss st k=iN r):
  Jv E X.P (.region id ops hJ) st (λx st'=>x=.normal/\k st'=iN r/\Fr (eZ ops ops.toList) (cJ ops.toList) st st'):=by
 intro w0 G0 a w G hr;have hs:fG w {w with drawn:=w.drawn+1}:=⟨eo _,λ_ _=>rfl⟩;have hr':=hr.grow hs rfl rfl rfl G.pr (λ_ _ h=>h) (λ_ _ _ h=>h) (λb o hp=>kD (hr.boxes.gN b o hp).1 hs.1);obtain⟨h1,h2⟩:=dX h;simp only[cK]at h1;obtain⟨⟨rV,hn⟩,hR⟩:=h1;have hn:=lY hn;have Cb:∀q,q∈R->q<G.i.length:=λq hq=>by have:=DH.1 (pP.1 hR q hq);rw[hr.boxes.len];exact this
 have hroot:=hr'.root;have h3:=KJ hX rV Cb (n:=ops.size-zq.n ss) ss 0 _ h2 a _ G hroot (λ_=>⟨rfl,rfl⟩) (λ_=>⟨λ_ _ _ _=>rfl,λ_ _ _ _ h=>h⟩);rw[show zq.n ss+(ops.size-zq.n ss)=ops.size by omega]at h3;refine wp_region_any hX.mix ?_;have h4:=MZ _ _ _ _ h3;have key:∀(fuel:Nat)(listed:aK Bool)(a:Act)(w:U){Q1 Q2:Exit->Act->U->Prop},(∀e a w,Q1 e a w->Q2 e a w)->wpAny X.P .any ops Q1 fuel listed a w->wpAny X.P .any ops Q2 fuel listed a w:=by
  intro fuel
  induction fuel with
  | zero=>intro listed a w Q1 Q2 hq h;exact⟨h.1,hq _ _ _ h.2⟩|succ fuel ih=>
   intro listed a w Q1 Q2 hq h;refine⟨λhe=>hq _ _ _ (h.1 he),λi hi=>?_⟩;have h1:=h.2 i hi;unfold wpOp at h1⊢;split
   ·grind
   ·rename_i o ho;rw[ho]at h1;simp only at h1;split
    ·rename_i hw;rw[if_pos hw]at h1;rcases h1 with h1|⟨h1,a1,w1,h2⟩
     ·grind[qH]
     ·exact .inr ⟨h1,a1,w1,hq _ _ _ h2⟩
    grind
 refine key _ _ _ _ (λe a' w' hp=>?_) h4;obtain⟨x,s,G',he,hrr,rfl,hk,hF⟩:=hp;exact⟨.normal,_,G',he,hr'.P7 hrr,rfl,hk,hF.P7⟩
inductive FT where
 | done
 | step (i:Nat) (q:Bool) (t:FT)
 | fork (i:Nat) (t:FT) (j:Nat) (u:FT)
 | aiw (i:Nat) (t:FT) (j:Nat) (u:FT) (k:Nat) (v:FT)
def FT.n:FT->Nat|.done=>0|.step _ _ t=>t.n+1|.fork _ t _ u=>Nat.max t.n u.n+1|.aiw _ t _ u _ v=>Nat.max t.n (Nat.max u.n v.n)+1
noncomputable def M1{R':Type}(X:Cx E)(R:J Nat)(all:aK H3)(i f:Nat)(st:TS E)(k:Nat->TS E->O R'):O R':=match all[i]? with
 | none=>iF|some o=>gdT all o st
   (λst=>ZF X st o (jX (λst'=>rq (pinned R st') (k 1 st')) λ_ _=>iF))
   (λst=>rq (iO f 1) (k f {st with t:=cG st.t o.dst (.val M2)}))
noncomputable def Tj{R':Type}(X:Cx E)(R:J Nat)(all:aK H3):FT->Nat->aK Bool->TS E->(TS E->O R')->O R'
 | .done,_,L,st,k=>rq (pB .any all L).isEmpty (k st)|.step i q t,f,L,st,k=>NY X R [] all [(i,q)] f L st (λf' st'=>Tj X R all t f' (L.setIfInBounds i hJ) st' k)|.fork i t j u,f,L,st,k=>rq (pB .any all L==[i,j]) (agree
   (M1 X R all i f st (λf' st'=>Tj X R all t f' (L.setIfInBounds i hJ) st' k))
   (M1 X R all j f st (λf' st'=>Tj X R all u f' (L.setIfInBounds j hJ) st' k)))
 | .aiw i t j u l v,f,L,st,k=>rq (pB .any all L==[i,j,l]) (agree (agree
   (M1 X R all i f st (λf' st'=>Tj X R all t f' (L.setIfInBounds i hJ) st' k))
   (M1 X R all j f st (λf' st'=>Tj X R all u f' (L.setIfInBounds j hJ) st' k)))
   (M1 X R all l f st (λf' st'=>Tj X R all v f' (L.setIfInBounds l hJ) st' k)))
theorem amU(h:all[i]? = iN o){q:Bool}:rj all [(i,q)]=[o]:=by simp[rj,h]
theorem zN(hX:X.Ok){R:J Nat}{Q:TS E->Prop}{n:Nat}{k:Nat->TS E->O R'}{r:R'}(h:M1 X R all i f st k=iN r)
  (eS:∀f' st',k f' st'=iN r->Fr (eZ all (rj all [(i,eQ)])) (cJ (rj all [(i,eQ)])) st st'->mR ws Gs R [] X.P all f' n (L.setIfInBounds i hJ) st' Q)    (hr:Rel E ws Gs st a w G) (hf:f=0->w.heap=ws.heap/\G=Gs) (hp:f<=1->NX ws Gs R w) :
  wpOp X.P all (cQ E ws Gs (pH Q)) i (λa' w'=>(([]:J Nat).elem i=eQ->NX ws Gs R w')/\xH X.P all (cQ E ws Gs (pH Q)) (NX ws Gs R) [] n (L.setIfInBounds i hJ) a' w') a w:=by
 unfold M1 at h;split at h<;>try trivial
 rename_i o ho;have hfr:∀ {s1 s2:TS E}{nd:Bool},(nd=!(Gx o.op)\/nd=hJ)->Fr (mo all o) hJ st s1->Fr (jd o.dst) nd s1 s2->Fr (eZ all (rj all [(i,eQ)])) (cJ (rj all [(i,eQ)])) st s2:=by
  intro s1 s2 nd hnd f0 f1;rw[amU ho]
  exact f0.trans f1 (λi hi=>by simp[eZ,hi]) (λi hi=>by simp[eZ,hi]) (λh=>by
    simp_all[cJ])
 obtain⟨s1,f0,fB,hc⟩:=Ul h hr;unfold wpOp;simp only[ho];rcases hc with⟨hw,h2⟩|⟨hw,h2⟩
 ·rw[if_pos hw];have hop:=PU hX h2 ws Gs a w G fB;refine .inl (qH (λa' w' hn=>?_) (λe a' w' Vp=>?_) hop)
  ·obtain⟨s2,G2,hr2,hk,f1⟩:=hn;obtain⟨adf,hk⟩:=dX hk;have hp2:=hr2.pin adf;exact⟨λ_=>hp2,eS 1 _ hk (hfr (.inl rfl) f0 f1) a' w' G2 hr2 (λe=>by cases e) (λ_=>hp2)⟩
  ·obtain⟨x,s2,G2,he,hr2,hn,hk,f1⟩:=Vp;grind
 ·rw[if_neg (by rw[hw];simp)];obtain⟨h3,h2⟩:=dX h2;have hp2:=hp (lY h3);exact⟨λ_=>hp2,eS f _ h2 (hfr (.inr rfl) f0 (Fr.put s1 o.dst (.val M2))) _ w G (fB.put (by simp[VT]) o.dst) hf hp⟩
theorem aky(hX:X.Ok){R:J Nat}(rV:Region.noSelect all=hJ)(Cb:∀q,q∈R->q<Gs.i.length){k:TS E->O R'}{r:R'}:
  ∀(t:FT)(n f:Nat)(L:aK Bool){st:TS E},t.n<=n->Tj X R all t f L st k=iN r->mR ws Gs R [] X.P all f n L st (λst'=>k st'=iN r/\Fr (eZ all all.toList) (cJ all.toList) st st'):=by
 have hW:∀l,∀j,j∈eZ all (rj all l)->j∈eZ all all.toList:=λl=>Um (λo ho=>M0 ho);have hN:∀l,cJ all.toList=hJ->cJ (rj all l)=hJ:=λl=>Wl (λo ho=>M0 ho);intro t
 induction t with
 | done=>grind[Tj,dX,mR.done,Fr.refl]|step i q t ih=>intro n f L st hn h;simp[FT.n]at hn;obtain⟨m,rfl⟩:∃m,n=[(i,q)].length+m:=⟨n-1,aR⟩;refine xI hX rV Cb [(i,q)] f L h λf' st' hk hf=>?_;exact mR.mono (λs' hh=>⟨hh.1,hf.trans hh.2 (hW _) (λj hj=>hj) (λhn=>⟨hN _ hn,hn⟩)⟩) (ih m f' _ (by simp at hn;omega) hk)
 | fork i t j u iht ihu=>
  intro n f L st hn h;simp[FT.n]at hn;obtain⟨h1,h2⟩:=dX h;obtain⟨ha,hb⟩:=va h2;obtain⟨m,rfl⟩:∃m,n=m+1:=⟨n-1,om⟩;have hmt:=lG (ag4 t.n u.n) (ag5 hn);have hmu:=lG (abg t.n u.n) (ag5 hn);intro a w G hr hf hp;refine⟨λhe=>(by rw[he]at h1;cases h1),λq hq=>?_⟩;have Vc:q=i\/q=j:=by simp_all
  rcases Vc with rfl|rfl
  ·exact zN hX ha (λf' st' hk hf=>mR.mono (λs' hh=>⟨hh.1,hf.trans hh.2 (hW _) (λj hj=>hj) (λhn=>⟨hN _ hn,hn⟩)⟩) (iht m f' _ hmt hk)) hr hf hp
  ·exact zN hX hb (λf' st' hk hf=>mR.mono (λs' hh=>⟨hh.1,hf.trans hh.2 (hW _) (λj hj=>hj) (λhn=>⟨hN _ hn,hn⟩)⟩) (ihu m f' _ hmu hk)) hr hf hp
 | aiw i t j u l v iht ihu ihv=>
  intro n f L st hn h;simp[FT.n]at hn;obtain⟨h1,h2⟩:=dX h;obtain⟨hab,hc⟩:=va h2;obtain⟨ha,hb⟩:=va hab;obtain⟨m,rfl⟩:∃m,n=m+1:=⟨n-1,om⟩;have hm:=ag5 hn;have hmt:=lG (ag4 t.n _) hm;have hmu:=lG (lG (ag4 u.n v.n) (abg t.n _)) hm;have hmv:=lG (lG (abg u.n v.n) (abg t.n _)) hm;intro a w G hr hf hp;refine⟨λhe=>(by rw[he]at h1;cases h1),λq hq=>?_⟩;have Vc:q=i\/q=j\/q=l:=by simp_all
  rcases Vc with rfl|rfl|rfl
  ·exact zN hX ha (λf' st' hk hf=>mR.mono (λs' hh=>⟨hh.1,hf.trans hh.2 (hW _) (λj hj=>hj) (λhn=>⟨hN _ hn,hn⟩)⟩) (iht m f' _ hmt hk)) hr hf hp
  ·exact zN hX hb (λf' st' hk hf=>mR.mono (λs' hh=>⟨hh.1,hf.trans hh.2 (hW _) (λj hj=>hj) (λhn=>⟨hN _ hn,hn⟩)⟩) (ihu m f' _ hmu hk)) hr hf hp
  ·exact zN hX hc (λf' st' hk hf=>mR.mono (λs' hh=>⟨hh.1,hf.trans hh.2 (hW _) (λj hj=>hj) (λhn=>⟨hN _ hn,hn⟩)⟩) (ihv m f' _ hmv hk)) hr hf hp
noncomputable def M3{R':Type}(X:Cx E)(R:J Nat)(ops:aK H3)(c:Cut)(t:FT)(st:TS E)(k:TS E->O R'):O R':=
 rq (((Region.noSelect ops&&iO t.n ops.size)&&R.all (λq=>dE q st.H.length))&&(c.okW (eZ ops ops.toList)&&cJ ops.toList))
  ((Tj X R ops t 0 (lA ops.size eQ) {st with d:=[]} (λst'=>c.pack {st with d:=[]} st')).bind λx=>
    k {c.un (eZ ops ops.toList) {st with d:=[]} x with d:=(c.un (eZ ops ops.toList) {st with d:=[]} x).d++st.d})
theorem afn(hX:X.Ok){R:J Nat}{t:FT}{k:TS E->O R'}{r:R'}(h:M3 X R ops c t st k=iN r):
  Jv E X.P (.region id ops hJ) st (λx st'=>x=.normal/\k st'=iN r/\Fr (eZ ops ops.toList) (cJ ops.toList) st st'):=by
 intro w0 G0 a w G hr;have hs:fG w {w with drawn:=w.drawn+1}:=⟨eo _,λ_ _=>rfl⟩;have hr':=hr.grow hs rfl rfl rfl G.pr (λ_ _ h=>h) (λ_ _ _ h=>h) (λb o hp=>kD (hr.boxes.gN b o hp).1 hs.1);obtain⟨h1,h2⟩:=dX h;simp only[cK]at h1;obtain⟨⟨⟨rV,hn⟩,hR⟩,hcW,hnd⟩:=h1;have hn:=lY hn;have Cb:∀q,q∈R->q<G.i.length:=λq hq=>by have:=DH.1 (pP.1 hR q hq);rw[hr.boxes.len];exact this
 have hroot:=hr'.root;cases hg:Tj X R ops t 0 (lA ops.size eQ) {st with d:=[]} (λst'=>c.pack {st with d:=[]} st')with
 | none=>rw[hg]at h2;cases h2
 | some x=>
 rw[hg]at h2;have h3:=aky hX rV Cb t ops.size 0 _ hn hg a _ G hroot (λ_=>⟨rfl,rfl⟩) (λ_=>⟨λ_ _ _ _=>rfl,λ_ _ _ _ h=>h⟩);refine wp_region_any hX.mix ?_;have h4:=MZ _ _ _ _ h3;have key:∀(fuel:Nat)(listed:aK Bool)(a:Act)(w:U){Q1 Q2:Exit->Act->U->Prop},(∀e a w,Q1 e a w->Q2 e a w)->wpAny X.P .any ops Q1 fuel listed a w->wpAny X.P .any ops Q2 fuel listed a w:=by
  intro fuel
  induction fuel with
  | zero=>intro listed a w Q1 Q2 hq h;exact⟨h.1,hq _ _ _ h.2⟩|succ fuel ih=>
   intro listed a w Q1 Q2 hq h;refine⟨λhe=>hq _ _ _ (h.1 he),λi hi=>?_⟩;have h1:=h.2 i hi;unfold wpOp at h1⊢;split
   ·grind
   ·rename_i o ho;rw[ho]at h1;simp only at h1;split
    ·rename_i hw;rw[if_pos hw]at h1;rcases h1 with h1|⟨h1,a1,w1,h2⟩
     ·grind[qH]
     ·exact .inr ⟨h1,a1,w1,hq _ _ _ h2⟩
    grind
 refine key _ _ _ _ (λe a' w' hp=>?_) h4;obtain⟨x',s,G',he,hrr,rfl,hk,hF⟩:=hp;obtain⟨⟨G2,hR2⟩,qT⟩:=AF hX.E hroot.pre hrr (hF.wide (λ_ h=>h) (λ_=>hnd)) hcW hk;refine⟨.normal,_,G2,by cases e<;>first|exact he.elim|trivial,hr'.P7 hR2,rfl,h2,?_⟩;exact(qT.wide (λ_ h=>h) (λ_=>rfl)).P7
def we(st:TS E)(dst:O Nat)(d:TV E):TS E:={st with t:=cG st.t dst d}
structure Cc where
 m1:H3
 cv:H3
 as:H3
 m2:H3
 cl:H3
 q1:H3
 q3:H3
 q4:H3
 x1:Operand
 sT:TypeId
 bT:TypeId
 f:H5
 call:Call
 x5:Operand
 rest:List H3
def Un(A B C:J H3):O Cc:=match A,B,C with
 | [m1,cv,as],[m2,cl],q1::q3::q4::rest=>match m1.op,cv.op,cl.op with
  | .move x1,.convert sT bT _,.call c=>match c.callee,q1.op with
   | .value (.func f),.move x5=>iN ⟨m1,cv,as,m2,cl,q1,q3,q4,x1,sT,bT,f,c,x5,rest⟩|_,_=>iF
  | _,_,_=>iF
 | _,_,_=>iF
def R9(x:dH)(d:O Nat)(n:Nat):Bool:=match x,d with|.tmp i,iN j=>eI i j&&dE i n|_,_=>eQ
variable{d:O Nat}{x:dH}
theorem DI{n:Nat}(h:R9 x d n=hJ):∃i,x=.tmp i/\d=iN i/\i<n:=by unfold R9 at h;grind[Nat.eq_of_beq_eq_true,DH]
def P9(d e:O Nat):Bool:=match d,e with|some i,iN j=>!(eI i j)|_,_=>hJ
def opAs(o:H3)(d:O Nat)(n:Nat):Bool:=match o.op with|.assign x=>R9 x d n|_=>eQ
def aix(o:H3)(d:O Nat)(n:Nat):Bool:=match o.op with|.move x=>R9 x d n|_=>eQ
def aiy(o:H3)(s t:aL)(d:O Nat)(n:Nat):Bool:=match o.op with|.convert s' t' x=>eI s' s&&(eI t' t&&R9 x d n)|_=>eQ
def NZ(o:H3):Bool:=match o.guard with|none=>hJ|some _=>eQ
def Cc.tys(P:bx)(s:Cc):Bool:=match aY P s.sT,aY P s.bT with
 | some ⟨.string,_,_,_⟩,iN ⟨.slice e,_,_,_⟩=>match aY P e with
  | some ⟨.int .u8,_,_,_⟩=>hJ|_=>eQ
 | _,_=>eQ
def Cc.ok(X:Cx E)(n:Nat)(s:Cc):Bool:=
 ((NZ s.m1&&(NZ s.cv&&(NZ s.as&&(NZ s.m2&&NZ s.cl))))&&(NZ s.q1&&(NZ s.q3&&NZ s.q4))) &&
 ((aiy s.cv s.sT s.bT s.m1.dst n&&(opAs s.as s.cv.dst n&&aix s.m2 s.as.dst n))&&(aix s.q3 s.as.dst n&&aiy s.q4 s.bT s.sT s.q3.dst n)) &&
 ((match s.call.args.toList with | [x]=>R9 x s.m2.dst n|_=>eQ)&&(P9 s.as.dst s.m2.dst&&(P9 s.as.dst s.cl.dst&&P9 s.as.dst s.q1.dst))) &&
 (s.tys X.P&&(match X.rv with|some g=>eI g s.f|none=>eQ))
def Cc.s5(s:Cc)(st:TS E)(l:J UInt8):TS E:=we (we (we (we (we st s.m1.dst (.dat .str l)) s.cv.dst .any) s.as.dst .any) s.m2.dst .any) s.cl.dst .any
def Cc.s6(s:Cc)(st:TS E)(l:J UInt8):TS E:=we (s.s5 st l) s.q1.dst ((s.s5 st l).ev s.x5)
def Cc.s9(s:Cc)(st:TS E)(l:J UInt8):TS E:=we (we (s.s6 st l) s.q3.dst .any) s.q4.dst (.dat .str l.reverse)
noncomputable def amV{R:Type}(X:Cx E)(A B C:aK H3)(st:TS E)(k:Ex E->TS E->O R):O R:=match Un A.toList B.toList C.toList with
 | none=>iF|some s=>match st.ev s.x1 with
  | .dat .str l=>cond (s.ok X st.t.length&&(cJ A.toList&&(cJ B.toList&&cJ C.toList))) (rq (eK (Ts l<=9223372036854775807)) (vb X C s.rest (s.s9 st l) k)) iF|_=>iF
variable{rest:J H3}
theorem vc(hg:NZ o=hJ)(h:(R0 a.eval o).run P w=.ok (.value v) w')(hk:H2 P ops Q rest (a.put o.dst v) w'):H2 P ops Q (o::rest) a w:=by
 unfold H2;have:o.guard=iF:=by grind[NZ]
 rw[if_pos (by simp[pC,this])];refine .inl ?_;unfold Oper.wp;rw[h];exact hk
theorem afo{f:H5}{args:aK T1}(hg:NZ o=hJ)(h:(R0 a.eval o).run P w=.ok (.enter f args) w)(hk:Calls P f args w λe w'=>∃v,e=.returned v/\H2 P ops Q rest (a.put o.dst v) w'):H2 P ops Q (o::rest) a w:=by
 unfold H2;have:o.guard=iF:=by grind[NZ]
 rw[if_pos (by simp[pC,this])];refine .inl ?_;unfold Oper.wp;rw[h];refine HC hk λe w'' he=>?_;grind
theorem Wm(ho:o.op=.move x):(R0 a.eval o).run P w=.ok (.value (a.eval x)) w:=by simp[R0,ho]
theorem ar0(ho:o.op=.assign x):(R0 a.eval o).run P w=.ok (.value (a.eval x)) w:=by simp[R0,ho]
theorem eval_put(hd:d=iN i)(hi:i<a.tmps.size):(a.put d v).eval (.tmp i)=v:=by have:=Dy a d v i;rw[if_pos ⟨hd,hi⟩]at this;exact this
theorem Wn(hd:d≠iN i):(a.put d v).eval (.tmp i)=a.eval (.tmp i):=by have:=Dy a d v i;rw[if_neg (λh=>hd h.1)]at this;exact this
theorem Qa{e:O Nat}(h:P9 (iN i) e=hJ):e≠iN i:=by intro he;simp_all[P9]
theorem Tk(w:U)(e:aL)(l:J UInt8):Sort.Holds (Value.int .u8) (Lib.bytesWorld w e ⟨⟨l⟩⟩) w.heap.size 0 (cY l).toArray:=by
 intro j hj;have hj':j<Ts l:=by simpa[cY]using hj
 have e1:(cY l).toArray[j]! = ((l.getD j 0).toNat:Int):=by simp_all[cY]
 rw[rX,e1];refine⟨Lib.bytesWorld_cell w e ⟨⟨l⟩⟩ j hj',?_⟩;unfold World.frozen?;have hsz:j<(Lib.bytesCells w e ⟨⟨l⟩⟩).size:=by unfold Lib.bytesCells;grind
 grind[Lib.bytesWorld_at_new]
variable{B A C:J H3}{s:Cc}
theorem aiz(hX:X.Ok)(hs:Un A B C=iN s){l:J UInt8}(hx:st.ev s.x1=.dat .str l)(hok:s.ok X st.t.length=hJ)(hl:Ts l<=9223372036854775807)
     (hr:Rel E w0 G0 st a w G) :
  ∃a3 w1,(∀ops Q,Q .normal a3 w1->H2 X.P ops Q A a w)/\∃W2:Act->U->Prop,(∀ops Q,(∀a5 w2,W2 a5 w2->Q .normal a5 w2)->H2 X.P ops Q B a3 w1) /\
   ∀a5 w2,W2 a5 w2->∃a9,(∃G',Rel E w0 G0 (s.s9 st l) a9 w2 G')/\∀ops Q,H2 X.P ops Q s.rest a9 w2->H2 X.P ops Q C a5 w2:=by
 have hsz:=hr.size;unfold Un at hs;split at hs<;>try trivial
 rename_i m1 cv as m2 cl q1 q3 q4 rest;split at hs<;>try trivial
 rename_i x1 sT bT xc c Y7 HZ hcl;split at hs<;>try trivial
 rename_i f x5 amW hq1;cases hs;simp only[Cc.ok,cK]at hok;obtain⟨⟨⟨⟨⟨g1,g2,g3,g4,g5⟩,g6,g8,g9⟩,⟨k1,k2,k3⟩,k4,k5⟩,k6,n1,n2,n3⟩,hty,hrv⟩:=hok;dsimp only at hx;unfold aiy at k1;rw[HZ]at k1;simp only[cK]at k1;obtain⟨y1,rfl,d1,l1⟩:=DI k1.2.2;unfold opAs at k2;split at k2<;>try trivial
 rename_i xa has;obtain⟨y2,rfl,d2,l2⟩:=DI k2;unfold aix at k3;split at k3<;>try trivial
 rename_i xm hm2;obtain⟨y3,rfl,d3,l3⟩:=DI k3;unfold aix at k4;split at k4<;>try trivial
 rename_i xq hq3;obtain⟨y3',rfl,d3',l3'⟩:=DI k4;have:y3'=y3:=by simp_all
 subst this;unfold aiy at k5;split at k5<;>try trivial
 rename_i bT' sT' xz hq4;simp only[cK]at k5;have e1:=eY k5.1;have e2:=eY k5.2.1;subst e1 e2;obtain⟨y8,rfl,d8,l8⟩:=DI k5.2.2;split at k6<;>try trivial
 rename_i xk hargs;obtain⟨y4,rfl,d4,l4⟩:=DI k6;rw[d3]at n1 n2 n3;have n1:=Qa n1;have n2:=Qa n2;have n3:=Qa n3;unfold Cc.tys at hty;split at hty<;>try trivial
 rename_i i1 i2 z1 e i3 i4 z2 hts htb;split at hty<;>try trivial
 rename_i i5 i6 z3 hte;obtain⟨_,_,Te,-⟩:=aQ hts;obtain⟨_,_,hub,-⟩:=aQ htb;obtain⟨_,_,BV,-⟩:=aQ hte;split at hrv<;>try trivial
 rename_i g hg;have hf:=eY hrv;subst hf;have hR:=hX.rv g hg;have wk:=hr.ev x1;rw[hx]at wk;have avj:=wk.iS;obtain⟨V,hV⟩:∃V:T1,V=.slice (iN ⟨w.heap.size,0,iF⟩) l.length (grownCap w l.length 0 e):=⟨_,rfl⟩;obtain⟨w1,hw1⟩:∃w1,w1=Lib.bytesWorld w e ⟨⟨l⟩⟩:=⟨_,rfl⟩;have r1:=hr.put (v:=a.eval x1) (d:=.dat .str l) (by simp_all) m1.dst;have r2:=r1.put (v:=V) (d:=.any) (by simp only[VT]) cv.dst;have r3:=r2.put (v:=V) (d:=.any) (by simp only[VT]) as.dst;have r4:=r3.put (v:=V) (d:=.any) (by simp only[VT]) m2.dst;have r5:=r4.put (v:=.tuple #[]) (d:=.any) (by simp only[VT]) cl.dst;have sz:∀(b:Act)(d:O Nat)(v:T1),(b.put d v).tmps.size=b.tmps.size:=MG;refine⟨((a.put m1.dst (a.eval x1)).put cv.dst V).put as.dst V,w1,λops Q hQ=>?_,λa5 w2=>a5=((((a.put m1.dst (a.eval x1)).put cv.dst V).put as.dst V).put m2.dst V).put cl.dst (.tuple #[])/\∃n,w2=Sort.putRow (Value.int .u8) (Sort.ahead w1 n) w.heap.size 0 (cY l).reverse.toArray,λops Q hQ=>?_,?_⟩
 ·refine vc g1 (Wm Y7) (vc (v:=V) (w':=w1) g2 ?_ (vc (v:=V) (w':=w1) g3 ?_ hQ))
  ·have hrun:(convert sT' bT' ((a.put m1.dst (a.eval x1)).eval (.tmp y1))).run X.P w=.ok V w1:=by rw[eval_put d1 (by rw[hsz];exact l1),avj,hV,hw1];exact Lib.run_convert_string_bytes w sT' bT' e ⟨⟨l⟩⟩ Te hub BV
   simp only[R0,HZ,jJ,hrun,kn,qj]
  simp_all[ar0,eval_put]
 ·refine vc (v:=V) (w':=w1) g4 ?_ (afo (f:=g) (args:=#[V]) g5 ?_ ?_)
  ·simp_all[Wm,eval_put]
  ·have NV:=r4.ev (.func g);obtain⟨vs,hfe,hvs⟩:=NV;have hvs:vs.toList=[]:=by simp_all[bO]
   have hvs:vs=#[]:=by simp_all
   subst hvs;have ha:c.args=#[.tmp y4]:=by grind
   have avk:((((a.put m1.dst (a.eval x1)).put cv.dst V).put as.dst V).put m2.dst V).eval (.tmp y4)=V:=eval_put d4 (by simp_all);have:(R0 ((((a.put m1.dst (a.eval x1)).put cv.dst V).put as.dst V).put m2.dst V).eval cl).run X.P w1=(H4 g #[V]).run X.P w1:=by simp only[R0,hcl,resolve,amW,hfe,Deferred.ofValue,jJ,qj,kn,invoke,ha];simp[avk]
   rw[this,hR.enters]
  ·have hlen:(cY l).length=Ts l:=by simp[cY]
   have hH:Sort.Holds (Value.int .u8) w1 w.heap.size 0 (cY l).toArray:=by simp_all[Tk]
   have hc:=hR.call w.heap.size (grownCap w l.length 0 e) (cY l) w1 hH (by rw[hlen];exact hl);rw[hlen,<-hV]at hc;refine hc.mono λe' w' he=>?_;obtain⟨rfl,n,hn⟩:=he;exact⟨_,rfl,hQ _ _ ⟨rfl,n,hn⟩⟩
 ·rintro a5 w2 ⟨rfl,n,xu⟩;have e3:(((a.put m1.dst (a.eval x1)).put cv.dst V).put as.dst V).eval (.tmp y3')=V:=eval_put d3 (by simp_all);have e5:(((((a.put m1.dst (a.eval x1)).put cv.dst V).put as.dst V).put m2.dst V).put cl.dst (.tuple #[])).eval (.tmp y3')=V:=by simp_all[Wn]
  have s5:(((((a.put m1.dst (a.eval x1)).put cv.dst V).put as.dst V).put m2.dst V).put cl.dst (.tuple #[])).tmps.size=a.tmps.size:=by rw[sz,sz,sz,sz,sz]
  generalize(((((a.put m1.dst (a.eval x1)).put cv.dst V).put as.dst V).put m2.dst V).put cl.dst (.tuple #[]))=a5 at r5 e5 s5⊢;have r6:=r5.put (r5.ev x5) q1.dst;have r8:=r6.put (v:=V) (d:=.any) (by simp only[VT]) q3.dst;have r9:=r8.put (v:=mkStr l.reverse) (d:=.dat .str l.reverse) (.str _ _ _) q4.dst;have e7:(a5.put q1.dst (a5.eval x5)).eval (.tmp y3')=V:=by simp_all[Wn]
  have hold:∀j,j<w.heap.size->w2.heap[j]? = w.heap[j]?:=λj hj=>by
   rw[xu];have h1:(Sort.putRow (Value.int .u8) (Sort.ahead w1 n) w.heap.size 0 (cY l).reverse.toArray).heap[j]? = w1.heap[j]?:=by simp only[Sort.putRow,Sort.mapBlock,Sort.ahead,Array.getElem?_modify];rw[if_neg om]
   simp_all[Lib.bytesWorld_at_old]
  have hsize:w.heap.size<=w2.heap.size:=by grind
  refine⟨_,⟨_,r9.grow (w':=w2) ⟨hsize,hold⟩ (by rw[xu,hw1];rfl) (by rw[xu,hw1];rfl) (by rw[xu,hw1];rfl) G.pr (λ_ _ h=>h) (λ_ _ _ h=>h) (λb o hp=>kD (r9.boxes.gN b o hp).1 hsize)⟩,λops Q hQ=>?_⟩;refine vc g6 (Wm hq1) (vc (v:=V) (w':=w2) g8 ?_ (vc (v:=mkStr l.reverse) (w':=w2) g9 ?_ hQ))
  ·rw[Wm hq3,e7]
  ·have e8:((a5.put q1.dst (a5.eval x5)).put q3.dst V).eval (.tmp y8)=V:=eval_put d8 (by simp_all)
   have hH:=Sort.holds_putRow (Value.int .u8) (Sort.ahead w1 n) w.heap.size 0 (cY l).toArray (cY l).reverse.toArray (by
    have:=Tk w e l;rw[<-hw1]at this;intro j hj;exact this j hj) si
   rw[<-xu]at hH;have hlen:(cY l).reverse.length=Ts l:=by simp[cY]
   have hcell:∀(j:Nat) m,(cY l).reverse[j]? = iN m->w2.cell? ((⟨w.heap.size,0,iF⟩:Addr).add j)=iN (.int .u8 m):=λj m hj=>by have hjl:j<(cY l).reverse.length:=(fC.1 hj).1;have:=(hH j (by simpa using hjl)).1;simp_all[add_lit,cY,fC]
   have hb:=HX (P:=X.P) (w:=w2) ⟨w.heap.size,0,iF⟩ (grownCap w l.length 0 e) (cY l).reverse hcell;rw[hlen,<-hV]at hb;have S2:cx (cY l).reverse=l.reverse:=by simp_all[cx,cY,List.map_reverse,Av,Rq,ag6]
   rw[S2]at hb;have hrun:(convert bT' sT' V).run X.P w2=.ok (mkStr l.reverse) w2:=by rw[hV]at hb⊢;unfold convert;simp only[jJ,aW Te,aW hub,kn,aW BV,hb]
   simp only[R0,hq4,e8,jJ,hrun,kn,qj]
variable{dst:O Nat}
theorem Fr.we{s1:TS E}(h:Fr W hJ st s1)(d:TV E)(hd:∀i,i∈jd dst->i∈W):Fr W hJ st (we s1 dst d):=h.trans (Fr.put s1 dst d) (λ_ h=>h) hd (λ_=>⟨rfl,rfl⟩)
theorem ar1(hs:Un A B C=iN s)(st:TS E)(l:J UInt8)(hW:∀o,o∈A++B++C->∀i,i∈jd o.dst->i∈W):Fr W hJ st (s.s9 st l):=by
 unfold Un at hs;split at hs<;>try trivial
 split at hs<;>try trivial
 split at hs<;>try trivial
 cases hs;refine Fr.we (Fr.we (Fr.we (Fr.we (Fr.we (Fr.we (Fr.we (Fr.we (Fr.refl _ _ _) _ ?_) _ ?_) _ ?_) _ ?_) _ ?_) _ ?_) _ ?_) _ ?_
 all_goals simp_all
theorem amX(hs:Un A B C=iN s):∃l,C=l++s.rest:=by
 unfold Un at hs;split at hs<;>try trivial
 rename_i m1 cv as m2 cl q1 q3 q4 rest;split at hs<;>try trivial
 split at hs<;>try trivial
 cases hs;exact⟨[q1,q3,q4],rfl⟩
def jj{σ R:Type}(x:O (σ ⊕ R))(k:σ->O R):O R:=x.bind (sm k iN)
def bX{σ R:Type}(body:(σ->O R)->σ->O R):Nat->σ->O R|0,_=>iF|n+1,s=>body (bX body n) s
inductive Own where
 | slot (i:Nat) (e:TypeId) (t:Ty)
 | cell (r c:Nat) (e:TypeId) (t:Ty)
 | soft (i:Nat) (e:TypeId) (t:Ty)
 | Wo (r c:Nat) (e:TypeId) (t:Ty)
def uc(W:J Nat):J Own->TS E->O (TS E)
 | [],st=>iN st|.slot i e T::os,st=>match st.t[i]? with
  | some (.val (.slice iF 0 0))=>cond (W.elem i) (uc W os {st with t:=st.t.set i (.cH st.g.length 0 T []),g:=st.g++[⟨0,e,T.size E⟩]}) iF
  | _=>iF
 | .cell r c e T::os,st=>match st.H[r]? with
  | some (.cells t cs)=>match cs[c]? with
   | some (.val (.slice iF 0 0))=>uc W os {st with H:=st.H.set r (.cells t (cs.set c (.cH st.g.length 0 T []))),g:=st.g++[⟨0,e,T.size E⟩],d:=r::st.d}
   | _=>iF
  | _=>iF
 | .soft i e T::os,st=>match st.t[i]? with
  | some (.val (.slice iF 0 0))=>cond (W.elem i&&dE 0 (T.size E)) (uc W os {st with t:=st.t.set i (.eF st.g.length 0),g:=st.g++[⟨0,e,T.size E⟩],c:=(Ts st.g,⟨T,[]⟩)::st.c}) iF
  | _=>iF
 | .Wo r c e T::os,st=>match st.H[r]? with
  | some (.cells t cs)=>match cs[c]? with
   | some (.val (.slice iF 0 0))=>cond (dE 0 (T.size E)) (uc W os {st with H:=st.H.set r (.cells t (cs.set c (.eF st.g.length 0))),g:=st.g++[⟨0,e,T.size E⟩],d:=r::st.d,c:=(Ts st.g,⟨T,[]⟩)::st.c}) iF
   | _=>iF
  | _=>iF
def adg{R:Type}(X:Cx E)(st:TS E)(o:H3)(k:TS E->O R):O R:=
 match o.guard,o.op with
 | none,.call c=>match c.callee with
  | .value x=>match st.ev x with
   | .vz r=>match st.H[r]? with
    | some (.loop y ds)=>match E.ydn y with
     | some n=>cond (eI c.args.size n) (sP st o.dst y (c.args.toList.map st.ev++ds) (jX k λ_ _=>iF) X.Y) iF|none=>iF
    | _=>iF
   | _=>iF
  | _=>iF
 | _,_=>iF
noncomputable def amY{R:Type}(X:Cx E)(ops:aK H3)(i:Nat)(st:TS E)(k:Ex E->TS E->O R):O R:=match ops.toList.drop i with|o::rest=>rq (cJ (ops.toList.take i)&&cJ rest) (vb X ops (ops.toList.take i) st (jX (λkg=>adg X kg o λJq=>vb X ops rest Jq k) k))|[]=>iF
inductive fu where
 | leaf
 | yat (i:Nat)
 | region (l:List (Nat×Cut×Bool))
 | draw (l:List ada)
 | fM (R Z:List Nat) (l:List zq)
 | M3 (R:List Nat) (c:Cut) (t:FT)
 | rev
 | seq (ow:List Own) (c:Option (Cut×Bool)) (p q:fu)
 | cond (p q:fu)
 | loop (ow:List Own) (c:Cut) (p:fu)
 | KK (ow:List Own) (p q:fu)
 | adh (p:fu)
 | range (ow:List Own) (y f:H5) (keep:List Nat)
def fu.l:fu->fu|.cond p _=>p|_=>.leaf
def fu.r:fu->fu|.cond _ q=>q|_=>.leaf
def wr:Code->J Nat|.region _ ops _=>eZ ops ops.toList|.seq a b=>wr a++wr b|.cond _ a b=>wr a++wr b|.block _ a=>wr a|.scope a=>wr a|.loop a=>wr a|_=>[]
def jN:Code->Bool|.region _ ops _=>cJ ops.toList|.seq a b=>jN a&&jN b|.cond _ a b=>jN a&&jN b|.block _ a=>jN a|.scope a=>jN a|.loop a=>jN a|_=>hJ
def ZJ{σ R:Type}(x:O σ):O (σ ⊕ R):=x.bind λs=>iN (.inl s)
def Aw{σ R:Type}(x:O R):O (σ ⊕ R):=x.bind λr=>iN (.inr r)
noncomputable def aiA{R:Type}(X:Cx E)(all:aK H3):J (Nat×Cut×Bool)->J H3->TS E->(Ex E->TS E->O R)->O R
 | [],l,st,k=>vb X all l st k|s::cs,l,st,k=>rq (s.2.1.okW (eZ all (l.take s.1))&&cJ (l.take s.1)) (cond s.2.2
   (jj (vb X all (l.take s.1) st (jX (λst'=>ZJ (s.2.1.pack st st')) λe st'=>Aw (k e st'))) λx=>aiA X all cs (l.drop s.1) (s.2.1.un (eZ all (l.take s.1)) st x) k)
   ((vb X all (l.take s.1) st (jX (λst'=>s.2.1.pack st st') λ_ _=>iF)).bind λx=>aiA X all cs (l.drop s.1) (s.2.1.un (eZ all (l.take s.1)) st x) k))
abbrev Wp{R:Type}(i:Nat)(k:Ex E->TS E->O R):Ex E->TS E->O R|.exit j,st=>cond (eI j i) (k .normal st) (k (.exit j) st)|e,st=>k e st
abbrev ar2{R:Type}(k:Ex E->TS E->O R):Ex E->TS E->O R|.goto _,_=>iF|e,st=>k e st
noncomputable def runT(X:Cx E)(F:Nat):Code->fu->{R:Type}->TS E->(Ex E->TS E->Option R)->Option R
 | .skip,_,_,st,k=>k .normal st|.label _,_,_,st,k=>k .normal st|.exit i,_,_,st,k=>k (.exit i) st|.ret,_,_,st,k=>k .ret st|.region _ ops dr,p,_,st,k=>abv dr (match p with
   | .draw ss=>MY X ops.toList 0 ss st (k .normal)|.fM R Z ss=>fM X R Z ops ss st (k .normal)|.M3 R c t=>M3 X R ops c t st (k .normal)|_=>iF) (match p with
   | .region cs=>aiA X ops cs ops.toList st k|.yat i=>amY X ops i st k|_=>vb X ops ops.toList st k)
 | .seq a b,p,_,st,k=>match p with
  | .seq ow c p q=>match uc (wr a++wr b) ow st with
   | none=>iF|some st=>match c with
    | none=>runT X F a p st (jX (λst'=>runT X F b q st' k) k)|some (c,j)=>rq (c.okW (wr a)&&jN a) (_root_.cond j
     (jj (runT X F a p st (jX (λst'=>ZJ (c.pack st st')) λe st'=>Aw (k e st'))) λx=>runT X F b q (c.un (wr a) st x) k)
     ((runT X F a p st (jX (λst'=>c.pack st st') λ_ _=>iF)).bind λx=>runT X F b q (c.un (wr a) st x) k))
  | .rev=>match a,b with
   | .region _ A eQ,.seq (.region _ B eQ) (.seq (.region _ C eQ) .ret)=>amV X A B C st (jX (λst'=>k .ret st') k)|_,_=>iF
  | _=>runT X F a .leaf st (jX (λst'=>runT X F b .leaf st' k) k)
 | .cond c a b,p,_,st,k=>match st.ev c with
  | .dat .bool v=>_root_.cond v (runT X F a p.l st k) (runT X F b p.r st k)|_=>iF
 | .block i a,p,_,st,k=>runT X F a p st (Wp i k)|.scope a,p,_,st,k=>runT X F a p st (ar2 k)|.loop a,p,_,st,k=>match p with
  | .loop ow c p=>match uc (wr a) ow st with
   | none=>iF|some st=>rq (c.okW (wr a)&&jN a) ((c.pack st st).bind λs=>bX (λrc s=>runT X F a p (c.un (wr a) st s) (jX (λst'=>(c.pack st st').bind rc) k)) F s)
  | _=>iF
 | _,_,_,_,_=>iF
variable{ro:O Nat}{F:Fence}{σ:Type}
theorem Jv.mono{c:Code}{Q Q':Ex E->TS E->Prop}(h:Jv E P c st Q)(hq:∀x s,Q x s->Q' x s):Jv E P c st Q':=λw0 G0 a w G hr=>wp_mono (h w0 G0 a w G hr) λ_ _ _ hp=>cQ.mono hq hp
theorem o5{W:J Nat}{w0 w:U}{G0:bB}{a:Act}:∀ {os:J Own}{st st':TS E}{G:bB},uc W os st=iN st'->Rel E w0 G0 st a w G->(∃G',Rel E w0 G0 st' a w G')/\Fr W hJ st st'
 | [],st,st',G,h,hr=>by cases h;grind[Fr.refl]
 | .slot i e T::os,st,st',G,h,hr=>by
  simp only[uc]at h;split at h<;>try trivial
  rename_i hi;cases hw:W.elem i<;>rw[hw]at h<;>simp only[aU,aJ]at h
  ·cases h
  obtain⟨G1,fB⟩:=hr.atJ hi e T;obtain⟨h1,h2⟩:=o5 h fB
  have f1:Fr [i] hJ st {st with t:=st.t.set i (.cH st.g.length 0 T []),g:=st.g++[⟨0,e,T.size E⟩]}:=⟨si,λj hj=>by
   grind,⟨[],rfl,λ_ _ _=>rfl⟩,Nat.le_refl _,λ_=>rfl⟩
  exact⟨h1,f1.trans h2 (λj hj=>by simp_all) (λ_ h=>h) (λ_=>⟨rfl,rfl⟩)⟩
 | .cell r c e T::os,st,st',G,h,hr=>by
  simp[uc]at h;split at h<;>try trivial
  rename_i t cs hH;split at h<;>try trivial
  rename_i hc;obtain⟨G1,fB⟩:=hr.aki hH hc e T;obtain⟨h1,h2⟩:=o5 h fB;have f1:Fr [] hJ st {st with H:=st.H.set r (.cells t (cs.set c (.cH st.g.length 0 T []))),g:=st.g++[⟨0,e,T.size E⟩],d:=r::st.d}:=⟨rfl,λ_ _=>rfl,⟨[r],rfl,DF _ _ _⟩,si,λ_=>rfl⟩;exact⟨h1,f1.trans h2 (λj hj=>by cases hj) (λ_ h=>h) (λ_=>⟨rfl,rfl⟩)⟩
 | .soft i e T::os,st,st',G,h,hr=>by
  simp only[uc]at h;split at h<;>try trivial
  rename_i hi;cases hw:(W.elem i&&dE 0 (T.size E))<;>rw[hw]at h<;>simp only[aU,aJ]at h
  ·cases h
  rw[cK]at hw;obtain⟨G1,fB⟩:=hr.akt hi e T (lY hw.2);obtain⟨h1,h2⟩:=o5 h fB
  have f1:Fr [i] hJ st {st with t:=st.t.set i (.eF st.g.length 0),g:=st.g++[⟨0,e,T.size E⟩],c:=(Ts st.g,⟨T,[]⟩)::st.c}:=⟨si,λj hj=>by
   grind,⟨[],rfl,λ_ _ _=>rfl⟩,Nat.le_refl _,λ_=>rfl⟩
  exact⟨h1,f1.trans h2 (λj hj=>by simp_all) (λ_ h=>h) (λ_=>⟨rfl,rfl⟩)⟩
 | .Wo r c e T::os,st,st',G,h,hr=>by
  simp[uc]at h;split at h<;>try trivial
  rename_i t cs hH;split at h<;>try trivial
  rename_i hc;cases hw:dE 0 (T.size E)<;>rw[hw]at h<;>simp only[aU,aJ]at h
  ·cases h
  obtain⟨G1,fB⟩:=hr.ain hH hc e T (lY hw);obtain⟨h1,h2⟩:=o5 h fB;have f1:Fr [] hJ st {st with H:=st.H.set r (.cells t (cs.set c (.eF st.g.length 0))),g:=st.g++[⟨0,e,T.size E⟩],d:=r::st.d,c:=(Ts st.g,⟨T,[]⟩)::st.c}:=⟨rfl,λ_ _=>rfl,⟨[r],rfl,DF _ _ _⟩,si,λ_=>rfl⟩;exact⟨h1,f1.trans h2 (λj hj=>by cases hj) (λ_ h=>h) (λ_=>⟨rfl,rfl⟩)⟩
theorem FD{P:bx}{ops:aK H3}{Q:Exit->Act->U->Prop}:∀(l1 l2:J H3)(a:Act)(w:U),H2 P ops (Exit.then (H2 P ops Q l2) Q) l1 a w->H2 P ops Q (l1++l2) a w
 | [],l2,a,w,h=>h|o::l1,l2,a,w,h=>by
  rw[rY];unfold H2 at h⊢;split
  ·rename_i hw;rw[if_pos hw]at h;rcases h with h|⟨h,a1,w1,h2⟩
   ·exact .inl (Oper.ac5 (λa w h=>FD l1 l2 a w h) (λe a w hne hq=>by cases e<;>first|exact(hne rfl).elim|exact hq) h)
   ·exact .inr ⟨h,a1,w1,h2⟩
  simp_all[FD]
theorem tg{P:bx}{ops:aK H3}:∀(l:J H3)(a:Act)(w:U){Q1 Q2:Exit->Act->U->Prop},(∀e a w,Q1 e a w->Q2 e a w)->H2 P ops Q1 l a w->H2 P ops Q2 l a w
 | [],a,w,Q1,Q2,hq,h=>hq _ _ _ h|o::l,a,w,Q1,Q2,hq,h=>by
  unfold H2 at h⊢;split
  ·rename_i hw;rw[if_pos hw]at h;rcases h with h|⟨h,a1,w1,h2⟩
   ·exact .inl (qH (λa w h=>tg l a w hq h) hq h)
   ·exact .inr ⟨h,a1,w1,hq _ _ _ h2⟩
  ·rename_i hw;rw[if_neg hw]at h;exact tg l _ _ hq h
def FW(ro:O Nat):Fence:={Fence.wide with round:=ro}
def vD:Code->Bool|.region _ ops dr=>!dr&&cJ ops.toList|.seq a b=>vD a&&vD b|.cond _ a b=>vD a&&vD b|.block _ a=>vD a|.scope _=>eQ|.loop a=>vD a|.rangeFunc _ _ _ _=>eQ|_=>hJ
def Lw(P:bx)(c:Code)(st:TS E)(Q:Ex E->TS E->Prop):Prop:=∀ro,(ro.isSome=hJ->vD c=hJ)->∀w0 G0 a w G,Rel E w0 G0 st a w G->c.wpIn (FW ro) 0 P (cQ E w0 G0 Q) a w
theorem apO{a:Act}{w:World}(hd:ro.isSome=hJ->Gx o.op=eQ)(hQ:¬ LetsOut Q)(hn:∀a w,n1 a w->n2 a w)(h:o.wp P a w n1 Q):
  o.wpIn (FW ro) 0 P a w n2 Q:=by
 have avl:o.semAt ro a.eval=R0 a.eval o:=by
  cases ro with
  | none=>rfl|some l=>exact Oper.semAt_eq _ _ _ λc e=>by have:=hd rfl;rw[e]at this;cases this
 refine⟨λ_ _=>trivial,?_⟩;show o.uponIn (FW ro) 0 P a n2 Q ((o.semAt ro a.eval).run P w);rw[avl];unfold Oper.wp at h;generalize(R0 a.eval o).run P w=r at *;cases r with
 | ok n w'=>
  cases n<;>simp[Oper.upon]at h
  case value u=>exact hn _ _ h
  case skip=>exact hn _ _ h
  case defer d=>exact hn _ _ h
  case enter f args=>refine⟨(λh=>nomatch h),?_⟩;refine(callsIn_wide).2 (HC h λe w'' he=>?_);grind
  case row row args=>exact⟨(λh=>nomatch h),λc cs _=>by
   obtain⟨v,w2,r,s⟩:=h c cs
   exact⟨v,w2,hn _ _ r,stepsIn_wide.2 s⟩⟩
 | halt x w'=>
  cases x<;>simp[Oper.upon]at h
  case panic u=>exact h
theorem cQ.Wq{Q:Ex E->TS E->Prop}:¬ LetsOut (cQ E w0 G0 Q):=λ⟨_,_,x,_,_,h,_⟩=>by cases x<;>exact h
theorem Oper.Wr{n:Nat}{a:Act}{w:U}(h:∀a w,K a w->K' a w)(hq:∀e a w,e≠.normal->Q e a w->Q' e a w)
  (hh:o.wpIn F n P a w K Q):o.wpIn F n P a w K' Q':=by
 have hout:LetsOut Q->LetsOut Q':=λ⟨a,w,h⟩=>⟨a,w,hq _ _ _ si h⟩;refine⟨hh.1,?_⟩;have hh:=hh.2;generalize(o.semAt F.round a.eval).run P w=r at *;cases r with
 | ok m w'=>
  cases m<;>simp[Oper.uponIn]at hh⊢
  case value u=>exact h _ _ hh
  case skip=>exact h _ _ hh
  case defer d=>exact h _ _ hh
  case enter f args=>refine⟨hh.1,hh.2.1,λcs hroom=>?_⟩;obtain⟨e,w'',fr,he,hs⟩:=hh.2.2 cs hroom;grind
  case row row args=>exact⟨hh.1,RowsIn.mono hh.2 λu w'' he=>h _ _ he⟩
  case round l f tmps assign body=>refine⟨hh.1,RoundIn.mono hh.2 λe w'' he=>?_⟩;grind
 | halt x w'=>cases x<;>simp[Oper.uponIn]at hh⊢;simp_all
theorem yF{P:bx}{ro:O Nat}{ops:aK H3}{Q:Exit->Act->U->Prop}(hQ:¬ LetsOut Q):∀(l:J H3)(a:Act)(w:U),(ro.isSome=hJ->cJ l=hJ)->H2 P ops Q l a w->wpListIn (FW ro) 0 P ops Q l a w
 | [],_,_,_,h=>h|o::l,a,w,hd,h=>by
  have ZK:=λhr=>by have:=hd hr;simp[cJ]at this;exact this.1
  have ZL:=λhr=>by have:=hd hr;simp[cJ]at this;exact this.2
  unfold H2 at h;unfold wpListIn;split
  ·rename_i hw;rw[if_pos hw]at h;rcases h with h|⟨_,a1,w1,h2⟩
   ·exact apO ZK hQ (λa w h=>yF hQ l a w ZL h) h
   ·exact(hQ ⟨a1,w1,h2⟩).elim
  ·rename_i hw;rw[if_neg hw]at h;exact⟨λ_ _=>trivial,yF hQ l _ w ZL h⟩
theorem FE{F:Fence}{n:Nat}{P:bx}{ops:aK H3}{Q:Exit->Act->U->Prop}:∀(l1 l2:J H3)(a:Act)(w:U),wpListIn F n P ops (Exit.then (wpListIn F n P ops Q l2) Q) l1 a w->wpListIn F n P ops Q (l1++l2) a w
 | [],l2,a,w,h=>h|o::l1,l2,a,w,h=>by
  rw[rY];unfold wpListIn at h⊢;split
  ·rename_i hw;rw[if_pos hw]at h;exact Oper.Wr (λa w h=>FE l1 l2 a w h) (λe a w hne hq=>by cases e<;>first|exact(hne rfl).elim|exact hq) h
  simp_all[FE]
theorem adi(hX:X.Ok){k:TS E->Option R}{r:R}(h:adg X st o k=iN r):∀w0 G0 a w G,Rel E w0 G0 st a w G ->
  (o.guard=iF/\Gx o.op=eQ)/\o.wpIn (FW ro) 0 X.P a w (λa' w'=>∃st' G',Rel E w0 G0 st' a' w' G'/\k st'=iN r/\Fr (jd o.dst) hJ st st') Q:=by
 unfold adg at h;split at h<;>try trivial
 rename_i c hg ho;split at h<;>try trivial
 rename_i x hc;split at h<;>try trivial
 rename_i q hx;split at h<;>try trivial
 rename_i y ds hb;split at h<;>try trivial
 rename_i n hY;cases hsz:eI c.args.size n<;>rw[hsz]at h<;>simp only[aU,aJ]at h
 ·cases h
 have hsz:=eY hsz;intro w0 G0 a w G hr;refine⟨⟨hg,by rw[ho];rfl⟩,λ_ _=>trivial,?_⟩;have hv:=hr.ev x;rw[hx]at hv;obtain⟨b,P8,hat⟩:=hv;obtain⟨Y,fn,tmps,D,hY',hheap,hds⟩:=hr.box hat hb;have hsz:=hsz.trans (hX.E.ydn y Y n hY' hY).symm;have hargs:bO E w G (c.args.toList.map st.ev++ds) (c.args.map a.eval++tmps).toList:=by have:=(PM hr c.args.toList).append hds;simpa using this
 have hI:=EU hX.E (Ye.mono X.P) hX.Y h w0 G0 a w G (c.args.map a.eval++tmps) hr hargs;have hR:=hI Y fn b D (c.args.map a.eval) tmps hY' rfl (by simpa using hsz) hheap;rw[Oper.semAt_eq _ _ _ λc' e=>by rw[ho]at e;cases e];have hrun:(R0 a.eval o).run X.P w=.ok (.round b fn ((Y.params.zip (c.args.map a.eval)).foldl (λt (p,v)=>t.setIfInBounds p v) tmps) Y.assign Y.body) w:=by have hy:=run_yield (P:=X.P) (args:=c.args.map a.eval) hheap (by simpa using hsz);simp[R0,ho,resolve,hc,P8,Deferred.ofValue,invoke];simpa using hy
 rw[hrun];refine⟨(λh=>nomatch h),RoundIn.mono hR λe w' he=>?_⟩;grind
theorem M4{x:O σ}{j:σ ⊕ R}(h:ZJ x=iN j):∃s,x=iN s/\j=.inl s:=by
 unfold ZJ at h;cases x with
 | none=>cases h
 | some s=>simp_all
theorem Qb{x:O R}{j:σ ⊕ R}(h:Aw x=iN j):∃r,x=iN r/\j=.inr r:=by
 unfold Aw at h;cases x with
 | none=>cases h
 | some s=>simp_all
theorem apP{x:O (σ ⊕ R)}{k:σ->O R}{r:R}(h:jj x k=iN r):∃j,x=iN j/\(∀s,j=.inl s->k s=iN r)/\∀r',j=.inr r'->r'=r:=by
 cases x with
 | none=>cases h
 | some j=>
  refine⟨j,rfl,λs hs=>?_,λr' hr=>?_⟩
  ·subst hs;exact h
  ·subst hr;exact pO h
theorem ZM{j:Bool}{A:{R':Type}->(Ex E->TS E->O R')->O R'}{pk:TS E->O σ}{B:σ->O R}{r:R}
  (h:cond j (jj (A (jX (λst'=>ZJ (pk st')) λe st'=>Aw (k e st'))) B) ((A (jX pk λ_ _=>iF)).bind B)=iN r) {C:(Ex E->TS E->Prop)->Prop} (hA:∀ {R':Type}{k':Ex E->TS E->O R'}{r':R'},A k'=iN r'->C (λx s=>k' x s=iN r')) :
  ∃Q:Ex E->TS E->Prop,C Q/\(∀s,Q .normal s->∃x,pk s=iN x/\B x=iN r)/\∀x s,x≠.normal->Q x s->k x s=iN r:=by
 cases j<;>simp at h
 ·cases hx:A (jX pk λ_ _=>iF)with
  | none=>rw[hx]at h;cases h
  | some x=>grind
 ·obtain⟨jv,hx,h1,h2⟩:=apP h;refine⟨_,hA hx,λs hs=>?_,λe s hne hs=>?_⟩
  ·obtain⟨x,hp,rfl⟩:=M4 hs;simp_all
  ·have:Aw (k e s)=iN jv:=by grind
   obtain⟨r',hk,rfl⟩:=Qb this;rw[hk,h2 r' rfl]
theorem Ws{R:Type}(hX:X.Ok){all:aK H3}{k:Ex E->TS E->O R}{r:R}:∀(cs:J (Nat×Cut×Bool)){l:J H3}{st:TS E},aiA X all cs l st k=iN r ->
  ahR E X.P all l st (λx st'=>k x st'=iN r/\Fr (eZ all l) (cJ l) st st')
 | [],l,st,h=>sQ hX h|s::cs,l,st,h=>by
  obtain⟨hc,h⟩:=dX h;rw[cK]at hc;intro w0 G0 a w G hr;have hpre:=hr.pre;obtain⟨Q,hC,hN,hX'⟩:=ZM h (C:=λQ=>ahR E X.P all (l.take s.1) st (λx st'=>Q x st'/\Fr (eZ all (l.take s.1)) (cJ (l.take s.1)) st st')) (λh'=>sQ hX h');rw[<-Hz s.1 l];refine FD _ _ a w (tg _ a w (λe a' w' hp=>?_) (hC w0 G0 a w G hr));obtain⟨x,s',G',he,hr',hq,hf⟩:=hp;have aoM:∀i,i∈eZ all (l.take s.1)->i∈eZ all (l.take s.1++l.drop s.1):=λi hi=>by grind[List.take_append_drop,Hs]
  have atP:∀i,i∈eZ all (l.drop s.1)->i∈eZ all (l.take s.1++l.drop s.1):=λi hi=>by rw[Hz];exact Hs l s.1 l.length i (by simp_all[uK])
  have arS:cJ (l.take s.1++l.drop s.1)=hJ->cJ (l.drop s.1)=hJ:=λhn=>by rw[Hz]at hn;have:=Ca l s.1 l.length hn;simp_all[uK]
  cases x with
  | normal=>
   cases e<;>try (exact he.elim)
   obtain⟨y,hp,hB⟩:=hN s' hq;obtain⟨⟨G2,hR⟩,hF⟩:=AF hX.E hpre hr' (hf.wide (λ_ h=>h) (λ_=>hc.2)) hc.1 hp;exact tg _ _ _ (λe a w hp=>cQ.mono (λx s'' hh=>⟨hh.1,hF.trans hh.2 aoM atP (λhn=>⟨rfl,arS hn⟩)⟩) hp) (Ws hX cs hB w0 G0 a' w' G2 hR)
  | _=>have hk:=hX' _ s' (by intro h;cases h) hq;have sO:cQ E w0 G0 (λx st'=>k x st'=iN r/\Fr (eZ all (l.take s.1++l.drop s.1)) (cJ (l.take s.1++l.drop s.1)) st st') e a' w':=⟨_,s',G',he,hr',hk,hf.wide aoM (λ_=>hc.2)⟩;cases e<;>first|exact he.elim|exact sO
theorem Qc{ι:Type}{n:Nat}{c:Code}{a:Act}{w:U}(I:ι->Act->U->Prop)(μ:ι->Nat)(x0:ι)(h₀:I x0 a w)
  (round:∀x a w,I x a w->c.wpIn F n P (Exit.then (λa' w'=>∃y,I y a' w'/\μ y<μ x) Q) a w):(Code.loop c).wpIn F n P Q a w:=by
 intro b k cs hro hb hr;have key:∀j x a w,μ x=j->I x a w ->
   ∃e a' w',Q e a' w'/\ArrivesIn (Machine.fenced P F) P (lone (b.atR a (.code c :: .inLoop c::k)) cs w) b k cs e a' w':=by
  intro j
  induction j using Nat.strongRecOn with
  | _ j ih=>
   intro x a w hn hI;obtain⟨e,a₁,w₁,hq,Qd⟩:=round x a w hI b (.inLoop c::k) cs hro hb hr;cases e with
   | normal=>obtain⟨y,hI₁,hlt⟩:=hq;obtain⟨e₂,a₂,w₂,hq₂,atQ⟩:=ih (μ y) (hn▸hlt) y a₁ w₁ rfl hI₁;exact⟨e₂,a₂,w₂,hq₂,.of_steps (StepsIn.trans Qd (.one (fenced_calm hb hr rfl) stepR_inLoop)) atQ⟩
   | exit id=>exact⟨_,a₁,w₁,hq,.pass rfl (λ_ _=>.inl si) Qd⟩|goto l=>exact⟨_,a₁,w₁,hq,.pass rfl (λ_ _=>.inl si) Qd⟩|ret=>exact⟨_,a₁,w₁,hq,.pass rfl (λ_ _=>.inl si) Qd⟩|panic ch=>exact⟨_,a₁,w₁,hq,.pass rfl (λ_ _=>.inl si) Qd⟩|outgrown=>exact⟨_,a₁,w₁,hq,.pass rfl (λ_ _=>.inl si) Qd⟩
 obtain⟨e,a',w',hq,Qd⟩:=key _ x0 a w rfl h₀;exact⟨e,a',w',hq,.of_steps (.one (fenced_calm hb hr rfl) stepR_loop) Qd⟩
theorem Lw.of_wp{c:Code}{Q:Ex E->TS E->Prop}(hc:vD c=eQ)(h:Jv E P c st Q):Lw P c st Q:=λro hro w0 G0 a w G hr=>by cases ro with|some l=>simp_all|none=>exact(wpIn_wide).2 (h w0 G0 a w G hr)
theorem Lw.wp{c:Code}{Q:Ex E->TS E->Prop}(h:Lw P c st Q)(hr:Rel E w0 G0 st a w G):c.wp P (cQ E w0 G0 Q) a w:=(wpIn_wide).1 (h iF (λh=>nomatch h) w0 G0 a w G hr)
theorem akz{a b:Code}(hro:ro.isSome=hJ->vD a=hJ){ac:Act}{Q1 Q:Ex E->TS E->Prop}(hr:Rel E w0 G0 st ac w G)(h:Lw P a st Q1)(hN:∀s a' w' G',Q1 .normal s->Rel E w0 G0 s a' w' G'->b.wpIn (FW ro) 0 P (cQ E w0 G0 Q) a' w')
  (hX:∀x s,x≠.normal->Q1 x s->Q x s):(Code.seq a b).wpIn (FW ro) 0 P (cQ E w0 G0 Q) ac w:=by
 refine wpIn_seq (wpIn_mono (h ro hro w0 G0 ac w G hr) λe a' w' hp=>?_);obtain⟨x,s,G',he,hr',hq⟩:=hp;cases x with
 | normal=>
  cases e<;>try (exact he.elim)
  exact hN s a' w' G' hq hr'
 | _=>have sO:cQ E w0 G0 Q e a' w':=⟨_,s,G',he,hr',hX _ s (by intro h;cases h) hq⟩;cases e<;>first|exact he.elim|exact sO
theorem M5{all:aK H3}:∀l1 l2:J H3,eZ all (l1++l2)=eZ all l1++eZ all l2|[],l2=>rfl|o::l1,l2=>by simp_all[eZ,M5]
theorem aiB(hX:X.Ok)(id:Nat){r:R}(h:amY X ops i st k=iN r):Lw X.P (.region id ops eQ) st (λx st'=>k x st'=iN r/\Fr (wr (.region id ops eQ)) (jN (.region id ops eQ)) st st'):=by
 unfold amY at h;split at h<;>try trivial
 rename_i o rest hd;obtain⟨hnd,h⟩:=dX h;rw[cK]at hnd;intro ro hro w0 G0 a w G hr;refine wpIn_region_list ?_;have hl:ops.toList=ops.toList.take i++o::rest:=by grind[List.take_append_drop]
 have hwr:∀j,j∈eZ ops (ops.toList.take i)\/j∈jd o.dst\/j∈eZ ops rest->j∈wr (.region id ops eQ):=λj hj=>by show j∈eZ ops ops.toList;grind[M5,eZ]
 rw[hl];have hF:∀ {s1 s2 s3:TS E},Fr (eZ ops (ops.toList.take i)) (cJ (ops.toList.take i)) st s1->Fr (jd o.dst) hJ s1 s2->Fr (eZ ops rest) (cJ rest) s2 s3->Fr (wr (.region id ops eQ)) (jN (.region id ops eQ)) st s3:=λf1 f2 f3=>(f1.trans f2 (λj hj=>hwr j (.inl hj)) (λj hj=>hwr j (.inr (.inl hj))) (λ_=>⟨hnd.1,rfl⟩)).trans f3 (λj hj=>hj) (λj hj=>hwr j (.inr (.inr hj))) (λ_=>⟨rfl,hnd.2⟩);have hout:∀ {K:Act->U->Prop}{Q:Ex E->TS E->Prop},¬ LetsOut (Exit.then K (cQ E w0 G0 Q)):=λ⟨a,w,h⟩=>cQ.Wq ⟨a,w,h⟩;refine FE _ _ a w (yF hout _ a w (λ_=>hnd.1) (tg _ a w (λe a' w' hp=>?_) (sQ hX h w0 G0 a w G hr)));obtain⟨x,s',G',he,hr',hq,hf⟩:=hp;cases x with
 | normal=>
  cases e<;>try (exact he.elim)
  obtain⟨⟨hg,-⟩,hw⟩:=adi hX hq w0 G0 a' w' G' hr';show wpListIn _ _ _ _ _ (o::rest) _ _;unfold wpListIn;rw[if_pos (by simp[pC,hg])];refine Oper.Wr (λa2 w2 hh=>?_) (λe a w hne hq=>hq) hw;obtain⟨s2,G2,hr2,hk,f2⟩:=hh;exact yF cQ.Wq rest a2 w2 (λ_=>hnd.2) (tg rest a2 w2 (λe a w hp=>cQ.mono (λx s hh=>⟨hh.1,hF hf f2 hh.2⟩) hp) (sQ hX hk w0 G0 a2 w2 G2 hr2))
 | _=>have sO:cQ E w0 G0 (λx st'=>k x st'=iN r/\Fr (wr (.region id ops eQ)) (jN (.region id ops eQ)) st st') e a' w':=⟨_,s',G',he,hr',hq,hF hf (Fr.refl _ _ _) (Fr.refl _ _ _)⟩;cases e<;>first|exact he.elim|exact sO
theorem agi{all:aK H3}:∀ {l:J H3}{o:H3},o∈l->∀i,i∈jd o.dst->i∈eZ all l
 | [],_,h,_,_=>by cases h
 | o'::l,o,h,i,hi=>by
  simp[eZ];rcases hU.1 h with rfl|h
  ·exact .inl hi
  ·exact .inr (.inr (agi h i hi))
theorem aiC(hX:X.Ok){i1 i2 i3:Nat}{A B C:aK H3}{r:R}(h:amV X A B C st (jX (λst'=>k .ret st') k)=iN r):
  Lw X.P (.seq (.region i1 A eQ) (.seq (.region i2 B eQ) (.seq (.region i3 C eQ) .ret))) st (λx st'=>k x st'=iN r/\Fr (wr (.seq (.region i1 A eQ) (.seq (.region i2 B eQ) (.seq (.region i3 C eQ) .ret)))) (jN (.seq (.region i1 A eQ) (.seq (.region i2 B eQ) (.seq (.region i3 C eQ) .ret)))) st st'):=by
 unfold amV at h;split at h<;>try trivial
 rename_i s hs;split at h<;>try trivial
 rename_i l hx;cases hc:(s.ok X st.t.length&&(cJ A.toList&&(cJ B.toList&&cJ C.toList)))<;>rw[hc]at h<;>simp only[aU,aJ]at h
 ·cases h
 simp at hc;obtain⟨hok,nA,nB,nC⟩:=hc;obtain⟨hl,h⟩:=dX h;have hl:=zi hl;intro ro hro w0 G0 a w G hr;obtain⟨a3,w1,hA,W2,hB,hC⟩:=aiz hX hs hx hok hl hr;obtain⟨C0,hC0⟩:=amX hs;have nR:cJ s.rest=hJ:=by
  have:∀(l1 l2:J H3),cJ (l1++l2)=hJ->cJ l2=hJ:=by
   intro l1
   induction l1 with|nil=>intro l2 h;exact h|cons o l1 ih=>simp_all[cJ]
  grind
 have hF:Fr (eZ A A.toList++(eZ B B.toList++eZ C C.toList)) hJ st (s.s9 st l):=ar1 hs st l (λo ho i hi=>by
  grind[agi])
 have hout:∀ {K:Act->U->Prop}{Q:Ex E->TS E->Prop},¬ LetsOut (Exit.then K (cQ E w0 G0 Q)):=λ⟨a,w,h⟩=>cQ.Wq ⟨a,w,h⟩;refine wpIn_seq (wpIn_region_list (yF hout _ a w (λ_=>nA) (hA _ _ ?_)));refine wpIn_seq (wpIn_region_list (yF hout _ a3 w1 (λ_=>nB) (hB _ _ λa5 w2 hW=>?_)));obtain⟨a9,⟨G',hr9⟩,eS⟩:=hC a5 w2 hW;refine wpIn_seq (wpIn_region_list (yF hout _ a5 w2 (λ_=>nC) (eS _ _ ?_)));refine tg s.rest a9 w2 (λe a w hp=>?_) (sQ hX h w0 G0 a9 w2 G' hr9);obtain⟨x,s',G2,he,hr',hq,hf⟩:=hp
 have hf:=hF.trans hf (W:=wr (.seq (.region i1 A eQ) (.seq (.region i2 B eQ) (.seq (.region i3 C eQ) .ret)))) (λi hi=>by
  simp_all[wr]) (λi hi=>by
  simp_all[wr,M5]) (n:=jN (.seq (.region i1 A eQ) (.seq (.region i2 B eQ) (.seq (.region i3 C eQ) .ret)))) (λ_=>⟨rfl,nR⟩)
 cases x with
 | normal=>
  cases e<;>try (exact he.elim)
  exact wpIn_ret ⟨.ret,s',G2,trivial,hr',hq,hf⟩
 | _=>have sO:cQ E w0 G0 (λx st'=>k x st'=iN r/\Fr (wr (.seq (.region i1 A eQ) (.seq (.region i2 B eQ) (.seq (.region i3 C eQ) .ret)))) (jN (.seq (.region i1 A eQ) (.seq (.region i2 B eQ) (.seq (.region i3 C eQ) .ret)))) st st') e a w:=⟨_,s',G2,he,hr',hq,hf⟩;cases e<;>first|exact he.elim|exact sO
theorem ve(hX:X.Ok){F:Nat}:∀(c:Code)(p:fu){R:Type}{st:TS E}{k:Ex E->TS E->Option R}{r:R},runT X F c p st k=iN r->Lw X.P c st (λx st'=>k x st'=iN r/\Fr (wr c) (jN c) st st'):=by
 intro c
 induction c with
 | skip=>intro p R st k r h ro hro w0 G0 a w G hr;exact wpIn_skip ⟨.normal,st,G,trivial,hr,h,Fr.refl _ _ _⟩|label l=>intro p R st k r h ro hro w0 G0 a w G hr;exact wpIn_label ⟨.normal,st,G,trivial,hr,h,Fr.refl _ _ _⟩|exit i=>intro p R st k r h ro hro w0 G0 a w G hr;exact wpIn_exit ⟨.exit i,st,G,rfl,hr,h,Fr.refl _ _ _⟩|ret=>intro p R st k r h ro hro w0 G0 a w G hr;exact wpIn_ret ⟨.ret,st,G,trivial,hr,h,Fr.refl _ _ _⟩|goto l=>intro p R st k r h;cases h
 | refuse s=>intro p R st k r h;cases h
 | scope c ih=>
  intro p R st k r h;have h1:=ih p h;intro ro hro w0 G0 ac w G hr;cases ro with
  | some l=>cases hro rfl
  | none=>
  refine(wpIn_wide (n:=0)).2 ?_;refine wp_scope_straight (wp_mono ((wpIn_wide (n:=0)).1 (h1 iF (λh=>nomatch h) w0 G0 ac w G hr)) λe a' w' hp=>?_);obtain⟨x,s,G',he,hr',hq,hf⟩:=hp;have sO:∀ {x},arC E w' G' e x->k x s=iN r->cQ E w0 G0 (λx st'=>k x st'=iN r/\Fr (wr (.scope c)) (jN (.scope c)) st st') e a' w':=λh1 h2=>⟨_,s,G',h1,hr',h2,hf⟩;cases x<;>cases e<;>first|exact he.elim|(cases hq;done)|exact sO he hq
 | rangeFunc f ps a b _ _=>intro p R st k r h;cases h
 | region id ops dr=>
  intro p R st k r h;simp only[runT]at h;rw[amS]at h;cases dr<;>simp only[aU,aJ]at h
  ·split at h
   ·intro ro hro w0 G0 a w G hr;exact wpIn_region_list (yF cQ.Wq _ a w (λh=>by simp_all[vD,cK]) (Ws hX _ h w0 G0 a w G hr))
   ·grind[aiB]
   ·intro ro hro w0 G0 a w G hr;exact wpIn_region_list (yF cQ.Wq _ a w (λh=>by simp_all[vD,cK]) (sQ hX h w0 G0 a w G hr))
  ·split at h<;>try trivial
   ·exact Lw.of_wp (by rfl) (Jv.mono (aiu hX h) λx s hh=>by rw[hh.1];exact hh.2)
   ·exact Lw.of_wp (by rfl) (Jv.mono (afm hX h) λx s hh=>by rw[hh.1];exact hh.2)
   ·exact Lw.of_wp (by rfl) (Jv.mono (afn hX h) λx s hh=>by rw[hh.1];exact hh.2)
 | block i a ih=>
  intro p R st k r h;have h1:=ih p h;intro ro hro w0 G0 ac w G hr;refine wpIn_block (wpIn_mono (h1 ro hro w0 G0 ac w G hr) λe a' w' hp=>?_);obtain⟨x,s,G',he,hr',hq,hf⟩:=hp;cases x with
  | exit j=>
   cases e<;>try (exact he.elim)
   rename_i i';subst he;simp only[Wp]at hq;simp only[Exit.inBlock];cases hb:eI i' i<;>rw[hb]at hq<;>simp only[aU,aJ]at hq
   ·have:i'≠i:=λe=>by simp_all
    rw[if_neg this];exact⟨.exit i',s,G',rfl,hr',hq,hf⟩
   ·rw[if_pos (eY hb)];exact⟨.normal,s,G',trivial,hr',hq,hf⟩
  | _=>have sO:cQ E w0 G0 (λx st'=>k x st'=iN r/\Fr (wr (.block i a)) (jN (.block i a)) st st') e a' w':=⟨_,s,G',he,hr',hq,hf⟩;cases e<;>first|exact he.elim|exact sO
 | cond c a b FU FV=>
  intro p R st k r h;simp only[runT]at h;split at h<;>try trivial
  rename_i v hv;intro ro hro w0 G0 ac w G hr;have adj:ro.isSome=hJ->vD a=hJ:=λh=>by simp_all[vD,cK]
  have adk:ro.isSome=hJ->vD b=hJ:=λh=>by simp_all[vD,cK]
  have NM:=hr.ev c;rw[hv]at NM;have NM:=NM.nv;cases v<;>simp only[aU,aJ]at h
  ·exact wpIn_cond_false NM (wpIn_mono (FV p.r h ro adk w0 G0 ac w G hr) λ_ _ _ hp=>cQ.mono (λx s hh=>⟨hh.1,hh.2.wide (λi hi=>by simp[wr,hi]) (λhn=>by simp_all[jN,cK])⟩) hp)
  ·exact wpIn_cond_true NM (wpIn_mono (FU p.l h ro adj w0 G0 ac w G hr) λ_ _ _ hp=>cQ.mono (λx s hh=>⟨hh.1,hh.2.wide (λi hi=>by simp[wr,hi]) (λhn=>by simp_all[jN,cK])⟩) hp)
 | seq a b FU FV=>
  have plain:∀(p q:fu){R:Type}{st:TS E}{k:Ex E->TS E->Option R}{r:R},runT X F a p st (jX (λst'=>runT X F b q st' k) k)=iN r->Lw X.P (.seq a b) st (λx st'=>k x st'=iN r/\Fr (wr (.seq a b)) (jN (.seq a b)) st st'):=by
   intro p q R st k r h ro hro w0 G0 ac w G hr;have adj:ro.isSome=hJ->vD a=hJ:=λh=>by simp_all[vD,cK]
   have adk:ro.isSome=hJ->vD b=hJ:=λh=>by simp_all[vD,cK]
   refine akz adj hr (FU p h) (λs a' w' G' hq hr'=>?_) (λx s hne hq=>?_)
   ·exact wpIn_mono (FV q hq.1 ro adk w0 G0 a' w' G' hr') λ_ _ _ hp=>cQ.mono (λx s' hh=>⟨hh.1,hq.2.trans hh.2 (λi hi=>by simp[wr,hi]) (λi hi=>by simp[wr,hi]) (λhn=>by simp_all[jN,cK])⟩) hp
   ·refine⟨by grind,hq.2.wide (λi hi=>by simp[wr,hi]) (λhn=>by simp_all[jN,Bool.and_eq_true])⟩
  intro p R st k r h;simp only[runT]at h;split at h
  ·rename_i ow c p q;split at h<;>try trivial
   rename_i kg had;intro ro hro w0 G0 ac w G hr;have adj:ro.isSome=hJ->vD a=hJ:=λh=>by simp_all[vD,cK]
   have adk:ro.isSome=hJ->vD b=hJ:=λh=>by simp_all[vD,cK]
   obtain⟨⟨G1,fB⟩,Wa⟩:=o5 had hr;split at h
   ·exact wpIn_mono (plain p q h ro hro w0 G0 ac w G1 fB) λ_ _ _ hp=>cQ.mono (λx s' hh=>⟨hh.1,Wa.trans hh.2 (λi hi=>hi) (λi hi=>hi) (λhn=>⟨rfl,hn⟩)⟩) hp
   ·obtain⟨hc,h⟩:=dX h;rw[cK]at hc;have hpre:=fB.pre;obtain⟨Q,hC,hN,hXn⟩:=ZM h (C:=λQ=>Lw X.P a kg (λx st'=>Q x st'/\Fr (wr a) (jN a) kg st')) (λh'=>FU p h');refine akz adj fB hC (λs a' w' G' hq hr'=>?_) (λx s hne hq=>?_)
    ·obtain⟨y,hp,hB⟩:=hN s hq.1;obtain⟨⟨G2,hR⟩,hF⟩:=AF hX.E hpre hr' (hq.2.wide (λ_ h=>h) (λ_=>hc.2)) hc.1 hp
     exact wpIn_mono (FV q hB ro adk w0 G0 a' w' G2 hR) λ_ _ _ hp=>cQ.mono (λx s' hh=>⟨hh.1,Wa.trans (hF.trans hh.2 (W:=wr a++wr b) (n:=jN b) (λi hi=>by simp[hi]) (λi hi=>by simp[hi]) (λhn=>⟨rfl,hn⟩)) (λi hi=>hi) (λi hi=>hi) (λhn=>by
      simp_all[jN,cK])⟩) hp
    ·exact⟨hXn x s hne hq.1,Wa.trans hq.2 (λi hi=>hi) (λi hi=>by simp[wr,hi]) (λhn=>⟨rfl,hc.2⟩)⟩
  ·split at h<;>try trivial
   exact aiC hX h
  ·exact plain .leaf .leaf h
 | loop a ih=>
  intro p R st k r h;simp only[runT]at h;split at h<;>try trivial
  rename_i ow c p;split at h<;>try trivial
  rename_i kg had;obtain⟨hc,h⟩:=dX h;rw[cK]at hc;intro ro hro w0 G0 ac w G hr;obtain⟨⟨G1,fB⟩,Wa⟩:=o5 had hr;have hpre:=fB.pre;cases hs:c.pack kg kg with
  | none=>rw[hs]at h;cases h
  | some s0=>
   rw[hs]at h;obtain⟨hR0,hFu⟩:=AF hX.E (W:=wr a) hpre fB (Fr.refl _ _ _) hc.1 hs;refine Qc (ι:=Nat×dens E c.tys) (λx a' w'=>bX (λrc s=>runT X F a p (c.un (wr a) kg s) (jX (λst'=>(c.pack kg st').bind rc) k)) x.1 x.2=iN r/\∃G',Rel E w0 G0 (c.un (wr a) kg x.2) a' w' G') (λx=>x.1) (F,s0) ⟨h,hR0⟩ ?_;rintro⟨n,s⟩ a' w' ⟨hl,G',hr'⟩;cases n with
   | zero=>cases hl
   | succ n=>
    have hFs:Fr (wr a) hJ kg (c.un (wr a) kg s):=by
     unfold Cut.pack at hs;split at hs<;>try trivial
     rename_i ls hls;exact Cut.ZI hc.1 hls
    refine wpIn_mono (ih p hl ro hro w0 G0 a' w' G' hr') λe a2 w2 hp=>?_;obtain⟨x,s2,G2,he,hr2,hq,hf⟩:=hp;have qT:Fr (wr a) hJ kg s2:=hFs.trans hf (λ_ h=>h) (λ_ h=>h) (λ_=>⟨rfl,hc.2⟩);cases x with
    | normal=>
     cases e<;>try (exact he.elim)
     simp only[jX]at hq;cases hp2:c.pack kg s2 with
     | none=>rw[hp2]at hq;cases hq
     | some y=>rw[hp2]at hq;obtain⟨hR2,-⟩:=AF hX.E hpre hr2 qT hc.1 hp2;exact⟨(n,y),⟨hq,hR2⟩,Ko n⟩
    | _=>have sO:cQ E w0 G0 (λx st'=>k x st'=iN r/\Fr (wr (.loop a)) (jN (.loop a)) st st') e a2 w2:=⟨_,s2,G2,he,hr2,hq,Wa.trans qT (λ_ h=>h) (λ_ h=>h) (λ_=>⟨rfl,rfl⟩)⟩;cases e<;>first|exact he.elim|exact sO
end Go.RT
namespace Go.RT
variable {E : TEnv}
def adl(X:Cx E)(st:TS E):ResultVar->O (TV E)
 | .tmp t=>iN (st.at t)|.cell p t=>match aY X.P t,st.at p with
  | some i,.ptr r off=>match st.H[r]? with
   | some (.cells _ cs)=>VB E (X.ty t) cs i.isAgg i.size off|_=>iF
  | _,_=>iF
def ry(X:Cx E)(st:TS E):J ResultVar->O (J (TV E))
 | []=>iN []|r::rs=>match adl X st r,ry X st rs with
  | some d,iN ds=>iN (d::ds)|_,_=>iF
def sr:J (TV E)->TV E|[d]=>d|ds=>.tuple ds
def Sa(tmps:aK T1):ResultVar->Sem T1|.tmp t=>pure (tmps.getD t M2)|.cell a t=>do loadVar t (<-asAddr (tmps.getD a M2))
theorem aiD(fn:Func)(tmps:aK T1):results fn tmps=(do
  let vs <-fn.results.mapM (Sa tmps)
  pure (if h:vs.size=1 then vs[0]else .tuple vs)):=by
 congr 2
def Sb:J T1->T1|[v]=>v|vs=>.tuple vs.toArray
theorem amZ(vs:J T1):(if h:vs.toArray.size=1 then vs.toArray[0]else .tuple vs.toArray)=Sb vs:=by
 match vs with|[]=>rfl|[v]=>rfl|v::u::r=>simp[Sb]
variable{X:Cx E}{w0 w:U}{G0 G:bB}{st:TS E}{a:Act}{fn:Func}
theorem akA(hX:X.Ok)(hr:Rel E w0 G0 st a w G){rv:ResultVar}{d:TV E}(h:adl X st rv=iN d):∃v,VT E w G d v/\(Sa a.tmps rv).run X.P w=.ok v w:=by
 cases rv with
 | tmp t=>cases h;exact⟨_,hr.at t,rfl⟩
 | cell p t=>
  simp[adl]at h;split at h<;>try trivial
  rename_i i r off hi hd;split at h<;>try trivial
  rename_i t' cs hb;have hv:=hr.at p;rw[hd]at hv;obtain⟨b,he,hat⟩:=hv;obtain⟨vs,hh,h1,h2⟩:=hr.box hat hb
  obtain⟨v,hv,hrun⟩:=tX (b:=b) (o':=0) hi (λl u hl=>by
   grind[cell_of_row]) (Kz hX.E h2 (λu hu=>h1 u (by simpa using hu)) h)
  refine⟨v,hv,?_⟩;have:=hrun w (fG.refl w);simp only[Sa];rw[he];simpa[Instr.loadAt,Instr.sureAddr,asAddr]using this
theorem ZN(hX:X.Ok)(hr:Rel E w0 G0 st a w G):∀ {rs:J ResultVar}{ds:J (TV E)},ry X st rs=iN ds->∃vs,bO E w G ds vs/\(rs.mapM (Sa a.tmps)).run X.P w=.ok vs w
 | [],ds,h=>by cases h;exact⟨[],.nil,rfl⟩
 | r::rs,ds,h=>by
  simp[ry]at h;split at h<;>try trivial
  rename_i d ds' h1 h2;cases h;obtain⟨v,hv,hrun⟩:=akA hX hr h1;obtain⟨vs,hvs,atS⟩:=ZN hX hr h2;exact⟨v::vs,.cons hv hvs,by simp[hrun,atS]⟩
theorem aiE:∀ {ds:J (TV E)}{vs:J T1},bO E w G ds vs->VT E w G (sr ds) (Sb vs)
 | [],vs,h=>by grind[bO,sr,Sb,VT]|[d],vs,h=>by obtain⟨u,us,rfl,h1,h2⟩:=h.cons_inv;subst h2;exact h1
 | d1::d2::ds,vs,h=>by obtain⟨u,us,rfl,h1,h2⟩:=h.cons_inv;obtain⟨u2,U5,rfl,h3,h4⟩:=h2.cons_inv;grind[sr,Sb,VT]
theorem Br(hX:X.Ok)(hr:Rel E w0 G0 st a w G){ds:J (TV E)}(h:ry X st fn.results.toList=iN ds):∃v,VT E w G (sr ds) v/\(results fn a.tmps).run X.P w=.ok v w:=by obtain⟨vs,hv,hrun⟩:=ZN hX hr h;refine⟨Sb vs,aiE hv,?_⟩;grind[aiD,Array.mapM_eq_mapM_toList,Sem.run_bind,Sem.run_map,Result.andThen_ok,Sem.run_pure,amZ]
def Outs.cut(o:Outs):Cut:=⟨[],o.boxes,o.rows,o.soft⟩
def Outs.get(o:Outs)(bG st:TS E)(d:TV E):O (dens E o.tys):=
 match Gw o.res d st with
 | (d,st)=>match o.res.get ⟨bY o.boxes.length,bY o.rows.length,st.g.map (·.aG)⟩ d,o.cut.leaves bG st with
  | some a,iN b=>getAll o.tys (a++b)|_,_=>iF
def Cd(n:Nat)(l:J (TV E)):J (TV E):=l++List.replicate (n-Ts l) .any
def dm.bG(s:dm)(n:Nat)(ls:J (Lf E)):TS E:=⟨Cd n (s.ds ls),s.H ls,s.g0,[],[],s.c ls⟩
def avm(s:dm)(fn:Func)(st:TS E):O (Nat×PT):=match fn.results.toList,s.out.res with
 | [.tmp t],.one (.cH j T)=>iN (t,.one (.cH j T))|[.tmp t],.one (.eF j)=>match st.t[t]? with
  | some (.val (.slice iF 0 0))=>iN (t,.one (.eF j))|_=>iF
 | _,_=>iF
def Ic(s:dm)(fn:Func)(bG st:TS E):TS E:=match avm s fn st with|some (t,p)=>We s.out.cut bG.g.length t p st|none=>st
variable{s:dm}{W:J Nat}{nd:Bool}
theorem apQ{bG:TS E}(hp:Pre G0 bG)(hr:Rel E w0 G0 st a w G)(hF:Fr W nd bG st):
  ∃G' W',Rel E w0 G0 (Ic s fn bG st) a w G'/\Fr W' nd bG (Ic s fn bG st)/\(Ic s fn bG st).df=st.df:=by
 unfold Ic;split
 ·rename_i t p h1;have hn0:G0.g.length<=bG.g.length:=by
   rcases abb bG.g.length G0.g.length with hlt|hge
   ·obtain⟨x,hx,-⟩:=hp.rows bG.g.length _ _ (ga hlt);simp_all
   ·exact hge
  obtain⟨⟨G1,fB⟩,f1⟩:=ac7 s.out.cut bG.g.length t p hn0 hr;exact⟨G1,t::W,fB,Fr.trans hF f1 (λi hi=>kV _ hi) (λi hi=>by simp_all) (λh=>⟨h,rfl⟩),f1.df rfl⟩
 grind
def aby(q c:Nat)(p:CT)(st:TS E):TS E:=match p,st.H[q]? with
 | .cH j T,iN (.cells t cs)=>match cs[c]?,st.g[j]? with
  | some (.val (.slice iF 0 0)),iN g=>cond (PZ j st.c) {st with H:=st.H.set q (.cells t (cs.set c (.cH j (g.aG+1) T []))),g:=st.g.set j {g with aG:=g.aG+1},d:=q::st.d} st
  | _,_=>st
 | _,_=>st
def Wt(q:Nat):Nat->J CT->TS E->TS E|_,[],st=>st|c,p::ps,st=>Wt q (c+1) ps (aby q c p st)
def xJ:Nat->J (O BT)->TS E->TS E|_,[],st=>st|q,iN (.cells _ ps)::bs,st=>xJ (q+1) bs (Wt q 0 ps st)|q,_::bs,st=>xJ (q+1) bs st
theorem am0(q c:Nat)(p:CT)(hr:Rel E w0 G0 st a w G):(∃G',Rel E w0 G0 (aby q c p st) a w G')/\Fr [] hJ st (aby q c p st):=by
 have xG:(∃G',Rel E w0 G0 st a w G')/\Fr [] hJ st st:=⟨⟨G,hr⟩,Fr.refl _ _ _⟩;unfold aby;split
 ·rename_i j T t cs hq;split
  ·rename_i g hc hg;generalize hb:PZ j st.c=b;cases b
   ·exact xG
   obtain⟨hd,hj⟩:=hr.B4 hg;have hjl:=(fC.1 hj).1;have hN:=hr.R7 (x':={g with aG:=g.aG+1}) hj (Ko _) (yD _) (P0 hb) (λb hb=>nomatch hb) (λ_ _ _ _ _ _ _ hb=>nomatch hb);have hlr:q<G.i.length:=by rw[hr.boxes.len];grind
   have hat:=ga hlr;refine⟨⟨_,hN.zI hat rfl rfl rfl rfl (λ_ _=>rfl) (λ_=>?_)⟩,rfl,λ_ _=>rfl,⟨[q],rfl,λr _ hr=>?_⟩,si,λ_=>rfl⟩
   ·obtain⟨vs,h1,h2,h3⟩:=hN.boxes.box q _ _ hat hq;refine⟨vs,h1,h2,?_⟩;obtain⟨u,hu,hv⟩:=h3.get c hc;subst hv;have key:∀(w1:World)(G1:bB)(cs:J (TV E))(vs:J T1)(c:Nat)(d:TV E),bO E w1 G1 cs vs->vs[c]? = iN (.slice iF 0 0)->VT E w1 G1 d (.slice iF 0 0)->bO E w1 G1 (cs.set c d) vs:=by
     intro w1 G1 cs
     induction cs with
     | nil=>simp_all|cons x cs ih=>intro vs c d h1 h2 h3;obtain⟨u,us,rfl,q1,q2⟩:=h1.cons_inv;cases c with|zero=>simp at h2;subst h2;exact .cons h3 q2|succ c=>exact .cons q1 (ih us c d q2 (by simpa using h2) h3)
    refine key _ _ cs vs.toList c _ h3 hu ?_;exact⟨.v8 _ _,{g with aG:=g.aG+1},.slice iF 0 0,by simp[hjl],eo _,λ_=>rfl⟩
   grind
  ·exact xG
 ·exact xG
theorem ZO(q:Nat){w0 w:U}{G0:bB}{a:Act}:∀(ps:J CT)(c:Nat){st:TS E}{G:bB},Rel E w0 G0 st a w G->(∃G',Rel E w0 G0 (Wt q c ps st) a w G')/\Fr [] hJ st (Wt q c ps st)
 | [],_,_,G,hr=>⟨⟨G,hr⟩,Fr.refl _ _ _⟩|p::ps,c,st,G,hr=>by obtain⟨⟨G1,fB⟩,f1⟩:=am0 q c p hr;obtain⟨h2,f2⟩:=ZO q ps (c+1) fB;exact⟨h2,Fr.trans f1 f2 (λ_ h=>h) (λ_ h=>h) (λ_=>⟨rfl,rfl⟩)⟩
theorem Ba{w0 w:U}{G0:bB}{a:Act}:∀(bs:J (O BT))(q:Nat){st:TS E}{G:bB},Rel E w0 G0 st a w G->(∃G',Rel E w0 G0 (xJ q bs st) a w G')/\Fr [] hJ st (xJ q bs st)
 | [],_,_,G,hr=>⟨⟨G,hr⟩,Fr.refl _ _ _⟩|some (.cells _ ps)::bs,q,st,G,hr=>by obtain⟨⟨G1,fB⟩,f1⟩:=ZO q ps 0 hr;obtain⟨h2,f2⟩:=Ba bs (q+1) fB;exact⟨h2,Fr.trans f1 f2 (λ_ h=>h) (λ_ h=>h) (λ_=>⟨rfl,rfl⟩)⟩
 | none::bs,q,st,G,hr=>Ba bs (q+1) hr|some (.map _ _)::bs,q,st,G,hr=>Ba bs (q+1) hr|some .iter::bs,q,st,G,hr=>Ba bs (q+1) hr|some (.loop _ _)::bs,q,st,G,hr=>Ba bs (q+1) hr
theorem agj{bG:TS E}(hp:Pre G0 bG)(hr:Rel E w0 G0 st a w G)(hF:Fr W nd bG st):
  ∃G' W',Rel E w0 G0 (Ic s fn bG (xJ 0 s.out.boxes st)) a w G'/\Fr W' nd bG (Ic s fn bG (xJ 0 s.out.boxes st))/\(Ic s fn bG (xJ 0 s.out.boxes st)).df=st.df:=by
 obtain⟨⟨G1,fB⟩,f1⟩:=Ba s.out.boxes 0 hr;obtain⟨G2,W2,h1,h2,h3⟩:=apQ hp fB (Fr.trans hF f1 (λ_ h=>h) (λ_ h=>nomatch h) (λh=>⟨h,rfl⟩));exact⟨G2,W2,h1,h2,h3.trans (f1.df rfl)⟩
def Qe(X:Cx E)(s:dm)(fn:Func)(bG st:TS E):O (dens E s.out.tys):=(ry X (Ic s fn bG (xJ 0 s.out.boxes st)) fn.results.toList).bind λds=>s.out.get bG (Ic s fn bG (xJ 0 s.out.boxes st)) (sr ds)
def pY(X:Cx E)(s:dm)(fn:Func)(bG:TS E):(p:O Outs)->Ex E->TS E->O (OutP E s.out p)|none,.ret,st=>Qe X s fn bG st|none,.normal,st=>Qe X s fn bG st|some q,.ret,st=>ZJ (Qe X s fn bG st)|some q,.normal,st=>ZJ (Qe X s fn bG st)|some q,.panic d,st=>Aw (q.get bG st d)|_,_,_=>iF
noncomputable def adm(X:Cx E)(F:Nat)(s:dm)(fn:Func)(pl:fu)(x:dens E s.tys):O (OutP E s.out s.nj):=match fn.body with|some c=>rq (jN c) (runT X F c pl (s.bG fn.ntmps (aV s.tys x)) (pY X s fn (s.bG fn.ntmps (aV s.tys x)) s.nj))|none=>iF
variable{args:aK T1}{ls:J (Lf E)}{y:OutP E s.out s.nj}{P:bx}{f:H5}{F:Nat}{pl:fu}{x:dens E s.tys}
theorem Rel.init{n:Nat}(hP:qR E w G)(hB:mY E w G (s.H ls) s.g0)(hS:lS E w G (s.c ls))(hV:bO E w G (s.ds ls) args.toList):
  Rel E w G (s.bG n ls) {tmps:=args++Array.replicate (n-args.size) M2,defers:=[]} w G:=by
 have hl:args.size=(s.ds ls).length:=by simpa using hV.length
 refine⟨mm.refl w G,?_,λj d hj=>?_,trivial,hB,λ_ _ _ _=>rfl,hP,hS⟩
 ·simp[dm.bG,Cd,hl]
 ·have hj:(Cd n (s.ds ls))[j]? = iN d:=hj;unfold Cd at hj;by_cases hlt:j<(s.ds ls).length
  ·rw[wQ hlt]at hj;obtain⟨u,hu,hv⟩:=hV.get j hj;simp_all[aol]
  grind[List.mem_of_getElem?,VT]
theorem Outs.Ie(hE:E.Ok){o:Outs}{ok:Bool}{w':U}{G':bB}{bG:TS E}{d:TV E}{v:T1}{y:dens E o.tys}(hp:Pre G bG)(Tm:bG.d=[])(hdf:st.df=bG.df)(hr:Rel E w G st a w' G')(hF:Fr W nd bG st)(hv:VT E w' G' d v)(h:o.get bG st d=iN y):
  ∃G2,mm w G w' G2/\mY E w' G2 (o.oa ok bG.H bG.g (aV o.tys y)).H (o.oa ok bG.H bG.g (aV o.tys y)).g/\lS E w' G2 (o.oa ok bG.H bG.g (aV o.tys y)).c/\VT E w' G2 (o.oa ok bG.H bG.g (aV o.tys y)).d v /\
   ∀(q b:Nat),G.i[q]? = iN b->q∉(o.oa ok bG.H bG.g (aV o.tys y)).D->w'.heap[b]? = w.heap[b]?:=by
 unfold Outs.get at h;obtain⟨d1,kg,hh⟩:∃d1 kg,Gw o.res d st=(d1,kg):=⟨_,_,rfl⟩;rw[hh]at h;dsimp only at h;split at h<;>try trivial
 rename_i la lb hla hlb;obtain⟨o1,G1,fB,-,wk⟩:=ac0 o.res d hr;have hv:=wk v hv;rw[hh]at o1 fB hv;have hr:=fB;have hF:Fr W nd bG kg:=by obtain⟨c,rfl⟩:=o1;exact⟨hF.len,hF.keep,hF.d,hF.hl,hF.df⟩
 have hdf:kg.df=bG.df:=by obtain⟨c,rfl⟩:=o1;exact hdf
 obtain⟨D,hD,hH⟩:=hF.d;obtain⟨G2,hR,hL⟩:=Rel.cut hE hp hr hF.len hF.keep hD hH hdf hlb;have hput:=EO _ h;obtain⟨e1,e2⟩:=PT.sound hE hL hla hv;rw[hput];simp[Outs.oa];have e3:(o.res.put (o.n1 bG.g) (la++lb)).2=lb:=e1;refine⟨G2,hR.fF,?_,?_,e2,λq b hq hd=>hR.fix q b hq ?_⟩
 ·rw[e3];exact hR.boxes
 ·rw[e3];exact hR.gO
 ·show q∉ES 0 o.boxes++bG.d;simp_all
theorem uM{c:Code}{R:Ending->U->Prop}(hf:P.funcs[f]? = iN fn)(hb:fn.body=iN c)(hn:(fn.name == "runtime.NumGoroutine")=eQ)(h:Calls P f args w R):kX P f args w R:=by
 have:(H4 f args).run P w=.ok (.enter f args) w:=by simp only[H4,jJ,run_program,kn,hf,hn,hb];simp
 simp_all[kX]
theorem aiF(hX:X.Ok)(hf:X.P.funcs[s.f]? = iN fn)(hn:(fn.name == "runtime.NumGoroutine")=eQ)(h:adm X F s fn pl x=iN y):
  mL X.P s.f (s.ds (aV s.tys x)) (s.H (aV s.tys x)) s.g0 (s.c (aV s.tys x)) (kY s (s.H (aV s.tys x)) s.nj y):=by
 unfold adm at h;split at h<;>try trivial
 rename_i c hb;obtain⟨hnd,h⟩:=dX h;intro w G args hP hB hS hV;have HG:=Rel.init (n:=fn.ntmps) hP hB hS hV;have hpre:=HG.pre;refine uM hf hb hn (calls_of_wp hf hb (wp_mono ((ve hX c pl h).wp HG) λe a' w' hp=>?_));obtain⟨ex,st,G',he,hr,hk,hF⟩:=hp;have hdf:=hF.df hnd;have Kq:a'.defers=[]:=by have:=hr.defers;rw[hdf]at this;cases hd:a'.defers with|nil=>rfl|cons d ds=>rw[hd]at this;exact this.elim
 have okc:∀ {y:dens E s.out.tys},Qe X s fn (s.bG fn.ntmps (aV s.tys x)) st=iN y ->
   ∃v,(results fn a'.tmps).run X.P w'=.ok v w'/\∃v1 G2,Ending.returned v=Eg (s.out.oa hJ (s.H (aV s.tys x)) s.g0 (aV s.out.tys y)).ok v1/\mm w G w' G2 /\
    mY E w' G2 (s.out.oa hJ (s.H (aV s.tys x)) s.g0 (aV s.out.tys y)).H (s.out.oa hJ (s.H (aV s.tys x)) s.g0 (aV s.out.tys y)).g/\lS E w' G2 (s.out.oa hJ (s.H (aV s.tys x)) s.g0 (aV s.out.tys y)).c/\VT E w' G2 (s.out.oa hJ (s.H (aV s.tys x)) s.g0 (aV s.out.tys y)).d v1 /\
    ∀(q b:Nat),G.i[q]? = iN b->q∉(s.out.oa hJ (s.H (aV s.tys x)) s.g0 (aV s.out.tys y)).D->w'.heap[b]? = w.heap[b]?:=by
  intro y hy;unfold Qe at hy;obtain⟨G3,W3,hr,hF,am1⟩:=agj hpre hr hF;generalize Ic s fn (s.bG fn.ntmps (aV s.tys x)) (xJ 0 s.out.boxes st)=st3 at *;cases hds:ry X st3 fn.results.toList with
  | none=>rw[hds]at hy;cases hy
  | some ds=>rw[hds]at hy;obtain⟨v,hv,hrun⟩:=Br hX hr hds;obtain⟨G2,q1,q2,q3,q4,q5⟩:=Outs.Ie hX.E hpre rfl (am1.trans hdf) hr hF hv hy;exact⟨v,hrun,v,G2,rfl,q1,q2,q3,q4,q5⟩
 have fin:∀(p:O Outs)(y:OutP E s.out p),pY X s fn (s.bG fn.ntmps (aV s.tys x)) p ex st=iN y->bodyPost X.P fn (λe w'=>∃v G',e=Eg (kY s (s.H (aV s.tys x)) p y).ok v/\mm w G w' G'/\mY E w' G' (kY s (s.H (aV s.tys x)) p y).H (kY s (s.H (aV s.tys x)) p y).g/\lS E w' G' (kY s (s.H (aV s.tys x)) p y).c /\
   VT E w' G' (kY s (s.H (aV s.tys x)) p y).d v/\∀(q b:Nat),G.i[q]? = iN b->q∉(kY s (s.H (aV s.tys x)) p y).D->w'.heap[b]? = w.heap[b]?) e a' w':=by
  intro p y hk;cases p with
  | none=>
   cases ex<;>cases e<;>try (exact he.elim)
   ·obtain⟨v,hrun,h2⟩:=okc hk;exact⟨Kq,v,hrun,h2⟩
   ·cases hk
   ·cases hk
   ·obtain⟨v,hrun,h2⟩:=okc hk;exact⟨Kq,v,hrun,h2⟩
   ·cases hk
  | some q=>
   cases ex<;>cases e<;>try (exact he.elim)
   ·obtain⟨y',hy,rfl⟩:=M4 hk;obtain⟨v,hrun,h2⟩:=okc hy;exact⟨Kq,v,hrun,h2⟩
   ·cases hk
   ·cases hk
   ·obtain⟨y',hy,rfl⟩:=M4 hk;obtain⟨v,hrun,h2⟩:=okc hy;exact⟨Kq,v,hrun,h2⟩
   ·obtain⟨y',hy,rfl⟩:=Qb hk;obtain⟨v,rfl,hv⟩:=he;obtain⟨G2,q1,q2,q3,q4,q5⟩:=Outs.Ie hX.E hpre rfl hdf hr hF hv hy;exact⟨Kq,v,G2,rfl,q1,q2,q3,q4,q5⟩
 exact fin s.nj y hk
variable{l:Nat}{r:Loop}
theorem FZ{o:Nat}(h:w.heap[l]? = iN (.loop r)):w.cell? ⟨l,o,iF⟩=iF:=by simp[World.cell?,h]
theorem Qf(o:Obj)(h:w.heap[l]? = iN (.loop r)):jc w G (w.putObj l o) G:=by refine⟨λ_ _ h=>h,λb c v _ hv=>?_,λ_ _ h=>h,λj x y hj=>⟨x,y,hj,eo _,λ_=>rfl⟩⟩;grind[FZ,World.cell?_of_block,World.putObj_heap_other]
variable{tmps:aK T1}{C:bQ E}
theorem mY.turn{H:J (gf E)}{gs:J cV}(o:Obj)(h:w.heap[l]? = iN (.loop r))(hl:l∉G.i)(hB:mY E w G H gs):mY E (w.putObj l o) G H gs:=by
 have hg:=Qf (G:=G) o h;refine⟨hB.len,hB.gs,λq b x hq hx=>(hB.box q b x hq hx).mono hg (World.putObj_heap_other λe=>hl (by grind)),λb hb=>by simpa using hB.lt b hb,hB.nodup,λb o' hp=>by simpa using hB.gN b o' hp,λj x y hj=>?_,hB.apart⟩;obtain⟨n,xs,ho,hz,hb⟩:=hB.grow j x y hj;refine⟨n,xs,⟨ho.1,?_⟩,hz,λb HP=>by simpa using hb b HP⟩;rcases ho.2 with h2|⟨g,cap,cur,h2,h3,h4,h5⟩
 ·exact .inl h2
 ·refine .inr ⟨g,cap,cur,h2,h3,?_,h5⟩;rw[Kp (λe=>by simp_all)];exact h4
theorem lS.turn{cs:J (Nat×Cn E)}(o:Obj)(h:w.heap[l]? = iN (.loop r))(hS:lS E w G cs):lS E (w.putObj l o) G cs:=by
 have hg:=Qf (G:=G) o h;intro j c hj;obtain⟨x,hd,h1,h2,h3,⟨vals,ho,hf⟩,hp⟩:=hS j c hj;refine⟨x,hd,h1,h2,h3,⟨vals,⟨ho.1,?_⟩,hf.mono hg.pr hg.cells⟩,hp⟩;rcases ho.2 with q|⟨g,cap,cur,q1,q2,q3,q4⟩
 ·exact .inl q
 ·refine .inr ⟨g,cap,cur,q1,q2,?_,q4⟩;rw[Kp (λe=>by simp_all)];exact q3
theorem qR.turn(o:Obj)(h:w.heap[l]? = iN (.loop r))(hP:qR E w G):qR E (w.putObj l o) G:=by intro b p hb;obtain⟨⟨cs,t,m,h1,hp⟩,h2⟩:=hP b p hb;exact⟨⟨cs,t,m,by rw[Kp (λe=>by simp_all)];exact h1,hp⟩,h2⟩
theorem mm.turn(o:Loop)(h0:l<w0.heap.size)(h:w.heap[l]? = iN (.loop r))(hE:mm w0 G0 w G):mm (w0.putObj l (.loop o)) G0 (w.putObj l (.loop o)) G:=by
 have hlt:=(Bp.1 h).1;refine⟨hE.os,hE.tape,hE.output,by simpa using hE.size,λb hb hf=>?_,⟨hE.goes.pr,λb c v hp hv=>?_,hE.goes.i,hE.goes.g⟩,λb c hb hp=>hE.pE b c (by simpa using hb) hp,λq b hq hb=>by simpa using hE.r7 q b hq hb,λj x y b hj hb=>by simpa using hE.iz j x y b hj hb⟩
 ·by_cases e:b=l
  ·subst e;rw[Rr hlt,Rr h0]
  ·rw[Kp e,Kp e];exact hE.old b (by simpa using hb) hf
 ·by_cases e:b=l
  ·subst e;rw[FZ (Rr h0)]at hv;cases hv
  ·rw[Rf (Kp e)]at hv⊢;exact hE.goes.cells b c v hp hv
theorem akB(hE:mm w0 G0 w G)(h0:l<w0.heap.size)(hf:¬ G0.Fw l):¬ G.Fw l:=by
 intro hf';refine hf ?_;rcases hf' with hf|⟨x,hd,hm,hbk⟩
 ·obtain⟨q,hq,he⟩:=lH hf;have V4:G.i[q]? = iN l:=by simp_all
  by_cases qF:q<G0.i.length
  ·have e1:=hE.goes.i q _ (ga qF);exact .inl (by simp_all)
  ·have:=hE.r7 q l om V4;omega
 ·obtain⟨j,hj,he⟩:=lH hm;rcases hE.iz j x hd l (by simp_all) hbk with q|⟨x0,h0',q1,q2⟩
  ·omega
  ·exact .inr ⟨x0,h0',jR q1,q2⟩
theorem Rel.turn(o:Loop)(hr:Rel E w0 G0 st a w G)(h0:w0.heap[l]? = iN (.loop r))(hf:¬ G0.Fw l):w.heap[l]? = iN (.loop r)/\Rel E (w0.putObj l (.loop o)) G0 st a (w.putObj l (.loop o)) G:=by
 have hl0:=(Bp.1 h0).1;have h:w.heap[l]? = iN (.loop r):=by rw[hr.fF.old l hl0 hf];exact h0
 have hg:=Qf (G:=G) (.loop o) h;have hfG:=akB hr.fF hl0 hf;refine⟨h,hr.fF.turn o hl0 h,hr.size,λj d hj=>(hr.tmps j d hj).mono hg,hr.defers.mono hg,hr.boxes.turn _ h (λhm=>hfG (.inl hm)),λq b hq hd=>?_,hr.pins.turn _ h0,hr.gO.turn _ h⟩;have hne:b≠l:=λe=>hf (.inl (by grind));rw[Kp hne,Kp hne];exact hr.fix q b hq hd
def abz:J Tmp->J (TV E)->J (TV E)->J (TV E)|p::ps,x::xs,t=>abz ps xs (t.set p x)|_,_,t=>t
theorem adn{w:U}{G:bB}:∀(ps:J Tmp)(xT:J (TV E))(xV:J T1)(t:J (TV E))(tmps:aK T1),bO E w G xT xV->xT.length=Ts ps->tmps.size=t.length->(∀j d,t[j]? = iN d->VT E w G d (tmps.getD j M2)) ->
  ((ps.zip xV).foldl (λt (p,v)=>t.setIfInBounds p v) tmps).size=(abz ps xT t).length/\∀j d,(abz ps xT t)[j]? = iN d->VT E w G d (((ps.zip xV).foldl (λt (p,v)=>t.setIfInBounds p v) tmps).getD j M2)
 | [],xT,xV,t,tmps,hv,hl,hs,ht=>by
  cases xT with
  | nil=>exact⟨hs,ht⟩|cons _ _=>cases hl
 | p::ps,[],xV,t,tmps,hv,hl,hs,ht=>by cases hl
 | p::ps,x::xs,xV,t,tmps,hv,hl,hs,ht=>by
  obtain⟨u,us,rfl,h1,h2⟩:=hv.cons_inv;refine adn ps xs us (t.set p x) (tmps.setIfInBounds p u) h2 (by simpa using hl) (by simpa using hs) λj d hj=>?_;by_cases hjp:p=j
  ·by_cases hlt:p<t.length
   ·simp_all
   simp_all
  simp_all
def ado(s:dm)(Y:YD)(ls:J (Lf E)):TS E:=⟨abz Y.params.toList ((s.ds ls).take Y.params.size) ((s.ds ls).drop Y.params.size),s.H ls,s.g0,[],[],s.c ls⟩
def okH:J (gf E)->Bool
 | []=>hJ|x::xs=>(match x with | .cells _ _=>hJ | .iter _ _=>hJ | .map _ _ _=>hJ|_=>eQ)&&okH xs
def ar3(s:dm)(bG:TS E):(p:O Outs)->Ex E->TS E->O (OutP E s.out p)|none,.normal,st=>s.out.get bG st (.dat .bool hJ)|_,_,_=>iF
noncomputable def ar4(X:Cx E)(F:Nat)(s:dm)(Y:YD)(pl:fu)(x:dens E s.tys):O (OutP E s.out s.nj):=rq (vD Y.assign&&jN Y.assign&&(vD Y.body&&jN Y.body)&&okH (s.H (aV s.tys x))) (runT X F Y.assign .leaf (ado s Y (aV s.tys x)) (jX (λkg=>runT X F Y.body pl kg (ar3 s (ado s Y (aV s.tys x)) s.nj)) λ_ _=>iF))
theorem bO.akC{w:U}{G:bB}:∀ {ds:J (TV E)}{vs us:J T1},bO E w G ds (vs++us)->bO E w G (ds.take vs.length) vs/\bO E w G (ds.drop vs.length) us
 | ds,[],us,h=>⟨by simpa using bO.nil,by simpa using h⟩|[],v::vs,us,h=>by simp_all[bO]|d::ds,v::vs,us,h=>by obtain⟨u,us',e,h1,h2⟩:=h.cons_inv;cases e;obtain⟨q1,q2⟩:=bO.akC h2;exact⟨by simpa using bO.cons h1 q1,by simpa using q2⟩
theorem akD{w:U}{G:bB}{l:Nat}{r:Loop}(h:w.heap[l]? = iN (.loop r)):∀ {H:J (gf E)}{q:Nat}{x:gf E},okH H=hJ->H[q]? = iN x->¬ kI E w G l x
 | [],_,_,_,hx=>by cases hx
 | y::H,0,x,ho,hx=>by
  cases hx;intro hb;simp[okH]at ho;cases y with
  | cells ty cs=>obtain⟨vs,h1,-⟩:=hb;rw[h]at h1;cases h1
  | iter s p=>have h1:w.heap[l]? = _:=hb;rw[h]at h1;cases h1
  | map kt vt m=>obtain⟨es,clock,h1,-⟩:=hb;rw[h]at h1;cases h1
  | _=>cases ho.1
 | y::H,q+1,x,ho,hx=>by simp[okH]at ho;exact akD h ho.2 (by simpa using hx)
theorem Rel.atT{Y:YD}{xs:aK T1}(hn:xs.size=Y.params.size)(hP:qR E w G)(hB:mY E w G (s.H ls) s.g0)(hS:lS E w G (s.c ls))(hV:bO E w G (s.ds ls) (xs++tmps).toList):
  Rel E w G (ado s Y ls) {tmps:=(Y.params.zip xs).foldl (λt (p,v)=>t.setIfInBounds p v) tmps,defers:=[]} w G:=by
 rw[Array.toList_append]at hV;obtain⟨h1,h2⟩:=bO.akC hV;have hx:xs.toList.length=Y.params.size:=by simpa using hn
 rw[hx]at h1 h2;have hf:(Y.params.zip xs).foldl (λt (p,v)=>t.setIfInBounds p v) tmps=(Y.params.toList.zip xs.toList).foldl (λt (p,v)=>t.setIfInBounds p v) tmps:=by rw[<-Array.foldl_toList,Array.toList_zip]
 obtain⟨q1,q2⟩:=adn Y.params.toList ((s.ds ls).take Y.params.size) xs.toList ((s.ds ls).drop Y.params.size) tmps h1 (by have:=h1.length;simp at this⊢;omega) (by simpa using h2.length) (λj d hj=>by
  obtain⟨u,hu,hv⟩:=h2.get j hj
  simp_all)
 refine⟨mm.refl w G,?_,λj d hj=>?_,trivial,hB,λ_ _ _ _=>rfl,hP,hS⟩
 ·show(_:aK T1).size=_;rw[hf];exact q1
 ·show VT E w G d (Array.getD _ j M2);rw[hf];exact q2 j d hj
theorem afp{o o':Obj}(h:w.heap[l]? = iN o):(w.putObj l o').putObj l o=w:=by
 have:(w.heap.setIfInBounds l o').setIfInBounds l o=w.heap:=by grind
 unfold World.putObj;simp[this]
theorem bQ.ar5(hX:X.Ok){Y:YD}(hY:∀Y',E.yd C.s.f Y'->Y'=Y)(h:∀x,ar4 X F C.s Y pl x=C.m x):C.H9 (Ye E X.P):=by
 intro x y hy;have h1:ar4 X F C.s Y pl x=iN y:=by rw[h x];exact hy
 intro w G args hP hB hS hV Y' fn l D xs tmps hY' hargs hsz hheap;have hY':=(hY Y' hY').symm;subst hY';subst hargs;obtain⟨hc,h1⟩:=dX h1;simp at hc;obtain⟨⟨⟨ha1,tL⟩,wY,nP⟩,hok⟩:=hc;have hf:¬ G.Fw l:=by
  rintro (hm|⟨z,hd,hm,hbk⟩)
  ·obtain⟨q,hq,he⟩:=lH hm;have hq2:q<(C.s.H (aV C.s.tys x)).length:=by rw[<-hB.len];exact hq
   exact akD hheap hok (ga hq2) (hB.box q l _ (by simp_all) (ga hq2))
  ·obtain⟨j,hj,he⟩:=lH hm;obtain⟨n,xs',ho,-,-⟩:=hB.grow j z hd (by simp_all);rcases ho.2 with⟨h2,-⟩|⟨g,cap,cur,h2,h3,h4,h5⟩
   ·rw[h2]at hbk;cases hbk
   ·rw[h2]at hbk;cases hbk;simp_all
 have HG:=Rel.atT hsz hP hB hS hV;have hpre:=HG.pre;refine roundIn_of_wpIn trivial ?_;refine wpIn_mono ((ve hX Y.assign .leaf h1) (iN l) (λ_=>ha1) w G _ w G HG) λe a1 w1 hp=>?_;obtain⟨x1,kg,G1,he,fB,hq,hF1⟩:=hp;cases x1<;>try trivial
 cases e<;>try (exact he.elim)
 obtain⟨hl1,hrt⟩:=fB.turn ⟨.busy,iF,fn,tmps,Y.params,Y.assign,Y.body,D⟩ hheap hf;refine⟨_,run_beginRound hl1 rfl,?_⟩;refine wpIn_mono ((ve hX Y.body pl hq) (iN l) (λ_=>wY) _ G a1 _ G1 hrt) λe a2 w2 hp=>?_;obtain⟨x2,Jq,G2,Y9,hr2,hq2,qT⟩:=hp;have fin:∀(p:O Outs)(y:OutP E C.s.out p),ar3 C.s (ado C.s Y (aV C.s.tys x)) p x2 Jq=iN y->x2=.normal/\∃v w',(Instr.endRound l iF).run X.P w2=.ok v w'/\Ah E w G (kY C.s (C.s.H (aV C.s.tys x)) p y) (.returned v) w':=by
  intro p y hk;cases p with
  | some q=>cases hk
  | none=>
   cases x2<;>try trivial
   refine⟨rfl,?_⟩;obtain⟨hl2,hr3⟩:=hr2.turn ⟨.ready,iF,fn,tmps,Y.params,Y.assign,Y.body,D⟩ (Rr (Bp.1 hheap).1) hf;rw[afp hheap]at hr3;refine⟨_,_,run_endRound iF hl2,?_⟩;have hF:Fr (wr Y.assign++wr Y.body) hJ (ado C.s Y (aV C.s.tys x)) Jq:=hF1.trans qT (λj hj=>by simp[hj]) (λj hj=>by simp[hj]) (λ_=>⟨tL,nP⟩);have hv:VT E (w2.putObj l (.loop ⟨.ready,iF,fn,tmps,Y.params,Y.assign,Y.body,D⟩)) G2 (.dat .bool hJ) (.bool hJ):=⟨VD.bool hJ,trivial⟩;obtain⟨G3,q1,q2,q3,q4,q5⟩:=Outs.Ie hX.E hpre rfl (hF.df rfl) hr3 hF hv hk;exact⟨.bool hJ,G3,rfl,q1,q2,q3,q4,q5⟩
 obtain⟨rfl,v,w',hend,hres⟩:=fin C.s.nj y hq2;cases e<;>try (exact Y9.elim)
 exact⟨v,w',hend,hres⟩
def Yj(P:bx):Inv:=λf args w R=>kX P f args w R
theorem Yj.mono(P:bx):(Yj P).ac4:=λf args w R R' h hi=>by
 unfold Yj kX at *;split at hi
 ·exact HC hi h
 ·exact h _ _ hi
 ·exact hi.elim
def bQ.Ok.gok(h:C.Ok P):C.H9 (Yj P):=λx y hy=>h x y hy
def M6(keep:J Nat)(t:J (TV E)):J (TV E):=t.zipIdx.map λp=>cond (keep.elem p.2) p.1 .any
noncomputable def runM(X:Cx E)(F:Nat):Code->fu->{R:Type}->TS E->(Ex E->TS E->O R)->O R
 | .seq a b,p,_,st,k=>match p with
  | .KK ow p q=>match uc (wr a++wr b) ow st with
   | none=>iF|some st=>runM X F a p st (jX (λst'=>runM X F b q st' k) k)
  | p=>runT X F (.seq a b) p st k
 | .block i a,p,_,st,k=>match p with
  | .adh p=>runM X F a p st (Wp i k)|p=>runT X F (.block i a) p st k
 | .rangeFunc g ps a b,p,_,st,k=>match p with
  | .range ow y f keep=>match uc [] ow st with
   | none=>iF|some st=>match st.ev g with
    | .func (.func f') caps=>cond (eI f f')
     (sP {st with H:=(st.H++[.Tb])++[.loop y (M6 keep st.t)],df:=(BR,[.vz st.H.length])::st.df} iF f (.vz (Ts st.H+1)::caps) (jX (λst'=>match st'.H[Ts st.H+1]? with
      | some (.loop _ _)=>k .normal {st' with H:=st'.H.set (Ts st.H+1) .gone,d:=(Ts st.H+1)::st'.d}
      | _=>iF) λ_ _=>iF) X.Γ) iF
    | _=>iF
  | _=>iF
 | c,p,_,st,k=>runT X F c p st k
def Ig(E:TEnv)(P:bx):Code->fu->Prop|.seq a b,.KK _ p q=>Ig E P a p/\Ig E P b q|.block _ a,.adh p=>Ig E P a p|.rangeFunc _ ps a b,.range _ y f _=>E.yd y ⟨ps,a,b⟩/\∀args w,(H4 f args).run P w=.ok (.enter f args) w|_,_=>True
def M7:Code->fu->J (Nat×H5×YD)|.seq a b,.KK _ p q=>M7 a p++M7 b q|.block _ a,.adh p=>M7 a p|.rangeFunc _ ps a b,.range _ y f _=>[(y,f,⟨ps,a,b⟩)]|_,_=>[]
def EV:Code->J Bool->O YD|.rangeFunc _ ps a b,_=>iN ⟨ps,a,b⟩|.seq a _,eQ::p=>EV a p|.seq _ b,hJ::p=>EV b p|.cond _ a _,eQ::p=>EV a p|.cond _ _ b,hJ::p=>EV b p|.block _ a,p=>EV a p|.scope a,p=>EV a p|.loop a,p=>EV a p|_,_=>iF
def Wu:Nat->Func->J Bool->YD
 | 0,f,p=>match f.body with
  | some c=>match EV c p with
   | some y=>y|none=>⟨#[],.skip,.skip⟩
  | none=>⟨#[],.skip,.skip⟩
 | n+1,f,p=>Wu n f p
def adp(E:TEnv)(P:bx)(t:Nat×H5×YD):Prop:=E.yd t.1 t.2.2/\∀args w,(H4 t.2.1 args).run P w=.ok (.enter t.2.1 args) w
theorem apR:∀(c:Code)(p:fu),(∀t∈M7 c p,adp E P t)->Ig E P c p:=by
 intro c
 induction c with
 | seq a b FU FV=>
  intro p h;cases p<;>try (simp[Ig];done)
  simp only[M7,ni]at h;exact⟨FU _ λt ht=>h t (.inl ht),FV _ λt ht=>h t (.inr ht)⟩
 | block i a ih=>
  intro p h;cases p<;>try (simp[Ig];done)
  exact ih _ h
 | rangeFunc g ps a b _ _=>
  intro p h;cases p<;>try (simp[Ig];done)
  simp only[M7,qn]at h;exact h _ rfl
 | _=>simp_all[Ig]
theorem ydC{t:Nat×H5×YD}{l:J (Nat×H5×YD)}(h:adp E P t)(hs:∀t∈l,adp E P t):∀t'∈t::l,adp E P t':=λt' ht=>by grind
variable{R:Type}{keep:J Nat}
theorem am2{t:J (TV E)}(hs:tmps.size=t.length)(h:∀j d,t[j]? = iN d->VT E w G d (tmps.getD j M2)):bO E w G (M6 keep t) tmps.toList:=by
 have key:∀(t:J (TV E))(vs:J T1)(n:Nat),Ts vs=t.length->(∀j d,t[j]? = iN d->VT E w G d (vs.getD j M2))->bO E w G ((t.zipIdx n).map λp=>cond (keep.elem p.2) p.1 .any) vs:=by
  intro t
  induction t with
  | nil=>intro vs n hl _;cases vs with|nil=>exact .nil|cons _ _=>cases hl
  | cons d t ih=>
   intro vs n hl h;cases vs with
   | nil=>cases hl
   | cons v vs=>
    rw[List.zipIdx_cons,jI];refine .cons ?_ (ih vs (n+1) (by simpa using hl) λj d' hj=>by simpa using h (j+1) d' (by simpa using hj));cases keep.elem n
    ·simp[VT]
    ·simpa using h 0 d rfl
 refine key t tmps.toList 0 (by simpa using hs) λj d hj=>?_;simp_all
def Rel.ar6(hr:Rel E w0 G0 st a w G):Rel E w G st a w G:=⟨mm.refl w G,hr.size,hr.tmps,hr.defers,hr.boxes,λ_ _ _ _=>rfl,hr.V5,hr.gO⟩
def Rel.over{w1 w2:U}{G1 G2:bB}{a1 a2:Act}{kg Jq:TS E}(h1:Rel E w0 G0 kg a1 w1 G1)(h2:Rel E w1 G1 Jq a2 w2 G2)(hd:∀q,q∈kg.d->q∈Jq.d):Rel E w0 G0 Jq a2 w2 G2:=⟨h1.fF.trans h2.fF,h2.size,h2.tmps,h2.defers,h2.boxes,λq b hq hn=>(h2.fix q b (h1.fF.goes.i q b hq) hn).trans (h1.fix q b hq λhm=>hn (hd q hm)),h1.pins,h2.gO⟩
theorem aiG(hX:X.Ok){g:Operand}{ps:Array Tmp}{ca cb:Code}{y:H5}{k:Ex E->TS E->Option R}{r:R}{ow:J Own}(h:runM X F (.rangeFunc g ps ca cb) (.range ow y f keep) st k=iN r)
  (hy:Ig E X.P (.rangeFunc g ps ca cb) (.range ow y f keep)):Jv E X.P (.rangeFunc g ps ca cb) st (λx st'=>k x st'=iN r/\Fr [] eQ st st'):=by
 obtain⟨hyd,hent⟩:=hy;simp only[runM]at h;split at h<;>try trivial
 rename_i nT Wv
 suffices hmain:Jv E X.P (.rangeFunc g ps ca cb) nT (λx st'=>k x st'=iN r/\Fr [] eQ nT st') by intro w0 G0 a w G hr;obtain⟨⟨GA,hrA⟩,hfA⟩:=o5 Wv hr;exact wp_mono (hmain w0 G0 a w GA hrA) λ_ _ _ hp=>cQ.mono (λx s' hh=>⟨hh.1,hfA.trans hh.2 (λ_ h=>h) (λ_ h=>h) (λh=>nomatch h)⟩) hp
 clear Wv;revert h;generalize nT=st;intro h;split at h<;>try trivial
 rename_i f' caps hg;cases hf:eI f f'<;>rw[hf]at h<;>simp only[aU,aJ]at h
 ·cases h
 obtain rfl:=eY hf;intro w0 G0 a w G hr;refine(wpIn_wide (n:=0)).1 (wpIn_rangeFunc λfn _=>?_);have hv:=hr.ev g;rw[hg]at hv;simp only[VT]at hv;obtain⟨cv,HZ,R5⟩:=hv;have hn1:=hr.Ln (.deferred (iN [])) .Tb (heap_alloc_new w _);have vw:jc (w.alloc (.deferred (iN []))) {G with i:=G.i++[w.heap.size]} ((w.alloc (.deferred (iN []))).alloc (.loop ⟨.ready,iF,fn,a.tmps,ps,ca,cb,w.heap.size⟩)) {G with i:=G.i++[w.heap.size]}:=⟨λ_ _ h=>h,λb o v hp hv=>(Rf ((fG.alloc _ _).2 b (hn1.boxes.gN b o hp).1)).trans hv,λ_ _ h=>h,λj x h hj=>⟨x,h,hj,eo _,λ_=>rfl⟩⟩;have atU:bO E ((w.alloc (.deferred (iN []))).alloc (.loop ⟨.ready,iF,fn,a.tmps,ps,ca,cb,w.heap.size⟩)) {G with i:=G.i++[w.heap.size]} (M6 keep st.t) a.tmps.toList:=am2 hr.size λj d hj=>(hn1.tmps j d hj).mono vw;have hn2:=hn1.Ln (.loop ⟨.ready,iF,fn,a.tmps,ps,ca,cb,w.heap.size⟩) (.loop y (M6 keep st.t)) ⟨⟨ps,ca,cb⟩,fn,a.tmps,w.heap.size,hyd,heap_alloc_new _ _,atU⟩;have hlen:=hr.boxes.len;obtain⟨G2,hG2⟩:∃G2:bB,{G with i:=(G.i++[w.heap.size])++[(w.alloc (.deferred (iN []))).heap.size]} = G2:=⟨_,rfl⟩;obtain⟨W1,hW1⟩:∃W1,(w.alloc (.deferred (iN []))).alloc (.loop ⟨.ready,iF,fn,a.tmps,ps,ca,cb,w.heap.size⟩)=W1:=⟨_,rfl⟩;have hn2:Rel E w0 G0 {st with H:=(st.H++[.Tb])++[.loop y (M6 keep st.t)]} a W1 G2:=by simp_all
 have hi0:G2.i[Ts st.H]? = iN w.heap.size:=by grind
 have hi1:G2.i[Ts st.H+1]? = iN (w.heap.size+1):=by rw[<-hG2];simp_all
 have hn3:Rel E w0 G0 {st with H:=(st.H++[.Tb])++[.loop y (M6 keep st.t)],df:=(BR,[.vz st.H.length])::st.df} {a with defers:={target:=.collected w.heap.size,args:=#[]} :: a.defers} W1 G2:=⟨hn2.fF,hn2.size,hn2.tmps,⟨.inr ⟨rfl,w.heap.size,rfl,.cons (by simp_all[VT]) .nil⟩,hn2.defers⟩,hn2.boxes,hn2.fix,hn2.pins,hn2.gO⟩;have hargs:bO E W1 G2 (.vz (Ts st.H+1)::caps) ((#[.func (.yield (w.heap.size+1)) #[] #[]]:Array T1)++cv).toList:=by
  have sE:=hn3.ev g;have e1:TS.ev {st with H:=(st.H++[.Tb])++[.loop y (M6 keep st.t)],df:=(BR,[.vz st.H.length])::st.df} g=.func (.func f) caps:=hg;rw[e1]at sE;simp only[VT]at sE;obtain⟨cv2,ar7,ar8⟩:=sE;have e2:Act.eval {a with defers:={target:=.collected w.heap.size,args:=#[]} :: a.defers} g=a.eval g:=rfl;rw[e2,HZ]at ar7;cases ar7;have:((#[.func (.yield (w.heap.size+1)) #[] #[]]:Array T1)++cv).toList=.func (.yield (w.heap.size+1)) #[] #[]::cv.toList:=by simp
  rw[this];exact .cons (by simp_all[VT]) ar8
 have hI:=EU hX.E (Yj.mono X.P) (λC hC=>(hX.Γ C hC).gok) h _ _ _ _ _ _ hn3.ar6 hargs;unfold Yj kX at hI;rw[hent]at hI;have hC:=hI;refine⟨w.heap.size+1,[{target:=.collected w.heap.size,args:=#[]}],W1,{target:=.fn (.func f) cv,args:=#[.func (.yield (w.heap.size+1)) #[] #[]]},W1,f,#[.func (.yield (w.heap.size+1)) #[] #[]]++cv,W1,(by simp_all[run_enterLoop_outer]),?_,λ_ _=>trivial,?_,(λh=>nomatch h),(callsIn_wide (n:=0)).2 (HC hC λe w3 he=>?_)⟩
 ·simp only[resolve,HZ];simp[go_sem]
 ·simp[invoke,go_sem,hent]
 rcases he with⟨v,st',G',rfl,hR,hk,hF⟩|⟨x,st',hne,hk⟩
 rotate_left
 ·grind
 simp only[jX]at hk;split at hk<;>try trivial
 rename_i y' ds' atV;have hat:G'.i[Ts st.H+1]? = iN (w.heap.size+1):=hR.fF.goes.i _ _ hi1;obtain⟨Y',fn',tmps',D',hY',hheap,-⟩:=hR.box hat atV;have hlt:w.heap.size+1<w3.heap.size:=(Bp.1 hheap).1;have hS:=hR.zI (w':=w3.putObj (w.heap.size+1) (.loop ⟨.exhausted,iF,fn',tmps',Y'.params,Y'.assign,Y'.body,D'⟩)) hat si rfl rfl rfl (λb' hb=>Kp hb) (x:=.gone)
  (λ_=>⟨_,Rr hlt,λcs t m e=>by cases e⟩)
 obtain⟨D2,hD2,hH2⟩:=hF.d
 have hO:=Rel.over hn3 hS (λq hq=>by
  grind)
 refine⟨iF,_,run_endLoop hheap (λe=>nomatch e),?_⟩;refine⟨.normal,_,G',trivial,hO,hk,?_⟩;refine⟨hF.len,λi hi=>hF.keep i (λh=>by cases h),⟨(Ts st.H+1)::D2,by grind,λq hq hd=>?_⟩,?_,λh=>nomatch h⟩
 ·grind
 grind
theorem aiH(hX:X.Ok):∀(c:Code)(p:fu){R:Type}{st:TS E}{k:Ex E->TS E->Option R}{r:R},runM X F c p st k=iN r->Ig E X.P c p->Jv E X.P c st (λx st'=>k x st'=iN r/\Fr (wr c) eQ st st'):=by
 have base:∀(c:Code)(p:fu){R:Type}{st:TS E}{k:Ex E->TS E->Option R}{r:R},runT X F c p st k=iN r->Jv E X.P c st (λx st'=>k x st'=iN r/\Fr (wr c) eQ st st'):=λc p R st k r h w0 G0 a w G hr=>wp_mono ((ve hX c p h).wp hr) λ_ _ _ hp=>cQ.mono (λx s hh=>⟨hh.1,hh.2.wide (λ_ h=>h) (λh=>nomatch h)⟩) hp;intro c
 induction c with
 | seq a b FU FV=>
  intro p R st k r h hy;cases p with
  | KK ow p q=>
   simp[runM]at h;split at h<;>try trivial
   rename_i nT Wv;intro w0 G0 ac w G hr;obtain⟨⟨GA,hrA⟩,hfA⟩:=o5 Wv hr;refine wp_mono (Q:=cQ E w0 G0 (λx st'=>k x st'=iN r/\Fr (wr (.seq a b)) eQ nT st')) ?_ λ_ _ _ hp=>cQ.mono (λx s' hh=>⟨hh.1,hfA.trans hh.2 (λ_ h=>h) (λ_ h=>h) (λh=>nomatch h)⟩) hp;revert GA h;generalize nT=st;intro h G hr;refine wp_seq (wp_mono (FU p h hy.1 w0 G0 ac w G hr) λe a' w' hp=>?_);obtain⟨x,s,G',he,hr',hq,hf⟩:=hp;cases x with
   | normal=>
    cases e<;>try (exact he.elim)
    exact wp_mono (FV q hq hy.2 w0 G0 a' w' G' hr') λ_ _ _ hp=>cQ.mono (λx s' hh=>⟨hh.1,hf.trans hh.2 (λi hi=>by simp[wr,hi]) (λi hi=>by simp[wr,hi]) (λh=>nomatch h)⟩) hp
   | _=>have sO:cQ E w0 G0 (λx st'=>k x st'=iN r/\Fr (wr (.seq a b)) eQ st st') e a' w':=⟨_,s,G',he,hr',hq,hf.wide (λi hi=>by simp[wr,hi]) (λh=>h)⟩;cases e<;>first|exact he.elim|exact sO
  | _=>grind[runM]
 | block i a ih=>
  intro p R st k r h hy;cases p with
  | adh p=>
   intro w0 G0 ac w G hr;refine wp_block (wp_mono (ih p h hy w0 G0 ac w G hr) λe a' w' hp=>?_);obtain⟨x,s,G',he,hr',hq,hf⟩:=hp;cases x with
   | exit j=>
    cases e<;>try (exact he.elim)
    rename_i i';subst he;simp[Wp]at hq;simp[Exit.inBlock];cases hb:eI i' i<;>rw[hb]at hq<;>simp at hq
    ·have:i'≠i:=λe=>by simp_all
     rw[if_neg this];exact⟨.exit i',s,G',rfl,hr',hq,hf⟩
    ·rw[if_pos (eY hb)];exact⟨.normal,s,G',trivial,hr',hq,hf⟩
   | _=>have sO:cQ E w0 G0 (λx st'=>k x st'=iN r/\Fr (wr (.block i a)) eQ st st') e a' w':=⟨_,s,G',he,hr',hq,hf⟩;cases e<;>first|exact he.elim|exact sO
  | _=>grind[runM]
 | rangeFunc g ps a b _ _=>intro p R st k r h hy;cases p with|range ow y f keep=>exact aiG hX h hy|_=>simp_all[runM]
 | _=>grind[runM]
def Sc{R:Type}(k:TS E->Option R):J (H5×J (TV E))->TS E->Option R
 | [],st=>k {st with df:=[]}
 | (f,[.vz q])::df,st=>cond (eI f BR) (match st.H[q]? with
   | some .Tb=>Sc k df {st with H:=st.H.set q .gone,d:=q::st.d}
   | _=>iF) iF
 | _,_=>iF
def ar9(X:Cx E)(s:dm)(fn:Func)(bG:TS E):(p:O Outs)->Ex E->TS E->O (OutP E s.out p)|none,.ret,st=>Sc (λst=>(ry X st fn.results.toList).bind λds=>s.out.get bG st (sr ds)) st.df st|none,.normal,st=>Sc (λst=>(ry X st fn.results.toList).bind λds=>s.out.get bG st (sr ds)) st.df st|_,_,_=>iF
noncomputable def aiI(X:Cx E)(F:Nat)(s:dm)(fn:Func)(pl:fu)(x:dens E s.tys):O (OutP E s.out s.nj):=match fn.body with|some c=>runM X F c pl (s.bG fn.ntmps (aV s.tys x)) (ar9 X s fn (s.bG fn.ntmps (aV s.tys x)) s.nj)|none=>iF
theorem Tn{P:Program}{fn:Func}{R:Type}{k:TS E->Option R}{r:R}{w0:World}{G0:bB}{tmps:Array T1}{RR:Ending->World->Prop}:∀(df:J (H5×J (TV E)))(st:TS E)(ds:J Deferred)(w:World)(G:bB),Sc k df st=iN r ->
  Rel E w0 G0 {st with df:=df} {tmps:=tmps,defers:=ds} w G ->
  (∀(st':TS E)(w':World)(G':bB),k {st' with df:=[]} = iN r->Rel E w0 G0 {st' with df:=[]} {tmps:=tmps,defers:=[]} w' G'->Fr [] eQ st st'->∃v,(results fn tmps).run P w'=.ok v w'/\RR (.returned v) w') ->
  LeavesInM Fence.wide 0 P fn tmps RR ds .returning w
 | [],st,ds,w,G,h,hr,hk=>by
  have:ds=[]:=by have:=hr.defers;cases ds with|nil=>rfl|cons _ _=>exact this.elim
  subst this;exact hk st w G h hr (Fr.refl _ _ _)
 | (f,dv)::df,st,ds,w,G,h,hr,hk=>by
  cases ds with|nil=>exact hr.defers.elim|cons d0 ds=>
  obtain⟨hd,eS⟩:=hr.defers
  obtain⟨q,hdv,h'⟩:∃q,dv=[.vz q]/\cond (eI f BR) (match st.H[q]? with
   | some .Tb=>Sc k df {st with H:=st.H.set q .gone,d:=q::st.d}
   | _=>iF) iF=iN r:=by
   cases dv with
   | nil=>cases h
   | cons z zs=>
    cases zs with
    | cons _ _=>cases z<;>cases h
    | nil=>cases z<;>first|(cases h;done)|exact⟨_,rfl,h⟩
  subst hdv;cases hc:eI f BR<;>rw[hc]at h'<;>simp only[aU,aJ]at h'
  ·cases h'
  split at h'<;>try (cases h';done)
  rename_i hq
  obtain⟨-,b,rfl,hv⟩:=hd.resolve_left (λhh=>by
   simp_all)
  obtain⟨u,us,he,h1,-⟩:=hv.cons_inv;cases he;obtain⟨b',he,hat⟩:=h1;cases he;have Pt:=hr.box hat hq;have hlt:=(Bp.1 Pt).1;have hS:=hr.zI (w':=w.putObj b (.deferred iF)) hat si rfl rfl rfl (λb' hb=>Kp hb) (x:=.gone) (λ_=>⟨_,Rr hlt,λcs t m e=>by cases e⟩);refine⟨(λe=>nomatch e),.inl ⟨b,_,rfl,run_takeDeferred Pt,?_⟩⟩;refine Tn df {st with H:=st.H.set q .gone,d:=q::st.d} ds _ G h' ⟨hS.fF,hS.size,hS.tmps,hS.defers.2,hS.boxes,hS.fix,hS.pins,hS.gO⟩ λst' w' G' h1 h2 h3=>hk st' w' G' h1 h2 ?_;have f1:Fr [] eQ st {st with H:=st.H.set q .gone,d:=q::st.d}:=⟨rfl,λ_ _=>rfl,⟨[q],rfl,λj hj hd=>Mb (λe=>hd (by simp[e]))⟩,si,λh=>nomatch h⟩;exact f1.trans h3 (λ_ h=>h) (λ_ h=>h) (λh=>nomatch h)
theorem afq(hX:X.Ok)(hf:X.P.funcs[s.f]? = iN fn)(hn:(fn.name == "runtime.NumGoroutine")=eQ)(hy:∀c,fn.body=iN c->Ig E X.P c pl)(h:aiI X F s fn pl x=iN y):
  mL X.P s.f (s.ds (aV s.tys x)) (s.H (aV s.tys x)) s.g0 (s.c (aV s.tys x)) (kY s (s.H (aV s.tys x)) s.nj y):=by
 unfold aiI at h;split at h<;>try trivial
 rename_i c hb;intro w G args hP hB hS hV;have HG:=Rel.init (n:=fn.ntmps) hP hB hS hV;have hpre:=HG.pre;refine uM hf hb hn ((callsIn_wide).1 (callsIn_of_wp_marks hf hb trivial ((wpIn_wide (n:=0)).2 (wp_mono (aiH hX c pl h (hy c hb) w G _ w G HG) λe a' w' hp=>?_))));obtain⟨ex,st,G',he,hr,hk,hF⟩:=hp;have fin:∀(p:Option Outs)(y:OutP E s.out p),ar9 X s fn (s.bG fn.ntmps (aV s.tys x)) p ex st=iN y->(ex=.ret\/ex=.normal)/\LeavesInM Fence.wide 0 X.P fn a'.tmps (Ah E w G (kY s (s.H (aV s.tys x)) p y)) a'.defers .returning w':=by
  intro p y hk;cases p with
  | some q=>cases ex<;>cases hk
  | none=>
   have main:Sc (λst=>(ry X st fn.results.toList).bind λds=>s.out.get (s.bG fn.ntmps (aV s.tys x)) st (sr ds)) st.df st=iN y->LeavesInM Fence.wide 0 X.P fn a'.tmps (Ah E w G (kY s (s.H (aV s.tys x)) iF y)) a'.defers .returning w':=λhk=>
    Tn st.df st a'.defers w' G' hk hr λst' w2 G2 h1 h2 h3=>by
     have hF3:Fr (wr c) eQ (s.bG fn.ntmps (aV s.tys x)) st':=hF.trans h3 (λ_ h=>h) (λ_ h=>by cases h) (λh=>nomatch h);cases hds:ry X {st' with df:=[]} fn.results.toList with
     | none=>rw[hds]at h1;cases h1
     | some ds=>rw[hds]at h1;obtain⟨v,hv,hrun⟩:=Br hX h2 hds;have hF4:Fr (wr c) eQ (s.bG fn.ntmps (aV s.tys x)) {st' with df:=[]}:=⟨hF3.len,hF3.keep,hF3.d,hF3.hl,λh=>nomatch h⟩;obtain⟨G3,q1,q2,q3,q4,q5⟩:=Outs.Ie hX.E (st:={st' with df:=[]}) hpre rfl rfl h2 hF4 hv h1;exact⟨v,hrun,v,G3,rfl,q1,q2,q3,q4,q5⟩
   cases ex<;>try trivial
   ·exact⟨.inr rfl,main hk⟩
   ·exact⟨.inl rfl,main hk⟩
 obtain⟨hex,hl⟩:=fin s.nj y hk;rcases hex with rfl|rfl<;>cases e<;>first|exact he.elim|exact hl
theorem bQ.asa(hX:X.Ok)(hf:X.P.funcs[C.s.f]? = iN fn)(hn:(fn.name == "runtime.NumGoroutine")=eQ){c:Code}(hc:fn.body=iN c){l:J (Nat×H5×YD)}(hl:M7 c pl=l)(hy:∀t∈l,adp E X.P t)
  (h:∀x,aiI X F C.s fn pl x=C.m x):C.Ok X.P:=
 λx y hyy=>afq hX hf hn (λc' tA=>by rw[hc]at tA;cases tA;exact apR c pl (by rw[hl];exact hy)) (by rw[h x];exact hyy)
def aD(n:Int):Int:=dO .i64 n
def sl{α:Type}(l:J α)(p q:Int):J α:=(l.take q.toNat).drop p.toNat
def dc{α:Type}[BEq α](a b:α):Bool:=a==b
theorem bQ.abA(hX:X.Ok)(hf:X.P.funcs[C.s.f]? = iN fn)(hn:(fn.name == "runtime.NumGoroutine")=eQ)(h:∀x,adm X F C.s fn pl x=C.m x):C.Ok X.P:=λx y hy=>aiF hX hf hn (by rw[h x];exact hy)
def iQ:∀C∈([]:J (bQ E)),C.Ok P:=λ_ h=>nomatch h
theorem cu{C:bQ E}{Γ:J (bQ E)}(h:C.Ok P)(hs:∀C∈Γ,C.Ok P):∀C'∈C::Γ,C'.Ok P:=λC' hC=>by
 rcases hU.1 hC with rfl|hC
 ·exact h
 ·exact hs C' hC
def tyS(l:J Nat)(ty:aL->O Ty):aL->O Ty:=λt=>cond (iO 2000000 t) (cond (l.elem (t-2000000)) (iN .bool) iF) (ty t)
def Y4(F:Nat)(s:J UInt8)(c:Int):O Int:=iN (lO s c.toNat.toUInt8)
def ibS(f:H5):dm:=⟨f,[.one (.dat .str),.one (.dat (.int .u8))],[],[],⟨.one (.dat (.int .i64)),[],[],[]⟩,iF,[]⟩
def ibC(E:TEnv)(f:H5)(F:Nat):bQ E:=⟨ibS f,λ(x:J UInt8×Int)=>Y4 F x.1 x.2⟩
theorem as4(h:∀args w,(H4 f args).run P w=((Extern.BytealgIndexByte.indexByte args).run P w).andThen λv w'=>.ok (.value v) w')(F:Nat):(ibC E f F).Ok P:=by
 have key:∀(s:J UInt8)(c:Int),mL (E:=E) P f [.dat .str s,.dat (.int .u8) c] [] [] [] ⟨hJ,.dat (.int .i64) (lO s c.toNat.toUInt8),[],[],[],[]⟩:=by
  intro s c w G args hP hB hS hv;obtain⟨u,us,he,h1,h2⟩:=hv.cons_inv;obtain⟨u2,U5,Y9,h3,h4⟩:=h2.cons_inv;have h4:U5=[]:=by simpa only[bO]using h4
  have e1:=h1.iS;have e2:=h3.gq;subst e1 e2 h4 Y9;have ha:args=#[mkStr s,.int .u8 c]:=by apply UQ;exact he
  subst ha;have hrun:(H4 f #[mkStr s,.int .u8 c]).run P w=.ok (.value (.int .i64 (lO s c.toNat.toUInt8))) w:=by rw[h,mkStr,Lib.run_indexByteString];rfl
  unfold kX;rw[hrun];exact⟨.int .i64 (lO s c.toNat.toUInt8),G,rfl,mm.refl w G,hB,hS,.int _ _ _ _,λ_ _ _ _=>rfl⟩
 intro x y hy;obtain⟨s,c⟩:=x;have hy:iN (lO s (eJ c).toUInt8)=iN y:=hy;cases hy;exact key s c
def neF(F:Nat):O Unit:=iN ()
def neS(f:H5)(b:BT)(rows:J (aL×Nat)):dm:=⟨f,[.one (.ptr 0 0)],[b],rows,⟨.one (.ptr 0 0),[iF],rows.map λ_=>iF,[]⟩,iF,[]⟩
def neC(E:TEnv)(f:H5)(b:BT)(rows:J (aL×Nat)):bQ E:=⟨neS f b rows,λ_=>iN ()⟩
theorem Qg:∀(rows:J (aL×Nat))(g:J cV),g.length=rows.length->eu (rows.map λ_=>iF) g=g|[],[],_=>rfl|_::rows,x::g,h=>by have:=Qg rows g (by simpa using h);simp only[jI,eu,this]
theorem atW{b:BT}{rows:J (aL×Nat)}(h:∀v w,(H4 f #[v]).run P w=.ok (.value v) w):(neC E f b rows).Ok P:=by
 intro x y _;intro w G args hP hB hS hv;have hv:bO E w G [.ptr 0 0] args.toList:=hv;obtain⟨u,us,he,h1,h2⟩:=hv.cons_inv;have h2:us=[]:=by simpa only[bO]using h2
 subst h2;have ha:args=#[u]:=by apply UQ;exact he
 subst ha;show kX P f #[u] w _;unfold kX;rw[h];refine⟨u,G,rfl,mm.refl w G,?_,hS,h1,λ_ _ _ _=>rfl⟩;have e:eu (rows.map λ_=>iF) (neS f b rows).g0=(neS f b rows).g0:=Qg rows _ (by simp[dm.g0,neS]);show mY E w G _ (eu (rows.map λ_=>iF) (neS f b rows).g0);rw[e];exact hB
def Ww(P:bx):Inv:=λf args w R=>(∀args w,(H4 f args).run P w=.ok (.enter f args) w)/\∀u,CallsD P f args u w (λe u' w'=>u'=u/\R e w')
def akE(u:FrameMode)(v:T1):Prop:=(u=.returning/\v=.nilIface)\/u=.panicking [{v:=v,recovered:=eQ}]
def EW(P:bx):Inv:=λf aoN w R=>(∀args w,(H4 f args).run P w=.ok (.enter f args) w) /\
 ∀(v:T1)(args:aK T1)(u:FrameMode),aoN.toList=v::args.toList->akE u v->CallsD P f args u w (λe u' w'=>settle u'=.returning/\R e w')
theorem Ww.mono(P:bx):(Ww P).ac4:=λf args w R R' h hi=>⟨hi.1,λu=>(hi.2 u).mono λe u' w' hh=>⟨hh.1,h _ _ hh.2⟩⟩
theorem EW.mono(P:bx):(EW P).ac4:=λf args w R R' h hi=>⟨hi.1,λv args u h1 h2=>(hi.2 v args u h1 h2).mono λe u' w' hh=>⟨hh.1,h _ _ hh.2⟩⟩
structure Dx(E:TEnv) where
 o:List (bQ E)
 r:List (bQ E)
structure Dx.Ok(P:Program)(D:Dx E):Prop where
 o:∀C∈D.o,C.H9 (Ww P)
 r:∀C∈D.r,C.H9 (EW P)
def me:O (TV E)->J (H5×J (TV E))|none=>[]|some d=>[(0,[d])]
def am3:O (TV E)->TV E|none=>.val .nilIface|some d=>d
def EY{R:Type}(D:Dx E)(k:O (TV E)->TS E->O R):J (H5×J (TV E))->O (TV E)->TS E->O R
 | [],m,st=>k m {st with df:=[]}
 | (f,ds)::df,m,st=>cond (eI f BR) iF <| cond (D.r.any λC=>eI C.s.f f)
   (sP {st with df:=df} iF f (am3 m::ds) (jX (λst'=>EY D k df iF st') λ_ _=>iF) D.r)
   (sP {st with df:=df++me m} iF f ds (jX (λst'=>EY D k df m st') λ_ _=>iF) D.o)
inductive Sd:Option (TV E)->List Deferred->FrameMode->Prop
 | ret:Sd iF [] .returning
 | nj (d:TV E) (v:T1):Sd (iN d) [{target:=.fn (.func 0) #[],args:=#[v]}] (.panicking [{v:=v,recovered:=eQ}])
theorem kW.app{w:U}{G:bB}:∀ {a b:J Deferred}{x y:J (H5×J (TV E))},a.length=x.length->kW E w G (a++b) (x++y)->kW E w G a x/\kW E w G b y
 | [],b,[],y,_,h=>⟨trivial,h⟩|d::a,b,z::x,y,hl,h=>by obtain⟨h1,h2⟩:=h;obtain⟨h3,h4⟩:=kW.app (by simpa using hl) h2;exact⟨⟨h1,h3⟩,h4⟩
theorem kW.len{w:U}{G:bB}:∀ {a:J Deferred}{x:J (H5×J (TV E))},kW E w G a x->a.length=x.length|[],[],_=>rfl|_::a,_::x,h=>by simp[kW.len h.2]|[],_::_,h=>h.elim|_::_,[],h=>h.elim
def Fr.aiJ(st:TS E)(y:J (H5×J (TV E)))(W:J Nat):Fr W eQ st {st with df:=y}:=⟨rfl,λ_ _=>rfl,⟨[],rfl,λ_ _ _=>rfl⟩,eo _,λh=>nomatch h⟩
def Rel.Wx{y:J (H5×J (TV E))}{ds:J Deferred}(h:Rel E w0 G0 st a w G)(hd:kW E w G ds y):Rel E w0 G0 {st with df:=y} {a with defers:=ds} w G:=⟨h.fF,h.size,h.tmps,hd,h.boxes,h.fix,h.pins,h.gO⟩
theorem Ih(hE:E.Ok){P:Program}{fn:Func}{D:Dx E}(hD:D.Ok P){R:Type}{k:Option (TV E)->TS E->Option R}{r:R}{w0:World}{G0:bB}{tmps:Array T1}{RR:Ending->World->Prop}:
  ∀(df:J (H5×J (TV E)))(m:Option (TV E))(st:TS E)(ds mv:J Deferred)(u:FrameMode)(w:World)(G:bB),EY D k df m st=iN r->Ts ds=df.length ->
   Rel E w0 G0 {st with df:=df++me m} {tmps:=tmps,defers:=ds++mv} w G->Sd m mv u ->
   (∀(m':Option (TV E))(st':TS E)(mv':J Deferred)(u':FrameMode)(w':World)(G':bB),k m' {st' with df:=[]} = iN r->Rel E w0 G0 {st' with df:=me m'} {tmps:=tmps,defers:=mv'} w' G'->Sd m' mv' u'->Fr [] eQ st st'->Leaves P fn tmps RR [] u' w') ->
   Leaves P fn tmps RR ds u w
 | [],m,st,ds,mv,u,w,G,h,hl,hr,hm,hk=>by
  have:ds=[]:=by simp_all
  subst this;exact hk m st mv u w G h hr hm (Fr.refl _ _ _)
 | (f,dv)::df,m,st,ds,mv,u,w,G,h,hl,hr,hm,hk=>by
  cases ds with
  | nil=>cases hl
  | cons d0 ds=>
  have hl':Ts ds=df.length:=by simpa using hl
  have iW:=hr.defers;obtain⟨hdo,asb⟩:=iW;simp[EY]at h;cases aip:eI f BR<;>rw[aip]at h<;>simp only[aU,aJ]at h
  rotate_left
  ·cases h
  obtain⟨-,cap,am4,hargs⟩:=hdo.resolve_right (λhh=>by
   simp_all)
  have hu:u≠.run:=by cases hm<;>(intro e;cases e)
  have hinv:(∀args w,(H4 f args).run P w=.ok (.enter f args) w)->(invoke d0.target d0.args).run P w=.ok (.enter f (d0.args++cap)) w:=λhe=>by rw[am4];have:=he (d0.args++cap) w;simpa[invoke]using this
  cases hc:(D.r.any λC=>eI C.s.f f)<;>rw[hc]at h<;>simp at h
  ·have fB:=hr.Wx asb;have hI:=EU hE (Ww.mono P) hD.o h w0 G0 _ w G (d0.args++cap) fB hargs;refine⟨hu,.func f,cap,f,d0.args++cap,am4,hinv hI.1,(hI.2 u).mono λe u' w' hh=>?_⟩;obtain⟨rfl,hh⟩:=hh;rcases hh with⟨v,st',G',rfl,hR,hkk,hF⟩|⟨x,st',hne,hkk⟩
   ·have nZ:settle u'=u':=by cases hm<;>rfl
    show Leaves P fn tmps RR ds (settle u') w';rw[nZ];have hdf:st'.df=df++me m:=hF.df rfl;have hR':Rel E w0 G0 {st' with df:=df++me m} {tmps:=tmps,defers:=ds++mv} w' G':=by rw[<-hdf];exact hR
    refine Ih hE hD df m st' ds mv u' w' G' hkk hl' hR' hm λm' Jq mv' u2 w2 G2 h1 h2 h3 qT=>hk m' Jq mv' u2 w2 G2 h1 h2 h3 ?_;exact((Fr.aiJ st (df++me m) []).trans hF (n:=eQ) (λ_ h=>h) (λ_ h=>h) (λh=>nomatch h)).trans qT (λ_ h=>h) (λ_ h=>h) (λh=>nomatch h)
   grind
  ·obtain⟨ZK,ZL⟩:=kW.app hl' asb;have fB:=hr.Wx ZK;have hv:∃v,akE u v/\VT E w G (am3 m) v:=by
    cases hm with
    | ret=>exact⟨.nilIface,.inl ⟨rfl,rfl⟩,by simp[am3,VT]⟩|nj d v=>refine⟨v,.inr rfl,?_⟩;obtain⟨am5,-⟩:=ZL;obtain⟨-,cap',ht',jT⟩:=am5.resolve_right (λhh=>absurd (show(0:Nat)=BR from hh.1) de);obtain⟨u1,us,he,h1,-⟩:=jT.cons_inv;simp at he;obtain⟨rfl,-⟩:=he;exact h1
   obtain⟨v,hmo,hvt⟩:=hv
   have hI:=EU hE (EW.mono P) hD.r h w0 G0 _ w G (#[v]++(d0.args++cap)) fB (by
    have:(#[v]++(d0.args++cap)).toList=v::(d0.args++cap).toList:=by simp
    rw[this];exact .cons hvt hargs)
   refine⟨hu,.func f,cap,f,d0.args++cap,am4,hinv hI.1,(hI.2 v (d0.args++cap) u si hmo).mono λe u' w' hh=>?_⟩;obtain⟨nZ,hh⟩:=hh;rcases hh with⟨v,st',G',rfl,hR,hkk,hF⟩|⟨x,st',hne,hkk⟩
   ·show Leaves P fn tmps RR ds (settle u') w';rw[nZ];have hdf:st'.df=df:=hF.df rfl;have hR':Rel E w0 G0 {st' with df:=df++me iF} {tmps:=tmps,defers:=ds++[]} w' G':=by simp[me];rw[<-hdf];exact hR
    refine Ih hE hD df iF st' ds [] .returning w' G' hkk hl' hR' .ret λm' Jq mv' u2 w2 G2 h1 h2 h3 qT=>hk m' Jq mv' u2 w2 G2 h1 h2 h3 ?_;exact((Fr.aiJ st df []).trans hF (n:=eQ) (λ_ h=>h) (λ_ h=>h) (λh=>nomatch h)).trans qT (λ_ h=>h) (λ_ h=>h) (λh=>nomatch h)
   grind
