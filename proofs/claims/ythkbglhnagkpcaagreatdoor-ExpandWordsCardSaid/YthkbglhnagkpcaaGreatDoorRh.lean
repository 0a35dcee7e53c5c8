import Derived.Test.YthkbglhnagkpcaaGreatDoorRf
import Derived.Sort.Row
import Derived.OrdersHeld
import Derived.Lib.ConvBytes
import Derived.Scope
import Derived.Lib.Bytealg
import Derived.Recover
open Go.Region renaming wanted->pC,ready->pB,binds->pA
open Go.Lib renaming indexByte->lO
open Array renaming replicate->lA
open Nat renaming ble->iO,beq->dO,blt->bY
open Option renaming some->iN,none->iF
open Bool renaming true->eQ,false->eK
open Decidable renaming decide->eJ
open Int renaming toNat->eI
open Go.IntKind renaming wrap->dE
open List renaming range->aT,length->Sx
open Go renaming Value->R0,execOp->M2,undef->H5,FuncId->H4,callFunc->H3,Oper->H2,wpList->Ts
set_option linter.all false
namespace Go.RT
variable {E : TEnv}
def Av(E:TEnv)(w:U)(G:bC)(r:ads E)(e:Ending)(w':U):Prop:=∃v G',e=EG r.ok v/\mj w G w' G'/\mX E w' G' r.H r.g/\lS E w' G' r.c/\VT E w' G' r.d v/\∀(q b:Nat),G.i[q]? = iN b->q∉r.D->w'.heap[b]? = w.heap[b]?
def Inv:=H4->aJ R0->U->(Ending->U->Prop)->Prop
def Inv.adC(I:Inv):Prop:=∀f args w (R R':Ending->U->Prop),(∀e w',R e w'->R' e w')->I f args w R->I f args w R'
def AGC(E:TEnv)(I:Inv)(f:H4)(ds:J (TV E))(H:J (gu E))(gs:J cU)(cs:J (Nat×Cn E))(r:ads E):Prop:=∀(w:U)(G:bC)(args:aJ R0),rj E w G->mX E w G H gs->lS E w G cs->bO E w G ds args.toList->I f args w (Av E w G r)
def bL.IE(I:Inv)(C:bL E):Prop:=∀x y,C.m x=iN y->AGC E I C.s.f (C.s.ds (aV C.s.tys x)) (C.s.H (aV C.s.tys x)) C.s.g0 (C.s.c (aV C.s.tys x)) (lB C.s (C.s.H (aV C.s.tys x)) C.s.nq y)
variable{st:TS E}
theorem Fh(hE:E.Ok){I:Inv}(hI:I.adC){R:Type}{f:H4}{ds:J (TV E)}{dst:Option Nat}{k:Ex E->TS E->Option R}{r:R}:
  ∀ {Γ:J (bL E)},(∀C∈Γ,C.IE I)->s7 st dst f ds k Γ=iN r->∀(w0:World)(G0:bC)(a:Act)(w:World)(G:bC)(args:Array R0),Rel E w0 G0 st a w G->bO E w G ds args.toList ->
   I f args w (λe w'=>(∃v st' G',e=.returned v/\Rel E w0 G0 st' (a.put dst v) w' G'/\k .normal st'=iN r/\Fr (jd dst) eQ st st')\/∃x st',x≠.normal/\k x st'=iN r)
 | [],_,h=>by cases h
 | C::Γ,hΓ,h=>by
  have eU:s7 st dst f ds k Γ=iN r->_:=Fh hE hI (λC' hC=>hΓ C' (by simp[hC]));simp[s7]at h;cases hf:dO C.s.f f<;>rw[hf]at h<;>simp at h
  .exact eU h
  have hf:=fm hf;obtain⟨WW,kg,hhs⟩:∃WW kg,zZ C.s.args ds st=(WW,kg):=⟨_,_,rfl⟩;rw[hhs]at h;split at h
  .rename_i ls hls;split at h
   .rename_i xx hxx;generalize Dl:sP (C.s.eA kg WW).b=bs at *;generalize hgs:sP (C.s.eA kg WW).g=gs at *;obtain⟨hwf,h⟩:=dX h;cases hm:C.m xx with
    | none=>rw[hm]at h;cases h
    | some y=>
     intro w0 G0 a w G0' args hr QM;obtain⟨Ta,G,fC,vT,hvs⟩:=QJ C.s.args ds hr;have hargs:=hvs _ QM;rw[hhs]at fC hargs Ta;have hr:=fC;have hnd:bs.Nodup/\gs.Nodup/\bs.length=C.s.boxes.length/\C.s.rows.length=Sx gs:=by
      unfold dB.enter at hls;split at hls<;>try trivial
      rename_i H g hH hg;cases pn:(xZ bs&&(xZ gs&&(dO bs.length C.s.boxes.length&&AU C.s.rows g)))<;>rw[pn]at hls<;>simp only[aQ]at hls
      .cases hls
      simp only[cH]at pn;exact⟨ya pn.1,ya pn.2.1,fm pn.2.2.1,by rw[(EH pn.2.2.2).1,(tD hg).1]⟩
     obtain⟨is,gg,hi,Cm,hB,hS,hV⟩:=hr.enter hE hls hargs;have hput:=Fc _ hxx;have hok:=hΓ C si xx y hm w (G.eA is gg) args (hr.WU.eA hi Cm) (by rw[hput];exact hB) (by rw[hput];exact hS) (by rw[hput];exact hV);have hg0:=hB.gs;have hwf':∀(q:Outs),q.wf bs.length gs.length=eQ->AV bs.length q.boxes=eQ/\gs.length<=q.rows.length:=λq hq=>by simp_all[Outs.wf]
     unfold dB.wf at hwf;rw[cH]at hwf;have QN:∀(y:dens E C.s.out.tys)(e:Ending)(w':World),okK C.s.out bs gs kg dst k y=iN r ->
       Av E w (G.eA is gg) (C.s.out.nY eQ (C.s.H (aV C.s.tys xx)) C.s.g0 (aV C.s.out.tys y)) e w' ->
       ∃v st' G',e=.returned v/\Rel E w0 G0 st' (a.put dst v) w' G'/\k .normal st'=iN r/\Fr (jd dst) eQ st st':=by
      rintro y e w' hk ⟨v1,G',he,hE,Cv,WY,WZ,NG⟩;subst he;obtain⟨hs1,hs2⟩:=hwf' _ hwf.1;rw[<-hg0]at Cv WY WZ;obtain⟨Gn,hR,hval⟩:=hr.leave hi Cm hnd.1 hnd.2.1 C.s.out hs1 hs2 hE Cv WY WZ NG;exact⟨v1,_,Gn,rfl,hR.put hval dst,hk,(C.s.out.U3 bs gs kg _ dst _).ofC Ta⟩
     have fin:∀(p:Option Outs)(hp:C.s.nq=p)(y:OutP E C.s.out p),adA C.s bs gs kg dst k p y=iN r->I f args w (Av E w (G.eA is gg) (lB C.s (C.s.H (aV C.s.tys xx)) p y)) ->
       I f args w (λe w'=>(∃v st' G',e=.returned v/\Rel E w0 G0 st' (a.put dst v) w' G'/\k .normal st'=iN r/\Fr (jd dst) eQ st st')\/∃x st',x≠.normal/\k x st'=iN r):=by
      intro p hp y hk hi;refine hI _ _ _ _ _ (λe w' hR=>?_) hi;cases p with
      | none=>exact .inl (QN y e w' hk hR)|some q=>cases y with|inl y=>exact .inl (QN y e w' hk hR)|inr y=>exact .inr ⟨.panic (q.val bs gs kg (aV q.tys y)),_,(λh=>nomatch h),hk⟩
     grind
   .exact eU h
  .exact eU h
def YX(E:TEnv)(P:bw):Inv:=λf args w R=>∀(Y:YD)(fn l D:Nat)(xs tmps:aJ R0),E.yd f Y->args=xs++tmps->xs.size=Y.params.size ->
 w.heap[l]? = iN (.loop ⟨.ready,iF,fn,tmps,Y.params,Y.assign,Y.body,D⟩)->RoundIn Fence.wide 0 P l fn ((Y.params.zip xs).foldl (λt (p,v)=>t.setIfInBounds p v) tmps) Y.assign Y.body w R
theorem YX.mono(P:bw):(YX E P).adC:=λf args w R R' h hi Y fn l D xs tmps h1 h2 h3 h4=>(hi Y fn l D xs tmps h1 h2 h3 h4).mono h
def avy{E:TEnv}(P:bw)(Y:J (bL E)):Prop:=∀C∈Y,C.IE (YX E P)
structure VO(P:Program)(f:H4):Prop where
 enters:∀args w,(H3 f args).run P w=.ok (.enter f args) w
 call:∀(blk cap:Nat)(zs:List Int)(w:World),Sort.Holds (Value.int .u8) w blk 0 zs.toArray->zs.length<=9223372036854775807->Calls P f #[.slice (iN ⟨blk,0,iF⟩) zs.length cap] w λe w'=>e=.returned (.tuple #[])/\∃n,w'=Sort.putRow (Value.int .u8) (Sort.ahead w n) blk 0 zs.reverse.toArray
structure Cx(E:TEnv) where
 P:Program
 ty:TypeId->Option Ty
 Γ:List (bL E)
 Y:List (bL E):=[]
 rv:Option H4:=iF
structure Cx.Ok(X:Cx E):Prop where
 E:E.Ok
 Γ:∀C∈X.Γ,C.Ok X.P
 mix:X.P.follows .mixedOrders=eQ
 Y:avy X.P X.Y:=by exact λ_ h=>nomatch h
 rv:∀f,X.rv=iN f->VO X.P f:=by exact λ_ h=>nomatch h
variable{P:bw}
def P0:∀f,(iF:Option H4)=iN f->VO P f:=λ_ h=>nomatch h
theorem rvS{g:H4}(h:VO P g):∀f,iN g=iN f->VO P f:=λ_ e=>by cases e;exact h
def dec(l:J UInt8)(p:Nat):Nat×Nat:=Utf8.decode ⟨⟨l⟩⟩ p
def apc(P:bw)(src dst t:aK)(n:Nat):Bool:=match P.underlying src,P.underlying dst with
 | some (.pointer e),iN .unsafePointer=>(match P.info? e with|some j=>!(dO j.size 0)|none=>eK)&&bY 0 n
 | some .unsafePointer,iN (.pointer u)=>(match P.info? u with|some _=>eQ|none=>eK)&&liesAt P P.depth t (n / P.cellsOf t) 0 u 1
 | _,_=>eK
def Tc(st:TS E):Op->Bool
 | .move _=>eQ|.assign _=>eQ|.unOp _ _ _=>eQ|.field _ _ _=>eQ|.fieldAddr _ _ _=>eQ|.load _ _=>eQ|.nilCheck _=>eQ|.extract _ _=>eQ|.alloc _=>eQ|.binOp op _ x y _=>match op with
  | .quo=>isConst y|.rem=>isConst y|.shl=>isConst y|.shr=>isConst y|.add=>match st.ev x with
   | .dat (.int _) _=>eQ|_=>eK
  | _=>eQ
 | .convert _ _ x=>match st.ev x with
  | .dat (.int _) _=>eQ|_=>eK
 | _=>eK
abbrev ab2{α:Type}(b:Bool)(x y:α):α:=match b with|true=>x|false=>y
theorem ann{α:Type}(b:Bool)(x y:α):ab2 b x y=cond b x y:=by cases b<;>rfl
abbrev rqP{R:Type}(pl c:Bool)(k:O R):O R:=match pl with
 | true=>match c with
  | true=>k|false=>iF
 | false=>rq c k
variable{R:Type}
theorem IG{pl c:Bool}{k:O R}{r:R}(h:rqP pl c k=iN r):c=eQ/\k=iN r:=by grind[dX]
noncomputable def agree{R:Type}(a b:O R):O R:=@ite _ (a=b) (Classical.propDecidable _) a iF
theorem vr{a b:O R}{r:R}(h:agree a b=iN r):a=iN r/\b=iN r:=by unfold agree at h;grind
theorem NK(a:O R):agree a a=a:=by simp_all[agree]
theorem akZ{t e:aK}(eL:P.underlying t=iN (.slice e))(ad:O Addr)(n c:Nat)(hn:ad=iF->n=0/\c=0)(x y:dJ)(op:BinOp)(hop:op=.eql\/op=.neq)(w:U):
  (do eqGuard op t x y (.slice ad n c) (.slice iF 0 0);binOp op t (.slice ad n c) (.slice iF 0 0)).run P w=.ok (.bool (GR op ad.isNone)) w:=by
 have h1:(eqGuard op t x y (.slice ad n c) (.slice iF 0 0)).run P w=.ok () w:=by rcases hop with rfl|rfl<;>rfl
 have h3:binOp op t (.slice ad n c) (.slice iF 0 0)=(do let r <-Op.equal t (.slice ad n c) (.slice iF 0 0);pure (.bool (GR op r))):=by rcases hop with rfl|rfl<;>rfl
 have h2:∀d,(Op.equalIn (d+1) t (.slice ad n c) (.slice iF 0 0)).run P w=.ok ad.isNone w:=by cases ad with|none=>simp[Op.equalIn,aW eL]|some a=>simp[Op.equalIn,aW eL]
 simp[h1,h3,Op.equal,Op.maxDepth,h2 9999]
noncomputable def opT{R:Type}(X:Cx E)(st:TS E)(o:H2)(k:Ex E->TS E->Option R):Option R:=
 match WL X.P X.ty st o.op with
 | some (c,d)=>rqP (Tc st o.op) c (k .normal {st with t:=cE st.t o.dst d})
 | none=>match adm X.P X.ty st o.dst o.op with
  | some (c,st')=>rqP (Tc st o.op) c (k .normal st')|none=>match o.op with
   | .pick c x y=>match st.ev c with
    | .dat .bool b=>cond b (k .normal {st with t:=cE st.t o.dst (st.ev x)}) (k .normal {st with t:=cE st.t o.dst (st.ev y)})
    | _=>iF
   | .call c=>match c.callee with
    | .value x=>match st.ev x with
     | .func (.func f) caps=>s7 st o.dst f (c.args.toList.map st.ev++caps) k X.Γ|.Iw (.func f) fs=>s7 st o.dst f (fs++c.args.toList.map st.ev) k X.Γ|_=>iF
    | _=>iF
   | .defer c=>match c.callee with
    | .value x=>match st.ev x with
     | .func (.func f) caps=>cond (dO f Cf) iF (k .normal {st with t:=cE st.t o.dst .any,df:=(f,c.args.toList.map st.ev++caps)::st.df})
     | _=>iF
    | _=>iF
   | .panic x=>match st.ev x with
    | .iface t d=>k (.panic (.iface t d)) st|_=>iF
   | .range t x=>match aZ X.P t,st.ev x with
    | some ⟨.string,_,_,_⟩,.dat .str l=>k .normal {st with t:=cE st.t o.dst (.ptr st.H.length 0),H:=st.H++[.iter l 0]}
    | _,_=>iF
   | .next x s=>cond s (match st.ev x with
    | .ptr r 0=>match st.H[r]? with
     | some (.iter l p)=>cond (bY p l.length)
       (k .normal {st with t:=cE st.t o.dst (.tuple [.dat .bool eQ,.dat (.int .i64) (p:Int),.dat (.int .i32) ((dec l p).1:Int)]),H:=st.H.set r (.iter l (p+(dec l p).2)),d:=r::st.d})
       (k .normal {st with t:=cE st.t o.dst (.tuple [.dat .bool eK])})
     | _=>iF
    | _=>iF) iF
   | .convert src dst x=>match st.ev x with
    | .ptr r 0=>match st.H[r]? with
     | some (.cells t cs)=>rq (apc X.P src dst t cs.length) (k .normal {st with t:=cE st.t o.dst (.ptr r 0)})
     | _=>iF
    | _=>iF
   | .binOp op t x y _=>match aZ X.P t,st.ev x,st.ev y with
    | some ⟨.slice _,_,_,_⟩,.dat (.bx T) xs,.val (.slice iF 0 0)=>rq (bY 0 (T.size E)) (match op with
     | .eql=>cond xs.isEmpty (agree (k .normal {st with t:=cE st.t o.dst (.dat .bool eQ)}) (k .normal {st with t:=cE st.t o.dst (.dat .bool eK)})) (k .normal {st with t:=cE st.t o.dst (.dat .bool eK)})
     | .neq=>cond xs.isEmpty (agree (k .normal {st with t:=cE st.t o.dst (.dat .bool eK)}) (k .normal {st with t:=cE st.t o.dst (.dat .bool eQ)})) (k .normal {st with t:=cE st.t o.dst (.dat .bool eQ)})
     | _=>iF)
    | _,_,_=>iF
   | _=>iF
def GZ:Op->Bool|.defer _=>eQ|_=>eK
variable{X:Cx E}{o:H2}{a:Act}{w:U}{k:Ex E->TS E->O R}{t:Nat}{w0:U}{G0:bC}{n1 n2:Act->U->Prop}{G:bC}{all:aJ H2}{j:Nat}
theorem QO(hX:X.Ok){r:R}(h:opT X st o k=iN r):D7 X.P o (jd o.dst) (!(GZ o.op)) st (λx st'=>k x st'=iN r):=by
 unfold opT at h;split at h
 .rename_i pc pd hp;obtain⟨h1,h2⟩:=IG h;exact D7.HU (λw0 G0 a w G hr=>(Ug hX.E hr hp h1).am5 hr) h2 ((Fr.put st o.dst pd).wide (λi h=>h) (λ_=>rfl))
 .split at h
  .rename_i pc pd hp;obtain⟨h1,h2⟩:=IG h;exact D7.HU (λw0 G0 a w G hr=>aiQ hX.E hr hp h1) h2 ((aqd hp).wide (λi h=>h) (λ_=>rfl))
  .split at h<;>try trivial
   .rename_i c x y ho;split at h<;>try trivial
    rename_i b hb;intro w0 G0 a w G hr;have hv:=hr.ev c;rw[hb]at hv;have hv:=hv.nE;have hrun:(M2 a.eval o).run X.P w=.ok (.value (if b then a.eval x else a.eval y)) w:=by simp[M2,ho,hv,asBool]
    unfold Oper.wp;rw[hrun];cases b<;>simp only[aQ,aI]at h
    .exact⟨_,G,hr.put (hr.ev y) o.dst,h,(Fr.put st o.dst _).wide (λi h=>h) (λ_=>rfl)⟩
    .exact⟨_,G,hr.put (hr.ev x) o.dst,h,(Fr.put st o.dst _).wide (λi h=>h) (λ_=>rfl)⟩
   .rename_i c ho;split at h<;>try trivial
    rename_i x hc;split at h<;>try trivial
    .rename_i f caps hx;have:=afS hX.E (P:=X.P) ho hc hx hX.Γ h;rw[ho];exact this
    .rename_i f caps hx;have:=afT hX.E (P:=X.P) ho hc hx hX.Γ h;rw[ho];exact this
   .rename_i c ho;split at h<;>try trivial
    rename_i x hc;split at h<;>try trivial
    rename_i f caps hx;cases aiW:dO f Cf<;>rw[aiW]at h<;>simp only[aQ,aI]at h
    rotate_left
    .cases h
    intro w0 G0 a w G hr;have hv:=hr.ev x;rw[hx]at hv;simp only[VT]at hv;obtain⟨cv,IA,Tb⟩:=hv;have hrun:(M2 a.eval o).run X.P w=.ok (.defer {target:=.fn (.func f) cv,args:=c.args.map a.eval}) w:=by simp[M2,ho,resolve,hc,IA,Deferred.ofValue]
    unfold Oper.wp;rw[hrun];have hargs:bO E w G (c.args.toList.map st.ev++caps) (c.args.map a.eval++cv).toList:=by have:=(QK hr c.args.toList).append Tb;simpa using this
    have fC:Rel E w0 G0 {st with df:=(f,c.args.toList.map st.ev++caps)::st.df} {a with defers:={target:=.fn (.func f) cv,args:=c.args.map a.eval} :: a.defers} w G:=⟨hr.fH,hr.size,hr.tmps,⟨.inl ⟨aiW,cv,rfl,hargs⟩,hr.defers⟩,hr.boxes,hr.fix,hr.pins,hr.gU⟩;refine⟨_,G,fC.put (d:=.any) (by simp only[VT]) o.dst,h,?_⟩;exact⟨NI _ _ _,λi hi=>Kj _ _ _ _ hi,⟨[],rfl,λ_ _ _=>rfl⟩,eE _,λhh=>by rw[ho]at hh;cases hh⟩
   .rename_i x ho;split at h<;>try trivial
    rename_i t d hx;intro w0 G0 a w G hr;have hv:=hr.ev x;rw[hx]at hv;have hv0:=hv;simp only[VT]at hv;obtain⟨u,hu,-⟩:=hv;have hrun:(M2 a.eval o).run X.P w=.halt (.panic (a.eval x)) w:=by simp[M2,ho,Instr.panic,hu,goPanic]
    unfold Oper.wp;rw[hrun];exact⟨.panic (.iface t d),st,G,⟨a.eval x,rfl,hv0⟩,hr,(λh=>nomatch h),h,Fr.refl _ _ _⟩
   .rename_i t x ho;split at h<;>try trivial
    rename_i j1 j2 z l ht hd;refine D7.HU (λw0 G0 a w G hr=>?_) h ?_
    .have hv:=hr.ev x;rw[hd]at hv;obtain⟨xt,kI,eL,-⟩:=aS ht;refine Ld hr (ob:=.stringIter ⟨⟨l⟩⟩ 0) (x:=.iter l 0) (heap_alloc_new w _) ?_;simp only[M2,ho,hv.iQ,Instr.range,mkStr,jF,aW eL,kn,qw];rfl
    .exact(Fr.mem st o.dst _ _ st.g [] (NJ _ _) si).wide (λi h=>h) (λ_=>rfl)
   .rename_i x s ho;cases s<;>simp only[aQ,aI]at h
    .cases h
    split at h<;>try trivial
    rename_i r hd;split at h<;>try trivial
    rename_i l p hb;cases hlt:bY p l.length<;>rw[hlt]at h<;>simp only[aQ,aI]at h
    .refine D7.HU (λw0 G0 a w G hr=>?_) h ((Fr.put st o.dst _).wide (λi h=>h) (λ_=>rfl));have hv:=hr.ev x;rw[hd]at hv;simp only[VT]at hv;obtain⟨b,he,hat⟩:=hv;have hheap:w.heap[b]? = iN (.stringIter ⟨⟨l⟩⟩ p):=hr.box hat hb;have hlt':¬ p<(ByteArray.mk ⟨l⟩).size:=λhh=>by
      have:bY p l.length=eQ:=by rw[bY,abN];exact hh
      simp_all
     have hrun:(M2 a.eval o).run X.P w=.ok (.value (.tuple #[.bool eK])) w:=by
      have vT:(getObj b).run X.P w=.ok (.stringIter ⟨⟨l⟩⟩ p) w:=by simp only[getObj,Sem.run,hheap]
      simp only[M2,ho,Instr.next,he,jF,vT,kn,hlt',PU,qw]
     refine⟨_,_,w,G,hrun,.inl rfl,hr.put ?_ o.dst⟩;simp only[VT];exact⟨_,rfl,.cons (.bool _ _ _) (by simp only[bO])⟩
    .refine D7.HU (λw0 G0 a w G hr=>?_) h ((Fr.mem st o.dst _ _ st.g [r] (D6 _ _ _) si).wide (λi h=>h) (λ_=>rfl));have hv:=hr.ev x;rw[hd]at hv;simp only[VT]at hv;obtain⟨b,he,hat⟩:=hv;have hheap:w.heap[b]? = iN (.stringIter ⟨⟨l⟩⟩ p):=hr.box hat hb;have hlt':p<(ByteArray.mk ⟨l⟩).size:=by rw[bY,abN]at hlt;exact hlt
     let w':World:={w with heap:=w.heap.setIfInBounds b (.stringIter ⟨⟨l⟩⟩ (p+(dec l p).2))}
     have FR:∀b',b'≠b->w'.heap[b']? = w.heap[b']?:=λb' hb'=>by grind
     have hnew:w'.heap[b]? = iN (.stringIter ⟨⟨l⟩⟩ (p+(dec l p).2)):=by grind
     have hrun:(M2 a.eval o).run X.P w=.ok (.value (.tuple #[.bool eQ,.int .i64 p,.int .i32 (dec l p).1])) w':=by
      have vT:(getObj b).run X.P w=.ok (.stringIter ⟨⟨l⟩⟩ p) w:=by simp only[getObj,Sem.run,hheap]
      have hso:(setObj b (.stringIter ⟨⟨l⟩⟩ (p+(Utf8.decode ⟨⟨l⟩⟩ p).2))).run X.P w=.ok () w':=by simp only[setObj,Sem.run,hheap];rfl
      simp only[M2,ho,Instr.next,he,jF,vT,kn,hlt',if_true,hso,qw,goInt,dec]
     have hR:=hr.zU (w':=w') hat (by simp[w']) rfl rfl rfl FR (x:=.iter l (p+(dec l p).2)) (λ_=>hnew);refine⟨_,_,w',G,hrun,.inl rfl,hR.put (d:=.tuple [.dat .bool eQ,.dat (.int .i64) (p:Int),.dat (.int .i32) ((dec l p).1:Int)]) ?_ o.dst⟩;simp only[VT];exact⟨_,rfl,.cons (.bool _ _ _) (.cons (.int _ _ _ _) (.cons (.int _ _ _ _) (by simp only[bO])))⟩
   .rename_i src dst x ho;split at h<;>try trivial
    rename_i r hd;split at h<;>try trivial
    rename_i t cs hb;obtain⟨hc,h⟩:=dX h;refine D7.HU (λw0 G0 a w G hr=>?_) h ((Fr.put st o.dst _).wide (λi h=>h) (λ_=>rfl));have hv:=hr.ev x;rw[hd]at hv;have hv0:=hv;simp only[VT]at hv;obtain⟨b,he,hat⟩:=hv;obtain⟨vs,hh,hone,hvs⟩:=hr.box hat hb;have hsz:vs.size=Sx cs:=by simpa using hvs.length
    have hsh:w.shape? b=iN (t,Sx cs):=by simp[World.shape?,hh,hsz]
    have hrun:(convert src dst (.pointer (iN ⟨b,0,iF⟩))).run X.P w=.ok (.pointer (iN ⟨b,0,iF⟩)) w:=by
     unfold apc at hc;split at hc
     .rename_i e hs hdd;rw[cH]at hc;obtain⟨h1,h2⟩:=hc;split at h1
      .rename_i j hj;refine Lib.run_to_unsafe (j:=j) w ⟨b,0,iF⟩ hs hdd hj (λh0=>?_) hsh ?_
       .rw[h0]at h1;cases h1
       simp_all
      .cases h1
     .rename_i u hs hdd;grind[Lib.run_from_unsafe]
     .cases hc
    refine⟨.value (.pointer (iN ⟨b,0,iF⟩)),_,w,G,?_,.inl rfl,hr.put (v:=.pointer (iN ⟨b,0,iF⟩)) (d:=.ptr r 0) ?_ o.dst⟩
    .simp only[M2,ho,he,jF,hrun,kn,qw]
    simp_all
   .rename_i op t x y yt ho;split at h<;>try trivial
    rename_i e j1 j2 z T xs ht hx hy;obtain⟨hk0,h⟩:=dX h;have hk0:0<T.size E:=by simp_all
    obtain⟨xt,kI,eL,-⟩:=aS ht;have hop:op=.eql\/op=.neq:=by grind
    have key:(xs=[]->k .normal {st with t:=cE st.t o.dst (.dat .bool (GR op eQ))} = iN r)/\k .normal {st with t:=cE st.t o.dst (.dat .bool (GR op eK))} = iN r:=by
     rcases hop with rfl|rfl<;>cases xs<;>simp only[List.isEmpty_nil,List.isEmpty_cons,aQ,aI]at h
     .exact⟨λ_=>(vr h).1,(vr h).2⟩
     .exact⟨(λe=>by cases e),h⟩
     .exact⟨λ_=>(vr h).1,(vr h).2⟩
     .exact⟨(λe=>by cases e),h⟩
    clear h;intro w0 G0 a w G hr;have hv:=hr.ev x;rw[hx]at hv;have Dm:=hr.ev y;rw[hy]at Dm;simp only[VT]at Dm;have hd:=(hv.atom rfl).uS;obtain⟨cs,hfl,Au⟩:=VD.flat hk0 hd;have hsh:∃ad n c,a.eval x=.slice ad n c/\(ad=iF->n=0/\c=0/\xs=[]):=by
     rcases Au with⟨ad,he,hn⟩|⟨b,off,cap,he,hcap,hcells⟩
     .exact⟨ad,0,0,he,λ_=>⟨rfl,rfl,by simpa using hn⟩⟩
     grind
    obtain⟨ad,n,c,he,hn⟩:=hsh;have hrun:(M2 a.eval o).run X.P w=.ok (.value (.bool (GR op ad.isNone))) w:=by
     have hq:=akZ (P:=X.P) eL ad n c (λe=>⟨(hn e).1,(hn e).2.1⟩) x y op hop w;have hx:M2 a.eval o=(do let z <- (do eqGuard op t x y (a.eval x) (a.eval y);binOp op t (a.eval x) (a.eval y));pure (.value z)):=by simp[M2,ho]
     rw[hx,he,Dm,jF,hq];rfl
    unfold Oper.wp;rw[hrun];refine⟨_,G,hr.put (d:=.dat .bool (GR op ad.isNone)) (.bool _ _ _) o.dst,?_,(Fr.put st o.dst _).wide (λi h=>h) (λ_=>rfl)⟩;cases ad with|none=>exact key.1 (hn rfl).2.2|some _=>exact key.2
def mm(all:aJ H2)(o:H2):J Nat:=match o.guard with
 | some (j,_)=>match (all[j]?).bind (·.dst)with
  | some t=>[t]|none=>[]
 | none=>[]
def fq(all:aJ H2):J H2->J Nat|[]=>[]|o::os=>jd o.dst++(mm all o++fq all os)
def cG:J H2->Bool|[]=>eQ|o::os=>!(GZ o.op)&&cG os
abbrev jX{R:Type}(k1:TS E->O R)(k:Ex E->TS E->O R):Ex E->TS E->O R|.normal,st=>k1 st|e,st=>k e st
noncomputable def vu{R:Type}(X:Cx E)(all:aJ H2):J H2->TS E->(Ex E->TS E->O R)->O R
 | [],st,k=>k .normal st|o::rest,st,k=>match o.guard with
  | none=>opT X st o (jX (λst'=>vu X all rest st' k) k)|some (j,want)=>match (all[j]?).bind (·.dst)with
   | some t=>match st.at t with
    | .dat .bool b=>cond b
      (ab2 want (opT X {st with t:=st.t.set t (.dat .bool eQ)} o (jX (λst'=>vu X all rest st' k) k))
       (vu X all rest {st with t:=cE (st.t.set t (.dat .bool eQ)) o.dst (.val H5)} k))
      (ab2 want (vu X all rest {st with t:=cE (st.t.set t (.dat .bool eK)) o.dst (.val H5)} k)
       (opT X {st with t:=st.t.set t (.dat .bool eK)} o (jX (λst'=>vu X all rest st' k) k)))
    | .val (.bool _)=>iF|.val _=>vu X all rest {st with t:=cE st.t o.dst (.val H5)} k
    | _=>iF
   | none=>iF
theorem cQ.mono{Q Q':Ex E->TS E->Prop}(h:∀x s,Q x s->Q' x s){e:Exit}(hp:cQ E w0 G0 Q e a w):cQ E w0 G0 Q' e a w:=by obtain⟨x,s,G,h1,h2,h3⟩:=hp;exact⟨x,s,G,h1,h2,h _ _ h3⟩
theorem qR{a:Act}{w:U}{Q1 Q2:Exit->Act->U->Prop}(hn:∀a w,n1 a w->n2 a w)(hq:∀e a w,Q1 e a w->Q2 e a w)(h:o.wp P a w n1 Q1):o.wp P a w n2 Q2:=by
 have hout:LetsOut Q1->LetsOut Q2:=λ⟨a,w,h⟩=>⟨a,w,hq _ _ _ h⟩;unfold Oper.wp at *;generalize(M2 a.eval o).run P w=r at *;cases r with
 | ok n w'=>
  cases n<;>simp[Oper.upon]at h⊢
  case value u=>exact hn _ _ h
  case skip=>exact hn _ _ h
  case defer d=>exact hn _ _ h
  case enter f args=>grind[Calls.mono]
  grind[Rows.mono]
 | halt x w'=>cases x<;>simp[Oper.upon]at h⊢;simp_all
theorem Ll(hr:Rel E w0 G0 st a w G){want b:Bool}(hg:o.guard=iN (j,want))(ht:(all[j]?).bind (·.dst)=iN t)(hb:st.at t=.dat .bool b):
  pC o (yielded all a.tmps)=(b==want)/\a.tmps[t]? = iN (.bool b):=by
 have hv:=hr.at t;rw[hb]at hv;have hv:=hv.nE;have hlt:t<st.t.length:=by grind[TS.at]
 have h2:a.tmps[t]? = iN (.bool b):=by
  have:t<a.tmps.size:=by rw[hr.size];exact hlt
  simp_all
 unfold pC yielded;simp_all
theorem NL(hr:Rel E w0 G0 st a w G){want:Bool}{u:R0}(hg:o.guard=iN (j,want))(ht:(all[j]?).bind (·.dst)=iN t)(hb:st.at t=.val u)(hu:∀b,u≠.bool b):
  pC o (yielded all a.tmps)=eK:=by
 have hv:=hr.at t;rw[hb]at hv;simp[VT]at hv;have hlt:t<st.t.length:=by grind[TS.at]
 have h2:a.tmps[t]? = iN u:=by
  have:t<a.tmps.size:=by rw[hr.size];exact hlt
  simp_all
 unfold pC yielded;simp_all
theorem Rel.lit(hr:Rel E w0 G0 st a w G){b:Bool}(h:a.tmps[t]? = iN (.bool b)):Rel E w0 G0 {st with t:=st.t.set t (.dat .bool b)} a w G:=by
 refine⟨hr.fH,by simpa using hr.size,λj d hj=>?_,hr.defers,hr.boxes,hr.fix,hr.pins,hr.gU⟩;simp[SB]at hj;by_cases hij:t=j
 .subst hij;have hlt:t<st.t.length:=by simp_all
  simp[hlt]at hj;subst hj;have:a.tmps.getD t H5=.bool b:=by simp_all
  rw[this];exact .bool _ _ _
 .rw[if_neg hij]at hj;exact hr.tmps j d hj
theorem Fr.lit(st:TS E)(t:Nat)(d:TV E):Fr [t] eQ st {st with t:=st.t.set t d}:=
 ⟨si,λi hi=>by
  grind,⟨[],rfl,λ_ _ _=>rfl⟩,Nat.le_refl _,λ_=>rfl⟩
theorem s8{R:Type}(hX:X.Ok){all:aJ H2}{k:Ex E->TS E->O R}{r:R}:∀ {l:J H2}{st:TS E},vu X all l st k=iN r->aip E X.P all l st (λx st'=>k x st'=iN r/\Fr (fq all l) (cG l) st st')
 | [],st,h=>λw0 G0 a w G hr=>⟨.normal,st,G,trivial,hr,h,Fr.refl _ _ _⟩|o::rest,st,h=>by
  have ih:∀ {st:TS E},vu X all rest st k=iN r->aip E X.P all rest st (λx st'=>k x st'=iN r/\Fr (fq all rest) (cG rest) st st'):=λh=>s8 hX h;have step:∀(s0 s1:TS E),Fr (mm all o) eQ s0 s1->opT X s1 o (jX (λst'=>vu X all rest st' k) k)=iN r->∀w0 G0 a w G,Rel E w0 G0 s1 a w G ->
    o.wp X.P a w (Ts X.P all (cQ E w0 G0 λx st'=>k x st'=iN r/\Fr (fq all (o::rest)) (cG (o::rest)) s0 st') rest) (cQ E w0 G0 λx st'=>k x st'=iN r/\Fr (fq all (o::rest)) (cG (o::rest)) s0 st'):=by
   intro s0 s1 W4 h w0 G0 a w G hr;have h1:=QO hX h w0 G0 a w G hr;have hF:∀ {s2 s3:TS E},Fr (jd o.dst) (!(GZ o.op)) s1 s2->Fr (fq all rest) (cG rest) s2 s3->Fr (fq all (o::rest)) (cG (o::rest)) s0 s3:=λf1 f2=>
    (W4.trans f1 (W:=jd o.dst++mm all o) (λi hi=>by simp[hi]) (λi hi=>by simp[hi]) (λh=>⟨rfl,h⟩)).trans f2 (λi hi=>by
     grind[fq]) (λi hi=>by simp[fq,hi]) (λh=>by
     simp_all[cG])
   refine qR (λa' w' hn=>?_) (λe a' w' hp=>?_) h1
   .obtain⟨s2,G2,hr2,hk,f1⟩:=hn;have hA:=ih hk w0 G0 a' w' G2 hr2;have key:∀(l:J H2)(a:Act)(w:U){Q1 Q2:Exit->Act->U->Prop},(∀e a w,Q1 e a w->Q2 e a w)->Ts X.P all Q1 l a w->Ts X.P all Q2 l a w:=by
     intro l
     induction l with
     | nil=>intro a w Q1 Q2 hq h;exact hq _ _ _ h|cons o l ihl=>
      intro a w Q1 Q2 hq h;unfold Ts at h⊢;split
      .rename_i hw;rw[if_pos hw]at h;rcases h with h|⟨h,a1,w1,h2⟩
       .grind[qR]
       .exact .inr ⟨h,a1,w1,hq _ _ _ h2⟩
      grind
    grind[cQ.mono]
   .obtain⟨x,s2,G2,he,hr2,hn,hk,f1⟩:=hp;cases x with|normal=>exact(hn rfl).elim|_=>exact⟨_,s2,G2,he,hr2,hk,hF f1 (Fr.refl _ _ _)⟩
  simp[vu]at h;intro w0 G0 a w G hr;split at h
  .rename_i hg;unfold Ts;rw[if_pos (by simp[pC,hg])];exact .inl (step st st (by grind[mm,Fr.refl]) h w0 G0 a w G hr)
  .rename_i j want hg;split at h<;>try trivial
   rename_i t ht;have hgt:mm all o=[t]:=by simp_all[mm]
   have skip:∀(s1:TS E),Fr (mm all o) eQ st s1->Rel E w0 G0 s1 a w G->vu X all rest {s1 with t:=cE s1.t o.dst (.val H5)} k=iN r ->
     Ts X.P all (cQ E w0 G0 λx st'=>k x st'=iN r/\Fr (fq all (o::rest)) (cG (o::rest)) st st') rest (a.put o.dst H5) w:=by
    intro s1 f0 fC hk;have hr2:=fC.put (v:=H5) (d:=.val H5) (by simp[VT]) o.dst;have hA:=ih hk w0 G0 _ w G hr2;have key:∀(l:J H2)(a:Act)(w:U){Q1 Q2:Exit->Act->U->Prop},(∀e a w,Q1 e a w->Q2 e a w)->Ts X.P all Q1 l a w->Ts X.P all Q2 l a w:=by
     intro l
     induction l with
     | nil=>intro a w Q1 Q2 hq h;exact hq _ _ _ h|cons o l ihl=>
      intro a w Q1 Q2 hq h;unfold Ts at h⊢;split
      .rename_i hw;rw[if_pos hw]at h;rcases h with h|⟨h,a1,w1,h2⟩
       .grind[qR]
       .exact .inr ⟨h,a1,w1,hq _ _ _ h2⟩
      grind
    refine key rest _ w (λe a w hp=>cQ.mono (λx s hh=>⟨hh.1,?_⟩) hp) hA;have f1:Fr (jd o.dst) (!(GZ o.op)) s1 {s1 with t:=cE s1.t o.dst (.val H5)}:=(Fr.put s1 o.dst (.val H5)).wide (λi h=>h) (λ_=>rfl)
    exact(f0.trans f1 (W:=jd o.dst++mm all o) (λi hi=>by simp[hi]) (λi hi=>by simp[hi]) (λh=>⟨rfl,h⟩)).trans hh.2 (λi hi=>by
     grind[fq]) (λi hi=>by simp[fq,hi]) (λh=>by
     simp_all[cG])
   split at h<;>try trivial
   .rename_i b hb;obtain⟨hw,hbv⟩:=Ll hr hg ht hb;have hl:=hr.lit hbv;have hfl:Fr (mm all o) eQ st {st with t:=st.t.set t (.dat .bool b)}:=by simp_all[Fr.lit]
    unfold Ts;grind
   .rename_i u hnb hu;have hw:=NL hr hg ht hu (λb e=>hnb b e);unfold Ts;grind[Fr.refl]
variable{ops:aJ H2}{Q:Exit -> Act -> U -> Prop}{S:U -> Prop}{lo hi:Nat}{Q':Exit->Act->U->Prop}{i:Nat}{listed:aJ Bool}{oi:H2}{v:R0}{K K':Act->U->Prop}
def pre(n i:Nat):aJ Bool:=((aT n).map λk=>bY k i).toArray
theorem D8{a b:Nat}:bY a b=eQ↔a<b:=by simp_all
theorem agR{a b:Nat}(h:b<=a):bY a b=eK:=by simp_all[M1]
theorem ano(n:Nat):lA n eK=pre n 0:=by grind[Array.ext',pre,agR]
theorem U4{n:Nat}:(pre n i).setIfInBounds i eQ=pre n (i+1):=by
 apply VG;apply BG
 .simp[pre]
 .intro k h1 h2;simp only[pre,List.setIfInBounds_toArray,List.getElem_set,MP,List.getElem_range];by_cases hk:i=k
  .simp_all
  .rw[if_neg hk];rw[tW,D8,D8];omega
theorem aqe{n k:Nat}(h:i<=k)(hk:k<n):(pre n i).getD k eQ=eK:=by simp[pre,hk,agR h]
theorem G4{n k:Nat}(h:k<i)(hk:k<n)(d:Bool):(pre n i).getD k d=eQ:=by simp[pre,hk,D8.2 h]
def waits(ops:aJ H2):Nat->Nat->Nat->Bool
 | 0,_,_=>eK|fuel+1,j,i=>match ops[j]? with
  | none=>eK|some o=>o.after.any (λe=>pA .any e&&e.on==i)||o.after.any (λe=>pA .any e&&(bY i e.on&&waits ops fuel e.on i))
def Mc(ops:aJ H2)(listed:aJ Bool):Prop:=∀(j:Nat)(o:H2),ops[j]? = iN o->listed.getD j eK=eQ->∀e∈o.after,pA .any e=eQ->listed.getD e.on eK=eQ
theorem QS{listed:aJ Bool}(hc:Mc ops listed){i:Nat}:∀(fuel j:Nat),waits ops fuel j i=eQ ->
  (∀o,ops[j]? = iN o->∀e∈o.after,pA .any e=eQ->listed.getD e.on eK=eQ)->listed.getD i eK=eQ
 | 0,_,h,_=>by cases h
 | fuel+1,j,h,hj=>by
  unfold waits at h;cases ho:ops[j]? with
  | none=>rw[ho]at h;cases h
  | some o=>
   rw[ho]at h;simp only[KW]at h;rcases h with h|h
   .grind
   .obtain⟨e,he,hb⟩:=Array.any_eq_true'.1 h;simp at hb;refine QS hc fuel e.on hb.2.2 λo' ho'=>hc e.on o' ho' (hj o ho e he hb.1)
theorem YY{k:Nat}(h:(listed.setIfInBounds i eQ).getD k eK=eQ):k=i\/listed.getD k eK=eQ:=by
 by_cases hik:i=k
 .exact .inl hik.symm
 simp_all
theorem Mc.step(hc:Mc ops listed)(hr:i∈pB .any ops listed):Mc ops (listed.setIfInBounds i eQ):=by
 intro j o ho hj e he hb;obtain⟨_,oi,II,hall⟩:=mem_ready.1 hr;rcases YY hj with rfl|hj
 .rw[II]at ho;cases ho;exact getD_set_true (hall e he hb)
 .exact getD_set_true (hc j o ho hj e he hb)
def wpAnyS(P:bw)(ops:aJ H2)(Q:Exit->Act->U->Prop)(S:U->Prop)(lo hi:Nat):Nat->aJ Bool->Act->U->Prop
 | 0,listed,a,w=>pB .any ops listed=[]/\Q .normal a w|fuel+1,listed,a,w=>
  (pB .any ops listed=[]->Q .normal a w) /\
  ∀i∈pB .any ops listed,wpOp P ops Q i (λa' w'=>(lo<=i/\i<hi->S w->S w')/\wpAnyS P ops Q S lo hi fuel (listed.setIfInBounds i eQ) a' w') a w
theorem W5:∀(fuel:Nat)(listed:aJ Bool)(a:Act)(w:U),wpAnyS P ops Q S lo hi fuel listed a w->wpAny P .any ops Q fuel listed a w|0,_,_,_,h=>h|fuel+1,_,_,_,h=>⟨h.1,λi hi=>wpOp_mono (λa' w' h'=>W5 fuel _ a' w' h'.2) (h.2 i hi)⟩
theorem W6:∀(fuel:Nat)(listed:aJ Bool)(a:Act)(w:U),(∀k,lo<=k->k<hi->listed.getD k eQ=eQ)->wpAny P .any ops Q fuel listed a w->wpAnyS P ops Q S lo hi fuel listed a w
 | 0,_,_,_,_,h=>h|fuel+1,listed,_,_,hp,h=>⟨h.1,λi hm=>wpOp_mono (λa' w' h'=>by
   have hun:=(mem_ready.1 hm).1;refine⟨λhx _=>?_,W6 fuel _ a' w' (λk h1 h2=>?_) h'⟩
   .simp_all
   .by_cases hik:i=k
    .simp_all
    simp_all) (h.2 i hm)⟩
theorem wpAnyS_first(II:ops[i]? = iN oi)(hsel:∀(j:Nat)(o:H2) cs b,ops[j]? = iN o->o.op≠.select cs b)
  (hQ:∀c a w,Q (.panic c) (a.put oi.dst v) w->Q (.panic c) a w) (hW:∀j,hi<=j->j<ops.size->waits ops ops.size j i=eQ) :
  ∀(fuel:Nat)(listed:aJ Bool)(a:Act)(w:U),Mc ops listed->(∀k,k<lo->k<ops.size->listed.getD k eQ=eQ) ->
   (∀j oj,ops[j]? = iN oj->j≠i->listed.getD j eQ=eK->(∀e∈oj.after,pA .any e=eQ->e.on≠i)->oi.apart ops oj=eQ) ->
   i∈pB .any ops listed->YieldsIf P ops S oi v a->S w ->
   wpAnyS P ops Q S lo hi fuel (listed.setIfInBounds i eQ) (a.put oi.dst v) w->wpAnyS P ops Q S lo hi (fuel+1) listed a w:=by
 intro fuel
 induction fuel with
 | zero=>
  intro listed a w _ _ _ hr hy hS H;refine⟨λh=>(by rw[h]at hr;cases hr),λj hj=>?_⟩;by_cases hji:j=i
  .subst hji;exact hy.wpOp II hS ⟨λ_ h=>h,H⟩
  .have:=ready_mono hj hji;rw[H.1]at this;cases this
 | succ fuel ih=>
  intro listed a w hcl hlo hfree hr hy hS H;refine⟨λh=>(by rw[h]at hr;cases hr),λj hj=>?_⟩;by_cases hji:j=i
  .subst hji;exact hy.wpOp II hS ⟨λ_ h=>h,H⟩
  .have h1:=H.2 j (ready_mono hj hji);obtain⟨QT,oj,QU,hall⟩:=mem_ready.1 hj;have hpi:=(mem_ready.1 hr).1;have hnot:∀e∈oj.after,pA .any e=eQ->e.on≠i:=λe he hb heq=>by grind
   have W7:lo<=j/\j<hi:=by grind[QS]
   have h2:=wpOp_putIf QU (hfree j oj QU hji QT hnot) (λcs b=>hsel i oi cs b II) (λcs b=>hsel j oj cs b QU) hQ hy h1;have QV:∀k ok,ops[k]? = iN ok->k≠i->(listed.setIfInBounds j eQ).getD k eQ=eK ->
     (∀e∈ok.after,pA .any e=eQ->e.on≠i)->oi.apart ops ok=eQ:=λk ok hk hki hun hno=>by
    refine hfree k ok hk hki ?_ hno;by_cases hjk:j=k
    .subst hjk;exact QT
    simp_all
   have avz:∀k,k<lo->k<ops.size->(listed.setIfInBounds j eQ).getD k eQ=eQ:=λk h1 h2=>by
    by_cases hjk:j=k
    .subst hjk;omega
    .rw[getD_set_ne eQ hjk];exact hlo k h1 h2
   refine wpOp_mono (λa' w' h3=>⟨λ_ _=>h3.2.1 W7 hS,ih (listed.setIfInBounds j eQ) a' w' (hcl.step hj) avz QV (ready_mono hr (Ne.symm hji)) h3.1 (h3.2.1 W7 hS) ?_⟩) h2;grind[Array.setIfInBounds_comm]
theorem afU(II:ops[i]? = iN oi)(hsel:∀(j:Nat)(o:H2) cs b,ops[j]? = iN o->o.op≠.select cs b)
  (hQ:∀c a w,Q (.panic c) (a.put oi.dst v) w->Q (.panic c) a w) :
  ∀(fuel:Nat)(listed:aJ Bool)(a:Act)(w:U),
   (∀j oj,ops[j]? = iN oj->j≠i->listed.getD j eQ=eK->(∀e∈oj.after,pA .any e=eQ->e.on≠i)->oi.apart ops oj=eQ) ->
   i∈pB .any ops listed->YieldsIf P ops (λ_=>True) oi v a ->
   wpAnyS P ops Q S lo hi fuel (listed.setIfInBounds i eQ) (a.put oi.dst v) w->wpAnyS P ops Q S lo hi (fuel+1) listed a w:=by
 intro fuel
 induction fuel with
 | zero=>
  intro listed a w _ hr hy H;refine⟨λh=>(by rw[h]at hr;cases hr),λj hj=>?_⟩;by_cases hji:j=i
  .subst hji;exact hy.wpOp II trivial ⟨λ_ h=>h,H⟩
  .have:=ready_mono hj hji;rw[H.1]at this;cases this
 | succ fuel ih=>
  intro listed a w hfree hr hy H;refine⟨λh=>(by rw[h]at hr;cases hr),λj hj=>?_⟩;by_cases hji:j=i
  .subst hji;exact hy.wpOp II trivial ⟨λ_ h=>h,H⟩
  .have h1:=H.2 j (ready_mono hj hji);obtain⟨QT,oj,QU,hall⟩:=mem_ready.1 hj;have hpi:=(mem_ready.1 hr).1;have hnot:∀e∈oj.after,pA .any e=eQ->e.on≠i:=λe he hb heq=>by grind
   have h2:=wpOp_putIf QU (hfree j oj QU hji QT hnot) (λcs b=>hsel i oi cs b II) (λcs b=>hsel j oj cs b QU) hQ hy h1;have QV:∀k ok,ops[k]? = iN ok->k≠i->(listed.setIfInBounds j eQ).getD k eQ=eK ->
     (∀e∈ok.after,pA .any e=eQ->e.on≠i)->oi.apart ops ok=eQ:=λk ok hk hki hun hno=>by
    refine hfree k ok hk hki ?_ hno;by_cases hjk:j=k
    .subst hjk;exact QT
    simp_all
   refine wpOp_mono (λa' w' h3=>⟨h3.2.1,ih (listed.setIfInBounds j eQ) a' w' QV (ready_mono hr (Ne.symm hji)) h3.1 ?_⟩) h2;grind[Array.setIfInBounds_comm]
theorem Oper.adD{a:Act}{w:U}(h:∀a w,K a w->K' a w)(hq:∀e a w,e≠.normal->Q e a w->Q' e a w)
  (hh:o.wp P a w K Q):o.wp P a w K' Q':=by
 have hout:LetsOut Q->LetsOut Q':=λ⟨a,w,h⟩=>⟨a,w,hq _ _ _ si h⟩;unfold Oper.wp at *;generalize(M2 a.eval o).run P w=r at *;cases r with
 | ok n w'=>
  cases n<;>simp[Oper.upon]at hh⊢
  case value u=>exact h _ _ hh
  case skip=>exact h _ _ hh
  case defer d=>exact h _ _ hh
  case enter f args=>refine H7 hh λe w'' he=>?_;grind
  case row row args=>exact Rows.mono hh λu w'' he=>h _ _ he
 | halt x w'=>cases x<;>simp[Oper.upon]at hh⊢;simp_all
def forced(ops:aJ H2)(i:Nat):Nat->Bool|0=>eQ|m+1=>(pB .any ops (pre ops.size i)==[i])&&forced ops (i+1) m
theorem aap{R Q':Exit->Act->U->Prop}:∀(seg:J H2)(i fuel:Nat),(∀k,k<seg.length->ops[i+k]? = seg[k]?)->forced ops i seg.length=eQ->∀a w,Ts P ops R seg a w ->
  (∀e a w,R e a w->e=.normal/\wpAny P .any ops Q' fuel (pre ops.size (i+seg.length)) a w)->wpAny P .any ops Q' (seg.length+fuel) (pre ops.size i) a w
 | [],i,fuel,_,_,a,w,h,hR=>by have:=(hR _ a w h).2;simpa using this|o::seg,i,fuel,hs,hf,a,w,h,hR=>by
  simp[forced]at hf;have II:ops[i]? = iN o:=by simpa using hs 0 si
  rw[show(o::seg).length+fuel=(seg.length+fuel)+1 by simp;omega];refine wpAny_all hf.1 si λj hj=>?_;have:j=i:=by simpa using hj
  subst this;have ih:∀a w,Ts P ops R seg a w->wpAny P .any ops Q' (seg.length+fuel) ((pre ops.size j).setIfInBounds j eQ) a w:=λa w hw=>by
   rw[U4];refine aap seg (j+1) fuel (λk hk=>?_) hf.2 a w hw (λe a w hr=>?_)
   .have:=hs (k+1) (by simpa using hk);grind
   grind
  unfold wpOp;simp[II];have h':(if pC o (yielded ops a.tmps)then o.wp P a w (Ts P ops R seg) R\/(o.asks P a w/\LetsOut R)else Ts P ops R seg (a.put o.dst H5) w):=h;split
  .rename_i hw;rw[if_pos hw]at h';rcases h' with h'|⟨_,a1,w1,h1⟩
   .grind[Oper.adD]
   grind
  simp_all
def ak0(j:Nat):J (Nat×Ty)->O Ty|[]=>iF|(q,t)::ps=>cond (dO q j) (iN t) (ak0 j ps)
def QW(j:Nat):J (Nat×Cn E)->Bool|[]=>eQ|p::cs=>!(dO p.1 j)&&QW j cs
theorem QX{j:Nat}:∀ {cs:J (Nat×Cn E)},QW j cs=eQ->∀c,(j,c)∉cs
 | [],_,_,h=>nomatch h|p::cs,h,c,hm=>by
  simp[QW]at h;rcases gL.1 hm with e|hm
  .rw[<-e,PV]at h;exact nomatch h.1
  .exact QX h.2 c hm
def mvC(j j':Nat):J (Nat×Cn E)->J (Nat×Cn E)|[]=>[]|p::cs=>cond (dO p.1 j) (mvC j j' cs) (cond (dO p.1 j') ((j,p.2)::mvC j j' cs) (p::mvC j j' cs))
theorem agS{j j':Nat}:∀ {cs:J (Nat×Cn E)}{q:Nat}{x:Cn E},(q,x)∈mvC j j' cs->(q=j/\(j',x)∈cs)\/(q≠j/\q≠j'/\(q,x)∈cs)
 | p::cs,q,x,h=>by
  rw[mvC]at h;have next:(q,x)∈mvC j j' cs->(q=j/\(j',x)∈p::cs)\/(q≠j/\q≠j'/\(q,x)∈p::cs):=λh=>(agS h).imp (λ⟨a,b⟩=>⟨a,nt _ b⟩) λ⟨a,b,c⟩=>⟨a,b,nt _ c⟩
  cases h1:dO p.1 j<;>rw[h1]at h
  .cases h2:dO p.1 j'<;>rw[h2]at h
   .rcases gL.1 h with e|h
    .rw[<-e]at h1 h2;exact .inr ⟨λe=>(by rw[e,PV]at h1;cases h1),λe=>(by rw[e,PV]at h2;cases h2),by rw[e];exact wK ..⟩
    .exact next h
   .rcases gL.1 h with e|h
    .cases e;exact .inl ⟨rfl,by rw[<-fm h2];exact wK ..⟩
    .exact next h
  .exact next h
 | [],_,_,h=>nomatch h
def W8(c:Cut)(n0 i:Nat)(p:PT)(st:TS E):TS E:=match p,st.t[i]? with
 | .one (.cz j _),iN (.cz j' v T xs)=>match st.g[j]?,st.g[j']? with
  | some g,iN g'=>cond (!(dO j' j)&&(iO n0 j'&&(dO g'.aF v&&(dO g.e g'.e&&(dO g.k g'.k&&(QW j st.c&&QW j' st.c))))))
    {st with t:=st.t.set i (.cz j (g.aF+1) T xs),g:=(st.g.set j' {g' with aF:=g'.aF+1}).set j {g with aF:=g.aF+1}} st
  | _,_=>st
 | .one (.cz j T),iN (.val (.slice iF 0 0))=>match st.g[j]? with
  | some g=>cond (QW j st.c) {st with t:=st.t.set i (.cz j (g.aF+1) T []),g:=st.g.set j {g with aF:=g.aF+1}} st
  | none=>st
 | .one (.eF j),iN (.eF j' v)=>match st.g[j]?,st.g[j']? with
  | some g,iN g'=>cond (!(dO j' j)&&(iO n0 j'&&(dO g'.aF v&&(dO g.e g'.e&&dO g.k g'.k))))
    {st with t:=st.t.set i (.eF j (g.aF+1)),g:=(st.g.set j' {g' with aF:=g'.aF+1}).set j {g with aF:=g.aF+1},c:=mvC j j' st.c} st
  | _,_=>st
 | .one (.eF j),iN (.val (.slice iF 0 0))=>match c.rows[j]?,ak0 j c.soft with
  | some (iN (e,_)),iN T=>cond (dO st.g.length j&&bY 0 (T.size E)) {st with t:=st.t.set i (.eF st.g.length 0),g:=st.g++[⟨0,e,T.size E⟩],c:=(Sx st.g,⟨T,[]⟩)::st.c} st
  | _,_=>st
 | .one (.dat t),iN (.eF j v)=>{(wZ (.dat t) (.eF j v) st).2 with t:=st.t.set i (wZ (.dat t) (.eF j v) st).1}
 | _,_=>st
def ab3(c:Cut)(n0:Nat):J (Nat×PT)->TS E->TS E|[],st=>st|(i,p)::vs,st=>ab3 c n0 vs (W8 c n0 i p st)
def Cut.pack(c:Cut)(b8 st:TS E):O (dens E c.tys):=match c.leaves b8 (ab3 c b8.g.length c.vars st)with|some ls=>getAll c.tys ls|none=>iF
def Cut.un(c:Cut)(W:J Nat)(b8:TS E)(x:dens E c.tys):TS E:=c.unpack W b8 (aV c.tys x)
def Cut.okW(c:Cut)(W:J Nat):Bool:=c.vars.all λp=>W.elem p.1
theorem FZ(n:Rn):∀(bs:J (O BT))(r0:Nat)(H:J (gu E))(ls:J (Lf E))(r:Nat),r<Sx bs->r0+r∉Ff r0 bs->r<H.length->(fy n bs H ls)[r]? = H[r]?
 | [],_,_,_,_,h,_,_=>by simp at h|none::bs,r0,H,ls,0,_,_,h=>by cases H with|nil=>simp at h|cons x H=>simp[fy]
 | none::bs,r0,H,ls,r+1,h1,h2,h3=>by
  cases H with
  | nil=>simp at h3|cons x H=>have:=FZ n bs (r0+1) H ls r (by simpa using h1) (by rw[show r0+1+r=r0+(r+1) by omega];exact h2) (by simpa using h3);simpa[fy]using this
 | some t::bs,r0,H,ls,0,_,h2,_=>(h2 (by simp[Ff])).elim|some t::bs,r0,H,ls,r+1,h1,h2,h3=>by
  cases H with
  | nil=>simp at h3|cons x H=>have:=FZ n bs (r0+1) H (t.put n ls).2 r (by simpa using h1) (by rw[show r0+1+r=r0+(r+1) by omega];exact λhm=>h2 (by simp[Ff,hm])) (by simpa using h3);simpa[fy]using this
theorem Uh(n:Rn):∀(vs:J (Nat×PT))(t:J (TV E))(ls:J (Lf E))(i:Nat),i∉vs.map (·.1)->(oe n vs t ls).1[i]? = t[i]?|[],t,ls,i,_=>rfl|(j,p)::vs,t,ls,i,h=>by simp only[jb,gL,not_or]at h;rw[oe,Uh n vs _ _ i h.2,MQ (λe=>h.1 e.symm)]
theorem W9(n:Rn):∀(vs:J (Nat×PT))(t:J (TV E))(ls:J (Lf E)),(oe n vs t ls).1.length=t.length|[],t,ls=>rfl|(j,p)::vs,t,ls=>by simp_all[oe,W9]
theorem Xa(W:J Nat):∀(i:Nat)(l:J (TV E))(j:Nat),(i+j)∉W->(oW W i l)[j]? = l[j]?
 | _,[],j,_=>rfl|i,d::ds,0,h=>by simp_all[PJ,oW]|i,d::ds,j+1,h=>by have:=Xa W (i+1) ds j (by rw[show i+1+j=i+(j+1) by omega];exact h);simpa[oW]using this
variable{c:Cut}{b8:TS E}{ls:J (Lf E)}
theorem Cut.aiX(h:c.leaves b8 st=iN ls):b8.H.length<=c.boxes.length:=by
 unfold Cut.leaves at h;cases hc:(below c.rows.length c.soft&&(iO b8.H.length c.boxes.length&&(iO b8.g.length c.rows.length&&zX c.rows b8.g st.g)))<;>rw[hc]at h<;>simp only[aQ]at h
 .cases h
 simp_all
variable{W:J Nat}
theorem Cut.aaq{ls':J (Lf E)}(hW:c.okW W=eQ)(h:c.leaves b8 st=iN ls):Fr W eQ b8 (c.unpack W b8 ls'):=by
 have hl:=Cut.aiX h;refine⟨?_,λi hi=>?_,⟨Ff 0 c.boxes,rfl,λr hr hd=>?_⟩,?_,λ_=>rfl⟩
 .show((oe _ c.vars (oW W 0 b8.t) ls').1).length=_;rw[W9,IB]
 .show((oe _ c.vars (oW W 0 b8.t) ls').1)[i]? = _;rw[Uh _ _ _ _ i (λhm=>?_),Xa W 0 b8.t i (by simp_all)];obtain⟨p,hp,rfl⟩:=kq.1 hm;exact hi (SG (pW.1 hW p hp))
 .exact FZ _ c.boxes 0 b8.H _ r om (by simp_all) hr
 .show b8.H.length<=(fy _ c.boxes b8.H _).length;simp_all[pP]
theorem Rel.avA{G1:bC}{kg:TS E}(hr:Rel E w0 G0 st a w G)(hc:qE st kg)(fC:Rel E w0 G0 kg a w G1){d d1:TV E}(hi:st.t[i]? = iN d)(hv:∀v,VT E w G d v->VT E w G1 d1 v):
  Rel E w0 G0 {kg with t:=st.t.set i d1} a w G1:=by
 obtain⟨c',rfl⟩:=hc;refine⟨fC.fH,by simpa using fC.size,λj d' hj=>?_,fC.defers,fC.boxes,fC.fix,fC.pins,fC.gU⟩;simp[SB]at hj;by_cases hij:i=j
 .subst hij;have hlt:=(fD.1 hi).1;simp[hlt]at hj;subst hj;exact hv _ (hr.tmps i _ hi)
 .rw[if_neg hij]at hj;exact fC.tmps j d' hj
theorem Rel.adE(h:Rel E w0 G0 st a w G){x x':cU}{hd hd':R0}(c':J (Nat×Cn E))(hj:G.g[j]? = iN (x,hd))(hlt:x.aF<x'.aF)(hok:zS E w G x' hd')(Ck:∀i c,(i,c)∈c'->∃y z,(G.g.set j (x',hd'))[i]? = iN (y,z)/\um E w G y z c)
  (hnew:∀b,hd'.ownBlock=iN b->w0.heap.size<=b) (hap:∀(m:Nat) y z b,m≠j->G.g[m]? = iN (y,z)->z.ownBlock=iN b->hd'.ownBlock≠iN b) :
  Rel E w0 G0 {st with g:=st.g.set j x',c:=c'} a w {G with g:=G.g.set j (x',hd')}:=by
 have at':∀(m:Nat) y z,(G.g.set j (x',hd'))[m]? = iN (y,z)->(m=j/\y=x'/\z=hd')\/(m≠j/\G.g[m]? = iN (y,z)):=by grind
 have hg:jc w G w {G with g:=G.g.set j (x',hd')}:=by refine⟨λ_ _ h=>h,λ_ _ _ _ h=>h,λ_ _ h=>h,λm y z hm=>?_⟩;grind
 have ev:=h.fH;refine⟨⟨ev.os,ev.tape,ev.output,ev.size,ev.old,ev.goes.trans hg,ev.pN,ev.sF,λm y z b hm hb=>?_⟩,h.size,λm d hm=>(h.tmps m d hm).mono hg,h.defers.mono hg,?_,h.fix,h.pins,?_⟩
 .rcases at' m y z hm with⟨-,-,rfl⟩|⟨-,hm⟩
  .exact .inl (hnew b hb)
  .exact ev.iB m y z b hm hb
 .refine⟨h.boxes.len,?_,λr b y hb hy=>(h.boxes.box r b y hb hy).mono hg rfl,h.boxes.lt,h.boxes.nodup,h.boxes.gT,λm y z hm=>?_,λm m' y z y' z' b hm hm' hb hb'=>?_⟩
  .rw[abG,h.boxes.gs]
  .rcases at' m y z hm with⟨-,rfl,rfl⟩|⟨-,hm⟩
   .exact hok
   .exact h.boxes.grow m y z hm
  .rcases at' m y z hm with⟨q1,-,q3⟩|⟨q1,q⟩<;>rcases at' m' y' z' hm' with⟨q1',-,q3'⟩|⟨q1',q'⟩
   .rw[q1,q1']
   .grind
   .grind
   .exact h.boxes.apart m m' y z y' z' b q q' hb hb'
 .exact λi c hm=>Ck i c hm
theorem Rel.Td(h:Rel E w0 G0 st a w G){x x':cU}{hd hd':R0}(hj:G.g[j]? = iN (x,hd))(hlt:x.aF<x'.aF)(hok:zS E w G x' hd')(Ck:∀c,(j,c)∉st.c)
  (hnew:∀b,hd'.ownBlock=iN b->w0.heap.size<=b) (hap:∀(m:Nat) y z b,m≠j->G.g[m]? = iN (y,z)->z.ownBlock=iN b->hd'.ownBlock≠iN b) :
  Rel E w0 G0 {st with g:=st.g.set j x'} a w {G with g:=G.g.set j (x',hd')}:=
 h.adE st.c hj hlt hok (λi c hm=>by
  obtain⟨y,z,q1,q2⟩:=h.gU i c hm
  grind) hnew hap
theorem y5(x:cU):zS E w G x (.slice iF 0 0):=⟨0,[],⟨si,.inl ⟨rfl,rfl⟩⟩,(λa m e=>nomatch e),(λb hb=>nomatch hb)⟩
theorem Rel.aiY(h:Rel E w0 G0 st a w G){d1:TV E}(hv:VT E w G d1 (a.tmps.getD i H5)):Rel E w0 G0 {st with t:=st.t.set i d1} a w G:=by
 refine⟨h.fH,by simpa using h.size,λj d' hj=>?_,h.defers,h.boxes,h.fix,h.pins,h.gU⟩;simp[SB]at hj;by_cases hij:i=j
 .simp_all
 .rw[if_neg hij]at hj;exact h.tmps j d' hj
theorem adF(c:Cut)(n0 i:Nat)(p:PT)(hn0:G0.g.length<=n0)(hr:Rel E w0 G0 st a w G):(∃G',Rel E w0 G0 (W8 c n0 i p st) a w G')/\Fr [i] eQ st (W8 c n0 i p st):=by
 have yb:(∃G',Rel E w0 G0 st a w G')/\Fr [i] eQ st st:=⟨⟨G,hr⟩,Fr.refl _ _ _⟩;have nX:∀(d:TV E)(j:Nat),j∉[i]->(st.t.set i d)[j]? = st.t[j]?:=λd j hj=>MQ (λe=>hj (by simp[e]));have awG:∀(t:Ty)(d:TV E),st.t[i]? = iN d->(∃G',Rel E w0 G0 {(wZ (.dat t) d st).2 with t:=st.t.set i (wZ (.dat t) d st).1} a w G')/\Fr [i] eQ st {(wZ (.dat t) d st).2 with t:=st.t.set i (wZ (.dat t) d st).1}:=by intro t d hi;obtain⟨o1,G1,fC,g1,v1⟩:=U2 (.dat t) d hr;refine⟨⟨G1,hr.avA o1 fC hi v1⟩,?_⟩;obtain⟨c',tM⟩:=o1;rw[tM];exact⟨si,λj hj=>nX _ j hj,⟨[],rfl,λ_ _ _=>rfl⟩,eE _,λ_=>rfl⟩
 unfold W8;split
 .rename_i j T0 j' v T xs hi;split
  .rename_i g g' hg hg';generalize hb:(!(dO j' j)&&(iO n0 j'&&(dO g'.aF v&&(dO g.e g'.e&&(dO g.k g'.k&&(QW j st.c&&QW j' st.c))))))=b;cases b
   .exact yb
   simp only[cH,wL]at hb;obtain⟨b1,b2,b3,b4,b5,b6,b7⟩:=hb;have b1:j'≠j:=λe=>by simp_all
   have b2:=lY b2;have b3:=fm b3;obtain⟨hd,hj⟩:=hr.Cp hg;obtain⟨hd',hj'⟩:=hr.Cp hg';have hv:=hr.tmps i _ hi;have adG:=hr.boxes.grow j' g' hd' hj';have r1:=hr.Td (x':={g' with aF:=g'.aF+1}) (hd':=.slice iF 0 0) hj' (KV _) (y5 _) (QX b7) (λb hb=>nomatch hb) (λ_ _ _ _ _ _ _ hb=>nomatch hb)
   have r2:=r1.Td (j:=j) (x:=g) (hd:=hd) (x':={g with aF:=g.aF+1}) (hd':=hd') (by
     simp_all) (KV _) (by
     obtain⟨n,xs',g1,g2,g3⟩:=adG;exact⟨n,xs',by simp_all,λa m h=>by simp_all,λb hb=>by simp_all⟩) (QX b6) (λb hb=>by
     rcases hr.fH.iB j' g' hd' b hj' hb with q|⟨x0,h0,q,-⟩
     .exact q
     grind) (λm y z b hm Xb hb hb'=>by
     by_cases e:m=j'
     .subst e;rw[VA (fD.1 hj').1]at Xb;cases Xb;cases hb
     .rw[MQ (λq=>e q.symm)]at Xb
      exact e (hr.boxes.apart m j' y z g' hd' b Xb hj' hb hb'))
   refine⟨⟨_,r2.aiY (d1:=.cz j (g.aF+1) T xs) ?_⟩,si,λq hq=>nX _ q hq,⟨[],rfl,λ_ _ _=>rfl⟩,eE _,λ_=>rfl⟩;grind[VT]
  .exact yb
 .rename_i j T hi;split
  .rename_i g hg;cases hb:QW j st.c
   .exact yb
   obtain⟨hd,hj⟩:=hr.Cp hg;have hjl:j<G.g.length:=(fD.1 hj).1;have hv:=hr.tmps i _ hi;have r1:=hr.Td (x':={g with aF:=g.aF+1}) (hd':=.slice iF 0 0) hj (KV _) (y5 _) (QX hb) (λb hb=>nomatch hb) (λ_ _ _ _ _ _ _ hb=>nomatch hb);refine⟨⟨_,r1.aiY (d1:=.cz j (g.aF+1) T []) ?_⟩,si,λq hq=>nX _ q hq,⟨[],rfl,λ_ _ _=>rfl⟩,eE _,λ_=>rfl⟩;rw[hv];simp only[VT];exact⟨.wM _ _,{g with aF:=g.aF+1},.slice iF 0 0,by simp[hjl],eE _,λ_=>rfl⟩
  .exact yb
 .rename_i j j' v hi;split
  .rename_i g g' hg hg';generalize hb:(!(dO j' j)&&(iO n0 j'&&(dO g'.aF v&&(dO g.e g'.e&&dO g.k g'.k))))=b;cases b
   .exact yb
   simp only[cH,wL]at hb;obtain⟨b1,b2,b3,b4,b5⟩:=hb;have b1:j'≠j:=λe=>by simp_all
   have b2:=lY b2;have b3:=fm b3;have b4:=fm b4;have b5:=fm b5;obtain⟨hd,hj⟩:=hr.Cp hg;obtain⟨hd',hj'⟩:=hr.Cp hg';have hv:=hr.tmps i _ hi;have adG:=hr.boxes.grow j' g' hd' hj';have r1:=hr.adE (x':={g' with aF:=g'.aF+1}) (hd':=.slice iF 0 0) [] hj' (KV _) (y5 _) (λ_ _ h=>nomatch h) (λb hb=>nomatch hb) (λ_ _ _ _ _ _ _ hb=>nomatch hb)
   have r2:=r1.adE (j:=j) (x:=g) (hd:=hd) (x':={g with aF:=g.aF+1}) (hd':=hd') (mvC j j' st.c) (by
     simp_all) (KV _) (by
     obtain⟨n,xs',g1,g2,g3⟩:=adG;exact⟨n,xs',by simp_all,λa m h=>by simp_all,λb hb=>by simp_all⟩) (λq x hm=>by
     show ∃y z,((G.g.set j' _).set j _)[q]? = iN (y,z)/\um E w G y z x;rcases agS hm with⟨rfl,hm2⟩|⟨h1,h2,hm2⟩
     .obtain⟨y,z,q1,q2⟩:=hr.gU j' x hm2;grind[List.getElem?_set_self,um]
     .obtain⟨y,z,q1,q2⟩:=hr.gU q x hm2;grind) (λb hb=>by
     rcases hr.fH.iB j' g' hd' b hj' hb with q|⟨x0,h0,q,-⟩
     .exact q
     grind) (λm y z b hm Xb hb hb'=>by
     by_cases e:m=j'
     .subst e;rw[VA (fD.1 hj').1]at Xb;cases Xb;cases hb
     .rw[MQ (λq=>e q.symm)]at Xb
      exact e (hr.boxes.apart m j' y z g' hd' b Xb hj' hb hb'))
   refine⟨⟨_,r2.aiY (d1:=.eF j (g.aF+1)) ?_⟩,si,λq hq=>nX _ q hq,⟨[],rfl,λ_ _ _=>rfl⟩,eE _,λ_=>rfl⟩;grind[VT]
  .exact yb
 .rename_i j hi;split
  .rename_i e k T h1 h2;cases hb:(dO st.g.length j&&bY 0 (T.size E))
   .exact yb
   .rw[cH]at hb;exact⟨hr.akY hi e T (lY hb.2),⟨si,λj hj=>nX _ j hj,⟨[],rfl,λ_ _ _=>rfl⟩,eE _,λ_=>rfl⟩⟩
  .exact yb
 .simp_all
 .exact yb
theorem adH(c:Cut)(n0:Nat){W:J Nat}{w0 w:U}{G0:bC}{a:Act}(hn0:G0.g.length<=n0):∀(vs:J (Nat×PT)),(∀p∈vs,p.1∈W)->∀ {st:TS E}{G:bC},Rel E w0 G0 st a w G->(∃G',Rel E w0 G0 (ab3 c n0 vs st) a w G')/\Fr W eQ st (ab3 c n0 vs st)
 | [],_,st,G,hr=>⟨⟨G,hr⟩,Fr.refl _ _ _⟩|(i,p)::vs,hW,st,G,hr=>by obtain⟨⟨G1,fC⟩,f1⟩:=adF c n0 i p hn0 hr;obtain⟨h2,f2⟩:=adH c n0 hn0 vs (λq hq=>hW q (by simp[hq])) fC;exact⟨h2,Fr.trans f1 f2 (λj hj=>by simp_all) (λj hj=>hj) (λh=>⟨rfl,h⟩)⟩
theorem AX(hE:E.Ok){x:dens E c.tys}(hp:Pre G0 b8)(hr:Rel E w0 G0 st a w G)(hF:Fr W eQ b8 st)(hW:c.okW W=eQ)(h:c.pack b8 st=iN x):
  (∃G2,Rel E w0 G0 (c.un W b8 x) a w G2)/\Fr W eQ b8 (c.un W b8 x):=by
 unfold Cut.pack at h;split at h<;>try trivial
 rename_i ls hls
 obtain⟨⟨G1,hr⟩,hF1⟩:=adH c b8.g.length (by
  rcases Nat.lt_or_ge b8.g.length G0.g.length with hlt|hge
  .obtain⟨x,hx,-⟩:=hp.rows b8.g.length _ _ (fT hlt);simp_all
  .exact hge) c.vars (λp hp=>SG (pW.1 hW p hp)) hr
 have hF:=Fr.trans hF hF1 (λ_ h=>h) (λ_ h=>h) (λh=>⟨h,h⟩);obtain⟨D,hD,hH⟩:=hF.d;obtain⟨G2,hR,-⟩:=Rel.cut hE hp hr hF.len hF.keep hD hH (hF.df rfl) hls;grind[Fc,Cut.un,Cut.aaq]
def YZ{R:Type}(X:Cx E)(st:TS E)(o:H2)(k:TS E->O R):O R:=
 match WL X.P X.ty st o.op with
 | some (c,d)=>rqP (Tc st o.op) c (k {st with t:=cE st.t o.dst d})
 | none=>match o.op with
  | .pick c x y=>match st.ev c with
   | .dat .bool b=>cond b (k {st with t:=cE st.t o.dst (st.ev x)}) (k {st with t:=cE st.t o.dst (st.ev y)})
   | _=>iF
  | _=>iF
def qld(P:bw)(st:TS E):Op->O (Bool×TV E)
 | .load t x=>match aZ P t,st.ev x with
  | some i,.iX j aF k ix off=>match st.g[j]?,qc st.c j with
   | some g,iN c=>match TV.part c.1 (c.2.getD ix (c.1.dflt E)) i.isAgg i.size off with
    | some d=>iN (dO g.aF aF&&dO k (c.1.size E),d)|none=>iF
   | _,_=>iF
  | _,_=>iF
 | _=>iF
def Y0{R:Type}(X:Cx E)(st:TS E)(o:H2)(k:TS E->O R):O R:=
 match qld X.P st o.op with
 | some (c,d)=>rqP (Tc st o.op) c (k {st with t:=cE st.t o.dst d})
 | none=>YZ X st o k
def vX{R:Type}(X:Cx E)(all:aJ H2):J H2->TS E->(TS E->O R)->O R
 | [],st,k=>k st|o::rest,st,k=>match o.guard with
  | none=>Y0 X st o (λst'=>vX X all rest st' k)|some (j,want)=>match (all[j]?).bind (·.dst)with
   | some t=>match st.at t with
    | .dat .bool b=>cond b
      (cond want (Y0 X {st with t:=st.t.set t (.dat .bool eQ)} o (λst'=>vX X all rest st' k))
       (vX X all rest {st with t:=cE (st.t.set t (.dat .bool eQ)) o.dst (.val H5)} k))
      (cond want (vX X all rest {st with t:=cE (st.t.set t (.dat .bool eK)) o.dst (.val H5)} k)
       (Y0 X {st with t:=st.t.set t (.dat .bool eK)} o (λst'=>vX X all rest st' k)))
    | .val (.bool _)=>iF|.val _=>vX X all rest {st with t:=cE st.t o.dst (.val H5)} k
    | _=>iF
   | none=>iF
def ak1(ops:aJ H2)(i:Nat):Bool:=match ops[i]? with|some o=>!(Wi o.op)|none=>eK
def takes(ops:aJ H2)(hi:Nat):Nat->Nat->Bool|_,0=>eQ|i,m+1=>(Region.free .any ops (pre ops.size i) i&&(pB .any ops (pre ops.size i)).contains i&&(ak1 ops i||(List.range' hi (ops.size-hi)).all (λj=>waits ops ops.size j i)))&&takes ops hi (i+1) m
def backward(ops:aJ H2):Bool:=(aT ops.size).all λj=>match ops[j]? with|some o=>o.after.all λe=>!(pA .any e)||Nat.blt e.on j|none=>eQ
structure adI where
 q:Bool
 m:Nat
 c:Option Cut
noncomputable def adJ{R:Type}(X:Cx E)(l:J H2)(i:Nat)(q:Bool)(m:Nat)(st:TS E)(k:TS E->O R):O R:=
 cond q (rq ((Region.noSelect l.toArray&&backward l.toArray&&takes l.toArray (i+m) i m)&&iO (i+m) l.length) (vX X l.toArray ((l.drop i).take m) st k))
  (rq (forced l.toArray i m&&iO (i+m) l.length) (vu X l.toArray ((l.drop i).take m) st (jX k λ_ _=>iF)))
noncomputable def NM{R:Type}(X:Cx E)(l:J H2):Nat->J adI->TS E->(TS E->O R)->O R
 | i,[],st,k=>cond (dO i l.length) (k st) iF|i,s::ss,st,k=>match s.c with
  | none=>adJ X l i s.q s.m st (λst'=>NM X l (i+s.m) ss st' k)|some c=>rq (c.okW (fq l.toArray ((l.drop i).take s.m))&&cG l) ((adJ X l i s.q s.m st (λst'=>c.pack st st')).bind λx=>NM X l (i+s.m) ss (c.un (fq l.toArray ((l.drop i).take s.m)) st x) k)
variable{w':U}{f m id:Nat}{ws:U}{Gs:bC}{Z:J Nat}{L:aJ Bool}{R':Type}
def pQ(Q:TS E->Prop):Ex E->TS E->Prop:=λx s=>x=.normal/\Q s
theorem cQ.pQ{e:Exit}{R:TS E->Prop}(h:cQ E w0 G0 (λx s=>x=.normal/\R s) e a w):e=.normal:=by obtain⟨x,s,G,he,_,rfl,_⟩:=h;cases e<;>first|rfl|exact he.elim
def y6(w0:U)(G0:bC)(P:bw)(ops:aJ H2)(i:Nat)(st:TS E)(Q:TS E->Prop):Prop:=∀a w G,Rel E w0 G0 st a w G->wpAny P .any ops (cQ E w0 G0 (pQ Q)) (ops.size-i) (pre ops.size i) a w
theorem y6.done{l:J H2}{Q:TS E->Prop}(i:Nat)(hi:i=Sx l)(h:Q st):y6 w0 G0 P l.toArray i st Q:=by
 subst hi;intro a w G hr;have:l.toArray.size-Sx l=0:=by simp
 rw[this];refine⟨?_,.normal,st,G,trivial,hr,rfl,h⟩;apply List.eq_nil_iff_forall_not_mem.2;intro j hj;obtain⟨h1,o,ho,_⟩:=mem_ready.1 hj;have hlt:j<Sx l:=by grind
 rw[G4 hlt (by simpa using hlt)]at h1;cases h1
theorem aqf{l:J H2}(hm:i+m<=Sx l)(k:Nat)(hk:k<((l.drop i).take m).length):l.toArray[i+k]? = ((l.drop i).take m)[k]?:=by simp_all
theorem aiZ(h:backward ops=eQ)(i:Nat):Mc ops (pre ops.size i):=by
 intro j o ho hj e he hb;have hlt:=(BH.1 ho).1;have h1:=pW.1 h j (List.mem_range.2 hlt);simp only[ho]at h1;have h2:=Array.all_eq_true_iff_forall_mem.1 h1 e he;simp only[hb]at h2;have h3:=D8.1 h2;have hji:j<i:=by simp_all[aqe,pre]
 exact G4 om om eK
theorem Xc(hX:X.Ok){k:TS E->O R}{r:R}(h:YZ X st o k=iN r)(hr:Rel E w0 G0 st a w G):
  ∃v st',(∀w',J7 o w w'->(M2 a.eval o).run X.P w'=.ok (.value v) w')/\Rel E w0 G0 st' (a.put o.dst v) w G/\k st'=iN r/\Fr (jd o.dst) eQ st st':=by
 unfold YZ at h;split at h
 .rename_i pc pd hp;obtain⟨h1,h2⟩:=IG h;obtain⟨v,hv,hrun⟩:=Ug hX.E hr hp h1;exact⟨v,_,hrun,hr.put hv o.dst,h2,Fr.put _ _ _⟩
 .split at h<;>try trivial
  rename_i c x y ho;split at h<;>try trivial
  rename_i b hb;have hv:=hr.ev c;rw[hb]at hv;have hv:=hv.nE;have hrun:∀w',(M2 a.eval o).run X.P w'=.ok (.value (if b then a.eval x else a.eval y)) w':=λw'=>by simp[M2,ho,hv,asBool]
  cases b<;>simp at h
  .exact⟨a.eval y,_,λw' _=>hrun w',hr.put (hr.ev y) o.dst,h,Fr.put _ _ _⟩
  .exact⟨a.eval x,_,λw' _=>hrun w',hr.put (hr.ev x) o.dst,h,Fr.put _ _ _⟩
theorem ai0(hX:X.Ok){k:TS E->O R}{r:R}(h:Y0 X st o k=iN r)(hr:Rel E w0 G0 st a w G):
  ∃v st',(∀w',J7 o w w'->(M2 a.eval o).run X.P w'=.ok (.value v) w')/\Rel E w0 G0 st' (a.put o.dst v) w G/\k st'=iN r/\Fr (jd o.dst) eQ st st':=by
 unfold Y0 at h;split at h
 .rename_i pc pd hp;obtain⟨h1,h2⟩:=IG h;cases ho:o.op<;>rw[ho]at hp<;>try trivial
  simp[qld]at hp;split at hp<;>try trivial
  rename_i i j aF k' ix off ht hx;split at hp<;>try trivial
  rename_i g c hg hc;split at hp<;>try trivial
  rename_i d hpart;cases hp;rw[cH]at h1;obtain rfl:=fm h1.1;obtain⟨v,hv,hrun⟩:=Kf hX.E hr ho ht hx hg hc (fm h1.2) hpart;exact⟨v,_,hrun,hr.put hv o.dst,h2,Fr.put _ _ _⟩
 grind[Xc]
theorem afV(hX:X.Ok){l:J H2}{k:TS E->O R}{r:R}{Q:TS E->Prop}(hs:(Region.noSelect l.toArray&&backward l.toArray&&takes l.toArray (i+m) i m)=eQ)(hm:i+m<=Sx l)
  (h:vX X l.toArray ((l.drop i).take m) st k=iN r)    (eU:∀st',k st'=iN r->Fr (fq l.toArray ((l.drop i).take m)) eQ st st'->y6 w0 G0 X.P l.toArray (i+m) st' Q) (hr:Rel E w0 G0 st a w G) :
  wpAny X.P .any l.toArray (cQ E w0 G0 (pQ Q)) (l.toArray.size-i) (pre l.toArray.size i) a w:=by
 simp only[cH]at hs;obtain⟨⟨qq,hbk⟩,htk⟩:=hs;refine W5 (S:=λw'=>fI w w') (lo:=i) (hi:=i+m) _ _ _ _ ?_;have hQp:∀c a w,¬ cQ E w0 G0 (pQ Q) (.panic c) a w:=λc a w hp=>by have:=cQ.pQ hp;cases this
 have key:∀(seg:J H2)(q:Nat)(s:TS E)(a:Act),(∀k,k<seg.length->l.toArray[q+k]? = seg[k]?)->q+seg.length=i+m->i<=q->takes l.toArray (i+m) q seg.length=eQ ->
   Rel E w0 G0 s a w G->vX X l.toArray seg s k=iN r->(∀st',k st'=iN r->Fr (fq l.toArray seg) eQ s st'->y6 w0 G0 X.P l.toArray (i+m) st' Q) ->
   wpAnyS X.P l.toArray (cQ E w0 G0 (pQ Q)) (λw'=>fI w w') i (i+m) (l.toArray.size-q) (pre l.toArray.size q) a w:=by
  intro seg
  induction seg with
  | nil=>intro q s a hsg hq hiq _ hr h eU;subst hq;refine W6 _ _ _ _ (λk h1 h2=>G4 h2 aM eQ) ?_;exact eU s h (Fr.refl _ _ _) a w G hr|cons o seg ih=>
   intro q s a hsg hq hiq ht hr h eU;simp only[sB]at hq ht;simp only[takes,cH]at ht;obtain⟨⟨⟨hfr,hrd⟩,hwt⟩,ht'⟩:=ht;have hoq:l.toArray[q]? = iN o:=by simpa using hsg 0 si
   have asl:∀k,k<seg.length->l.toArray[(q+1)+k]? = seg[k]?:=λk hk=>by have:=hsg (k+1) (by simpa using hk);grind
   rw[show l.toArray.size-q=(l.toArray.size-(q+1))+1 by simp;omega];have first:∀v,YieldsIf X.P l.toArray (λw'=>J7 o w w') o v a->wpAnyS X.P l.toArray (cQ E w0 G0 (pQ Q)) (λw'=>fI w w') i (i+m) (l.toArray.size-(q+1)) (pre l.toArray.size (q+1)) (a.put o.dst v) w ->
     wpAnyS X.P l.toArray (cQ E w0 G0 (pQ Q)) (λw'=>fI w w') i (i+m) ((l.toArray.size-(q+1))+1) (pre l.toArray.size q) a w:=λv hy hh=>by
    simp only[KW]at hwt;rcases hwt with hnl|hwt
    .have avB:Wi o.op=eK:=by simp_all[ak1]
     refine afU (v:=v) hoq (ahO qq) (λc a w hp=>(hQp _ _ _ hp).elim) _ _ a w (ahP hoq hfr) (by simpa using hrd) ?_ ?_
     .rcases hy with⟨h1,h2⟩|hy
      .exact .inl ⟨h1,λw' _=>h2 w' (λhl=>by rw[avB]at hl;cases hl)⟩
      .exact .inr hy
     simp_all[U4]
    refine wpAnyS_first (v:=v) hoq (ahO qq) (λc a w hp=>(hQp _ _ _ hp).elim) (λj h1 h2=>?_) _ _ a w (aiZ hbk q) (λk h1 h2=>G4 om h2 eQ) (ahP hoq hfr) (by simpa using hrd) ?_ (fI.refl w) ?_
    rotate_left
    .rcases hy with⟨h1,h2⟩|hy
     .exact .inl ⟨h1,λw' hs=>h2 w' (λ_=>hs)⟩
     .exact .inr hy
    rotate_left
    .simp_all
    simp_all[U4]
   have run:∀(s1:TS E),Fr (mm l.toArray o) eQ s s1->Rel E w0 G0 s1 a w G->pC o (yielded l.toArray a.tmps)=eQ->Y0 X s1 o (λst'=>vX X l.toArray seg st' k)=iN r ->
     wpAnyS X.P l.toArray (cQ E w0 G0 (pQ Q)) (λw'=>fI w w') i (i+m) ((l.toArray.size-(q+1))+1) (pre l.toArray.size q) a w:=by
    intro s1 f0 fC hw h1;obtain⟨v,s2,hrun,hr2,h2,f1⟩:=ai0 hX h1 fC;refine first v (.inl ⟨hw,hrun⟩) (ih (q+1) s2 _ asl om om ht' hr2 h2 (λst' hk f2=>eU st' hk ?_))
    exact(f0.trans f1 (W:=jd o.dst++mm l.toArray o) (n:=eQ) (λi hi=>by simp[hi]) (λi hi=>by simp[hi]) (λh=>⟨rfl,rfl⟩)).trans f2 (λi hi=>by
     grind[fq]) (λi hi=>by simp[fq,hi]) (λh=>⟨rfl,rfl⟩)
   have skip:∀(s1:TS E),Fr (mm l.toArray o) eQ s s1->Rel E w0 G0 s1 a w G->pC o (yielded l.toArray a.tmps)=eK->vX X l.toArray seg {s1 with t:=cE s1.t o.dst (.val H5)} k=iN r ->
     wpAnyS X.P l.toArray (cQ E w0 G0 (pQ Q)) (λw'=>fI w w') i (i+m) ((l.toArray.size-(q+1))+1) (pre l.toArray.size q) a w:=by
    intro s1 f0 fC hw h1;have hr2:=fC.put (v:=H5) (d:=.val H5) (by simp only[VT]) o.dst;refine first H5 (.inr ⟨hw,rfl⟩) (ih (q+1) _ _ asl om om ht' hr2 h1 (λst' hk f2=>eU st' hk ?_))
    exact(f0.trans (Fr.put s1 o.dst (.val H5)) (W:=jd o.dst++mm l.toArray o) (n:=eQ) (λi hi=>by simp[hi]) (λi hi=>by simp[hi]) (λh=>⟨rfl,rfl⟩)).trans f2 (λi hi=>by
     grind[fq]) (λi hi=>by simp[fq,hi]) (λh=>⟨rfl,rfl⟩)
   simp only[vX]at h;split at h
   .rename_i hg;exact run s (Fr.refl _ _ _) hr (by simp[pC,hg]) h
   .rename_i j want hg;split at h<;>try trivial
    rename_i t htt;split at h<;>try trivial
    .rename_i b hb;obtain⟨hw,hbv⟩:=Ll hr hg htt hb;have hl:=hr.lit hbv;grind[mm,Fr.lit]
    grind[Fr.refl,NL]
 grind
theorem Xd(hX:X.Ok){l:J H2}{q:Bool}{k:TS E->O R}{r:R}{Q:TS E->Prop}(h:adJ X l i q m st k=iN r)
  (eU:∀st',k st'=iN r->Fr (fq l.toArray ((l.drop i).take m)) (cG ((l.drop i).take m)) st st'->y6 w0 G0 X.P l.toArray (i+m) st' Q):y6 w0 G0 X.P l.toArray i st Q:=by
 intro a w G hr;unfold adJ at h;cases q<;>simp at h
 .obtain⟨h1,h2⟩:=dX h;rw[cH]at h1;have hm:=lY h1.2;have hlen:((l.drop i).take m).length=m:=by simp;omega
  have key:=aap (Q':=cQ E w0 G0 (pQ Q)) ((l.drop i).take m) i (l.toArray.size-(i+m)) (aqf hm) (by rw[hlen];exact h1.1) a w (s8 hX h2 w0 G0 a w G hr) (λe a w hp=>?_)
  .grind
  .obtain⟨x,s,G',he,hr',hk,hf⟩:=hp;cases x with
   | normal=>refine⟨by cases e<;>first|rfl|exact he.elim,?_⟩;rw[hlen];exact eU s hk hf a w G' hr'
   | _=>cases hk
 .obtain⟨h1,h2⟩:=dX h;rw[cH]at h1;exact afV hX h1.1 (lY h1.2) h2 (λst' hk hf=>eU st' hk (hf.wide (λ_ h=>h) (λ_=>rfl))) hr
theorem y6.mono{Q Q':TS E->Prop}(hq:∀s,Q s->Q' s)(h:y6 w0 G0 P ops i st Q):y6 w0 G0 P ops i st Q':=by
 intro a w G hr;have key:∀(fuel:Nat)(listed:aJ Bool)(a:Act)(w:U){Q1 Q2:Exit->Act->U->Prop},(∀e a w,Q1 e a w->Q2 e a w)->wpAny P .any ops Q1 fuel listed a w->wpAny P .any ops Q2 fuel listed a w:=by
  intro fuel
  induction fuel with
  | zero=>intro listed a w Q1 Q2 hq h;exact⟨h.1,hq _ _ _ h.2⟩|succ fuel ih=>
   intro listed a w Q1 Q2 hq h;refine⟨λhe=>hq _ _ _ (h.1 he),λi hi=>?_⟩;have h1:=h.2 i hi;unfold wpOp at h1⊢;split
   .grind
   .rename_i o ho;rw[ho]at h1;simp only at h1;split
    .rename_i hw;rw[if_pos hw]at h1;rcases h1 with h1|⟨h1,a1,w1,h2⟩
     .exact .inl (qR (λa w h=>ih _ a w hq h) hq h1)
     .exact .inr ⟨h1,a1,w1,hq _ _ _ h2⟩
    grind
 exact key _ _ _ _ (λe a w hp=>cQ.mono (λx s hh=>⟨hh.1,hq _ hh.2⟩) hp) (h a w G hr)
theorem HV{all:aJ H2}:∀(l:J H2)(a b:Nat)(i:Nat),i∈fq all ((l.drop a).take b)->i∈fq all l
 | [],a,b,i,h=>by simp at h;exact h|o::l,0,0,i,h=>by simp[fq]at h|o::l,0,b+1,i,h=>by
  simp[fq]at h⊢;rcases h with h|h|h
  .exact .inl h
  .exact .inr (.inl h)
  .exact .inr (.inr (HV l 0 b i (by simpa using h)))
 | o::l,a+1,b,i,h=>by simp[fq];exact .inr (.inr (HV l a b i (by simpa using h)))
theorem Cw:∀(l:J H2)(a b:Nat),cG l=eQ->cG ((l.drop a).take b)=eQ|[],a,b,h=>by simp[cG]|o::l,0,0,h=>by simp[cG]|o::l,0,b+1,h=>by simp only[cG,cH]at h;simp only[M3,List.take_succ_cons,cG,cH];exact⟨h.1,by simpa using Cw l 0 b h.2⟩|o::l,a+1,b,h=>by simp_all[cG,Cw]
theorem Lm{R:Type}(hX:X.Ok){l:J H2}{k:TS E->O R}{r:R}{w0:U}{G0:bC}:∀(ss:J adI)(i:Nat){st:TS E},NM X l i ss st k=iN r ->
  y6 w0 G0 X.P l.toArray i st (λst'=>k st'=iN r/\Fr (fq l.toArray l) (cG l) st st')
 | [],i,st,h=>by
  simp[NM]at h;cases hi:dO i l.length<;>rw[hi]at h<;>simp only[aQ,aI]at h
  .cases h
  simp_all[y6.done,Fr.refl]
 | s::ss,i,st,h=>by
  simp[NM]at h;split at h
  .refine Xd hX h λst' hk hf=>?_;refine y6.mono (λs' hh=>⟨hh.1,hf.trans hh.2 (λj hj=>HV l i s.m j hj) (λj hj=>hj) (λhn=>⟨Cw l i s.m hn,hn⟩)⟩) (Lm hX ss (i+s.m) hk)
  .rename_i c hc;obtain⟨h1,h2⟩:=dX h;rw[cH]at h1;cases hs:adJ X l i s.q s.m st (λst'=>c.pack st st')with
   | none=>rw[hs]at h2;cases h2
   | some x=>rw[hs]at h2;intro a w G hr;have hpre:=hr.pre;refine Xd hX hs (λst' hk hf=>?_) a w G hr;intro a' w' G' hr';obtain⟨⟨G2,hR⟩,hF⟩:=AX hX.E hpre hr' (hf.wide (λ_ h=>h) (λ_=>Cw l i s.m h1.2)) h1.1 hk;exact y6.mono (λs' hh=>⟨hh.1,hF.trans hh.2 (λj hj=>HV l i s.m j hj) (λj hj=>hj) (λhn=>⟨rfl,hn⟩)⟩) (Lm hX ss (i+s.m) h2) a' w' G2 hR
theorem ai1(hX:X.Ok){ss:J adI}{k:TS E->O R}{r:R}(h:NM X ops.toList 0 ss st k=iN r):
  J6 E X.P (.region id ops eQ) st (λx st'=>x=.normal/\k st'=iN r/\Fr (fq ops ops.toList) (cG ops.toList) st st'):=by
 intro w0 G0 a w G hr;have hs:fI w {w with drawn:=w.drawn+1}:=⟨eE _,λ_ _=>rfl⟩;have hr':=hr.grow hs rfl rfl rfl G.pr (λ_ _ h=>h) (λ_ _ _ h=>h) (λb o hp=>kF (hr.boxes.gT b o hp).1 hs.1);have h1:=Lm hX ss 0 h a _ _ hr';refine wp_region_any hX.mix ?_;rw[ano];exact h1
theorem mj.trans{w1 w2:U}{G1 G2:bC}(h:mj w0 G0 w1 G1)(h':mj w1 G1 w2 G2):mj w0 G0 w2 G2:=by
 have FQ:∀b,b<w0.heap.size->G1.FQ b->G0.FQ b:=by
  intro b hb hf;rcases hf with hf|⟨x,hd,hm,hbk⟩
  .obtain⟨q,hq,he⟩:=ko hf;have WT:G1.i[q]? = iN b:=by rw[<-he];exact fT hq
   by_cases qO:q<G0.i.length
   .have e1:=h.goes.i q _ (fT qO);rw[WT]at e1;exact .inl (by rw[o4 e1];exact fW qO)
   .have:=h.sF q b om WT;omega
  .obtain⟨j,hj,he⟩:=ko hm;rcases h.iB j x hd b (by rw[<-he];exact fT hj) hbk with q|⟨x0,h0,q1,q2⟩
   .omega
   .exact .inr ⟨x0,h0,jQ q1,q2⟩
 refine⟨h'.os.trans h.os,h'.tape.trans h.tape,h'.output.trans h.output,jR h.size h'.size,λb hb hn=>(h'.old b (kF hb h.size) (λhf=>hn (FQ b hb hf))).trans (h.old b hb hn),h.goes.trans h'.goes,λb o hb hp=>?_,λr b h1 h2=>?_,λj x hd b hj hbk=>?_⟩
 .rcases h'.pN b o (kF hb h.size) hp with q|⟨x,hd,hm,hbk⟩
  .exact h.pN b o hb q
  .obtain⟨j,hj,he⟩:=ko hm;rcases h.iB j x hd b (by rw[<-he];exact fT hj) hbk with q|⟨x0,h0,q1,q2⟩
   .omega
   .exact .inr ⟨x0,h0,jQ q1,q2⟩
 .by_cases hr:r<G1.i.length
  .have e1:=h'.goes.i r _ (fT hr);rw[h2]at e1;exact h.sF r b h1 (by rw[o4 e1];exact fT hr)
  .exact jR h.size (h'.sF r b om h2)
 .rcases h'.iB j x hd b hj hbk with q|⟨x0,h0,q1,q2⟩
  .exact .inl (jR h.size q)
  .exact h.iB j x0 h0 b q1 q2
def Rel.root(h:Rel E w0 G0 st a w G):Rel E w G {st with d:=[]} a w G:=⟨mj.refl w G,h.size,h.tmps,h.defers,h.boxes,λ_ _ _ _=>rfl,h.WU,h.gU⟩
theorem Rel.QY{G':bC}{a':Act}{st':TS E}(h:Rel E w0 G0 st a w G)(h':Rel E w G st' a' w' G'):Rel E w0 G0 {st' with d:=st'.d++st.d} a' w' G':=
 ⟨h.fH.trans h'.fH,h'.size,h'.tmps,h'.defers,h'.boxes,λr b hb hd=>by
  rw[kZ,not_or]at hd;exact(h'.fix r b (h.fH.goes.i r b hb) hd.1).trans (h.fix r b hb hd.2),h.pins,h'.gU⟩
theorem Fr.QY{nd:Bool}{st':TS E}(h:Fr W nd {st with d:=[]} st'):Fr W nd st {st' with d:=st'.d++st.d}:=by obtain⟨D,hD,hH⟩:=h.d;simp at hD;exact⟨h.len,h.keep,⟨D,by rw[hD],hH⟩,h.hl,h.df⟩
def OO(ws:U)(Gs:bC)(R:J Nat)(w':U):Prop:=(∀r b,r∈R->Gs.i[r]? = iN b->w'.heap[b]? = ws.heap[b]?)/\∀b o u,Gs.pr b o->ws.cell? ⟨b,o,iF⟩=iN u->w'.cell? ⟨b,o,iF⟩=iN u
def pinned(R:J Nat)(st:TS E):Bool:=R.all λr=>!(st.d.elem r)
theorem Rel.pin{R:J Nat}(h:Rel E ws Gs st a w G)(hR:pinned R st=eQ):OO ws Gs R w:=
 ⟨λr b hr hb=>h.fix r b hb (λhm=>by
  have:=pW.1 hR r hr
  simp_all),h.fH.goes.cells⟩
def Xe(R:J Nat)(first:Bool)(st:TS E):Op->Bool
 | .load _ x=>match st.ev x with
  | .ptr r _=>R.elem r|.uk _ _ _=>first
  | _=>eK
 | _=>eQ
def ye(P:bw)(ops:aJ H2)(Q:Exit->Act->U->Prop)(S:U->Prop)(Z:J Nat):Nat->aJ Bool->Act->U->Prop
 | 0,listed,a,w=>pB .any ops listed=[]/\Q .normal a w|fuel+1,listed,a,w=>
  (pB .any ops listed=[]->Q .normal a w) /\
  ∀i∈pB .any ops listed,wpOp P ops Q i (λa' w'=>(Z.elem i=eK->S w')/\ye P ops Q S Z fuel (listed.setIfInBounds i eQ) a' w') a w
theorem NN{P:bw}{ops:aJ H2}{Q:Exit->Act->U->Prop}{S:U->Prop}{Z:J Nat}:∀(fuel:Nat)(listed:aJ Bool)(a:Act)(w:U),ye P ops Q S Z fuel listed a w->wpAny P .any ops Q fuel listed a w|0,_,_,_,h=>h|fuel+1,_,_,_,h=>⟨h.1,λi hi=>wpOp_mono (λa' w' h'=>NN fuel _ a' w' h'.2) (h.2 i hi)⟩
theorem adK(II:ops[i]? = iN oi)(hsel:∀(j:Nat)(o:H2) cs b,ops[j]? = iN o->o.op≠.select cs b)
  (hQ:∀c a w,Q (.panic c) (a.put oi.dst v) w->Q (.panic c) a w) {B:J Nat} (hZ:∀j,Z.elem j=eQ->j∈B) (hB:∀j∈B,∃oj,ops[j]? = iN oj/\∃e∈oj.after,pA .any e=eQ/\(e.on=i\/e.on∈B)) :
  ∀(fuel:Nat)(listed:aJ Bool)(a:Act)(w:U),
   (∀j oj,ops[j]? = iN oj->j≠i->listed.getD j eQ=eK->(∀e∈oj.after,pA .any e=eQ->e.on≠i)->oi.apart ops oj=eQ) ->
   (∀j∈B,listed.getD j eQ=eK)->i∈pB .any ops listed->YieldsIf P ops S oi v a->S w ->
   ye P ops Q S Z fuel (listed.setIfInBounds i eQ) (a.put oi.dst v) w->ye P ops Q S Z (fuel+1) listed a w:=by
 intro fuel
 induction fuel with
 | zero=>
  intro listed a w _ _ hr hy hS H;refine⟨λh=>(by rw[h]at hr;cases hr),λj hj=>?_⟩;by_cases hji:j=i
  .subst hji;exact hy.wpOp II hS ⟨λ_=>hS,H⟩
  .have:=ready_mono hj hji;rw[H.1]at this;cases this
 | succ fuel ih=>
  intro listed a w hfree hL hr hy hS H;refine⟨λh=>(by rw[h]at hr;cases hr),λj hj=>?_⟩;by_cases hji:j=i
  .subst hji;exact hy.wpOp II hS ⟨λ_=>hS,H⟩
  .have h1:=H.2 j (ready_mono hj hji);obtain⟨QT,oj,QU,hall⟩:=mem_ready.1 hj;have hpi:=(mem_ready.1 hr).1;have hnot:∀e∈oj.after,pA .any e=eQ->e.on≠i:=λe he hb heq=>by grind
   have h2:=wpOp_putIf QU (hfree j oj QU hji QT hnot) (λcs b=>hsel i oi cs b II) (λcs b=>hsel j oj cs b QU) hQ hy h1;have QV:∀k ok,ops[k]? = iN ok->k≠i->(listed.setIfInBounds j eQ).getD k eQ=eK ->
     (∀e∈ok.after,pA .any e=eQ->e.on≠i)->oi.apart ops ok=eQ:=λk ok hk hki hun hno=>by
    refine hfree k ok hk hki ?_ hno;by_cases hjk:j=k
    .subst hjk;exact QT
    .rw[getD_set_ne eQ hjk]at hun;exact hun
   have hjB:j∉B:=λhjB=>by grind
   have hjZ:Z.elem j=eK:=by grind
   have hL':∀k∈B,(listed.setIfInBounds j eQ).getD k eQ=eK:=λk hk=>by rw[getD_set_ne eQ (λe=>hjB (by rw[e];exact hk))];exact hL k hk
   refine wpOp_mono (λa' w' h3=>⟨h3.2.1,ih (listed.setIfInBounds j eQ) a' w' QV hL' (ready_mono hr (Ne.symm hji)) h3.1 (h3.2.1 hjZ) ?_⟩) h2;grind[Array.setIfInBounds_comm]
def gdT{R':Type}(all:aJ H2)(o:H2)(st:TS E)(run skip:TS E->O R'):O R':=match o.guard with
 | none=>run st|some (j,want)=>match (all[j]?).bind (·.dst)with
  | some t=>match st.at t with
   | .dat .bool b=>cond b
     (cond want (run {st with t:=st.t.set t (.dat .bool eQ)}) (skip {st with t:=st.t.set t (.dat .bool eQ)}))
     (cond want (skip {st with t:=st.t.set t (.dat .bool eK)}) (run {st with t:=st.t.set t (.dat .bool eK)}))
   | .val (.bool _)=>iF|.val _=>skip st|_=>iF
  | none=>iF
def hasDep(all:aJ H2)(i:Nat)(S:J Nat)(j:Nat):Bool:=match all[j]? with|some o=>o.after.any (λe=>pA .any e&&(dO e.on i||S.elem e.on))|none=>eK
def upG(all:aJ H2)(i:Nat):J Nat->J Nat->J Nat|[],acc=>acc|j::js,acc=>upG all i js (cond (hasDep all i acc j) (j::acc) acc)
def agT(all:aJ H2)(Z:J Nat)(L:aJ Bool)(i:Nat)(B:J Nat):Bool:=Z.all (B.elem ·)&&B.all λj=>hasDep all i B j && !(L.getD j eQ)
def behind(all:aJ H2)(Z:J Nat)(L:aJ Bool)(i:Nat):Bool:=cond Z.isEmpty eQ (agT all Z L i (upG all i (aT all.size) []))
theorem ak2(h:behind all Z L i=eQ):∃B:J Nat,(∀j,Z.elem j=eQ->j∈B)/\∀j∈B,L.getD j eQ=eK/\∃oj,all[j]? = iN oj/\∃e∈oj.after,pA .any e=eQ/\(e.on=i\/e.on∈B):=by
 unfold behind at h;cases hz:Z.isEmpty<;>rw[hz]at h<;>simp at h
 .unfold agT at h;rw[cH]at h;refine⟨_,λj hj=>SG (pW.1 h.1 j (SG hj)),λj hj=>?_⟩;have h2:=pW.1 h.2 j hj;grind[hasDep,Array.any_eq_true',Nat.eq_of_beq_eq_true,List.mem_of_elem_eq_true]
 .refine⟨[],λj hj=>?_,λj hj=>by cases hj⟩;simp_all
noncomputable def OP{R':Type}(X:Cx E)(R Z:J Nat)(all:aJ H2):J (Nat×Bool)->Nat->aJ Bool->TS E->(Nat->TS E->O R')->O R'
 | [],f,_,st,k=>k f st|p::is,f,L,st,k=>match all[p.1]? with
  | none=>iF
  | some o=>cond p.2
    (rq ((Region.free .any all L p.1&&(pB .any all L).contains p.1)&&(iO f 1&&behind all Z L p.1)) (gdT all o st
     (λst=>rq (Xe R (dO f 0) st o.op) (YZ X st o (λst'=>OP X R Z all is f (L.setIfInBounds p.1 eQ) st' k)))
     (λst=>OP X R Z all is f (L.setIfInBounds p.1 eQ) {st with t:=cE st.t o.dst (.val H5)} k)))
    (rq (pB .any all L==[p.1]) (gdT all o st
     (λst=>opT X st o (jX (λst'=>cond (Z.elem p.1) (OP X R Z all is 2 (L.setIfInBounds p.1 eQ) st' k) (rq (pinned R st') (OP X R Z all is 1 (L.setIfInBounds p.1 eQ) st' k))) λ_ _=>iF))
     (λst=>rq (iO f 1||Z.elem p.1) (OP X R Z all is f (L.setIfInBounds p.1 eQ) {st with t:=cE st.t o.dst (.val H5)} k))))
structure zK where
 l:List (Nat×Bool)
 c:Option Cut
def ab4(L:aJ Bool):J (Nat×Bool)->aJ Bool|[]=>L|p::l=>ab4 (L.setIfInBounds p.1 eQ) l
def rI(all:aJ H2)(l:J (Nat×Bool)):J H2:=l.filterMap λp=>all[p.1]?
noncomputable def Te{R':Type}(X:Cx E)(R Z:J Nat)(all:aJ H2):J zK->Nat->aJ Bool->TS E->(TS E->O R')->O R'
 | [],_,L,st,k=>rq (pB .any all L).isEmpty (k st)|s::ss,f,L,st,k=>match s.c with
  | none=>OP X R Z all s.l f L st (λf' st'=>Te X R Z all ss f' (ab4 L s.l) st' k)|some c=>rq (c.okW (fq all (rI all s.l))&&cG all.toList) ((OP X R Z all s.l f L st (λ_ st'=>c.pack st st')).bind λx=>rq (pinned R (c.un (fq all (rI all s.l)) st x)) (Te X R Z all ss 1 (ab4 L s.l) (c.un (fq all (rI all s.l)) st x) k))
def zK.n:J zK->Nat|[]=>0|s::ss=>s.l.length+zK.n ss
def mU(ws:U)(Gs:bC)(R Z:J Nat)(P:bw)(ops:aJ H2)(f n:Nat)(L:aJ Bool)(st:TS E)(Q:TS E->Prop):Prop:=∀a w G,Rel E ws Gs st a w G->(f=0->w.heap=ws.heap/\G=Gs)->(f<=1->OO ws Gs R w)->ye P ops (cQ E ws Gs (pQ Q)) (OO ws Gs R) Z n L a w
theorem mU.done{R:J Nat}{Q:TS E->Prop}(hL:(pB .any ops L).isEmpty=eQ)(h:Q st):∀n,mU ws Gs R Z P ops f n L st Q:=by
 have hL:=List.isEmpty_iff.1 hL;intro n a w G hr _ _;have hq:cQ E ws Gs (pQ Q) .normal a w:=⟨.normal,st,G,trivial,hr,rfl,h⟩;cases n with
 | zero=>exact⟨hL,hq⟩|succ n=>exact⟨λ_=>hq,λi hi=>by rw[hL]at hi;cases hi⟩
theorem ai2(hX:X.Ok){R:J Nat}{first:Bool}{k:TS E->O R'}{r:R'}(hl:Xe R first st o.op=eQ)(h:YZ X st o k=iN r)(hr:Rel E ws Gs st a w G)
  (hf:first=eQ->w.heap=ws.heap/\G=Gs) (hp:OO ws Gs R w) (Cy:∀q,q∈R->q<Gs.i.length) :
  ∃v st',(∀w',OO ws Gs R w'->(M2 a.eval o).run X.P w'=.ok (.value v) w')/\Rel E ws Gs st' (a.put o.dst v) w G/\k st'=iN r/\Fr (jd o.dst) eQ st st':=by
 cases hld:Wi o.op with
 | false=>obtain⟨v,st',h1,h2,h3,h4⟩:=Xc hX h hr;exact⟨v,st',λw' _=>h1 w' (λhh=>by rw[hld]at hh;cases hh),h2,h3,h4⟩
 | true=>
  obtain⟨t,x,ho⟩:∃t x,o.op=.load t x:=by cases ho:o.op<;>rw[ho]at hld<;>first|exact⟨_,_,rfl⟩|cases hld
  unfold YZ at h;split at h
  .rename_i pc pd V7;obtain⟨h1,h2⟩:=IG h;obtain⟨p,hpd⟩:∃p:Bool×TV E,p=(pc,pd):=⟨_,rfl⟩;rw[<-hpd]at V7;have asm:pc=p.1:=by rw[hpd]
   have asn:pd=p.2:=by rw[hpd]
   rw[asm]at h1;rw[asn]at h2;clear hpd asm asn;have avC:WJ X.P X.ty st o.op=iN p\/WK X.P st o.op=iN p:=by grind[WL,abY]
   rcases avC with V7|hpn
   rotate_left
   .rw[ho]at hpn hl;simp only[WK]at hpn;simp only[Xe]at hl;have hv:=hr.ev x;split at hpn<;>try trivial
    rename_i i r' off hi hd;rw[hd]at hv hl;have hrR:=SG hl;split at hpn<;>try trivial
    rename_i e cap T xs d' hb;cases hpn;obtain⟨b,he,hat⟩:=hv;obtain⟨cur,q1,q2,q4,q5,q6⟩:=hr.box hat hb;simp only[cH,wL]at h1;obtain⟨c1,c2,c3⟩:=h1;have c1:=fm c1;have c3:=fm c3;subst c3;have hGs:Gs.i[r']? = iN b:=by have hlt:=Cy r' hrR;have e1:=hr.fH.goes.i r' _ (fT hlt);simp_all
    refine⟨_,_,λw' hP=>?_,hr.put q5 o.dst,h2,Fr.put _ _ _⟩;have hh':w'.heap[b]? = iN (.cells cur e (0,0)):=by rw[hP.1 r' b hrR hGs,<-hp.1 r' b hrR hGs];exact q1
    have hrun:=OM (P:=X.P) hi c1 c2 w' (aag hh' (by rw[q2];exact q6));simp only[M2,ho,he,jF,hrun,kn,qw]
   have QZ:S3 X.P X.ty st o.op=iN p\/(S3 X.P X.ty st o.op=iF/\WC X.P X.ty st o.op=iN p):=by grind[WJ,WH,WD,abV,abX]
   rw[ho]at QZ hl;rcases QZ with QZ|⟨-,QZ⟩
   rotate_left
   .simp_all[WC]
   simp only[S3]at QZ;simp only[Xe]at hl;have hv:=hr.ev x;split at QZ<;>try trivial
   .rename_i i T y off hi hd;rw[hd]at hv hl;subst hl;obtain⟨hw,hG⟩:=hf rfl;subst hG;have hcell:∀a,w.cell? a=ws.cell? a:=λa=>by unfold World.cell?;rw[hw]
    obtain⟨b,o',c,he,q1,q2⟩:=hv;have hpart:=Nu hX.E q1 (DY QZ);obtain⟨v,OC,WX⟩:=ur (P:=X.P) hi (λl u hl=>(q2 l u hl).2) hpart;refine⟨v,_,λw' hP=>?_,hr.put OC o.dst,h2,Fr.put _ _ _⟩;have hrow:∀(l:Nat) u,c[l]? = iN u->w'.cell? ⟨b,o'+l,iF⟩=iN u:=λl u hl=>hP.2 _ _ _ (q2 l u hl).1 (by simp_all);have hrun:(Instr.loadAt t (.pointer (iN ⟨b,o'+off,iF⟩))).run X.P w'=.ok v w':=by
     have e0:=WX w (fI.refl w);have key:∀(W:U),(∀(l:Nat) u,c[l]? = iN u->W.cell? ⟨b,o'+l,iF⟩=iN u)->∀(p1:Part E w G c i.isAgg i.size off p.2),(Instr.loadAt t (.pointer (iN ⟨b,o'+off,iF⟩))).run X.P W=.ok (cond i.isAgg (.agg ((c.drop off).take i.size).toArray) (c.getD off H5)) W:=by
      intro W hW p1;have tM:∀l,l<c.length->W.cell? ⟨b,o'+l,iF⟩=iN (c.getD l H5):=λl hl=>by simp_all
      cases ha:i.isAgg<;>rw[ha]at p1<;>simp only[aQ,aI]at p1⊢
      .obtain⟨u,hu,-⟩:=p1;have hl:=(fD.1 hu).1;rw[nU hi b o' c.length (λl=>c.getD l H5) tM off (by rw[ha];exact hl) W (fI.refl W),ha];rfl
      .obtain⟨hl,-⟩:=p1;rw[nU hi b o' c.length (λl=>c.getD l H5) tM off (by rw[ha];exact hl) W (fI.refl W),ha];simp only[aQ];congr 3;apply BG
       .simp;omega
       grind
     simp_all
    simp only[M2,ho,he,jF,hrun,kn,qw]
   .rename_i i r' off hi hd;rw[hd]at hv hl;have hrR:=SG hl;split at QZ<;>try trivial
    rename_i t' cs hb;obtain⟨b,he,hat⟩:=hv;obtain⟨vs,hh,q1,q2⟩:=hr.box hat hb;have hGs:Gs.i[r']? = iN b:=by have hlt:=Cy r' hrR;have e1:=hr.fH.goes.i r' _ (fT hlt);simp_all
    have hpart:=Lb hX.E q2 (λu hu=>q1 u (by simpa using hu)) (DY QZ)
    obtain⟨v,OC,WX⟩:=ur (P:=X.P) (w:=w) (b:=b) (o':=0) hi (λl u hl=>by
     grind[cell_of_row]) hpart
    refine⟨v,_,λw' hP=>?_,hr.put OC o.dst,h2,Fr.put _ _ _⟩;have hh':w'.heap[b]? = iN (.cells vs t' (0,0)):=by rw[hP.1 r' b hrR hGs,<-hp.1 r' b hrR hGs];exact hh
    have hrun:(Instr.loadAt t (.pointer (iN ⟨b,0+off,iF⟩))).run X.P w'=.ok v w':=by
     have e0:=WX w (fI.refl w);have key:∀(W:U),W.heap[b]? = iN (.cells vs t' (0,0))->(Instr.loadAt t (.pointer (iN ⟨b,0+off,iF⟩))).run X.P W=.ok (cond i.isAgg (.agg ((vs.toList.drop off).take i.size).toArray) (vs.toList.getD off H5)) W:=by
      intro W hW;have tM:∀l,l<vs.toList.length->W.cell? ⟨b,0+l,iF⟩=iN (vs.toList.getD l H5):=λl hl=>by grind[cell_of_row]
      have p1:=hpart;cases ha:i.isAgg<;>rw[ha]at p1<;>simp only[aQ,aI]at p1⊢
      .obtain⟨u,hu,-⟩:=p1;have hl:=(fD.1 hu).1;rw[nU hi b 0 vs.toList.length (λl=>vs.toList.getD l H5) tM off (by rw[ha];exact hl) W (fI.refl W),ha];rfl
      .obtain⟨hl,-⟩:=p1;rw[nU hi b 0 vs.toList.length (λl=>vs.toList.getD l H5) tM off (by rw[ha];exact hl) W (fI.refl W),ha];simp only[aQ];congr 3;apply BG
       .simp;simp at hl;omega
       grind
     simp_all
    rw[sC]at hrun;simp only[M2,ho,he,jF,hrun,kn,qw]
  .rw[ho]at h;cases h
theorem U5{run skip:TS E->O R'}{r:R'}(h:gdT all o st run skip=iN r)(hr:Rel E w0 G0 st a w G):
  ∃s1,Fr (mm all o) eQ st s1/\Rel E w0 G0 s1 a w G/\((pC o (yielded all a.tmps)=eQ/\run s1=iN r)\/(pC o (yielded all a.tmps)=eK/\skip s1=iN r)):=by
 unfold gdT at h;split at h
 .rename_i hg;exact⟨st,Fr.refl _ _ _,hr,.inl ⟨by simp[pC,hg],h⟩⟩
 .rename_i j want hg;split at h<;>try trivial
  rename_i t htt;split at h<;>try trivial
  .rename_i b hb;obtain⟨hw,hbv⟩:=Ll hr hg htt hb;have hl:=hr.lit hbv;grind[mm,Fr.lit]
  grind[Fr.refl,NL]
theorem yf{R':Type}(hX:X.Ok){R Z:J Nat}{all:aJ H2}(qq:Region.noSelect all=eQ){ws:U}{Gs:bC}(Cy:∀q,q∈R->q<Gs.i.length){Q:TS E->Prop}{n:Nat}{k:Nat->TS E->O R'}{r:R'}:
  ∀(is:J (Nat×Bool))(f:Nat)(L:aJ Bool){st:TS E},OP X R Z all is f L st k=iN r ->
   (∀f' st',k f' st'=iN r->Fr (fq all (rI all is)) (cG (rI all is)) st st'->mU ws Gs R Z X.P all f' n (ab4 L is) st' Q)->mU ws Gs R Z X.P all f (Sx is+n) L st Q
 | [],f,L,st,h,eU=>by simp;exact eU f st h (Fr.refl _ _ _)|(i,q)::is,f,L,st,h,eU=>by
  intro a w G hr hf hp;simp only[OP]at h;split at h<;>try trivial
  rename_i o ho;have hQp:∀c a w,¬ cQ E ws Gs (pQ Q) (.panic c) a w:=λc a w hp=>by have:=cQ.pQ hp;cases this
  have oG:rI all ((i,q)::is)=o::rI all is:=by simp[rI,ho]
  have hfr:∀ {s1 s2 s3:TS E}{nd:Bool},(nd=!(GZ o.op)\/nd=eQ)->Fr (mm all o) eQ st s1->Fr (jd o.dst) nd s1 s2->Fr (fq all (rI all is)) (cG (rI all is)) s2 s3->Fr (fq all (rI all ((i,q)::is))) (cG (rI all ((i,q)::is))) st s3:=by
   intro s1 s2 s3 nd hnd f0 f1 f2;rw[oG]
   refine(f0.trans f1 (W:=jd o.dst++mm all o) (λi hi=>by simp[hi]) (λi hi=>by simp[hi]) (λh=>⟨rfl,h⟩)).trans f2 (λi hi=>by
     grind[fq]) (λi hi=>by simp[fq,hi]) (λh=>by
     simp_all[cG])
  rw[show((i,q)::is).length+n=(Sx is+n)+1 by simp;omega];have apd:∀(s1:TS E),Fr (mm all o) eQ st s1->Rel E ws Gs s1 a w G->OP X R Z all is f (L.setIfInBounds i eQ) {s1 with t:=cE s1.t o.dst (.val H5)} k=iN r ->
    ye X.P all (cQ E ws Gs (pQ Q)) (OO ws Gs R) Z (Sx is+n) (L.setIfInBounds i eQ) (a.put o.dst H5) w:=by
   intro s1 f0 fC h1;have hr2:=fC.put (v:=H5) (d:=.val H5) (by simp[VT]) o.dst;exact yf hX qq Cy is f _ h1 (λf' st' hk f2=>eU f' st' hk (hfr (.inr rfl) f0 (Fr.put s1 o.dst (.val H5)) f2)) _ w G hr2 hf hp
  cases q<;>simp only[aQ,aI]at h
  .obtain⟨h1,h⟩:=dX h;refine⟨λhe=>(by rw[he]at h1;cases h1),λj hj=>?_⟩;have hji:j=i:=by simp_all
   subst hji;obtain⟨s1,f0,fC,hc⟩:=U5 h hr;unfold wpOp;simp only[ho];rcases hc with⟨hw,h2⟩|⟨hw,h2⟩
   .rw[if_pos hw];have hop:=QO hX h2 ws Gs a w G fC;refine .inl (qR (λa' w' hn=>?_) (λe a' w' V7=>?_) hop)
    .obtain⟨s2,G2,hr2,hk,f1⟩:=hn;cases hz:Z.elem j<;>rw[hz]at hk<;>simp at hk
     .obtain⟨adL,hk⟩:=dX hk;have hp2:=hr2.pin adL;exact⟨λ_=>hp2,yf hX qq Cy is 1 _ hk (λf' st' hk' f2=>eU f' st' hk' (hfr (.inl rfl) f0 f1 f2)) a' w' G2 hr2 (λe=>by cases e) (λ_=>hp2)⟩
     .exact⟨λe=>(by cases e),yf hX qq Cy is 2 _ hk (λf' st' hk' f2=>eU f' st' hk' (hfr (.inl rfl) f0 f1 f2)) a' w' G2 hr2 (λe=>by cases e) (λe=>om)⟩
    .obtain⟨x,s2,G2,he,hr2,hn,hk,f1⟩:=V7;grind
   .rw[if_neg (by rw[hw];simp)];obtain⟨h3,h2⟩:=dX h2;refine⟨λhz=>hp ?_,apd s1 f0 fC h2⟩;simp_all
  .obtain⟨h1,h⟩:=dX h;simp only[cH]at h1;obtain⟨h1,hf1,hbe⟩:=h1;have hp:=hp (lY hf1);obtain⟨B,hZ,hB⟩:=ak2 hbe;have first:∀v,YieldsIf X.P all (OO ws Gs R) o v a->ye X.P all (cQ E ws Gs (pQ Q)) (OO ws Gs R) Z (Sx is+n) (L.setIfInBounds i eQ) (a.put o.dst v) w ->
     ye X.P all (cQ E ws Gs (pQ Q)) (OO ws Gs R) Z ((Sx is+n)+1) L a w:=λv hy hh=>
    adK ho (ahO qq) (λc a w hp=>(hQp _ _ _ hp).elim) hZ (λj hj=>(hB j hj).2) _ _ a w (ahP ho h1.1) (λj hj=>(hB j hj).1) (by simpa using h1.2) hy hp hh
   obtain⟨s1,f0,fC,hc⟩:=U5 h hr;rcases hc with⟨hw,h2⟩|⟨hw,h2⟩
   .obtain⟨hl,h2⟩:=dX h2;obtain⟨v,s2,hrun,hr2,hk,f1⟩:=ai2 hX hl h2 fC (λe=>hf (fm e)) hp Cy;exact first v (.inl ⟨hw,hrun⟩) (yf hX qq Cy is f _ hk (λf' st' hk' f2=>eU f' st' hk' (hfr (.inr rfl) f0 f1 f2)) _ w G hr2 hf (λ_=>hp))
   .exact first H5 (.inr ⟨hw,rfl⟩) (apd s1 f0 fC h2)
theorem Y1{all:aJ H2}{o:H2}:∀ {l:J H2},o∈l->∀i,i∈jd o.dst++mm all o->i∈fq all l
 | [],h,_,_=>by cases h
 | o'::l,h,i,hi=>by
  simp[fq];rcases gL.1 h with rfl|h
  .simp at hi;rcases hi with hi|hi
   .exact .inl hi
   .exact .inr (.inl hi)
  .exact .inr (.inr (Y1 h i hi))
theorem NO{l:J (Nat×Bool)}(h:o∈rI all l):o∈all.toList:=by obtain⟨p,_,hp⟩:=List.mem_filterMap.1 h;grind
theorem U6{all:aJ H2}:∀ {l:J H2},(∀o,o∈l->o∈all.toList)->∀i,i∈fq all l->i∈fq all all.toList
 | [],_,i,h=>by cases h
 | o::l,hm,i,h=>by
  simp[fq]at h;rcases h with h|h|h
  .exact Y1 (hm o si) i (by simp[h])
  .exact Y1 (hm o si) i (by simp[h])
  .exact U6 (λo h=>hm o (by simp[h])) i h
theorem Xf{l m:J H2}(hm:∀o,o∈l->o∈m)(h:cG m=eQ):cG l=eQ:=by
 have key:∀(l:J H2),cG l=eQ↔∀o,o∈l->(!(GZ o.op))=eQ:=by
  intro l
  induction l with|nil=>simp[cG]|cons o l ih=>simp_all[cG]
 simp_all
theorem mU.mono{R:J Nat}{n:Nat}{Q Q':TS E->Prop}(hq:∀s,Q s->Q' s)(h:mU ws Gs R Z P ops f n L st Q):mU ws Gs R Z P ops f n L st Q':=by
 intro a w G hr hf hp;have key:∀(fuel:Nat)(listed:aJ Bool)(a:Act)(w:U){Q1 Q2:Exit->Act->U->Prop}{S:U->Prop},(∀e a w,Q1 e a w->Q2 e a w)->ye P ops Q1 S Z fuel listed a w->ye P ops Q2 S Z fuel listed a w:=by
  intro fuel
  induction fuel with
  | zero=>intro listed a w Q1 Q2 S hq h;exact⟨h.1,hq _ _ _ h.2⟩|succ fuel ih=>
   intro listed a w Q1 Q2 S hq h;refine⟨λhe=>hq _ _ _ (h.1 he),λi hi=>?_⟩;have h1:=h.2 i hi;unfold wpOp at h1⊢;split
   .grind
   .rename_i o ho;rw[ho]at h1;simp only at h1;split
    .rename_i hw;rw[if_pos hw]at h1;rcases h1 with h1|⟨h1,a1,w1,h2⟩
     .exact .inl (qR (λa w h=>⟨h.1,ih _ a w hq h.2⟩) hq h1)
     .exact .inr ⟨h1,a1,w1,hq _ _ _ h2⟩
    grind
 exact key _ _ _ _ (λe a w hp=>cQ.mono (λx s hh=>⟨hh.1,hq _ hh.2⟩) hp) (h a w G hr hf hp)
theorem Ln{R':Type}(hX:X.Ok){R Z:J Nat}{all:aJ H2}(qq:Region.noSelect all=eQ){ws:U}{Gs:bC}(Cy:∀q,q∈R->q<Gs.i.length){n:Nat}{k:TS E->O R'}{r:R'}:
  ∀(ss:J zK)(f:Nat)(L:aJ Bool){st:TS E},Te X R Z all ss f L st k=iN r->mU ws Gs R Z X.P all f (zK.n ss+n) L st (λst'=>k st'=iN r/\Fr (fq all all.toList) (cG all.toList) st st')
 | [],f,L,st,h=>by grind[Te,dX,mU.done,Fr.refl]|s::ss,f,L,st,h=>by
  have hW:∀j,j∈fq all (rI all s.l)->j∈fq all all.toList:=U6 (λo ho=>NO ho);have hN:cG all.toList=eQ->cG (rI all s.l)=eQ:=Xf (λo ho=>NO ho);simp[Te]at h;rw[show zK.n (s::ss)+n=s.l.length+(zK.n ss+n) by simp[zK.n];omega];split at h
  .refine yf hX qq Cy s.l f L h λf' st' hk hf=>?_;exact mU.mono (λs' hh=>⟨hh.1,hf.trans hh.2 hW (λj hj=>hj) (λhn=>⟨hN hn,hn⟩)⟩) (Ln hX qq Cy ss f' _ hk)
  .rename_i c hc;obtain⟨h1,h2⟩:=dX h;rw[cH]at h1;cases hs:OP X R Z all s.l f L st (λ_ st'=>c.pack st st')with
   | none=>rw[hs]at h2;cases h2
   | some x=>rw[hs]at h2;obtain⟨h3,h2⟩:=dX h2;intro a w G hr;have hpre:=hr.pre;refine yf hX qq Cy s.l f L hs (λf' st' hk hf=>?_) a w G hr;intro a' w' G' hr' _ _;obtain⟨⟨G2,hR⟩,hF⟩:=AX hX.E hpre hr' (hf.wide (λ_ h=>h) (λ_=>hN h1.2)) h1.1 hk;exact mU.mono (λs' hh=>⟨hh.1,hF.trans hh.2 hW (λj hj=>hj) (λhn=>⟨rfl,hn⟩)⟩) (Ln hX qq Cy ss 1 _ h2) a' w' G2 hR (λe=>by cases e) (λ_=>hR.pin h3)
noncomputable def eY{R':Type}(X:Cx E)(R Z:J Nat)(ops:aJ H2)(ss:J zK)(st:TS E)(k:TS E->O R'):O R':=rq ((Region.noSelect ops&&iO (zK.n ss) ops.size)&&R.all (λq=>bY q st.H.length)) (Te X R Z ops ss 0 (lA ops.size eK) {st with d:=[]} (λst'=>k {st' with d:=st'.d++st.d}))
theorem afW(hX:X.Ok){R:J Nat}{ss:J zK}{k:TS E->O R'}{r:R'}(h:eY X R Z ops ss st k=iN r):
  J6 E X.P (.region id ops eQ) st (λx st'=>x=.normal/\k st'=iN r/\Fr (fq ops ops.toList) (cG ops.toList) st st'):=by
 intro w0 G0 a w G hr;have hs:fI w {w with drawn:=w.drawn+1}:=⟨eE _,λ_ _=>rfl⟩;have hr':=hr.grow hs rfl rfl rfl G.pr (λ_ _ h=>h) (λ_ _ _ h=>h) (λb o hp=>kF (hr.boxes.gT b o hp).1 hs.1);obtain⟨h1,h2⟩:=dX h;simp only[cH]at h1;obtain⟨⟨qq,hn⟩,hR⟩:=h1;have hn:=lY hn;have Cy:∀q,q∈R->q<G.i.length:=λq hq=>by have:=D8.1 (pW.1 hR q hq);rw[hr.boxes.len];exact this
 have hroot:=hr'.root;have h3:=Ln hX qq Cy (n:=ops.size-zK.n ss) ss 0 _ h2 a _ G hroot (λ_=>⟨rfl,rfl⟩) (λ_=>⟨λ_ _ _ _=>rfl,λ_ _ _ _ h=>h⟩);rw[show zK.n ss+(ops.size-zK.n ss)=ops.size by omega]at h3;refine wp_region_any hX.mix ?_;have h4:=NN _ _ _ _ h3;have key:∀(fuel:Nat)(listed:aJ Bool)(a:Act)(w:U){Q1 Q2:Exit->Act->U->Prop},(∀e a w,Q1 e a w->Q2 e a w)->wpAny X.P .any ops Q1 fuel listed a w->wpAny X.P .any ops Q2 fuel listed a w:=by
  intro fuel
  induction fuel with
  | zero=>intro listed a w Q1 Q2 hq h;exact⟨h.1,hq _ _ _ h.2⟩|succ fuel ih=>
   intro listed a w Q1 Q2 hq h;refine⟨λhe=>hq _ _ _ (h.1 he),λi hi=>?_⟩;have h1:=h.2 i hi;unfold wpOp at h1⊢;split
   .grind
   .rename_i o ho;rw[ho]at h1;simp only at h1;split
    .rename_i hw;rw[if_pos hw]at h1;rcases h1 with h1|⟨h1,a1,w1,h2⟩
     .grind[qR]
     .exact .inr ⟨h1,a1,w1,hq _ _ _ h2⟩
    grind
 refine key _ _ _ _ (λe a' w' hp=>?_) h4;obtain⟨x,s,G',he,hrr,rfl,hk,hF⟩:=hp;exact⟨.normal,_,G',he,hr'.QY hrr,rfl,hk,hF.QY⟩
inductive FT where
 | done
 | step (i:Nat) (q:Bool) (t:FT)
 | fork (i:Nat) (t:FT) (j:Nat) (u:FT)
 | ai3 (i:Nat) (t:FT) (j:Nat) (u:FT) (k:Nat) (v:FT)
def FT.n:FT->Nat|.done=>0|.step _ _ t=>t.n+1|.fork _ t _ u=>Nat.max t.n u.n+1|.ai3 _ t _ u _ v=>Nat.max t.n (Nat.max u.n v.n)+1
noncomputable def NP{R':Type}(X:Cx E)(R:J Nat)(all:aJ H2)(i f:Nat)(st:TS E)(k:Nat->TS E->O R'):O R':=match all[i]? with
 | none=>iF
 | some o=>gdT all o st
   (λst=>opT X st o (jX (λst'=>rq (pinned R st') (k 1 st')) λ_ _=>iF))
   (λst=>rq (iO f 1) (k f {st with t:=cE st.t o.dst (.val H5)}))
noncomputable def Ui{R':Type}(X:Cx E)(R:J Nat)(all:aJ H2):FT->Nat->aJ Bool->TS E->(TS E->O R')->O R'
 | .done,_,L,st,k=>rq (pB .any all L).isEmpty (k st)|.step i q t,f,L,st,k=>OP X R [] all [(i,q)] f L st (λf' st'=>Ui X R all t f' (L.setIfInBounds i eQ) st' k)
 | .fork i t j u,f,L,st,k=>rq (pB .any all L==[i,j]) (agree
   (NP X R all i f st (λf' st'=>Ui X R all t f' (L.setIfInBounds i eQ) st' k))
   (NP X R all j f st (λf' st'=>Ui X R all u f' (L.setIfInBounds j eQ) st' k)))
 | .ai3 i t j u l v,f,L,st,k=>rq (pB .any all L==[i,j,l]) (agree (agree
   (NP X R all i f st (λf' st'=>Ui X R all t f' (L.setIfInBounds i eQ) st' k))
   (NP X R all j f st (λf' st'=>Ui X R all u f' (L.setIfInBounds j eQ) st' k)))
   (NP X R all l f st (λf' st'=>Ui X R all v f' (L.setIfInBounds l eQ) st' k)))
theorem anp(h:all[i]? = iN o){q:Bool}:rI all [(i,q)]=[o]:=by simp[rI,h]
theorem z6(hX:X.Ok){R:J Nat}{Q:TS E->Prop}{n:Nat}{k:Nat->TS E->O R'}{r:R'}(h:NP X R all i f st k=iN r)
  (eU:∀f' st',k f' st'=iN r->Fr (fq all (rI all [(i,eK)])) (cG (rI all [(i,eK)])) st st'->mU ws Gs R [] X.P all f' n (L.setIfInBounds i eQ) st' Q)    (hr:Rel E ws Gs st a w G) (hf:f=0->w.heap=ws.heap/\G=Gs) (hp:f<=1->OO ws Gs R w) :
  wpOp X.P all (cQ E ws Gs (pQ Q)) i (λa' w'=>(([]:J Nat).elem i=eK->OO ws Gs R w')/\ye X.P all (cQ E ws Gs (pQ Q)) (OO ws Gs R) [] n (L.setIfInBounds i eQ) a' w') a w:=by
 unfold NP at h;split at h<;>try trivial
 rename_i o ho;have hfr:∀ {s1 s2:TS E}{nd:Bool},(nd=!(GZ o.op)\/nd=eQ)->Fr (mm all o) eQ st s1->Fr (jd o.dst) nd s1 s2->Fr (fq all (rI all [(i,eK)])) (cG (rI all [(i,eK)])) st s2:=by
  intro s1 s2 nd hnd f0 f1;rw[anp ho]
  exact f0.trans f1 (λi hi=>by simp[fq,hi]) (λi hi=>by simp[fq,hi]) (λh=>by
    simp_all[cG])
 obtain⟨s1,f0,fC,hc⟩:=U5 h hr;unfold wpOp;simp only[ho];rcases hc with⟨hw,h2⟩|⟨hw,h2⟩
 .rw[if_pos hw];have hop:=QO hX h2 ws Gs a w G fC;refine .inl (qR (λa' w' hn=>?_) (λe a' w' V7=>?_) hop)
  .obtain⟨s2,G2,hr2,hk,f1⟩:=hn;obtain⟨adL,hk⟩:=dX hk;have hp2:=hr2.pin adL;exact⟨λ_=>hp2,eU 1 _ hk (hfr (.inl rfl) f0 f1) a' w' G2 hr2 (λe=>by cases e) (λ_=>hp2)⟩
  .obtain⟨x,s2,G2,he,hr2,hn,hk,f1⟩:=V7;grind
 .rw[if_neg (by rw[hw];simp)];obtain⟨h3,h2⟩:=dX h2;have hp2:=hp (lY h3);exact⟨λ_=>hp2,eU f _ h2 (hfr (.inr rfl) f0 (Fr.put s1 o.dst (.val H5))) _ w G (fC.put (by simp[VT]) o.dst) hf hp⟩
theorem ak3(hX:X.Ok){R:J Nat}(qq:Region.noSelect all=eQ)(Cy:∀q,q∈R->q<Gs.i.length){k:TS E->O R'}{r:R'}:
  ∀(t:FT)(n f:Nat)(L:aJ Bool){st:TS E},t.n<=n->Ui X R all t f L st k=iN r->mU ws Gs R [] X.P all f n L st (λst'=>k st'=iN r/\Fr (fq all all.toList) (cG all.toList) st st'):=by
 have hW:∀l,∀j,j∈fq all (rI all l)->j∈fq all all.toList:=λl=>U6 (λo ho=>NO ho);have hN:∀l,cG all.toList=eQ->cG (rI all l)=eQ:=λl=>Xf (λo ho=>NO ho);intro t
 induction t with
 | done=>grind[Ui,dX,mU.done,Fr.refl]|step i q t ih=>intro n f L st hn h;simp[FT.n]at hn;obtain⟨m,rfl⟩:∃m,n=[(i,q)].length+m:=⟨n-1,aM⟩;refine yf hX qq Cy [(i,q)] f L h λf' st' hk hf=>?_;exact mU.mono (λs' hh=>⟨hh.1,hf.trans hh.2 (hW _) (λj hj=>hj) (λhn=>⟨hN _ hn,hn⟩)⟩) (ih m f' _ (by simp at hn;omega) hk)
 | fork i t j u iht ihu=>
  intro n f L st hn h;simp[FT.n]at hn;obtain⟨h1,h2⟩:=dX h;obtain⟨ha,hb⟩:=vr h2;obtain⟨m,rfl⟩:∃m,n=m+1:=⟨n-1,om⟩;have hmt:=jR (ahQ t.n u.n) (ahR hn);have hmu:=jR (abR t.n u.n) (ahR hn);intro a w G hr hf hp;refine⟨λhe=>(by rw[he]at h1;cases h1),λq hq=>?_⟩;have VV:q=i\/q=j:=by simp_all
  rcases VV with rfl|rfl
  .exact z6 hX ha (λf' st' hk hf=>mU.mono (λs' hh=>⟨hh.1,hf.trans hh.2 (hW _) (λj hj=>hj) (λhn=>⟨hN _ hn,hn⟩)⟩) (iht m f' _ hmt hk)) hr hf hp
  .exact z6 hX hb (λf' st' hk hf=>mU.mono (λs' hh=>⟨hh.1,hf.trans hh.2 (hW _) (λj hj=>hj) (λhn=>⟨hN _ hn,hn⟩)⟩) (ihu m f' _ hmu hk)) hr hf hp
 | ai3 i t j u l v iht ihu ihv=>
  intro n f L st hn h;simp[FT.n]at hn;obtain⟨h1,h2⟩:=dX h;obtain⟨hab,hc⟩:=vr h2;obtain⟨ha,hb⟩:=vr hab;obtain⟨m,rfl⟩:∃m,n=m+1:=⟨n-1,om⟩;have hm:=ahR hn;have hmt:=jR (ahQ t.n _) hm;have hmu:=jR (jR (ahQ u.n v.n) (abR t.n _)) hm;have hmv:=jR (jR (abR u.n v.n) (abR t.n _)) hm;intro a w G hr hf hp;refine⟨λhe=>(by rw[he]at h1;cases h1),λq hq=>?_⟩;have VV:q=i\/q=j\/q=l:=by simp_all
  rcases VV with rfl|rfl|rfl
  .exact z6 hX ha (λf' st' hk hf=>mU.mono (λs' hh=>⟨hh.1,hf.trans hh.2 (hW _) (λj hj=>hj) (λhn=>⟨hN _ hn,hn⟩)⟩) (iht m f' _ hmt hk)) hr hf hp
  .exact z6 hX hb (λf' st' hk hf=>mU.mono (λs' hh=>⟨hh.1,hf.trans hh.2 (hW _) (λj hj=>hj) (λhn=>⟨hN _ hn,hn⟩)⟩) (ihu m f' _ hmu hk)) hr hf hp
  .exact z6 hX hc (λf' st' hk hf=>mU.mono (λs' hh=>⟨hh.1,hf.trans hh.2 (hW _) (λj hj=>hj) (λhn=>⟨hN _ hn,hn⟩)⟩) (ihv m f' _ hmv hk)) hr hf hp
noncomputable def Xg{R':Type}(X:Cx E)(R:J Nat)(ops:aJ H2)(c:Cut)(t:FT)(st:TS E)(k:TS E->O R'):O R':=
 rq (((Region.noSelect ops&&iO t.n ops.size)&&R.all (λq=>bY q st.H.length))&&(c.okW (fq ops ops.toList)&&cG ops.toList))
  ((Ui X R ops t 0 (lA ops.size eK) {st with d:=[]} (λst'=>c.pack {st with d:=[]} st')).bind λx=>
    k {c.un (fq ops ops.toList) {st with d:=[]} x with d:=(c.un (fq ops ops.toList) {st with d:=[]} x).d++st.d})
theorem afX(hX:X.Ok){R:J Nat}{t:FT}{k:TS E->O R'}{r:R'}(h:Xg X R ops c t st k=iN r):
  J6 E X.P (.region id ops eQ) st (λx st'=>x=.normal/\k st'=iN r/\Fr (fq ops ops.toList) (cG ops.toList) st st'):=by
 intro w0 G0 a w G hr;have hs:fI w {w with drawn:=w.drawn+1}:=⟨eE _,λ_ _=>rfl⟩;have hr':=hr.grow hs rfl rfl rfl G.pr (λ_ _ h=>h) (λ_ _ _ h=>h) (λb o hp=>kF (hr.boxes.gT b o hp).1 hs.1);obtain⟨h1,h2⟩:=dX h;simp only[cH]at h1;obtain⟨⟨⟨qq,hn⟩,hR⟩,hcW,hnd⟩:=h1;have hn:=lY hn;have Cy:∀q,q∈R->q<G.i.length:=λq hq=>by have:=D8.1 (pW.1 hR q hq);rw[hr.boxes.len];exact this
 have hroot:=hr'.root;cases hg:Ui X R ops t 0 (lA ops.size eK) {st with d:=[]} (λst'=>c.pack {st with d:=[]} st')with
 | none=>rw[hg]at h2;cases h2
 | some x=>
 rw[hg]at h2;have h3:=ak3 hX qq Cy t ops.size 0 _ hn hg a _ G hroot (λ_=>⟨rfl,rfl⟩) (λ_=>⟨λ_ _ _ _=>rfl,λ_ _ _ _ h=>h⟩);refine wp_region_any hX.mix ?_;have h4:=NN _ _ _ _ h3;have key:∀(fuel:Nat)(listed:aJ Bool)(a:Act)(w:U){Q1 Q2:Exit->Act->U->Prop},(∀e a w,Q1 e a w->Q2 e a w)->wpAny X.P .any ops Q1 fuel listed a w->wpAny X.P .any ops Q2 fuel listed a w:=by
  intro fuel
  induction fuel with
  | zero=>intro listed a w Q1 Q2 hq h;exact⟨h.1,hq _ _ _ h.2⟩|succ fuel ih=>
   intro listed a w Q1 Q2 hq h;refine⟨λhe=>hq _ _ _ (h.1 he),λi hi=>?_⟩;have h1:=h.2 i hi;unfold wpOp at h1⊢;split
   .grind
   .rename_i o ho;rw[ho]at h1;simp only at h1;split
    .rename_i hw;rw[if_pos hw]at h1;rcases h1 with h1|⟨h1,a1,w1,h2⟩
     .grind[qR]
     .exact .inr ⟨h1,a1,w1,hq _ _ _ h2⟩
    grind
 refine key _ _ _ _ (λe a' w' hp=>?_) h4;obtain⟨x',s,G',he,hrr,rfl,hk,hF⟩:=hp;obtain⟨⟨G2,hR2⟩,oN⟩:=AX hX.E hroot.pre hrr (hF.wide (λ_ h=>h) (λ_=>hnd)) hcW hk;refine⟨.normal,_,G2,by cases e<;>first|exact he.elim|trivial,hr'.QY hR2,rfl,h2,?_⟩;exact(oN.wide (λ_ h=>h) (λ_=>rfl)).QY
def wO(st:TS E)(dst:O Nat)(d:TV E):TS E:={st with t:=cE st.t dst d}
structure Cz where
 m1:H2
 cv:H2
 as:H2
 m2:H2
 cl:H2
 q1:H2
 q3:H2
 q4:H2
 x1:Operand
 sT:TypeId
 bT:TypeId
 f:H4
 call:Call
 x5:Operand
 rest:List H2
def U7(A B C:J H2):O Cz:=match A,B,C with
 | [m1,cv,as],[m2,cl],q1::q3::q4::rest=>match m1.op,cv.op,cl.op with
  | .move x1,.convert sT bT _,.call c=>match c.callee,q1.op with
   | .value (.func f),.move x5=>iN ⟨m1,cv,as,m2,cl,q1,q3,q4,x1,sT,bT,f,c,x5,rest⟩|_,_=>iF
  | _,_,_=>iF
 | _,_,_=>iF
def Tf(x:dJ)(d:O Nat)(n:Nat):Bool:=match x,d with|.tmp i,iN j=>dO i j&&bY i n|_,_=>eK
variable{d:O Nat}{x:dJ}
theorem D9{n:Nat}(h:Tf x d n=eQ):∃i,x=.tmp i/\d=iN i/\i<n:=by unfold Tf at h;grind[Nat.eq_of_beq_eq_true,D8]
def Q0(d e:O Nat):Bool:=match d,e with|some i,iN j=>!(dO i j)|_,_=>eQ
def opAs(o:H2)(d:O Nat)(n:Nat):Bool:=match o.op with|.assign x=>Tf x d n|_=>eK
def ai4(o:H2)(d:O Nat)(n:Nat):Bool:=match o.op with|.move x=>Tf x d n|_=>eK
def ai5(o:H2)(s t:aK)(d:O Nat)(n:Nat):Bool:=match o.op with|.convert s' t' x=>dO s' s&&(dO t' t&&Tf x d n)|_=>eK
def OQ(o:H2):Bool:=match o.guard with|none=>eQ|some _=>eK
def Cz.tys(P:bw)(s:Cz):Bool:=match aZ P s.sT,aZ P s.bT with
 | some ⟨.string,_,_,_⟩,iN ⟨.slice e,_,_,_⟩=>match aZ P e with
  | some ⟨.int .u8,_,_,_⟩=>eQ|_=>eK
 | _,_=>eK
def Cz.ok(X:Cx E)(n:Nat)(s:Cz):Bool:=
 ((OQ s.m1&&(OQ s.cv&&(OQ s.as&&(OQ s.m2&&OQ s.cl))))&&(OQ s.q1&&(OQ s.q3&&OQ s.q4))) &&
 ((ai5 s.cv s.sT s.bT s.m1.dst n&&(opAs s.as s.cv.dst n&&ai4 s.m2 s.as.dst n))&&(ai4 s.q3 s.as.dst n&&ai5 s.q4 s.bT s.sT s.q3.dst n)) &&
 ((match s.call.args.toList with | [x]=>Tf x s.m2.dst n|_=>eK)&&(Q0 s.as.dst s.m2.dst&&(Q0 s.as.dst s.cl.dst&&Q0 s.as.dst s.q1.dst))) &&
 (s.tys X.P&&(match X.rv with|some g=>dO g s.f|none=>eK))
def Cz.s5(s:Cz)(st:TS E)(l:J UInt8):TS E:=wO (wO (wO (wO (wO st s.m1.dst (.dat .str l)) s.cv.dst .any) s.as.dst .any) s.m2.dst .any) s.cl.dst .any
def Cz.s6(s:Cz)(st:TS E)(l:J UInt8):TS E:=wO (s.s5 st l) s.q1.dst ((s.s5 st l).ev s.x5)
def Cz.s9(s:Cz)(st:TS E)(l:J UInt8):TS E:=wO (wO (s.s6 st l) s.q3.dst .any) s.q4.dst (.dat .str l.reverse)
noncomputable def anq{R:Type}(X:Cx E)(A B C:aJ H2)(st:TS E)(k:Ex E->TS E->O R):O R:=match U7 A.toList B.toList C.toList with
 | none=>iF|some s=>match st.ev s.x1 with
  | .dat .str l=>cond (s.ok X st.t.length&&(cG A.toList&&(cG B.toList&&cG C.toList))) (rq (eJ (Sx l<=9223372036854775807)) (vu X C s.rest (s.s9 st l) k)) iF|_=>iF
variable{rest:J H2}
theorem vw(hg:OQ o=eQ)(h:(M2 a.eval o).run P w=.ok (.value v) w')(hk:Ts P ops Q rest (a.put o.dst v) w'):Ts P ops Q (o::rest) a w:=by
 unfold Ts;have:o.guard=iF:=by grind[OQ]
 rw[if_pos (by simp[pC,this])];refine .inl ?_;unfold Oper.wp;rw[h];exact hk
theorem afY{f:H4}{args:aJ R0}(hg:OQ o=eQ)(h:(M2 a.eval o).run P w=.ok (.enter f args) w)(hk:Calls P f args w λe w'=>∃v,e=.returned v/\Ts P ops Q rest (a.put o.dst v) w'):Ts P ops Q (o::rest) a w:=by
 unfold Ts;have:o.guard=iF:=by grind[OQ]
 rw[if_pos (by simp[pC,this])];refine .inl ?_;unfold Oper.wp;rw[h];refine H7 hk λe w'' he=>?_;grind
theorem Xh(ho:o.op=.move x):(M2 a.eval o).run P w=.ok (.value (a.eval x)) w:=by simp[M2,ho]
theorem aso(ho:o.op=.assign x):(M2 a.eval o).run P w=.ok (.value (a.eval x)) w:=by simp[M2,ho]
theorem eval_put(hd:d=iN i)(hi:i<a.tmps.size):(a.put d v).eval (.tmp i)=v:=by have:=DX a d v i;rw[if_pos ⟨hd,hi⟩]at this;exact this
theorem Xi(hd:d≠iN i):(a.put d v).eval (.tmp i)=a.eval (.tmp i):=by have:=DX a d v i;rw[if_neg (λh=>hd h.1)]at this;exact this
theorem Q7{e:O Nat}(h:Q0 (iN i) e=eQ):e≠iN i:=by intro he;simp_all[Q0]
theorem Uj(w:U)(e:aK)(l:J UInt8):Sort.Holds (Value.int .u8) (Lib.bytesWorld w e ⟨⟨l⟩⟩) w.heap.size 0 (cW l).toArray:=by
 intro j hj;have hj':j<Sx l:=by simpa[cW]using hj
 have e1:(cW l).toArray[j]! = ((l.getD j 0).toNat:Int):=by simp_all[cW]
 rw[sC,e1];refine⟨Lib.bytesWorld_cell w e ⟨⟨l⟩⟩ j hj',?_⟩;unfold World.frozen?;have hsz:j<(Lib.bytesCells w e ⟨⟨l⟩⟩).size:=by unfold Lib.bytesCells;grind
 grind[Lib.bytesWorld_at_new]
variable{B A C:J H2}{s:Cz}
theorem ai6(hX:X.Ok)(hs:U7 A B C=iN s){l:J UInt8}(hx:st.ev s.x1=.dat .str l)(hok:s.ok X st.t.length=eQ)(hl:Sx l<=9223372036854775807)
     (hr:Rel E w0 G0 st a w G) :
  ∃a3 w1,(∀ops Q,Q .normal a3 w1->Ts X.P ops Q A a w)/\∃W2:Act->U->Prop,(∀ops Q,(∀a5 w2,W2 a5 w2->Q .normal a5 w2)->Ts X.P ops Q B a3 w1) /\
   ∀a5 w2,W2 a5 w2->∃a9,(∃G',Rel E w0 G0 (s.s9 st l) a9 w2 G')/\∀ops Q,Ts X.P ops Q s.rest a9 w2->Ts X.P ops Q C a5 w2:=by
 have hsz:=hr.size;unfold U7 at hs;split at hs<;>try trivial
 rename_i m1 cv as m2 cl q1 q3 q4 rest;split at hs<;>try trivial
 rename_i x1 sT bT xc c ZU IA hcl;split at hs<;>try trivial
 rename_i f x5 anr hq1;cases hs;simp only[Cz.ok,cH]at hok;obtain⟨⟨⟨⟨⟨g1,g2,g3,g4,g5⟩,g6,g8,g9⟩,⟨k1,k2,k3⟩,k4,k5⟩,k6,n1,n2,n3⟩,hty,hrv⟩:=hok;dsimp only at hx;unfold ai5 at k1;rw[IA]at k1;simp only[cH]at k1;obtain⟨y1,rfl,d1,l1⟩:=D9 k1.2.2;unfold opAs at k2;split at k2<;>try trivial
 rename_i xa has;obtain⟨y2,rfl,d2,l2⟩:=D9 k2;unfold ai4 at k3;split at k3<;>try trivial
 rename_i xm hm2;obtain⟨y3,rfl,d3,l3⟩:=D9 k3;unfold ai4 at k4;split at k4<;>try trivial
 rename_i xq hq3;obtain⟨y3',rfl,d3',l3'⟩:=D9 k4;have:y3'=y3:=by simp_all
 subst this;unfold ai5 at k5;split at k5<;>try trivial
 rename_i bT' sT' xz hq4;simp only[cH]at k5;have e1:=fm k5.1;have e2:=fm k5.2.1;subst e1 e2;obtain⟨y8,rfl,d8,l8⟩:=D9 k5.2.2;split at k6<;>try trivial
 rename_i xk hargs;obtain⟨y4,rfl,d4,l4⟩:=D9 k6;rw[d3]at n1 n2 n3;have n1:=Q7 n1;have n2:=Q7 n2;have n3:=Q7 n3;unfold Cz.tys at hty;split at hty<;>try trivial
 rename_i i1 i2 z1 e i3 i4 z2 hts htb;split at hty<;>try trivial
 rename_i i5 i6 z3 hte;obtain⟨_,_,Ue,-⟩:=aS hts;obtain⟨_,_,hub,-⟩:=aS htb;obtain⟨_,_,Ci,-⟩:=aS hte;split at hrv<;>try trivial
 rename_i g hg;have hf:=fm hrv;subst hf;have hR:=hX.rv g hg;have wU:=hr.ev x1;rw[hx]at wU;have avD:=wU.iQ;obtain⟨V,hV⟩:∃V:R0,V=.slice (iN ⟨w.heap.size,0,iF⟩) l.length (grownCap w l.length 0 e):=⟨_,rfl⟩;obtain⟨w1,hw1⟩:∃w1,w1=Lib.bytesWorld w e ⟨⟨l⟩⟩:=⟨_,rfl⟩;have r1:=hr.put (v:=a.eval x1) (d:=.dat .str l) (by simp_all) m1.dst;have r2:=r1.put (v:=V) (d:=.any) (by simp only[VT]) cv.dst;have r3:=r2.put (v:=V) (d:=.any) (by simp only[VT]) as.dst;have r4:=r3.put (v:=V) (d:=.any) (by simp only[VT]) m2.dst;have r5:=r4.put (v:=.tuple #[]) (d:=.any) (by simp only[VT]) cl.dst;have sz:∀(b:Act)(d:O Nat)(v:R0),(b.put d v).tmps.size=b.tmps.size:=Nt;refine⟨((a.put m1.dst (a.eval x1)).put cv.dst V).put as.dst V,w1,λops Q hQ=>?_,λa5 w2=>a5=((((a.put m1.dst (a.eval x1)).put cv.dst V).put as.dst V).put m2.dst V).put cl.dst (.tuple #[])/\∃n,w2=Sort.putRow (Value.int .u8) (Sort.ahead w1 n) w.heap.size 0 (cW l).reverse.toArray,λops Q hQ=>?_,?_⟩
 .refine vw g1 (Xh ZU) (vw (v:=V) (w':=w1) g2 ?_ (vw (v:=V) (w':=w1) g3 ?_ hQ))
  .have hrun:(convert sT' bT' ((a.put m1.dst (a.eval x1)).eval (.tmp y1))).run X.P w=.ok V w1:=by rw[eval_put d1 (by rw[hsz];exact l1),avD,hV,hw1];exact Lib.run_convert_string_bytes w sT' bT' e ⟨⟨l⟩⟩ Ue hub Ci
   simp only[M2,IA,jF,hrun,kn,qw]
  simp_all[aso,eval_put]
 .refine vw (v:=V) (w':=w1) g4 ?_ (afY (f:=g) (args:=#[V]) g5 ?_ ?_)
  .simp_all[Xh,eval_put]
  .have OL:=r4.ev (.func g);obtain⟨vs,hfe,hvs⟩:=OL;have hvs:vs.toList=[]:=by simp_all[bO]
   have hvs:vs=#[]:=by simp_all
   subst hvs;have ha:c.args=#[.tmp y4]:=by grind
   have avE:((((a.put m1.dst (a.eval x1)).put cv.dst V).put as.dst V).put m2.dst V).eval (.tmp y4)=V:=eval_put d4 (by simp_all);have:(M2 ((((a.put m1.dst (a.eval x1)).put cv.dst V).put as.dst V).put m2.dst V).eval cl).run X.P w1=(H3 g #[V]).run X.P w1:=by simp only[M2,hcl,resolve,anr,hfe,Deferred.ofValue,jF,qw,kn,invoke,ha];simp[avE]
   rw[this,hR.enters]
  .have hlen:(cW l).length=Sx l:=by simp[cW]
   have hH:Sort.Holds (Value.int .u8) w1 w.heap.size 0 (cW l).toArray:=by simp_all[Uj]
   have hc:=hR.call w.heap.size (grownCap w l.length 0 e) (cW l) w1 hH (by rw[hlen];exact hl);rw[hlen,<-hV]at hc;refine hc.mono λe' w' he=>?_;obtain⟨rfl,n,hn⟩:=he;exact⟨_,rfl,hQ _ _ ⟨rfl,n,hn⟩⟩
 .rintro a5 w2 ⟨rfl,n,xQ⟩;have e3:(((a.put m1.dst (a.eval x1)).put cv.dst V).put as.dst V).eval (.tmp y3')=V:=eval_put d3 (by simp_all);have e5:(((((a.put m1.dst (a.eval x1)).put cv.dst V).put as.dst V).put m2.dst V).put cl.dst (.tuple #[])).eval (.tmp y3')=V:=by simp_all[Xi]
  have s5:(((((a.put m1.dst (a.eval x1)).put cv.dst V).put as.dst V).put m2.dst V).put cl.dst (.tuple #[])).tmps.size=a.tmps.size:=by rw[sz,sz,sz,sz,sz]
  generalize(((((a.put m1.dst (a.eval x1)).put cv.dst V).put as.dst V).put m2.dst V).put cl.dst (.tuple #[]))=a5 at r5 e5 s5⊢;have r6:=r5.put (r5.ev x5) q1.dst;have r8:=r6.put (v:=V) (d:=.any) (by simp only[VT]) q3.dst;have r9:=r8.put (v:=mkStr l.reverse) (d:=.dat .str l.reverse) (.str _ _ _) q4.dst;have e7:(a5.put q1.dst (a5.eval x5)).eval (.tmp y3')=V:=by simp_all[Xi]
  have hold:∀j,j<w.heap.size->w2.heap[j]? = w.heap[j]?:=λj hj=>by
   rw[xQ];have h1:(Sort.putRow (Value.int .u8) (Sort.ahead w1 n) w.heap.size 0 (cW l).reverse.toArray).heap[j]? = w1.heap[j]?:=by simp only[Sort.putRow,Sort.mapBlock,Sort.ahead,Array.getElem?_modify];rw[if_neg om]
   simp_all[Lib.bytesWorld_at_old]
  have hsize:w.heap.size<=w2.heap.size:=by grind
  refine⟨_,⟨_,r9.grow (w':=w2) ⟨hsize,hold⟩ (by rw[xQ,hw1];rfl) (by rw[xQ,hw1];rfl) (by rw[xQ,hw1];rfl) G.pr (λ_ _ h=>h) (λ_ _ _ h=>h) (λb o hp=>kF (r9.boxes.gT b o hp).1 hsize)⟩,λops Q hQ=>?_⟩;refine vw g6 (Xh hq1) (vw (v:=V) (w':=w2) g8 ?_ (vw (v:=mkStr l.reverse) (w':=w2) g9 ?_ hQ))
  .rw[Xh hq3,e7]
  .have e8:((a5.put q1.dst (a5.eval x5)).put q3.dst V).eval (.tmp y8)=V:=eval_put d8 (by simp_all)
   have hH:=Sort.holds_putRow (Value.int .u8) (Sort.ahead w1 n) w.heap.size 0 (cW l).toArray (cW l).reverse.toArray (by
    have:=Uj w e l;rw[<-hw1]at this;intro j hj;exact this j hj) si
   rw[<-xQ]at hH;have hlen:(cW l).reverse.length=Sx l:=by simp[cW]
   have hcell:∀(j:Nat) m,(cW l).reverse[j]? = iN m->w2.cell? ((⟨w.heap.size,0,iF⟩:Addr).add j)=iN (.int .u8 m):=λj m hj=>by have hjl:j<(cW l).reverse.length:=(fD.1 hj).1;have:=(hH j (by simpa using hjl)).1;simp_all[add_lit,cW,fD]
   have hb:=Iy (P:=X.P) (w:=w2) ⟨w.heap.size,0,iF⟩ (grownCap w l.length 0 e) (cW l).reverse hcell;rw[hlen,<-hV]at hb;have TZ:cu (cW l).reverse=l.reverse:=by simp_all[cu,cW,List.map_reverse,xu,Sn,Sm]
   rw[TZ]at hb;have hrun:(convert bT' sT' V).run X.P w2=.ok (mkStr l.reverse) w2:=by rw[hV]at hb⊢;unfold convert;simp only[jF,aW Ue,aW hub,kn,aW Ci,hb]
   simp only[M2,hq4,e8,jF,hrun,kn,qw]
variable{dst:O Nat}
theorem Fr.wO{s1:TS E}(h:Fr W eQ st s1)(d:TV E)(hd:∀i,i∈jd dst->i∈W):Fr W eQ st (wO s1 dst d):=h.trans (Fr.put s1 dst d) (λ_ h=>h) hd (λ_=>⟨rfl,rfl⟩)
theorem asp(hs:U7 A B C=iN s)(st:TS E)(l:J UInt8)(hW:∀o,o∈A++B++C->∀i,i∈jd o.dst->i∈W):Fr W eQ st (s.s9 st l):=by
 unfold U7 at hs;split at hs<;>try trivial
 split at hs<;>try trivial
 split at hs<;>try trivial
 cases hs;refine Fr.wO (Fr.wO (Fr.wO (Fr.wO (Fr.wO (Fr.wO (Fr.wO (Fr.wO (Fr.refl _ _ _) _ ?_) _ ?_) _ ?_) _ ?_) _ ?_) _ ?_) _ ?_) _ ?_
 all_goals simp_all
theorem ans(hs:U7 A B C=iN s):∃l,C=l++s.rest:=by
 unfold U7 at hs;split at hs<;>try trivial
 rename_i m1 cv as m2 cl q1 q3 q4 rest;split at hs<;>try trivial
 split at hs<;>try trivial
 cases hs;exact⟨[q1,q3,q4],rfl⟩
def jj{σ R:Type}(x:O (σ ⊕ R))(k:σ->O R):O R:=x.bind (sm k iN)
def ck{σ R:Type}(body:(σ->O R)->σ->O R):Nat->σ->O R|0,_=>iF|n+1,s=>body (ck body n) s
inductive Own where
 | slot (i:Nat) (e:TypeId) (t:Ty)
 | cell (r c:Nat) (e:TypeId) (t:Ty)
 | soft (i:Nat) (e:TypeId) (t:Ty)
 | Xj (r c:Nat) (e:TypeId) (t:Ty)
def ux(W:J Nat):J Own->TS E->O (TS E)
 | [],st=>iN st|.slot i e T::os,st=>match st.t[i]? with
  | some (.val (.slice iF 0 0))=>cond (W.elem i) (ux W os {st with t:=st.t.set i (.cz st.g.length 0 T []),g:=st.g++[⟨0,e,T.size E⟩]}) iF
  | _=>iF
 | .cell r c e T::os,st=>match st.H[r]? with
  | some (.cells t cs)=>match cs[c]? with
   | some (.val (.slice iF 0 0))=>ux W os {st with H:=st.H.set r (.cells t (cs.set c (.cz st.g.length 0 T []))),g:=st.g++[⟨0,e,T.size E⟩],d:=r::st.d}
   | _=>iF
  | _=>iF
 | .soft i e T::os,st=>match st.t[i]? with
  | some (.val (.slice iF 0 0))=>cond (W.elem i&&bY 0 (T.size E)) (ux W os {st with t:=st.t.set i (.eF st.g.length 0),g:=st.g++[⟨0,e,T.size E⟩],c:=(Sx st.g,⟨T,[]⟩)::st.c}) iF
  | _=>iF
 | .Xj r c e T::os,st=>match st.H[r]? with
  | some (.cells t cs)=>match cs[c]? with
   | some (.val (.slice iF 0 0))=>cond (bY 0 (T.size E)) (ux W os {st with H:=st.H.set r (.cells t (cs.set c (.eF st.g.length 0))),g:=st.g++[⟨0,e,T.size E⟩],d:=r::st.d,c:=(Sx st.g,⟨T,[]⟩)::st.c}) iF
   | _=>iF
  | _=>iF
def adM{R:Type}(X:Cx E)(st:TS E)(o:H2)(k:TS E->O R):O R:=
 match o.guard,o.op with
 | none,.call c=>match c.callee with
  | .value x=>match st.ev x with
   | .vV r=>match st.H[r]? with
    | some (.loop y ds)=>match E.ydn y with
     | some n=>cond (dO c.args.size n) (s7 st o.dst y (c.args.toList.map st.ev++ds) (jX k λ_ _=>iF) X.Y) iF|none=>iF
    | _=>iF
   | _=>iF
  | _=>iF
 | _,_=>iF
noncomputable def ant{R:Type}(X:Cx E)(ops:aJ H2)(i:Nat)(st:TS E)(k:Ex E->TS E->O R):O R:=match ops.toList.drop i with|o::rest=>rq (cG (ops.toList.take i)&&cG rest) (vu X ops (ops.toList.take i) st (jX (λkg=>adM X kg o λJ2=>vu X ops rest J2 k) k))|[]=>iF
inductive fu where
 | leaf
 | yat (i:Nat)
 | region (l:List (Nat×Cut×Bool))
 | draw (l:List adI)
 | eY (R Z:List Nat) (l:List zK)
 | Xg (R:List Nat) (c:Cut) (t:FT)
 | rev
 | seq (ow:List Own) (c:Option (Cut×Bool)) (p q:fu)
 | cond (p q:fu)
 | loop (ow:List Own) (c:Cut) (p:fu)
 | Lo (ow:List Own) (p q:fu)
 | adN (p:fu)
 | range (ow:List Own) (y f:H4) (keep:List Nat)
def fu.l:fu->fu|.cond p _=>p|_=>.leaf
def fu.r:fu->fu|.cond _ q=>q|_=>.leaf
def wr:Code->J Nat|.region _ ops _=>fq ops ops.toList|.seq a b=>wr a++wr b|.cond _ a b=>wr a++wr b|.block _ a=>wr a|.scope a=>wr a|.loop a=>wr a|_=>[]
def jL:Code->Bool|.region _ ops _=>cG ops.toList|.seq a b=>jL a&&jL b|.cond _ a b=>jL a&&jL b|.block _ a=>jL a|.scope a=>jL a|.loop a=>jL a|_=>eQ
def goK{σ R:Type}(x:O σ):O (σ ⊕ R):=x.bind λs=>iN (.inl s)
def AL{σ R:Type}(x:O R):O (σ ⊕ R):=x.bind λr=>iN (.inr r)
noncomputable def ai7{R:Type}(X:Cx E)(all:aJ H2):J (Nat×Cut×Bool)->J H2->TS E->(Ex E->TS E->O R)->O R
 | [],l,st,k=>vu X all l st k
 | s::cs,l,st,k=>rq (s.2.1.okW (fq all (l.take s.1))&&cG (l.take s.1)) (cond s.2.2
   (jj (vu X all (l.take s.1) st (jX (λst'=>goK (s.2.1.pack st st')) λe st'=>AL (k e st'))) λx=>ai7 X all cs (l.drop s.1) (s.2.1.un (fq all (l.take s.1)) st x) k)
   ((vu X all (l.take s.1) st (jX (λst'=>s.2.1.pack st st') λ_ _=>iF)).bind λx=>ai7 X all cs (l.drop s.1) (s.2.1.un (fq all (l.take s.1)) st x) k))
abbrev Xk{R:Type}(i:Nat)(k:Ex E->TS E->O R):Ex E->TS E->O R|.exit j,st=>cond (dO j i) (k .normal st) (k (.exit j) st)|e,st=>k e st
abbrev asq{R:Type}(k:Ex E->TS E->O R):Ex E->TS E->O R|.goto _,_=>iF|e,st=>k e st
noncomputable def runT(X:Cx E)(F:Nat):Code->fu->{R:Type}->TS E->(Ex E->TS E->Option R)->Option R
 | .skip,_,_,st,k=>k .normal st|.label _,_,_,st,k=>k .normal st|.exit i,_,_,st,k=>k (.exit i) st|.ret,_,_,st,k=>k .ret st|.region _ ops dr,p,_,st,k=>ab2 dr (match p with
   | .draw ss=>NM X ops.toList 0 ss st (k .normal)|.eY R Z ss=>eY X R Z ops ss st (k .normal)|.Xg R c t=>Xg X R ops c t st (k .normal)|_=>iF) (match p with
   | .region cs=>ai7 X ops cs ops.toList st k|.yat i=>ant X ops i st k|_=>vu X ops ops.toList st k)
 | .seq a b,p,_,st,k=>match p with
  | .seq ow c p q=>match ux (wr a++wr b) ow st with
   | none=>iF|some st=>match c with
    | none=>runT X F a p st (jX (λst'=>runT X F b q st' k) k)
    | some (c,j)=>rq (c.okW (wr a)&&jL a) (_root_.cond j
     (jj (runT X F a p st (jX (λst'=>goK (c.pack st st')) λe st'=>AL (k e st'))) λx=>runT X F b q (c.un (wr a) st x) k)
     ((runT X F a p st (jX (λst'=>c.pack st st') λ_ _=>iF)).bind λx=>runT X F b q (c.un (wr a) st x) k))
  | .rev=>match a,b with
   | .region _ A eK,.seq (.region _ B eK) (.seq (.region _ C eK) .ret)=>anq X A B C st (jX (λst'=>k .ret st') k)|_,_=>iF
  | _=>runT X F a .leaf st (jX (λst'=>runT X F b .leaf st' k) k)
 | .cond c a b,p,_,st,k=>match st.ev c with
  | .dat .bool v=>_root_.cond v (runT X F a p.l st k) (runT X F b p.r st k)|_=>iF
 | .block i a,p,_,st,k=>runT X F a p st (Xk i k)|.scope a,p,_,st,k=>runT X F a p st (asq k)|.loop a,p,_,st,k=>match p with
  | .loop ow c p=>match ux (wr a) ow st with
   | none=>iF|some st=>rq (c.okW (wr a)&&jL a) ((c.pack st st).bind λs=>ck (λrc s=>runT X F a p (c.un (wr a) st s) (jX (λst'=>(c.pack st st').bind rc) k)) F s)
  | _=>iF
 | _,_,_,_,_=>iF
variable{ro:O Nat}{F:Fence}{σ:Type}
theorem J6.mono{c:Code}{Q Q':Ex E->TS E->Prop}(h:J6 E P c st Q)(hq:∀x s,Q x s->Q' x s):J6 E P c st Q':=λw0 G0 a w G hr=>wp_mono (h w0 G0 a w G hr) λ_ _ _ hp=>cQ.mono hq hp
theorem pq{W:J Nat}{w0 w:U}{G0:bC}{a:Act}:∀ {os:J Own}{st st':TS E}{G:bC},ux W os st=iN st'->Rel E w0 G0 st a w G->(∃G',Rel E w0 G0 st' a w G')/\Fr W eQ st st'
 | [],st,st',G,h,hr=>by cases h;grind[Fr.refl]
 | .slot i e T::os,st,st',G,h,hr=>by
  simp only[ux]at h;split at h<;>try trivial
  rename_i hi;cases hw:W.elem i<;>rw[hw]at h<;>simp only[aQ,aI]at h
  .cases h
  obtain⟨G1,fC⟩:=hr.at7 hi e T;obtain⟨h1,h2⟩:=pq h fC
  have f1:Fr [i] eQ st {st with t:=st.t.set i (.cz st.g.length 0 T []),g:=st.g++[⟨0,e,T.size E⟩]}:=⟨si,λj hj=>by
   grind,⟨[],rfl,λ_ _ _=>rfl⟩,Nat.le_refl _,λ_=>rfl⟩
  exact⟨h1,f1.trans h2 (λj hj=>by simp_all) (λ_ h=>h) (λ_=>⟨rfl,rfl⟩)⟩
 | .cell r c e T::os,st,st',G,h,hr=>by
  simp[ux]at h;split at h<;>try trivial
  rename_i t cs hH;split at h<;>try trivial
  rename_i hc;obtain⟨G1,fC⟩:=hr.akN hH hc e T;obtain⟨h1,h2⟩:=pq h fC;have f1:Fr [] eQ st {st with H:=st.H.set r (.cells t (cs.set c (.cz st.g.length 0 T []))),g:=st.g++[⟨0,e,T.size E⟩],d:=r::st.d}:=⟨rfl,λ_ _=>rfl,⟨[r],rfl,D6 _ _ _⟩,si,λ_=>rfl⟩;exact⟨h1,f1.trans h2 (λj hj=>by cases hj) (λ_ h=>h) (λ_=>⟨rfl,rfl⟩)⟩
 | .soft i e T::os,st,st',G,h,hr=>by
  simp only[ux]at h;split at h<;>try trivial
  rename_i hi;cases hw:(W.elem i&&bY 0 (T.size E))<;>rw[hw]at h<;>simp only[aQ,aI]at h
  .cases h
  rw[cH]at hw;obtain⟨G1,fC⟩:=hr.akY hi e T (lY hw.2);obtain⟨h1,h2⟩:=pq h fC
  have f1:Fr [i] eQ st {st with t:=st.t.set i (.eF st.g.length 0),g:=st.g++[⟨0,e,T.size E⟩],c:=(Sx st.g,⟨T,[]⟩)::st.c}:=⟨si,λj hj=>by
   grind,⟨[],rfl,λ_ _ _=>rfl⟩,Nat.le_refl _,λ_=>rfl⟩
  exact⟨h1,f1.trans h2 (λj hj=>by simp_all) (λ_ h=>h) (λ_=>⟨rfl,rfl⟩)⟩
 | .Xj r c e T::os,st,st',G,h,hr=>by
  simp[ux]at h;split at h<;>try trivial
  rename_i t cs hH;split at h<;>try trivial
  rename_i hc;cases hw:bY 0 (T.size E)<;>rw[hw]at h<;>simp only[aQ,aI]at h
  .cases h
  obtain⟨G1,fC⟩:=hr.aiU hH hc e T (lY hw);obtain⟨h1,h2⟩:=pq h fC;have f1:Fr [] eQ st {st with H:=st.H.set r (.cells t (cs.set c (.eF st.g.length 0))),g:=st.g++[⟨0,e,T.size E⟩],d:=r::st.d,c:=(Sx st.g,⟨T,[]⟩)::st.c}:=⟨rfl,λ_ _=>rfl,⟨[r],rfl,D6 _ _ _⟩,si,λ_=>rfl⟩;exact⟨h1,f1.trans h2 (λj hj=>by cases hj) (λ_ h=>h) (λ_=>⟨rfl,rfl⟩)⟩
theorem F0{P:bw}{ops:aJ H2}{Q:Exit->Act->U->Prop}:∀(l1 l2:J H2)(a:Act)(w:U),Ts P ops (Exit.then (Ts P ops Q l2) Q) l1 a w->Ts P ops Q (l1++l2) a w
 | [],l2,a,w,h=>h|o::l1,l2,a,w,h=>by
  rw[tq];unfold Ts at h⊢;split
  .rename_i hw;rw[if_pos hw]at h;rcases h with h|⟨h,a1,w1,h2⟩
   .exact .inl (Oper.adD (λa w h=>F0 l1 l2 a w h) (λe a w hne hq=>by cases e<;>first|exact(hne rfl).elim|exact hq) h)
   .exact .inr ⟨h,a1,w1,h2⟩
  simp_all[F0]
theorem tE{P:bw}{ops:aJ H2}:∀(l:J H2)(a:Act)(w:U){Q1 Q2:Exit->Act->U->Prop},(∀e a w,Q1 e a w->Q2 e a w)->Ts P ops Q1 l a w->Ts P ops Q2 l a w
 | [],a,w,Q1,Q2,hq,h=>hq _ _ _ h|o::l,a,w,Q1,Q2,hq,h=>by
  unfold Ts at h⊢;split
  .rename_i hw;rw[if_pos hw]at h;rcases h with h|⟨h,a1,w1,h2⟩
   .exact .inl (qR (λa w h=>tE l a w hq h) hq h)
   .exact .inr ⟨h,a1,w1,hq _ _ _ h2⟩
  .rename_i hw;rw[if_neg hw]at h;exact tE l _ _ hq h
def FW(ro:O Nat):Fence:={Fence.wide with round:=ro}
def vY:Code->Bool|.region _ ops dr=>!dr&&cG ops.toList|.seq a b=>vY a&&vY b|.cond _ a b=>vY a&&vY b|.block _ a=>vY a|.scope _=>eK|.loop a=>vY a|.rangeFunc _ _ _ _=>eK|_=>eQ
def Md(P:bw)(c:Code)(st:TS E)(Q:Ex E->TS E->Prop):Prop:=∀ro,(ro.isSome=eQ->vY c=eQ)->∀w0 G0 a w G,Rel E w0 G0 st a w G->c.wpIn (FW ro) 0 P (cQ E w0 G0 Q) a w
theorem aqg{a:Act}{w:World}(hd:ro.isSome=eQ->GZ o.op=eK)(hQ:¬ LetsOut Q)(hn:∀a w,n1 a w->n2 a w)(h:o.wp P a w n1 Q):
  o.wpIn (FW ro) 0 P a w n2 Q:=by
 have avF:o.semAt ro a.eval=M2 a.eval o:=by
  cases ro with
  | none=>rfl|some l=>exact Oper.semAt_eq _ _ _ λc e=>by have:=hd rfl;rw[e]at this;cases this
 refine⟨λ_ _=>trivial,?_⟩;show o.uponIn (FW ro) 0 P a n2 Q ((o.semAt ro a.eval).run P w);rw[avF];unfold Oper.wp at h;generalize(M2 a.eval o).run P w=r at *;cases r with
 | ok n w'=>
  cases n<;>simp[Oper.upon]at h
  case value u=>exact hn _ _ h
  case skip=>exact hn _ _ h
  case defer d=>exact hn _ _ h
  case enter f args=>refine⟨(λh=>nomatch h),?_⟩;refine(callsIn_wide).2 (H7 h λe w'' he=>?_);grind
  case row row args=>exact⟨(λh=>nomatch h),λc cs _=>by
   obtain⟨v,w2,r,s⟩:=h c cs
   exact⟨v,w2,hn _ _ r,stepsIn_wide.2 s⟩⟩
 | halt x w'=>
  cases x<;>simp[Oper.upon]at h
  case panic u=>exact h
theorem cQ.Xl{Q:Ex E->TS E->Prop}:¬ LetsOut (cQ E w0 G0 Q):=λ⟨_,_,x,_,_,h,_⟩=>by cases x<;>exact h
theorem Oper.Xm{n:Nat}{a:Act}{w:U}(h:∀a w,K a w->K' a w)(hq:∀e a w,e≠.normal->Q e a w->Q' e a w)
  (hh:o.wpIn F n P a w K Q):o.wpIn F n P a w K' Q':=by
 have hout:LetsOut Q->LetsOut Q':=λ⟨a,w,h⟩=>⟨a,w,hq _ _ _ si h⟩;refine⟨hh.1,?_⟩;have hh:=hh.2;generalize(o.semAt F.round a.eval).run P w=r at *;cases r with
 | ok m w'=>
  cases m<;>simp[Oper.uponIn]at hh⊢
  case value u=>exact h _ _ hh
  case skip=>exact h _ _ hh
  case defer d=>exact h _ _ hh
  case enter f args=>refine⟨hh.1,hh.2.1,λcs hroom=>?_⟩;obtain⟨e,w'',fr,he,hs⟩:=hh.2.2 cs hroom;grind
  case row row args=>exact⟨hh.1,RowsIn.mono hh.2 λu w'' he=>h _ _ he⟩
  case round l f tmps assign body=>refine⟨hh.1,RoundIn.mono hh.2 λe w'' he=>?_⟩;grind
 | halt x w'=>cases x<;>simp[Oper.uponIn]at hh⊢;simp_all
theorem y7{P:bw}{ro:O Nat}{ops:aJ H2}{Q:Exit->Act->U->Prop}(hQ:¬ LetsOut Q):∀(l:J H2)(a:Act)(w:U),(ro.isSome=eQ->cG l=eQ)->Ts P ops Q l a w->wpListIn (FW ro) 0 P ops Q l a w
 | [],_,_,_,h=>h|o::l,a,w,hd,h=>by
  have hd1:=λhr=>by have:=hd hr;simp[cG]at this;exact this.1
  have hd2:=λhr=>by have:=hd hr;simp[cG]at this;exact this.2
  unfold Ts at h;unfold wpListIn;split
  .rename_i hw;rw[if_pos hw]at h;rcases h with h|⟨_,a1,w1,h2⟩
   .exact aqg hd1 hQ (λa w h=>y7 hQ l a w hd2 h) h
   .exact(hQ ⟨a1,w1,h2⟩).elim
  .rename_i hw;rw[if_neg hw]at h;exact⟨λ_ _=>trivial,y7 hQ l _ w hd2 h⟩
theorem F3{F:Fence}{n:Nat}{P:bw}{ops:aJ H2}{Q:Exit->Act->U->Prop}:∀(l1 l2:J H2)(a:Act)(w:U),wpListIn F n P ops (Exit.then (wpListIn F n P ops Q l2) Q) l1 a w->wpListIn F n P ops Q (l1++l2) a w
 | [],l2,a,w,h=>h|o::l1,l2,a,w,h=>by
  rw[tq];unfold wpListIn at h⊢;split
  .rename_i hw;rw[if_pos hw]at h;exact Oper.Xm (λa w h=>F3 l1 l2 a w h) (λe a w hne hq=>by cases e<;>first|exact(hne rfl).elim|exact hq) h
  simp_all[F3]
theorem adO(hX:X.Ok){k:TS E->Option R}{r:R}(h:adM X st o k=iN r):∀w0 G0 a w G,Rel E w0 G0 st a w G ->
  (o.guard=iF/\GZ o.op=eK)/\o.wpIn (FW ro) 0 X.P a w (λa' w'=>∃st' G',Rel E w0 G0 st' a' w' G'/\k st'=iN r/\Fr (jd o.dst) eQ st st') Q:=by
 unfold adM at h;split at h<;>try trivial
 rename_i c hg ho;split at h<;>try trivial
 rename_i x hc;split at h<;>try trivial
 rename_i q hx;split at h<;>try trivial
 rename_i y ds hb;split at h<;>try trivial
 rename_i n hY;cases hsz:dO c.args.size n<;>rw[hsz]at h<;>simp only[aQ,aI]at h
 .cases h
 have hsz:=fm hsz;intro w0 G0 a w G hr;refine⟨⟨hg,by rw[ho];rfl⟩,λ_ _=>trivial,?_⟩;have hv:=hr.ev x;rw[hx]at hv;obtain⟨b,QZ,hat⟩:=hv;obtain⟨Y,fn,tmps,D,hY',hheap,hds⟩:=hr.box hat hb;have hsz:=hsz.trans (hX.E.ydn y Y n hY' hY).symm;have hargs:bO E w G (c.args.toList.map st.ev++ds) (c.args.map a.eval++tmps).toList:=by have:=(QK hr c.args.toList).append hds;simpa using this
 have hI:=Fh hX.E (YX.mono X.P) hX.Y h w0 G0 a w G (c.args.map a.eval++tmps) hr hargs;have hR:=hI Y fn b D (c.args.map a.eval) tmps hY' rfl (by simpa using hsz) hheap;rw[Oper.semAt_eq _ _ _ λc' e=>by rw[ho]at e;cases e];have hrun:(M2 a.eval o).run X.P w=.ok (.round b fn ((Y.params.zip (c.args.map a.eval)).foldl (λt (p,v)=>t.setIfInBounds p v) tmps) Y.assign Y.body) w:=by have hy:=run_yield (P:=X.P) (args:=c.args.map a.eval) hheap (by simpa using hsz);simp[M2,ho,resolve,hc,QZ,Deferred.ofValue,invoke];simpa using hy
 rw[hrun];refine⟨(λh=>nomatch h),RoundIn.mono hR λe w' he=>?_⟩;grind
theorem NQ{x:O σ}{j:σ ⊕ R}(h:goK x=iN j):∃s,x=iN s/\j=.inl s:=by
 unfold goK at h;cases x with
 | none=>cases h
 | some s=>simp_all
theorem Q8{x:O R}{j:σ ⊕ R}(h:AL x=iN j):∃r,x=iN r/\j=.inr r:=by
 unfold AL at h;cases x with
 | none=>cases h
 | some s=>simp_all
theorem aqh{x:O (σ ⊕ R)}{k:σ->O R}{r:R}(h:jj x k=iN r):∃j,x=iN j/\(∀s,j=.inl s->k s=iN r)/\∀r',j=.inr r'->r'=r:=by
 cases x with
 | none=>cases h
 | some j=>
  refine⟨j,rfl,λs hs=>?_,λr' hr=>?_⟩
  .subst hs;exact h
  .subst hr;exact o4 h
theorem aar{j:Bool}{A:{R':Type}->(Ex E->TS E->O R')->O R'}{pk:TS E->O σ}{B:σ->O R}{r:R}
  (h:cond j (jj (A (jX (λst'=>goK (pk st')) λe st'=>AL (k e st'))) B) ((A (jX pk λ_ _=>iF)).bind B)=iN r) {C:(Ex E->TS E->Prop)->Prop} (hA:∀ {R':Type}{k':Ex E->TS E->O R'}{r':R'},A k'=iN r'->C (λx s=>k' x s=iN r')) :
  ∃Q:Ex E->TS E->Prop,C Q/\(∀s,Q .normal s->∃x,pk s=iN x/\B x=iN r)/\∀x s,x≠.normal->Q x s->k x s=iN r:=by
 cases j<;>simp at h
 .cases hx:A (jX pk λ_ _=>iF)with
  | none=>rw[hx]at h;cases h
  | some x=>grind
 .obtain⟨jv,hx,h1,h2⟩:=aqh h;refine⟨_,hA hx,λs hs=>?_,λe s hne hs=>?_⟩
  .obtain⟨x,hp,rfl⟩:=NQ hs;simp_all
  .have:AL (k e s)=iN jv:=by grind
   obtain⟨r',hk,rfl⟩:=Q8 this;rw[hk,h2 r' rfl]
theorem Xn{R:Type}(hX:X.Ok){all:aJ H2}{k:Ex E->TS E->O R}{r:R}:∀(cs:J (Nat×Cut×Bool)){l:J H2}{st:TS E},ai7 X all cs l st k=iN r ->
  aip E X.P all l st (λx st'=>k x st'=iN r/\Fr (fq all l) (cG l) st st')
 | [],l,st,h=>s8 hX h|s::cs,l,st,h=>by
  obtain⟨hc,h⟩:=dX h;rw[cH]at hc;intro w0 G0 a w G hr;have hpre:=hr.pre;obtain⟨Q,hC,hN,hX'⟩:=aar h (C:=λQ=>aip E X.P all (l.take s.1) st (λx st'=>Q x st'/\Fr (fq all (l.take s.1)) (cG (l.take s.1)) st st')) (λh'=>s8 hX h');rw[<-DB s.1 l];refine F0 _ _ a w (tE _ a w (λe a' w' hp=>?_) (hC w0 G0 a w G hr));obtain⟨x,s',G',he,hr',hq,hf⟩:=hp;have ape:∀i,i∈fq all (l.take s.1)->i∈fq all (l.take s.1++l.drop s.1):=λi hi=>by grind[List.take_append_drop,HV]
  have auf:∀i,i∈fq all (l.drop s.1)->i∈fq all (l.take s.1++l.drop s.1):=λi hi=>by rw[DB];exact HV l s.1 l.length i (by simp_all[va])
  have ase:cG (l.take s.1++l.drop s.1)=eQ->cG (l.drop s.1)=eQ:=λhn=>by rw[DB]at hn;have:=Cw l s.1 l.length hn;simp_all[va]
  cases x with
  | normal=>
   cases e<;>try (exact he.elim)
   obtain⟨y,hp,hB⟩:=hN s' hq;obtain⟨⟨G2,hR⟩,hF⟩:=AX hX.E hpre hr' (hf.wide (λ_ h=>h) (λ_=>hc.2)) hc.1 hp;exact tE _ _ _ (λe a w hp=>cQ.mono (λx s'' hh=>⟨hh.1,hF.trans hh.2 ape auf (λhn=>⟨rfl,ase hn⟩)⟩) hp) (Xn hX cs hB w0 G0 a' w' G2 hR)
  | _=>have hk:=hX' _ s' (by intro h;cases h) hq;have qP:cQ E w0 G0 (λx st'=>k x st'=iN r/\Fr (fq all (l.take s.1++l.drop s.1)) (cG (l.take s.1++l.drop s.1)) st st') e a' w':=⟨_,s',G',he,hr',hk,hf.wide ape (λ_=>hc.2)⟩;cases e<;>first|exact he.elim|exact qP
theorem Q9{ι:Type}{n:Nat}{c:Code}{a:Act}{w:U}(I:ι->Act->U->Prop)(μ:ι->Nat)(x0:ι)(h₀:I x0 a w)
  (round:∀x a w,I x a w->c.wpIn F n P (Exit.then (λa' w'=>∃y,I y a' w'/\μ y<μ x) Q) a w):(Code.loop c).wpIn F n P Q a w:=by
 intro b k cs hro hb hr;have key:∀j x a w,μ x=j->I x a w ->
   ∃e a' w',Q e a' w'/\ArrivesIn (Machine.fenced P F) P (lone (b.atR a (.code c :: .inLoop c::k)) cs w) b k cs e a' w':=by
  intro j
  induction j using Nat.strongRecOn with
  | _ j ih=>
   intro x a w hn hI;obtain⟨e,a₁,w₁,hq,Ra⟩:=round x a w hI b (.inLoop c::k) cs hro hb hr;cases e with
   | normal=>obtain⟨y,hI₁,hlt⟩:=hq;obtain⟨e₂,a₂,w₂,hq₂,aug⟩:=ih (μ y) (hn▸hlt) y a₁ w₁ rfl hI₁;exact⟨e₂,a₂,w₂,hq₂,.of_steps (StepsIn.trans Ra (.one (fenced_calm hb hr rfl) stepR_inLoop)) aug⟩
   | exit id=>exact⟨_,a₁,w₁,hq,.pass rfl (λ_ _=>.inl si) Ra⟩|goto l=>exact⟨_,a₁,w₁,hq,.pass rfl (λ_ _=>.inl si) Ra⟩|ret=>exact⟨_,a₁,w₁,hq,.pass rfl (λ_ _=>.inl si) Ra⟩|panic ch=>exact⟨_,a₁,w₁,hq,.pass rfl (λ_ _=>.inl si) Ra⟩|outgrown=>exact⟨_,a₁,w₁,hq,.pass rfl (λ_ _=>.inl si) Ra⟩
 obtain⟨e,a',w',hq,Ra⟩:=key _ x0 a w rfl h₀;exact⟨e,a',w',hq,.of_steps (.one (fenced_calm hb hr rfl) stepR_loop) Ra⟩
theorem Md.of_wp{c:Code}{Q:Ex E->TS E->Prop}(hc:vY c=eK)(h:J6 E P c st Q):Md P c st Q:=λro hro w0 G0 a w G hr=>by cases ro with|some l=>simp_all|none=>exact(wpIn_wide).2 (h w0 G0 a w G hr)
theorem Md.wp{c:Code}{Q:Ex E->TS E->Prop}(h:Md P c st Q)(hr:Rel E w0 G0 st a w G):c.wp P (cQ E w0 G0 Q) a w:=(wpIn_wide).1 (h iF (λh=>nomatch h) w0 G0 a w G hr)
theorem ak4{a b:Code}(hro:ro.isSome=eQ->vY a=eQ){ac:Act}{Q1 Q:Ex E->TS E->Prop}(hr:Rel E w0 G0 st ac w G)(h:Md P a st Q1)(hN:∀s a' w' G',Q1 .normal s->Rel E w0 G0 s a' w' G'->b.wpIn (FW ro) 0 P (cQ E w0 G0 Q) a' w')
  (hX:∀x s,x≠.normal->Q1 x s->Q x s):(Code.seq a b).wpIn (FW ro) 0 P (cQ E w0 G0 Q) ac w:=by
 refine wpIn_seq (wpIn_mono (h ro hro w0 G0 ac w G hr) λe a' w' hp=>?_);obtain⟨x,s,G',he,hr',hq⟩:=hp;cases x with
 | normal=>
  cases e<;>try (exact he.elim)
  exact hN s a' w' G' hq hr'
 | _=>have qP:cQ E w0 G0 Q e a' w':=⟨_,s,G',he,hr',hX _ s (by intro h;cases h) hq⟩;cases e<;>first|exact he.elim|exact qP
theorem NR{all:aJ H2}:∀l1 l2:J H2,fq all (l1++l2)=fq all l1++fq all l2|[],l2=>rfl|o::l1,l2=>by simp_all[fq,NR]
theorem ai8(hX:X.Ok)(id:Nat){r:R}(h:ant X ops i st k=iN r):Md X.P (.region id ops eK) st (λx st'=>k x st'=iN r/\Fr (wr (.region id ops eK)) (jL (.region id ops eK)) st st'):=by
 unfold ant at h;split at h<;>try trivial
 rename_i o rest hd;obtain⟨hnd,h⟩:=dX h;rw[cH]at hnd;intro ro hro w0 G0 a w G hr;refine wpIn_region_list ?_;have hl:ops.toList=ops.toList.take i++o::rest:=by grind[List.take_append_drop]
 have hwr:∀j,j∈fq ops (ops.toList.take i)\/j∈jd o.dst\/j∈fq ops rest->j∈wr (.region id ops eK):=λj hj=>by show j∈fq ops ops.toList;grind[NR,fq]
 rw[hl];have hF:∀ {s1 s2 s3:TS E},Fr (fq ops (ops.toList.take i)) (cG (ops.toList.take i)) st s1->Fr (jd o.dst) eQ s1 s2->Fr (fq ops rest) (cG rest) s2 s3->Fr (wr (.region id ops eK)) (jL (.region id ops eK)) st s3:=λf1 f2 f3=>(f1.trans f2 (λj hj=>hwr j (.inl hj)) (λj hj=>hwr j (.inr (.inl hj))) (λ_=>⟨hnd.1,rfl⟩)).trans f3 (λj hj=>hj) (λj hj=>hwr j (.inr (.inr hj))) (λ_=>⟨rfl,hnd.2⟩);have hout:∀ {K:Act->U->Prop}{Q:Ex E->TS E->Prop},¬ LetsOut (Exit.then K (cQ E w0 G0 Q)):=λ⟨a,w,h⟩=>cQ.Xl ⟨a,w,h⟩;refine F3 _ _ a w (y7 hout _ a w (λ_=>hnd.1) (tE _ a w (λe a' w' hp=>?_) (s8 hX h w0 G0 a w G hr)));obtain⟨x,s',G',he,hr',hq,hf⟩:=hp;cases x with
 | normal=>
  cases e<;>try (exact he.elim)
  obtain⟨⟨hg,-⟩,hw⟩:=adO hX hq w0 G0 a' w' G' hr';show wpListIn _ _ _ _ _ (o::rest) _ _;unfold wpListIn;rw[if_pos (by simp[pC,hg])];refine Oper.Xm (λa2 w2 hh=>?_) (λe a w hne hq=>hq) hw;obtain⟨s2,G2,hr2,hk,f2⟩:=hh;exact y7 cQ.Xl rest a2 w2 (λ_=>hnd.2) (tE rest a2 w2 (λe a w hp=>cQ.mono (λx s hh=>⟨hh.1,hF hf f2 hh.2⟩) hp) (s8 hX hk w0 G0 a2 w2 G2 hr2))
 | _=>have qP:cQ E w0 G0 (λx st'=>k x st'=iN r/\Fr (wr (.region id ops eK)) (jL (.region id ops eK)) st st') e a' w':=⟨_,s',G',he,hr',hq,hF hf (Fr.refl _ _ _) (Fr.refl _ _ _)⟩;cases e<;>first|exact he.elim|exact qP
theorem agU{all:aJ H2}:∀ {l:J H2}{o:H2},o∈l->∀i,i∈jd o.dst->i∈fq all l
 | [],_,h,_,_=>by cases h
 | o'::l,o,h,i,hi=>by
  simp[fq];rcases gL.1 h with rfl|h
  .exact .inl hi
  .exact .inr (.inr (agU h i hi))
theorem ai9(hX:X.Ok){i1 i2 i3:Nat}{A B C:aJ H2}{r:R}(h:anq X A B C st (jX (λst'=>k .ret st') k)=iN r):
  Md X.P (.seq (.region i1 A eK) (.seq (.region i2 B eK) (.seq (.region i3 C eK) .ret))) st (λx st'=>k x st'=iN r/\Fr (wr (.seq (.region i1 A eK) (.seq (.region i2 B eK) (.seq (.region i3 C eK) .ret)))) (jL (.seq (.region i1 A eK) (.seq (.region i2 B eK) (.seq (.region i3 C eK) .ret)))) st st'):=by
 unfold anq at h;split at h<;>try trivial
 rename_i s hs;split at h<;>try trivial
 rename_i l hx;cases hc:(s.ok X st.t.length&&(cG A.toList&&(cG B.toList&&cG C.toList)))<;>rw[hc]at h<;>simp only[aQ,aI]at h
 .cases h
 simp at hc;obtain⟨hok,nA,nB,nC⟩:=hc;obtain⟨hl,h⟩:=dX h;have hl:=DA hl;intro ro hro w0 G0 a w G hr;obtain⟨a3,w1,hA,W2,hB,hC⟩:=ai6 hX hs hx hok hl hr;obtain⟨C0,hC0⟩:=ans hs;have nR:cG s.rest=eQ:=by
  have:∀(l1 l2:J H2),cG (l1++l2)=eQ->cG l2=eQ:=by
   intro l1
   induction l1 with|nil=>intro l2 h;exact h|cons o l1 ih=>simp_all[cG]
  grind
 have hF:Fr (fq A A.toList++(fq B B.toList++fq C C.toList)) eQ st (s.s9 st l):=asp hs st l (λo ho i hi=>by
  grind[agU])
 have hout:∀ {K:Act->U->Prop}{Q:Ex E->TS E->Prop},¬ LetsOut (Exit.then K (cQ E w0 G0 Q)):=λ⟨a,w,h⟩=>cQ.Xl ⟨a,w,h⟩;refine wpIn_seq (wpIn_region_list (y7 hout _ a w (λ_=>nA) (hA _ _ ?_)));refine wpIn_seq (wpIn_region_list (y7 hout _ a3 w1 (λ_=>nB) (hB _ _ λa5 w2 hW=>?_)));obtain⟨a9,⟨G',hr9⟩,eU⟩:=hC a5 w2 hW;refine wpIn_seq (wpIn_region_list (y7 hout _ a5 w2 (λ_=>nC) (eU _ _ ?_)));refine tE s.rest a9 w2 (λe a w hp=>?_) (s8 hX h w0 G0 a9 w2 G' hr9);obtain⟨x,s',G2,he,hr',hq,hf⟩:=hp
 have hf:=hF.trans hf (W:=wr (.seq (.region i1 A eK) (.seq (.region i2 B eK) (.seq (.region i3 C eK) .ret)))) (λi hi=>by
  simp_all[wr]) (λi hi=>by
  simp_all[wr,NR]) (n:=jL (.seq (.region i1 A eK) (.seq (.region i2 B eK) (.seq (.region i3 C eK) .ret)))) (λ_=>⟨rfl,nR⟩)
 cases x with
 | normal=>
  cases e<;>try (exact he.elim)
  exact wpIn_ret ⟨.ret,s',G2,trivial,hr',hq,hf⟩
 | _=>have qP:cQ E w0 G0 (λx st'=>k x st'=iN r/\Fr (wr (.seq (.region i1 A eK) (.seq (.region i2 B eK) (.seq (.region i3 C eK) .ret)))) (jL (.seq (.region i1 A eK) (.seq (.region i2 B eK) (.seq (.region i3 C eK) .ret)))) st st') e a w:=⟨_,s',G2,he,hr',hq,hf⟩;cases e<;>first|exact he.elim|exact qP
theorem vz(hX:X.Ok){F:Nat}:∀(c:Code)(p:fu){R:Type}{st:TS E}{k:Ex E->TS E->Option R}{r:R},runT X F c p st k=iN r->Md X.P c st (λx st'=>k x st'=iN r/\Fr (wr c) (jL c) st st'):=by
 intro c
 induction c with
 | skip=>intro p R st k r h ro hro w0 G0 a w G hr;exact wpIn_skip ⟨.normal,st,G,trivial,hr,h,Fr.refl _ _ _⟩|label l=>intro p R st k r h ro hro w0 G0 a w G hr;exact wpIn_label ⟨.normal,st,G,trivial,hr,h,Fr.refl _ _ _⟩|exit i=>intro p R st k r h ro hro w0 G0 a w G hr;exact wpIn_exit ⟨.exit i,st,G,rfl,hr,h,Fr.refl _ _ _⟩|ret=>intro p R st k r h ro hro w0 G0 a w G hr;exact wpIn_ret ⟨.ret,st,G,trivial,hr,h,Fr.refl _ _ _⟩|goto l=>intro p R st k r h;cases h
 | refuse s=>intro p R st k r h;cases h
 | scope c ih=>
  intro p R st k r h;have h1:=ih p h;intro ro hro w0 G0 ac w G hr;cases ro with
  | some l=>cases hro rfl
  | none=>
  refine(wpIn_wide (n:=0)).2 ?_;refine wp_scope_straight (wp_mono ((wpIn_wide (n:=0)).1 (h1 iF (λh=>nomatch h) w0 G0 ac w G hr)) λe a' w' hp=>?_);obtain⟨x,s,G',he,hr',hq,hf⟩:=hp;have qP:∀ {x},arX E w' G' e x->k x s=iN r->cQ E w0 G0 (λx st'=>k x st'=iN r/\Fr (wr (.scope c)) (jL (.scope c)) st st') e a' w':=λh1 h2=>⟨_,s,G',h1,hr',h2,hf⟩;cases x<;>cases e<;>first|exact he.elim|(cases hq;done)|exact qP he hq
 | rangeFunc f ps a b _ _=>intro p R st k r h;cases h
 | region id ops dr=>
  intro p R st k r h;simp only[runT]at h;rw[ann]at h;cases dr<;>simp only[aQ,aI]at h
  .split at h
   .intro ro hro w0 G0 a w G hr;exact wpIn_region_list (y7 cQ.Xl _ a w (λh=>by simp_all[vY,cH]) (Xn hX _ h w0 G0 a w G hr))
   .grind[ai8]
   .intro ro hro w0 G0 a w G hr;exact wpIn_region_list (y7 cQ.Xl _ a w (λh=>by simp_all[vY,cH]) (s8 hX h w0 G0 a w G hr))
  .split at h<;>try trivial
   .exact Md.of_wp (by rfl) (J6.mono (ai1 hX h) λx s hh=>by rw[hh.1];exact hh.2)
   .exact Md.of_wp (by rfl) (J6.mono (afW hX h) λx s hh=>by rw[hh.1];exact hh.2)
   .exact Md.of_wp (by rfl) (J6.mono (afX hX h) λx s hh=>by rw[hh.1];exact hh.2)
 | block i a ih=>
  intro p R st k r h;have h1:=ih p h;intro ro hro w0 G0 ac w G hr;refine wpIn_block (wpIn_mono (h1 ro hro w0 G0 ac w G hr) λe a' w' hp=>?_);obtain⟨x,s,G',he,hr',hq,hf⟩:=hp;cases x with
  | exit j=>
   cases e<;>try (exact he.elim)
   rename_i i';subst he;simp only[Xk]at hq;simp only[Exit.inBlock];cases hb:dO i' i<;>rw[hb]at hq<;>simp only[aQ,aI]at hq
   .have:i'≠i:=λe=>by simp_all
    rw[if_neg this];exact⟨.exit i',s,G',rfl,hr',hq,hf⟩
   .rw[if_pos (fm hb)];exact⟨.normal,s,G',trivial,hr',hq,hf⟩
  | _=>have qP:cQ E w0 G0 (λx st'=>k x st'=iN r/\Fr (wr (.block i a)) (jL (.block i a)) st st') e a' w':=⟨_,s,G',he,hr',hq,hf⟩;cases e<;>first|exact he.elim|exact qP
 | cond c a b Gi Gj=>
  intro p R st k r h;simp only[runT]at h;split at h<;>try trivial
  rename_i v hv;intro ro hro w0 G0 ac w G hr;have adP:ro.isSome=eQ->vY a=eQ:=λh=>by simp_all[vY,cH]
  have adQ:ro.isSome=eQ->vY b=eQ:=λh=>by simp_all[vY,cH]
  have OC:=hr.ev c;rw[hv]at OC;have OC:=OC.nE;cases v<;>simp only[aQ,aI]at h
  .exact wpIn_cond_false OC (wpIn_mono (Gj p.r h ro adQ w0 G0 ac w G hr) λ_ _ _ hp=>cQ.mono (λx s hh=>⟨hh.1,hh.2.wide (λi hi=>by simp[wr,hi]) (λhn=>by simp_all[jL,cH])⟩) hp)
  .exact wpIn_cond_true OC (wpIn_mono (Gi p.l h ro adP w0 G0 ac w G hr) λ_ _ _ hp=>cQ.mono (λx s hh=>⟨hh.1,hh.2.wide (λi hi=>by simp[wr,hi]) (λhn=>by simp_all[jL,cH])⟩) hp)
 | seq a b Gi Gj=>
  have plain:∀(p q:fu){R:Type}{st:TS E}{k:Ex E->TS E->Option R}{r:R},runT X F a p st (jX (λst'=>runT X F b q st' k) k)=iN r->Md X.P (.seq a b) st (λx st'=>k x st'=iN r/\Fr (wr (.seq a b)) (jL (.seq a b)) st st'):=by
   intro p q R st k r h ro hro w0 G0 ac w G hr;have adP:ro.isSome=eQ->vY a=eQ:=λh=>by simp_all[vY,cH]
   have adQ:ro.isSome=eQ->vY b=eQ:=λh=>by simp_all[vY,cH]
   refine ak4 adP hr (Gi p h) (λs a' w' G' hq hr'=>?_) (λx s hne hq=>?_)
   .exact wpIn_mono (Gj q hq.1 ro adQ w0 G0 a' w' G' hr') λ_ _ _ hp=>cQ.mono (λx s' hh=>⟨hh.1,hq.2.trans hh.2 (λi hi=>by simp[wr,hi]) (λi hi=>by simp[wr,hi]) (λhn=>by simp_all[jL,cH])⟩) hp
   .refine⟨by grind,hq.2.wide (λi hi=>by simp[wr,hi]) (λhn=>by simp_all[jL,Bool.and_eq_true])⟩
  intro p R st k r h;simp only[runT]at h;split at h
  .rename_i ow c p q;split at h<;>try trivial
   rename_i kg had;intro ro hro w0 G0 ac w G hr;have adP:ro.isSome=eQ->vY a=eQ:=λh=>by simp_all[vY,cH]
   have adQ:ro.isSome=eQ->vY b=eQ:=λh=>by simp_all[vY,cH]
   obtain⟨⟨G1,fC⟩,W4⟩:=pq had hr;split at h
   .exact wpIn_mono (plain p q h ro hro w0 G0 ac w G1 fC) λ_ _ _ hp=>cQ.mono (λx s' hh=>⟨hh.1,W4.trans hh.2 (λi hi=>hi) (λi hi=>hi) (λhn=>⟨rfl,hn⟩)⟩) hp
   .obtain⟨hc,h⟩:=dX h;rw[cH]at hc;have hpre:=fC.pre;obtain⟨Q,hC,hN,hXn⟩:=aar h (C:=λQ=>Md X.P a kg (λx st'=>Q x st'/\Fr (wr a) (jL a) kg st')) (λh'=>Gi p h');refine ak4 adP fC hC (λs a' w' G' hq hr'=>?_) (λx s hne hq=>?_)
    .obtain⟨y,hp,hB⟩:=hN s hq.1;obtain⟨⟨G2,hR⟩,hF⟩:=AX hX.E hpre hr' (hq.2.wide (λ_ h=>h) (λ_=>hc.2)) hc.1 hp
     exact wpIn_mono (Gj q hB ro adQ w0 G0 a' w' G2 hR) λ_ _ _ hp=>cQ.mono (λx s' hh=>⟨hh.1,W4.trans (hF.trans hh.2 (W:=wr a++wr b) (n:=jL b) (λi hi=>by simp[hi]) (λi hi=>by simp[hi]) (λhn=>⟨rfl,hn⟩)) (λi hi=>hi) (λi hi=>hi) (λhn=>by
      simp_all[jL,cH])⟩) hp
    .exact⟨hXn x s hne hq.1,W4.trans hq.2 (λi hi=>hi) (λi hi=>by simp[wr,hi]) (λhn=>⟨rfl,hc.2⟩)⟩
  .split at h<;>try trivial
   exact ai9 hX h
  .exact plain .leaf .leaf h
 | loop a ih=>
  intro p R st k r h;simp only[runT]at h;split at h<;>try trivial
  rename_i ow c p;split at h<;>try trivial
  rename_i kg had;obtain⟨hc,h⟩:=dX h;rw[cH]at hc;intro ro hro w0 G0 ac w G hr;obtain⟨⟨G1,fC⟩,W4⟩:=pq had hr;have hpre:=fC.pre;cases hs:c.pack kg kg with
  | none=>rw[hs]at h;cases h
  | some s0=>
   rw[hs]at h;obtain⟨hR0,hFu⟩:=AX hX.E (W:=wr a) hpre fC (Fr.refl _ _ _) hc.1 hs;refine Q9 (ι:=Nat×dens E c.tys) (λx a' w'=>ck (λrc s=>runT X F a p (c.un (wr a) kg s) (jX (λst'=>(c.pack kg st').bind rc) k)) x.1 x.2=iN r/\∃G',Rel E w0 G0 (c.un (wr a) kg x.2) a' w' G') (λx=>x.1) (F,s0) ⟨h,hR0⟩ ?_;rintro⟨n,s⟩ a' w' ⟨hl,G',hr'⟩;cases n with
   | zero=>cases hl
   | succ n=>
    have hFs:Fr (wr a) eQ kg (c.un (wr a) kg s):=by
     unfold Cut.pack at hs;split at hs<;>try trivial
     rename_i ls hls;exact Cut.aaq hc.1 hls
    refine wpIn_mono (ih p hl ro hro w0 G0 a' w' G' hr') λe a2 w2 hp=>?_;obtain⟨x,s2,G2,he,hr2,hq,hf⟩:=hp;have oN:Fr (wr a) eQ kg s2:=hFs.trans hf (λ_ h=>h) (λ_ h=>h) (λ_=>⟨rfl,hc.2⟩);cases x with
    | normal=>
     cases e<;>try (exact he.elim)
     simp only[jX]at hq;cases hp2:c.pack kg s2 with
     | none=>rw[hp2]at hq;cases hq
     | some y=>rw[hp2]at hq;obtain⟨hR2,-⟩:=AX hX.E hpre hr2 oN hc.1 hp2;exact⟨(n,y),⟨hq,hR2⟩,KV n⟩
    | _=>have qP:cQ E w0 G0 (λx st'=>k x st'=iN r/\Fr (wr (.loop a)) (jL (.loop a)) st st') e a2 w2:=⟨_,s2,G2,he,hr2,hq,W4.trans oN (λ_ h=>h) (λ_ h=>h) (λ_=>⟨rfl,rfl⟩)⟩;cases e<;>first|exact he.elim|exact qP
end Go.RT
namespace Go.RT
variable {E : TEnv}
def adR(X:Cx E)(st:TS E):ResultVar->O (TV E)
 | .tmp t=>iN (st.at t)|.cell p t=>match aZ X.P t,st.at p with
  | some i,.ptr r off=>match st.H[r]? with
   | some (.cells _ cs)=>Wm E (X.ty t) cs i.isAgg i.size off|_=>iF
  | _,_=>iF
def rJ(X:Cx E)(st:TS E):J ResultVar->O (J (TV E))
 | []=>iN []|r::rs=>match adR X st r,rJ X st rs with
  | some d,iN ds=>iN (d::ds)|_,_=>iF
def sJ:J (TV E)->TV E|[d]=>d|ds=>.tuple ds
def Tg(tmps:aJ R0):ResultVar->Sem R0|.tmp t=>pure (tmps.getD t H5)|.cell a t=>do loadVar t (<-asAddr (tmps.getD a H5))
theorem aja(fn:Func)(tmps:aJ R0):results fn tmps=(do
  let vs <-fn.results.mapM (Tg tmps)
  pure (if h:vs.size=1 then vs[0]else .tuple vs)):=by
 congr 2
def Th:J R0->R0|[v]=>v|vs=>.tuple vs.toArray
theorem anu(vs:J R0):(if h:vs.toArray.size=1 then vs.toArray[0]else .tuple vs.toArray)=Th vs:=by
 match vs with|[]=>rfl|[v]=>rfl|v::u::r=>simp[Th]
variable{X:Cx E}{w0 w:U}{G0 G:bC}{st:TS E}{a:Act}{fn:Func}
theorem ak5(hX:X.Ok)(hr:Rel E w0 G0 st a w G){rv:ResultVar}{d:TV E}(h:adR X st rv=iN d):∃v,VT E w G d v/\(Tg a.tmps rv).run X.P w=.ok v w:=by
 cases rv with
 | tmp t=>cases h;exact⟨_,hr.at t,rfl⟩
 | cell p t=>
  simp[adR]at h;split at h<;>try trivial
  rename_i i r off hi hd;split at h<;>try trivial
  rename_i t' cs hb;have hv:=hr.at p;rw[hd]at hv;obtain⟨b,he,hat⟩:=hv;obtain⟨vs,hh,h1,h2⟩:=hr.box hat hb
  obtain⟨v,hv,hrun⟩:=ur (b:=b) (o':=0) hi (λl u hl=>by
   grind[cell_of_row]) (Lb hX.E h2 (λu hu=>h1 u (by simpa using hu)) h)
  refine⟨v,hv,?_⟩;have:=hrun w (fI.refl w);simp only[Tg];rw[he];simpa[Instr.loadAt,Instr.sureAddr,asAddr]using this
theorem aas(hX:X.Ok)(hr:Rel E w0 G0 st a w G):∀ {rs:J ResultVar}{ds:J (TV E)},rJ X st rs=iN ds->∃vs,bO E w G ds vs/\(rs.mapM (Tg a.tmps)).run X.P w=.ok vs w
 | [],ds,h=>by cases h;exact⟨[],.nil,rfl⟩
 | r::rs,ds,h=>by
  simp[rJ]at h;split at h<;>try trivial
  rename_i d ds' h1 h2;cases h;obtain⟨v,hv,hrun⟩:=ak5 hX hr h1;obtain⟨vs,hvs,auh⟩:=aas hX hr h2;exact⟨v::vs,.cons hv hvs,by simp[hrun,auh]⟩
theorem ajb:∀ {ds:J (TV E)}{vs:J R0},bO E w G ds vs->VT E w G (sJ ds) (Th vs)
 | [],vs,h=>by grind[bO,sJ,Th,VT]|[d],vs,h=>by obtain⟨u,us,rfl,h1,h2⟩:=h.cons_inv;subst h2;exact h1
 | d1::d2::ds,vs,h=>by obtain⟨u,us,rfl,h1,h2⟩:=h.cons_inv;obtain⟨u2,VN,rfl,h3,h4⟩:=h2.cons_inv;grind[sJ,Th,VT]
theorem BN(hX:X.Ok)(hr:Rel E w0 G0 st a w G){ds:J (TV E)}(h:rJ X st fn.results.toList=iN ds):∃v,VT E w G (sJ ds) v/\(results fn a.tmps).run X.P w=.ok v w:=by obtain⟨vs,hv,hrun⟩:=aas hX hr h;refine⟨Th vs,ajb hv,?_⟩;grind[aja,Array.mapM_eq_mapM_toList,Sem.run_bind,Sem.run_map,Result.andThen_ok,Sem.run_pure,anu]
def Outs.cut(o:Outs):Cut:=⟨[],o.boxes,o.rows,o.soft⟩
def Outs.get(o:Outs)(b8 st:TS E)(d:TV E):O (dens E o.tys):=
 match GY o.res d st with
 | (d,st)=>match o.res.get ⟨aT o.boxes.length,aT o.rows.length,st.g.map (·.aF)⟩ d,o.cut.leaves b8 st with
  | some a,iN b=>getAll o.tys (a++b)|_,_=>iF
def CA(n:Nat)(l:J (TV E)):J (TV E):=l++List.replicate (n-Sx l) .any
def dB.b8(s:dB)(n:Nat)(ls:J (Lf E)):TS E:=⟨CA n (s.ds ls),s.H ls,s.g0,[],[],s.c ls⟩
def avG(s:dB)(fn:Func)(st:TS E):O (Nat×PT):=match fn.results.toList,s.out.res with
 | [.tmp t],.one (.cz j T)=>iN (t,.one (.cz j T))|[.tmp t],.one (.eF j)=>match st.t[t]? with
  | some (.val (.slice iF 0 0))=>iN (t,.one (.eF j))|_=>iF
 | _,_=>iF
def IJ(s:dB)(fn:Func)(b8 st:TS E):TS E:=match avG s fn st with|some (t,p)=>W8 s.out.cut b8.g.length t p st|none=>st
variable{s:dB}{W:J Nat}{nd:Bool}
theorem aqi{b8:TS E}(hp:Pre G0 b8)(hr:Rel E w0 G0 st a w G)(hF:Fr W nd b8 st):
  ∃G' W',Rel E w0 G0 (IJ s fn b8 st) a w G'/\Fr W' nd b8 (IJ s fn b8 st)/\(IJ s fn b8 st).df=st.df:=by
 unfold IJ;split
 .rename_i t p h1;have hn0:G0.g.length<=b8.g.length:=by
   rcases Nat.lt_or_ge b8.g.length G0.g.length with hlt|hge
   .obtain⟨x,hx,-⟩:=hp.rows b8.g.length _ _ (fT hlt);simp_all
   .exact hge
  obtain⟨⟨G1,fC⟩,f1⟩:=adF s.out.cut b8.g.length t p hn0 hr;exact⟨G1,t::W,fC,Fr.trans hF f1 (λi hi=>nt _ hi) (λi hi=>by simp_all) (λh=>⟨h,rfl⟩),f1.df rfl⟩
 grind
def ab5(q c:Nat)(p:CT)(st:TS E):TS E:=match p,st.H[q]? with
 | .cz j T,iN (.cells t cs)=>match cs[c]?,st.g[j]? with
  | some (.val (.slice iF 0 0)),iN g=>cond (QW j st.c) {st with H:=st.H.set q (.cells t (cs.set c (.cz j (g.aF+1) T []))),g:=st.g.set j {g with aF:=g.aF+1},d:=q::st.d} st
  | _,_=>st
 | _,_=>st
def Xo(q:Nat):Nat->J CT->TS E->TS E|_,[],st=>st|c,p::ps,st=>Xo q (c+1) ps (ab5 q c p st)
def yg:Nat->J (O BT)->TS E->TS E|_,[],st=>st|q,iN (.cells _ ps)::bs,st=>yg (q+1) bs (Xo q 0 ps st)|q,_::bs,st=>yg (q+1) bs st
theorem anv(q c:Nat)(p:CT)(hr:Rel E w0 G0 st a w G):(∃G',Rel E w0 G0 (ab5 q c p st) a w G')/\Fr [] eQ st (ab5 q c p st):=by
 have yb:(∃G',Rel E w0 G0 st a w G')/\Fr [] eQ st st:=⟨⟨G,hr⟩,Fr.refl _ _ _⟩;unfold ab5;split
 .rename_i j T t cs hq;split
  .rename_i g hc hg;generalize hb:QW j st.c=b;cases b
   .exact yb
   obtain⟨hd,hj⟩:=hr.Cp hg;have hjl:=(fD.1 hj).1;have hN:=hr.Td (x':={g with aF:=g.aF+1}) hj (KV _) (y5 _) (QX hb) (λb hb=>nomatch hb) (λ_ _ _ _ _ _ _ hb=>nomatch hb);have hlr:q<G.i.length:=by rw[hr.boxes.len];grind
   have hat:=fT hlr;refine⟨⟨_,hN.zU hat rfl rfl rfl rfl (λ_ _=>rfl) (λ_=>?_)⟩,rfl,λ_ _=>rfl,⟨[q],rfl,λr _ hr=>?_⟩,si,λ_=>rfl⟩
   .obtain⟨vs,h1,h2,h3⟩:=hN.boxes.box q _ _ hat hq;refine⟨vs,h1,h2,?_⟩;obtain⟨u,hu,hv⟩:=h3.get c hc;subst hv;have key:∀(w1:World)(G1:bC)(cs:J (TV E))(vs:J R0)(c:Nat)(d:TV E),bO E w1 G1 cs vs->vs[c]? = iN (.slice iF 0 0)->VT E w1 G1 d (.slice iF 0 0)->bO E w1 G1 (cs.set c d) vs:=by
     intro w1 G1 cs
     induction cs with
     | nil=>simp_all|cons x cs ih=>intro vs c d h1 h2 h3;obtain⟨u,us,rfl,q1,q2⟩:=h1.cons_inv;cases c with|zero=>simp at h2;subst h2;exact .cons h3 q2|succ c=>exact .cons q1 (ih us c d q2 (by simpa using h2) h3)
    refine key _ _ cs vs.toList c _ h3 hu ?_;exact⟨.wM _ _,{g with aF:=g.aF+1},.slice iF 0 0,by simp[hjl],eE _,λ_=>rfl⟩
   grind
  .exact yb
 .exact yb
theorem aat(q:Nat){w0 w:U}{G0:bC}{a:Act}:∀(ps:J CT)(c:Nat){st:TS E}{G:bC},Rel E w0 G0 st a w G->(∃G',Rel E w0 G0 (Xo q c ps st) a w G')/\Fr [] eQ st (Xo q c ps st)
 | [],_,_,G,hr=>⟨⟨G,hr⟩,Fr.refl _ _ _⟩|p::ps,c,st,G,hr=>by obtain⟨⟨G1,fC⟩,f1⟩:=anv q c p hr;obtain⟨h2,f2⟩:=aat q ps (c+1) fC;exact⟨h2,Fr.trans f1 f2 (λ_ h=>h) (λ_ h=>h) (λ_=>⟨rfl,rfl⟩)⟩
theorem Bv{w0 w:U}{G0:bC}{a:Act}:∀(bs:J (O BT))(q:Nat){st:TS E}{G:bC},Rel E w0 G0 st a w G->(∃G',Rel E w0 G0 (yg q bs st) a w G')/\Fr [] eQ st (yg q bs st)
 | [],_,_,G,hr=>⟨⟨G,hr⟩,Fr.refl _ _ _⟩|some (.cells _ ps)::bs,q,st,G,hr=>by obtain⟨⟨G1,fC⟩,f1⟩:=aat q ps 0 hr;obtain⟨h2,f2⟩:=Bv bs (q+1) fC;exact⟨h2,Fr.trans f1 f2 (λ_ h=>h) (λ_ h=>h) (λ_=>⟨rfl,rfl⟩)⟩
 | none::bs,q,st,G,hr=>Bv bs (q+1) hr|some (.map _ _)::bs,q,st,G,hr=>Bv bs (q+1) hr|some .iter::bs,q,st,G,hr=>Bv bs (q+1) hr|some (.loop _ _)::bs,q,st,G,hr=>Bv bs (q+1) hr
theorem agV{b8:TS E}(hp:Pre G0 b8)(hr:Rel E w0 G0 st a w G)(hF:Fr W nd b8 st):
  ∃G' W',Rel E w0 G0 (IJ s fn b8 (yg 0 s.out.boxes st)) a w G'/\Fr W' nd b8 (IJ s fn b8 (yg 0 s.out.boxes st))/\(IJ s fn b8 (yg 0 s.out.boxes st)).df=st.df:=by
 obtain⟨⟨G1,fC⟩,f1⟩:=Bv s.out.boxes 0 hr;obtain⟨G2,W2,h1,h2,h3⟩:=aqi hp fC (Fr.trans hF f1 (λ_ h=>h) (λ_ h=>nomatch h) (λh=>⟨h,rfl⟩));exact⟨G2,W2,h1,h2,h3.trans (f1.df rfl)⟩
def Rb(X:Cx E)(s:dB)(fn:Func)(b8 st:TS E):O (dens E s.out.tys):=(rJ X (IJ s fn b8 (yg 0 s.out.boxes st)) fn.results.toList).bind λds=>s.out.get b8 (IJ s fn b8 (yg 0 s.out.boxes st)) (sJ ds)
def qf(X:Cx E)(s:dB)(fn:Func)(b8:TS E):(p:O Outs)->Ex E->TS E->O (OutP E s.out p)|none,.ret,st=>Rb X s fn b8 st|none,.normal,st=>Rb X s fn b8 st|some q,.ret,st=>goK (Rb X s fn b8 st)|some q,.normal,st=>goK (Rb X s fn b8 st)|some q,.panic d,st=>AL (q.get b8 st d)|_,_,_=>iF
noncomputable def adS(X:Cx E)(F:Nat)(s:dB)(fn:Func)(pl:fu)(x:dens E s.tys):O (OutP E s.out s.nq):=match fn.body with|some c=>rq (jL c) (runT X F c pl (s.b8 fn.ntmps (aV s.tys x)) (qf X s fn (s.b8 fn.ntmps (aV s.tys x)) s.nq))|none=>iF
variable{args:aJ R0}{ls:J (Lf E)}{y:OutP E s.out s.nq}{P:bw}{f:H4}{F:Nat}{pl:fu}{x:dens E s.tys}
theorem Rel.init{n:Nat}(hP:rj E w G)(hB:mX E w G (s.H ls) s.g0)(hS:lS E w G (s.c ls))(hV:bO E w G (s.ds ls) args.toList):
  Rel E w G (s.b8 n ls) {tmps:=args++Array.replicate (n-args.size) H5,defers:=[]} w G:=by
 have hl:args.size=(s.ds ls).length:=by simpa using hV.length
 refine⟨mj.refl w G,?_,λj d hj=>?_,trivial,hB,λ_ _ _ _=>rfl,hP,hS⟩
 .simp[dB.b8,CA,hl]
 .have hj:(CA n (s.ds ls))[j]? = iN d:=hj;unfold CA at hj;by_cases hlt:j<(s.ds ls).length
  .rw[xo hlt]at hj;obtain⟨u,hu,hv⟩:=hV.get j hj;simp_all[aoN]
  grind[List.mem_of_getElem?,VT]
theorem Outs.IK(hE:E.Ok){o:Outs}{ok:Bool}{w':U}{G':bC}{b8:TS E}{d:TV E}{v:R0}{y:dens E o.tys}(hp:Pre G b8)(Uk:b8.d=[])(hdf:st.df=b8.df)(hr:Rel E w G st a w' G')(hF:Fr W nd b8 st)(hv:VT E w' G' d v)(h:o.get b8 st d=iN y):
  ∃G2,mj w G w' G2/\mX E w' G2 (o.nY ok b8.H b8.g (aV o.tys y)).H (o.nY ok b8.H b8.g (aV o.tys y)).g/\lS E w' G2 (o.nY ok b8.H b8.g (aV o.tys y)).c/\VT E w' G2 (o.nY ok b8.H b8.g (aV o.tys y)).d v /\
   ∀(q b:Nat),G.i[q]? = iN b->q∉(o.nY ok b8.H b8.g (aV o.tys y)).D->w'.heap[b]? = w.heap[b]?:=by
 unfold Outs.get at h;obtain⟨d1,kg,hh⟩:∃d1 kg,GY o.res d st=(d1,kg):=⟨_,_,rfl⟩;rw[hh]at h;dsimp only at h;split at h<;>try trivial
 rename_i la lb hla hlb;obtain⟨o1,G1,fC,-,wU⟩:=ady o.res d hr;have hv:=wU v hv;rw[hh]at o1 fC hv;have hr:=fC;have hF:Fr W nd b8 kg:=by obtain⟨c,rfl⟩:=o1;exact⟨hF.len,hF.keep,hF.d,hF.hl,hF.df⟩
 have hdf:kg.df=b8.df:=by obtain⟨c,rfl⟩:=o1;exact hdf
 obtain⟨D,hD,hH⟩:=hF.d;obtain⟨G2,hR,hL⟩:=Rel.cut hE hp hr hF.len hF.keep hD hH hdf hlb;have hput:=Fc _ h;obtain⟨e1,e2⟩:=PT.sound hE hL hla hv;rw[hput];simp[Outs.nY];have e3:(o.res.put (o.n1 b8.g) (la++lb)).2=lb:=e1;refine⟨G2,hR.fH,?_,?_,e2,λq b hq hd=>hR.fix q b hq ?_⟩
 .rw[e3];exact hR.boxes
 .rw[e3];exact hR.gU
 .show q∉Ff 0 o.boxes++b8.d;simp_all
theorem ve{c:Code}{R:Ending->U->Prop}(hf:P.funcs[f]? = iN fn)(hb:fn.body=iN c)(hn:(fn.name == "runtime.NumGoroutine")=eK)(h:Calls P f args w R):lz P f args w R:=by
 have:(H3 f args).run P w=.ok (.enter f args) w:=by simp only[H3,jF,run_program,kn,hf,hn,hb];simp
 simp_all[lz]
theorem ajc(hX:X.Ok)(hf:X.P.funcs[s.f]? = iN fn)(hn:(fn.name == "runtime.NumGoroutine")=eK)(h:adS X F s fn pl x=iN y):
  mI X.P s.f (s.ds (aV s.tys x)) (s.H (aV s.tys x)) s.g0 (s.c (aV s.tys x)) (lB s (s.H (aV s.tys x)) s.nq y):=by
 unfold adS at h;split at h<;>try trivial
 rename_i c hb;obtain⟨hnd,h⟩:=dX h;intro w G args hP hB hS hV;have Ii:=Rel.init (n:=fn.ntmps) hP hB hS hV;have hpre:=Ii.pre;refine ve hf hb hn (calls_of_wp hf hb (wp_mono ((vz hX c pl h).wp Ii) λe a' w' hp=>?_));obtain⟨ex,st,G',he,hr,hk,hF⟩:=hp;have hdf:=hF.df hnd;have KZ:a'.defers=[]:=by have:=hr.defers;rw[hdf]at this;cases hd:a'.defers with|nil=>rfl|cons d ds=>rw[hd]at this;exact this.elim
 have okc:∀ {y:dens E s.out.tys},Rb X s fn (s.b8 fn.ntmps (aV s.tys x)) st=iN y ->
   ∃v,(results fn a'.tmps).run X.P w'=.ok v w'/\∃v1 G2,Ending.returned v=EG (s.out.nY eQ (s.H (aV s.tys x)) s.g0 (aV s.out.tys y)).ok v1/\mj w G w' G2 /\
    mX E w' G2 (s.out.nY eQ (s.H (aV s.tys x)) s.g0 (aV s.out.tys y)).H (s.out.nY eQ (s.H (aV s.tys x)) s.g0 (aV s.out.tys y)).g/\lS E w' G2 (s.out.nY eQ (s.H (aV s.tys x)) s.g0 (aV s.out.tys y)).c/\VT E w' G2 (s.out.nY eQ (s.H (aV s.tys x)) s.g0 (aV s.out.tys y)).d v1 /\
    ∀(q b:Nat),G.i[q]? = iN b->q∉(s.out.nY eQ (s.H (aV s.tys x)) s.g0 (aV s.out.tys y)).D->w'.heap[b]? = w.heap[b]?:=by
  intro y hy;unfold Rb at hy;obtain⟨G3,W3,hr,hF,anw⟩:=agV hpre hr hF;generalize IJ s fn (s.b8 fn.ntmps (aV s.tys x)) (yg 0 s.out.boxes st)=st3 at *;cases hds:rJ X st3 fn.results.toList with
  | none=>rw[hds]at hy;cases hy
  | some ds=>rw[hds]at hy;obtain⟨v,hv,hrun⟩:=BN hX hr hds;obtain⟨G2,q1,q2,q3,q4,q5⟩:=Outs.IK hX.E hpre rfl (anw.trans hdf) hr hF hv hy;exact⟨v,hrun,v,G2,rfl,q1,q2,q3,q4,q5⟩
 have fin:∀(p:O Outs)(y:OutP E s.out p),qf X s fn (s.b8 fn.ntmps (aV s.tys x)) p ex st=iN y->bodyPost X.P fn (λe w'=>∃v G',e=EG (lB s (s.H (aV s.tys x)) p y).ok v/\mj w G w' G'/\mX E w' G' (lB s (s.H (aV s.tys x)) p y).H (lB s (s.H (aV s.tys x)) p y).g/\lS E w' G' (lB s (s.H (aV s.tys x)) p y).c /\
   VT E w' G' (lB s (s.H (aV s.tys x)) p y).d v/\∀(q b:Nat),G.i[q]? = iN b->q∉(lB s (s.H (aV s.tys x)) p y).D->w'.heap[b]? = w.heap[b]?) e a' w':=by
  intro p y hk;cases p with
  | none=>
   cases ex<;>cases e<;>try (exact he.elim)
   .obtain⟨v,hrun,h2⟩:=okc hk;exact⟨KZ,v,hrun,h2⟩
   .cases hk
   .cases hk
   .obtain⟨v,hrun,h2⟩:=okc hk;exact⟨KZ,v,hrun,h2⟩
   .cases hk
  | some q=>
   cases ex<;>cases e<;>try (exact he.elim)
   .obtain⟨y',hy,rfl⟩:=NQ hk;obtain⟨v,hrun,h2⟩:=okc hy;exact⟨KZ,v,hrun,h2⟩
   .cases hk
   .cases hk
   .obtain⟨y',hy,rfl⟩:=NQ hk;obtain⟨v,hrun,h2⟩:=okc hy;exact⟨KZ,v,hrun,h2⟩
   .obtain⟨y',hy,rfl⟩:=Q8 hk;obtain⟨v,rfl,hv⟩:=he;obtain⟨G2,q1,q2,q3,q4,q5⟩:=Outs.IK hX.E hpre rfl hdf hr hF hv hy;exact⟨KZ,v,G2,rfl,q1,q2,q3,q4,q5⟩
 exact fin s.nq y hk
variable{l:Nat}{r:Loop}
theorem Gm{o:Nat}(h:w.heap[l]? = iN (.loop r)):w.cell? ⟨l,o,iF⟩=iF:=by simp[World.cell?,h]
theorem Rc(o:Obj)(h:w.heap[l]? = iN (.loop r)):jc w G (w.putObj l o) G:=by refine⟨λ_ _ h=>h,λb c v _ hv=>?_,λ_ _ h=>h,λj x y hj=>⟨x,y,hj,eE _,λ_=>rfl⟩⟩;grind[Gm,World.cell?_of_block,World.putObj_heap_other]
variable{tmps:aJ R0}{C:bL E}
theorem mX.turn{H:J (gu E)}{gs:J cU}(o:Obj)(h:w.heap[l]? = iN (.loop r))(hl:l∉G.i)(hB:mX E w G H gs):mX E (w.putObj l o) G H gs:=by
 have hg:=Rc (G:=G) o h;refine⟨hB.len,hB.gs,λq b x hq hx=>(hB.box q b x hq hx).mono hg (World.putObj_heap_other λe=>hl (by grind)),λb hb=>by simpa using hB.lt b hb,hB.nodup,λb o' hp=>by simpa using hB.gT b o' hp,λj x y hj=>?_,hB.apart⟩;obtain⟨n,xs,ho,hz,hb⟩:=hB.grow j x y hj;refine⟨n,xs,⟨ho.1,?_⟩,hz,λb Ir=>by simpa using hb b Ir⟩;rcases ho.2 with h2|⟨g,cap,cur,h2,h3,h4,h5⟩
 .exact .inl h2
 .refine .inr ⟨g,cap,cur,h2,h3,?_,h5⟩;rw[KY (λe=>by simp_all)];exact h4
theorem lS.turn{cs:J (Nat×Cn E)}(o:Obj)(h:w.heap[l]? = iN (.loop r))(hS:lS E w G cs):lS E (w.putObj l o) G cs:=by
 have hg:=Rc (G:=G) o h;intro j c hj;obtain⟨x,hd,h1,h2,h3,⟨vals,ho,hf⟩,hp⟩:=hS j c hj;refine⟨x,hd,h1,h2,h3,⟨vals,⟨ho.1,?_⟩,hf.mono hg.pr hg.cells⟩,hp⟩;rcases ho.2 with q|⟨g,cap,cur,q1,q2,q3,q4⟩
 .exact .inl q
 .refine .inr ⟨g,cap,cur,q1,q2,?_,q4⟩;rw[KY (λe=>by simp_all)];exact q3
theorem rj.turn(o:Obj)(h:w.heap[l]? = iN (.loop r))(hP:rj E w G):rj E (w.putObj l o) G:=by intro b p hb;obtain⟨⟨cs,t,m,h1,hp⟩,h2⟩:=hP b p hb;exact⟨⟨cs,t,m,by rw[KY (λe=>by simp_all)];exact h1,hp⟩,h2⟩
theorem mj.turn(o:Loop)(h0:l<w0.heap.size)(h:w.heap[l]? = iN (.loop r))(hE:mj w0 G0 w G):mj (w0.putObj l (.loop o)) G0 (w.putObj l (.loop o)) G:=by
 have hlt:=(BH.1 h).1;refine⟨hE.os,hE.tape,hE.output,by simpa using hE.size,λb hb hf=>?_,⟨hE.goes.pr,λb c v hp hv=>?_,hE.goes.i,hE.goes.g⟩,λb c hb hp=>hE.pN b c (by simpa using hb) hp,λq b hq hb=>by simpa using hE.sF q b hq hb,λj x y b hj hb=>by simpa using hE.iB j x y b hj hb⟩
 .by_cases e:b=l
  .subst e;rw[SH hlt,SH h0]
  .rw[KY e,KY e];exact hE.old b (by simpa using hb) hf
 .by_cases e:b=l
  .subst e;rw[Gm (SH h0)]at hv;cases hv
  .rw[SC (KY e)]at hv⊢;exact hE.goes.cells b c v hp hv
theorem ak6(hE:mj w0 G0 w G)(h0:l<w0.heap.size)(hf:¬ G0.FQ l):¬ G.FQ l:=by
 intro hf';refine hf ?_;rcases hf' with hf|⟨x,hd,hm,hbk⟩
 .obtain⟨q,hq,he⟩:=ko hf;have WT:G.i[q]? = iN l:=by simp_all
  by_cases qO:q<G0.i.length
  .have e1:=hE.goes.i q _ (fT qO);exact .inl (by simp_all)
  .have:=hE.sF q l om WT;omega
 .obtain⟨j,hj,he⟩:=ko hm;rcases hE.iB j x hd l (by simp_all) hbk with q|⟨x0,h0',q1,q2⟩
  .omega
  .exact .inr ⟨x0,h0',jQ q1,q2⟩
theorem Rel.turn(o:Loop)(hr:Rel E w0 G0 st a w G)(h0:w0.heap[l]? = iN (.loop r))(hf:¬ G0.FQ l):w.heap[l]? = iN (.loop r)/\Rel E (w0.putObj l (.loop o)) G0 st a (w.putObj l (.loop o)) G:=by
 have hl0:=(BH.1 h0).1;have h:w.heap[l]? = iN (.loop r):=by rw[hr.fH.old l hl0 hf];exact h0
 have hg:=Rc (G:=G) (.loop o) h;have hfG:=ak6 hr.fH hl0 hf;refine⟨h,hr.fH.turn o hl0 h,hr.size,λj d hj=>(hr.tmps j d hj).mono hg,hr.defers.mono hg,hr.boxes.turn _ h (λhm=>hfG (.inl hm)),λq b hq hd=>?_,hr.pins.turn _ h0,hr.gU.turn _ h⟩;have hne:b≠l:=λe=>hf (.inl (by grind));rw[KY hne,KY hne];exact hr.fix q b hq hd
def ab6:J Tmp->J (TV E)->J (TV E)->J (TV E)|p::ps,x::xs,t=>ab6 ps xs (t.set p x)|_,_,t=>t
theorem adT{w:U}{G:bC}:∀(ps:J Tmp)(xT:J (TV E))(xV:J R0)(t:J (TV E))(tmps:aJ R0),bO E w G xT xV->xT.length=Sx ps->tmps.size=t.length->(∀j d,t[j]? = iN d->VT E w G d (tmps.getD j H5)) ->
  ((ps.zip xV).foldl (λt (p,v)=>t.setIfInBounds p v) tmps).size=(ab6 ps xT t).length/\∀j d,(ab6 ps xT t)[j]? = iN d->VT E w G d (((ps.zip xV).foldl (λt (p,v)=>t.setIfInBounds p v) tmps).getD j H5)
 | [],xT,xV,t,tmps,hv,hl,hs,ht=>by
  cases xT with
  | nil=>exact⟨hs,ht⟩|cons _ _=>cases hl
 | p::ps,[],xV,t,tmps,hv,hl,hs,ht=>by cases hl
 | p::ps,x::xs,xV,t,tmps,hv,hl,hs,ht=>by
  obtain⟨u,us,rfl,h1,h2⟩:=hv.cons_inv;refine adT ps xs us (t.set p x) (tmps.setIfInBounds p u) h2 (by simpa using hl) (by simpa using hs) λj d hj=>?_;by_cases hjp:p=j
  .by_cases hlt:p<t.length
   .simp_all
   simp_all
  simp_all
def adU(s:dB)(Y:YD)(ls:J (Lf E)):TS E:=⟨ab6 Y.params.toList ((s.ds ls).take Y.params.size) ((s.ds ls).drop Y.params.size),s.H ls,s.g0,[],[],s.c ls⟩
def okH:J (gu E)->Bool
 | []=>eQ|x::xs=>(match x with | .cells _ _=>eQ | .iter _ _=>eQ | .map _ _ _=>eQ|_=>eK)&&okH xs
def ass(s:dB)(b8:TS E):(p:O Outs)->Ex E->TS E->O (OutP E s.out p)|none,.normal,st=>s.out.get b8 st (.dat .bool eQ)|_,_,_=>iF
noncomputable def ast(X:Cx E)(F:Nat)(s:dB)(Y:YD)(pl:fu)(x:dens E s.tys):O (OutP E s.out s.nq):=rq (vY Y.assign&&jL Y.assign&&(vY Y.body&&jL Y.body)&&okH (s.H (aV s.tys x))) (runT X F Y.assign .leaf (adU s Y (aV s.tys x)) (jX (λkg=>runT X F Y.body pl kg (ass s (adU s Y (aV s.tys x)) s.nq)) λ_ _=>iF))
theorem bO.ak7{w:U}{G:bC}:∀ {ds:J (TV E)}{vs us:J R0},bO E w G ds (vs++us)->bO E w G (ds.take vs.length) vs/\bO E w G (ds.drop vs.length) us
 | ds,[],us,h=>⟨by simpa using bO.nil,by simpa using h⟩|[],v::vs,us,h=>by simp_all[bO]|d::ds,v::vs,us,h=>by obtain⟨u,us',e,h1,h2⟩:=h.cons_inv;cases e;obtain⟨q1,q2⟩:=bO.ak7 h2;exact⟨by simpa using bO.cons h1 q1,by simpa using q2⟩
theorem ak8{w:U}{G:bC}{l:Nat}{r:Loop}(h:w.heap[l]? = iN (.loop r)):∀ {H:J (gu E)}{q:Nat}{x:gu E},okH H=eQ->H[q]? = iN x->¬ kN E w G l x
 | [],_,_,_,hx=>by cases hx
 | y::H,0,x,ho,hx=>by
  cases hx;intro hb;simp[okH]at ho;cases y with
  | cells ty cs=>obtain⟨vs,h1,-⟩:=hb;rw[h]at h1;cases h1
  | iter s p=>have h1:w.heap[l]? = _:=hb;rw[h]at h1;cases h1
  | map kt vt m=>obtain⟨es,clock,h1,-⟩:=hb;rw[h]at h1;cases h1
  | _=>cases ho.1
 | y::H,q+1,x,ho,hx=>by simp[okH]at ho;exact ak8 h ho.2 (by simpa using hx)
theorem Rel.aui{Y:YD}{xs:aJ R0}(hn:xs.size=Y.params.size)(hP:rj E w G)(hB:mX E w G (s.H ls) s.g0)(hS:lS E w G (s.c ls))(hV:bO E w G (s.ds ls) (xs++tmps).toList):
  Rel E w G (adU s Y ls) {tmps:=(Y.params.zip xs).foldl (λt (p,v)=>t.setIfInBounds p v) tmps,defers:=[]} w G:=by
 rw[Array.toList_append]at hV;obtain⟨h1,h2⟩:=bO.ak7 hV;have hx:xs.toList.length=Y.params.size:=by simpa using hn
 rw[hx]at h1 h2;have hf:(Y.params.zip xs).foldl (λt (p,v)=>t.setIfInBounds p v) tmps=(Y.params.toList.zip xs.toList).foldl (λt (p,v)=>t.setIfInBounds p v) tmps:=by rw[<-Array.foldl_toList,Array.toList_zip]
 obtain⟨q1,q2⟩:=adT Y.params.toList ((s.ds ls).take Y.params.size) xs.toList ((s.ds ls).drop Y.params.size) tmps h1 (by have:=h1.length;simp at this⊢;omega) (by simpa using h2.length) (λj d hj=>by
  obtain⟨u,hu,hv⟩:=h2.get j hj
  simp_all)
 refine⟨mj.refl w G,?_,λj d hj=>?_,trivial,hB,λ_ _ _ _=>rfl,hP,hS⟩
 .show(_:aJ R0).size=_;rw[hf];exact q1
 .show VT E w G d (Array.getD _ j H5);rw[hf];exact q2 j d hj
theorem afZ{o o':Obj}(h:w.heap[l]? = iN o):(w.putObj l o').putObj l o=w:=by
 have:(w.heap.setIfInBounds l o').setIfInBounds l o=w.heap:=by grind
 unfold World.putObj;simp[this]
theorem bL.asu(hX:X.Ok){Y:YD}(hY:∀Y',E.yd C.s.f Y'->Y'=Y)(h:∀x,ast X F C.s Y pl x=C.m x):C.IE (YX E X.P):=by
 intro x y hy;have h1:ast X F C.s Y pl x=iN y:=by rw[h x];exact hy
 intro w G args hP hB hS hV Y' fn l D xs tmps hY' hargs hsz hheap;have hY':=(hY Y' hY').symm;subst hY';subst hargs;obtain⟨hc,h1⟩:=dX h1;simp at hc;obtain⟨⟨⟨ha1,tY⟩,xE,mJ⟩,hok⟩:=hc;have hf:¬ G.FQ l:=by
  rintro (hm|⟨z,hd,hm,hbk⟩)
  .obtain⟨q,hq,he⟩:=ko hm;have hq2:q<(C.s.H (aV C.s.tys x)).length:=by rw[<-hB.len];exact hq
   exact ak8 hheap hok (fT hq2) (hB.box q l _ (by simp_all) (fT hq2))
  .obtain⟨j,hj,he⟩:=ko hm;obtain⟨n,xs',ho,-,-⟩:=hB.grow j z hd (by simp_all);rcases ho.2 with⟨h2,-⟩|⟨g,cap,cur,h2,h3,h4,h5⟩
   .rw[h2]at hbk;cases hbk
   .rw[h2]at hbk;cases hbk;simp_all
 have Ii:=Rel.aui hsz hP hB hS hV;have hpre:=Ii.pre;refine roundIn_of_wpIn trivial ?_;refine wpIn_mono ((vz hX Y.assign .leaf h1) (iN l) (λ_=>ha1) w G _ w G Ii) λe a1 w1 hp=>?_;obtain⟨x1,kg,G1,he,fC,hq,hF1⟩:=hp;cases x1<;>try trivial
 cases e<;>try (exact he.elim)
 obtain⟨hl1,hrt⟩:=fC.turn ⟨.busy,iF,fn,tmps,Y.params,Y.assign,Y.body,D⟩ hheap hf;refine⟨_,run_beginRound hl1 rfl,?_⟩;refine wpIn_mono ((vz hX Y.body pl hq) (iN l) (λ_=>xE) _ G a1 _ G1 hrt) λe a2 w2 hp=>?_;obtain⟨x2,J2,G2,ZW,hr2,hq2,oN⟩:=hp;have fin:∀(p:O Outs)(y:OutP E C.s.out p),ass C.s (adU C.s Y (aV C.s.tys x)) p x2 J2=iN y->x2=.normal/\∃v w',(Instr.endRound l iF).run X.P w2=.ok v w'/\Av E w G (lB C.s (C.s.H (aV C.s.tys x)) p y) (.returned v) w':=by
  intro p y hk;cases p with
  | some q=>cases hk
  | none=>
   cases x2<;>try trivial
   refine⟨rfl,?_⟩;obtain⟨hl2,hr3⟩:=hr2.turn ⟨.ready,iF,fn,tmps,Y.params,Y.assign,Y.body,D⟩ (SH (BH.1 hheap).1) hf;rw[afZ hheap]at hr3;refine⟨_,_,run_endRound iF hl2,?_⟩;have hF:Fr (wr Y.assign++wr Y.body) eQ (adU C.s Y (aV C.s.tys x)) J2:=hF1.trans oN (λj hj=>by simp[hj]) (λj hj=>by simp[hj]) (λ_=>⟨tY,mJ⟩);have hv:VT E (w2.putObj l (.loop ⟨.ready,iF,fn,tmps,Y.params,Y.assign,Y.body,D⟩)) G2 (.dat .bool eQ) (.bool eQ):=⟨VD.bool eQ,trivial⟩;obtain⟨G3,q1,q2,q3,q4,q5⟩:=Outs.IK hX.E hpre rfl (hF.df rfl) hr3 hF hv hk;exact⟨.bool eQ,G3,rfl,q1,q2,q3,q4,q5⟩
 obtain⟨rfl,v,w',hend,hres⟩:=fin C.s.nq y hq2;cases e<;>try (exact ZW.elim)
 exact⟨v,w',hend,hres⟩
def Y2(P:bw):Inv:=λf args w R=>lz P f args w R
theorem Y2.mono(P:bw):(Y2 P).adC:=λf args w R R' h hi=>by
 unfold Y2 lz at *;split at hi
 .exact H7 hi h
 .exact h _ _ hi
 .exact hi.elim
def bL.Ok.gok(h:C.Ok P):C.IE (Y2 P):=λx y hy=>h x y hy
def NS(keep:J Nat)(t:J (TV E)):J (TV E):=t.zipIdx.map λp=>cond (keep.elem p.2) p.1 .any
noncomputable def runM(X:Cx E)(F:Nat):Code->fu->{R:Type}->TS E->(Ex E->TS E->O R)->O R
 | .seq a b,p,_,st,k=>match p with
  | .Lo ow p q=>match ux (wr a++wr b) ow st with
   | none=>iF|some st=>runM X F a p st (jX (λst'=>runM X F b q st' k) k)
  | p=>runT X F (.seq a b) p st k
 | .block i a,p,_,st,k=>match p with
  | .adN p=>runM X F a p st (Xk i k)|p=>runT X F (.block i a) p st k
 | .rangeFunc g ps a b,p,_,st,k=>match p with
  | .range ow y f keep=>match ux [] ow st with
   | none=>iF|some st=>match st.ev g with
    | .func (.func f') caps=>cond (dO f f')
     (s7 {st with H:=(st.H++[.Ub])++[.loop y (NS keep st.t)],df:=(Cf,[.vV st.H.length])::st.df} iF f (.vV (Sx st.H+1)::caps) (jX (λst'=>match st'.H[Sx st.H+1]? with
      | some (.loop _ _)=>k .normal {st' with H:=st'.H.set (Sx st.H+1) .gone,d:=(Sx st.H+1)::st'.d}
      | _=>iF) λ_ _=>iF) X.Γ) iF
    | _=>iF
  | _=>iF
 | c,p,_,st,k=>runT X F c p st k
def IL(E:TEnv)(P:bw):Code->fu->Prop|.seq a b,.Lo _ p q=>IL E P a p/\IL E P b q|.block _ a,.adN p=>IL E P a p|.rangeFunc _ ps a b,.range _ y f _=>E.yd y ⟨ps,a,b⟩/\∀args w,(H3 f args).run P w=.ok (.enter f args) w|_,_=>True
def NU:Code->fu->J (Nat×H4×YD)|.seq a b,.Lo _ p q=>NU a p++NU b q|.block _ a,.adN p=>NU a p|.rangeFunc _ ps a b,.range _ y f _=>[(y,f,⟨ps,a,b⟩)]|_,_=>[]
def Fi:Code->J Bool->O YD|.rangeFunc _ ps a b,_=>iN ⟨ps,a,b⟩|.seq a _,eK::p=>Fi a p|.seq _ b,eQ::p=>Fi b p|.cond _ a _,eK::p=>Fi a p|.cond _ _ b,eQ::p=>Fi b p|.block _ a,p=>Fi a p|.scope a,p=>Fi a p|.loop a,p=>Fi a p|_,_=>iF
def Xp:Nat->Func->J Bool->YD
 | 0,f,p=>match f.body with
  | some c=>match Fi c p with
   | some y=>y|none=>⟨#[],.skip,.skip⟩
  | none=>⟨#[],.skip,.skip⟩
 | n+1,f,p=>Xp n f p
def adV(E:TEnv)(P:bw)(t:Nat×H4×YD):Prop:=E.yd t.1 t.2.2/\∀args w,(H3 t.2.1 args).run P w=.ok (.enter t.2.1 args) w
theorem aqj:∀(c:Code)(p:fu),(∀t∈NU c p,adV E P t)->IL E P c p:=by
 intro c
 induction c with
 | seq a b Gi Gj=>
  intro p h;cases p<;>try (simp[IL];done)
  simp only[NU,kZ]at h;exact⟨Gi _ λt ht=>h t (.inl ht),Gj _ λt ht=>h t (.inr ht)⟩
 | block i a ih=>
  intro p h;cases p<;>try (simp[IL];done)
  exact ih _ h
 | rangeFunc g ps a b _ _=>
  intro p h;cases p<;>try (simp[IL];done)
  simp only[NU,ni]at h;exact h _ rfl
 | _=>simp_all[IL]
theorem ydC{t:Nat×H4×YD}{l:J (Nat×H4×YD)}(h:adV E P t)(hs:∀t∈l,adV E P t):∀t'∈t::l,adV E P t':=λt' ht=>by grind
variable{R:Type}{keep:J Nat}
theorem anx{t:J (TV E)}(hs:tmps.size=t.length)(h:∀j d,t[j]? = iN d->VT E w G d (tmps.getD j H5)):bO E w G (NS keep t) tmps.toList:=by
 have key:∀(t:J (TV E))(vs:J R0)(n:Nat),Sx vs=t.length->(∀j d,t[j]? = iN d->VT E w G d (vs.getD j H5))->bO E w G ((t.zipIdx n).map λp=>cond (keep.elem p.2) p.1 .any) vs:=by
  intro t
  induction t with
  | nil=>intro vs n hl _;cases vs with|nil=>exact .nil|cons _ _=>cases hl
  | cons d t ih=>
   intro vs n hl h;cases vs with
   | nil=>cases hl
   | cons v vs=>
    rw[List.zipIdx_cons,jb];refine .cons ?_ (ih vs (n+1) (by simpa using hl) λj d' hj=>by simpa using h (j+1) d' (by simpa using hj));cases keep.elem n
    .simp[VT]
    .simpa using h 0 d rfl
 refine key t tmps.toList 0 (by simpa using hs) λj d hj=>?_;simp_all
def Rel.asv(hr:Rel E w0 G0 st a w G):Rel E w G st a w G:=⟨mj.refl w G,hr.size,hr.tmps,hr.defers,hr.boxes,λ_ _ _ _=>rfl,hr.WU,hr.gU⟩
def Rel.over{w1 w2:U}{G1 G2:bC}{a1 a2:Act}{kg J2:TS E}(h1:Rel E w0 G0 kg a1 w1 G1)(h2:Rel E w1 G1 J2 a2 w2 G2)(hd:∀q,q∈kg.d->q∈J2.d):Rel E w0 G0 J2 a2 w2 G2:=⟨h1.fH.trans h2.fH,h2.size,h2.tmps,h2.defers,h2.boxes,λq b hq hn=>(h2.fix q b (h1.fH.goes.i q b hq) hn).trans (h1.fix q b hq λhm=>hn (hd q hm)),h1.pins,h2.gU⟩
theorem ajd(hX:X.Ok){g:Operand}{ps:Array Tmp}{ca cb:Code}{y:H4}{k:Ex E->TS E->Option R}{r:R}{ow:J Own}(h:runM X F (.rangeFunc g ps ca cb) (.range ow y f keep) st k=iN r)
  (hy:IL E X.P (.rangeFunc g ps ca cb) (.range ow y f keep)):J6 E X.P (.rangeFunc g ps ca cb) st (λx st'=>k x st'=iN r/\Fr [] eK st st'):=by
 obtain⟨hyd,hent⟩:=hy;simp only[runM]at h;split at h<;>try trivial
 rename_i nT Xq
 suffices hmain:J6 E X.P (.rangeFunc g ps ca cb) nT (λx st'=>k x st'=iN r/\Fr [] eK nT st') by intro w0 G0 a w G hr;obtain⟨⟨GA,hrA⟩,hfA⟩:=pq Xq hr;exact wp_mono (hmain w0 G0 a w GA hrA) λ_ _ _ hp=>cQ.mono (λx s' hh=>⟨hh.1,hfA.trans hh.2 (λ_ h=>h) (λ_ h=>h) (λh=>nomatch h)⟩) hp
 clear Xq;revert h;generalize nT=st;intro h;split at h<;>try trivial
 rename_i f' caps hg;cases hf:dO f f'<;>rw[hf]at h<;>simp only[aQ,aI]at h
 .cases h
 obtain rfl:=fm hf;intro w0 G0 a w G hr;refine(wpIn_wide (n:=0)).1 (wpIn_rangeFunc λfn _=>?_);have hv:=hr.ev g;rw[hg]at hv;simp only[VT]at hv;obtain⟨cv,IA,Tb⟩:=hv;have hn1:=hr.L5 (.deferred (iN [])) .Ub (heap_alloc_new w _);have vT:jc (w.alloc (.deferred (iN []))) {G with i:=G.i++[w.heap.size]} ((w.alloc (.deferred (iN []))).alloc (.loop ⟨.ready,iF,fn,a.tmps,ps,ca,cb,w.heap.size⟩)) {G with i:=G.i++[w.heap.size]}:=⟨λ_ _ h=>h,λb o v hp hv=>(SC ((fI.alloc _ _).2 b (hn1.boxes.gT b o hp).1)).trans hv,λ_ _ h=>h,λj x h hj=>⟨x,h,hj,eE _,λ_=>rfl⟩⟩;have auj:bO E ((w.alloc (.deferred (iN []))).alloc (.loop ⟨.ready,iF,fn,a.tmps,ps,ca,cb,w.heap.size⟩)) {G with i:=G.i++[w.heap.size]} (NS keep st.t) a.tmps.toList:=anx hr.size λj d hj=>(hn1.tmps j d hj).mono vT;have hn2:=hn1.L5 (.loop ⟨.ready,iF,fn,a.tmps,ps,ca,cb,w.heap.size⟩) (.loop y (NS keep st.t)) ⟨⟨ps,ca,cb⟩,fn,a.tmps,w.heap.size,hyd,heap_alloc_new _ _,auj⟩;have hlen:=hr.boxes.len;obtain⟨G2,hG2⟩:∃G2:bC,{G with i:=(G.i++[w.heap.size])++[(w.alloc (.deferred (iN []))).heap.size]} = G2:=⟨_,rfl⟩;obtain⟨W1,hW1⟩:∃W1,(w.alloc (.deferred (iN []))).alloc (.loop ⟨.ready,iF,fn,a.tmps,ps,ca,cb,w.heap.size⟩)=W1:=⟨_,rfl⟩;have hn2:Rel E w0 G0 {st with H:=(st.H++[.Ub])++[.loop y (NS keep st.t)]} a W1 G2:=by simp_all
 have hi0:G2.i[Sx st.H]? = iN w.heap.size:=by grind
 have hi1:G2.i[Sx st.H+1]? = iN (w.heap.size+1):=by rw[<-hG2];simp_all
 have hn3:Rel E w0 G0 {st with H:=(st.H++[.Ub])++[.loop y (NS keep st.t)],df:=(Cf,[.vV st.H.length])::st.df} {a with defers:={target:=.collected w.heap.size,args:=#[]} :: a.defers} W1 G2:=⟨hn2.fH,hn2.size,hn2.tmps,⟨.inr ⟨rfl,w.heap.size,rfl,.cons (by simp_all[VT]) .nil⟩,hn2.defers⟩,hn2.boxes,hn2.fix,hn2.pins,hn2.gU⟩;have hargs:bO E W1 G2 (.vV (Sx st.H+1)::caps) ((#[.func (.yield (w.heap.size+1)) #[] #[]]:Array R0)++cv).toList:=by
  have sS:=hn3.ev g;have e1:TS.ev {st with H:=(st.H++[.Ub])++[.loop y (NS keep st.t)],df:=(Cf,[.vV st.H.length])::st.df} g=.func (.func f) caps:=hg;rw[e1]at sS;simp only[VT]at sS;obtain⟨cv2,asw,asx⟩:=sS;have e2:Act.eval {a with defers:={target:=.collected w.heap.size,args:=#[]} :: a.defers} g=a.eval g:=rfl;rw[e2,IA]at asw;cases asw;have:((#[.func (.yield (w.heap.size+1)) #[] #[]]:Array R0)++cv).toList=.func (.yield (w.heap.size+1)) #[] #[]::cv.toList:=by simp
  rw[this];exact .cons (by simp_all[VT]) asx
 have hI:=Fh hX.E (Y2.mono X.P) (λC hC=>(hX.Γ C hC).gok) h _ _ _ _ _ _ hn3.asv hargs;unfold Y2 lz at hI;rw[hent]at hI;have hC:=hI;refine⟨w.heap.size+1,[{target:=.collected w.heap.size,args:=#[]}],W1,{target:=.fn (.func f) cv,args:=#[.func (.yield (w.heap.size+1)) #[] #[]]},W1,f,#[.func (.yield (w.heap.size+1)) #[] #[]]++cv,W1,(by simp_all[run_enterLoop_outer]),?_,λ_ _=>trivial,?_,(λh=>nomatch h),(callsIn_wide (n:=0)).2 (H7 hC λe w3 he=>?_)⟩
 .simp only[resolve,IA];simp[go_sem]
 .simp[invoke,go_sem,hent]
 rcases he with⟨v,st',G',rfl,hR,hk,hF⟩|⟨x,st',hne,hk⟩
 rotate_left
 .grind
 simp only[jX]at hk;split at hk<;>try trivial
 rename_i y' ds' auk;have hat:G'.i[Sx st.H+1]? = iN (w.heap.size+1):=hR.fH.goes.i _ _ hi1;obtain⟨Y',fn',tmps',D',hY',hheap,-⟩:=hR.box hat auk;have hlt:w.heap.size+1<w3.heap.size:=(BH.1 hheap).1;have hS:=hR.zU (w':=w3.putObj (w.heap.size+1) (.loop ⟨.exhausted,iF,fn',tmps',Y'.params,Y'.assign,Y'.body,D'⟩)) hat si rfl rfl rfl (λb' hb=>KY hb) (x:=.gone)
  (λ_=>⟨_,SH hlt,λcs t m e=>by cases e⟩)
 obtain⟨D2,hD2,hH2⟩:=hF.d
 have hO:=Rel.over hn3 hS (λq hq=>by
  grind)
 refine⟨iF,_,run_endLoop hheap (λe=>nomatch e),?_⟩;refine⟨.normal,_,G',trivial,hO,hk,?_⟩;refine⟨hF.len,λi hi=>hF.keep i (λh=>by cases h),⟨(Sx st.H+1)::D2,by grind,λq hq hd=>?_⟩,?_,λh=>nomatch h⟩
 .grind
 grind
theorem aje(hX:X.Ok):∀(c:Code)(p:fu){R:Type}{st:TS E}{k:Ex E->TS E->Option R}{r:R},runM X F c p st k=iN r->IL E X.P c p->J6 E X.P c st (λx st'=>k x st'=iN r/\Fr (wr c) eK st st'):=by
 have base:∀(c:Code)(p:fu){R:Type}{st:TS E}{k:Ex E->TS E->Option R}{r:R},runT X F c p st k=iN r->J6 E X.P c st (λx st'=>k x st'=iN r/\Fr (wr c) eK st st'):=λc p R st k r h w0 G0 a w G hr=>wp_mono ((vz hX c p h).wp hr) λ_ _ _ hp=>cQ.mono (λx s hh=>⟨hh.1,hh.2.wide (λ_ h=>h) (λh=>nomatch h)⟩) hp;intro c
 induction c with
 | seq a b Gi Gj=>
  intro p R st k r h hy;cases p with
  | Lo ow p q=>
   simp[runM]at h;split at h<;>try trivial
   rename_i nT Xq;intro w0 G0 ac w G hr;obtain⟨⟨GA,hrA⟩,hfA⟩:=pq Xq hr;refine wp_mono (Q:=cQ E w0 G0 (λx st'=>k x st'=iN r/\Fr (wr (.seq a b)) eK nT st')) ?_ λ_ _ _ hp=>cQ.mono (λx s' hh=>⟨hh.1,hfA.trans hh.2 (λ_ h=>h) (λ_ h=>h) (λh=>nomatch h)⟩) hp;revert GA h;generalize nT=st;intro h G hr;refine wp_seq (wp_mono (Gi p h hy.1 w0 G0 ac w G hr) λe a' w' hp=>?_);obtain⟨x,s,G',he,hr',hq,hf⟩:=hp;cases x with
   | normal=>
    cases e<;>try (exact he.elim)
    exact wp_mono (Gj q hq hy.2 w0 G0 a' w' G' hr') λ_ _ _ hp=>cQ.mono (λx s' hh=>⟨hh.1,hf.trans hh.2 (λi hi=>by simp[wr,hi]) (λi hi=>by simp[wr,hi]) (λh=>nomatch h)⟩) hp
   | _=>have qP:cQ E w0 G0 (λx st'=>k x st'=iN r/\Fr (wr (.seq a b)) eK st st') e a' w':=⟨_,s,G',he,hr',hq,hf.wide (λi hi=>by simp[wr,hi]) (λh=>h)⟩;cases e<;>first|exact he.elim|exact qP
  | _=>grind[runM]
 | block i a ih=>
  intro p R st k r h hy;cases p with
  | adN p=>
   intro w0 G0 ac w G hr;refine wp_block (wp_mono (ih p h hy w0 G0 ac w G hr) λe a' w' hp=>?_);obtain⟨x,s,G',he,hr',hq,hf⟩:=hp;cases x with
   | exit j=>
    cases e<;>try (exact he.elim)
    rename_i i';subst he;simp[Xk]at hq;simp[Exit.inBlock];cases hb:dO i' i<;>rw[hb]at hq<;>simp at hq
    .have:i'≠i:=λe=>by simp_all
     rw[if_neg this];exact⟨.exit i',s,G',rfl,hr',hq,hf⟩
    .rw[if_pos (fm hb)];exact⟨.normal,s,G',trivial,hr',hq,hf⟩
   | _=>have qP:cQ E w0 G0 (λx st'=>k x st'=iN r/\Fr (wr (.block i a)) eK st st') e a' w':=⟨_,s,G',he,hr',hq,hf⟩;cases e<;>first|exact he.elim|exact qP
  | _=>grind[runM]
 | rangeFunc g ps a b _ _=>intro p R st k r h hy;cases p with|range ow y f keep=>exact ajd hX h hy|_=>simp_all[runM]
 | _=>grind[runM]
def Ti{R:Type}(k:TS E->Option R):J (H4×J (TV E))->TS E->Option R
 | [],st=>k {st with df:=[]}
 | (f,[.vV q])::df,st=>cond (dO f Cf) (match st.H[q]? with
   | some .Ub=>Ti k df {st with H:=st.H.set q .gone,d:=q::st.d}
   | _=>iF) iF
 | _,_=>iF
def asy(X:Cx E)(s:dB)(fn:Func)(b8:TS E):(p:O Outs)->Ex E->TS E->O (OutP E s.out p)|none,.ret,st=>Ti (λst=>(rJ X st fn.results.toList).bind λds=>s.out.get b8 st (sJ ds)) st.df st|none,.normal,st=>Ti (λst=>(rJ X st fn.results.toList).bind λds=>s.out.get b8 st (sJ ds)) st.df st|_,_,_=>iF
noncomputable def ajf(X:Cx E)(F:Nat)(s:dB)(fn:Func)(pl:fu)(x:dens E s.tys):O (OutP E s.out s.nq):=match fn.body with|some c=>runM X F c pl (s.b8 fn.ntmps (aV s.tys x)) (asy X s fn (s.b8 fn.ntmps (aV s.tys x)) s.nq)|none=>iF
theorem Ul{P:Program}{fn:Func}{R:Type}{k:TS E->Option R}{r:R}{w0:World}{G0:bC}{tmps:Array R0}{RR:Ending->World->Prop}:∀(df:J (H4×J (TV E)))(st:TS E)(ds:J Deferred)(w:World)(G:bC),Ti k df st=iN r ->
  Rel E w0 G0 {st with df:=df} {tmps:=tmps,defers:=ds} w G ->
  (∀(st':TS E)(w':World)(G':bC),k {st' with df:=[]} = iN r->Rel E w0 G0 {st' with df:=[]} {tmps:=tmps,defers:=[]} w' G'->Fr [] eK st st'->∃v,(results fn tmps).run P w'=.ok v w'/\RR (.returned v) w') ->
  LeavesInM Fence.wide 0 P fn tmps RR ds .returning w
 | [],st,ds,w,G,h,hr,hk=>by
  have:ds=[]:=by have:=hr.defers;cases ds with|nil=>rfl|cons _ _=>exact this.elim
  subst this;exact hk st w G h hr (Fr.refl _ _ _)
 | (f,dv)::df,st,ds,w,G,h,hr,hk=>by
  cases ds with|nil=>exact hr.defers.elim|cons d0 ds=>
  obtain⟨hd,eU⟩:=hr.defers
  obtain⟨q,hdv,h'⟩:∃q,dv=[.vV q]/\cond (dO f Cf) (match st.H[q]? with
   | some .Ub=>Ti k df {st with H:=st.H.set q .gone,d:=q::st.d}
   | _=>iF) iF=iN r:=by
   cases dv with
   | nil=>cases h
   | cons z zs=>
    cases zs with
    | cons _ _=>cases z<;>cases h
    | nil=>cases z<;>first|(cases h;done)|exact⟨_,rfl,h⟩
  subst hdv;cases hc:dO f Cf<;>rw[hc]at h'<;>simp only[aQ,aI]at h'
  .cases h'
  split at h'<;>try (cases h';done)
  rename_i hq
  obtain⟨-,b,rfl,hv⟩:=hd.resolve_left (λhh=>by
   simp_all)
  obtain⟨u,us,he,h1,-⟩:=hv.cons_inv;cases he;obtain⟨b',he,hat⟩:=h1;cases he;have Qs:=hr.box hat hq;have hlt:=(BH.1 Qs).1;have hS:=hr.zU (w':=w.putObj b (.deferred iF)) hat si rfl rfl rfl (λb' hb=>KY hb) (x:=.gone) (λ_=>⟨_,SH hlt,λcs t m e=>by cases e⟩);refine⟨(λe=>nomatch e),.inl ⟨b,_,rfl,run_takeDeferred Qs,?_⟩⟩;refine Ul df {st with H:=st.H.set q .gone,d:=q::st.d} ds _ G h' ⟨hS.fH,hS.size,hS.tmps,hS.defers.2,hS.boxes,hS.fix,hS.pins,hS.gU⟩ λst' w' G' h1 h2 h3=>hk st' w' G' h1 h2 ?_;have f1:Fr [] eK st {st with H:=st.H.set q .gone,d:=q::st.d}:=⟨rfl,λ_ _=>rfl,⟨[q],rfl,λj hj hd=>MQ (λe=>hd (by simp[e]))⟩,si,λh=>nomatch h⟩;exact f1.trans h3 (λ_ h=>h) (λ_ h=>h) (λh=>nomatch h)
theorem af0(hX:X.Ok)(hf:X.P.funcs[s.f]? = iN fn)(hn:(fn.name == "runtime.NumGoroutine")=eK)(hy:∀c,fn.body=iN c->IL E X.P c pl)(h:ajf X F s fn pl x=iN y):
  mI X.P s.f (s.ds (aV s.tys x)) (s.H (aV s.tys x)) s.g0 (s.c (aV s.tys x)) (lB s (s.H (aV s.tys x)) s.nq y):=by
 unfold ajf at h;split at h<;>try trivial
 rename_i c hb;intro w G args hP hB hS hV;have Ii:=Rel.init (n:=fn.ntmps) hP hB hS hV;have hpre:=Ii.pre;refine ve hf hb hn ((callsIn_wide).1 (callsIn_of_wp_marks hf hb trivial ((wpIn_wide (n:=0)).2 (wp_mono (aje hX c pl h (hy c hb) w G _ w G Ii) λe a' w' hp=>?_))));obtain⟨ex,st,G',he,hr,hk,hF⟩:=hp;have fin:∀(p:Option Outs)(y:OutP E s.out p),asy X s fn (s.b8 fn.ntmps (aV s.tys x)) p ex st=iN y->(ex=.ret\/ex=.normal)/\LeavesInM Fence.wide 0 X.P fn a'.tmps (Av E w G (lB s (s.H (aV s.tys x)) p y)) a'.defers .returning w':=by
  intro p y hk;cases p with
  | some q=>cases ex<;>cases hk
  | none=>
   have main:Ti (λst=>(rJ X st fn.results.toList).bind λds=>s.out.get (s.b8 fn.ntmps (aV s.tys x)) st (sJ ds)) st.df st=iN y->LeavesInM Fence.wide 0 X.P fn a'.tmps (Av E w G (lB s (s.H (aV s.tys x)) iF y)) a'.defers .returning w':=λhk=>
    Ul st.df st a'.defers w' G' hk hr λst' w2 G2 h1 h2 h3=>by
     have hF3:Fr (wr c) eK (s.b8 fn.ntmps (aV s.tys x)) st':=hF.trans h3 (λ_ h=>h) (λ_ h=>by cases h) (λh=>nomatch h);cases hds:rJ X {st' with df:=[]} fn.results.toList with
     | none=>rw[hds]at h1;cases h1
     | some ds=>rw[hds]at h1;obtain⟨v,hv,hrun⟩:=BN hX h2 hds;have hF4:Fr (wr c) eK (s.b8 fn.ntmps (aV s.tys x)) {st' with df:=[]}:=⟨hF3.len,hF3.keep,hF3.d,hF3.hl,λh=>nomatch h⟩;obtain⟨G3,q1,q2,q3,q4,q5⟩:=Outs.IK hX.E (st:={st' with df:=[]}) hpre rfl rfl h2 hF4 hv h1;exact⟨v,hrun,v,G3,rfl,q1,q2,q3,q4,q5⟩
   cases ex<;>try trivial
   .exact⟨.inr rfl,main hk⟩
   .exact⟨.inl rfl,main hk⟩
 obtain⟨hex,hl⟩:=fin s.nq y hk;rcases hex with rfl|rfl<;>cases e<;>first|exact he.elim|exact hl
theorem bL.asz(hX:X.Ok)(hf:X.P.funcs[C.s.f]? = iN fn)(hn:(fn.name == "runtime.NumGoroutine")=eK){c:Code}(hc:fn.body=iN c){l:J (Nat×H4×YD)}(hl:NU c pl=l)(hy:∀t∈l,adV E X.P t)
  (h:∀x,ajf X F C.s fn pl x=C.m x):C.Ok X.P:=
 λx y hyy=>af0 hX hf hn (λc' tM=>by rw[hc]at tM;cases tM;exact aqj c pl (by rw[hl];exact hy)) (by rw[h x];exact hyy)
def aE(n:Int):Int:=dE .i64 n
def sl{α:Type}(l:J α)(p q:Int):J α:=(l.take q.toNat).drop p.toNat
def dc{α:Type}[BEq α](a b:α):Bool:=a==b
theorem bL.Xr(hX:X.Ok)(hf:X.P.funcs[C.s.f]? = iN fn)(hn:(fn.name == "runtime.NumGoroutine")=eK)(h:∀x,adS X F C.s fn pl x=C.m x):C.Ok X.P:=λx y hy=>ajc hX hf hn (by rw[h x];exact hy)
def iG:∀C∈([]:J (bL E)),C.Ok P:=λ_ h=>nomatch h
theorem cm{C:bL E}{Γ:J (bL E)}(h:C.Ok P)(hs:∀C∈Γ,C.Ok P):∀C'∈C::Γ,C'.Ok P:=λC' hC=>by
 rcases gL.1 hC with rfl|hC
 .exact h
 .exact hs C' hC
def tyS(l:J Nat)(ty:aK->O Ty):aK->O Ty:=λt=>cond (iO 2000000 t) (cond (l.elem (t-2000000)) (iN .bool) iF) (ty t)
def ZQ(F:Nat)(s:J UInt8)(c:Int):O Int:=iN (lO s c.toNat.toUInt8)
def ibS(f:H4):dB:=⟨f,[.one (.dat .str),.one (.dat (.int .u8))],[],[],⟨.one (.dat (.int .i64)),[],[],[]⟩,iF,[]⟩
def ibC(E:TEnv)(f:H4)(F:Nat):bL E:=⟨ibS f,λ(x:J UInt8×Int)=>ZQ F x.1 x.2⟩
theorem att(h:∀args w,(H3 f args).run P w=((Extern.BytealgIndexByte.indexByte args).run P w).andThen λv w'=>.ok (.value v) w')(F:Nat):(ibC E f F).Ok P:=by
 have key:∀(s:J UInt8)(c:Int),mI (E:=E) P f [.dat .str s,.dat (.int .u8) c] [] [] [] ⟨eQ,.dat (.int .i64) (lO s c.toNat.toUInt8),[],[],[],[]⟩:=by
  intro s c w G args hP hB hS hv;obtain⟨u,us,he,h1,h2⟩:=hv.cons_inv;obtain⟨u2,VN,ZW,h3,h4⟩:=h2.cons_inv;have h4:VN=[]:=by simpa only[bO]using h4
  have e1:=h1.iQ;have e2:=h3.gD;subst e1 e2 h4 ZW;have ha:args=#[mkStr s,.int .u8 c]:=by apply VG;exact he
  subst ha;have hrun:(H3 f #[mkStr s,.int .u8 c]).run P w=.ok (.value (.int .i64 (lO s c.toNat.toUInt8))) w:=by rw[h,mkStr,Lib.run_indexByteString];rfl
  unfold lz;rw[hrun];exact⟨.int .i64 (lO s c.toNat.toUInt8),G,rfl,mj.refl w G,hB,hS,.int _ _ _ _,λ_ _ _ _=>rfl⟩
 intro x y hy;obtain⟨s,c⟩:=x;have hy:iN (lO s (eI c).toUInt8)=iN y:=hy;cases hy;exact key s c
def neF(F:Nat):O Unit:=iN ()
def neS(f:H4)(b:BT)(rows:J (aK×Nat)):dB:=⟨f,[.one (.ptr 0 0)],[b],rows,⟨.one (.ptr 0 0),[iF],rows.map λ_=>iF,[]⟩,iF,[]⟩
def neC(E:TEnv)(f:H4)(b:BT)(rows:J (aK×Nat)):bL E:=⟨neS f b rows,λ_=>iN ()⟩
theorem Re:∀(rows:J (aK×Nat))(g:J cU),g.length=rows.length->ez (rows.map λ_=>iF) g=g|[],[],_=>rfl|_::rows,x::g,h=>by have:=Re rows g (by simpa using h);simp only[jb,ez,this]
theorem aul{b:BT}{rows:J (aK×Nat)}(h:∀v w,(H3 f #[v]).run P w=.ok (.value v) w):(neC E f b rows).Ok P:=by
 intro x y _;intro w G args hP hB hS hv;have hv:bO E w G [.ptr 0 0] args.toList:=hv;obtain⟨u,us,he,h1,h2⟩:=hv.cons_inv;have h2:us=[]:=by simpa only[bO]using h2
 subst h2;have ha:args=#[u]:=by apply VG;exact he
 subst ha;show lz P f #[u] w _;unfold lz;rw[h];refine⟨u,G,rfl,mj.refl w G,?_,hS,h1,λ_ _ _ _=>rfl⟩;have e:ez (rows.map λ_=>iF) (neS f b rows).g0=(neS f b rows).g0:=Re rows _ (by simp[dB.g0,neS]);show mX E w G _ (ez (rows.map λ_=>iF) (neS f b rows).g0);rw[e];exact hB
def Xs(P:bw):Inv:=λf args w R=>(∀args w,(H3 f args).run P w=.ok (.enter f args) w)/\∀u,CallsD P f args u w (λe u' w'=>u'=u/\R e w')
def ak9(u:FrameMode)(v:R0):Prop:=(u=.returning/\v=.nilIface)\/u=.panicking [{v:=v,recovered:=eK}]
def Fj(P:bw):Inv:=λf apf w R=>(∀args w,(H3 f args).run P w=.ok (.enter f args) w) /\
 ∀(v:R0)(args:aJ R0)(u:FrameMode),apf.toList=v::args.toList->ak9 u v->CallsD P f args u w (λe u' w'=>settle u'=.returning/\R e w')
theorem Xs.mono(P:bw):(Xs P).adC:=λf args w R R' h hi=>⟨hi.1,λu=>(hi.2 u).mono λe u' w' hh=>⟨hh.1,h _ _ hh.2⟩⟩
theorem Fj.mono(P:bw):(Fj P).adC:=λf args w R R' h hi=>⟨hi.1,λv args u h1 h2=>(hi.2 v args u h1 h2).mono λe u' w' hh=>⟨hh.1,h _ _ hh.2⟩⟩
structure Dx(E:TEnv) where
 o:List (bL E)
 r:List (bL E)
structure Dx.Ok(P:Program)(D:Dx E):Prop where
 o:∀C∈D.o,C.IE (Xs P)
 r:∀C∈D.r,C.IE (Fj P)
def me:O (TV E)->J (H4×J (TV E))|none=>[]|some d=>[(0,[d])]
def anz:O (TV E)->TV E|none=>.val .nilIface|some d=>d
def Fk{R:Type}(D:Dx E)(k:O (TV E)->TS E->O R):J (H4×J (TV E))->O (TV E)->TS E->O R
 | [],m,st=>k m {st with df:=[]}
 | (f,ds)::df,m,st=>cond (dO f Cf) iF <| cond (D.r.any λC=>dO C.s.f f)
   (s7 {st with df:=df} iF f (anz m::ds) (jX (λst'=>Fk D k df iF st') λ_ _=>iF) D.r)
   (s7 {st with df:=df++me m} iF f ds (jX (λst'=>Fk D k df m st') λ_ _=>iF) D.o)
inductive Tj:Option (TV E)->List Deferred->FrameMode->Prop
 | ret:Tj iF [] .returning
 | nq (d:TV E) (v:R0):Tj (iN d) [{target:=.fn (.func 0) #[],args:=#[v]}] (.panicking [{v:=v,recovered:=eK}])
theorem lu.app{w:U}{G:bC}:∀ {a b:J Deferred}{x y:J (H4×J (TV E))},a.length=x.length->lu E w G (a++b) (x++y)->lu E w G a x/\lu E w G b y
 | [],b,[],y,_,h=>⟨trivial,h⟩|d::a,b,z::x,y,hl,h=>by obtain⟨h1,h2⟩:=h;obtain⟨h3,h4⟩:=lu.app (by simpa using hl) h2;exact⟨⟨h1,h3⟩,h4⟩
theorem lu.len{w:U}{G:bC}:∀ {a:J Deferred}{x:J (H4×J (TV E))},lu E w G a x->a.length=x.length|[],[],_=>rfl|_::a,_::x,h=>by simp[lu.len h.2]|[],_::_,h=>h.elim|_::_,[],h=>h.elim
def Fr.ajg(st:TS E)(y:J (H4×J (TV E)))(W:J Nat):Fr W eK st {st with df:=y}:=⟨rfl,λ_ _=>rfl,⟨[],rfl,λ_ _ _=>rfl⟩,eE _,λh=>nomatch h⟩
def Rel.Xt{y:J (H4×J (TV E))}{ds:J Deferred}(h:Rel E w0 G0 st a w G)(hd:lu E w G ds y):Rel E w0 G0 {st with df:=y} {a with defers:=ds} w G:=⟨h.fH,h.size,h.tmps,hd,h.boxes,h.fix,h.pins,h.gU⟩
theorem IM(hE:E.Ok){P:Program}{fn:Func}{D:Dx E}(hD:D.Ok P){R:Type}{k:Option (TV E)->TS E->Option R}{r:R}{w0:World}{G0:bC}{tmps:Array R0}{RR:Ending->World->Prop}:
  ∀(df:J (H4×J (TV E)))(m:Option (TV E))(st:TS E)(ds mv:J Deferred)(u:FrameMode)(w:World)(G:bC),Fk D k df m st=iN r->Sx ds=df.length ->
   Rel E w0 G0 {st with df:=df++me m} {tmps:=tmps,defers:=ds++mv} w G->Tj m mv u ->
   (∀(m':Option (TV E))(st':TS E)(mv':J Deferred)(u':FrameMode)(w':World)(G':bC),k m' {st' with df:=[]} = iN r->Rel E w0 G0 {st' with df:=me m'} {tmps:=tmps,defers:=mv'} w' G'->Tj m' mv' u'->Fr [] eK st st'->Leaves P fn tmps RR [] u' w') ->
   Leaves P fn tmps RR ds u w
 | [],m,st,ds,mv,u,w,G,h,hl,hr,hm,hk=>by
  have:ds=[]:=by simp_all
  subst this;exact hk m st mv u w G h hr hm (Fr.refl _ _ _)
 | (f,dv)::df,m,st,ds,mv,u,w,G,h,hl,hr,hm,hk=>by
  cases ds with
  | nil=>cases hl
  | cons d0 ds=>
  have hl':Sx ds=df.length:=by simpa using hl
  have iU:=hr.defers;obtain⟨hdo,asA⟩:=iU;simp[Fk]at h;cases aiW:dO f Cf<;>rw[aiW]at h<;>simp only[aQ,aI]at h
  rotate_left
  .cases h
  obtain⟨-,cap,anA,hargs⟩:=hdo.resolve_right (λhh=>by
   simp_all)
  have hu:u≠.run:=by cases hm<;>(intro e;cases e)
  have hinv:(∀args w,(H3 f args).run P w=.ok (.enter f args) w)->(invoke d0.target d0.args).run P w=.ok (.enter f (d0.args++cap)) w:=λhe=>by rw[anA];have:=he (d0.args++cap) w;simpa[invoke]using this
  cases hc:(D.r.any λC=>dO C.s.f f)<;>rw[hc]at h<;>simp at h
  .have fC:=hr.Xt asA;have hI:=Fh hE (Xs.mono P) hD.o h w0 G0 _ w G (d0.args++cap) fC hargs;refine⟨hu,.func f,cap,f,d0.args++cap,anA,hinv hI.1,(hI.2 u).mono λe u' w' hh=>?_⟩;obtain⟨rfl,hh⟩:=hh;rcases hh with⟨v,st',G',rfl,hR,hkk,hF⟩|⟨x,st',hne,hkk⟩
   .have nX:settle u'=u':=by cases hm<;>rfl
    show Leaves P fn tmps RR ds (settle u') w';rw[nX];have hdf:st'.df=df++me m:=hF.df rfl;have hR':Rel E w0 G0 {st' with df:=df++me m} {tmps:=tmps,defers:=ds++mv} w' G':=by rw[<-hdf];exact hR
    refine IM hE hD df m st' ds mv u' w' G' hkk hl' hR' hm λm' J2 mv' u2 w2 G2 h1 h2 h3 oN=>hk m' J2 mv' u2 w2 G2 h1 h2 h3 ?_;exact((Fr.ajg st (df++me m) []).trans hF (n:=eK) (λ_ h=>h) (λ_ h=>h) (λh=>nomatch h)).trans oN (λ_ h=>h) (λ_ h=>h) (λh=>nomatch h)
   grind
  .obtain⟨hd1,hd2⟩:=lu.app hl' asA;have fC:=hr.Xt hd1;have hv:∃v,ak9 u v/\VT E w G (anz m) v:=by
    cases hm with
    | ret=>exact⟨.nilIface,.inl ⟨rfl,rfl⟩,by simp[anz,VT]⟩|nq d v=>refine⟨v,.inr rfl,?_⟩;obtain⟨anB,-⟩:=hd2;obtain⟨-,cap',ht',jU⟩:=anB.resolve_right (λhh=>absurd (show(0:Nat)=Cf from hh.1) de);obtain⟨u1,us,he,h1,-⟩:=jU.cons_inv;simp at he;obtain⟨rfl,-⟩:=he;exact h1
   obtain⟨v,hmo,hvt⟩:=hv
   have hI:=Fh hE (Fj.mono P) hD.r h w0 G0 _ w G (#[v]++(d0.args++cap)) fC (by
    have:(#[v]++(d0.args++cap)).toList=v::(d0.args++cap).toList:=by simp
    rw[this];exact .cons hvt hargs)
   refine⟨hu,.func f,cap,f,d0.args++cap,anA,hinv hI.1,(hI.2 v (d0.args++cap) u si hmo).mono λe u' w' hh=>?_⟩;obtain⟨nX,hh⟩:=hh;rcases hh with⟨v,st',G',rfl,hR,hkk,hF⟩|⟨x,st',hne,hkk⟩
   .show Leaves P fn tmps RR ds (settle u') w';rw[nX];have hdf:st'.df=df:=hF.df rfl;have hR':Rel E w0 G0 {st' with df:=df++me iF} {tmps:=tmps,defers:=ds++[]} w' G':=by simp[me];rw[<-hdf];exact hR
    refine IM hE hD df iF st' ds [] .returning w' G' hkk hl' hR' .ret λm' J2 mv' u2 w2 G2 h1 h2 h3 oN=>hk m' J2 mv' u2 w2 G2 h1 h2 h3 ?_;exact((Fr.ajg st df []).trans hF (n:=eK) (λ_ h=>h) (λ_ h=>h) (λh=>nomatch h)).trans oN (λ_ h=>h) (λ_ h=>h) (λh=>nomatch h)
   grind
