import Derived.Test.YtkmlndnhiboofaaGreatDoorRf
import Derived.Sort.Row
import Derived.OrdersHeld
import Derived.Lib.ConvBytes
import Derived.Scope
import Derived.Lib.Bytealg
import Derived.Recover
open Option renaming some->W0,none->WP
open Bool renaming true->WF,false->UV
open Decidable renaming decide->T1
open Int renaming toNat->Ts
open Nat renaming beq->ST,blt->So
open Go.IntKind renaming wrap->Sx
open List renaming range->R0
set_option linter.all false
namespace Go.RT
variable {E : TEnv}
def zF(E:TEnv)(w:U)(G:bx)(r:aaT E)(e:Ending)(w':U):Prop:=
 ∃v G',e=Di r.ok v/\kT w G w' G'/\lW E w' G' r.H r.g/\kN E w' G' r.c/\VT E w' G' r.d v/\∀(q b:Nat),G.i[q]? = W0 b->q∉r.D->w'.heap[b]? = w.heap[b]?
def Inv:=FuncId->aJ Value->U->(Ending->U->Prop)->Prop
def Inv.aa3(I:Inv):Prop:=∀f args w (R R':Ending->U->Prop),(∀e w',R e w'->R' e w')->I f args w R->I f args w R'
def AGC(E:TEnv)(I:Inv)(f:FuncId)(ds:J (TV E))(H:J (fK E))(gs:J cL)(cs:J (Nat×Cn E))(r:aaT E):Prop:=
 ∀(w:U)(G:bx)(args:aJ Value),qf E w G->lW E w G H gs->kN E w G cs->bI E w G ds args.toList->I f args w (zF E w G r)
def bJ.GY(I:Inv)(C:bJ E):Prop:=
 ∀x y,C.m x=W0 y->AGC E I C.s.f (C.s.ds (aR C.s.tys x)) (C.s.H (aR C.s.tys x)) C.s.g0 (C.s.c (aR C.s.tys x)) (gY C.s (C.s.H (aR C.s.tys x)) C.s.lY y)
variable{st:TS E}
theorem DP(hE:E.Ok){I:Inv}(hI:I.aa3){R:Type}{f:FuncId}{ds:J (TV E)}{dst:Option Nat}{k:Ex E->TS E->Option R}{r:R}:
  ∀ {Γ:J (bJ E)},(∀C∈Γ,C.GY I)->rG st dst f ds k Γ=W0 r->∀(w0:World)(G0:bx)(a:Act)(w:World)(G:bx)(args:Array Value),Rel E w0 G0 st a w G->bI E w G ds args.toList ->
   I f args w (λe w'=>(∃v st' G',e=.returned v/\Rel E w0 G0 st' (a.put dst v) w' G'/\k .normal st'=W0 r/\Fr (iL dst) WF st st')\/∃x st',x≠.normal/\k x st'=W0 r)
 | [],_,h=>by cases h
 | C::Γ,hΓ,h=>by
  have fB:rG st dst f ds k Γ=W0 r->_:=DP hE hI (λC' hC=>hΓ C' (by simp[hC]));simp[rG]at h;cases hf:ST C.s.f f<;>rw[hf]at h<;>simp at h
  ·exact fB h
  have hf:=eM hf;obtain⟨Uu,jK,hhs⟩:∃Uu jK,y9 C.s.args ds st=(Uu,jK):=⟨_,_,rfl⟩;rw[hhs]at h;split at h
  ·rename_i ls hls
   split at h
   ·rename_i xx hxx
    generalize Cb:qY (C.s.ek jK Uu).b=bs at *;generalize hgs:qY (C.s.ek jK Uu).g=gs at *;obtain⟨hwf,h⟩:=dX h
    cases hm:C.m xx with
    | none=>rw[hm]at h;cases h
    | some y=>
     intro w0 G0 a w G0' args hr Ov;obtain⟨Qp,G,eX,Bj,hvs⟩:=Oq C.s.args ds hr;have hargs:=hvs _ Ov;rw[hhs]at eX hargs Qp;have hr:=eX
     have hnd:bs.Nodup/\gs.Nodup/\bs.length=C.s.boxes.length/\C.s.rows.length=gs.length:=by
      unfold di.enter at hls;split at hls<;>try trivial
      rename_i H g hH hg;cases o9:(wJ bs&&(wJ gs&&(ST bs.length C.s.boxes.length&&zY C.s.rows g)))<;>rw[o9]at hls<;>simp only[aY]at hls
      ·cases hls
      simp only[cH]at o9;exact⟨wK o9.1,wK o9.2.1,eM o9.2.2.1,by rw[(Dj o9.2.2.2).1,(rZ hg).1]⟩
     obtain⟨is,gg,hi,Bg,hB,hS,hV⟩:=hr.enter hE hls hargs;have hput:=DK _ hxx;have hok:=hΓ C si xx y hm w (G.ek is gg) args (hr.Us.ek hi Bg) (by rw[hput];exact hB) (by rw[hput];exact hS) (by rw[hput];exact hV);have hg0:=hB.gs
     have hwf':∀(q:Outs),q.wf bs.length gs.length=WF->zZ bs.length q.boxes=WF/\gs.length<=q.rows.length:=λq hq=>by
      simp_all[Outs.wf]
     unfold di.wf at hwf;rw[cH]at hwf
     have Ow:∀(y:dens E C.s.out.tys)(e:Ending)(w':World),okK C.s.out bs gs jK dst k y=W0 r ->
       zF E w (G.ek is gg) (C.s.out.mO WF (C.s.H (aR C.s.tys xx)) C.s.g0 (aR C.s.out.tys y)) e w' ->
       ∃v st' G',e=.returned v/\Rel E w0 G0 st' (a.put dst v) w' G'/\k .normal st'=W0 r/\Fr (iL dst) WF st st':=by
      rintro y e w' hk ⟨v1,G',he,hE,Uw,Ux,Uy,Lv⟩;subst he;obtain⟨hs1,hs2⟩:=hwf' _ hwf.1;rw[<-hg0]at Uw Ux Uy;obtain⟨Gn,hR,hval⟩:=hr.leave hi Bg hnd.1 hnd.2.1 C.s.out hs1 hs2 hE Uw Ux Uy Lv;exact⟨v1,_,Gn,rfl,hR.put hval dst,hk,(C.s.out.SE bs gs jK _ dst _).ofC Qp⟩
     have fin:∀(p:Option Outs)(hp:C.s.lY=p)(y:OutP E C.s.out p),aa1 C.s bs gs jK dst k p y=W0 r->I f args w (zF E w (G.ek is gg) (gY C.s (C.s.H (aR C.s.tys xx)) p y)) ->
       I f args w (λe w'=>(∃v st' G',e=.returned v/\Rel E w0 G0 st' (a.put dst v) w' G'/\k .normal st'=W0 r/\Fr (iL dst) WF st st')\/∃x st',x≠.normal/\k x st'=W0 r):=by
      intro p hp y hk hi;refine hI _ _ _ _ _ (λe w' hR=>?_) hi
      cases p with
      | none=>exact .inl (Ow y e w' hk hR)
      | some q=>
       cases y with
       | inl y=>exact .inl (Ow y e w' hk hR)
       | inr y=>exact .inr ⟨.panic (q.val bs gs jK (aR q.tys y)),_,(λh=>nomatch h),hk⟩
     grind
   ·exact fB h
  ·exact fB h
def Wo(E:TEnv)(P:bh):Inv:=λf args w R=>∀(Y:YD)(fn l D:Nat)(xs tmps:aJ Value),E.yd f Y->args=xs++tmps->xs.size=Y.params.size ->
 w.heap[l]? = W0 (.loop ⟨.ready,WP,fn,tmps,Y.params,Y.assign,Y.body,D⟩)->RoundIn Fence.wide 0 P l fn ((Y.params.zip xs).foldl (λt (p,v)=>t.setIfInBounds p v) tmps) Y.assign Y.body w R
theorem Wo.mono(P:bh):(Wo E P).aa3:=λf args w R R' h hi Y fn l D xs tmps h1 h2 h3 h4=>(hi Y fn l D xs tmps h1 h2 h3 h4).mono h
def asp{E:TEnv}(P:bh)(Y:J (bJ E)):Prop:=∀C∈Y,C.GY (Wo E P)
structure Tt(P:Program)(f:FuncId):Prop where
 enters:∀args w,(callFunc f args).run P w=.ok (.enter f args) w
 call:∀(blk cap:Nat)(zs:List Int)(w:World),Sort.Holds (Value.int .u8) w blk 0 zs.toArray->zs.length<=9223372036854775807->Calls P f #[.slice (W0 ⟨blk,0,WP⟩) zs.length cap] w λe w'=>
  e=.returned (.tuple #[])/\∃n,w'=Sort.putRow (Value.int .u8) (Sort.ahead w n) blk 0 zs.reverse.toArray
structure Cx(E:TEnv) where
 P:Program
 ty:TypeId->Option Ty
 Γ:List (bJ E)
 Y:List (bJ E):=[]
 rv:Option FuncId:=WP
structure Cx.Ok(X:Cx E):Prop where
 E:E.Ok
 Γ:∀C∈X.Γ,C.Ok X.P
 mix:X.P.follows .mixedOrders=WF
 Y:asp X.P X.Y:=by exact λ_ h=>nomatch h
 rv:∀f,X.rv=W0 f->Tt X.P f:=by exact λ_ h=>nomatch h
variable{P:bh}
theorem Rc:∀f,(WP:Option FuncId)=W0 f->Tt P f:=λ_ h=>nomatch h
theorem rvS{g:FuncId}(h:Tt P g):∀f,W0 g=W0 f->Tt P f:=λ_ e=>by cases e;exact h
def dec(l:J UInt8)(p:Nat):Nat×Nat:=Utf8.decode ⟨⟨l⟩⟩ p
def al9(P:bh)(src dst t:aK)(n:Nat):Bool:=match P.underlying src,P.underlying dst with
 | some (.pointer e),W0 .unsafePointer=>(match P.info? e with|some j=>!(ST j.size 0)|none=>UV)&&So 0 n
 | some .unsafePointer,W0 (.pointer u)=>(match P.info? u with|some _=>WF|none=>UV)&&liesAt P P.depth t (n / P.cellsOf t) 0 u 1
 | _,_=>UV
def Qr(st:TS E):Op->Bool
 | .move _=>WF
 | .assign _=>WF
 | .unOp _ _ _=>WF
 | .field _ _ _=>WF
 | .fieldAddr _ _ _=>WF
 | .load _ _=>WF
 | .nilCheck _=>WF
 | .extract _ _=>WF
 | .alloc _=>WF
 | .binOp op _ x y _=>match op with
  | .quo=>isConst y
  | .rem=>isConst y
  | .shl=>isConst y
  | .shr=>isConst y
  | .add=>match st.ev x with
   | .dat (.int _) _=>WF
   | _=>UV
  | _=>WF
 | .convert _ _ x=>match st.ev x with
  | .dat (.int _) _=>WF
  | _=>UV
 | _=>UV
abbrev ZH{α:Type}(b:Bool)(x y:α):α:=match b with
 | true=>x
 | false=>y
theorem akn{α:Type}(b:Bool)(x y:α):ZH b x y=cond b x y:=by cases b<;>rfl
abbrev rqP{R:Type}(pl c:Bool)(k:O R):O R:=match pl with
 | true=>match c with
  | true=>k
  | false=>WP
 | false=>rq c k
variable{R:Type}
theorem GZ{pl c:Bool}{k:O R}{r:R}(h:rqP pl c k=W0 r):c=WF/\k=W0 r:=by
 grind[dX]
noncomputable def agree{R:Type}(a b:O R):O R:=@ite _ (a=b) (Classical.propDecidable _) a WP
theorem Br{a b:O R}{r:R}(h:agree a b=W0 r):a=W0 r/\b=W0 r:=by
 unfold agree at h
 grind
theorem LA(a:O R):agree a a=a:=by simp_all[agree]
theorem ah5{t e:aK}(eB:P.underlying t=W0 (.slice e))(ad:O Addr)(n c:Nat)(hn:ad=WP->n=0/\c=0)(x y:dB)(op:BinOp)(hop:op=.eql\/op=.neq)(w:U):
  (do eqGuard op t x y (.slice ad n c) (.slice WP 0 0);binOp op t (.slice ad n c) (.slice WP 0 0)).run P w=.ok (.bool (Fq op ad.isNone)) w:=by
 have h1:(eqGuard op t x y (.slice ad n c) (.slice WP 0 0)).run P w=.ok () w:=by rcases hop with rfl|rfl<;>rfl
 have h3:binOp op t (.slice ad n c) (.slice WP 0 0)=(do let r <-Op.equal t (.slice ad n c) (.slice WP 0 0);pure (.bool (Fq op r))):=by rcases hop with rfl|rfl<;>rfl
 have h2:∀d,(Op.equalIn (d+1) t (.slice ad n c) (.slice WP 0 0)).run P w=.ok ad.isNone w:=by
  cases ad with
  | none=>
   simp[Op.equalIn,aS eB]
  | some a=>simp[Op.equalIn,aS eB]
 simp[h1,h3,Op.equal,Op.maxDepth,h2 9999]
noncomputable def XY{R:Type}(X:Cx E)(st:TS E)(o:Oper)(k:Ex E->TS E->Option R):Option R:=
 match Um X.P X.ty st o.op with
 | some (c,d)=>rqP (Qr st o.op) c (k .normal {st with t:=cz st.t o.dst d})
 | none=>match aaN X.P X.ty st o.dst o.op with
  | some (c,st')=>rqP (Qr st o.op) c (k .normal st')
  | none=>match o.op with
   | .pick c x y=>match st.ev c with
    | .dat .bool b=>cond b (k .normal {st with t:=cz st.t o.dst (st.ev x)}) (k .normal {st with t:=cz st.t o.dst (st.ev y)})
    | _=>WP
   | .call c=>match c.callee with
    | .value x=>match st.ev x with
     | .func (.func f) caps=>rG st o.dst f (c.args.toList.map st.ev++caps) k X.Γ
     | .GN (.func f) fs=>rG st o.dst f (fs++c.args.toList.map st.ev) k X.Γ
     | _=>WP
    | _=>WP
   | .defer c=>match c.callee with
    | .value x=>match st.ev x with
     | .func (.func f) caps=>cond (ST f AZ) WP (k .normal {st with t:=cz st.t o.dst .any,df:=(f,c.args.toList.map st.ev++caps)::st.df})
     | _=>WP
    | _=>WP
   | .panic x=>match st.ev x with
    | .iface t d=>k (.panic (.iface t d)) st
    | _=>WP
   | .range t x=>match aV X.P t,st.ev x with
    | some ⟨.string,_,_,_⟩,.dat .str l=>k .normal {st with t:=cz st.t o.dst (.ptr st.H.length 0),H:=st.H++[.iter l 0]}
    | _,_=>WP
   | .next x s=>cond s (match st.ev x with
    | .ptr r 0=>match st.H[r]? with
     | some (.iter l p)=>cond (So p l.length)
       (k .normal {st with t:=cz st.t o.dst (.tuple [.dat .bool WF,.dat (.int .i64) (p:Int),.dat (.int .i32) ((dec l p).1:Int)]),H:=st.H.set r (.iter l (p+(dec l p).2)),d:=r::st.d})
       (k .normal {st with t:=cz st.t o.dst (.tuple [.dat .bool UV])})
     | _=>WP
    | _=>WP) WP
   | .convert src dst x=>match st.ev x with
    | .ptr r 0=>match st.H[r]? with
     | some (.cells t cs)=>rq (al9 X.P src dst t cs.length) (k .normal {st with t:=cz st.t o.dst (.ptr r 0)})
     | _=>WP
    | _=>WP
   | .binOp op t x y _=>match aV X.P t,st.ev x,st.ev y with
    | some ⟨.slice _,_,_,_⟩,.dat (.bq T) xs,.val (.slice WP 0 0)=>rq (So 0 (T.size E)) (match op with
     | .eql=>cond xs.isEmpty (agree (k .normal {st with t:=cz st.t o.dst (.dat .bool WF)}) (k .normal {st with t:=cz st.t o.dst (.dat .bool UV)})) (k .normal {st with t:=cz st.t o.dst (.dat .bool UV)})
     | .neq=>cond xs.isEmpty (agree (k .normal {st with t:=cz st.t o.dst (.dat .bool UV)}) (k .normal {st with t:=cz st.t o.dst (.dat .bool WF)})) (k .normal {st with t:=cz st.t o.dst (.dat .bool WF)})
     | _=>WP)
    | _,_,_=>WP
   | _=>WP
def Fw:Op->Bool
 | .defer _=>WF
 | _=>UV
variable{X:Cx E}{o:Oper}{a:Act}{w:U}{k:Ex E->TS E->O R}{t:Nat}{w0:U}{G0:bx}{n1 n2:Act->U->Prop}{G:bx}{all:aJ Oper}{j:Nat}
theorem Ox(hX:X.Ok){r:R}(h:XY X st o k=W0 r):CQ X.P o (iL o.dst) (!(Fw o.op)) st (λx st'=>k x st'=W0 r):=by
 unfold XY at h;split at h
 ·rename_i pc pd hp
  obtain⟨h1,h2⟩:=GZ h;exact CQ.Ge (λw0 G0 a w G hr=>(Rw hX.E hr hp h1).aj6 hr) h2 ((Fr.put st o.dst pd).wide (λi h=>h) (λ_=>rfl))
 ·split at h
  ·rename_i pc pd hp
   obtain⟨h1,h2⟩:=GZ h;exact CQ.Ge (λw0 G0 a w G hr=>af2 hX.E hr hp h1) h2 ((am3 hp).wide (λi h=>h) (λ_=>rfl))
  ·split at h<;>try trivial
   ·rename_i c x y ho
    split at h<;>try trivial
    rename_i b hb;intro w0 G0 a w G hr;have hv:=hr.ev c;rw[hb]at hv;have hv:=hv.mu
    have hrun:(execOp a.eval o).run X.P w=.ok (.value (if b then a.eval x else a.eval y)) w:=by
     simp[execOp,ho,hv,asBool]
    unfold Oper.wp;rw[hrun];cases b<;>simp only[aY,aM]at h
    ·exact⟨_,G,hr.put (hr.ev y) o.dst,h,(Fr.put st o.dst _).wide (λi h=>h) (λ_=>rfl)⟩
    ·exact⟨_,G,hr.put (hr.ev x) o.dst,h,(Fr.put st o.dst _).wide (λi h=>h) (λ_=>rfl)⟩
   ·rename_i c ho
    split at h<;>try trivial
    rename_i x hc;split at h<;>try trivial
    ·rename_i f caps hx
     have:=adg hX.E (P:=X.P) ho hc hx hX.Γ h;rw[ho];exact this
    ·rename_i f caps hx
     have:=adh hX.E (P:=X.P) ho hc hx hX.Γ h;rw[ho];exact this
   ·rename_i c ho
    split at h<;>try trivial
    rename_i x hc;split at h<;>try trivial
    rename_i f caps hx;cases af8:ST f AZ<;>rw[af8]at h<;>simp only[aY,aM]at h
    rotate_left
    ·cases h
    intro w0 G0 a w G hr;have hv:=hr.ev x;rw[hx]at hv;simp only[VT]at hv;obtain⟨cv,GR,Qq⟩:=hv
    have hrun:(execOp a.eval o).run X.P w=.ok (.defer {target:=.fn (.func f) cv,args:=c.args.map a.eval}) w:=by
     simp[execOp,ho,resolve,hc,GR,Deferred.ofValue]
    unfold Oper.wp;rw[hrun]
    have hargs:bI E w G (c.args.toList.map st.ev++caps) (c.args.map a.eval++cv).toList:=by
     have:=(Ot hr c.args.toList).append Qq;simpa using this
    have eX:Rel E w0 G0 {st with df:=(f,c.args.toList.map st.ev++caps)::st.df} {a with defers:={target:=.fn (.func f) cv,args:=c.args.map a.eval} :: a.defers} w G:=
     ⟨hr.ff,hr.size,hr.tmps,⟨.inl ⟨af8,cv,rfl,hargs⟩,hr.defers⟩,hr.boxes,hr.fix,hr.pins,hr.gv⟩
    refine⟨_,G,eX.put (d:=.any) (by simp only[VT]) o.dst,h,?_⟩;exact⟨Lx _ _ _,λi hi=>IE _ _ _ _ hi,⟨[],rfl,λ_ _ _=>rfl⟩,eu _,λhh=>by rw[ho]at hh;cases hh⟩
   ·rename_i x ho
    split at h<;>try trivial
    rename_i t d hx;intro w0 G0 a w G hr;have hv:=hr.ev x;rw[hx]at hv;have hv0:=hv;simp only[VT]at hv;obtain⟨u,hu,-⟩:=hv
    have hrun:(execOp a.eval o).run X.P w=.halt (.panic (a.eval x)) w:=by
     simp[execOp,ho,Instr.panic,hu,goPanic]
    unfold Oper.wp;rw[hrun];exact⟨.panic (.iface t d),st,G,⟨a.eval x,rfl,hv0⟩,hr,(λh=>nomatch h),h,Fr.refl _ _ _⟩
   ·rename_i t x ho
    split at h<;>try trivial
    rename_i j1 j2 z l ht hd;refine CQ.Ge (λw0 G0 a w G hr=>?_) h ?_
    ·have hv:=hr.ev x
     rw[hd]at hv;obtain⟨xt,jU,eB,-⟩:=aP ht;refine JA hr (ob:=.stringIter ⟨⟨l⟩⟩ 0) (x:=.iter l 0) (heap_alloc_new w _) ?_;simp only[execOp,ho,hv.iq,Instr.range,mkStr,jm,aS eB,jL,pz];rfl
    ·exact(Fr.mem st o.dst _ _ st.g [] (Lz _ _) si).wide (λi h=>h) (λ_=>rfl)
   ·rename_i x s ho
    cases s<;>simp only[aY,aM]at h
    ·cases h
    split at h<;>try trivial
    rename_i r hd;split at h<;>try trivial
    rename_i l p hb;cases hlt:So p l.length<;>rw[hlt]at h<;>simp only[aY,aM]at h
    ·refine CQ.Ge (λw0 G0 a w G hr=>?_) h ((Fr.put st o.dst _).wide (λi h=>h) (λ_=>rfl))
     have hv:=hr.ev x;rw[hd]at hv;simp only[VT]at hv;obtain⟨b,he,hat⟩:=hv;have hheap:w.heap[b]? = W0 (.stringIter ⟨⟨l⟩⟩ p):=hr.box hat hb
     have hlt':¬ p<(ByteArray.mk ⟨l⟩).size:=λhh=>by
      have:So p l.length=WF:=by rw[So,Zp];exact hh
      simp_all
     have hrun:(execOp a.eval o).run X.P w=.ok (.value (.tuple #[.bool UV])) w:=by
      have Bj:(getObj b).run X.P w=.ok (.stringIter ⟨⟨l⟩⟩ p) w:=by simp only[getObj,Sem.run,hheap]
      simp only[execOp,ho,Instr.next,he,jm,Bj,jL,hlt',Nz,pz]
     refine⟨_,_,w,G,hrun,.inl rfl,hr.put ?_ o.dst⟩;simp only[VT];exact⟨_,rfl,.cons (.bool _ _ _) (by simp only[bI])⟩
    ·refine CQ.Ge (λw0 G0 a w G hr=>?_) h ((Fr.mem st o.dst _ _ st.g [r] (CP _ _ _) si).wide (λi h=>h) (λ_=>rfl))
     have hv:=hr.ev x;rw[hd]at hv;simp only[VT]at hv;obtain⟨b,he,hat⟩:=hv;have hheap:w.heap[b]? = W0 (.stringIter ⟨⟨l⟩⟩ p):=hr.box hat hb;have hlt':p<(ByteArray.mk ⟨l⟩).size:=by rw[So,Zp]at hlt;exact hlt
     let w':World:={w with heap:=w.heap.setIfInBounds b (.stringIter ⟨⟨l⟩⟩ (p+(dec l p).2))}
     have Es:∀b',b'≠b->w'.heap[b']? = w.heap[b']?:=λb' hb'=>by
      grind
     have hnew:w'.heap[b]? = W0 (.stringIter ⟨⟨l⟩⟩ (p+(dec l p).2)):=by
      grind
     have hrun:(execOp a.eval o).run X.P w=.ok (.value (.tuple #[.bool WF,.int .i64 p,.int .i32 (dec l p).1])) w':=by
      have Bj:(getObj b).run X.P w=.ok (.stringIter ⟨⟨l⟩⟩ p) w:=by simp only[getObj,Sem.run,hheap]
      have hso:(setObj b (.stringIter ⟨⟨l⟩⟩ (p+(Utf8.decode ⟨⟨l⟩⟩ p).2))).run X.P w=.ok () w':=by
       simp only[setObj,Sem.run,hheap];rfl
      simp only[execOp,ho,Instr.next,he,jm,Bj,jL,hlt',if_true,hso,pz,goInt,dec]
     have hR:=hr.yZ (w':=w') hat (by simp[w']) rfl rfl rfl Es (x:=.iter l (p+(dec l p).2)) (λ_=>hnew);refine⟨_,_,w',G,hrun,.inl rfl,hR.put (d:=.tuple [.dat .bool WF,.dat (.int .i64) (p:Int),.dat (.int .i32) ((dec l p).1:Int)]) ?_ o.dst⟩;simp only[VT];exact⟨_,rfl,.cons (.bool _ _ _) (.cons (.int _ _ _ _) (.cons (.int _ _ _ _) (by simp only[bI])))⟩
   ·rename_i src dst x ho
    split at h<;>try trivial
    rename_i r hd;split at h<;>try trivial
    rename_i t cs hb;obtain⟨hc,h⟩:=dX h;refine CQ.Ge (λw0 G0 a w G hr=>?_) h ((Fr.put st o.dst _).wide (λi h=>h) (λ_=>rfl));have hv:=hr.ev x;rw[hd]at hv;have hv0:=hv;simp only[VT]at hv;obtain⟨b,he,hat⟩:=hv;obtain⟨vs,hh,hone,hvs⟩:=hr.box hat hb;have hsz:vs.size=cs.length:=by simpa using hvs.length
    have hsh:w.shape? b=W0 (t,cs.length):=by simp[World.shape?,hh,hsz]
    have hrun:(convert src dst (.pointer (W0 ⟨b,0,WP⟩))).run X.P w=.ok (.pointer (W0 ⟨b,0,WP⟩)) w:=by
     unfold al9 at hc;split at hc
     ·rename_i e hs hdd
      rw[cH]at hc;obtain⟨h1,h2⟩:=hc;split at h1
      ·rename_i j hj
       refine Lib.run_to_unsafe (j:=j) w ⟨b,0,WP⟩ hs hdd hj (λh0=>?_) hsh ?_
       ·rw[h0]at h1;cases h1
       simp_all
      ·cases h1
     ·rename_i u hs hdd
      grind[Lib.run_from_unsafe]
     ·cases hc
    refine⟨.value (.pointer (W0 ⟨b,0,WP⟩)),_,w,G,?_,.inl rfl,hr.put (v:=.pointer (W0 ⟨b,0,WP⟩)) (d:=.ptr r 0) ?_ o.dst⟩
    ·simp only[execOp,ho,he,jm,hrun,jL,pz]
    simp_all
   ·rename_i op t x y yt ho
    split at h<;>try trivial
    rename_i e j1 j2 z T xs ht hx hy;obtain⟨hk0,h⟩:=dX h;have hk0:0<T.size E:=by simp_all
    obtain⟨xt,jU,eB,-⟩:=aP ht;have hop:op=.eql\/op=.neq:=by grind
    have key:(xs=[]->k .normal {st with t:=cz st.t o.dst (.dat .bool (Fq op WF))} = W0 r)/\k .normal {st with t:=cz st.t o.dst (.dat .bool (Fq op UV))} = W0 r:=by
     rcases hop with rfl|rfl<;>cases xs<;>simp only[List.isEmpty_nil,List.isEmpty_cons,aY,aM]at h
     ·exact⟨λ_=>(Br h).1,(Br h).2⟩
     ·exact⟨(λe=>by cases e),h⟩
     ·exact⟨λ_=>(Br h).1,(Br h).2⟩
     ·exact⟨(λe=>by cases e),h⟩
    clear h;intro w0 G0 a w G hr;have hv:=hr.ev x;rw[hx]at hv;have Cc:=hr.ev y;rw[hy]at Cc;simp only[VT]at Cc;have hd:=(hv.atom rfl).tN;obtain⟨cs,hfl,zE⟩:=VD.flat hk0 hd
    have hsh:∃ad n c,a.eval x=.slice ad n c/\(ad=WP->n=0/\c=0/\xs=[]):=by
     rcases zE with⟨ad,he,hn⟩|⟨b,off,cap,he,hcap,hcells⟩
     ·exact⟨ad,0,0,he,λ_=>⟨rfl,rfl,by simpa using hn⟩⟩
     grind
    obtain⟨ad,n,c,he,hn⟩:=hsh
    have hrun:(execOp a.eval o).run X.P w=.ok (.value (.bool (Fq op ad.isNone))) w:=by
     have hq:=ah5 (P:=X.P) eB ad n c (λe=>⟨(hn e).1,(hn e).2.1⟩) x y op hop w;have hx:execOp a.eval o=(do let z <- (do eqGuard op t x y (a.eval x) (a.eval y);binOp op t (a.eval x) (a.eval y));pure (.value z)):=by simp[execOp,ho]
     rw[hx,he,Cc,jm,hq];rfl
    unfold Oper.wp;rw[hrun];refine⟨_,G,hr.put (d:=.dat .bool (Fq op ad.isNone)) (.bool _ _ _) o.dst,?_,(Fr.put st o.dst _).wide (λi h=>h) (λ_=>rfl)⟩
    cases ad with
    | none=>exact key.1 (hn rfl).2.2
    | some _=>exact key.2
def kU(all:aJ Oper)(o:Oper):J Nat:=match o.guard with
 | some (j,_)=>match (all[j]?).bind (·.dst)with
  | some t=>[t]
  | none=>[]
 | none=>[]
def eN(all:aJ Oper):J Oper->J Nat
 | []=>[]
 | o::os=>iL o.dst++(kU all o++eN all os)
def cD:J Oper->Bool
 | []=>WF
 | o::os=>!(Fw o.op)&&cD os
abbrev jC{R:Type}(k1:TS E->O R)(k:Ex E->TS E->O R):Ex E->TS E->O R
 | .normal,st=>k1 st
 | e,st=>k e st
noncomputable def uo{R:Type}(X:Cx E)(all:aJ Oper):J Oper->TS E->(Ex E->TS E->O R)->O R
 | [],st,k=>k .normal st
 | o::rest,st,k=>match o.guard with
  | none=>XY X st o (jC (λst'=>uo X all rest st' k) k)
  | some (j,want)=>match (all[j]?).bind (·.dst)with
   | some t=>match st.at t with
    | .dat .bool b=>cond b
      (ZH want (XY X {st with t:=st.t.set t (.dat .bool WF)} o (jC (λst'=>uo X all rest st' k) k))
       (uo X all rest {st with t:=cz (st.t.set t (.dat .bool WF)) o.dst (.val undef)} k))
      (ZH want (uo X all rest {st with t:=cz (st.t.set t (.dat .bool UV)) o.dst (.val undef)} k)
       (XY X {st with t:=st.t.set t (.dat .bool UV)} o (jC (λst'=>uo X all rest st' k) k)))
    | .val (.bool _)=>WP
    | .val _=>uo X all rest {st with t:=cz st.t o.dst (.val undef)} k
    | _=>WP
   | none=>WP
theorem cK.mono{Q Q':Ex E->TS E->Prop}(h:∀x s,Q x s->Q' x s){e:Exit}(hp:cK E w0 G0 Q e a w):cK E w0 G0 Q' e a w:=by
 obtain⟨x,s,G,h1,h2,h3⟩:=hp;exact⟨x,s,G,h1,h2,h _ _ h3⟩
theorem pW{a:Act}{w:U}{Q1 Q2:Exit->Act->U->Prop}(hn:∀a w,n1 a w->n2 a w)(hq:∀e a w,Q1 e a w->Q2 e a w)(h:o.wp P a w n1 Q1):o.wp P a w n2 Q2:=by
 have hout:LetsOut Q1->LetsOut Q2:=λ⟨a,w,h⟩=>⟨a,w,hq _ _ _ h⟩;unfold Oper.wp at *;generalize(execOp a.eval o).run P w=r at *
 cases r with
 | ok n w'=>
  cases n<;>simp[Oper.upon]at h⊢
  case value u=>exact hn _ _ h
  case skip=>exact hn _ _ h
  case defer d=>exact hn _ _ h
  case enter f args=>
   grind[Calls.mono]
  grind[Rows.mono]
 | halt x w'=>
  cases x<;>simp[Oper.upon]at h⊢
  simp_all
theorem JH(hr:Rel E w0 G0 st a w G){want b:Bool}(hg:o.guard=W0 (j,want))(ht:(all[j]?).bind (·.dst)=W0 t)(hb:st.at t=.dat .bool b):
  Region.wanted o (yielded all a.tmps)=(b==want)/\a.tmps[t]? = W0 (.bool b):=by
 have hv:=hr.at t;rw[hb]at hv;have hv:=hv.mu
 have hlt:t<st.t.length:=by
  grind[TS.at]
 have h2:a.tmps[t]? = W0 (.bool b):=by
  have:t<a.tmps.size:=by rw[hr.size];exact hlt
  simp_all
 unfold Region.wanted yielded
 simp_all
theorem LB(hr:Rel E w0 G0 st a w G){want:Bool}{u:Value}(hg:o.guard=W0 (j,want))(ht:(all[j]?).bind (·.dst)=W0 t)(hb:st.at t=.val u)(hu:∀b,u≠.bool b):
  Region.wanted o (yielded all a.tmps)=UV:=by
 have hv:=hr.at t;rw[hb]at hv;simp[VT]at hv
 have hlt:t<st.t.length:=by
  grind[TS.at]
 have h2:a.tmps[t]? = W0 u:=by
  have:t<a.tmps.size:=by rw[hr.size];exact hlt
  simp_all
 unfold Region.wanted yielded
 simp_all
theorem Rel.lit(hr:Rel E w0 G0 st a w G){b:Bool}(h:a.tmps[t]? = W0 (.bool b)):Rel E w0 G0 {st with t:=st.t.set t (.dat .bool b)} a w G:=by
 refine⟨hr.ff,by simpa using hr.size,λj d hj=>?_,hr.defers,hr.boxes,hr.fix,hr.pins,hr.gv⟩;simp[PG]at hj;by_cases hij:t=j
 ·subst hij
  have hlt:t<st.t.length:=by simp_all
  simp[hlt]at hj;subst hj;have:a.tmps.getD t undef=.bool b:=by simp_all
  rw[this];exact .bool _ _ _
 ·rw[if_neg hij]at hj
  exact hr.tmps j d hj
theorem Fr.lit(st:TS E)(t:Nat)(d:TV E):Fr [t] WF st {st with t:=st.t.set t d}:=
 ⟨si,λi hi=>by
  grind,⟨[],rfl,λ_ _ _=>rfl⟩,Nat.le_refl _,λ_=>rfl⟩
theorem rH{R:Type}(hX:X.Ok){all:aJ Oper}{k:Ex E->TS E->O R}{r:R}:∀ {l:J Oper}{st:TS E},uo X all l st k=W0 r->afB E X.P all l st (λx st'=>k x st'=W0 r/\Fr (eN all l) (cD l) st st')
 | [],st,h=>λw0 G0 a w G hr=>⟨.normal,st,G,trivial,hr,h,Fr.refl _ _ _⟩
 | o::rest,st,h=>by
  have ih:∀ {st:TS E},uo X all rest st k=W0 r->afB E X.P all rest st (λx st'=>k x st'=W0 r/\Fr (eN all rest) (cD rest) st st'):=λh=>rH hX h
  have step:∀(s0 s1:TS E),Fr (kU all o) WF s0 s1->XY X s1 o (jC (λst'=>uo X all rest st' k) k)=W0 r->∀w0 G0 a w G,Rel E w0 G0 s1 a w G ->
    o.wp X.P a w (wpList X.P all (cK E w0 G0 λx st'=>k x st'=W0 r/\Fr (eN all (o::rest)) (cD (o::rest)) s0 st') rest) (cK E w0 G0 λx st'=>k x st'=W0 r/\Fr (eN all (o::rest)) (cD (o::rest)) s0 st'):=by
   intro s0 s1 Uz h w0 G0 a w G hr;have h1:=Ox hX h w0 G0 a w G hr
   have hF:∀ {s2 s3:TS E},Fr (iL o.dst) (!(Fw o.op)) s1 s2->Fr (eN all rest) (cD rest) s2 s3->Fr (eN all (o::rest)) (cD (o::rest)) s0 s3:=λf1 f2=>
    (Uz.trans f1 (W:=iL o.dst++kU all o) (λi hi=>by simp[hi]) (λi hi=>by simp[hi]) (λh=>⟨rfl,h⟩)).trans f2 (λi hi=>by
     grind[eN]) (λi hi=>by simp[eN,hi]) (λh=>by
     simp_all[cD])
   refine pW (λa' w' hn=>?_) (λe a' w' hp=>?_) h1
   ·obtain⟨s2,G2,hr2,hk,f1⟩:=hn
    have hA:=ih hk w0 G0 a' w' G2 hr2
    have key:∀(l:J Oper)(a:Act)(w:U){Q1 Q2:Exit->Act->U->Prop},(∀e a w,Q1 e a w->Q2 e a w)->wpList X.P all Q1 l a w->wpList X.P all Q2 l a w:=by
     intro l
     induction l with
     | nil=>intro a w Q1 Q2 hq h;exact hq _ _ _ h
     | cons o l ihl=>
      intro a w Q1 Q2 hq h;unfold wpList at h⊢;split
      ·rename_i hw
       rw[if_pos hw]at h;rcases h with h|⟨h,a1,w1,h2⟩
       ·grind[pW]
       ·exact .inr ⟨h,a1,w1,hq _ _ _ h2⟩
      grind
    grind[cK.mono]
   ·obtain⟨x,s2,G2,he,hr2,hn,hk,f1⟩:=hp
    cases x with
    | normal=>exact(hn rfl).elim
    | _=>exact⟨_,s2,G2,he,hr2,hk,hF f1 (Fr.refl _ _ _)⟩
  simp[uo]at h;intro w0 G0 a w G hr;split at h
  ·rename_i hg
   unfold wpList;rw[if_pos (by simp[Region.wanted,hg])];exact .inl (step st st (by grind[kU,Fr.refl]) h w0 G0 a w G hr)
  ·rename_i j want hg
   split at h<;>try trivial
   rename_i t ht;have hgt:kU all o=[t]:=by simp_all[kU]
   have skip:∀(s1:TS E),Fr (kU all o) WF st s1->Rel E w0 G0 s1 a w G->uo X all rest {s1 with t:=cz s1.t o.dst (.val undef)} k=W0 r ->
     wpList X.P all (cK E w0 G0 λx st'=>k x st'=W0 r/\Fr (eN all (o::rest)) (cD (o::rest)) st st') rest (a.put o.dst undef) w:=by
    intro s1 f0 eX hk;have hr2:=eX.put (v:=undef) (d:=.val undef) (by simp[VT]) o.dst;have hA:=ih hk w0 G0 _ w G hr2
    have key:∀(l:J Oper)(a:Act)(w:U){Q1 Q2:Exit->Act->U->Prop},(∀e a w,Q1 e a w->Q2 e a w)->wpList X.P all Q1 l a w->wpList X.P all Q2 l a w:=by
     intro l
     induction l with
     | nil=>intro a w Q1 Q2 hq h;exact hq _ _ _ h
     | cons o l ihl=>
      intro a w Q1 Q2 hq h;unfold wpList at h⊢;split
      ·rename_i hw
       rw[if_pos hw]at h;rcases h with h|⟨h,a1,w1,h2⟩
       ·grind[pW]
       ·exact .inr ⟨h,a1,w1,hq _ _ _ h2⟩
      grind
    refine key rest _ w (λe a w hp=>cK.mono (λx s hh=>⟨hh.1,?_⟩) hp) hA;have f1:Fr (iL o.dst) (!(Fw o.op)) s1 {s1 with t:=cz s1.t o.dst (.val undef)}:=(Fr.put s1 o.dst (.val undef)).wide (λi h=>h) (λ_=>rfl)
    exact(f0.trans f1 (W:=iL o.dst++kU all o) (λi hi=>by simp[hi]) (λi hi=>by simp[hi]) (λh=>⟨rfl,h⟩)).trans hh.2 (λi hi=>by
     grind[eN]) (λi hi=>by simp[eN,hi]) (λh=>by
     simp_all[cD])
   split at h<;>try trivial
   ·rename_i b hb
    obtain⟨hw,hbv⟩:=JH hr hg ht hb;have hl:=hr.lit hbv;have hfl:Fr (kU all o) WF st {st with t:=st.t.set t (.dat .bool b)}:=by simp_all[Fr.lit]
    unfold wpList
    grind
   ·rename_i u hnb hu
    have hw:=LB hr hg ht hu (λb e=>hnb b e);unfold wpList
    grind[Fr.refl]
variable{ops:aJ Oper}{Q:Exit -> Act -> U -> Prop}{S:U -> Prop}{lo hi:Nat}{Q':Exit->Act->U->Prop}{i:Nat}{listed:aJ Bool}{oi:Oper}{v:Value}{K K':Act->U->Prop}
def pre(n i:Nat):aJ Bool:=((R0 n).map λk=>So k i).toArray
theorem CR{a b:Nat}:So a b=WF↔a<b:=by
 simp_all
theorem aeb{a b:Nat}(h:b<=a):So a b=UV:=by
 simp_all[Sb]
theorem ako(n:Nat):Array.replicate n UV=pre n 0:=by
 grind[Array.ext',pre,aeb]
theorem SF{n:Nat}:(pre n i).setIfInBounds i WF=pre n (i+1):=by
 apply Tm;apply Au
 ·simp[pre]
 ·intro k h1 h2
  simp only[pre,List.setIfInBounds_toArray,List.getElem_set,Sa,List.getElem_range];by_cases hk:i=k
  ·simp_all
  ·rw[if_neg hk]
   rw[qb,CR,CR];omega
theorem am4{n k:Nat}(h:i<=k)(hk:k<n):(pre n i).getD k WF=UV:=by
 simp[pre,hk,aeb h]
theorem Fx{n k:Nat}(h:k<i)(hk:k<n)(d:Bool):(pre n i).getD k d=WF:=by
 simp[pre,hk,CR.2 h]
def waits(ops:aJ Oper):Nat->Nat->Nat->Bool
 | 0,_,_=>UV
 | fuel+1,j,i=>match ops[j]? with
  | none=>UV
  | some o=>o.after.any (λe=>Region.binds .any e&&e.on==i)||o.after.any (λe=>Region.binds .any e&&(So i e.on&&waits ops fuel e.on i))
def Ks(ops:aJ Oper)(listed:aJ Bool):Prop:=∀(j:Nat)(o:Oper),ops[j]? = W0 o->listed.getD j UV=WF->∀e∈o.after,Region.binds .any e=WF->listed.getD e.on UV=WF
theorem Oy{listed:aJ Bool}(hc:Ks ops listed){i:Nat}:∀(fuel j:Nat),waits ops fuel j i=WF ->
  (∀o,ops[j]? = W0 o->∀e∈o.after,Region.binds .any e=WF->listed.getD e.on UV=WF)->listed.getD i UV=WF
 | 0,_,h,_=>by cases h
 | fuel+1,j,h,hj=>by
  unfold waits at h
  cases ho:ops[j]? with
  | none=>rw[ho]at h;cases h
  | some o=>
   rw[ho]at h;simp only[NB]at h;rcases h with h|h
   ·grind
   ·obtain⟨e,he,hb⟩:=Array.any_eq_true'.1 h
    simp at hb;refine Oy hc fuel e.on hb.2.2 λo' ho'=>hc e.on o' ho' (hj o ho e he hb.1)
theorem Wp{k:Nat}(h:(listed.setIfInBounds i WF).getD k UV=WF):k=i\/listed.getD k UV=WF:=by
 by_cases hik:i=k
 ·exact .inl hik.symm
 simp_all
theorem Ks.step(hc:Ks ops listed)(hr:i∈Region.ready .any ops listed):Ks ops (listed.setIfInBounds i WF):=by
 intro j o ho hj e he hb;obtain⟨_,oi,G4,hall⟩:=mem_ready.1 hr;rcases Wp hj with rfl|hj
 ·rw[G4]at ho;cases ho
  exact getD_set_true (hall e he hb)
 ·exact getD_set_true (hc j o ho hj e he hb)
def wpAnyS(P:bh)(ops:aJ Oper)(Q:Exit->Act->U->Prop)(S:U->Prop)(lo hi:Nat):Nat->aJ Bool->Act->U->Prop
 | 0,listed,a,w=>Region.ready .any ops listed=[]/\Q .normal a w
 | fuel+1,listed,a,w=>
  (Region.ready .any ops listed=[]->Q .normal a w) /\
  ∀i∈Region.ready .any ops listed,wpOp P ops Q i (λa' w'=>(lo<=i/\i<hi->S w->S w')/\wpAnyS P ops Q S lo hi fuel (listed.setIfInBounds i WF) a' w') a w
theorem UA:∀(fuel:Nat)(listed:aJ Bool)(a:Act)(w:U),wpAnyS P ops Q S lo hi fuel listed a w->wpAny P .any ops Q fuel listed a w
 | 0,_,_,_,h=>h
 | fuel+1,_,_,_,h=>⟨h.1,λi hi=>wpOp_mono (λa' w' h'=>UA fuel _ a' w' h'.2) (h.2 i hi)⟩
theorem UB:∀(fuel:Nat)(listed:aJ Bool)(a:Act)(w:U),(∀k,lo<=k->k<hi->listed.getD k WF=WF)->wpAny P .any ops Q fuel listed a w->wpAnyS P ops Q S lo hi fuel listed a w
 | 0,_,_,_,_,h=>h
 | fuel+1,listed,_,_,hp,h=>⟨h.1,λi hm=>wpOp_mono (λa' w' h'=>by
   have hun:=(mem_ready.1 hm).1;refine⟨λhx _=>?_,UB fuel _ a' w' (λk h1 h2=>?_) h'⟩
   ·simp_all
   ·by_cases hik:i=k
    ·simp_all
    simp_all) (h.2 i hm)⟩
theorem wpAnyS_first(G4:ops[i]? = W0 oi)(hsel:∀(j:Nat)(o:Oper) cs b,ops[j]? = W0 o->o.op≠.select cs b)
  (hQ:∀c a w,Q (.panic c) (a.put oi.dst v) w->Q (.panic c) a w) (hW:∀j,hi<=j->j<ops.size->waits ops ops.size j i=WF) :
  ∀(fuel:Nat)(listed:aJ Bool)(a:Act)(w:U),Ks ops listed->(∀k,k<lo->k<ops.size->listed.getD k WF=WF) ->
   (∀j oj,ops[j]? = W0 oj->j≠i->listed.getD j WF=UV->(∀e∈oj.after,Region.binds .any e=WF->e.on≠i)->oi.apart ops oj=WF) ->
   i∈Region.ready .any ops listed->YieldsIf P ops S oi v a->S w ->
   wpAnyS P ops Q S lo hi fuel (listed.setIfInBounds i WF) (a.put oi.dst v) w->wpAnyS P ops Q S lo hi (fuel+1) listed a w:=by
 intro fuel
 induction fuel with
 | zero=>
  intro listed a w _ _ _ hr hy hS H;refine⟨λh=>(by rw[h]at hr;cases hr),λj hj=>?_⟩;by_cases hji:j=i
  ·subst hji;exact hy.wpOp G4 hS ⟨λ_ h=>h,H⟩
  ·have:=ready_mono hj hji
   rw[H.1]at this
   cases this
 | succ fuel ih=>
  intro listed a w hcl hlo hfree hr hy hS H;refine⟨λh=>(by rw[h]at hr;cases hr),λj hj=>?_⟩;by_cases hji:j=i
  ·subst hji;exact hy.wpOp G4 hS ⟨λ_ h=>h,H⟩
  ·have h1:=H.2 j (ready_mono hj hji)
   obtain⟨Oz,oj,OA,hall⟩:=mem_ready.1 hj;have hpi:=(mem_ready.1 hr).1
   have hnot:∀e∈oj.after,Region.binds .any e=WF->e.on≠i:=λe he hb heq=>by
    grind
   have UC:lo<=j/\j<hi:=by
    grind[Oy]
   have h2:=wpOp_putIf OA (hfree j oj OA hji Oz hnot) (λcs b=>hsel i oi cs b G4) (λcs b=>hsel j oj cs b OA) hQ hy h1
   have OB:∀k ok,ops[k]? = W0 ok->k≠i->(listed.setIfInBounds j WF).getD k WF=UV ->
     (∀e∈ok.after,Region.binds .any e=WF->e.on≠i)->oi.apart ops ok=WF:=λk ok hk hki hun hno=>by
    refine hfree k ok hk hki ?_ hno;by_cases hjk:j=k
    ·subst hjk;exact Oz
    simp_all
   have asq:∀k,k<lo->k<ops.size->(listed.setIfInBounds j WF).getD k WF=WF:=λk h1 h2=>by
    by_cases hjk:j=k
    ·subst hjk;omega
    ·rw[getD_set_ne WF hjk];exact hlo k h1 h2
   refine wpOp_mono (λa' w' h3=>⟨λ_ _=>h3.2.1 UC hS,ih (listed.setIfInBounds j WF) a' w' (hcl.step hj) asq OB (ready_mono hr (Ne.symm hji)) h3.1 (h3.2.1 UC hS) ?_⟩) h2
   grind[Array.setIfInBounds_comm]
theorem adi(G4:ops[i]? = W0 oi)(hsel:∀(j:Nat)(o:Oper) cs b,ops[j]? = W0 o->o.op≠.select cs b)
  (hQ:∀c a w,Q (.panic c) (a.put oi.dst v) w->Q (.panic c) a w) :
  ∀(fuel:Nat)(listed:aJ Bool)(a:Act)(w:U),
   (∀j oj,ops[j]? = W0 oj->j≠i->listed.getD j WF=UV->(∀e∈oj.after,Region.binds .any e=WF->e.on≠i)->oi.apart ops oj=WF) ->
   i∈Region.ready .any ops listed->YieldsIf P ops (λ_=>True) oi v a ->
   wpAnyS P ops Q S lo hi fuel (listed.setIfInBounds i WF) (a.put oi.dst v) w->wpAnyS P ops Q S lo hi (fuel+1) listed a w:=by
 intro fuel
 induction fuel with
 | zero=>
  intro listed a w _ hr hy H;refine⟨λh=>(by rw[h]at hr;cases hr),λj hj=>?_⟩;by_cases hji:j=i
  ·subst hji;exact hy.wpOp G4 trivial ⟨λ_ h=>h,H⟩
  ·have:=ready_mono hj hji
   rw[H.1]at this
   cases this
 | succ fuel ih=>
  intro listed a w hfree hr hy H;refine⟨λh=>(by rw[h]at hr;cases hr),λj hj=>?_⟩;by_cases hji:j=i
  ·subst hji;exact hy.wpOp G4 trivial ⟨λ_ h=>h,H⟩
  ·have h1:=H.2 j (ready_mono hj hji)
   obtain⟨Oz,oj,OA,hall⟩:=mem_ready.1 hj;have hpi:=(mem_ready.1 hr).1
   have hnot:∀e∈oj.after,Region.binds .any e=WF->e.on≠i:=λe he hb heq=>by
    grind
   have h2:=wpOp_putIf OA (hfree j oj OA hji Oz hnot) (λcs b=>hsel i oi cs b G4) (λcs b=>hsel j oj cs b OA) hQ hy h1
   have OB:∀k ok,ops[k]? = W0 ok->k≠i->(listed.setIfInBounds j WF).getD k WF=UV ->
     (∀e∈ok.after,Region.binds .any e=WF->e.on≠i)->oi.apart ops ok=WF:=λk ok hk hki hun hno=>by
    refine hfree k ok hk hki ?_ hno;by_cases hjk:j=k
    ·subst hjk;exact Oz
    simp_all
   refine wpOp_mono (λa' w' h3=>⟨h3.2.1,ih (listed.setIfInBounds j WF) a' w' OB (ready_mono hr (Ne.symm hji)) h3.1 ?_⟩) h2
   grind[Array.setIfInBounds_comm]
theorem Oper.aa4{a:Act}{w:U}(h:∀a w,K a w->K' a w)(hq:∀e a w,e≠.normal->Q e a w->Q' e a w)
  (hh:o.wp P a w K Q):o.wp P a w K' Q':=by
 have hout:LetsOut Q->LetsOut Q':=λ⟨a,w,h⟩=>⟨a,w,hq _ _ _ si h⟩;unfold Oper.wp at *;generalize(execOp a.eval o).run P w=r at *
 cases r with
 | ok n w'=>
  cases n<;>simp[Oper.upon]at hh⊢
  case value u=>exact h _ _ hh
  case skip=>exact h _ _ hh
  case defer d=>exact h _ _ hh
  case enter f args=>
   refine Gr hh λe w'' he=>?_
   grind
  case row row args=>exact Rows.mono hh λu w'' he=>h _ _ he
 | halt x w'=>
  cases x<;>simp[Oper.upon]at hh⊢
  simp_all
def forced(ops:aJ Oper)(i:Nat):Nat->Bool
 | 0=>WF
 | m+1=>(Region.ready .any ops (pre ops.size i)==[i])&&forced ops (i+1) m
theorem XZ{R Q':Exit->Act->U->Prop}:∀(seg:J Oper)(i fuel:Nat),(∀k,k<seg.length->ops[i+k]? = seg[k]?)->forced ops i seg.length=WF->∀a w,wpList P ops R seg a w ->
  (∀e a w,R e a w->e=.normal/\wpAny P .any ops Q' fuel (pre ops.size (i+seg.length)) a w)->wpAny P .any ops Q' (seg.length+fuel) (pre ops.size i) a w
 | [],i,fuel,_,_,a,w,h,hR=>by
  have:=(hR _ a w h).2
  simpa using this
 | o::seg,i,fuel,hs,hf,a,w,h,hR=>by
  simp[forced]at hf;have G4:ops[i]? = W0 o:=by simpa using hs 0 si
  rw[show(o::seg).length+fuel=(seg.length+fuel)+1 by simp;omega];refine wpAny_all hf.1 si λj hj=>?_;have:j=i:=by simpa using hj
  subst this
  have ih:∀a w,wpList P ops R seg a w->wpAny P .any ops Q' (seg.length+fuel) ((pre ops.size j).setIfInBounds j WF) a w:=λa w hw=>by
   rw[SF];refine XZ seg (j+1) fuel (λk hk=>?_) hf.2 a w hw (λe a w hr=>?_)
   ·have:=hs (k+1) (by simpa using hk)
    grind
   grind
  unfold wpOp;simp[G4];have h':(if Region.wanted o (yielded ops a.tmps)then o.wp P a w (wpList P ops R seg) R\/(o.asks P a w/\LetsOut R)else wpList P ops R seg (a.put o.dst undef) w):=h;split
  ·rename_i hw
   rw[if_pos hw]at h';rcases h' with h'|⟨_,a1,w1,h1⟩
   ·grind[Oper.aa4]
   grind
  simp_all
def ah6(j:Nat):J (Nat×Ty)->O Ty
 | []=>WP
 | (q,t)::ps=>cond (ST q j) (W0 t) (ah6 j ps)
def OC(j:Nat):J (Nat×Cn E)->Bool
 | []=>WF
 | p::cs=>!(ST p.1 j)&&OC j cs
theorem OD{j:Nat}:∀ {cs:J (Nat×Cn E)},OC j cs=WF->∀c,(j,c)∉cs
 | [],_,_,h=>nomatch h
 | p::cs,h,c,hm=>by
  simp[OC]at h;rcases iy.1 hm with e|hm
  ·rw[<-e,NF]at h;exact nomatch h.1
  ·exact OD h.2 c hm
def X0(j j':Nat):J (Nat×Cn E)->J (Nat×Cn E)
 | []=>[]
 | p::cs=>cond (ST p.1 j) (X0 j j' cs) (cond (ST p.1 j') ((j,p.2)::X0 j j' cs) (p::X0 j j' cs))
theorem aec{j j':Nat}:∀ {cs:J (Nat×Cn E)}{q:Nat}{x:Cn E},(q,x)∈X0 j j' cs->(q=j/\(j',x)∈cs)\/(q≠j/\q≠j'/\(q,x)∈cs)
 | p::cs,q,x,h=>by
  rw[X0]at h;have next:(q,x)∈X0 j j' cs->(q=j/\(j',x)∈p::cs)\/(q≠j/\q≠j'/\(q,x)∈p::cs):=λh=>(aec h).imp (λ⟨a,b⟩=>⟨a,ku _ b⟩) λ⟨a,b,c⟩=>⟨a,b,ku _ c⟩
  cases h1:ST p.1 j<;>rw[h1]at h
  ·cases h2:ST p.1 j'<;>rw[h2]at h
   ·rcases iy.1 h with e|h
    ·rw[<-e]at h1 h2
     exact .inr ⟨λe=>(by rw[e,NF]at h1;cases h1),λe=>(by rw[e,NF]at h2;cases h2),by rw[e];exact qK ..⟩
    ·exact next h
   ·rcases iy.1 h with e|h
    ·cases e
     exact .inl ⟨rfl,by rw[<-eM h2];exact qK ..⟩
    ·exact next h
  ·exact next h
 | [],_,_,h=>nomatch h
def UD(c:Cut)(n0 i:Nat)(p:PT)(st:TS E):TS E:=match p,st.t[i]? with
 | .one (.cA j _),W0 (.cA j' v T xs)=>match st.g[j]?,st.g[j']? with
  | some g,W0 g'=>cond (!(ST j' j)&&(Nat.ble n0 j'&&(ST g'.aF v&&(ST g.e g'.e&&(ST g.k g'.k&&(OC j st.c&&OC j' st.c))))))
    {st with t:=st.t.set i (.cA j (g.aF+1) T xs),g:=(st.g.set j' {g' with aF:=g'.aF+1}).set j {g with aF:=g.aF+1}} st
  | _,_=>st
 | .one (.cA j T),W0 (.val (.slice WP 0 0))=>match st.g[j]? with
  | some g=>cond (OC j st.c) {st with t:=st.t.set i (.cA j (g.aF+1) T []),g:=st.g.set j {g with aF:=g.aF+1}} st
  | none=>st
 | .one (.eA j),W0 (.eA j' v)=>match st.g[j]?,st.g[j']? with
  | some g,W0 g'=>cond (!(ST j' j)&&(Nat.ble n0 j'&&(ST g'.aF v&&(ST g.e g'.e&&ST g.k g'.k))))
    {st with t:=st.t.set i (.eA j (g.aF+1)),g:=(st.g.set j' {g' with aF:=g'.aF+1}).set j {g with aF:=g.aF+1},c:=X0 j j' st.c} st
  | _,_=>st
 | .one (.eA j),W0 (.val (.slice WP 0 0))=>match c.rows[j]?,ah6 j c.soft with
  | some (W0 (e,_)),W0 T=>cond (ST st.g.length j&&So 0 (T.size E)) {st with t:=st.t.set i (.eA st.g.length 0),g:=st.g++[⟨0,e,T.size E⟩],c:=(st.g.length,⟨T,[]⟩)::st.c} st
  | _,_=>st
 | .one (.dat t),W0 (.eA j v)=>{(vz (.dat t) (.eA j v) st).2 with t:=st.t.set i (vz (.dat t) (.eA j v) st).1}
 | _,_=>st
def ZI(c:Cut)(n0:Nat):J (Nat×PT)->TS E->TS E
 | [],st=>st
 | (i,p)::vs,st=>ZI c n0 vs (UD c n0 i p st)
def Cut.pack(c:Cut)(bP st:TS E):O (dens E c.tys):=match c.leaves bP (ZI c bP.g.length c.vars st)with
 | some ls=>getAll c.tys ls
 | none=>WP
def Cut.un(c:Cut)(W:J Nat)(bP:TS E)(x:dens E c.tys):TS E:=c.unpack W bP (aR c.tys x)
def Cut.okW(c:Cut)(W:J Nat):Bool:=c.vars.all λp=>W.elem p.1
theorem Ey(n:Rn):∀(bs:J (O BT))(r0:Nat)(H:J (fK E))(ls:J (Lf E))(r:Nat),r<bs.length->r0+r∉DM r0 bs->r<H.length->(eO n bs H ls)[r]? = H[r]?
 | [],_,_,_,_,h,_,_=>by simp at h
 | none::bs,r0,H,ls,0,_,_,h=>by cases H with|nil=>simp at h|cons x H=>simp[eO]
 | none::bs,r0,H,ls,r+1,h1,h2,h3=>by
  cases H with
  | nil=>simp at h3
  | cons x H=>
   have:=Ey n bs (r0+1) H ls r (by simpa using h1) (by rw[show r0+1+r=r0+(r+1) by omega];exact h2) (by simpa using h3)
   simpa[eO]using this
 | some t::bs,r0,H,ls,0,_,h2,_=>(h2 (by simp[DM])).elim
 | some t::bs,r0,H,ls,r+1,h1,h2,h3=>by
  cases H with
  | nil=>simp at h3
  | cons x H=>
   have:=Ey n bs (r0+1) H (t.put n ls).2 r (by simpa using h1) (by rw[show r0+1+r=r0+(r+1) by omega];exact λhm=>h2 (by simp[DM,hm])) (by simpa using h3);simpa[eO]using this
theorem Rx(n:Rn):∀(vs:J (Nat×PT))(t:J (TV E))(ls:J (Lf E))(i:Nat),i∉vs.map (·.1)->(mX n vs t ls).1[i]? = t[i]?
 | [],t,ls,i,_=>rfl
 | (j,p)::vs,t,ls,i,h=>by
  simp only[jY,iy,not_or]at h;rw[mX,Rx n vs _ _ i h.2,Nx (λe=>h.1 e.symm)]
theorem UE(n:Rn):∀(vs:J (Nat×PT))(t:J (TV E))(ls:J (Lf E)),(mX n vs t ls).1.length=t.length
 | [],t,ls=>rfl
 | (j,p)::vs,t,ls=>by simp_all[mX,UE]
theorem UF(W:J Nat):∀(i:Nat)(l:J (TV E))(j:Nat),(i+j)∉W->(nL W i l)[j]? = l[j]?
 | _,[],j,_=>rfl
 | i,d::ds,0,h=>by
  simp_all[Gm,nL]
 | i,d::ds,j+1,h=>by
  have:=UF W (i+1) ds j (by rw[show i+1+j=i+(j+1) by omega];exact h);simpa[nL]using this
variable{c:Cut}{bP:TS E}{ls:J (Lf E)}
theorem Cut.af9(h:c.leaves bP st=W0 ls):bP.H.length<=c.boxes.length:=by
 unfold Cut.leaves at h;cases hc:(below c.rows.length c.soft&&(Nat.ble bP.H.length c.boxes.length&&(Nat.ble bP.g.length c.rows.length&&y6 c.rows bP.g st.g)))<;>rw[hc]at h<;>simp only[aY]at h
 ·cases h
 simp_all
variable{W:J Nat}
theorem Cut.X3{ls':J (Lf E)}(hW:c.okW W=WF)(h:c.leaves bP st=W0 ls):Fr W WF bP (c.unpack W bP ls'):=by
 have hl:=Cut.af9 h;refine⟨?_,λi hi=>?_,⟨DM 0 c.boxes,rfl,λr hr hd=>?_⟩,?_,λ_=>rfl⟩
 ·show((mX _ c.vars (nL W 0 bP.t) ls').1).length=_
  rw[UE,GU]
 ·show((mX _ c.vars (nL W 0 bP.t) ls').1)[i]? = _
  rw[Rx _ _ _ _ i (λhm=>?_),UF W 0 bP.t i (by simp_all)];obtain⟨p,hp,rfl⟩:=oK.1 hm;exact hi (PW (pE.1 hW p hp))
 ·exact Ey _ c.boxes 0 bP.H _ r om (by simp_all) hr
 ·show bP.H.length<=(eO _ c.boxes bP.H _).length
  simp_all[oC]
theorem Rel.ass{G1:bx}{jK:TS E}(hr:Rel E w0 G0 st a w G)(hc:pN st jK)(eX:Rel E w0 G0 jK a w G1){d d1:TV E}(hi:st.t[i]? = W0 d)(hv:∀v,VT E w G d v->VT E w G1 d1 v):
  Rel E w0 G0 {jK with t:=st.t.set i d1} a w G1:=by
 obtain⟨c',rfl⟩:=hc;refine⟨eX.ff,by simpa using eX.size,λj d' hj=>?_,eX.defers,eX.boxes,eX.fix,eX.pins,eX.gv⟩;simp[PG]at hj;by_cases hij:i=j
 ·subst hij
  have hlt:=(eY.1 hi).1;simp[hlt]at hj;subst hj;exact hv _ (hr.tmps i _ hi)
 ·rw[if_neg hij]at hj
  exact eX.tmps j d' hj
theorem Rel.aa5(h:Rel E w0 G0 st a w G){x x':cL}{hd hd':Value}(c':J (Nat×Cn E))(hj:G.g[j]? = W0 (x,hd))(hlt:x.aF<x'.aF)(hok:yX E w G x' hd')(Be:∀i c,(i,c)∈c'->∃y z,(G.g.set j (x',hd'))[i]? = W0 (y,z)/\sW E w G y z c)
  (hnew:∀b,hd'.ownBlock=W0 b->w0.heap.size<=b) (hap:∀(m:Nat) y z b,m≠j->G.g[m]? = W0 (y,z)->z.ownBlock=W0 b->hd'.ownBlock≠W0 b) :
  Rel E w0 G0 {st with g:=st.g.set j x',c:=c'} a w {G with g:=G.g.set j (x',hd')}:=by
 have at':∀(m:Nat) y z,(G.g.set j (x',hd'))[m]? = W0 (y,z)->(m=j/\y=x'/\z=hd')\/(m≠j/\G.g[m]? = W0 (y,z)):=by
  grind
 have hg:iK w G w {G with g:=G.g.set j (x',hd')}:=by
  refine⟨λ_ _ h=>h,λ_ _ _ _ h=>h,λ_ _ h=>h,λm y z hm=>?_⟩
  grind
 have ev:=h.ff;refine⟨⟨ev.os,ev.tape,ev.output,ev.size,ev.old,ev.goes.trans hg,ev.oz,ev.qO,λm y z b hm hb=>?_⟩,h.size,λm d hm=>(h.tmps m d hm).mono hg,h.defers.mono hg,?_,h.fix,h.pins,?_⟩
 ·rcases at' m y z hm with⟨-,-,rfl⟩|⟨-,hm⟩
  ·exact .inl (hnew b hb)
  ·exact ev.gM m y z b hm hb
 ·refine⟨h.boxes.len,?_,λr b y hb hy=>(h.boxes.box r b y hb hy).mono hg rfl,h.boxes.lt,h.boxes.nodup,h.boxes.gu,λm y z hm=>?_,λm m' y z y' z' b hm hm' hb hb'=>?_⟩
  ·rw[Zj,h.boxes.gs]
  ·rcases at' m y z hm with⟨-,rfl,rfl⟩|⟨-,hm⟩
   ·exact hok
   ·exact h.boxes.grow m y z hm
  ·rcases at' m y z hm with⟨q1,-,q3⟩|⟨q1,q⟩<;>rcases at' m' y' z' hm' with⟨q1',-,q3'⟩|⟨q1',q'⟩
   ·rw[q1,q1']
   ·grind
   ·grind
   ·exact h.boxes.apart m m' y z y' z' b q q' hb hb'
 ·exact λi c hm=>Be i c hm
theorem Rel.Qs(h:Rel E w0 G0 st a w G){x x':cL}{hd hd':Value}(hj:G.g[j]? = W0 (x,hd))(hlt:x.aF<x'.aF)(hok:yX E w G x' hd')(Be:∀c,(j,c)∉st.c)
  (hnew:∀b,hd'.ownBlock=W0 b->w0.heap.size<=b) (hap:∀(m:Nat) y z b,m≠j->G.g[m]? = W0 (y,z)->z.ownBlock=W0 b->hd'.ownBlock≠W0 b) :
  Rel E w0 G0 {st with g:=st.g.set j x'} a w {G with g:=G.g.set j (x',hd')}:=
 h.aa5 st.c hj hlt hok (λi c hm=>by
  obtain⟨y,z,q1,q2⟩:=h.gv i c hm
  grind) hnew hap
theorem xO(x:cL):yX E w G x (.slice WP 0 0):=
 ⟨0,[],⟨si,.inl ⟨rfl,rfl⟩⟩,(λa m e=>nomatch e),(λb hb=>nomatch hb)⟩
theorem Rel.aga(h:Rel E w0 G0 st a w G){d1:TV E}(hv:VT E w G d1 (a.tmps.getD i undef)):Rel E w0 G0 {st with t:=st.t.set i d1} a w G:=by
 refine⟨h.ff,by simpa using h.size,λj d' hj=>?_,h.defers,h.boxes,h.fix,h.pins,h.gv⟩;simp[PG]at hj;by_cases hij:i=j
 ·simp_all
 ·rw[if_neg hij]at hj
  exact h.tmps j d' hj
theorem aa6(c:Cut)(n0 i:Nat)(p:PT)(hn0:G0.g.length<=n0)(hr:Rel E w0 G0 st a w G):(∃G',Rel E w0 G0 (UD c n0 i p st) a w G')/\Fr [i] WF st (UD c n0 i p st):=by
 have wL:(∃G',Rel E w0 G0 st a w G')/\Fr [i] WF st st:=⟨⟨G,hr⟩,Fr.refl _ _ _⟩;have mN:∀(d:TV E)(j:Nat),j∉[i]->(st.t.set i d)[j]? = st.t[j]?:=λd j hj=>Nx (λe=>hj (by simp[e]))
 have atn:∀(t:Ty)(d:TV E),st.t[i]? = W0 d->(∃G',Rel E w0 G0 {(vz (.dat t) d st).2 with t:=st.t.set i (vz (.dat t) d st).1} a w G')/\Fr [i] WF st {(vz (.dat t) d st).2 with t:=st.t.set i (vz (.dat t) d st).1}:=by
  intro t d hi;obtain⟨o1,G1,eX,g1,v1⟩:=SD (.dat t) d hr;refine⟨⟨G1,hr.ass o1 eX hi v1⟩,?_⟩;obtain⟨c',s7⟩:=o1;rw[s7];exact⟨si,λj hj=>mN _ j hj,⟨[],rfl,λ_ _ _=>rfl⟩,eu _,λ_=>rfl⟩
 unfold UD;split
 ·rename_i j T0 j' v T xs hi
  split
  ·rename_i g g' hg hg'
   generalize hb:(!(ST j' j)&&(Nat.ble n0 j'&&(ST g'.aF v&&(ST g.e g'.e&&(ST g.k g'.k&&(OC j st.c&&OC j' st.c))))))=b;cases b
   ·exact wL
   simp only[cH,Ej]at hb;obtain⟨b1,b2,b3,b4,b5,b6,b7⟩:=hb;have b1:j'≠j:=λe=>by simp_all
   have b2:=lG b2;have b3:=eM b3;obtain⟨hd,hj⟩:=hr.Bi hg;obtain⟨hd',hj'⟩:=hr.Bi hg';have hv:=hr.tmps i _ hi;have aa7:=hr.boxes.grow j' g' hd' hj';have r1:=hr.Qs (x':={g' with aF:=g'.aF+1}) (hd':=.slice WP 0 0) hj' (Js _) (xO _) (OD b7) (λb hb=>nomatch hb) (λ_ _ _ _ _ _ _ hb=>nomatch hb)
   have r2:=r1.Qs (j:=j) (x:=g) (hd:=hd) (x':={g with aF:=g.aF+1}) (hd':=hd') (by
     simp_all) (Js _) (by
     obtain⟨n,xs',g1,g2,g3⟩:=aa7;exact⟨n,xs',by simp_all,λa m h=>by simp_all,λb hb=>by simp_all⟩) (OD b6) (λb hb=>by
     rcases hr.ff.gM j' g' hd' b hj' hb with q|⟨x0,h0,q,-⟩
     ·exact q
     grind) (λm y z b hm UG hb hb'=>by
     by_cases e:m=j'
     ·subst e
      rw[Zi (eY.1 hj').1]at UG;cases UG;cases hb
     ·rw[Nx (λq=>e q.symm)]at UG
      exact e (hr.boxes.apart m j' y z g' hd' b UG hj' hb hb'))
   refine⟨⟨_,r2.aga (d1:=.cA j (g.aF+1) T xs) ?_⟩,si,λq hq=>mN _ q hq,⟨[],rfl,λ_ _ _=>rfl⟩,eu _,λ_=>rfl⟩
   grind[VT]
  ·exact wL
 ·rename_i j T hi
  split
  ·rename_i g hg
   cases hb:OC j st.c
   ·exact wL
   obtain⟨hd,hj⟩:=hr.Bi hg;have hjl:j<G.g.length:=(eY.1 hj).1;have hv:=hr.tmps i _ hi;have r1:=hr.Qs (x':={g with aF:=g.aF+1}) (hd':=.slice WP 0 0) hj (Js _) (xO _) (OD hb) (λb hb=>nomatch hb) (λ_ _ _ _ _ _ _ hb=>nomatch hb);refine⟨⟨_,r1.aga (d1:=.cA j (g.aF+1) T []) ?_⟩,si,λq hq=>mN _ q hq,⟨[],rfl,λ_ _ _=>rfl⟩,eu _,λ_=>rfl⟩;rw[hv];simp only[VT];exact⟨.vo _ _,{g with aF:=g.aF+1},.slice WP 0 0,by simp[hjl],eu _,λ_=>rfl⟩
  ·exact wL
 ·rename_i j j' v hi
  split
  ·rename_i g g' hg hg'
   generalize hb:(!(ST j' j)&&(Nat.ble n0 j'&&(ST g'.aF v&&(ST g.e g'.e&&ST g.k g'.k))))=b;cases b
   ·exact wL
   simp only[cH,Ej]at hb;obtain⟨b1,b2,b3,b4,b5⟩:=hb;have b1:j'≠j:=λe=>by simp_all
   have b2:=lG b2;have b3:=eM b3;have b4:=eM b4;have b5:=eM b5;obtain⟨hd,hj⟩:=hr.Bi hg;obtain⟨hd',hj'⟩:=hr.Bi hg';have hv:=hr.tmps i _ hi;have aa7:=hr.boxes.grow j' g' hd' hj';have r1:=hr.aa5 (x':={g' with aF:=g'.aF+1}) (hd':=.slice WP 0 0) [] hj' (Js _) (xO _) (λ_ _ h=>nomatch h) (λb hb=>nomatch hb) (λ_ _ _ _ _ _ _ hb=>nomatch hb)
   have r2:=r1.aa5 (j:=j) (x:=g) (hd:=hd) (x':={g with aF:=g.aF+1}) (hd':=hd') (X0 j j' st.c) (by
     simp_all) (Js _) (by
     obtain⟨n,xs',g1,g2,g3⟩:=aa7;exact⟨n,xs',by simp_all,λa m h=>by simp_all,λb hb=>by simp_all⟩) (λq x hm=>by
     show ∃y z,((G.g.set j' _).set j _)[q]? = W0 (y,z)/\sW E w G y z x;rcases aec hm with⟨rfl,hm2⟩|⟨h1,h2,hm2⟩
     ·obtain⟨y,z,q1,q2⟩:=hr.gv j' x hm2
      grind[List.getElem?_set_self,sW]
     ·obtain⟨y,z,q1,q2⟩:=hr.gv q x hm2
      grind) (λb hb=>by
     rcases hr.ff.gM j' g' hd' b hj' hb with q|⟨x0,h0,q,-⟩
     ·exact q
     grind) (λm y z b hm UG hb hb'=>by
     by_cases e:m=j'
     ·subst e
      rw[Zi (eY.1 hj').1]at UG;cases UG;cases hb
     ·rw[Nx (λq=>e q.symm)]at UG
      exact e (hr.boxes.apart m j' y z g' hd' b UG hj' hb hb'))
   refine⟨⟨_,r2.aga (d1:=.eA j (g.aF+1)) ?_⟩,si,λq hq=>mN _ q hq,⟨[],rfl,λ_ _ _=>rfl⟩,eu _,λ_=>rfl⟩
   grind[VT]
  ·exact wL
 ·rename_i j hi
  split
  ·rename_i e k T h1 h2
   cases hb:(ST st.g.length j&&So 0 (T.size E))
   ·exact wL
   ·rw[cH]at hb
    exact⟨hr.ah4 hi e T (lG hb.2),⟨si,λj hj=>mN _ j hj,⟨[],rfl,λ_ _ _=>rfl⟩,eu _,λ_=>rfl⟩⟩
  ·exact wL
 ·simp_all
 ·exact wL
theorem aa8(c:Cut)(n0:Nat){W:J Nat}{w0 w:U}{G0:bx}{a:Act}(hn0:G0.g.length<=n0):∀(vs:J (Nat×PT)),(∀p∈vs,p.1∈W)->∀ {st:TS E}{G:bx},Rel E w0 G0 st a w G->(∃G',Rel E w0 G0 (ZI c n0 vs st) a w G')/\Fr W WF st (ZI c n0 vs st)
 | [],_,st,G,hr=>⟨⟨G,hr⟩,Fr.refl _ _ _⟩
 | (i,p)::vs,hW,st,G,hr=>by
  obtain⟨⟨G1,eX⟩,f1⟩:=aa6 c n0 i p hn0 hr;obtain⟨h2,f2⟩:=aa8 c n0 hn0 vs (λq hq=>hW q (by simp[hq])) eX;exact⟨h2,Fr.trans f1 f2 (λj hj=>by simp_all) (λj hj=>hj) (λh=>⟨rfl,h⟩)⟩
theorem z6(hE:E.Ok){x:dens E c.tys}(hp:Pre G0 bP)(hr:Rel E w0 G0 st a w G)(hF:Fr W WF bP st)(hW:c.okW W=WF)(h:c.pack bP st=W0 x):
  (∃G2,Rel E w0 G0 (c.un W bP x) a w G2)/\Fr W WF bP (c.un W bP x):=by
 unfold Cut.pack at h;split at h<;>try trivial
 rename_i ls hls
 obtain⟨⟨G1,hr⟩,hF1⟩:=aa8 c bP.g.length (by
  rcases Zu bP.g.length G0.g.length with hlt|hge
  ·obtain⟨x,hx,-⟩:=hp.rows bP.g.length _ _ (fJ hlt)
   simp_all
  ·exact hge) c.vars (λp hp=>PW (pE.1 hW p hp)) hr
 have hF:=Fr.trans hF hF1 (λ_ h=>h) (λ_ h=>h) (λh=>⟨h,h⟩);obtain⟨D,hD,hH⟩:=hF.d;obtain⟨G2,hR,-⟩:=Rel.cut hE hp hr hF.len hF.keep hD hH (hF.df rfl) hls
 grind[DK,Cut.un,Cut.X3]
def Wq{R:Type}(X:Cx E)(st:TS E)(o:Oper)(k:TS E->O R):O R:=
 match Um X.P X.ty st o.op with
 | some (c,d)=>rqP (Qr st o.op) c (k {st with t:=cz st.t o.dst d})
 | none=>match o.op with
  | .pick c x y=>match st.ev c with
   | .dat .bool b=>cond b (k {st with t:=cz st.t o.dst (st.ev x)}) (k {st with t:=cz st.t o.dst (st.ev y)})
   | _=>WP
  | _=>WP
def qld(P:bh)(st:TS E):Op->O (Bool×TV E)
 | .load t x=>match aV P t,st.ev x with
  | some i,.iC j aF k ix off=>match st.g[j]?,oQ st.c j with
   | some g,W0 c=>match TV.part c.1 (c.2.getD ix (c.1.dflt E)) i.isAgg i.size off with
    | some d=>W0 (ST g.aF aF&&ST k (c.1.size E),d)
    | none=>WP
   | _,_=>WP
  | _,_=>WP
 | _=>WP
def Wr{R:Type}(X:Cx E)(st:TS E)(o:Oper)(k:TS E->O R):O R:=
 match qld X.P st o.op with
 | some (c,d)=>rqP (Qr st o.op) c (k {st with t:=cz st.t o.dst d})
 | none=>Wq X st o k
def uL{R:Type}(X:Cx E)(all:aJ Oper):J Oper->TS E->(TS E->O R)->O R
 | [],st,k=>k st
 | o::rest,st,k=>match o.guard with
  | none=>Wr X st o (λst'=>uL X all rest st' k)
  | some (j,want)=>match (all[j]?).bind (·.dst)with
   | some t=>match st.at t with
    | .dat .bool b=>cond b
      (cond want (Wr X {st with t:=st.t.set t (.dat .bool WF)} o (λst'=>uL X all rest st' k))
       (uL X all rest {st with t:=cz (st.t.set t (.dat .bool WF)) o.dst (.val undef)} k))
      (cond want (uL X all rest {st with t:=cz (st.t.set t (.dat .bool UV)) o.dst (.val undef)} k)
       (Wr X {st with t:=st.t.set t (.dat .bool UV)} o (λst'=>uL X all rest st' k)))
    | .val (.bool _)=>WP
    | .val _=>uL X all rest {st with t:=cz st.t o.dst (.val undef)} k
    | _=>WP
   | none=>WP
def ah7(ops:aJ Oper)(i:Nat):Bool:=match ops[i]? with
 | some o=>!(TR o.op)
 | none=>UV
def takes(ops:aJ Oper)(hi:Nat):Nat->Nat->Bool
 | _,0=>WF
 | i,m+1=>(Region.free .any ops (pre ops.size i) i&&(Region.ready .any ops (pre ops.size i)).contains i&&(ah7 ops i||(List.range' hi (ops.size-hi)).all (λj=>waits ops ops.size j i)))&&takes ops hi (i+1) m
def backward(ops:aJ Oper):Bool:=(R0 ops.size).all λj=>match ops[j]? with
 | some o=>o.after.all λe=>!(Region.binds .any e)||Nat.blt e.on j
 | none=>WF
structure agb where
 q:Bool
 m:Nat
 c:Option Cut
noncomputable def aa9{R:Type}(X:Cx E)(l:J Oper)(i:Nat)(q:Bool)(m:Nat)(st:TS E)(k:TS E->O R):O R:=
 cond q (rq ((Region.noSelect l.toArray&&backward l.toArray&&takes l.toArray (i+m) i m)&&Nat.ble (i+m) l.length) (uL X l.toArray ((l.drop i).take m) st k))
  (rq (forced l.toArray i m&&Nat.ble (i+m) l.length) (uo X l.toArray ((l.drop i).take m) st (jC k λ_ _=>WP)))
noncomputable def LC{R:Type}(X:Cx E)(l:J Oper):Nat->J agb->TS E->(TS E->O R)->O R
 | i,[],st,k=>cond (ST i l.length) (k st) WP
 | i,s::ss,st,k=>match s.c with
  | none=>aa9 X l i s.q s.m st (λst'=>LC X l (i+s.m) ss st' k)
  | some c=>rq (c.okW (eN l.toArray ((l.drop i).take s.m))&&cD l) ((aa9 X l i s.q s.m st (λst'=>c.pack st st')).bind λx=>LC X l (i+s.m) ss (c.un (eN l.toArray ((l.drop i).take s.m)) st x) k)
variable{w':U}{f m id:Nat}{ws:U}{Gs:bx}{Z:J Nat}{L:aJ Bool}{R':Type}
def oD(Q:TS E->Prop):Ex E->TS E->Prop:=λx s=>x=.normal/\Q s
theorem cK.oD{e:Exit}{R:TS E->Prop}(h:cK E w0 G0 (λx s=>x=.normal/\R s) e a w):e=.normal:=by
 obtain⟨x,s,G,he,_,rfl,_⟩:=h;cases e<;>first|rfl|exact he.elim
def xP(w0:U)(G0:bx)(P:bh)(ops:aJ Oper)(i:Nat)(st:TS E)(Q:TS E->Prop):Prop:=
 ∀a w G,Rel E w0 G0 st a w G->wpAny P .any ops (cK E w0 G0 (oD Q)) (ops.size-i) (pre ops.size i) a w
theorem xP.done{l:J Oper}{Q:TS E->Prop}(i:Nat)(hi:i=l.length)(h:Q st):xP w0 G0 P l.toArray i st Q:=by
 subst hi;intro a w G hr;have:l.toArray.size-l.length=0:=by simp
 rw[this];refine⟨?_,.normal,st,G,trivial,hr,rfl,h⟩;apply List.eq_nil_iff_forall_not_mem.2;intro j hj;obtain⟨h1,o,ho,_⟩:=mem_ready.1 hj;have hlt:j<l.length:=by grind
 rw[Fx hlt (by simpa using hlt)]at h1;cases h1
theorem am5{l:J Oper}(hm:i+m<=l.length)(k:Nat)(hk:k<((l.drop i).take m).length):l.toArray[i+k]? = ((l.drop i).take m)[k]?:=by
 simp_all
theorem agc(h:backward ops=WF)(i:Nat):Ks ops (pre ops.size i):=by
 intro j o ho hj e he hb;have hlt:=(Av.1 ho).1;have h1:=pE.1 h j (List.mem_range.2 hlt);simp only[ho]at h1;have h2:=Array.all_eq_true_iff_forall_mem.1 h1 e he;simp only[hb]at h2;have h3:=CR.1 h2
 have hji:j<i:=by
  simp_all[am4,pre]
 exact Fx om om UV
theorem UH(hX:X.Ok){k:TS E->O R}{r:R}(h:Wq X st o k=W0 r)(hr:Rel E w0 G0 st a w G):
  ∃v st',(∀w',It o w w'->(execOp a.eval o).run X.P w'=.ok (.value v) w')/\Rel E w0 G0 st' (a.put o.dst v) w G/\k st'=W0 r/\Fr (iL o.dst) WF st st':=by
 unfold Wq at h;split at h
 ·rename_i pc pd hp
  obtain⟨h1,h2⟩:=GZ h;obtain⟨v,hv,hrun⟩:=Rw hX.E hr hp h1;exact⟨v,_,hrun,hr.put hv o.dst,h2,Fr.put _ _ _⟩
 ·split at h<;>try trivial
  rename_i c x y ho;split at h<;>try trivial
  rename_i b hb;have hv:=hr.ev c;rw[hb]at hv;have hv:=hv.mu
  have hrun:∀w',(execOp a.eval o).run X.P w'=.ok (.value (if b then a.eval x else a.eval y)) w':=λw'=>by
   simp[execOp,ho,hv,asBool]
  cases b<;>simp at h
  ·exact⟨a.eval y,_,λw' _=>hrun w',hr.put (hr.ev y) o.dst,h,Fr.put _ _ _⟩
  ·exact⟨a.eval x,_,λw' _=>hrun w',hr.put (hr.ev x) o.dst,h,Fr.put _ _ _⟩
theorem agd(hX:X.Ok){k:TS E->O R}{r:R}(h:Wr X st o k=W0 r)(hr:Rel E w0 G0 st a w G):
  ∃v st',(∀w',It o w w'->(execOp a.eval o).run X.P w'=.ok (.value v) w')/\Rel E w0 G0 st' (a.put o.dst v) w G/\k st'=W0 r/\Fr (iL o.dst) WF st st':=by
 unfold Wr at h;split at h
 ·rename_i pc pd hp
  obtain⟨h1,h2⟩:=GZ h;cases ho:o.op<;>rw[ho]at hp<;>try trivial
  simp[qld]at hp;split at hp<;>try trivial
  rename_i i j aF k' ix off ht hx;split at hp<;>try trivial
  rename_i g c hg hc;split at hp<;>try trivial
  rename_i d hpart;cases hp;rw[cH]at h1;obtain rfl:=eM h1.1;obtain⟨v,hv,hrun⟩:=IA hX.E hr ho ht hx hg hc (eM h1.2) hpart;exact⟨v,_,hrun,hr.put hv o.dst,h2,Fr.put _ _ _⟩
 grind[UH]
theorem adj(hX:X.Ok){l:J Oper}{k:TS E->O R}{r:R}{Q:TS E->Prop}(hs:(Region.noSelect l.toArray&&backward l.toArray&&takes l.toArray (i+m) i m)=WF)(hm:i+m<=l.length)
  (h:uL X l.toArray ((l.drop i).take m) st k=W0 r)    (fB:∀st',k st'=W0 r->Fr (eN l.toArray ((l.drop i).take m)) WF st st'->xP w0 G0 X.P l.toArray (i+m) st' Q) (hr:Rel E w0 G0 st a w G) :
  wpAny X.P .any l.toArray (cK E w0 G0 (oD Q)) (l.toArray.size-i) (pre l.toArray.size i) a w:=by
 simp only[cH]at hs;obtain⟨⟨uK,hbk⟩,htk⟩:=hs;refine UA (S:=λw'=>fh w w') (lo:=i) (hi:=i+m) _ _ _ _ ?_;have hQp:∀c a w,¬ cK E w0 G0 (oD Q) (.panic c) a w:=λc a w hp=>by have:=cK.oD hp;cases this
 have key:∀(seg:J Oper)(q:Nat)(s:TS E)(a:Act),(∀k,k<seg.length->l.toArray[q+k]? = seg[k]?)->q+seg.length=i+m->i<=q->takes l.toArray (i+m) q seg.length=WF ->
   Rel E w0 G0 s a w G->uL X l.toArray seg s k=W0 r->(∀st',k st'=W0 r->Fr (eN l.toArray seg) WF s st'->xP w0 G0 X.P l.toArray (i+m) st' Q) ->
   wpAnyS X.P l.toArray (cK E w0 G0 (oD Q)) (λw'=>fh w w') i (i+m) (l.toArray.size-q) (pre l.toArray.size q) a w:=by
  intro seg
  induction seg with
  | nil=>
   intro q s a hsg hq hiq _ hr h fB;subst hq;refine UB _ _ _ _ (λk h1 h2=>Fx h2 bp WF) ?_
   exact fB s h (Fr.refl _ _ _) a w G hr
  | cons o seg ih=>
   intro q s a hsg hq hiq ht hr h fB;simp only[qL]at hq ht;simp only[takes,cH]at ht;obtain⟨⟨⟨hfr,hrd⟩,hwt⟩,ht'⟩:=ht;have hoq:l.toArray[q]? = W0 o:=by simpa using hsg 0 si
   have apc:∀k,k<seg.length->l.toArray[(q+1)+k]? = seg[k]?:=λk hk=>by
    have:=hsg (k+1) (by simpa using hk)
    grind
   rw[show l.toArray.size-q=(l.toArray.size-(q+1))+1 by simp;omega]
   have first:∀v,YieldsIf X.P l.toArray (λw'=>It o w w') o v a->wpAnyS X.P l.toArray (cK E w0 G0 (oD Q)) (λw'=>fh w w') i (i+m) (l.toArray.size-(q+1)) (pre l.toArray.size (q+1)) (a.put o.dst v) w ->
     wpAnyS X.P l.toArray (cK E w0 G0 (oD Q)) (λw'=>fh w w') i (i+m) ((l.toArray.size-(q+1))+1) (pre l.toArray.size q) a w:=λv hy hh=>by
    simp only[NB]at hwt;rcases hwt with hnl|hwt
    ·have ast:TR o.op=UV:=by
      simp_all[ah7]
     refine adi (v:=v) hoq (ae5 uK) (λc a w hp=>(hQp _ _ _ hp).elim) _ _ a w (ae6 hoq hfr) (by simpa using hrd) ?_ ?_
     ·rcases hy with⟨h1,h2⟩|hy
      ·exact .inl ⟨h1,λw' _=>h2 w' (λhl=>by rw[ast]at hl;cases hl)⟩
      ·exact .inr hy
     simp_all[SF]
    refine wpAnyS_first (v:=v) hoq (ae5 uK) (λc a w hp=>(hQp _ _ _ hp).elim) (λj h1 h2=>?_) _ _ a w (agc hbk q) (λk h1 h2=>Fx om h2 WF) (ae6 hoq hfr) (by simpa using hrd) ?_ (fh.refl w) ?_
    rotate_left
    ·rcases hy with⟨h1,h2⟩|hy
     ·exact .inl ⟨h1,λw' hs=>h2 w' (λ_=>hs)⟩
     ·exact .inr hy
    rotate_left
    ·simp_all
    simp_all[SF]
   have run:∀(s1:TS E),Fr (kU l.toArray o) WF s s1->Rel E w0 G0 s1 a w G->Region.wanted o (yielded l.toArray a.tmps)=WF->Wr X s1 o (λst'=>uL X l.toArray seg st' k)=W0 r ->
     wpAnyS X.P l.toArray (cK E w0 G0 (oD Q)) (λw'=>fh w w') i (i+m) ((l.toArray.size-(q+1))+1) (pre l.toArray.size q) a w:=by
    intro s1 f0 eX hw h1;obtain⟨v,s2,hrun,hr2,h2,f1⟩:=agd hX h1 eX;refine first v (.inl ⟨hw,hrun⟩) (ih (q+1) s2 _ apc om om ht' hr2 h2 (λst' hk f2=>fB st' hk ?_))
    exact(f0.trans f1 (W:=iL o.dst++kU l.toArray o) (n:=WF) (λi hi=>by simp[hi]) (λi hi=>by simp[hi]) (λh=>⟨rfl,rfl⟩)).trans f2 (λi hi=>by
     grind[eN]) (λi hi=>by simp[eN,hi]) (λh=>⟨rfl,rfl⟩)
   have skip:∀(s1:TS E),Fr (kU l.toArray o) WF s s1->Rel E w0 G0 s1 a w G->Region.wanted o (yielded l.toArray a.tmps)=UV->uL X l.toArray seg {s1 with t:=cz s1.t o.dst (.val undef)} k=W0 r ->
     wpAnyS X.P l.toArray (cK E w0 G0 (oD Q)) (λw'=>fh w w') i (i+m) ((l.toArray.size-(q+1))+1) (pre l.toArray.size q) a w:=by
    intro s1 f0 eX hw h1;have hr2:=eX.put (v:=undef) (d:=.val undef) (by simp only[VT]) o.dst;refine first undef (.inr ⟨hw,rfl⟩) (ih (q+1) _ _ apc om om ht' hr2 h1 (λst' hk f2=>fB st' hk ?_))
    exact(f0.trans (Fr.put s1 o.dst (.val undef)) (W:=iL o.dst++kU l.toArray o) (n:=WF) (λi hi=>by simp[hi]) (λi hi=>by simp[hi]) (λh=>⟨rfl,rfl⟩)).trans f2 (λi hi=>by
     grind[eN]) (λi hi=>by simp[eN,hi]) (λh=>⟨rfl,rfl⟩)
   simp only[uL]at h;split at h
   ·rename_i hg
    exact run s (Fr.refl _ _ _) hr (by simp[Region.wanted,hg]) h
   ·rename_i j want hg
    split at h<;>try trivial
    rename_i t htt;split at h<;>try trivial
    ·rename_i b hb
     obtain⟨hw,hbv⟩:=JH hr hg htt hb;have hl:=hr.lit hbv
     grind[kU,Fr.lit]
    grind[Fr.refl,LB]
 grind
theorem UI(hX:X.Ok){l:J Oper}{q:Bool}{k:TS E->O R}{r:R}{Q:TS E->Prop}(h:aa9 X l i q m st k=W0 r)
  (fB:∀st',k st'=W0 r->Fr (eN l.toArray ((l.drop i).take m)) (cD ((l.drop i).take m)) st st'->xP w0 G0 X.P l.toArray (i+m) st' Q):xP w0 G0 X.P l.toArray i st Q:=by
 intro a w G hr;unfold aa9 at h;cases q<;>simp at h
 ·obtain⟨h1,h2⟩:=dX h
  rw[cH]at h1;have hm:=lG h1.2;have hlen:((l.drop i).take m).length=m:=by simp;omega
  have key:=XZ (Q':=cK E w0 G0 (oD Q)) ((l.drop i).take m) i (l.toArray.size-(i+m)) (am5 hm) (by rw[hlen];exact h1.1) a w (rH hX h2 w0 G0 a w G hr) (λe a w hp=>?_)
  ·grind
  ·obtain⟨x,s,G',he,hr',hk,hf⟩:=hp
   cases x with
   | normal=>
    refine⟨by cases e<;>first|rfl|exact he.elim,?_⟩;rw[hlen]
    exact fB s hk hf a w G' hr'
   | _=>cases hk
 ·obtain⟨h1,h2⟩:=dX h
  rw[cH]at h1;exact adj hX h1.1 (lG h1.2) h2 (λst' hk hf=>fB st' hk (hf.wide (λ_ h=>h) (λ_=>rfl))) hr
theorem xP.mono{Q Q':TS E->Prop}(hq:∀s,Q s->Q' s)(h:xP w0 G0 P ops i st Q):xP w0 G0 P ops i st Q':=by
 intro a w G hr
 have key:∀(fuel:Nat)(listed:aJ Bool)(a:Act)(w:U){Q1 Q2:Exit->Act->U->Prop},(∀e a w,Q1 e a w->Q2 e a w)->wpAny P .any ops Q1 fuel listed a w->wpAny P .any ops Q2 fuel listed a w:=by
  intro fuel
  induction fuel with
  | zero=>intro listed a w Q1 Q2 hq h;exact⟨h.1,hq _ _ _ h.2⟩
  | succ fuel ih=>
   intro listed a w Q1 Q2 hq h;refine⟨λhe=>hq _ _ _ (h.1 he),λi hi=>?_⟩;have h1:=h.2 i hi;unfold wpOp at h1⊢;split
   ·grind
   ·rename_i o ho
    rw[ho]at h1;simp only at h1;split
    ·rename_i hw
     rw[if_pos hw]at h1;rcases h1 with h1|⟨h1,a1,w1,h2⟩
     ·exact .inl (pW (λa w h=>ih _ a w hq h) hq h1)
     ·exact .inr ⟨h1,a1,w1,hq _ _ _ h2⟩
    grind
 exact key _ _ _ _ (λe a w hp=>cK.mono (λx s hh=>⟨hh.1,hq _ hh.2⟩) hp) (h a w G hr)
theorem Gf{all:aJ Oper}:∀(l:J Oper)(a b:Nat)(i:Nat),i∈eN all ((l.drop a).take b)->i∈eN all l
 | [],a,b,i,h=>by simp at h;exact h
 | o::l,0,0,i,h=>by simp[eN]at h
 | o::l,0,b+1,i,h=>by
  simp[eN]at h⊢;rcases h with h|h|h
  ·exact .inl h
  ·exact .inr (.inl h)
  ·exact .inr (.inr (Gf l 0 b i (by simpa using h)))
 | o::l,a+1,b,i,h=>by
  simp[eN];exact .inr (.inr (Gf l a b i (by simpa using h)))
theorem Bt:∀(l:J Oper)(a b:Nat),cD l=WF->cD ((l.drop a).take b)=WF
 | [],a,b,h=>by simp[cD]
 | o::l,0,0,h=>by simp[cD]
 | o::l,0,b+1,h=>by
  simp only[cD,cH]at h;simp only[PN,aeM,cD,cH]
  exact⟨h.1,by simpa using Bt l 0 b h.2⟩
 | o::l,a+1,b,h=>by
  simp_all[cD,Bt]
theorem JI{R:Type}(hX:X.Ok){l:J Oper}{k:TS E->O R}{r:R}{w0:U}{G0:bx}:∀(ss:J agb)(i:Nat){st:TS E},LC X l i ss st k=W0 r ->
  xP w0 G0 X.P l.toArray i st (λst'=>k st'=W0 r/\Fr (eN l.toArray l) (cD l) st st')
 | [],i,st,h=>by
  simp[LC]at h;cases hi:ST i l.length<;>rw[hi]at h<;>simp only[aY,aM]at h
  ·cases h
  simp_all[xP.done,Fr.refl]
 | s::ss,i,st,h=>by
  simp[LC]at h;split at h
  ·refine UI hX h λst' hk hf=>?_
   refine xP.mono (λs' hh=>⟨hh.1,hf.trans hh.2 (λj hj=>Gf l i s.m j hj) (λj hj=>hj) (λhn=>⟨Bt l i s.m hn,hn⟩)⟩) (JI hX ss (i+s.m) hk)
  ·rename_i c hc
   obtain⟨h1,h2⟩:=dX h;rw[cH]at h1
   cases hs:aa9 X l i s.q s.m st (λst'=>c.pack st st')with
   | none=>rw[hs]at h2;cases h2
   | some x=>
    rw[hs]at h2;intro a w G hr;have hpre:=hr.pre;refine UI hX hs (λst' hk hf=>?_) a w G hr;intro a' w' G' hr';obtain⟨⟨G2,hR⟩,hF⟩:=z6 hX.E hpre hr' (hf.wide (λ_ h=>h) (λ_=>Bt l i s.m h1.2)) h1.1 hk;exact xP.mono (λs' hh=>⟨hh.1,hF.trans hh.2 (λj hj=>Gf l i s.m j hj) (λj hj=>hj) (λhn=>⟨rfl,hn⟩)⟩) (JI hX ss (i+s.m) h2) a' w' G2 hR
theorem age(hX:X.Ok){ss:J agb}{k:TS E->O R}{r:R}(h:LC X ops.toList 0 ss st k=W0 r):
  Is E X.P (.region id ops WF) st (λx st'=>x=.normal/\k st'=W0 r/\Fr (eN ops ops.toList) (cD ops.toList) st st'):=by
 intro w0 G0 a w G hr;have hs:fh w {w with drawn:=w.drawn+1}:=⟨eu _,λ_ _=>rfl⟩;have hr':=hr.grow hs rfl rfl rfl G.pr (λ_ _ h=>h) (λ_ _ _ h=>h) (λb o hp=>jS (hr.boxes.gu b o hp).1 hs.1);have h1:=JI hX ss 0 h a _ _ hr';refine wp_region_any hX.mix ?_;rw[ako];exact h1
theorem kT.trans{w1 w2:U}{G1 G2:bx}(h:kT w0 G0 w1 G1)(h':kT w1 G1 w2 G2):kT w0 G0 w2 G2:=by
 have Er:∀b,b<w0.heap.size->G1.Er b->G0.Er b:=by
  intro b hb hf;rcases hf with hf|⟨x,hd,hm,hbk⟩
  ·obtain⟨q,hq,he⟩:=lH hf
   have Uq:G1.i[q]? = W0 b:=by rw[<-he];exact fJ hq
   by_cases tS:q<G0.i.length
   ·have e1:=h.goes.i q _ (fJ tS)
    rw[Uq]at e1;exact .inl (by rw[rQ e1];exact iJ tS)
   ·have:=h.qO q b om Uq;omega
  ·obtain⟨j,hj,he⟩:=lH hm
   rcases h.gM j x hd b (by rw[<-he];exact fJ hj) hbk with q|⟨x0,h0,q1,q2⟩
   ·omega
   ·exact .inr ⟨x0,h0,jx q1,q2⟩
 refine⟨h'.os.trans h.os,h'.tape.trans h.tape,h'.output.trans h.output,oM h.size h'.size,λb hb hn=>(h'.old b (jS hb h.size) (λhf=>hn (Er b hb hf))).trans (h.old b hb hn),h.goes.trans h'.goes,λb o hb hp=>?_,λr b h1 h2=>?_,λj x hd b hj hbk=>?_⟩
 ·rcases h'.oz b o (jS hb h.size) hp with q|⟨x,hd,hm,hbk⟩
  ·exact h.oz b o hb q
  ·obtain⟨j,hj,he⟩:=lH hm
   rcases h.gM j x hd b (by rw[<-he];exact fJ hj) hbk with q|⟨x0,h0,q1,q2⟩
   ·omega
   ·exact .inr ⟨x0,h0,jx q1,q2⟩
 ·by_cases hr:r<G1.i.length
  ·have e1:=h'.goes.i r _ (fJ hr)
   rw[h2]at e1;exact h.qO r b h1 (by rw[rQ e1];exact fJ hr)
  ·exact oM h.size (h'.qO r b om h2)
 ·rcases h'.gM j x hd b hj hbk with q|⟨x0,h0,q1,q2⟩
  ·exact .inl (oM h.size q)
  ·exact h.gM j x0 h0 b q1 q2
theorem Rel.root(h:Rel E w0 G0 st a w G):Rel E w G {st with d:=[]} a w G:=
 ⟨kT.refl w G,h.size,h.tmps,h.defers,h.boxes,λ_ _ _ _=>rfl,h.Us,h.gv⟩
theorem Rel.OE{G':bx}{a':Act}{st':TS E}(h:Rel E w0 G0 st a w G)(h':Rel E w G st' a' w' G'):Rel E w0 G0 {st' with d:=st'.d++st.d} a' w' G':=
 ⟨h.ff.trans h'.ff,h'.size,h'.tmps,h'.defers,h'.boxes,λr b hb hd=>by
  rw[p8,not_or]at hd;exact(h'.fix r b (h.ff.goes.i r b hb) hd.1).trans (h.fix r b hb hd.2),h.pins,h'.gv⟩
theorem Fr.OE{nd:Bool}{st':TS E}(h:Fr W nd {st with d:=[]} st'):Fr W nd st {st' with d:=st'.d++st.d}:=by
 obtain⟨D,hD,hH⟩:=h.d;simp at hD;exact⟨h.len,h.keep,⟨D,by rw[hD],hH⟩,h.hl,h.df⟩
def Mz(ws:U)(Gs:bx)(R:J Nat)(w':U):Prop:=
 (∀r b,r∈R->Gs.i[r]? = W0 b->w'.heap[b]? = ws.heap[b]?)/\∀b o u,Gs.pr b o->ws.cell? ⟨b,o,WP⟩=W0 u->w'.cell? ⟨b,o,WP⟩=W0 u
def pinned(R:J Nat)(st:TS E):Bool:=R.all λr=>!(st.d.elem r)
theorem Rel.pin{R:J Nat}(h:Rel E ws Gs st a w G)(hR:pinned R st=WF):Mz ws Gs R w:=
 ⟨λr b hr hb=>h.fix r b hb (λhm=>by
  have:=pE.1 hR r hr
  simp_all),h.ff.goes.cells⟩
def UJ(R:J Nat)(first:Bool)(st:TS E):Op->Bool
 | .load _ x=>match st.ev x with
  | .ptr r _=>R.elem r
  | .sV _ _ _=>first
  | _=>UV
 | _=>WF
def wM(P:bh)(ops:aJ Oper)(Q:Exit->Act->U->Prop)(S:U->Prop)(Z:J Nat):Nat->aJ Bool->Act->U->Prop
 | 0,listed,a,w=>Region.ready .any ops listed=[]/\Q .normal a w
 | fuel+1,listed,a,w=>
  (Region.ready .any ops listed=[]->Q .normal a w) /\
  ∀i∈Region.ready .any ops listed,wpOp P ops Q i (λa' w'=>(Z.elem i=UV->S w')/\wM P ops Q S Z fuel (listed.setIfInBounds i WF) a' w') a w
theorem LF{P:bh}{ops:aJ Oper}{Q:Exit->Act->U->Prop}{S:U->Prop}{Z:J Nat}:∀(fuel:Nat)(listed:aJ Bool)(a:Act)(w:U),wM P ops Q S Z fuel listed a w->wpAny P .any ops Q fuel listed a w
 | 0,_,_,_,h=>h
 | fuel+1,_,_,_,h=>⟨h.1,λi hi=>wpOp_mono (λa' w' h'=>LF fuel _ a' w' h'.2) (h.2 i hi)⟩
theorem aba(G4:ops[i]? = W0 oi)(hsel:∀(j:Nat)(o:Oper) cs b,ops[j]? = W0 o->o.op≠.select cs b)
  (hQ:∀c a w,Q (.panic c) (a.put oi.dst v) w->Q (.panic c) a w) {B:J Nat} (hZ:∀j,Z.elem j=WF->j∈B) (hB:∀j∈B,∃oj,ops[j]? = W0 oj/\∃e∈oj.after,Region.binds .any e=WF/\(e.on=i\/e.on∈B)) :
  ∀(fuel:Nat)(listed:aJ Bool)(a:Act)(w:U),
   (∀j oj,ops[j]? = W0 oj->j≠i->listed.getD j WF=UV->(∀e∈oj.after,Region.binds .any e=WF->e.on≠i)->oi.apart ops oj=WF) ->
   (∀j∈B,listed.getD j WF=UV)->i∈Region.ready .any ops listed->YieldsIf P ops S oi v a->S w ->
   wM P ops Q S Z fuel (listed.setIfInBounds i WF) (a.put oi.dst v) w->wM P ops Q S Z (fuel+1) listed a w:=by
 intro fuel
 induction fuel with
 | zero=>
  intro listed a w _ _ hr hy hS H;refine⟨λh=>(by rw[h]at hr;cases hr),λj hj=>?_⟩;by_cases hji:j=i
  ·subst hji;exact hy.wpOp G4 hS ⟨λ_=>hS,H⟩
  ·have:=ready_mono hj hji
   rw[H.1]at this
   cases this
 | succ fuel ih=>
  intro listed a w hfree hL hr hy hS H;refine⟨λh=>(by rw[h]at hr;cases hr),λj hj=>?_⟩;by_cases hji:j=i
  ·subst hji;exact hy.wpOp G4 hS ⟨λ_=>hS,H⟩
  ·have h1:=H.2 j (ready_mono hj hji)
   obtain⟨Oz,oj,OA,hall⟩:=mem_ready.1 hj;have hpi:=(mem_ready.1 hr).1
   have hnot:∀e∈oj.after,Region.binds .any e=WF->e.on≠i:=λe he hb heq=>by
    grind
   have h2:=wpOp_putIf OA (hfree j oj OA hji Oz hnot) (λcs b=>hsel i oi cs b G4) (λcs b=>hsel j oj cs b OA) hQ hy h1
   have OB:∀k ok,ops[k]? = W0 ok->k≠i->(listed.setIfInBounds j WF).getD k WF=UV ->
     (∀e∈ok.after,Region.binds .any e=WF->e.on≠i)->oi.apart ops ok=WF:=λk ok hk hki hun hno=>by
    refine hfree k ok hk hki ?_ hno;by_cases hjk:j=k
    ·subst hjk;exact Oz
    ·rw[getD_set_ne WF hjk]at hun;exact hun
   have hjB:j∉B:=λhjB=>by
    grind
   have hjZ:Z.elem j=UV:=by
    grind
   have hL':∀k∈B,(listed.setIfInBounds j WF).getD k WF=UV:=λk hk=>by
    rw[getD_set_ne WF (λe=>hjB (by rw[e];exact hk))];exact hL k hk
   refine wpOp_mono (λa' w' h3=>⟨h3.2.1,ih (listed.setIfInBounds j WF) a' w' OB hL' (ready_mono hr (Ne.symm hji)) h3.1 (h3.2.1 hjZ) ?_⟩) h2
   grind[Array.setIfInBounds_comm]
def gdT{R':Type}(all:aJ Oper)(o:Oper)(st:TS E)(run skip:TS E->O R'):O R':=match o.guard with
 | none=>run st
 | some (j,want)=>match (all[j]?).bind (·.dst)with
  | some t=>match st.at t with
   | .dat .bool b=>cond b
     (cond want (run {st with t:=st.t.set t (.dat .bool WF)}) (skip {st with t:=st.t.set t (.dat .bool WF)}))
     (cond want (skip {st with t:=st.t.set t (.dat .bool UV)}) (run {st with t:=st.t.set t (.dat .bool UV)}))
   | .val (.bool _)=>WP
   | .val _=>skip st
   | _=>WP
  | none=>WP
def hasDep(all:aJ Oper)(i:Nat)(S:J Nat)(j:Nat):Bool:=match all[j]? with
 | some o=>o.after.any (λe=>Region.binds .any e&&(ST e.on i||S.elem e.on))
 | none=>UV
def upG(all:aJ Oper)(i:Nat):J Nat->J Nat->J Nat
 | [],acc=>acc
 | j::js,acc=>upG all i js (cond (hasDep all i acc j) (j::acc) acc)
def aed(all:aJ Oper)(Z:J Nat)(L:aJ Bool)(i:Nat)(B:J Nat):Bool:=Z.all (B.elem ·)&&B.all λj=>hasDep all i B j && !(L.getD j WF)
def behind(all:aJ Oper)(Z:J Nat)(L:aJ Bool)(i:Nat):Bool:=cond Z.isEmpty WF (aed all Z L i (upG all i (R0 all.size) []))
theorem ah8(h:behind all Z L i=WF):∃B:J Nat,(∀j,Z.elem j=WF->j∈B)/\∀j∈B,L.getD j WF=UV/\∃oj,all[j]? = W0 oj/\∃e∈oj.after,Region.binds .any e=WF/\(e.on=i\/e.on∈B):=by
 unfold behind at h;cases hz:Z.isEmpty<;>rw[hz]at h<;>simp at h
 ·unfold aed at h
  rw[cH]at h;refine⟨_,λj hj=>PW (pE.1 h.1 j (PW hj)),λj hj=>?_⟩;have h2:=pE.1 h.2 j hj
  grind[hasDep,Array.any_eq_true',Nat.eq_of_beq_eq_true,List.mem_of_elem_eq_true]
 ·refine⟨[],λj hj=>?_,λj hj=>by cases hj⟩
  simp_all
noncomputable def MA{R':Type}(X:Cx E)(R Z:J Nat)(all:aJ Oper):J (Nat×Bool)->Nat->aJ Bool->TS E->(Nat->TS E->O R')->O R'
 | [],f,_,st,k=>k f st
 | p::is,f,L,st,k=>match all[p.1]? with
  | none=>WP
  | some o=>cond p.2
    (rq ((Region.free .any all L p.1&&(Region.ready .any all L).contains p.1)&&(Nat.ble f 1&&behind all Z L p.1)) (gdT all o st
     (λst=>rq (UJ R (ST f 0) st o.op) (Wq X st o (λst'=>MA X R Z all is f (L.setIfInBounds p.1 WF) st' k)))
     (λst=>MA X R Z all is f (L.setIfInBounds p.1 WF) {st with t:=cz st.t o.dst (.val undef)} k)))
    (rq (Region.ready .any all L==[p.1]) (gdT all o st
     (λst=>XY X st o (jC (λst'=>cond (Z.elem p.1) (MA X R Z all is 2 (L.setIfInBounds p.1 WF) st' k) (rq (pinned R st') (MA X R Z all is 1 (L.setIfInBounds p.1 WF) st' k))) λ_ _=>WP))
     (λst=>rq (Nat.ble f 1||Z.elem p.1) (MA X R Z all is f (L.setIfInBounds p.1 WF) {st with t:=cz st.t o.dst (.val undef)} k))))
structure yI where
 l:List (Nat×Bool)
 c:Option Cut
def ZJ(L:aJ Bool):J (Nat×Bool)->aJ Bool
 | []=>L
 | p::l=>ZJ (L.setIfInBounds p.1 WF) l
def qo(all:aJ Oper)(l:J (Nat×Bool)):J Oper:=l.filterMap λp=>all[p.1]?
noncomputable def Qt{R':Type}(X:Cx E)(R Z:J Nat)(all:aJ Oper):J yI->Nat->aJ Bool->TS E->(TS E->O R')->O R'
 | [],_,L,st,k=>rq (Region.ready .any all L).isEmpty (k st)
 | s::ss,f,L,st,k=>match s.c with
  | none=>MA X R Z all s.l f L st (λf' st'=>Qt X R Z all ss f' (ZJ L s.l) st' k)
  | some c=>rq (c.okW (eN all (qo all s.l))&&cD all.toList) ((MA X R Z all s.l f L st (λ_ st'=>c.pack st st')).bind λx=>rq (pinned R (c.un (eN all (qo all s.l)) st x)) (Qt X R Z all ss 1 (ZJ L s.l) (c.un (eN all (qo all s.l)) st x) k))
def yI.n:J yI->Nat
 | []=>0
 | s::ss=>s.l.length+yI.n ss
def nV(ws:U)(Gs:bx)(R Z:J Nat)(P:bh)(ops:aJ Oper)(f n:Nat)(L:aJ Bool)(st:TS E)(Q:TS E->Prop):Prop:=
 ∀a w G,Rel E ws Gs st a w G->(f=0->w.heap=ws.heap/\G=Gs)->(f<=1->Mz ws Gs R w)->wM P ops (cK E ws Gs (oD Q)) (Mz ws Gs R) Z n L a w
theorem nV.done{R:J Nat}{Q:TS E->Prop}(hL:(Region.ready .any ops L).isEmpty=WF)(h:Q st):∀n,nV ws Gs R Z P ops f n L st Q:=by
 have hL:=List.isEmpty_iff.1 hL;intro n a w G hr _ _;have hq:cK E ws Gs (oD Q) .normal a w:=⟨.normal,st,G,trivial,hr,rfl,h⟩
 cases n with
 | zero=>exact⟨hL,hq⟩
 | succ n=>exact⟨λ_=>hq,λi hi=>by rw[hL]at hi;cases hi⟩
theorem agf(hX:X.Ok){R:J Nat}{first:Bool}{k:TS E->O R'}{r:R'}(hl:UJ R first st o.op=WF)(h:Wq X st o k=W0 r)(hr:Rel E ws Gs st a w G)
  (hf:first=WF->w.heap=ws.heap/\G=Gs) (hp:Mz ws Gs R w) (Bu:∀q,q∈R->q<Gs.i.length) :
  ∃v st',(∀w',Mz ws Gs R w'->(execOp a.eval o).run X.P w'=.ok (.value v) w')/\Rel E ws Gs st' (a.put o.dst v) w G/\k st'=W0 r/\Fr (iL o.dst) WF st st':=by
 cases hld:TR o.op with
 | false=>
  obtain⟨v,st',h1,h2,h3,h4⟩:=UH hX h hr
  exact⟨v,st',λw' _=>h1 w' (λhh=>by rw[hld]at hh;cases hh),h2,h3,h4⟩
 | true=>
  obtain⟨t,x,ho⟩:∃t x,o.op=.load t x:=by cases ho:o.op<;>rw[ho]at hld<;>first|exact⟨_,_,rfl⟩|cases hld
  unfold Wq at h;split at h
  ·rename_i pc pd TO
   obtain⟨h1,h2⟩:=GZ h;obtain⟨p,hpd⟩:∃p:Bool×TV E,p=(pc,pd):=⟨_,rfl⟩;rw[<-hpd]at TO;have apd:pc=p.1:=by rw[hpd]
   have ape:pd=p.2:=by rw[hpd]
   rw[apd]at h1;rw[ape]at h2;clear hpd apd ape
   have asu:Uk X.P X.ty st o.op=W0 p\/Ul X.P st o.op=W0 p:=by
    grind[Um,ZD]
   rcases asu with TO|hpn
   rotate_left
   ·rw[ho]at hpn hl
    simp only[Ul]at hpn;simp only[UJ]at hl;have hv:=hr.ev x;split at hpn<;>try trivial
    rename_i i r' off hi hd;rw[hd]at hv hl;have hrR:=PW hl;split at hpn<;>try trivial
    rename_i e cap T xs d' hb;cases hpn;obtain⟨b,he,hat⟩:=hv;obtain⟨cur,q1,q2,q4,q5,q6⟩:=hr.box hat hb;simp only[cH,Ej]at h1;obtain⟨c1,c2,c3⟩:=h1;have c1:=eM c1;have c3:=eM c3;subst c3
    have hGs:Gs.i[r']? = W0 b:=by
     have hlt:=Bu r' hrR;have e1:=hr.ff.goes.i r' _ (fJ hlt)
     simp_all
    refine⟨_,_,λw' hP=>?_,hr.put q5 o.dst,h2,Fr.put _ _ _⟩;have hh':w'.heap[b]? = W0 (.cells cur e (0,0)):=by rw[hP.1 r' b hrR hGs,<-hp.1 r' b hrR hGs];exact q1
    have hrun:=My (P:=X.P) hi c1 c2 w' (XO hh' (by rw[q2];exact q6));simp only[execOp,ho,he,jm,hrun,jL,pz]
   have OG:Qi X.P X.ty st o.op=W0 p\/(Qi X.P X.ty st o.op=WP/\Uf X.P X.ty st o.op=W0 p):=by
    grind[Uk,Ui,Ug,ZA,ZC]
   rw[ho]at OG hl;rcases OG with OG|⟨-,OG⟩
   rotate_left
   ·simp_all[Uf]
   simp only[Qi]at OG;simp only[UJ]at hl;have hv:=hr.ev x;split at OG<;>try trivial
   ·rename_i i T y off hi hd
    rw[hd]at hv hl;subst hl;obtain⟨hw,hG⟩:=hf rfl;subst hG;have hcell:∀a,w.cell? a=ws.cell? a:=λa=>by unfold World.cell?;rw[hw]
    obtain⟨b,o',c,he,q1,q2⟩:=hv;have hpart:=Ll hX.E q1 (CJ OG);obtain⟨v,Mp,Uv⟩:=sZ (P:=X.P) hi (λl u hl=>(q2 l u hl).2) hpart;refine⟨v,_,λw' hP=>?_,hr.put Mp o.dst,h2,Fr.put _ _ _⟩;have hrow:∀(l:Nat) u,c[l]? = W0 u->w'.cell? ⟨b,o'+l,WP⟩=W0 u:=λl u hl=>hP.2 _ _ _ (q2 l u hl).1 (by simp_all)
    have hrun:(Instr.loadAt t (.pointer (W0 ⟨b,o'+off,WP⟩))).run X.P w'=.ok v w':=by
     have e0:=Uv w (fh.refl w)
     have key:∀(W:U),(∀(l:Nat) u,c[l]? = W0 u->W.cell? ⟨b,o'+l,WP⟩=W0 u)->∀(p1:Part E w G c i.isAgg i.size off p.2),(Instr.loadAt t (.pointer (W0 ⟨b,o'+off,WP⟩))).run X.P W=.ok (cond i.isAgg (.agg ((c.drop off).take i.size).toArray) (c.getD off undef)) W:=by
      intro W hW p1
      have s7:∀l,l<c.length->W.cell? ⟨b,o'+l,WP⟩=W0 (c.getD l undef):=λl hl=>by
       simp_all
      cases ha:i.isAgg<;>rw[ha]at p1<;>simp only[aY,aM]at p1⊢
      ·obtain⟨u,hu,-⟩:=p1
       have hl:=(eY.1 hu).1;rw[mL hi b o' c.length (λl=>c.getD l undef) s7 off (by rw[ha];exact hl) W (fh.refl W),ha];rfl
      ·obtain⟨hl,-⟩:=p1
       rw[mL hi b o' c.length (λl=>c.getD l undef) s7 off (by rw[ha];exact hl) W (fh.refl W),ha];simp only[aY];congr 3;apply Au
       ·simp;omega
       grind
     simp_all
    simp only[execOp,ho,he,jm,hrun,jL,pz]
   ·rename_i i r' off hi hd
    rw[hd]at hv hl;have hrR:=PW hl;split at OG<;>try trivial
    rename_i t' cs hb;obtain⟨b,he,hat⟩:=hv;obtain⟨vs,hh,q1,q2⟩:=hr.box hat hb
    have hGs:Gs.i[r']? = W0 b:=by
     have hlt:=Bu r' hrR;have e1:=hr.ff.goes.i r' _ (fJ hlt)
     simp_all
    have hpart:=Jy hX.E q2 (λu hu=>q1 u (by simpa using hu)) (CJ OG)
    obtain⟨v,Mp,Uv⟩:=sZ (P:=X.P) (w:=w) (b:=b) (o':=0) hi (λl u hl=>by
     grind[cell_of_row]) hpart
    refine⟨v,_,λw' hP=>?_,hr.put Mp o.dst,h2,Fr.put _ _ _⟩;have hh':w'.heap[b]? = W0 (.cells vs t' (0,0)):=by rw[hP.1 r' b hrR hGs,<-hp.1 r' b hrR hGs];exact hh
    have hrun:(Instr.loadAt t (.pointer (W0 ⟨b,0+off,WP⟩))).run X.P w'=.ok v w':=by
     have e0:=Uv w (fh.refl w)
     have key:∀(W:U),W.heap[b]? = W0 (.cells vs t' (0,0))->(Instr.loadAt t (.pointer (W0 ⟨b,0+off,WP⟩))).run X.P W=.ok (cond i.isAgg (.agg ((vs.toList.drop off).take i.size).toArray) (vs.toList.getD off undef)) W:=by
      intro W hW
      have s7:∀l,l<vs.toList.length->W.cell? ⟨b,0+l,WP⟩=W0 (vs.toList.getD l undef):=λl hl=>by
       grind[cell_of_row]
      have p1:=hpart;cases ha:i.isAgg<;>rw[ha]at p1<;>simp only[aY,aM]at p1⊢
      ·obtain⟨u,hu,-⟩:=p1
       have hl:=(eY.1 hu).1;rw[mL hi b 0 vs.toList.length (λl=>vs.toList.getD l undef) s7 off (by rw[ha];exact hl) W (fh.refl W),ha];rfl
      ·obtain⟨hl,-⟩:=p1
       rw[mL hi b 0 vs.toList.length (λl=>vs.toList.getD l undef) s7 off (by rw[ha];exact hl) W (fh.refl W),ha];simp only[aY];congr 3;apply Au
       ·simp;simp at hl;omega
       grind
     simp_all
    rw[qJ]at hrun;simp only[execOp,ho,he,jm,hrun,jL,pz]
  ·rw[ho]at h;cases h
theorem SG{run skip:TS E->O R'}{r:R'}(h:gdT all o st run skip=W0 r)(hr:Rel E w0 G0 st a w G):
  ∃s1,Fr (kU all o) WF st s1/\Rel E w0 G0 s1 a w G/\((Region.wanted o (yielded all a.tmps)=WF/\run s1=W0 r)\/(Region.wanted o (yielded all a.tmps)=UV/\skip s1=W0 r)):=by
 unfold gdT at h;split at h
 ·rename_i hg
  exact⟨st,Fr.refl _ _ _,hr,.inl ⟨by simp[Region.wanted,hg],h⟩⟩
 ·rename_i j want hg
  split at h<;>try trivial
  rename_i t htt;split at h<;>try trivial
  ·rename_i b hb
   obtain⟨hw,hbv⟩:=JH hr hg htt hb;have hl:=hr.lit hbv
   grind[kU,Fr.lit]
  grind[Fr.refl,LB]
theorem wO{R':Type}(hX:X.Ok){R Z:J Nat}{all:aJ Oper}(uK:Region.noSelect all=WF){ws:U}{Gs:bx}(Bu:∀q,q∈R->q<Gs.i.length){Q:TS E->Prop}{n:Nat}{k:Nat->TS E->O R'}{r:R'}:
  ∀(is:J (Nat×Bool))(f:Nat)(L:aJ Bool){st:TS E},MA X R Z all is f L st k=W0 r ->
   (∀f' st',k f' st'=W0 r->Fr (eN all (qo all is)) (cD (qo all is)) st st'->nV ws Gs R Z X.P all f' n (ZJ L is) st' Q)->nV ws Gs R Z X.P all f (is.length+n) L st Q
 | [],f,L,st,h,fB=>by
  simp
  exact fB f st h (Fr.refl _ _ _)
 | (i,q)::is,f,L,st,h,fB=>by
  intro a w G hr hf hp;simp only[MA]at h;split at h<;>try trivial
  rename_i o ho;have hQp:∀c a w,¬ cK E ws Gs (oD Q) (.panic c) a w:=λc a w hp=>by have:=cK.oD hp;cases this
  have nw:qo all ((i,q)::is)=o::qo all is:=by simp[qo,ho]
  have hfr:∀ {s1 s2 s3:TS E}{nd:Bool},(nd=!(Fw o.op)\/nd=WF)->Fr (kU all o) WF st s1->Fr (iL o.dst) nd s1 s2->Fr (eN all (qo all is)) (cD (qo all is)) s2 s3->Fr (eN all (qo all ((i,q)::is))) (cD (qo all ((i,q)::is))) st s3:=by
   intro s1 s2 s3 nd hnd f0 f1 f2;rw[nw]
   refine(f0.trans f1 (W:=iL o.dst++kU all o) (λi hi=>by simp[hi]) (λi hi=>by simp[hi]) (λh=>⟨rfl,h⟩)).trans f2 (λi hi=>by
     grind[eN]) (λi hi=>by simp[eN,hi]) (λh=>by
     simp_all[cD])
  rw[show((i,q)::is).length+n=(is.length+n)+1 by simp;omega]
  have ama:∀(s1:TS E),Fr (kU all o) WF st s1->Rel E ws Gs s1 a w G->MA X R Z all is f (L.setIfInBounds i WF) {s1 with t:=cz s1.t o.dst (.val undef)} k=W0 r ->
    wM X.P all (cK E ws Gs (oD Q)) (Mz ws Gs R) Z (is.length+n) (L.setIfInBounds i WF) (a.put o.dst undef) w:=by
   intro s1 f0 eX h1;have hr2:=eX.put (v:=undef) (d:=.val undef) (by simp[VT]) o.dst;exact wO hX uK Bu is f _ h1 (λf' st' hk f2=>fB f' st' hk (hfr (.inr rfl) f0 (Fr.put s1 o.dst (.val undef)) f2)) _ w G hr2 hf hp
  cases q<;>simp only[aY,aM]at h
  ·obtain⟨h1,h⟩:=dX h
   refine⟨λhe=>(by rw[he]at h1;cases h1),λj hj=>?_⟩;have hji:j=i:=by simp_all
   subst hji;obtain⟨s1,f0,eX,hc⟩:=SG h hr;unfold wpOp;simp only[ho];rcases hc with⟨hw,h2⟩|⟨hw,h2⟩
   ·rw[if_pos hw]
    have hop:=Ox hX h2 ws Gs a w G eX;refine .inl (pW (λa' w' hn=>?_) (λe a' w' TO=>?_) hop)
    ·obtain⟨s2,G2,hr2,hk,f1⟩:=hn
     cases hz:Z.elem j<;>rw[hz]at hk<;>simp at hk
     ·obtain⟨abb,hk⟩:=dX hk
      have hp2:=hr2.pin abb;exact⟨λ_=>hp2,wO hX uK Bu is 1 _ hk (λf' st' hk' f2=>fB f' st' hk' (hfr (.inl rfl) f0 f1 f2)) a' w' G2 hr2 (λe=>by cases e) (λ_=>hp2)⟩
     ·exact⟨λe=>(by cases e),wO hX uK Bu is 2 _ hk (λf' st' hk' f2=>fB f' st' hk' (hfr (.inl rfl) f0 f1 f2)) a' w' G2 hr2 (λe=>by cases e) (λe=>om)⟩
    ·obtain⟨x,s2,G2,he,hr2,hn,hk,f1⟩:=TO
     grind
   ·rw[if_neg (by rw[hw];simp)]
    obtain⟨h3,h2⟩:=dX h2;refine⟨λhz=>hp ?_,ama s1 f0 eX h2⟩
    simp_all
  ·obtain⟨h1,h⟩:=dX h
   simp only[cH]at h1;obtain⟨h1,hf1,hbe⟩:=h1;have hp:=hp (lG hf1);obtain⟨B,hZ,hB⟩:=ah8 hbe
   have first:∀v,YieldsIf X.P all (Mz ws Gs R) o v a->wM X.P all (cK E ws Gs (oD Q)) (Mz ws Gs R) Z (is.length+n) (L.setIfInBounds i WF) (a.put o.dst v) w ->
     wM X.P all (cK E ws Gs (oD Q)) (Mz ws Gs R) Z ((is.length+n)+1) L a w:=λv hy hh=>
    aba ho (ae5 uK) (λc a w hp=>(hQp _ _ _ hp).elim) hZ (λj hj=>(hB j hj).2) _ _ a w (ae6 ho h1.1) (λj hj=>(hB j hj).1) (by simpa using h1.2) hy hp hh
   obtain⟨s1,f0,eX,hc⟩:=SG h hr;rcases hc with⟨hw,h2⟩|⟨hw,h2⟩
   ·obtain⟨hl,h2⟩:=dX h2
    obtain⟨v,s2,hrun,hr2,hk,f1⟩:=agf hX hl h2 eX (λe=>hf (eM e)) hp Bu;exact first v (.inl ⟨hw,hrun⟩) (wO hX uK Bu is f _ hk (λf' st' hk' f2=>fB f' st' hk' (hfr (.inr rfl) f0 f1 f2)) _ w G hr2 hf (λ_=>hp))
   ·exact first undef (.inr ⟨hw,rfl⟩) (ama s1 f0 eX h2)
theorem Ws{all:aJ Oper}{o:Oper}:∀ {l:J Oper},o∈l->∀i,i∈iL o.dst++kU all o->i∈eN all l
 | [],h,_,_=>by cases h
 | o'::l,h,i,hi=>by
  simp[eN];rcases iy.1 h with rfl|h
  ·simp at hi
   rcases hi with hi|hi
   ·exact .inl hi
   ·exact .inr (.inl hi)
  ·exact .inr (.inr (Ws h i hi))
theorem LG{l:J (Nat×Bool)}(h:o∈qo all l):o∈all.toList:=by
 obtain⟨p,_,hp⟩:=List.mem_filterMap.1 h
 grind
theorem SH{all:aJ Oper}:∀ {l:J Oper},(∀o,o∈l->o∈all.toList)->∀i,i∈eN all l->i∈eN all all.toList
 | [],_,i,h=>by cases h
 | o::l,hm,i,h=>by
  simp[eN]at h;rcases h with h|h|h
  ·exact Ws (hm o si) i (by simp[h])
  ·exact Ws (hm o si) i (by simp[h])
  ·exact SH (λo h=>hm o (by simp[h])) i h
theorem UK{l m:J Oper}(hm:∀o,o∈l->o∈m)(h:cD m=WF):cD l=WF:=by
 have key:∀(l:J Oper),cD l=WF↔∀o,o∈l->(!(Fw o.op))=WF:=by
  intro l
  induction l with
  | nil=>simp[cD]
  | cons o l ih=>simp_all[cD]
 simp_all
theorem nV.mono{R:J Nat}{n:Nat}{Q Q':TS E->Prop}(hq:∀s,Q s->Q' s)(h:nV ws Gs R Z P ops f n L st Q):nV ws Gs R Z P ops f n L st Q':=by
 intro a w G hr hf hp
 have key:∀(fuel:Nat)(listed:aJ Bool)(a:Act)(w:U){Q1 Q2:Exit->Act->U->Prop}{S:U->Prop},(∀e a w,Q1 e a w->Q2 e a w)->wM P ops Q1 S Z fuel listed a w->wM P ops Q2 S Z fuel listed a w:=by
  intro fuel
  induction fuel with
  | zero=>intro listed a w Q1 Q2 S hq h;exact⟨h.1,hq _ _ _ h.2⟩
  | succ fuel ih=>
   intro listed a w Q1 Q2 S hq h;refine⟨λhe=>hq _ _ _ (h.1 he),λi hi=>?_⟩;have h1:=h.2 i hi;unfold wpOp at h1⊢;split
   ·grind
   ·rename_i o ho
    rw[ho]at h1;simp only at h1;split
    ·rename_i hw
     rw[if_pos hw]at h1;rcases h1 with h1|⟨h1,a1,w1,h2⟩
     ·exact .inl (pW (λa w h=>⟨h.1,ih _ a w hq h.2⟩) hq h1)
     ·exact .inr ⟨h1,a1,w1,hq _ _ _ h2⟩
    grind
 exact key _ _ _ _ (λe a w hp=>cK.mono (λx s hh=>⟨hh.1,hq _ hh.2⟩) hp) (h a w G hr hf hp)
theorem JJ{R':Type}(hX:X.Ok){R Z:J Nat}{all:aJ Oper}(uK:Region.noSelect all=WF){ws:U}{Gs:bx}(Bu:∀q,q∈R->q<Gs.i.length){n:Nat}{k:TS E->O R'}{r:R'}:
  ∀(ss:J yI)(f:Nat)(L:aJ Bool){st:TS E},Qt X R Z all ss f L st k=W0 r->nV ws Gs R Z X.P all f (yI.n ss+n) L st (λst'=>k st'=W0 r/\Fr (eN all all.toList) (cD all.toList) st st')
 | [],f,L,st,h=>by
  grind[Qt,dX,nV.done,Fr.refl]
 | s::ss,f,L,st,h=>by
  have hW:∀j,j∈eN all (qo all s.l)->j∈eN all all.toList:=SH (λo ho=>LG ho);have hN:cD all.toList=WF->cD (qo all s.l)=WF:=UK (λo ho=>LG ho);simp[Qt]at h;rw[show yI.n (s::ss)+n=s.l.length+(yI.n ss+n) by simp[yI.n];omega];split at h
  ·refine wO hX uK Bu s.l f L h λf' st' hk hf=>?_
   exact nV.mono (λs' hh=>⟨hh.1,hf.trans hh.2 hW (λj hj=>hj) (λhn=>⟨hN hn,hn⟩)⟩) (JJ hX uK Bu ss f' _ hk)
  ·rename_i c hc
   obtain⟨h1,h2⟩:=dX h;rw[cH]at h1
   cases hs:MA X R Z all s.l f L st (λ_ st'=>c.pack st st')with
   | none=>rw[hs]at h2;cases h2
   | some x=>
    rw[hs]at h2;obtain⟨h3,h2⟩:=dX h2;intro a w G hr;have hpre:=hr.pre;refine wO hX uK Bu s.l f L hs (λf' st' hk hf=>?_) a w G hr;intro a' w' G' hr' _ _;obtain⟨⟨G2,hR⟩,hF⟩:=z6 hX.E hpre hr' (hf.wide (λ_ h=>h) (λ_=>hN h1.2)) h1.1 hk;exact nV.mono (λs' hh=>⟨hh.1,hF.trans hh.2 hW (λj hj=>hj) (λhn=>⟨rfl,hn⟩)⟩) (JJ hX uK Bu ss 1 _ h2) a' w' G2 hR (λe=>by cases e) (λ_=>hR.pin h3)
noncomputable def fG{R':Type}(X:Cx E)(R Z:J Nat)(ops:aJ Oper)(ss:J yI)(st:TS E)(k:TS E->O R'):O R':=
 rq ((Region.noSelect ops&&Nat.ble (yI.n ss) ops.size)&&R.all (λq=>So q st.H.length)) (Qt X R Z ops ss 0 (Array.replicate ops.size UV) {st with d:=[]} (λst'=>k {st' with d:=st'.d++st.d}))
theorem adk(hX:X.Ok){R:J Nat}{ss:J yI}{k:TS E->O R'}{r:R'}(h:fG X R Z ops ss st k=W0 r):
  Is E X.P (.region id ops WF) st (λx st'=>x=.normal/\k st'=W0 r/\Fr (eN ops ops.toList) (cD ops.toList) st st'):=by
 intro w0 G0 a w G hr;have hs:fh w {w with drawn:=w.drawn+1}:=⟨eu _,λ_ _=>rfl⟩;have hr':=hr.grow hs rfl rfl rfl G.pr (λ_ _ h=>h) (λ_ _ _ h=>h) (λb o hp=>jS (hr.boxes.gu b o hp).1 hs.1);obtain⟨h1,h2⟩:=dX h;simp only[cH]at h1;obtain⟨⟨uK,hn⟩,hR⟩:=h1;have hn:=lG hn
 have Bu:∀q,q∈R->q<G.i.length:=λq hq=>by
  have:=CR.1 (pE.1 hR q hq);rw[hr.boxes.len];exact this
 have hroot:=hr'.root;have h3:=JJ hX uK Bu (n:=ops.size-yI.n ss) ss 0 _ h2 a _ G hroot (λ_=>⟨rfl,rfl⟩) (λ_=>⟨λ_ _ _ _=>rfl,λ_ _ _ _ h=>h⟩);rw[show yI.n ss+(ops.size-yI.n ss)=ops.size by omega]at h3;refine wp_region_any hX.mix ?_;have h4:=LF _ _ _ _ h3
 have key:∀(fuel:Nat)(listed:aJ Bool)(a:Act)(w:U){Q1 Q2:Exit->Act->U->Prop},(∀e a w,Q1 e a w->Q2 e a w)->wpAny X.P .any ops Q1 fuel listed a w->wpAny X.P .any ops Q2 fuel listed a w:=by
  intro fuel
  induction fuel with
  | zero=>intro listed a w Q1 Q2 hq h;exact⟨h.1,hq _ _ _ h.2⟩
  | succ fuel ih=>
   intro listed a w Q1 Q2 hq h;refine⟨λhe=>hq _ _ _ (h.1 he),λi hi=>?_⟩;have h1:=h.2 i hi;unfold wpOp at h1⊢;split
   ·grind
   ·rename_i o ho
    rw[ho]at h1;simp only at h1;split
    ·rename_i hw
     rw[if_pos hw]at h1;rcases h1 with h1|⟨h1,a1,w1,h2⟩
     ·grind[pW]
     ·exact .inr ⟨h1,a1,w1,hq _ _ _ h2⟩
    grind
 refine key _ _ _ _ (λe a' w' hp=>?_) h4;obtain⟨x,s,G',he,hrr,rfl,hk,hF⟩:=hp;exact⟨.normal,_,G',he,hr'.OE hrr,rfl,hk,hF.OE⟩
inductive FT where
 | done
 | step (i:Nat) (q:Bool) (t:FT)
 | fork (i:Nat) (t:FT) (j:Nat) (u:FT)
def FT.n:FT->Nat
 | .done=>0
 | .step _ _ t=>t.n+1
 | .fork _ t _ u=>Nat.max t.n u.n+1
noncomputable def ZK{R':Type}(X:Cx E)(R:J Nat)(all:aJ Oper)(i f:Nat)(st:TS E)(k:Nat->TS E->O R'):O R':=match all[i]? with
 | none=>WP
 | some o=>gdT all o st
   (λst=>XY X st o (jC (λst'=>rq (pinned R st') (k 1 st')) λ_ _=>WP))
   (λst=>rq (Nat.ble f 1) (k f {st with t:=cz st.t o.dst (.val undef)}))
noncomputable def goF{R':Type}(X:Cx E)(R:J Nat)(all:aJ Oper):FT->Nat->aJ Bool->TS E->(TS E->O R')->O R'
 | .done,_,L,st,k=>rq (Region.ready .any all L).isEmpty (k st)
 | .step i q t,f,L,st,k=>MA X R [] all [(i,q)] f L st (λf' st'=>goF X R all t f' (L.setIfInBounds i WF) st' k)
 | .fork i t j u,f,L,st,k=>rq (Region.ready .any all L==[i,j]) (agree
   (ZK X R all i f st (λf' st'=>goF X R all t f' (L.setIfInBounds i WF) st' k))
   (ZK X R all j f st (λf' st'=>goF X R all u f' (L.setIfInBounds j WF) st' k)))
theorem akp(h:all[i]? = W0 o){q:Bool}:qo all [(i,q)]=[o]:=by simp[qo,h]
theorem Ry(hX:X.Ok){R:J Nat}{Q:TS E->Prop}{n:Nat}{k:Nat->TS E->O R'}{r:R'}(h:ZK X R all i f st k=W0 r)
  (fB:∀f' st',k f' st'=W0 r->Fr (eN all (qo all [(i,UV)])) (cD (qo all [(i,UV)])) st st'->nV ws Gs R [] X.P all f' n (L.setIfInBounds i WF) st' Q)    (hr:Rel E ws Gs st a w G) (hf:f=0->w.heap=ws.heap/\G=Gs) (hp:f<=1->Mz ws Gs R w) :
  wpOp X.P all (cK E ws Gs (oD Q)) i (λa' w'=>(([]:J Nat).elem i=UV->Mz ws Gs R w')/\wM X.P all (cK E ws Gs (oD Q)) (Mz ws Gs R) [] n (L.setIfInBounds i WF) a' w') a w:=by
 unfold ZK at h;split at h<;>try trivial
 rename_i o ho
 have hfr:∀ {s1 s2:TS E}{nd:Bool},(nd=!(Fw o.op)\/nd=WF)->Fr (kU all o) WF st s1->Fr (iL o.dst) nd s1 s2->Fr (eN all (qo all [(i,UV)])) (cD (qo all [(i,UV)])) st s2:=by
  intro s1 s2 nd hnd f0 f1;rw[akp ho]
  exact f0.trans f1 (λi hi=>by simp[eN,hi]) (λi hi=>by simp[eN,hi]) (λh=>by
    simp_all[cD])
 obtain⟨s1,f0,eX,hc⟩:=SG h hr;unfold wpOp;simp only[ho];rcases hc with⟨hw,h2⟩|⟨hw,h2⟩
 ·rw[if_pos hw]
  have hop:=Ox hX h2 ws Gs a w G eX;refine .inl (pW (λa' w' hn=>?_) (λe a' w' TO=>?_) hop)
  ·obtain⟨s2,G2,hr2,hk,f1⟩:=hn
   obtain⟨abb,hk⟩:=dX hk;have hp2:=hr2.pin abb;exact⟨λ_=>hp2,fB 1 _ hk (hfr (.inl rfl) f0 f1) a' w' G2 hr2 (λe=>by cases e) (λ_=>hp2)⟩
  ·obtain⟨x,s2,G2,he,hr2,hn,hk,f1⟩:=TO
   grind
 ·rw[if_neg (by rw[hw];simp)]
  obtain⟨h3,h2⟩:=dX h2;have hp2:=hp (lG h3);exact⟨λ_=>hp2,fB f _ h2 (hfr (.inr rfl) f0 (Fr.put s1 o.dst (.val undef))) _ w G (eX.put (by simp[VT]) o.dst) hf hp⟩
theorem ah9(hX:X.Ok){R:J Nat}(uK:Region.noSelect all=WF)(Bu:∀q,q∈R->q<Gs.i.length){k:TS E->O R'}{r:R'}:
  ∀(t:FT)(n f:Nat)(L:aJ Bool){st:TS E},t.n<=n->goF X R all t f L st k=W0 r->nV ws Gs R [] X.P all f n L st (λst'=>k st'=W0 r/\Fr (eN all all.toList) (cD all.toList) st st'):=by
 have hW:∀l,∀j,j∈eN all (qo all l)->j∈eN all all.toList:=λl=>SH (λo ho=>LG ho);have hN:∀l,cD all.toList=WF->cD (qo all l)=WF:=λl=>UK (λo ho=>LG ho);intro t
 induction t with
 | done=>
  grind[goF,dX,nV.done,Fr.refl]
 | step i q t ih=>
  intro n f L st hn h;simp[FT.n]at hn;obtain⟨m,rfl⟩:∃m,n=[(i,q)].length+m:=⟨n-1,bp⟩;refine wO hX uK Bu [(i,q)] f L h λf' st' hk hf=>?_
  exact nV.mono (λs' hh=>⟨hh.1,hf.trans hh.2 (hW _) (λj hj=>hj) (λhn=>⟨hN _ hn,hn⟩)⟩) (ih m f' _ (by simp at hn;omega) hk)
 | fork i t j u iht ihu=>
  intro n f L st hn h;simp[FT.n]at hn;obtain⟨h1,h2⟩:=dX h;obtain⟨ha,hb⟩:=Br h2;obtain⟨m,rfl⟩:∃m,n=m+1:=⟨n-1,om⟩;have hmt:=oM (Nat.le_max_left t.n u.n) (Nat.le_of_succ_le_succ hn);have hmu:=oM (Nat.le_max_right t.n u.n) (Nat.le_of_succ_le_succ hn);intro a w G hr hf hp;refine⟨λhe=>(by rw[he]at h1;cases h1),λq hq=>?_⟩;have ZZ:q=i\/q=j:=by simp_all
  rcases ZZ with rfl|rfl
  ·exact Ry hX ha (λf' st' hk hf=>nV.mono (λs' hh=>⟨hh.1,hf.trans hh.2 (hW _) (λj hj=>hj) (λhn=>⟨hN _ hn,hn⟩)⟩) (iht m f' _ hmt hk)) hr hf hp
  ·exact Ry hX hb (λf' st' hk hf=>nV.mono (λs' hh=>⟨hh.1,hf.trans hh.2 (hW _) (λj hj=>hj) (λhn=>⟨hN _ hn,hn⟩)⟩) (ihu m f' _ hmu hk)) hr hf hp
noncomputable def LH{R':Type}(X:Cx E)(R:J Nat)(ops:aJ Oper)(c:Cut)(t:FT)(st:TS E)(k:TS E->O R'):O R':=
 rq (((Region.noSelect ops&&Nat.ble t.n ops.size)&&R.all (λq=>So q st.H.length))&&(c.okW (eN ops ops.toList)&&cD ops.toList))
  ((goF X R ops t 0 (Array.replicate ops.size UV) {st with d:=[]} (λst'=>c.pack {st with d:=[]} st')).bind λx=>
    k {c.un (eN ops ops.toList) {st with d:=[]} x with d:=(c.un (eN ops ops.toList) {st with d:=[]} x).d++st.d})
theorem adl(hX:X.Ok){R:J Nat}{t:FT}{k:TS E->O R'}{r:R'}(h:LH X R ops c t st k=W0 r):
  Is E X.P (.region id ops WF) st (λx st'=>x=.normal/\k st'=W0 r/\Fr (eN ops ops.toList) (cD ops.toList) st st'):=by
 intro w0 G0 a w G hr;have hs:fh w {w with drawn:=w.drawn+1}:=⟨eu _,λ_ _=>rfl⟩;have hr':=hr.grow hs rfl rfl rfl G.pr (λ_ _ h=>h) (λ_ _ _ h=>h) (λb o hp=>jS (hr.boxes.gu b o hp).1 hs.1);obtain⟨h1,h2⟩:=dX h;simp only[cH]at h1;obtain⟨⟨⟨uK,hn⟩,hR⟩,hcW,hnd⟩:=h1;have hn:=lG hn
 have Bu:∀q,q∈R->q<G.i.length:=λq hq=>by
  have:=CR.1 (pE.1 hR q hq);rw[hr.boxes.len];exact this
 have hroot:=hr'.root
 cases hg:goF X R ops t 0 (Array.replicate ops.size UV) {st with d:=[]} (λst'=>c.pack {st with d:=[]} st')with
 | none=>rw[hg]at h2;cases h2
 | some x=>
 rw[hg]at h2;have h3:=ah9 hX uK Bu t ops.size 0 _ hn hg a _ G hroot (λ_=>⟨rfl,rfl⟩) (λ_=>⟨λ_ _ _ _=>rfl,λ_ _ _ _ h=>h⟩);refine wp_region_any hX.mix ?_;have h4:=LF _ _ _ _ h3
 have key:∀(fuel:Nat)(listed:aJ Bool)(a:Act)(w:U){Q1 Q2:Exit->Act->U->Prop},(∀e a w,Q1 e a w->Q2 e a w)->wpAny X.P .any ops Q1 fuel listed a w->wpAny X.P .any ops Q2 fuel listed a w:=by
  intro fuel
  induction fuel with
  | zero=>intro listed a w Q1 Q2 hq h;exact⟨h.1,hq _ _ _ h.2⟩
  | succ fuel ih=>
   intro listed a w Q1 Q2 hq h;refine⟨λhe=>hq _ _ _ (h.1 he),λi hi=>?_⟩;have h1:=h.2 i hi;unfold wpOp at h1⊢;split
   ·grind
   ·rename_i o ho
    rw[ho]at h1;simp only at h1;split
    ·rename_i hw
     rw[if_pos hw]at h1;rcases h1 with h1|⟨h1,a1,w1,h2⟩
     ·grind[pW]
     ·exact .inr ⟨h1,a1,w1,hq _ _ _ h2⟩
    grind
 refine key _ _ _ _ (λe a' w' hp=>?_) h4;obtain⟨x',s,G',he,hrr,rfl,hk,hF⟩:=hp;obtain⟨⟨G2,hR2⟩,rD⟩:=z6 hX.E hroot.pre hrr (hF.wide (λ_ h=>h) (λ_=>hnd)) hcW hk;refine⟨.normal,_,G2,by cases e<;>first|exact he.elim|trivial,hr'.OE hR2,rfl,h2,?_⟩;exact(rD.wide (λ_ h=>h) (λ_=>rfl)).OE
def vp(st:TS E)(dst:O Nat)(d:TV E):TS E:={st with t:=cz st.t dst d}
structure Bv where
 m1:Oper
 cv:Oper
 as:Oper
 m2:Oper
 cl:Oper
 q1:Oper
 q3:Oper
 q4:Oper
 x1:Operand
 sT:TypeId
 bT:TypeId
 f:FuncId
 call:Call
 x5:Operand
 rest:List Oper
def SI(A B C:J Oper):O Bv:=match A,B,C with
 | [m1,cv,as],[m2,cl],q1::q3::q4::rest=>match m1.op,cv.op,cl.op with
  | .move x1,.convert sT bT _,.call c=>match c.callee,q1.op with
   | .value (.func f),.move x5=>W0 ⟨m1,cv,as,m2,cl,q1,q3,q4,x1,sT,bT,f,c,x5,rest⟩
   | _,_=>WP
  | _,_,_=>WP
 | _,_,_=>WP
def Qu(x:dB)(d:O Nat)(n:Nat):Bool:=match x,d with
 | .tmp i,W0 j=>ST i j&&So i n
 | _,_=>UV
variable{d:O Nat}{x:dB}
theorem CS{n:Nat}(h:Qu x d n=WF):∃i,x=.tmp i/\d=W0 i/\i<n:=by
 unfold Qu at h
 grind[Nat.eq_of_beq_eq_true,CR]
def OH(d e:O Nat):Bool:=match d,e with
 | some i,W0 j=>!(ST i j)
 | _,_=>WF
def opAs(o:Oper)(d:O Nat)(n:Nat):Bool:=match o.op with
 | .assign x=>Qu x d n
 | _=>UV
def agh(o:Oper)(d:O Nat)(n:Nat):Bool:=match o.op with
 | .move x=>Qu x d n
 | _=>UV
def agi(o:Oper)(s t:aK)(d:O Nat)(n:Nat):Bool:=match o.op with
 | .convert s' t' x=>ST s' s&&(ST t' t&&Qu x d n)
 | _=>UV
def MB(o:Oper):Bool:=match o.guard with
 | none=>WF
 | some _=>UV
def Bv.tys(P:bh)(s:Bv):Bool:=match aV P s.sT,aV P s.bT with
 | some ⟨.string,_,_,_⟩,W0 ⟨.slice e,_,_,_⟩=>match aV P e with
  | some ⟨.int .u8,_,_,_⟩=>WF
  | _=>UV
 | _,_=>UV
def Bv.ok(X:Cx E)(n:Nat)(s:Bv):Bool:=
 ((MB s.m1&&(MB s.cv&&(MB s.as&&(MB s.m2&&MB s.cl))))&&(MB s.q1&&(MB s.q3&&MB s.q4))) &&
 ((agi s.cv s.sT s.bT s.m1.dst n&&(opAs s.as s.cv.dst n&&agh s.m2 s.as.dst n))&&(agh s.q3 s.as.dst n&&agi s.q4 s.bT s.sT s.q3.dst n)) &&
 ((match s.call.args.toList with | [x]=>Qu x s.m2.dst n|_=>UV)&&(OH s.as.dst s.m2.dst&&(OH s.as.dst s.cl.dst&&OH s.as.dst s.q1.dst))) &&
 (s.tys X.P&&(match X.rv with|some g=>ST g s.f|none=>UV))
def Bv.s5(s:Bv)(st:TS E)(l:J UInt8):TS E:=vp (vp (vp (vp (vp st s.m1.dst (.dat .str l)) s.cv.dst .any) s.as.dst .any) s.m2.dst .any) s.cl.dst .any
def Bv.s6(s:Bv)(st:TS E)(l:J UInt8):TS E:=vp (s.s5 st l) s.q1.dst ((s.s5 st l).ev s.x5)
def Bv.s9(s:Bv)(st:TS E)(l:J UInt8):TS E:=vp (vp (s.s6 st l) s.q3.dst .any) s.q4.dst (.dat .str l.reverse)
noncomputable def akq{R:Type}(X:Cx E)(A B C:aJ Oper)(st:TS E)(k:Ex E->TS E->O R):O R:=match SI A.toList B.toList C.toList with
 | none=>WP
 | some s=>match st.ev s.x1 with
  | .dat .str l=>cond (s.ok X st.t.length&&(cD A.toList&&(cD B.toList&&cD C.toList))) (rq (T1 (l.length<=9223372036854775807)) (uo X C s.rest (s.s9 st l) k)) WP
  | _=>WP
variable{rest:J Oper}
theorem uq(hg:MB o=WF)(h:(execOp a.eval o).run P w=.ok (.value v) w')(hk:wpList P ops Q rest (a.put o.dst v) w'):wpList P ops Q (o::rest) a w:=by
 unfold wpList;have:o.guard=WP:=by grind[MB]
 rw[if_pos (by simp[Region.wanted,this])];refine .inl ?_;unfold Oper.wp;rw[h];exact hk
theorem adm{f:FuncId}{args:aJ Value}(hg:MB o=WF)(h:(execOp a.eval o).run P w=.ok (.enter f args) w)(hk:Calls P f args w λe w'=>∃v,e=.returned v/\wpList P ops Q rest (a.put o.dst v) w'):wpList P ops Q (o::rest) a w:=by
 unfold wpList;have:o.guard=WP:=by grind[MB]
 rw[if_pos (by simp[Region.wanted,this])];refine .inl ?_;unfold Oper.wp;rw[h];refine Gr hk λe w'' he=>?_
 grind
theorem UL(ho:o.op=.move x):(execOp a.eval o).run P w=.ok (.value (a.eval x)) w:=by simp[execOp,ho]
theorem apf(ho:o.op=.assign x):(execOp a.eval o).run P w=.ok (.value (a.eval x)) w:=by simp[execOp,ho]
theorem eval_put(hd:d=W0 i)(hi:i<a.tmps.size):(a.put d v).eval (.tmp i)=v:=by
 have:=CI a d v i;rw[if_pos ⟨hd,hi⟩]at this;exact this
theorem UM(hd:d≠W0 i):(a.put d v).eval (.tmp i)=a.eval (.tmp i):=by
 have:=CI a d v i;rw[if_neg (λh=>hd h.1)]at this;exact this
theorem OI{e:O Nat}(h:OH (W0 i) e=WF):e≠W0 i:=by
 intro he
 simp_all[OH]
theorem Rz(w:U)(e:aK)(l:J UInt8):Sort.Holds (Value.int .u8) (Lib.bytesWorld w e ⟨⟨l⟩⟩) w.heap.size 0 (cV l).toArray:=by
 intro j hj;have hj':j<l.length:=by simpa[cV]using hj
 have e1:(cV l).toArray[j]! = ((l.getD j 0).toNat:Int):=by simp_all[cV]
 rw[qJ,e1];refine⟨Lib.bytesWorld_cell w e ⟨⟨l⟩⟩ j hj',?_⟩;unfold World.frozen?
 have hsz:j<(Lib.bytesCells w e ⟨⟨l⟩⟩).size:=by
  unfold Lib.bytesCells
  grind
 grind[Lib.bytesWorld_at_new]
variable{B A C:J Oper}{s:Bv}
theorem agj(hX:X.Ok)(hs:SI A B C=W0 s){l:J UInt8}(hx:st.ev s.x1=.dat .str l)(hok:s.ok X st.t.length=WF)(hl:l.length<=9223372036854775807)
     (hr:Rel E w0 G0 st a w G) :
  ∃a3 w1,(∀ops Q,Q .normal a3 w1->wpList X.P ops Q A a w)/\∃W2:Act->U->Prop,(∀ops Q,(∀a5 w2,W2 a5 w2->Q .normal a5 w2)->wpList X.P ops Q B a3 w1) /\
   ∀a5 w2,W2 a5 w2->∃a9,(∃G',Rel E w0 G0 (s.s9 st l) a9 w2 G')/\∀ops Q,wpList X.P ops Q s.rest a9 w2->wpList X.P ops Q C a5 w2:=by
 have hsz:=hr.size;unfold SI at hs;split at hs<;>try trivial
 rename_i m1 cv as m2 cl q1 q3 q4 rest;split at hs<;>try trivial
 rename_i x1 sT bT xc c Xs GR hcl;split at hs<;>try trivial
 rename_i f x5 akr hq1;cases hs;simp only[Bv.ok,cH]at hok;obtain⟨⟨⟨⟨⟨g1,g2,g3,g4,g5⟩,g6,g8,g9⟩,⟨k1,k2,k3⟩,k4,k5⟩,k6,n1,n2,n3⟩,hty,hrv⟩:=hok;dsimp only at hx;unfold agi at k1;rw[GR]at k1;simp only[cH]at k1;obtain⟨y1,rfl,d1,l1⟩:=CS k1.2.2;unfold opAs at k2;split at k2<;>try trivial
 rename_i xa has;obtain⟨y2,rfl,d2,l2⟩:=CS k2;unfold agh at k3;split at k3<;>try trivial
 rename_i xm hm2;obtain⟨y3,rfl,d3,l3⟩:=CS k3;unfold agh at k4;split at k4<;>try trivial
 rename_i xq hq3;obtain⟨y3',rfl,d3',l3'⟩:=CS k4;have:y3'=y3:=by simp_all
 subst this;unfold agi at k5;split at k5<;>try trivial
 rename_i bT' sT' xz hq4;simp only[cH]at k5;have e1:=eM k5.1;have e2:=eM k5.2.1;subst e1 e2;obtain⟨y8,rfl,d8,l8⟩:=CS k5.2.2;split at k6<;>try trivial
 rename_i xk hargs;obtain⟨y4,rfl,d4,l4⟩:=CS k6;rw[d3]at n1 n2 n3;have n1:=OI n1;have n2:=OI n2;have n3:=OI n3;unfold Bv.tys at hty;split at hty<;>try trivial
 rename_i i1 i2 z1 e i3 i4 z2 hts htb;split at hty<;>try trivial
 rename_i i5 i6 z3 hte;obtain⟨_,_,Rt,-⟩:=aP hts;obtain⟨_,_,hub,-⟩:=aP htb;obtain⟨_,_,Bb,-⟩:=aP hte;split at hrv<;>try trivial
 rename_i g hg;have hf:=eM hrv;subst hf;have hR:=hX.rv g hg;have vr:=hr.ev x1;rw[hx]at vr;have asv:=vr.iq;obtain⟨V,hV⟩:∃V:Value,V=.slice (W0 ⟨w.heap.size,0,WP⟩) l.length (grownCap w l.length 0 e):=⟨_,rfl⟩;obtain⟨w1,hw1⟩:∃w1,w1=Lib.bytesWorld w e ⟨⟨l⟩⟩:=⟨_,rfl⟩;have r1:=hr.put (v:=a.eval x1) (d:=.dat .str l) (by simp_all) m1.dst;have r2:=r1.put (v:=V) (d:=.any) (by simp only[VT]) cv.dst;have r3:=r2.put (v:=V) (d:=.any) (by simp only[VT]) as.dst;have r4:=r3.put (v:=V) (d:=.any) (by simp only[VT]) m2.dst;have r5:=r4.put (v:=.tuple #[]) (d:=.any) (by simp only[VT]) cl.dst;have sz:∀(b:Act)(d:O Nat)(v:Value),(b.put d v).tmps.size=b.tmps.size:=Lj;refine⟨((a.put m1.dst (a.eval x1)).put cv.dst V).put as.dst V,w1,λops Q hQ=>?_,λa5 w2=>a5=((((a.put m1.dst (a.eval x1)).put cv.dst V).put as.dst V).put m2.dst V).put cl.dst (.tuple #[])/\∃n,w2=Sort.putRow (Value.int .u8) (Sort.ahead w1 n) w.heap.size 0 (cV l).reverse.toArray,λops Q hQ=>?_,?_⟩
 ·refine uq g1 (UL Xs) (uq (v:=V) (w':=w1) g2 ?_ (uq (v:=V) (w':=w1) g3 ?_ hQ))
  ·have hrun:(convert sT' bT' ((a.put m1.dst (a.eval x1)).eval (.tmp y1))).run X.P w=.ok V w1:=by
    rw[eval_put d1 (by rw[hsz];exact l1),asv,hV,hw1];exact Lib.run_convert_string_bytes w sT' bT' e ⟨⟨l⟩⟩ Rt hub Bb
   simp only[execOp,GR,jm,hrun,jL,pz]
  simp_all[apf,eval_put]
 ·refine uq (v:=V) (w':=w1) g4 ?_ (adm (f:=g) (args:=#[V]) g5 ?_ ?_)
  ·simp_all[UL,eval_put]
  ·have Mx:=r4.ev (.func g)
   obtain⟨vs,hfe,hvs⟩:=Mx;have hvs:vs.toList=[]:=by simp_all[bI]
   have hvs:vs=#[]:=by simp_all
   subst hvs;have ha:c.args=#[.tmp y4]:=by grind
   have asw:((((a.put m1.dst (a.eval x1)).put cv.dst V).put as.dst V).put m2.dst V).eval (.tmp y4)=V:=eval_put d4 (by simp_all)
   have:(execOp ((((a.put m1.dst (a.eval x1)).put cv.dst V).put as.dst V).put m2.dst V).eval cl).run X.P w1=(callFunc g #[V]).run X.P w1:=by
    simp only[execOp,hcl,resolve,akr,hfe,Deferred.ofValue,jm,pz,jL,invoke,ha];simp[asw]
   rw[this,hR.enters]
  ·have hlen:(cV l).length=l.length:=by simp[cV]
   have hH:Sort.Holds (Value.int .u8) w1 w.heap.size 0 (cV l).toArray:=by simp_all[Rz]
   have hc:=hR.call w.heap.size (grownCap w l.length 0 e) (cV l) w1 hH (by rw[hlen];exact hl);rw[hlen,<-hV]at hc;refine hc.mono λe' w' he=>?_;obtain⟨rfl,n,hn⟩:=he;exact⟨_,rfl,hQ _ _ ⟨rfl,n,hn⟩⟩
 ·rintro a5 w2 ⟨rfl,n,AQ⟩
  have e3:(((a.put m1.dst (a.eval x1)).put cv.dst V).put as.dst V).eval (.tmp y3')=V:=eval_put d3 (by simp_all);have e5:(((((a.put m1.dst (a.eval x1)).put cv.dst V).put as.dst V).put m2.dst V).put cl.dst (.tuple #[])).eval (.tmp y3')=V:=by simp_all[UM]
  have s5:(((((a.put m1.dst (a.eval x1)).put cv.dst V).put as.dst V).put m2.dst V).put cl.dst (.tuple #[])).tmps.size=a.tmps.size:=by rw[sz,sz,sz,sz,sz]
  generalize(((((a.put m1.dst (a.eval x1)).put cv.dst V).put as.dst V).put m2.dst V).put cl.dst (.tuple #[]))=a5 at r5 e5 s5⊢;have r6:=r5.put (r5.ev x5) q1.dst;have r8:=r6.put (v:=V) (d:=.any) (by simp only[VT]) q3.dst;have r9:=r8.put (v:=mkStr l.reverse) (d:=.dat .str l.reverse) (.str _ _ _) q4.dst;have e7:(a5.put q1.dst (a5.eval x5)).eval (.tmp y3')=V:=by simp_all[UM]
  have hold:∀j,j<w.heap.size->w2.heap[j]? = w.heap[j]?:=λj hj=>by
   rw[AQ]
   have h1:(Sort.putRow (Value.int .u8) (Sort.ahead w1 n) w.heap.size 0 (cV l).reverse.toArray).heap[j]? = w1.heap[j]?:=by
    simp only[Sort.putRow,Sort.mapBlock,Sort.ahead,Array.getElem?_modify];rw[if_neg om]
   simp_all[Lib.bytesWorld_at_old]
  have hsize:w.heap.size<=w2.heap.size:=by
   grind
  refine⟨_,⟨_,r9.grow (w':=w2) ⟨hsize,hold⟩ (by rw[AQ,hw1];rfl) (by rw[AQ,hw1];rfl) (by rw[AQ,hw1];rfl) G.pr (λ_ _ h=>h) (λ_ _ _ h=>h) (λb o hp=>jS (r9.boxes.gu b o hp).1 hsize)⟩,λops Q hQ=>?_⟩;refine uq g6 (UL hq1) (uq (v:=V) (w':=w2) g8 ?_ (uq (v:=mkStr l.reverse) (w':=w2) g9 ?_ hQ))
  ·rw[UL hq3,e7]
  ·have e8:((a5.put q1.dst (a5.eval x5)).put q3.dst V).eval (.tmp y8)=V:=eval_put d8 (by simp_all)
   have hH:=Sort.holds_putRow (Value.int .u8) (Sort.ahead w1 n) w.heap.size 0 (cV l).toArray (cV l).reverse.toArray (by
    have:=Rz w e l;rw[<-hw1]at this;intro j hj;exact this j hj) si
   rw[<-AQ]at hH;have hlen:(cV l).reverse.length=l.length:=by simp[cV]
   have hcell:∀(j:Nat) m,(cV l).reverse[j]? = W0 m->w2.cell? ((⟨w.heap.size,0,WP⟩:Addr).add j)=W0 (.int .u8 m):=λj m hj=>by
    have hjl:j<(cV l).reverse.length:=(eY.1 hj).1;have:=(hH j (by simpa using hjl)).1
    simp_all[add_lit,cV,eY]
   have hb:=GP (P:=X.P) (w:=w2) ⟨w.heap.size,0,WP⟩ (grownCap w l.length 0 e) (cV l).reverse hcell;rw[hlen,<-hV]at hb
   have Ur:cu (cV l).reverse=l.reverse:=by
    simp_all[cu,cV,List.map_reverse,yD,R8,Zm]
   rw[Ur]at hb
   have hrun:(convert bT' sT' V).run X.P w2=.ok (mkStr l.reverse) w2:=by
    rw[hV]at hb⊢;unfold convert;simp only[jm,aS Rt,aS hub,jL,aS Bb,hb]
   simp only[execOp,hq4,e8,jm,hrun,jL,pz]
variable{dst:O Nat}
theorem Fr.vp{s1:TS E}(h:Fr W WF st s1)(d:TV E)(hd:∀i,i∈iL dst->i∈W):Fr W WF st (vp s1 dst d):=
 h.trans (Fr.put s1 dst d) (λ_ h=>h) hd (λ_=>⟨rfl,rfl⟩)
theorem apg(hs:SI A B C=W0 s)(st:TS E)(l:J UInt8)(hW:∀o,o∈A++B++C->∀i,i∈iL o.dst->i∈W):Fr W WF st (s.s9 st l):=by
 unfold SI at hs;split at hs<;>try trivial
 split at hs<;>try trivial
 split at hs<;>try trivial
 cases hs;refine Fr.vp (Fr.vp (Fr.vp (Fr.vp (Fr.vp (Fr.vp (Fr.vp (Fr.vp (Fr.refl _ _ _) _ ?_) _ ?_) _ ?_) _ ?_) _ ?_) _ ?_) _ ?_) _ ?_
 all_goals simp_all
theorem aks(hs:SI A B C=W0 s):∃l,C=l++s.rest:=by
 unfold SI at hs;split at hs<;>try trivial
 rename_i m1 cv as m2 cl q1 q3 q4 rest;split at hs<;>try trivial
 split at hs<;>try trivial
 cases hs;exact⟨[q1,q3,q4],rfl⟩
def jj{σ R:Type}(x:O (σ ⊕ R))(k:σ->O R):O R:=x.bind (sm k W0)
def bW{σ R:Type}(body:(σ->O R)->σ->O R):Nat->σ->O R
 | 0,_=>WP
 | n+1,s=>body (bW body n) s
inductive Own where
 | slot (i:Nat) (e:TypeId) (t:Ty)
 | cell (r c:Nat) (e:TypeId) (t:Ty)
 | soft (i:Nat) (e:TypeId) (t:Ty)
 | UN (r c:Nat) (e:TypeId) (t:Ty)
def tf(W:J Nat):J Own->TS E->O (TS E)
 | [],st=>W0 st
 | .slot i e T::os,st=>match st.t[i]? with
  | some (.val (.slice WP 0 0))=>cond (W.elem i) (tf W os {st with t:=st.t.set i (.cA st.g.length 0 T []),g:=st.g++[⟨0,e,T.size E⟩]}) WP
  | _=>WP
 | .cell r c e T::os,st=>match st.H[r]? with
  | some (.cells t cs)=>match cs[c]? with
   | some (.val (.slice WP 0 0))=>tf W os {st with H:=st.H.set r (.cells t (cs.set c (.cA st.g.length 0 T []))),g:=st.g++[⟨0,e,T.size E⟩],d:=r::st.d}
   | _=>WP
  | _=>WP
 | .soft i e T::os,st=>match st.t[i]? with
  | some (.val (.slice WP 0 0))=>cond (W.elem i&&So 0 (T.size E)) (tf W os {st with t:=st.t.set i (.eA st.g.length 0),g:=st.g++[⟨0,e,T.size E⟩],c:=(st.g.length,⟨T,[]⟩)::st.c}) WP
  | _=>WP
 | .UN r c e T::os,st=>match st.H[r]? with
  | some (.cells t cs)=>match cs[c]? with
   | some (.val (.slice WP 0 0))=>cond (So 0 (T.size E)) (tf W os {st with H:=st.H.set r (.cells t (cs.set c (.eA st.g.length 0))),g:=st.g++[⟨0,e,T.size E⟩],d:=r::st.d,c:=(st.g.length,⟨T,[]⟩)::st.c}) WP
   | _=>WP
  | _=>WP
def abc{R:Type}(X:Cx E)(st:TS E)(o:Oper)(k:TS E->O R):O R:=
 match o.guard,o.op with
 | none,.call c=>match c.callee with
  | .value x=>match st.ev x with
   | .uI r=>match st.H[r]? with
    | some (.loop y ds)=>match E.ydn y with
     | some n=>cond (ST c.args.size n) (rG st o.dst y (c.args.toList.map st.ev++ds) (jC k λ_ _=>WP) X.Y) WP
     | none=>WP
    | _=>WP
   | _=>WP
  | _=>WP
 | _,_=>WP
noncomputable def akt{R:Type}(X:Cx E)(ops:aJ Oper)(i:Nat)(st:TS E)(k:Ex E->TS E->O R):O R:=
 match ops.toList.drop i with
 | o::rest=>rq (cD (ops.toList.take i)&&cD rest) (uo X ops (ops.toList.take i) st (jC (λjK=>abc X jK o λIl=>uo X ops rest Il k) k))
 | []=>WP
inductive dQ where
 | leaf
 | yat (i:Nat)
 | region (l:List (Nat×Cut×Bool))
 | draw (l:List agb)
 | fG (R Z:List Nat) (l:List yI)
 | LH (R:List Nat) (c:Cut) (t:FT)
 | rev
 | seq (ow:List Own) (c:Option (Cut×Bool)) (p q:dQ)
 | cond (p q:dQ)
 | loop (ow:List Own) (c:Cut) (p:dQ)
 | JK (ow:List Own) (p q:dQ)
 | abd (p:dQ)
 | range (ow:List Own) (y f:FuncId) (keep:List Nat)
def dQ.l:dQ->dQ
 | .cond p _=>p
 | _=>.leaf
def dQ.r:dQ->dQ
 | .cond _ q=>q
 | _=>.leaf
def wr:Code->J Nat
 | .region _ ops _=>eN ops ops.toList
 | .seq a b=>wr a++wr b
 | .cond _ a b=>wr a++wr b
 | .block _ a=>wr a
 | .scope a=>wr a
 | .loop a=>wr a
 | _=>[]
def jo:Code->Bool
 | .region _ ops _=>cD ops.toList
 | .seq a b=>jo a&&jo b
 | .cond _ a b=>jo a&&jo b
 | .block _ a=>jo a
 | .scope a=>jo a
 | .loop a=>jo a
 | _=>WF
def X4{σ R:Type}(x:O σ):O (σ ⊕ R):=x.bind λs=>W0 (.inl s)
def zR{σ R:Type}(x:O R):O (σ ⊕ R):=x.bind λr=>W0 (.inr r)
noncomputable def agk{R:Type}(X:Cx E)(all:aJ Oper):J (Nat×Cut×Bool)->J Oper->TS E->(Ex E->TS E->O R)->O R
 | [],l,st,k=>uo X all l st k
 | s::cs,l,st,k=>rq (s.2.1.okW (eN all (l.take s.1))&&cD (l.take s.1)) (cond s.2.2
   (jj (uo X all (l.take s.1) st (jC (λst'=>X4 (s.2.1.pack st st')) λe st'=>zR (k e st'))) λx=>agk X all cs (l.drop s.1) (s.2.1.un (eN all (l.take s.1)) st x) k)
   ((uo X all (l.take s.1) st (jC (λst'=>s.2.1.pack st st') λ_ _=>WP)).bind λx=>agk X all cs (l.drop s.1) (s.2.1.un (eN all (l.take s.1)) st x) k))
abbrev UO{R:Type}(i:Nat)(k:Ex E->TS E->O R):Ex E->TS E->O R
 | .exit j,st=>cond (ST j i) (k .normal st) (k (.exit j) st)
 | e,st=>k e st
abbrev aph{R:Type}(k:Ex E->TS E->O R):Ex E->TS E->O R
 | .goto _,_=>WP
 | e,st=>k e st
noncomputable def runT(X:Cx E)(F:Nat):Code->dQ->{R:Type}->TS E->(Ex E->TS E->Option R)->Option R
 | .skip,_,_,st,k=>k .normal st
 | .label _,_,_,st,k=>k .normal st
 | .exit i,_,_,st,k=>k (.exit i) st
 | .ret,_,_,st,k=>k .ret st
 | .region _ ops dr,p,_,st,k=>ZH dr (match p with
   | .draw ss=>LC X ops.toList 0 ss st (k .normal)
   | .fG R Z ss=>fG X R Z ops ss st (k .normal)
   | .LH R c t=>LH X R ops c t st (k .normal)
   | _=>WP) (match p with
   | .region cs=>agk X ops cs ops.toList st k
   | .yat i=>akt X ops i st k
   | _=>uo X ops ops.toList st k)
 | .seq a b,p,_,st,k=>match p with
  | .seq ow c p q=>match tf (wr a++wr b) ow st with
   | none=>WP
   | some st=>match c with
    | none=>runT X F a p st (jC (λst'=>runT X F b q st' k) k)
    | some (c,j)=>rq (c.okW (wr a)&&jo a) (_root_.cond j
     (jj (runT X F a p st (jC (λst'=>X4 (c.pack st st')) λe st'=>zR (k e st'))) λx=>runT X F b q (c.un (wr a) st x) k)
     ((runT X F a p st (jC (λst'=>c.pack st st') λ_ _=>WP)).bind λx=>runT X F b q (c.un (wr a) st x) k))
  | .rev=>match a,b with
   | .region _ A UV,.seq (.region _ B UV) (.seq (.region _ C UV) .ret)=>akq X A B C st (jC (λst'=>k .ret st') k)
   | _,_=>WP
  | _=>runT X F a .leaf st (jC (λst'=>runT X F b .leaf st' k) k)
 | .cond c a b,p,_,st,k=>match st.ev c with
  | .dat .bool v=>_root_.cond v (runT X F a p.l st k) (runT X F b p.r st k)
  | _=>WP
 | .block i a,p,_,st,k=>runT X F a p st (UO i k)
 | .scope a,p,_,st,k=>runT X F a p st (aph k)
 | .loop a,p,_,st,k=>match p with
  | .loop ow c p=>match tf (wr a) ow st with
   | none=>WP
   | some st=>rq (c.okW (wr a)&&jo a) ((c.pack st st).bind λs=>bW (λrc s=>runT X F a p (c.un (wr a) st s) (jC (λst'=>(c.pack st st').bind rc) k)) F s)
  | _=>WP
 | _,_,_,_,_=>WP
variable{ro:O Nat}{F:Fence}{σ:Type}
theorem Is.mono{c:Code}{Q Q':Ex E->TS E->Prop}(h:Is E P c st Q)(hq:∀x s,Q x s->Q' x s):Is E P c st Q':=λw0 G0 a w G hr=>
 wp_mono (h w0 G0 a w G hr) λ_ _ _ hp=>cK.mono hq hp
theorem nW{W:J Nat}{w0 w:U}{G0:bx}{a:Act}:∀ {os:J Own}{st st':TS E}{G:bx},tf W os st=W0 st'->Rel E w0 G0 st a w G->(∃G',Rel E w0 G0 st' a w G')/\Fr W WF st st'
 | [],st,st',G,h,hr=>by cases h;grind[Fr.refl]
 | .slot i e T::os,st,st',G,h,hr=>by
  simp only[tf]at h;split at h<;>try trivial
  rename_i hi;cases hw:W.elem i<;>rw[hw]at h<;>simp only[aY,aM]at h
  ·cases h
  obtain⟨G1,eX⟩:=hr.aqJ hi e T;obtain⟨h1,h2⟩:=nW h eX
  have f1:Fr [i] WF st {st with t:=st.t.set i (.cA st.g.length 0 T []),g:=st.g++[⟨0,e,T.size E⟩]}:=⟨si,λj hj=>by
   grind,⟨[],rfl,λ_ _ _=>rfl⟩,Nat.le_refl _,λ_=>rfl⟩
  exact⟨h1,f1.trans h2 (λj hj=>by simp_all) (λ_ h=>h) (λ_=>⟨rfl,rfl⟩)⟩
 | .cell r c e T::os,st,st',G,h,hr=>by
  simp[tf]at h;split at h<;>try trivial
  rename_i t cs hH;split at h<;>try trivial
  rename_i hc;obtain⟨G1,eX⟩:=hr.ahT hH hc e T;obtain⟨h1,h2⟩:=nW h eX;have f1:Fr [] WF st {st with H:=st.H.set r (.cells t (cs.set c (.cA st.g.length 0 T []))),g:=st.g++[⟨0,e,T.size E⟩],d:=r::st.d}:=⟨rfl,λ_ _=>rfl,⟨[r],rfl,CP _ _ _⟩,si,λ_=>rfl⟩
  exact⟨h1,f1.trans h2 (λj hj=>by cases hj) (λ_ h=>h) (λ_=>⟨rfl,rfl⟩)⟩
 | .soft i e T::os,st,st',G,h,hr=>by
  simp only[tf]at h;split at h<;>try trivial
  rename_i hi;cases hw:(W.elem i&&So 0 (T.size E))<;>rw[hw]at h<;>simp only[aY,aM]at h
  ·cases h
  rw[cH]at hw;obtain⟨G1,eX⟩:=hr.ah4 hi e T (lG hw.2);obtain⟨h1,h2⟩:=nW h eX
  have f1:Fr [i] WF st {st with t:=st.t.set i (.eA st.g.length 0),g:=st.g++[⟨0,e,T.size E⟩],c:=(st.g.length,⟨T,[]⟩)::st.c}:=⟨si,λj hj=>by
   grind,⟨[],rfl,λ_ _ _=>rfl⟩,Nat.le_refl _,λ_=>rfl⟩
  exact⟨h1,f1.trans h2 (λj hj=>by simp_all) (λ_ h=>h) (λ_=>⟨rfl,rfl⟩)⟩
 | .UN r c e T::os,st,st',G,h,hr=>by
  simp[tf]at h;split at h<;>try trivial
  rename_i t cs hH;split at h<;>try trivial
  rename_i hc;cases hw:So 0 (T.size E)<;>rw[hw]at h<;>simp only[aY,aM]at h
  ·cases h
  obtain⟨G1,eX⟩:=hr.af6 hH hc e T (lG hw);obtain⟨h1,h2⟩:=nW h eX;have f1:Fr [] WF st {st with H:=st.H.set r (.cells t (cs.set c (.eA st.g.length 0))),g:=st.g++[⟨0,e,T.size E⟩],d:=r::st.d,c:=(st.g.length,⟨T,[]⟩)::st.c}:=⟨rfl,λ_ _=>rfl,⟨[r],rfl,CP _ _ _⟩,si,λ_=>rfl⟩;exact⟨h1,f1.trans h2 (λj hj=>by cases hj) (λ_ h=>h) (λ_=>⟨rfl,rfl⟩)⟩
theorem Ez{P:bh}{ops:aJ Oper}{Q:Exit->Act->U->Prop}:∀(l1 l2:J Oper)(a:Act)(w:U),wpList P ops (Exit.then (wpList P ops Q l2) Q) l1 a w->wpList P ops Q (l1++l2) a w
 | [],l2,a,w,h=>h
 | o::l1,l2,a,w,h=>by
  rw[vO];unfold wpList at h⊢;split
  ·rename_i hw
   rw[if_pos hw]at h;rcases h with h|⟨h,a1,w1,h2⟩
   ·exact .inl (Oper.aa4 (λa w h=>Ez l1 l2 a w h) (λe a w hne hq=>by cases e<;>first|exact(hne rfl).elim|exact hq) h)
   ·exact .inr ⟨h,a1,w1,h2⟩
  simp_all[Ez]
theorem r7{P:bh}{ops:aJ Oper}:∀(l:J Oper)(a:Act)(w:U){Q1 Q2:Exit->Act->U->Prop},(∀e a w,Q1 e a w->Q2 e a w)->wpList P ops Q1 l a w->wpList P ops Q2 l a w
 | [],a,w,Q1,Q2,hq,h=>hq _ _ _ h
 | o::l,a,w,Q1,Q2,hq,h=>by
  unfold wpList at h⊢;split
  ·rename_i hw
   rw[if_pos hw]at h;rcases h with h|⟨h,a1,w1,h2⟩
   ·exact .inl (pW (λa w h=>r7 l a w hq h) hq h)
   ·exact .inr ⟨h,a1,w1,hq _ _ _ h2⟩
  ·rename_i hw
   rw[if_neg hw]at h;exact r7 l _ _ hq h
def FW(ro:O Nat):Fence:={Fence.wide with round:=ro}
def uM:Code->Bool
 | .region _ ops dr=>!dr&&cD ops.toList
 | .seq a b=>uM a&&uM b
 | .cond _ a b=>uM a&&uM b
 | .block _ a=>uM a
 | .scope _=>UV
 | .loop a=>uM a
 | .rangeFunc _ _ _ _=>UV
 | _=>WF
def Kt(P:bh)(c:Code)(st:TS E)(Q:Ex E->TS E->Prop):Prop:=
 ∀ro,(ro.isSome=WF->uM c=WF)->∀w0 G0 a w G,Rel E w0 G0 st a w G->c.wpIn (FW ro) 0 P (cK E w0 G0 Q) a w
theorem am6{a:Act}{w:World}(hd:ro.isSome=WF->Fw o.op=UV)(hQ:¬ LetsOut Q)(hn:∀a w,n1 a w->n2 a w)(h:o.wp P a w n1 Q):
  o.wpIn (FW ro) 0 P a w n2 Q:=by
 have asx:o.semAt ro a.eval=execOp a.eval o:=by
  cases ro with
  | none=>rfl
  | some l=>exact Oper.semAt_eq _ _ _ λc e=>by have:=hd rfl;rw[e]at this;cases this
 refine⟨λ_ _=>trivial,?_⟩;show o.uponIn (FW ro) 0 P a n2 Q ((o.semAt ro a.eval).run P w);rw[asx];unfold Oper.wp at h;generalize(execOp a.eval o).run P w=r at *
 cases r with
 | ok n w'=>
  cases n<;>simp[Oper.upon]at h
  case value u=>exact hn _ _ h
  case skip=>exact hn _ _ h
  case defer d=>exact hn _ _ h
  case enter f args=>
   refine⟨(λh=>nomatch h),?_⟩;refine(callsIn_wide).2 (Gr h λe w'' he=>?_)
   grind
  case row row args=>exact⟨(λh=>nomatch h),λc cs _=>by
   obtain⟨v,w2,r,s⟩:=h c cs
   exact⟨v,w2,hn _ _ r,stepsIn_wide.2 s⟩⟩
 | halt x w'=>
  cases x<;>simp[Oper.upon]at h
  case panic u=>exact h
theorem cK.UP{Q:Ex E->TS E->Prop}:¬ LetsOut (cK E w0 G0 Q):=λ⟨_,_,x,_,_,h,_⟩=>by cases x<;>exact h
theorem Oper.UQ{n:Nat}{a:Act}{w:U}(h:∀a w,K a w->K' a w)(hq:∀e a w,e≠.normal->Q e a w->Q' e a w)
  (hh:o.wpIn F n P a w K Q):o.wpIn F n P a w K' Q':=by
 have hout:LetsOut Q->LetsOut Q':=λ⟨a,w,h⟩=>⟨a,w,hq _ _ _ si h⟩;refine⟨hh.1,?_⟩;have hh:=hh.2;generalize(o.semAt F.round a.eval).run P w=r at *
 cases r with
 | ok m w'=>
  cases m<;>simp[Oper.uponIn]at hh⊢
  case value u=>exact h _ _ hh
  case skip=>exact h _ _ hh
  case defer d=>exact h _ _ hh
  case enter f args=>
   refine⟨hh.1,hh.2.1,λcs hroom=>?_⟩;obtain⟨e,w'',fr,he,hs⟩:=hh.2.2 cs hroom
   grind
  case row row args=>exact⟨hh.1,RowsIn.mono hh.2 λu w'' he=>h _ _ he⟩
  case round l f tmps assign body=>
   refine⟨hh.1,RoundIn.mono hh.2 λe w'' he=>?_⟩
   grind
 | halt x w'=>
  cases x<;>simp[Oper.uponIn]at hh⊢
  simp_all
theorem xQ{P:bh}{ro:O Nat}{ops:aJ Oper}{Q:Exit->Act->U->Prop}(hQ:¬ LetsOut Q):∀(l:J Oper)(a:Act)(w:U),(ro.isSome=WF->cD l=WF)->wpList P ops Q l a w->wpListIn (FW ro) 0 P ops Q l a w
 | [],_,_,_,h=>h
 | o::l,a,w,hd,h=>by
  have X5:=λhr=>by
   have:=hd hr;simp[cD]at this;exact this.1
  have X6:=λhr=>by
   have:=hd hr;simp[cD]at this;exact this.2
  unfold wpList at h;unfold wpListIn;split
  ·rename_i hw
   rw[if_pos hw]at h;rcases h with h|⟨_,a1,w1,h2⟩
   ·exact am6 X5 hQ (λa w h=>xQ hQ l a w X6 h) h
   ·exact(hQ ⟨a1,w1,h2⟩).elim
  ·rename_i hw
   rw[if_neg hw]at h;exact⟨λ_ _=>trivial,xQ hQ l _ w X6 h⟩
theorem EA{F:Fence}{n:Nat}{P:bh}{ops:aJ Oper}{Q:Exit->Act->U->Prop}:∀(l1 l2:J Oper)(a:Act)(w:U),wpListIn F n P ops (Exit.then (wpListIn F n P ops Q l2) Q) l1 a w->wpListIn F n P ops Q (l1++l2) a w
 | [],l2,a,w,h=>h
 | o::l1,l2,a,w,h=>by
  rw[vO];unfold wpListIn at h⊢;split
  ·rename_i hw
   rw[if_pos hw]at h;exact Oper.UQ (λa w h=>EA l1 l2 a w h) (λe a w hne hq=>by cases e<;>first|exact(hne rfl).elim|exact hq) h
  simp_all[EA]
theorem abe(hX:X.Ok){k:TS E->Option R}{r:R}(h:abc X st o k=W0 r):∀w0 G0 a w G,Rel E w0 G0 st a w G ->
  (o.guard=WP/\Fw o.op=UV)/\o.wpIn (FW ro) 0 X.P a w (λa' w'=>∃st' G',Rel E w0 G0 st' a' w' G'/\k st'=W0 r/\Fr (iL o.dst) WF st st') Q:=by
 unfold abc at h;split at h<;>try trivial
 rename_i c hg ho;split at h<;>try trivial
 rename_i x hc;split at h<;>try trivial
 rename_i q hx;split at h<;>try trivial
 rename_i y ds hb;split at h<;>try trivial
 rename_i n hY;cases hsz:ST c.args.size n<;>rw[hsz]at h<;>simp only[aY,aM]at h
 ·cases h
 have hsz:=eM hsz;intro w0 G0 a w G hr;refine⟨⟨hg,by rw[ho];rfl⟩,λ_ _=>trivial,?_⟩;have hv:=hr.ev x;rw[hx]at hv;obtain⟨b,OG,hat⟩:=hv;obtain⟨Y,fn,tmps,D,hY',hheap,hds⟩:=hr.box hat hb;have hsz:=hsz.trans (hX.E.ydn y Y n hY' hY).symm
 have hargs:bI E w G (c.args.toList.map st.ev++ds) (c.args.map a.eval++tmps).toList:=by
  have:=(Ot hr c.args.toList).append hds;simpa using this
 have hI:=DP hX.E (Wo.mono X.P) hX.Y h w0 G0 a w G (c.args.map a.eval++tmps) hr hargs;have hR:=hI Y fn b D (c.args.map a.eval) tmps hY' rfl (by simpa using hsz) hheap;rw[Oper.semAt_eq _ _ _ λc' e=>by rw[ho]at e;cases e]
 have hrun:(execOp a.eval o).run X.P w=.ok (.round b fn ((Y.params.zip (c.args.map a.eval)).foldl (λt (p,v)=>t.setIfInBounds p v) tmps) Y.assign Y.body) w:=by
  have hy:=run_yield (P:=X.P) (args:=c.args.map a.eval) hheap (by simpa using hsz);simp[execOp,ho,resolve,hc,OG,Deferred.ofValue,invoke];simpa using hy
 rw[hrun];refine⟨(λh=>nomatch h),RoundIn.mono hR λe w' he=>?_⟩
 grind
theorem LI{x:O σ}{j:σ ⊕ R}(h:X4 x=W0 j):∃s,x=W0 s/\j=.inl s:=by
 unfold X4 at h
 cases x with
 | none=>cases h
 | some s=>simp_all
theorem OJ{x:O R}{j:σ ⊕ R}(h:zR x=W0 j):∃r,x=W0 r/\j=.inr r:=by
 unfold zR at h
 cases x with
 | none=>cases h
 | some s=>simp_all
theorem am7{x:O (σ ⊕ R)}{k:σ->O R}{r:R}(h:jj x k=W0 r):∃j,x=W0 j/\(∀s,j=.inl s->k s=W0 r)/\∀r',j=.inr r'->r'=r:=by
 cases x with
 | none=>cases h
 | some j=>
  refine⟨j,rfl,λs hs=>?_,λr' hr=>?_⟩
  ·subst hs;exact h
  ·subst hr;exact rQ h
theorem X7{j:Bool}{A:{R':Type}->(Ex E->TS E->O R')->O R'}{pk:TS E->O σ}{B:σ->O R}{r:R}
  (h:cond j (jj (A (jC (λst'=>X4 (pk st')) λe st'=>zR (k e st'))) B) ((A (jC pk λ_ _=>WP)).bind B)=W0 r) {C:(Ex E->TS E->Prop)->Prop} (hA:∀ {R':Type}{k':Ex E->TS E->O R'}{r':R'},A k'=W0 r'->C (λx s=>k' x s=W0 r')) :
  ∃Q:Ex E->TS E->Prop,C Q/\(∀s,Q .normal s->∃x,pk s=W0 x/\B x=W0 r)/\∀x s,x≠.normal->Q x s->k x s=W0 r:=by
 cases j<;>simp at h
 ·cases hx:A (jC pk λ_ _=>WP)with
  | none=>rw[hx]at h;cases h
  | some x=>
   grind
 ·obtain⟨jv,hx,h1,h2⟩:=am7 h
  refine⟨_,hA hx,λs hs=>?_,λe s hne hs=>?_⟩
  ·obtain⟨x,hp,rfl⟩:=LI hs
   simp_all
  ·have:zR (k e s)=W0 jv:=by grind
   obtain⟨r',hk,rfl⟩:=OJ this;rw[hk,h2 r' rfl]
theorem UR{R:Type}(hX:X.Ok){all:aJ Oper}{k:Ex E->TS E->O R}{r:R}:∀(cs:J (Nat×Cut×Bool)){l:J Oper}{st:TS E},agk X all cs l st k=W0 r ->
  afB E X.P all l st (λx st'=>k x st'=W0 r/\Fr (eN all l) (cD l) st st')
 | [],l,st,h=>rH hX h
 | s::cs,l,st,h=>by
  obtain⟨hc,h⟩:=dX h;rw[cH]at hc;intro w0 G0 a w G hr;have hpre:=hr.pre;obtain⟨Q,hC,hN,hX'⟩:=X7 h (C:=λQ=>afB E X.P all (l.take s.1) st (λx st'=>Q x st'/\Fr (eN all (l.take s.1)) (cD (l.take s.1)) st st')) (λh'=>rH hX h');rw[<-KY s.1 l];refine Ez _ _ a w (r7 _ a w (λe a' w' hp=>?_) (hC w0 G0 a w G hr));obtain⟨x,s',G',he,hr',hq,hf⟩:=hp
  have amb:∀i,i∈eN all (l.take s.1)->i∈eN all (l.take s.1++l.drop s.1):=λi hi=>by
   grind[List.take_append_drop,Gf]
  have aqP:∀i,i∈eN all (l.drop s.1)->i∈eN all (l.take s.1++l.drop s.1):=λi hi=>by
   rw[KY];exact Gf l s.1 l.length i (by simp_all[vN])
  have ao7:cD (l.take s.1++l.drop s.1)=WF->cD (l.drop s.1)=WF:=λhn=>by
   rw[KY]at hn;have:=Bt l s.1 l.length hn
   simp_all[vN]
  cases x with
  | normal=>
   cases e<;>try (exact he.elim)
   obtain⟨y,hp,hB⟩:=hN s' hq;obtain⟨⟨G2,hR⟩,hF⟩:=z6 hX.E hpre hr' (hf.wide (λ_ h=>h) (λ_=>hc.2)) hc.1 hp
   exact r7 _ _ _ (λe a w hp=>cK.mono (λx s'' hh=>⟨hh.1,hF.trans hh.2 amb aqP (λhn=>⟨rfl,ao7 hn⟩)⟩) hp) (UR hX cs hB w0 G0 a' w' G2 hR)
  | _=>
   have hk:=hX' _ s' (by intro h;cases h) hq;have rF:cK E w0 G0 (λx st'=>k x st'=W0 r/\Fr (eN all (l.take s.1++l.drop s.1)) (cD (l.take s.1++l.drop s.1)) st st') e a' w':=⟨_,s',G',he,hr',hk,hf.wide amb (λ_=>hc.2)⟩;cases e<;>first|exact he.elim|exact rF
theorem OK{ι:Type}{n:Nat}{c:Code}{a:Act}{w:U}(I:ι->Act->U->Prop)(μ:ι->Nat)(x0:ι)(h₀:I x0 a w)
  (round:∀x a w,I x a w->c.wpIn F n P (Exit.then (λa' w'=>∃y,I y a' w'/\μ y<μ x) Q) a w):(Code.loop c).wpIn F n P Q a w:=by
 intro b k cs hro hb hr
 have key:∀j x a w,μ x=j->I x a w ->
   ∃e a' w',Q e a' w'/\ArrivesIn (Machine.fenced P F) P (lone (b.atR a (.code c :: .inLoop c::k)) cs w) b k cs e a' w':=by
  intro j
  induction j using Nat.strongRecOn with
  | _ j ih=>
   intro x a w hn hI;obtain⟨e,a₁,w₁,hq,OL⟩:=round x a w hI b (.inLoop c::k) cs hro hb hr
   cases e with
   | normal=>
    obtain⟨y,hI₁,hlt⟩:=hq;obtain⟨e₂,a₂,w₂,hq₂,aqQ⟩:=ih (μ y) (hn▸hlt) y a₁ w₁ rfl hI₁
    exact⟨e₂,a₂,w₂,hq₂,.of_steps (StepsIn.trans OL (.one (fenced_calm hb hr rfl) stepR_inLoop)) aqQ⟩
   | exit id=>exact⟨_,a₁,w₁,hq,.pass rfl (λ_ _=>.inl si) OL⟩
   | goto l=>exact⟨_,a₁,w₁,hq,.pass rfl (λ_ _=>.inl si) OL⟩
   | ret=>exact⟨_,a₁,w₁,hq,.pass rfl (λ_ _=>.inl si) OL⟩
   | panic ch=>exact⟨_,a₁,w₁,hq,.pass rfl (λ_ _=>.inl si) OL⟩
   | outgrown=>exact⟨_,a₁,w₁,hq,.pass rfl (λ_ _=>.inl si) OL⟩
 obtain⟨e,a',w',hq,OL⟩:=key _ x0 a w rfl h₀;exact⟨e,a',w',hq,.of_steps (.one (fenced_calm hb hr rfl) stepR_loop) OL⟩
theorem Kt.of_wp{c:Code}{Q:Ex E->TS E->Prop}(hc:uM c=UV)(h:Is E P c st Q):Kt P c st Q:=λro hro w0 G0 a w G hr=>by
 cases ro with
 | some l=>simp_all
 | none=>exact(wpIn_wide).2 (h w0 G0 a w G hr)
theorem Kt.wp{c:Code}{Q:Ex E->TS E->Prop}(h:Kt P c st Q)(hr:Rel E w0 G0 st a w G):c.wp P (cK E w0 G0 Q) a w:=
 (wpIn_wide).1 (h WP (λh=>nomatch h) w0 G0 a w G hr)
theorem aia{a b:Code}(hro:ro.isSome=WF->uM a=WF){ac:Act}{Q1 Q:Ex E->TS E->Prop}(hr:Rel E w0 G0 st ac w G)(h:Kt P a st Q1)(hN:∀s a' w' G',Q1 .normal s->Rel E w0 G0 s a' w' G'->b.wpIn (FW ro) 0 P (cK E w0 G0 Q) a' w')
  (hX:∀x s,x≠.normal->Q1 x s->Q x s):(Code.seq a b).wpIn (FW ro) 0 P (cK E w0 G0 Q) ac w:=by
 refine wpIn_seq (wpIn_mono (h ro hro w0 G0 ac w G hr) λe a' w' hp=>?_);obtain⟨x,s,G',he,hr',hq⟩:=hp
 cases x with
 | normal=>
  cases e<;>try (exact he.elim)
  exact hN s a' w' G' hq hr'
 | _=>
  have rF:cK E w0 G0 Q e a' w':=⟨_,s,G',he,hr',hX _ s (by intro h;cases h) hq⟩;cases e<;>first|exact he.elim|exact rF
theorem LJ{all:aJ Oper}:∀l1 l2:J Oper,eN all (l1++l2)=eN all l1++eN all l2
 | [],l2=>rfl
 | o::l1,l2=>by simp_all[eN,LJ]
theorem agl(hX:X.Ok)(id:Nat){r:R}(h:akt X ops i st k=W0 r):Kt X.P (.region id ops UV) st (λx st'=>k x st'=W0 r/\Fr (wr (.region id ops UV)) (jo (.region id ops UV)) st st'):=by
 unfold akt at h;split at h<;>try trivial
 rename_i o rest hd;obtain⟨hnd,h⟩:=dX h;rw[cH]at hnd;intro ro hro w0 G0 a w G hr;refine wpIn_region_list ?_;have hl:ops.toList=ops.toList.take i++o::rest:=by grind[List.take_append_drop]
 have hwr:∀j,j∈eN ops (ops.toList.take i)\/j∈iL o.dst\/j∈eN ops rest->j∈wr (.region id ops UV):=λj hj=>by
  show j∈eN ops ops.toList
  grind[LJ,eN]
 rw[hl]
 have hF:∀ {s1 s2 s3:TS E},Fr (eN ops (ops.toList.take i)) (cD (ops.toList.take i)) st s1->Fr (iL o.dst) WF s1 s2->Fr (eN ops rest) (cD rest) s2 s3->Fr (wr (.region id ops UV)) (jo (.region id ops UV)) st s3:=λf1 f2 f3=>
  (f1.trans f2 (λj hj=>hwr j (.inl hj)) (λj hj=>hwr j (.inr (.inl hj))) (λ_=>⟨hnd.1,rfl⟩)).trans f3 (λj hj=>hj) (λj hj=>hwr j (.inr (.inr hj))) (λ_=>⟨rfl,hnd.2⟩)
 have hout:∀ {K:Act->U->Prop}{Q:Ex E->TS E->Prop},¬ LetsOut (Exit.then K (cK E w0 G0 Q)):=λ⟨a,w,h⟩=>cK.UP ⟨a,w,h⟩;refine EA _ _ a w (xQ hout _ a w (λ_=>hnd.1) (r7 _ a w (λe a' w' hp=>?_) (rH hX h w0 G0 a w G hr)));obtain⟨x,s',G',he,hr',hq,hf⟩:=hp
 cases x with
 | normal=>
  cases e<;>try (exact he.elim)
  obtain⟨⟨hg,-⟩,hw⟩:=abe hX hq w0 G0 a' w' G' hr';show wpListIn _ _ _ _ _ (o::rest) _ _;unfold wpListIn;rw[if_pos (by simp[Region.wanted,hg])];refine Oper.UQ (λa2 w2 hh=>?_) (λe a w hne hq=>hq) hw;obtain⟨s2,G2,hr2,hk,f2⟩:=hh
  exact xQ cK.UP rest a2 w2 (λ_=>hnd.2) (r7 rest a2 w2 (λe a w hp=>cK.mono (λx s hh=>⟨hh.1,hF hf f2 hh.2⟩) hp) (rH hX hk w0 G0 a2 w2 G2 hr2))
 | _=>
  have rF:cK E w0 G0 (λx st'=>k x st'=W0 r/\Fr (wr (.region id ops UV)) (jo (.region id ops UV)) st st') e a' w':=⟨_,s',G',he,hr',hq,hF hf (Fr.refl _ _ _) (Fr.refl _ _ _)⟩;cases e<;>first|exact he.elim|exact rF
theorem aee{all:aJ Oper}:∀ {l:J Oper}{o:Oper},o∈l->∀i,i∈iL o.dst->i∈eN all l
 | [],_,h,_,_=>by cases h
 | o'::l,o,h,i,hi=>by
  simp[eN];rcases iy.1 h with rfl|h
  ·exact .inl hi
  ·exact .inr (.inr (aee h i hi))
theorem agm(hX:X.Ok){i1 i2 i3:Nat}{A B C:aJ Oper}{r:R}(h:akq X A B C st (jC (λst'=>k .ret st') k)=W0 r):
  Kt X.P (.seq (.region i1 A UV) (.seq (.region i2 B UV) (.seq (.region i3 C UV) .ret))) st (λx st'=>k x st'=W0 r/\Fr (wr (.seq (.region i1 A UV) (.seq (.region i2 B UV) (.seq (.region i3 C UV) .ret)))) (jo (.seq (.region i1 A UV) (.seq (.region i2 B UV) (.seq (.region i3 C UV) .ret)))) st st'):=by
 unfold akq at h;split at h<;>try trivial
 rename_i s hs;split at h<;>try trivial
 rename_i l hx;cases hc:(s.ok X st.t.length&&(cD A.toList&&(cD B.toList&&cD C.toList)))<;>rw[hc]at h<;>simp only[aY,aM]at h
 ·cases h
 simp at hc;obtain⟨hok,nA,nB,nC⟩:=hc;obtain⟨hl,h⟩:=dX h;have hl:=Cm hl;intro ro hro w0 G0 a w G hr;obtain⟨a3,w1,hA,W2,hB,hC⟩:=agj hX hs hx hok hl hr;obtain⟨C0,hC0⟩:=aks hs
 have nR:cD s.rest=WF:=by
  have:∀(l1 l2:J Oper),cD (l1++l2)=WF->cD l2=WF:=by
   intro l1
   induction l1 with
   | nil=>intro l2 h;exact h
   | cons o l1 ih=>simp_all[cD]
  grind
 have hF:Fr (eN A A.toList++(eN B B.toList++eN C C.toList)) WF st (s.s9 st l):=apg hs st l (λo ho i hi=>by
  grind[aee])
 have hout:∀ {K:Act->U->Prop}{Q:Ex E->TS E->Prop},¬ LetsOut (Exit.then K (cK E w0 G0 Q)):=λ⟨a,w,h⟩=>cK.UP ⟨a,w,h⟩;refine wpIn_seq (wpIn_region_list (xQ hout _ a w (λ_=>nA) (hA _ _ ?_)));refine wpIn_seq (wpIn_region_list (xQ hout _ a3 w1 (λ_=>nB) (hB _ _ λa5 w2 hW=>?_)));obtain⟨a9,⟨G',hr9⟩,fB⟩:=hC a5 w2 hW;refine wpIn_seq (wpIn_region_list (xQ hout _ a5 w2 (λ_=>nC) (fB _ _ ?_)));refine r7 s.rest a9 w2 (λe a w hp=>?_) (rH hX h w0 G0 a9 w2 G' hr9);obtain⟨x,s',G2,he,hr',hq,hf⟩:=hp
 have hf:=hF.trans hf (W:=wr (.seq (.region i1 A UV) (.seq (.region i2 B UV) (.seq (.region i3 C UV) .ret)))) (λi hi=>by
  simp_all[wr]) (λi hi=>by
  simp_all[wr,LJ]) (n:=jo (.seq (.region i1 A UV) (.seq (.region i2 B UV) (.seq (.region i3 C UV) .ret)))) (λ_=>⟨rfl,nR⟩)
 cases x with
 | normal=>
  cases e<;>try (exact he.elim)
  exact wpIn_ret ⟨.ret,s',G2,trivial,hr',hq,hf⟩
 | _=>
  have rF:cK E w0 G0 (λx st'=>k x st'=W0 r/\Fr (wr (.seq (.region i1 A UV) (.seq (.region i2 B UV) (.seq (.region i3 C UV) .ret)))) (jo (.seq (.region i1 A UV) (.seq (.region i2 B UV) (.seq (.region i3 C UV) .ret)))) st st') e a w:=⟨_,s',G2,he,hr',hq,hf⟩;cases e<;>first|exact he.elim|exact rF
theorem ur(hX:X.Ok){F:Nat}:∀(c:Code)(p:dQ){R:Type}{st:TS E}{k:Ex E->TS E->Option R}{r:R},runT X F c p st k=W0 r->Kt X.P c st (λx st'=>k x st'=W0 r/\Fr (wr c) (jo c) st st'):=by
 intro c
 induction c with
 | skip=>intro p R st k r h ro hro w0 G0 a w G hr;exact wpIn_skip ⟨.normal,st,G,trivial,hr,h,Fr.refl _ _ _⟩
 | label l=>intro p R st k r h ro hro w0 G0 a w G hr;exact wpIn_label ⟨.normal,st,G,trivial,hr,h,Fr.refl _ _ _⟩
 | exit i=>intro p R st k r h ro hro w0 G0 a w G hr;exact wpIn_exit ⟨.exit i,st,G,rfl,hr,h,Fr.refl _ _ _⟩
 | ret=>intro p R st k r h ro hro w0 G0 a w G hr;exact wpIn_ret ⟨.ret,st,G,trivial,hr,h,Fr.refl _ _ _⟩
 | goto l=>intro p R st k r h;cases h
 | refuse s=>intro p R st k r h;cases h
 | scope c ih=>
  intro p R st k r h;have h1:=ih p h;intro ro hro w0 G0 ac w G hr
  cases ro with
  | some l=>cases hro rfl
  | none=>
  refine(wpIn_wide (n:=0)).2 ?_;refine wp_scope_straight (wp_mono ((wpIn_wide (n:=0)).1 (h1 WP (λh=>nomatch h) w0 G0 ac w G hr)) λe a' w' hp=>?_);obtain⟨x,s,G',he,hr',hq,hf⟩:=hp;have rF:∀ {x},aoR E w' G' e x->k x s=W0 r->cK E w0 G0 (λx st'=>k x st'=W0 r/\Fr (wr (.scope c)) (jo (.scope c)) st st') e a' w':=λh1 h2=>⟨_,s,G',h1,hr',h2,hf⟩
  cases x<;>cases e<;>first|exact he.elim|(cases hq;done)|exact rF he hq
 | rangeFunc f ps a b _ _=>intro p R st k r h;cases h
 | region id ops dr=>
  intro p R st k r h;simp only[runT]at h;rw[akn]at h;cases dr<;>simp only[aY,aM]at h
  ·split at h
   ·intro ro hro w0 G0 a w G hr
    exact wpIn_region_list (xQ cK.UP _ a w (λh=>by simp_all[uM,cH]) (UR hX _ h w0 G0 a w G hr))
   ·grind[agl]
   ·intro ro hro w0 G0 a w G hr
    exact wpIn_region_list (xQ cK.UP _ a w (λh=>by simp_all[uM,cH]) (rH hX h w0 G0 a w G hr))
  ·split at h<;>try trivial
   ·exact Kt.of_wp (by rfl) (Is.mono (age hX h) λx s hh=>by rw[hh.1];exact hh.2)
   ·exact Kt.of_wp (by rfl) (Is.mono (adk hX h) λx s hh=>by rw[hh.1];exact hh.2)
   ·exact Kt.of_wp (by rfl) (Is.mono (adl hX h) λx s hh=>by rw[hh.1];exact hh.2)
 | block i a ih=>
  intro p R st k r h;have h1:=ih p h;intro ro hro w0 G0 ac w G hr;refine wpIn_block (wpIn_mono (h1 ro hro w0 G0 ac w G hr) λe a' w' hp=>?_);obtain⟨x,s,G',he,hr',hq,hf⟩:=hp
  cases x with
  | exit j=>
   cases e<;>try (exact he.elim)
   rename_i i';subst he;simp only[UO]at hq;simp only[Exit.inBlock];cases hb:ST i' i<;>rw[hb]at hq<;>simp only[aY,aM]at hq
   ·have:i'≠i:=λe=>by simp_all
    rw[if_neg this];exact⟨.exit i',s,G',rfl,hr',hq,hf⟩
   ·rw[if_pos (eM hb)]
    exact⟨.normal,s,G',trivial,hr',hq,hf⟩
  | _=>
   have rF:cK E w0 G0 (λx st'=>k x st'=W0 r/\Fr (wr (.block i a)) (jo (.block i a)) st st') e a' w':=⟨_,s,G',he,hr',hq,hf⟩
   cases e<;>first|exact he.elim|exact rF
 | cond c a b ES ET=>
  intro p R st k r h;simp only[runT]at h;split at h<;>try trivial
  rename_i v hv;intro ro hro w0 G0 ac w G hr;have abf:ro.isSome=WF->uM a=WF:=λh=>by simp_all[uM,cH]
  have abg:ro.isSome=WF->uM b=WF:=λh=>by simp_all[uM,cH]
  have Mp:=hr.ev c;rw[hv]at Mp;have Mp:=Mp.mu;cases v<;>simp only[aY,aM]at h
  ·exact wpIn_cond_false Mp (wpIn_mono (ET p.r h ro abg w0 G0 ac w G hr) λ_ _ _ hp=>cK.mono (λx s hh=>⟨hh.1,hh.2.wide (λi hi=>by simp[wr,hi]) (λhn=>by simp_all[jo,cH])⟩) hp)
  ·exact wpIn_cond_true Mp (wpIn_mono (ES p.l h ro abf w0 G0 ac w G hr) λ_ _ _ hp=>cK.mono (λx s hh=>⟨hh.1,hh.2.wide (λi hi=>by simp[wr,hi]) (λhn=>by simp_all[jo,cH])⟩) hp)
 | seq a b ES ET=>
  have plain:∀(p q:dQ){R:Type}{st:TS E}{k:Ex E->TS E->Option R}{r:R},runT X F a p st (jC (λst'=>runT X F b q st' k) k)=W0 r->Kt X.P (.seq a b) st (λx st'=>k x st'=W0 r/\Fr (wr (.seq a b)) (jo (.seq a b)) st st'):=by
   intro p q R st k r h ro hro w0 G0 ac w G hr;have abf:ro.isSome=WF->uM a=WF:=λh=>by simp_all[uM,cH]
   have abg:ro.isSome=WF->uM b=WF:=λh=>by simp_all[uM,cH]
   refine aia abf hr (ES p h) (λs a' w' G' hq hr'=>?_) (λx s hne hq=>?_)
   ·exact wpIn_mono (ET q hq.1 ro abg w0 G0 a' w' G' hr') λ_ _ _ hp=>cK.mono (λx s' hh=>⟨hh.1,hq.2.trans hh.2 (λi hi=>by simp[wr,hi]) (λi hi=>by simp[wr,hi]) (λhn=>by simp_all[jo,cH])⟩) hp
   ·refine⟨by grind,hq.2.wide (λi hi=>by simp[wr,hi]) (λhn=>by simp_all[jo,Bool.and_eq_true])⟩
  intro p R st k r h;simp only[runT]at h;split at h
  ·rename_i ow c p q
   split at h<;>try trivial
   rename_i jK had;intro ro hro w0 G0 ac w G hr;have abf:ro.isSome=WF->uM a=WF:=λh=>by simp_all[uM,cH]
   have abg:ro.isSome=WF->uM b=WF:=λh=>by simp_all[uM,cH]
   obtain⟨⟨G1,eX⟩,Uz⟩:=nW had hr;split at h
   ·exact wpIn_mono (plain p q h ro hro w0 G0 ac w G1 eX) λ_ _ _ hp=>cK.mono (λx s' hh=>⟨hh.1,Uz.trans hh.2 (λi hi=>hi) (λi hi=>hi) (λhn=>⟨rfl,hn⟩)⟩) hp
   ·obtain⟨hc,h⟩:=dX h
    rw[cH]at hc;have hpre:=eX.pre;obtain⟨Q,hC,hN,hXn⟩:=X7 h (C:=λQ=>Kt X.P a jK (λx st'=>Q x st'/\Fr (wr a) (jo a) jK st')) (λh'=>ES p h');refine aia abf eX hC (λs a' w' G' hq hr'=>?_) (λx s hne hq=>?_)
    ·obtain⟨y,hp,hB⟩:=hN s hq.1
     obtain⟨⟨G2,hR⟩,hF⟩:=z6 hX.E hpre hr' (hq.2.wide (λ_ h=>h) (λ_=>hc.2)) hc.1 hp
     exact wpIn_mono (ET q hB ro abg w0 G0 a' w' G2 hR) λ_ _ _ hp=>cK.mono (λx s' hh=>⟨hh.1,Uz.trans (hF.trans hh.2 (W:=wr a++wr b) (n:=jo b) (λi hi=>by simp[hi]) (λi hi=>by simp[hi]) (λhn=>⟨rfl,hn⟩)) (λi hi=>hi) (λi hi=>hi) (λhn=>by
      simp_all[jo,cH])⟩) hp
    ·exact⟨hXn x s hne hq.1,Uz.trans hq.2 (λi hi=>hi) (λi hi=>by simp[wr,hi]) (λhn=>⟨rfl,hc.2⟩)⟩
  ·split at h<;>try trivial
   exact agm hX h
  ·exact plain .leaf .leaf h
 | loop a ih=>
  intro p R st k r h;simp only[runT]at h;split at h<;>try trivial
  rename_i ow c p;split at h<;>try trivial
  rename_i jK had;obtain⟨hc,h⟩:=dX h;rw[cH]at hc;intro ro hro w0 G0 ac w G hr;obtain⟨⟨G1,eX⟩,Uz⟩:=nW had hr;have hpre:=eX.pre
  cases hs:c.pack jK jK with
  | none=>rw[hs]at h;cases h
  | some s0=>
   rw[hs]at h;obtain⟨hR0,hFu⟩:=z6 hX.E (W:=wr a) hpre eX (Fr.refl _ _ _) hc.1 hs;refine OK (ι:=Nat×dens E c.tys) (λx a' w'=>bW (λrc s=>runT X F a p (c.un (wr a) jK s) (jC (λst'=>(c.pack jK st').bind rc) k)) x.1 x.2=W0 r/\∃G',Rel E w0 G0 (c.un (wr a) jK x.2) a' w' G') (λx=>x.1) (F,s0) ⟨h,hR0⟩ ?_;rintro⟨n,s⟩ a' w' ⟨hl,G',hr'⟩
   cases n with
   | zero=>cases hl
   | succ n=>
    have hFs:Fr (wr a) WF jK (c.un (wr a) jK s):=by
     unfold Cut.pack at hs;split at hs<;>try trivial
     rename_i ls hls;exact Cut.X3 hc.1 hls
    refine wpIn_mono (ih p hl ro hro w0 G0 a' w' G' hr') λe a2 w2 hp=>?_;obtain⟨x,s2,G2,he,hr2,hq,hf⟩:=hp;have rD:Fr (wr a) WF jK s2:=hFs.trans hf (λ_ h=>h) (λ_ h=>h) (λ_=>⟨rfl,hc.2⟩)
    cases x with
    | normal=>
     cases e<;>try (exact he.elim)
     simp only[jC]at hq
     cases hp2:c.pack jK s2 with
     | none=>rw[hp2]at hq;cases hq
     | some y=>
      rw[hp2]at hq;obtain⟨hR2,-⟩:=z6 hX.E hpre hr2 rD hc.1 hp2
      exact⟨(n,y),⟨hq,hR2⟩,Js n⟩
    | _=>
     have rF:cK E w0 G0 (λx st'=>k x st'=W0 r/\Fr (wr (.loop a)) (jo (.loop a)) st st') e a2 w2:=⟨_,s2,G2,he,hr2,hq,Uz.trans rD (λ_ h=>h) (λ_ h=>h) (λ_=>⟨rfl,rfl⟩)⟩;cases e<;>first|exact he.elim|exact rF
end Go.RT
namespace Go.RT
variable {E : TEnv}
def abh(X:Cx E)(st:TS E):ResultVar->O (TV E)
 | .tmp t=>W0 (st.at t)
 | .cell p t=>match aV X.P t,st.at p with
  | some i,.ptr r off=>match st.H[r]? with
   | some (.cells _ cs)=>TX E (X.ty t) cs i.isAgg i.size off
   | _=>WP
  | _,_=>WP
def qp(X:Cx E)(st:TS E):J ResultVar->O (J (TV E))
 | []=>W0 []
 | r::rs=>match abh X st r,qp X st rs with
  | some d,W0 ds=>W0 (d::ds)
  | _,_=>WP
def qT:J (TV E)->TV E
 | [d]=>d
 | ds=>.tuple ds
def Qv(tmps:aJ Value):ResultVar->Sem Value
 | .tmp t=>pure (tmps.getD t undef)
 | .cell a t=>do loadVar t (<-asAddr (tmps.getD a undef))
theorem agn(fn:Func)(tmps:aJ Value):results fn tmps=(do
  let vs <-fn.results.mapM (Qv tmps)
  pure (if h:vs.size=1 then vs[0]else .tuple vs)):=by
 congr 2
def Qw:J Value->Value
 | [v]=>v
 | vs=>.tuple vs.toArray
theorem aku(vs:J Value):(if h:vs.toArray.size=1 then vs.toArray[0]else .tuple vs.toArray)=Qw vs:=by
 match vs with
 | []=>rfl
 | [v]=>rfl
 | v::u::r=>simp[Qw]
variable{X:Cx E}{w0 w:U}{G0 G:bx}{st:TS E}{a:Act}{fn:Func}
theorem aib(hX:X.Ok)(hr:Rel E w0 G0 st a w G){rv:ResultVar}{d:TV E}(h:abh X st rv=W0 d):∃v,VT E w G d v/\(Qv a.tmps rv).run X.P w=.ok v w:=by
 cases rv with
 | tmp t=>
  cases h
  exact⟨_,hr.at t,rfl⟩
 | cell p t=>
  simp[abh]at h;split at h<;>try trivial
  rename_i i r off hi hd;split at h<;>try trivial
  rename_i t' cs hb;have hv:=hr.at p;rw[hd]at hv;obtain⟨b,he,hat⟩:=hv;obtain⟨vs,hh,h1,h2⟩:=hr.box hat hb
  obtain⟨v,hv,hrun⟩:=sZ (b:=b) (o':=0) hi (λl u hl=>by
   grind[cell_of_row]) (Jy hX.E h2 (λu hu=>h1 u (by simpa using hu)) h)
  refine⟨v,hv,?_⟩;have:=hrun w (fh.refl w);simp only[Qv];rw[he];simpa[Instr.loadAt,Instr.sureAddr,asAddr]using this
theorem X8(hX:X.Ok)(hr:Rel E w0 G0 st a w G):∀ {rs:J ResultVar}{ds:J (TV E)},qp X st rs=W0 ds->∃vs,bI E w G ds vs/\(rs.mapM (Qv a.tmps)).run X.P w=.ok vs w
 | [],ds,h=>by cases h;exact⟨[],.nil,rfl⟩
 | r::rs,ds,h=>by
  simp[qp]at h;split at h<;>try trivial
  rename_i d ds' h1 h2;cases h;obtain⟨v,hv,hrun⟩:=aib hX hr h1;obtain⟨vs,hvs,aqR⟩:=X8 hX hr h2;exact⟨v::vs,.cons hv hvs,by simp[hrun,aqR]⟩
theorem ago:∀ {ds:J (TV E)}{vs:J Value},bI E w G ds vs->VT E w G (qT ds) (Qw vs)
 | [],vs,h=>by grind[bI,qT,Qw,VT]
 | [d],vs,h=>by
  obtain⟨u,us,rfl,h1,h2⟩:=h.cons_inv;subst h2
  exact h1
 | d1::d2::ds,vs,h=>by
  obtain⟨u,us,rfl,h1,h2⟩:=h.cons_inv;obtain⟨u2,Tr,rfl,h3,h4⟩:=h2.cons_inv
  grind[qT,Qw,VT]
theorem AB(hX:X.Ok)(hr:Rel E w0 G0 st a w G){ds:J (TV E)}(h:qp X st fn.results.toList=W0 ds):∃v,VT E w G (qT ds) v/\(results fn a.tmps).run X.P w=.ok v w:=by
 obtain⟨vs,hv,hrun⟩:=X8 hX hr h;refine⟨Qw vs,ago hv,?_⟩
 grind[agn,Array.mapM_eq_mapM_toList,Sem.run_bind,Sem.run_map,Result.andThen_ok,Sem.run_pure,aku]
def Outs.cut(o:Outs):Cut:=⟨[],o.boxes,o.rows,o.soft⟩
def Outs.get(o:Outs)(bP st:TS E)(d:TV E):O (dens E o.tys):=
 match Fv o.res d st with
 | (d,st)=>match o.res.get ⟨R0 o.boxes.length,R0 o.rows.length,st.g.map (·.aF)⟩ d,o.cut.leaves bP st with
  | some a,W0 b=>getAll o.tys (a++b)
  | _,_=>WP
def Bw(n:Nat)(l:J (TV E)):J (TV E):=l++List.replicate (n-l.length) .any
def di.bP(s:di)(n:Nat)(ls:J (Lf E)):TS E:=⟨Bw n (s.ds ls),s.H ls,s.g0,[],[],s.c ls⟩
def asy(s:di)(fn:Func)(st:TS E):O (Nat×PT):=match fn.results.toList,s.out.res with
 | [.tmp t],.one (.cA j T)=>W0 (t,.one (.cA j T))
 | [.tmp t],.one (.eA j)=>match st.t[t]? with
  | some (.val (.slice WP 0 0))=>W0 (t,.one (.eA j))
  | _=>WP
 | _,_=>WP
def G5(s:di)(fn:Func)(bP st:TS E):TS E:=match asy s fn st with
 | some (t,p)=>UD s.out.cut bP.g.length t p st
 | none=>st
variable{s:di}{W:J Nat}{nd:Bool}
theorem am8{bP:TS E}(hp:Pre G0 bP)(hr:Rel E w0 G0 st a w G)(hF:Fr W nd bP st):
  ∃G' W',Rel E w0 G0 (G5 s fn bP st) a w G'/\Fr W' nd bP (G5 s fn bP st)/\(G5 s fn bP st).df=st.df:=by
 unfold G5;split
 ·rename_i t p h1
  have hn0:G0.g.length<=bP.g.length:=by
   rcases Zu bP.g.length G0.g.length with hlt|hge
   ·obtain⟨x,hx,-⟩:=hp.rows bP.g.length _ _ (fJ hlt)
    simp_all
   ·exact hge
  obtain⟨⟨G1,eX⟩,f1⟩:=aa6 s.out.cut bP.g.length t p hn0 hr;exact⟨G1,t::W,eX,Fr.trans hF f1 (λi hi=>ku _ hi) (λi hi=>by simp_all) (λh=>⟨h,rfl⟩),f1.df rfl⟩
 grind
def ZL(q c:Nat)(p:CT)(st:TS E):TS E:=match p,st.H[q]? with
 | .cA j T,W0 (.cells t cs)=>match cs[c]?,st.g[j]? with
  | some (.val (.slice WP 0 0)),W0 g=>cond (OC j st.c) {st with H:=st.H.set q (.cells t (cs.set c (.cA j (g.aF+1) T []))),g:=st.g.set j {g with aF:=g.aF+1},d:=q::st.d} st
  | _,_=>st
 | _,_=>st
def US(q:Nat):Nat->J CT->TS E->TS E
 | _,[],st=>st
 | c,p::ps,st=>US q (c+1) ps (ZL q c p st)
def wQ:Nat->J (O BT)->TS E->TS E
 | _,[],st=>st
 | q,W0 (.cells _ ps)::bs,st=>wQ (q+1) bs (US q 0 ps st)
 | q,_::bs,st=>wQ (q+1) bs st
theorem akv(q c:Nat)(p:CT)(hr:Rel E w0 G0 st a w G):(∃G',Rel E w0 G0 (ZL q c p st) a w G')/\Fr [] WF st (ZL q c p st):=by
 have wL:(∃G',Rel E w0 G0 st a w G')/\Fr [] WF st st:=⟨⟨G,hr⟩,Fr.refl _ _ _⟩;unfold ZL;split
 ·rename_i j T t cs hq
  split
  ·rename_i g hc hg
   generalize hb:OC j st.c=b;cases b
   ·exact wL
   obtain⟨hd,hj⟩:=hr.Bi hg;have hjl:=(eY.1 hj).1;have hN:=hr.Qs (x':={g with aF:=g.aF+1}) hj (Js _) (xO _) (OD hb) (λb hb=>nomatch hb) (λ_ _ _ _ _ _ _ hb=>nomatch hb);have hlr:q<G.i.length:=by rw[hr.boxes.len];grind
   have hat:=fJ hlr;refine⟨⟨_,hN.yZ hat rfl rfl rfl rfl (λ_ _=>rfl) (λ_=>?_)⟩,rfl,λ_ _=>rfl,⟨[q],rfl,λr _ hr=>?_⟩,si,λ_=>rfl⟩
   ·obtain⟨vs,h1,h2,h3⟩:=hN.boxes.box q _ _ hat hq
    refine⟨vs,h1,h2,?_⟩;obtain⟨u,hu,hv⟩:=h3.get c hc;subst hv
    have key:∀(w1:World)(G1:bx)(cs:J (TV E))(vs:J Value)(c:Nat)(d:TV E),bI E w1 G1 cs vs->vs[c]? = W0 (.slice WP 0 0)->VT E w1 G1 d (.slice WP 0 0)->bI E w1 G1 (cs.set c d) vs:=by
     intro w1 G1 cs
     induction cs with
     | nil=>simp_all
     | cons x cs ih=>
      intro vs c d h1 h2 h3;obtain⟨u,us,rfl,q1,q2⟩:=h1.cons_inv
      cases c with
      | zero=>simp at h2;subst h2;exact .cons h3 q2
      | succ c=>exact .cons q1 (ih us c d q2 (by simpa using h2) h3)
    refine key _ _ cs vs.toList c _ h3 hu ?_;exact⟨.vo _ _,{g with aF:=g.aF+1},.slice WP 0 0,by simp[hjl],eu _,λ_=>rfl⟩
   grind
  ·exact wL
 ·exact wL
theorem X9(q:Nat){w0 w:U}{G0:bx}{a:Act}:∀(ps:J CT)(c:Nat){st:TS E}{G:bx},Rel E w0 G0 st a w G->(∃G',Rel E w0 G0 (US q c ps st) a w G')/\Fr [] WF st (US q c ps st)
 | [],_,_,G,hr=>⟨⟨G,hr⟩,Fr.refl _ _ _⟩
 | p::ps,c,st,G,hr=>by
  obtain⟨⟨G1,eX⟩,f1⟩:=akv q c p hr;obtain⟨h2,f2⟩:=X9 q ps (c+1) eX;exact⟨h2,Fr.trans f1 f2 (λ_ h=>h) (λ_ h=>h) (λ_=>⟨rfl,rfl⟩)⟩
theorem Al{w0 w:U}{G0:bx}{a:Act}:∀(bs:J (O BT))(q:Nat){st:TS E}{G:bx},Rel E w0 G0 st a w G->(∃G',Rel E w0 G0 (wQ q bs st) a w G')/\Fr [] WF st (wQ q bs st)
 | [],_,_,G,hr=>⟨⟨G,hr⟩,Fr.refl _ _ _⟩
 | some (.cells _ ps)::bs,q,st,G,hr=>by
  obtain⟨⟨G1,eX⟩,f1⟩:=X9 q ps 0 hr;obtain⟨h2,f2⟩:=Al bs (q+1) eX
  exact⟨h2,Fr.trans f1 f2 (λ_ h=>h) (λ_ h=>h) (λ_=>⟨rfl,rfl⟩)⟩
 | none::bs,q,st,G,hr=>Al bs (q+1) hr
 | some (.map _ _)::bs,q,st,G,hr=>Al bs (q+1) hr
 | some .iter::bs,q,st,G,hr=>Al bs (q+1) hr
 | some (.loop _ _)::bs,q,st,G,hr=>Al bs (q+1) hr
theorem aef{bP:TS E}(hp:Pre G0 bP)(hr:Rel E w0 G0 st a w G)(hF:Fr W nd bP st):
  ∃G' W',Rel E w0 G0 (G5 s fn bP (wQ 0 s.out.boxes st)) a w G'/\Fr W' nd bP (G5 s fn bP (wQ 0 s.out.boxes st))/\(G5 s fn bP (wQ 0 s.out.boxes st)).df=st.df:=by
 obtain⟨⟨G1,eX⟩,f1⟩:=Al s.out.boxes 0 hr;obtain⟨G2,W2,h1,h2,h3⟩:=am8 hp eX (Fr.trans hF f1 (λ_ h=>h) (λ_ h=>nomatch h) (λh=>⟨h,rfl⟩));exact⟨G2,W2,h1,h2,h3.trans (f1.df rfl)⟩
def OM(X:Cx E)(s:di)(fn:Func)(bP st:TS E):O (dens E s.out.tys):=(qp X (G5 s fn bP (wQ 0 s.out.boxes st)) fn.results.toList).bind λds=>s.out.get bP (G5 s fn bP (wQ 0 s.out.boxes st)) (qT ds)
def nX(X:Cx E)(s:di)(fn:Func)(bP:TS E):(p:O Outs)->Ex E->TS E->O (OutP E s.out p)
 | none,.ret,st=>OM X s fn bP st
 | none,.normal,st=>OM X s fn bP st
 | some q,.ret,st=>X4 (OM X s fn bP st)
 | some q,.normal,st=>X4 (OM X s fn bP st)
 | some q,.panic d,st=>zR (q.get bP st d)
 | _,_,_=>WP
noncomputable def abj(X:Cx E)(F:Nat)(s:di)(fn:Func)(pl:dQ)(x:dens E s.tys):O (OutP E s.out s.lY):=
 match fn.body with
 | some c=>rq (jo c) (runT X F c pl (s.bP fn.ntmps (aR s.tys x)) (nX X s fn (s.bP fn.ntmps (aR s.tys x)) s.lY))
 | none=>WP
variable{args:aJ Value}{ls:J (Lf E)}{y:OutP E s.out s.lY}{P:bh}{f:FuncId}{F:Nat}{pl:dQ}{x:dens E s.tys}
theorem Rel.init{n:Nat}(hP:qf E w G)(hB:lW E w G (s.H ls) s.g0)(hS:kN E w G (s.c ls))(hV:bI E w G (s.ds ls) args.toList):
  Rel E w G (s.bP n ls) {tmps:=args++Array.replicate (n-args.size) undef,defers:=[]} w G:=by
 have hl:args.size=(s.ds ls).length:=by simpa using hV.length
 refine⟨kT.refl w G,?_,λj d hj=>?_,trivial,hB,λ_ _ _ _=>rfl,hP,hS⟩
 ·simp[di.bP,Bw,hl]
 ·have hj:(Bw n (s.ds ls))[j]? = W0 d:=hj
  unfold Bw at hj;by_cases hlt:j<(s.ds ls).length
  ·rw[vP hlt]at hj
   obtain⟨u,hu,hv⟩:=hV.get j hj
   simp_all[alR]
  grind[List.mem_of_getElem?,VT]
theorem Outs.G6(hE:E.Ok){o:Outs}{ok:Bool}{w':U}{G':bx}{bP:TS E}{d:TV E}{v:Value}{y:dens E o.tys}(hp:Pre G bP)(RC:bP.d=[])(hdf:st.df=bP.df)(hr:Rel E w G st a w' G')(hF:Fr W nd bP st)(hv:VT E w' G' d v)(h:o.get bP st d=W0 y):
  ∃G2,kT w G w' G2/\lW E w' G2 (o.mO ok bP.H bP.g (aR o.tys y)).H (o.mO ok bP.H bP.g (aR o.tys y)).g/\kN E w' G2 (o.mO ok bP.H bP.g (aR o.tys y)).c/\VT E w' G2 (o.mO ok bP.H bP.g (aR o.tys y)).d v /\
   ∀(q b:Nat),G.i[q]? = W0 b->q∉(o.mO ok bP.H bP.g (aR o.tys y)).D->w'.heap[b]? = w.heap[b]?:=by
 unfold Outs.get at h;obtain⟨d1,jK,hh⟩:∃d1 jK,Fv o.res d st=(d1,jK):=⟨_,_,rfl⟩;rw[hh]at h;dsimp only at h;split at h<;>try trivial
 rename_i la lb hla hlb;obtain⟨o1,G1,eX,-,vr⟩:=aaZ o.res d hr;have hv:=vr v hv;rw[hh]at o1 eX hv;have hr:=eX
 have hF:Fr W nd bP jK:=by
  obtain⟨c,rfl⟩:=o1;exact⟨hF.len,hF.keep,hF.d,hF.hl,hF.df⟩
 have hdf:jK.df=bP.df:=by
  obtain⟨c,rfl⟩:=o1;exact hdf
 obtain⟨D,hD,hH⟩:=hF.d;obtain⟨G2,hR,hL⟩:=Rel.cut hE hp hr hF.len hF.keep hD hH hdf hlb;have hput:=DK _ h;obtain⟨e1,e2⟩:=PT.sound hE hL hla hv;rw[hput];simp[Outs.mO];have e3:(o.res.put (o.n1 bP.g) (la++lb)).2=lb:=e1;refine⟨G2,hR.ff,?_,?_,e2,λq b hq hd=>hR.fix q b hq ?_⟩
 ·rw[e3]
  exact hR.boxes
 ·rw[e3]
  exact hR.gv
 ·show q∉DM 0 o.boxes++bP.d
  simp_all
theorem ud{c:Code}{R:Ending->U->Prop}(hf:P.funcs[f]? = W0 fn)(hb:fn.body=W0 c)(hn:(fn.name == "runtime.NumGoroutine")=UV)(h:Calls P f args w R):kB P f args w R:=by
 have:(callFunc f args).run P w=.ok (.enter f args) w:=by
  simp only[callFunc,jm,run_program,jL,hf,hn,hb];simp
 simp_all[kB]
theorem agp(hX:X.Ok)(hf:X.P.funcs[s.f]? = W0 fn)(hn:(fn.name == "runtime.NumGoroutine")=UV)(h:abj X F s fn pl x=W0 y):
  lK X.P s.f (s.ds (aR s.tys x)) (s.H (aR s.tys x)) s.g0 (s.c (aR s.tys x)) (gY s (s.H (aR s.tys x)) s.lY y):=by
 unfold abj at h;split at h<;>try trivial
 rename_i c hb;obtain⟨hnd,h⟩:=dX h;intro w G args hP hB hS hV;have Gw:=Rel.init (n:=fn.ntmps) hP hB hS hV;have hpre:=Gw.pre;refine ud hf hb hn (calls_of_wp hf hb (wp_mono ((ur hX c pl h).wp Gw) λe a' w' hp=>?_));obtain⟨ex,st,G',he,hr,hk,hF⟩:=hp;have hdf:=hF.df hnd
 have Ju:a'.defers=[]:=by
  have:=hr.defers;rw[hdf]at this
  cases hd:a'.defers with
  | nil=>rfl
  | cons d ds=>rw[hd]at this;exact this.elim
 have okc:∀ {y:dens E s.out.tys},OM X s fn (s.bP fn.ntmps (aR s.tys x)) st=W0 y ->
   ∃v,(results fn a'.tmps).run X.P w'=.ok v w'/\∃v1 G2,Ending.returned v=Di (s.out.mO WF (s.H (aR s.tys x)) s.g0 (aR s.out.tys y)).ok v1/\kT w G w' G2 /\
    lW E w' G2 (s.out.mO WF (s.H (aR s.tys x)) s.g0 (aR s.out.tys y)).H (s.out.mO WF (s.H (aR s.tys x)) s.g0 (aR s.out.tys y)).g/\kN E w' G2 (s.out.mO WF (s.H (aR s.tys x)) s.g0 (aR s.out.tys y)).c/\VT E w' G2 (s.out.mO WF (s.H (aR s.tys x)) s.g0 (aR s.out.tys y)).d v1 /\
    ∀(q b:Nat),G.i[q]? = W0 b->q∉(s.out.mO WF (s.H (aR s.tys x)) s.g0 (aR s.out.tys y)).D->w'.heap[b]? = w.heap[b]?:=by
  intro y hy;unfold OM at hy;obtain⟨G3,W3,hr,hF,akw⟩:=aef hpre hr hF;generalize G5 s fn (s.bP fn.ntmps (aR s.tys x)) (wQ 0 s.out.boxes st)=st3 at *
  cases hds:qp X st3 fn.results.toList with
  | none=>rw[hds]at hy;cases hy
  | some ds=>
   rw[hds]at hy;obtain⟨v,hv,hrun⟩:=AB hX hr hds;obtain⟨G2,q1,q2,q3,q4,q5⟩:=Outs.G6 hX.E hpre rfl (akw.trans hdf) hr hF hv hy;exact⟨v,hrun,v,G2,rfl,q1,q2,q3,q4,q5⟩
 have fin:∀(p:O Outs)(y:OutP E s.out p),nX X s fn (s.bP fn.ntmps (aR s.tys x)) p ex st=W0 y->bodyPost X.P fn (λe w'=>∃v G',e=Di (gY s (s.H (aR s.tys x)) p y).ok v/\kT w G w' G'/\lW E w' G' (gY s (s.H (aR s.tys x)) p y).H (gY s (s.H (aR s.tys x)) p y).g/\kN E w' G' (gY s (s.H (aR s.tys x)) p y).c /\
   VT E w' G' (gY s (s.H (aR s.tys x)) p y).d v/\∀(q b:Nat),G.i[q]? = W0 b->q∉(gY s (s.H (aR s.tys x)) p y).D->w'.heap[b]? = w.heap[b]?) e a' w':=by
  intro p y hk
  cases p with
  | none=>
   cases ex<;>cases e<;>try (exact he.elim)
   ·obtain⟨v,hrun,h2⟩:=okc hk;exact⟨Ju,v,hrun,h2⟩
   ·cases hk
   ·cases hk
   ·obtain⟨v,hrun,h2⟩:=okc hk;exact⟨Ju,v,hrun,h2⟩
   ·cases hk
  | some q=>
   cases ex<;>cases e<;>try (exact he.elim)
   ·obtain⟨y',hy,rfl⟩:=LI hk;obtain⟨v,hrun,h2⟩:=okc hy;exact⟨Ju,v,hrun,h2⟩
   ·cases hk
   ·cases hk
   ·obtain⟨y',hy,rfl⟩:=LI hk;obtain⟨v,hrun,h2⟩:=okc hy;exact⟨Ju,v,hrun,h2⟩
   ·obtain⟨y',hy,rfl⟩:=OJ hk
    obtain⟨v,rfl,hv⟩:=he;obtain⟨G2,q1,q2,q3,q4,q5⟩:=Outs.G6 hX.E hpre rfl hdf hr hF hv hy;exact⟨Ju,v,G2,rfl,q1,q2,q3,q4,q5⟩
 exact fin s.lY y hk
variable{l:Nat}{r:Loop}
theorem EW{o:Nat}(h:w.heap[l]? = W0 (.loop r)):w.cell? ⟨l,o,WP⟩=WP:=by
 simp[World.cell?,h]
theorem ON(o:Obj)(h:w.heap[l]? = W0 (.loop r)):iK w G (w.putObj l o) G:=by
 refine⟨λ_ _ h=>h,λb c v _ hv=>?_,λ_ _ h=>h,λj x y hj=>⟨x,y,hj,eu _,λ_=>rfl⟩⟩
 grind[EW,World.cell?_of_block,World.putObj_heap_other]
variable{tmps:aJ Value}{C:bJ E}
theorem lW.turn{H:J (fK E)}{gs:J cL}(o:Obj)(h:w.heap[l]? = W0 (.loop r))(hl:l∉G.i)(hB:lW E w G H gs):lW E (w.putObj l o) G H gs:=by
 have hg:=ON (G:=G) o h;refine⟨hB.len,hB.gs,λq b x hq hx=>(hB.box q b x hq hx).mono hg (World.putObj_heap_other λe=>hl (by grind)),λb hb=>by simpa using hB.lt b hb,hB.nodup,λb o' hp=>by simpa using hB.gu b o' hp,λj x y hj=>?_,hB.apart⟩;obtain⟨n,xs,ho,hz,hb⟩:=hB.grow j x y hj;refine⟨n,xs,⟨ho.1,?_⟩,hz,λb GJ=>by simpa using hb b GJ⟩;rcases ho.2 with h2|⟨g,cap,cur,h2,h3,h4,h5⟩
 ·exact .inl h2
 ·refine .inr ⟨g,cap,cur,h2,h3,?_,h5⟩
  rw[Jt (λe=>by simp_all)];exact h4
theorem kN.turn{cs:J (Nat×Cn E)}(o:Obj)(h:w.heap[l]? = W0 (.loop r))(hS:kN E w G cs):kN E (w.putObj l o) G cs:=by
 have hg:=ON (G:=G) o h;intro j c hj;obtain⟨x,hd,h1,h2,h3,⟨vals,ho,hf⟩,hp⟩:=hS j c hj;refine⟨x,hd,h1,h2,h3,⟨vals,⟨ho.1,?_⟩,hf.mono hg.pr hg.cells⟩,hp⟩;rcases ho.2 with q|⟨g,cap,cur,q1,q2,q3,q4⟩
 ·exact .inl q
 ·refine .inr ⟨g,cap,cur,q1,q2,?_,q4⟩
  rw[Jt (λe=>by simp_all)];exact q3
theorem qf.turn(o:Obj)(h:w.heap[l]? = W0 (.loop r))(hP:qf E w G):qf E (w.putObj l o) G:=by
 intro b p hb;obtain⟨⟨cs,t,m,h1,hp⟩,h2⟩:=hP b p hb;exact⟨⟨cs,t,m,by rw[Jt (λe=>by simp_all)];exact h1,hp⟩,h2⟩
theorem kT.turn(o:Loop)(h0:l<w0.heap.size)(h:w.heap[l]? = W0 (.loop r))(hE:kT w0 G0 w G):kT (w0.putObj l (.loop o)) G0 (w.putObj l (.loop o)) G:=by
 have hlt:=(Av.1 h).1;refine⟨hE.os,hE.tape,hE.output,by simpa using hE.size,λb hb hf=>?_,⟨hE.goes.pr,λb c v hp hv=>?_,hE.goes.i,hE.goes.g⟩,λb c hb hp=>hE.oz b c (by simpa using hb) hp,λq b hq hb=>by simpa using hE.qO q b hq hb,λj x y b hj hb=>by simpa using hE.gM j x y b hj hb⟩
 ·by_cases e:b=l
  ·subst e;rw[PX hlt,PX h0]
  ·rw[Jt e,Jt e];exact hE.old b (by simpa using hb) hf
 ·by_cases e:b=l
  ·subst e;rw[EW (PX h0)]at hv;cases hv
  ·rw[PU (Jt e)]at hv⊢
   exact hE.goes.cells b c v hp hv
theorem aic(hE:kT w0 G0 w G)(h0:l<w0.heap.size)(hf:¬ G0.Er l):¬ G.Er l:=by
 intro hf';refine hf ?_;rcases hf' with hf|⟨x,hd,hm,hbk⟩
 ·obtain⟨q,hq,he⟩:=lH hf
  have Uq:G.i[q]? = W0 l:=by simp_all
  by_cases tS:q<G0.i.length
  ·have e1:=hE.goes.i q _ (fJ tS)
   exact .inl (by simp_all)
  ·have:=hE.qO q l om Uq;omega
 ·obtain⟨j,hj,he⟩:=lH hm
  rcases hE.gM j x hd l (by simp_all) hbk with q|⟨x0,h0',q1,q2⟩
  ·omega
  ·exact .inr ⟨x0,h0',jx q1,q2⟩
theorem Rel.turn(o:Loop)(hr:Rel E w0 G0 st a w G)(h0:w0.heap[l]? = W0 (.loop r))(hf:¬ G0.Er l):w.heap[l]? = W0 (.loop r)/\Rel E (w0.putObj l (.loop o)) G0 st a (w.putObj l (.loop o)) G:=by
 have hl0:=(Av.1 h0).1;have h:w.heap[l]? = W0 (.loop r):=by rw[hr.ff.old l hl0 hf];exact h0
 have hg:=ON (G:=G) (.loop o) h;have hfG:=aic hr.ff hl0 hf;refine⟨h,hr.ff.turn o hl0 h,hr.size,λj d hj=>(hr.tmps j d hj).mono hg,hr.defers.mono hg,hr.boxes.turn _ h (λhm=>hfG (.inl hm)),λq b hq hd=>?_,hr.pins.turn _ h0,hr.gv.turn _ h⟩;have hne:b≠l:=λe=>hf (.inl (by grind));rw[Jt hne,Jt hne];exact hr.fix q b hq hd
def ZM:J Tmp->J (TV E)->J (TV E)->J (TV E)
 | p::ps,x::xs,t=>ZM ps xs (t.set p x)
 | _,_,t=>t
theorem abk{w:U}{G:bx}:∀(ps:J Tmp)(xT:J (TV E))(xV:J Value)(t:J (TV E))(tmps:aJ Value),bI E w G xT xV->xT.length=ps.length->tmps.size=t.length->(∀j d,t[j]? = W0 d->VT E w G d (tmps.getD j undef)) ->
  ((ps.zip xV).foldl (λt (p,v)=>t.setIfInBounds p v) tmps).size=(ZM ps xT t).length/\∀j d,(ZM ps xT t)[j]? = W0 d->VT E w G d (((ps.zip xV).foldl (λt (p,v)=>t.setIfInBounds p v) tmps).getD j undef)
 | [],xT,xV,t,tmps,hv,hl,hs,ht=>by
  cases xT with
  | nil=>exact⟨hs,ht⟩
  | cons _ _=>cases hl
 | p::ps,[],xV,t,tmps,hv,hl,hs,ht=>by cases hl
 | p::ps,x::xs,xV,t,tmps,hv,hl,hs,ht=>by
  obtain⟨u,us,rfl,h1,h2⟩:=hv.cons_inv;refine abk ps xs us (t.set p x) (tmps.setIfInBounds p u) h2 (by simpa using hl) (by simpa using hs) λj d hj=>?_;by_cases hjp:p=j
  ·by_cases hlt:p<t.length
   ·simp_all
   simp_all
  simp_all
def abl(s:di)(Y:YD)(ls:J (Lf E)):TS E:=⟨ZM Y.params.toList ((s.ds ls).take Y.params.size) ((s.ds ls).drop Y.params.size),s.H ls,s.g0,[],[],s.c ls⟩
def okH:J (fK E)->Bool
 | []=>WF
 | x::xs=>(match x with | .cells _ _=>WF | .iter _ _=>WF | .map _ _ _=>WF|_=>UV)&&okH xs
def api(s:di)(bP:TS E):(p:O Outs)->Ex E->TS E->O (OutP E s.out p)
 | none,.normal,st=>s.out.get bP st (.dat .bool WF)
 | _,_,_=>WP
noncomputable def apj(X:Cx E)(F:Nat)(s:di)(Y:YD)(pl:dQ)(x:dens E s.tys):O (OutP E s.out s.lY):=
 rq (uM Y.assign&&jo Y.assign&&(uM Y.body&&jo Y.body)&&okH (s.H (aR s.tys x))) (runT X F Y.assign .leaf (abl s Y (aR s.tys x)) (jC (λjK=>runT X F Y.body pl jK (api s (abl s Y (aR s.tys x)) s.lY)) λ_ _=>WP))
theorem bI.aid{w:U}{G:bx}:∀ {ds:J (TV E)}{vs us:J Value},bI E w G ds (vs++us)->bI E w G (ds.take vs.length) vs/\bI E w G (ds.drop vs.length) us
 | ds,[],us,h=>⟨by simpa using bI.nil,by simpa using h⟩
 | [],v::vs,us,h=>by simp_all[bI]
 | d::ds,v::vs,us,h=>by
  obtain⟨u,us',e,h1,h2⟩:=h.cons_inv;cases e;obtain⟨q1,q2⟩:=bI.aid h2;exact⟨by simpa using bI.cons h1 q1,by simpa using q2⟩
theorem aie{w:U}{G:bx}{l:Nat}{r:Loop}(h:w.heap[l]? = W0 (.loop r)):∀ {H:J (fK E)}{q:Nat}{x:fK E},okH H=WF->H[q]? = W0 x->¬ jW E w G l x
 | [],_,_,_,hx=>by cases hx
 | y::H,0,x,ho,hx=>by
  cases hx;intro hb;simp[okH]at ho
  cases y with
  | cells ty cs=>obtain⟨vs,h1,-⟩:=hb;rw[h]at h1;cases h1
  | iter s p=>have h1:w.heap[l]? = _:=hb;rw[h]at h1;cases h1
  | map kt vt m=>obtain⟨es,clock,h1,-⟩:=hb;rw[h]at h1;cases h1
  | _=>cases ho.1
 | y::H,q+1,x,ho,hx=>by
  simp[okH]at ho;exact aie h ho.2 (by simpa using hx)
theorem Rel.aqS{Y:YD}{xs:aJ Value}(hn:xs.size=Y.params.size)(hP:qf E w G)(hB:lW E w G (s.H ls) s.g0)(hS:kN E w G (s.c ls))(hV:bI E w G (s.ds ls) (xs++tmps).toList):
  Rel E w G (abl s Y ls) {tmps:=(Y.params.zip xs).foldl (λt (p,v)=>t.setIfInBounds p v) tmps,defers:=[]} w G:=by
 rw[Array.toList_append]at hV;obtain⟨h1,h2⟩:=bI.aid hV;have hx:xs.toList.length=Y.params.size:=by simpa using hn
 rw[hx]at h1 h2
 have hf:(Y.params.zip xs).foldl (λt (p,v)=>t.setIfInBounds p v) tmps=(Y.params.toList.zip xs.toList).foldl (λt (p,v)=>t.setIfInBounds p v) tmps:=by
  rw[<-Array.foldl_toList,Array.toList_zip]
 obtain⟨q1,q2⟩:=abk Y.params.toList ((s.ds ls).take Y.params.size) xs.toList ((s.ds ls).drop Y.params.size) tmps h1 (by have:=h1.length;simp at this⊢;omega) (by simpa using h2.length) (λj d hj=>by
  obtain⟨u,hu,hv⟩:=h2.get j hj
  simp_all)
 refine⟨kT.refl w G,?_,λj d hj=>?_,trivial,hB,λ_ _ _ _=>rfl,hP,hS⟩
 ·show(_:aJ Value).size=_;rw[hf];exact q1
 ·show VT E w G d (Array.getD _ j undef);rw[hf];exact q2 j d hj
theorem adn{o o':Obj}(h:w.heap[l]? = W0 o):(w.putObj l o').putObj l o=w:=by
 have:(w.heap.setIfInBounds l o').setIfInBounds l o=w.heap:=by
  grind
 unfold World.putObj;simp[this]
theorem bJ.apk(hX:X.Ok){Y:YD}(hY:∀Y',E.yd C.s.f Y'->Y'=Y)(h:∀x,apj X F C.s Y pl x=C.m x):C.GY (Wo E X.P):=by
 intro x y hy;have h1:apj X F C.s Y pl x=W0 y:=by rw[h x];exact hy
 intro w G args hP hB hS hV Y' fn l D xs tmps hY' hargs hsz hheap;have hY':=(hY Y' hY').symm;subst hY';subst hargs;obtain⟨hc,h1⟩:=dX h1;simp at hc;obtain⟨⟨⟨ha1,sM⟩,vW,nP⟩,hok⟩:=hc
 have hf:¬ G.Er l:=by
  rintro (hm|⟨z,hd,hm,hbk⟩)
  ·obtain⟨q,hq,he⟩:=lH hm
   have hq2:q<(C.s.H (aR C.s.tys x)).length:=by rw[<-hB.len];exact hq
   exact aie hheap hok (fJ hq2) (hB.box q l _ (by simp_all) (fJ hq2))
  ·obtain⟨j,hj,he⟩:=lH hm
   obtain⟨n,xs',ho,-,-⟩:=hB.grow j z hd (by simp_all);rcases ho.2 with⟨h2,-⟩|⟨g,cap,cur,h2,h3,h4,h5⟩
   ·rw[h2]at hbk;cases hbk
   ·rw[h2]at hbk
    cases hbk
    simp_all
 have Gw:=Rel.aqS hsz hP hB hS hV;have hpre:=Gw.pre;refine roundIn_of_wpIn trivial ?_;refine wpIn_mono ((ur hX Y.assign .leaf h1) (W0 l) (λ_=>ha1) w G _ w G Gw) λe a1 w1 hp=>?_;obtain⟨x1,jK,G1,he,eX,hq,hF1⟩:=hp;cases x1<;>try trivial
 cases e<;>try (exact he.elim)
 obtain⟨hl1,hrt⟩:=eX.turn ⟨.busy,WP,fn,tmps,Y.params,Y.assign,Y.body,D⟩ hheap hf;refine⟨_,run_beginRound hl1 rfl,?_⟩;refine wpIn_mono ((ur hX Y.body pl hq) (W0 l) (λ_=>vW) _ G a1 _ G1 hrt) λe a2 w2 hp=>?_;obtain⟨x2,Il,G2,Xu,hr2,hq2,rD⟩:=hp
 have fin:∀(p:O Outs)(y:OutP E C.s.out p),api C.s (abl C.s Y (aR C.s.tys x)) p x2 Il=W0 y->x2=.normal/\∃v w',(Instr.endRound l WP).run X.P w2=.ok v w'/\zF E w G (gY C.s (C.s.H (aR C.s.tys x)) p y) (.returned v) w':=by
  intro p y hk
  cases p with
  | some q=>cases hk
  | none=>
   cases x2<;>try trivial
   refine⟨rfl,?_⟩;obtain⟨hl2,hr3⟩:=hr2.turn ⟨.ready,WP,fn,tmps,Y.params,Y.assign,Y.body,D⟩ (PX (Av.1 hheap).1) hf;rw[adn hheap]at hr3;refine⟨_,_,run_endRound WP hl2,?_⟩;have hF:Fr (wr Y.assign++wr Y.body) WF (abl C.s Y (aR C.s.tys x)) Il:=hF1.trans rD (λj hj=>by simp[hj]) (λj hj=>by simp[hj]) (λ_=>⟨sM,nP⟩);have hv:VT E (w2.putObj l (.loop ⟨.ready,WP,fn,tmps,Y.params,Y.assign,Y.body,D⟩)) G2 (.dat .bool WF) (.bool WF):=⟨VD.bool WF,trivial⟩;obtain⟨G3,q1,q2,q3,q4,q5⟩:=Outs.G6 hX.E hpre rfl (hF.df rfl) hr3 hF hv hk;exact⟨.bool WF,G3,rfl,q1,q2,q3,q4,q5⟩
 obtain⟨rfl,v,w',hend,hres⟩:=fin C.s.lY y hq2;cases e<;>try (exact Xu.elim)
 exact⟨v,w',hend,hres⟩
def Wt(P:bh):Inv:=λf args w R=>kB P f args w R
theorem Wt.mono(P:bh):(Wt P).aa3:=λf args w R R' h hi=>by
 unfold Wt kB at *;split at hi
 ·exact Gr hi h
 ·exact h _ _ hi
 ·exact hi.elim
theorem bJ.Ok.gok(h:C.Ok P):C.GY (Wt P):=λx y hy=>h x y hy
def LK(keep:J Nat)(t:J (TV E)):J (TV E):=t.zipIdx.map λp=>cond (keep.elem p.2) p.1 .any
noncomputable def runM(X:Cx E)(F:Nat):Code->dQ->{R:Type}->TS E->(Ex E->TS E->O R)->O R
 | .seq a b,p,_,st,k=>match p with
  | .JK ow p q=>match tf (wr a++wr b) ow st with
   | none=>WP
   | some st=>runM X F a p st (jC (λst'=>runM X F b q st' k) k)
  | p=>runT X F (.seq a b) p st k
 | .block i a,p,_,st,k=>match p with
  | .abd p=>runM X F a p st (UO i k)
  | p=>runT X F (.block i a) p st k
 | .rangeFunc g ps a b,p,_,st,k=>match p with
  | .range ow y f keep=>match tf [] ow st with
   | none=>WP
   | some st=>match st.ev g with
    | .func (.func f') caps=>cond (ST f f')
     (rG {st with H:=(st.H++[.Rp])++[.loop y (LK keep st.t)],df:=(AZ,[.uI st.H.length])::st.df} WP f (.uI (st.H.length+1)::caps) (jC (λst'=>match st'.H[st.H.length+1]? with
      | some (.loop _ _)=>k .normal {st' with H:=st'.H.set (st.H.length+1) .gone,d:=(st.H.length+1)::st'.d}
      | _=>WP) λ_ _=>WP) X.Γ) WP
    | _=>WP
  | _=>WP
 | c,p,_,st,k=>runT X F c p st k
def G7(E:TEnv)(P:bh):Code->dQ->Prop
 | .seq a b,.JK _ p q=>G7 E P a p/\G7 E P b q
 | .block _ a,.abd p=>G7 E P a p
 | .rangeFunc _ ps a b,.range _ y f _=>E.yd y ⟨ps,a,b⟩/\∀args w,(callFunc f args).run P w=.ok (.enter f args) w
 | _,_=>True
def LL:Code->dQ->J (Nat×FuncId×YD)
 | .seq a b,.JK _ p q=>LL a p++LL b q
 | .block _ a,.abd p=>LL a p
 | .rangeFunc _ ps a b,.range _ y f _=>[(y,f,⟨ps,a,b⟩)]
 | _,_=>[]
def DQ:Code->J Bool->O YD
 | .rangeFunc _ ps a b,_=>W0 ⟨ps,a,b⟩
 | .seq a _,UV::p=>DQ a p
 | .seq _ b,WF::p=>DQ b p
 | .cond _ a _,UV::p=>DQ a p
 | .cond _ _ b,WF::p=>DQ b p
 | .block _ a,p=>DQ a p
 | .scope a,p=>DQ a p
 | .loop a,p=>DQ a p
 | _,_=>WP
def UT:Nat->Func->J Bool->YD
 | 0,f,p=>match f.body with
  | some c=>match DQ c p with
   | some y=>y
   | none=>⟨#[],.skip,.skip⟩
  | none=>⟨#[],.skip,.skip⟩
 | n+1,f,p=>UT n f p
def abm(E:TEnv)(P:bh)(t:Nat×FuncId×YD):Prop:=E.yd t.1 t.2.2/\∀args w,(callFunc t.2.1 args).run P w=.ok (.enter t.2.1 args) w
theorem am9:∀(c:Code)(p:dQ),(∀t∈LL c p,abm E P t)->G7 E P c p:=by
 intro c
 induction c with
 | seq a b ES ET=>
  intro p h;cases p<;>try (simp[G7];done)
  simp only[LL,p8]at h
  exact⟨ES _ λt ht=>h t (.inl ht),ET _ λt ht=>h t (.inr ht)⟩
 | block i a ih=>
  intro p h;cases p<;>try (simp[G7];done)
  exact ih _ h
 | rangeFunc g ps a b _ _=>
  intro p h;cases p<;>try (simp[G7];done)
  simp only[LL,vk]at h
  exact h _ rfl
 | _=>simp_all[G7]
theorem ydC{t:Nat×FuncId×YD}{l:J (Nat×FuncId×YD)}(h:abm E P t)(hs:∀t∈l,abm E P t):∀t'∈t::l,abm E P t':=λt' ht=>by
 grind
variable{R:Type}{keep:J Nat}
theorem akx{t:J (TV E)}(hs:tmps.size=t.length)(h:∀j d,t[j]? = W0 d->VT E w G d (tmps.getD j undef)):bI E w G (LK keep t) tmps.toList:=by
 have key:∀(t:J (TV E))(vs:J Value)(n:Nat),vs.length=t.length->(∀j d,t[j]? = W0 d->VT E w G d (vs.getD j undef))->bI E w G ((t.zipIdx n).map λp=>cond (keep.elem p.2) p.1 .any) vs:=by
  intro t
  induction t with
  | nil=>intro vs n hl _;cases vs with|nil=>exact .nil|cons _ _=>cases hl
  | cons d t ih=>
   intro vs n hl h
   cases vs with
   | nil=>cases hl
   | cons v vs=>
    rw[List.zipIdx_cons,jY];refine .cons ?_ (ih vs (n+1) (by simpa using hl) λj d' hj=>by simpa using h (j+1) d' (by simpa using hj));cases keep.elem n
    ·simp[VT]
    ·simpa using h 0 d rfl
 refine key t tmps.toList 0 (by simpa using hs) λj d hj=>?_
 simp_all
theorem Rel.apl(hr:Rel E w0 G0 st a w G):Rel E w G st a w G:=
 ⟨kT.refl w G,hr.size,hr.tmps,hr.defers,hr.boxes,λ_ _ _ _=>rfl,hr.Us,hr.gv⟩
theorem Rel.over{w1 w2:U}{G1 G2:bx}{a1 a2:Act}{jK Il:TS E}(h1:Rel E w0 G0 jK a1 w1 G1)(h2:Rel E w1 G1 Il a2 w2 G2)(hd:∀q,q∈jK.d->q∈Il.d):Rel E w0 G0 Il a2 w2 G2:=
 ⟨h1.ff.trans h2.ff,h2.size,h2.tmps,h2.defers,h2.boxes,λq b hq hn=>(h2.fix q b (h1.ff.goes.i q b hq) hn).trans (h1.fix q b hq λhm=>hn (hd q hm)),h1.pins,h2.gv⟩
theorem agq(hX:X.Ok){g:Operand}{ps:Array Tmp}{ca cb:Code}{y:FuncId}{k:Ex E->TS E->Option R}{r:R}{ow:J Own}(h:runM X F (.rangeFunc g ps ca cb) (.range ow y f keep) st k=W0 r)
  (hy:G7 E X.P (.rangeFunc g ps ca cb) (.range ow y f keep)):Is E X.P (.rangeFunc g ps ca cb) st (λx st'=>k x st'=W0 r/\Fr [] UV st st'):=by
 obtain⟨hyd,hent⟩:=hy;simp only[runM]at h;split at h<;>try trivial
 rename_i mJ UU
 suffices hmain:Is E X.P (.rangeFunc g ps ca cb) mJ (λx st'=>k x st'=W0 r/\Fr [] UV mJ st') by
  intro w0 G0 a w G hr;obtain⟨⟨GA,hrA⟩,hfA⟩:=nW UU hr;exact wp_mono (hmain w0 G0 a w GA hrA) λ_ _ _ hp=>cK.mono (λx s' hh=>⟨hh.1,hfA.trans hh.2 (λ_ h=>h) (λ_ h=>h) (λh=>nomatch h)⟩) hp
 clear UU;revert h;generalize mJ=st;intro h;split at h<;>try trivial
 rename_i f' caps hg;cases hf:ST f f'<;>rw[hf]at h<;>simp only[aY,aM]at h
 ·cases h
 obtain rfl:=eM hf;intro w0 G0 a w G hr;refine(wpIn_wide (n:=0)).1 (wpIn_rangeFunc λfn _=>?_);have hv:=hr.ev g;rw[hg]at hv;simp only[VT]at hv;obtain⟨cv,GR,Qq⟩:=hv;have hn1:=hr.Kl (.deferred (W0 [])) .Rp (heap_alloc_new w _)
 have Bj:iK (w.alloc (.deferred (W0 []))) {G with i:=G.i++[w.heap.size]} ((w.alloc (.deferred (W0 []))).alloc (.loop ⟨.ready,WP,fn,a.tmps,ps,ca,cb,w.heap.size⟩)) {G with i:=G.i++[w.heap.size]}:=
  ⟨λ_ _ h=>h,λb o v hp hv=>(PU ((fh.alloc _ _).2 b (hn1.boxes.gu b o hp).1)).trans hv,λ_ _ h=>h,λj x h hj=>⟨x,h,hj,eu _,λ_=>rfl⟩⟩
 have aqT:bI E ((w.alloc (.deferred (W0 []))).alloc (.loop ⟨.ready,WP,fn,a.tmps,ps,ca,cb,w.heap.size⟩)) {G with i:=G.i++[w.heap.size]} (LK keep st.t) a.tmps.toList:=
  akx hr.size λj d hj=>(hn1.tmps j d hj).mono Bj
 have hn2:=hn1.Kl (.loop ⟨.ready,WP,fn,a.tmps,ps,ca,cb,w.heap.size⟩) (.loop y (LK keep st.t)) ⟨⟨ps,ca,cb⟩,fn,a.tmps,w.heap.size,hyd,heap_alloc_new _ _,aqT⟩;have hlen:=hr.boxes.len;obtain⟨G2,hG2⟩:∃G2:bx,{G with i:=(G.i++[w.heap.size])++[(w.alloc (.deferred (W0 []))).heap.size]} = G2:=⟨_,rfl⟩;obtain⟨W1,hW1⟩:∃W1,(w.alloc (.deferred (W0 []))).alloc (.loop ⟨.ready,WP,fn,a.tmps,ps,ca,cb,w.heap.size⟩)=W1:=⟨_,rfl⟩;have hn2:Rel E w0 G0 {st with H:=(st.H++[.Rp])++[.loop y (LK keep st.t)]} a W1 G2:=by simp_all
 have hi0:G2.i[st.H.length]? = W0 w.heap.size:=by
  grind
 have hi1:G2.i[st.H.length+1]? = W0 (w.heap.size+1):=by
  rw[<-hG2]
  simp_all
 have hn3:Rel E w0 G0 {st with H:=(st.H++[.Rp])++[.loop y (LK keep st.t)],df:=(AZ,[.uI st.H.length])::st.df} {a with defers:={target:=.collected w.heap.size,args:=#[]} :: a.defers} W1 G2:=
  ⟨hn2.ff,hn2.size,hn2.tmps,⟨.inr ⟨rfl,w.heap.size,rfl,.cons (by simp_all[VT]) .nil⟩,hn2.defers⟩,hn2.boxes,hn2.fix,hn2.pins,hn2.gv⟩
 have hargs:bI E W1 G2 (.uI (st.H.length+1)::caps) ((#[.func (.yield (w.heap.size+1)) #[] #[]]:Array Value)++cv).toList:=by
  have ri:=hn3.ev g;have e1:TS.ev {st with H:=(st.H++[.Rp])++[.loop y (LK keep st.t)],df:=(AZ,[.uI st.H.length])::st.df} g=.func (.func f) caps:=hg;rw[e1]at ri;simp only[VT]at ri;obtain⟨cv2,apm,apn⟩:=ri;have e2:Act.eval {a with defers:={target:=.collected w.heap.size,args:=#[]} :: a.defers} g=a.eval g:=rfl;rw[e2,GR]at apm;cases apm;have:((#[.func (.yield (w.heap.size+1)) #[] #[]]:Array Value)++cv).toList=.func (.yield (w.heap.size+1)) #[] #[]::cv.toList:=by simp
  rw[this];exact .cons (by simp_all[VT]) apn
 have hI:=DP hX.E (Wt.mono X.P) (λC hC=>(hX.Γ C hC).gok) h _ _ _ _ _ _ hn3.apl hargs;unfold Wt kB at hI;rw[hent]at hI;have hC:=hI;refine⟨w.heap.size+1,[{target:=.collected w.heap.size,args:=#[]}],W1,{target:=.fn (.func f) cv,args:=#[.func (.yield (w.heap.size+1)) #[] #[]]},W1,f,#[.func (.yield (w.heap.size+1)) #[] #[]]++cv,W1,(by simp_all[run_enterLoop_outer]),?_,λ_ _=>trivial,?_,(λh=>nomatch h),(callsIn_wide (n:=0)).2 (Gr hC λe w3 he=>?_)⟩
 ·simp only[resolve,GR]
  simp[go_sem]
 ·simp[invoke,go_sem,hent]
 rcases he with⟨v,st',G',rfl,hR,hk,hF⟩|⟨x,st',hne,hk⟩
 rotate_left
 ·grind
 simp only[jC]at hk;split at hk<;>try trivial
 rename_i y' ds' aqU;have hat:G'.i[st.H.length+1]? = W0 (w.heap.size+1):=hR.ff.goes.i _ _ hi1;obtain⟨Y',fn',tmps',D',hY',hheap,-⟩:=hR.box hat aqU;have hlt:w.heap.size+1<w3.heap.size:=(Av.1 hheap).1
 have hS:=hR.yZ (w':=w3.putObj (w.heap.size+1) (.loop ⟨.exhausted,WP,fn',tmps',Y'.params,Y'.assign,Y'.body,D'⟩)) hat si rfl rfl rfl (λb' hb=>Jt hb) (x:=.gone)
  (λ_=>⟨_,PX hlt,λcs t m e=>by cases e⟩)
 obtain⟨D2,hD2,hH2⟩:=hF.d
 have hO:=Rel.over hn3 hS (λq hq=>by
  grind)
 refine⟨WP,_,run_endLoop hheap (λe=>nomatch e),?_⟩;refine⟨.normal,_,G',trivial,hO,hk,?_⟩;refine⟨hF.len,λi hi=>hF.keep i (λh=>by cases h),⟨(st.H.length+1)::D2,by grind,λq hq hd=>?_⟩,?_,λh=>nomatch h⟩
 ·grind
 grind
theorem agr(hX:X.Ok):∀(c:Code)(p:dQ){R:Type}{st:TS E}{k:Ex E->TS E->Option R}{r:R},runM X F c p st k=W0 r->G7 E X.P c p->Is E X.P c st (λx st'=>k x st'=W0 r/\Fr (wr c) UV st st'):=by
 have base:∀(c:Code)(p:dQ){R:Type}{st:TS E}{k:Ex E->TS E->Option R}{r:R},runT X F c p st k=W0 r->Is E X.P c st (λx st'=>k x st'=W0 r/\Fr (wr c) UV st st'):=
  λc p R st k r h w0 G0 a w G hr=>wp_mono ((ur hX c p h).wp hr) λ_ _ _ hp=>cK.mono (λx s hh=>⟨hh.1,hh.2.wide (λ_ h=>h) (λh=>nomatch h)⟩) hp
 intro c
 induction c with
 | seq a b ES ET=>
  intro p R st k r h hy
  cases p with
  | JK ow p q=>
   simp[runM]at h;split at h<;>try trivial
   rename_i mJ UU;intro w0 G0 ac w G hr;obtain⟨⟨GA,hrA⟩,hfA⟩:=nW UU hr;refine wp_mono (Q:=cK E w0 G0 (λx st'=>k x st'=W0 r/\Fr (wr (.seq a b)) UV mJ st')) ?_ λ_ _ _ hp=>cK.mono (λx s' hh=>⟨hh.1,hfA.trans hh.2 (λ_ h=>h) (λ_ h=>h) (λh=>nomatch h)⟩) hp;revert GA h;generalize mJ=st;intro h G hr;refine wp_seq (wp_mono (ES p h hy.1 w0 G0 ac w G hr) λe a' w' hp=>?_);obtain⟨x,s,G',he,hr',hq,hf⟩:=hp
   cases x with
   | normal=>
    cases e<;>try (exact he.elim)
    exact wp_mono (ET q hq hy.2 w0 G0 a' w' G' hr') λ_ _ _ hp=>cK.mono (λx s' hh=>⟨hh.1,hf.trans hh.2 (λi hi=>by simp[wr,hi]) (λi hi=>by simp[wr,hi]) (λh=>nomatch h)⟩) hp
   | _=>
    have rF:cK E w0 G0 (λx st'=>k x st'=W0 r/\Fr (wr (.seq a b)) UV st st') e a' w':=⟨_,s,G',he,hr',hq,hf.wide (λi hi=>by simp[wr,hi]) (λh=>h)⟩
    cases e<;>first|exact he.elim|exact rF
  | _=>grind[runM]
 | block i a ih=>
  intro p R st k r h hy
  cases p with
  | abd p=>
   intro w0 G0 ac w G hr;refine wp_block (wp_mono (ih p h hy w0 G0 ac w G hr) λe a' w' hp=>?_);obtain⟨x,s,G',he,hr',hq,hf⟩:=hp
   cases x with
   | exit j=>
    cases e<;>try (exact he.elim)
    rename_i i';subst he;simp[UO]at hq;simp[Exit.inBlock];cases hb:ST i' i<;>rw[hb]at hq<;>simp at hq
    ·have:i'≠i:=λe=>by simp_all
     rw[if_neg this];exact⟨.exit i',s,G',rfl,hr',hq,hf⟩
    ·rw[if_pos (eM hb)]
     exact⟨.normal,s,G',trivial,hr',hq,hf⟩
   | _=>
    have rF:cK E w0 G0 (λx st'=>k x st'=W0 r/\Fr (wr (.block i a)) UV st st') e a' w':=⟨_,s,G',he,hr',hq,hf⟩
    cases e<;>first|exact he.elim|exact rF
  | _=>grind[runM]
 | rangeFunc g ps a b _ _=>
  intro p R st k r h hy
  cases p with
  | range ow y f keep=>exact agq hX h hy
  | _=>simp_all[runM]
 | _=>grind[runM]
def Qx{R:Type}(k:TS E->Option R):J (FuncId×J (TV E))->TS E->Option R
 | [],st=>k {st with df:=[]}
 | (f,[.uI q])::df,st=>cond (ST f AZ) (match st.H[q]? with
   | some .Rp=>Qx k df {st with H:=st.H.set q .gone,d:=q::st.d}
   | _=>WP) WP
 | _,_=>WP
def apo(X:Cx E)(s:di)(fn:Func)(bP:TS E):(p:O Outs)->Ex E->TS E->O (OutP E s.out p)
 | none,.ret,st=>Qx (λst=>(qp X st fn.results.toList).bind λds=>s.out.get bP st (qT ds)) st.df st
 | none,.normal,st=>Qx (λst=>(qp X st fn.results.toList).bind λds=>s.out.get bP st (qT ds)) st.df st
 | _,_,_=>WP
noncomputable def ags(X:Cx E)(F:Nat)(s:di)(fn:Func)(pl:dQ)(x:dens E s.tys):O (OutP E s.out s.lY):=
 match fn.body with
 | some c=>runM X F c pl (s.bP fn.ntmps (aR s.tys x)) (apo X s fn (s.bP fn.ntmps (aR s.tys x)) s.lY)
 | none=>WP
theorem RE{P:Program}{fn:Func}{R:Type}{k:TS E->Option R}{r:R}{w0:World}{G0:bx}{tmps:Array Value}{RR:Ending->World->Prop}:∀(df:J (FuncId×J (TV E)))(st:TS E)(ds:J Deferred)(w:World)(G:bx),Qx k df st=W0 r ->
  Rel E w0 G0 {st with df:=df} {tmps:=tmps,defers:=ds} w G ->
  (∀(st':TS E)(w':World)(G':bx),k {st' with df:=[]} = W0 r->Rel E w0 G0 {st' with df:=[]} {tmps:=tmps,defers:=[]} w' G'->Fr [] UV st st'->∃v,(results fn tmps).run P w'=.ok v w'/\RR (.returned v) w') ->
  LeavesInM Fence.wide 0 P fn tmps RR ds .returning w
 | [],st,ds,w,G,h,hr,hk=>by
  have:ds=[]:=by
   have:=hr.defers
   cases ds with
   | nil=>rfl
   | cons _ _=>exact this.elim
  subst this
  exact hk st w G h hr (Fr.refl _ _ _)
 | (f,dv)::df,st,ds,w,G,h,hr,hk=>by
  cases ds with
  | nil=>exact hr.defers.elim
  | cons d0 ds=>
  obtain⟨hd,fB⟩:=hr.defers
  obtain⟨q,hdv,h'⟩:∃q,dv=[.uI q]/\cond (ST f AZ) (match st.H[q]? with
   | some .Rp=>Qx k df {st with H:=st.H.set q .gone,d:=q::st.d}
   | _=>WP) WP=W0 r:=by
   cases dv with
   | nil=>cases h
   | cons z zs=>
    cases zs with
    | cons _ _=>cases z<;>cases h
    | nil=>cases z<;>first|(cases h;done)|exact⟨_,rfl,h⟩
  subst hdv;cases hc:ST f AZ<;>rw[hc]at h'<;>simp only[aY,aM]at h'
  ·cases h'
  split at h'<;>try (cases h';done)
  rename_i hq
  obtain⟨-,b,rfl,hv⟩:=hd.resolve_left (λhh=>by
   simp_all)
  obtain⟨u,us,he,h1,-⟩:=hv.cons_inv;cases he;obtain⟨b',he,hat⟩:=h1;cases he;have N8:=hr.box hat hq;have hlt:=(Av.1 N8).1;have hS:=hr.yZ (w':=w.putObj b (.deferred WP)) hat si rfl rfl rfl (λb' hb=>Jt hb) (x:=.gone) (λ_=>⟨_,PX hlt,λcs t m e=>by cases e⟩);refine⟨(λe=>nomatch e),.inl ⟨b,_,rfl,run_takeDeferred N8,?_⟩⟩;refine RE df {st with H:=st.H.set q .gone,d:=q::st.d} ds _ G h' ⟨hS.ff,hS.size,hS.tmps,hS.defers.2,hS.boxes,hS.fix,hS.pins,hS.gv⟩ λst' w' G' h1 h2 h3=>hk st' w' G' h1 h2 ?_;have f1:Fr [] UV st {st with H:=st.H.set q .gone,d:=q::st.d}:=⟨rfl,λ_ _=>rfl,⟨[q],rfl,λj hj hd=>Nx (λe=>hd (by simp[e]))⟩,si,λh=>nomatch h⟩;exact f1.trans h3 (λ_ h=>h) (λ_ h=>h) (λh=>nomatch h)
theorem ado(hX:X.Ok)(hf:X.P.funcs[s.f]? = W0 fn)(hn:(fn.name == "runtime.NumGoroutine")=UV)(hy:∀c,fn.body=W0 c->G7 E X.P c pl)(h:ags X F s fn pl x=W0 y):
  lK X.P s.f (s.ds (aR s.tys x)) (s.H (aR s.tys x)) s.g0 (s.c (aR s.tys x)) (gY s (s.H (aR s.tys x)) s.lY y):=by
 unfold ags at h;split at h<;>try trivial
 rename_i c hb;intro w G args hP hB hS hV;have Gw:=Rel.init (n:=fn.ntmps) hP hB hS hV;have hpre:=Gw.pre;refine ud hf hb hn ((callsIn_wide).1 (callsIn_of_wp_marks hf hb trivial ((wpIn_wide (n:=0)).2 (wp_mono (agr hX c pl h (hy c hb) w G _ w G Gw) λe a' w' hp=>?_))));obtain⟨ex,st,G',he,hr,hk,hF⟩:=hp
 have fin:∀(p:Option Outs)(y:OutP E s.out p),apo X s fn (s.bP fn.ntmps (aR s.tys x)) p ex st=W0 y->(ex=.ret\/ex=.normal)/\LeavesInM Fence.wide 0 X.P fn a'.tmps (zF E w G (gY s (s.H (aR s.tys x)) p y)) a'.defers .returning w':=by
  intro p y hk
  cases p with
  | some q=>cases ex<;>cases hk
  | none=>
   have main:Qx (λst=>(qp X st fn.results.toList).bind λds=>s.out.get (s.bP fn.ntmps (aR s.tys x)) st (qT ds)) st.df st=W0 y->LeavesInM Fence.wide 0 X.P fn a'.tmps (zF E w G (gY s (s.H (aR s.tys x)) WP y)) a'.defers .returning w':=λhk=>
    RE st.df st a'.defers w' G' hk hr λst' w2 G2 h1 h2 h3=>by
     have hF3:Fr (wr c) UV (s.bP fn.ntmps (aR s.tys x)) st':=hF.trans h3 (λ_ h=>h) (λ_ h=>by cases h) (λh=>nomatch h)
     cases hds:qp X {st' with df:=[]} fn.results.toList with
     | none=>rw[hds]at h1;cases h1
     | some ds=>
      rw[hds]at h1;obtain⟨v,hv,hrun⟩:=AB hX h2 hds;have hF4:Fr (wr c) UV (s.bP fn.ntmps (aR s.tys x)) {st' with df:=[]}:=⟨hF3.len,hF3.keep,hF3.d,hF3.hl,λh=>nomatch h⟩;obtain⟨G3,q1,q2,q3,q4,q5⟩:=Outs.G6 hX.E (st:={st' with df:=[]}) hpre rfl rfl h2 hF4 hv h1;exact⟨v,hrun,v,G3,rfl,q1,q2,q3,q4,q5⟩
   cases ex<;>try trivial
   ·exact⟨.inr rfl,main hk⟩
   ·exact⟨.inl rfl,main hk⟩
 obtain⟨hex,hl⟩:=fin s.lY y hk;rcases hex with rfl|rfl<;>cases e<;>first|exact he.elim|exact hl
theorem bJ.apq(hX:X.Ok)(hf:X.P.funcs[C.s.f]? = W0 fn)(hn:(fn.name == "runtime.NumGoroutine")=UV){c:Code}(hc:fn.body=W0 c){l:J (Nat×FuncId×YD)}(hl:LL c pl=l)(hy:∀t∈l,abm E X.P t)
  (h:∀x,ags X F C.s fn pl x=C.m x):C.Ok X.P:=
 λx y hyy=>ado hX hf hn (λc' s7=>by rw[hc]at s7;cases s7;exact am9 c pl (by rw[hl];exact hy)) (by rw[h x];exact hyy)
def aC(n:Int):Int:=Sx .i64 n
def sl{α:Type}(l:J α)(p q:Int):J α:=(l.take q.toNat).drop p.toNat
def cW{α:Type}[BEq α](a b:α):Bool:=a==b
theorem bJ.ZN(hX:X.Ok)(hf:X.P.funcs[C.s.f]? = W0 fn)(hn:(fn.name == "runtime.NumGoroutine")=UV)(h:∀x,abj X F C.s fn pl x=C.m x):C.Ok X.P:=
 λx y hy=>agp hX hf hn (by rw[h x];exact hy)
theorem ig:∀C∈([]:J (bJ E)),C.Ok P:=λ_ h=>nomatch h
theorem bU{C:bJ E}{Γ:J (bJ E)}(h:C.Ok P)(hs:∀C∈Γ,C.Ok P):∀C'∈C::Γ,C'.Ok P:=λC' hC=>by
 rcases iy.1 hC with rfl|hC
 ·exact h
 ·exact hs C' hC
def tyS(l:J Nat)(ty:aK->O Ty):aK->O Ty:=λt=>cond (Nat.ble 2000000 t) (cond (l.elem (t-2000000)) (W0 .bool) WP) (ty t)
def Xo(F:Nat)(s:J UInt8)(c:Int):O Int:=W0 (Lib.indexByte s c.toNat.toUInt8)
def ibS(f:FuncId):di:=⟨f,[.one (.dat .str),.one (.dat (.int .u8))],[],[],⟨.one (.dat (.int .i64)),[],[],[]⟩,WP,[]⟩
def ibC(E:TEnv)(f:FuncId)(F:Nat):bJ E:=⟨ibS f,λ(x:J UInt8×Int)=>Xo F x.1 x.2⟩
theorem ap9(h:∀args w,(callFunc f args).run P w=((Extern.BytealgIndexByte.indexByte args).run P w).andThen λv w'=>.ok (.value v) w')(F:Nat):(ibC E f F).Ok P:=by
 have key:∀(s:J UInt8)(c:Int),lK (E:=E) P f [.dat .str s,.dat (.int .u8) c] [] [] [] ⟨WF,.dat (.int .i64) (Lib.indexByte s c.toNat.toUInt8),[],[],[],[]⟩:=by
  intro s c w G args hP hB hS hv;obtain⟨u,us,he,h1,h2⟩:=hv.cons_inv;obtain⟨u2,Tr,Xu,h3,h4⟩:=h2.cons_inv;have h4:Tr=[]:=by simpa only[bI]using h4
  have e1:=h1.iq;have e2:=h3.fT;subst e1 e2 h4 Xu;have ha:args=#[mkStr s,.int .u8 c]:=by apply Tm;exact he
  subst ha
  have hrun:(callFunc f #[mkStr s,.int .u8 c]).run P w=.ok (.value (.int .i64 (Lib.indexByte s c.toNat.toUInt8))) w:=by
   rw[h,mkStr,Lib.run_indexByteString];rfl
  unfold kB;rw[hrun];exact⟨.int .i64 (Lib.indexByte s c.toNat.toUInt8),G,rfl,kT.refl w G,hB,hS,.int _ _ _ _,λ_ _ _ _=>rfl⟩
 intro x y hy;obtain⟨s,c⟩:=x;have hy:W0 (Lib.indexByte s (Ts c).toUInt8)=W0 y:=hy;cases hy;exact key s c
def neF(F:Nat):O Unit:=W0 ()
def neS(f:FuncId)(b:BT)(rows:J (aK×Nat)):di:=⟨f,[.one (.ptr 0 0)],[b],rows,⟨.one (.ptr 0 0),[WP],rows.map λ_=>WP,[]⟩,WP,[]⟩
def neC(E:TEnv)(f:FuncId)(b:BT)(rows:J (aK×Nat)):bJ E:=⟨neS f b rows,λ_=>W0 ()⟩
theorem OO:∀(rows:J (aK×Nat))(g:J cL),g.length=rows.length->dZ (rows.map λ_=>WP) g=g
 | [],[],_=>rfl
 | _::rows,x::g,h=>by
  have:=OO rows g (by simpa using h);simp only[jY,dZ,this]
theorem aqV{b:BT}{rows:J (aK×Nat)}(h:∀v w,(callFunc f #[v]).run P w=.ok (.value v) w):(neC E f b rows).Ok P:=by
 intro x y _;intro w G args hP hB hS hv;have hv:bI E w G [.ptr 0 0] args.toList:=hv;obtain⟨u,us,he,h1,h2⟩:=hv.cons_inv;have h2:us=[]:=by simpa only[bI]using h2
 subst h2;have ha:args=#[u]:=by apply Tm;exact he
 subst ha;show kB P f #[u] w _;unfold kB;rw[h];refine⟨u,G,rfl,kT.refl w G,?_,hS,h1,λ_ _ _ _=>rfl⟩;have e:dZ (rows.map λ_=>WP) (neS f b rows).g0=(neS f b rows).g0:=OO rows _ (by simp[di.g0,neS]);show lW E w G _ (dZ (rows.map λ_=>WP) (neS f b rows).g0);rw[e];exact hB
def UW(P:bh):Inv:=λf args w R=>(∀args w,(callFunc f args).run P w=.ok (.enter f args) w)/\∀u,CallsD P f args u w (λe u' w'=>u'=u/\R e w')
def aif(u:FrameMode)(v:Value):Prop:=(u=.returning/\v=.nilIface)\/u=.panicking [{v:=v,recovered:=UV}]
def DR(P:bh):Inv:=λf amc w R=>(∀args w,(callFunc f args).run P w=.ok (.enter f args) w) /\
 ∀(v:Value)(args:aJ Value)(u:FrameMode),amc.toList=v::args.toList->aif u v->CallsD P f args u w (λe u' w'=>settle u'=.returning/\R e w')
theorem UW.mono(P:bh):(UW P).aa3:=λf args w R R' h hi=>⟨hi.1,λu=>(hi.2 u).mono λe u' w' hh=>⟨hh.1,h _ _ hh.2⟩⟩
theorem DR.mono(P:bh):(DR P).aa3:=λf args w R R' h hi=>⟨hi.1,λv args u h1 h2=>(hi.2 v args u h1 h2).mono λe u' w' hh=>⟨hh.1,h _ _ hh.2⟩⟩
structure Dx(E:TEnv) where
 o:List (bJ E)
 r:List (bJ E)
structure Dx.Ok(P:Program)(D:Dx E):Prop where
 o:∀C∈D.o,C.GY (UW P)
 r:∀C∈D.r,C.GY (DR P)
def me:O (TV E)->J (FuncId×J (TV E))
 | none=>[]
 | some d=>[(0,[d])]
def aky:O (TV E)->TV E
 | none=>.val .nilIface
 | some d=>d
def DS{R:Type}(D:Dx E)(k:O (TV E)->TS E->O R):J (FuncId×J (TV E))->O (TV E)->TS E->O R
 | [],m,st=>k m {st with df:=[]}
 | (f,ds)::df,m,st=>cond (ST f AZ) WP <| cond (D.r.any λC=>ST C.s.f f)
   (rG {st with df:=df} WP f (aky m::ds) (jC (λst'=>DS D k df WP st') λ_ _=>WP) D.r)
   (rG {st with df:=df++me m} WP f ds (jC (λst'=>DS D k df m st') λ_ _=>WP) D.o)
inductive Qy:Option (TV E)->List Deferred->FrameMode->Prop
 | ret:Qy WP [] .returning
 | lY (d:TV E) (v:Value):Qy (W0 d) [{target:=.fn (.func 0) #[],args:=#[v]}] (.panicking [{v:=v,recovered:=UV}])
theorem kA.app{w:U}{G:bx}:∀ {a b:J Deferred}{x y:J (FuncId×J (TV E))},a.length=x.length->kA E w G (a++b) (x++y)->kA E w G a x/\kA E w G b y
 | [],b,[],y,_,h=>⟨trivial,h⟩
 | d::a,b,z::x,y,hl,h=>by
  obtain⟨h1,h2⟩:=h;obtain⟨h3,h4⟩:=kA.app (by simpa using hl) h2;exact⟨⟨h1,h3⟩,h4⟩
theorem kA.len{w:U}{G:bx}:∀ {a:J Deferred}{x:J (FuncId×J (TV E))},kA E w G a x->a.length=x.length
 | [],[],_=>rfl
 | _::a,_::x,h=>by simp[kA.len h.2]
 | [],_::_,h=>h.elim
 | _::_,[],h=>h.elim
theorem Fr.agt(st:TS E)(y:J (FuncId×J (TV E)))(W:J Nat):Fr W UV st {st with df:=y}:=⟨rfl,λ_ _=>rfl,⟨[],rfl,λ_ _ _=>rfl⟩,eu _,λh=>nomatch h⟩
theorem Rel.UX{y:J (FuncId×J (TV E))}{ds:J Deferred}(h:Rel E w0 G0 st a w G)(hd:kA E w G ds y):Rel E w0 G0 {st with df:=y} {a with defers:=ds} w G:=
 ⟨h.ff,h.size,h.tmps,hd,h.boxes,h.fix,h.pins,h.gv⟩
theorem G8(hE:E.Ok){P:Program}{fn:Func}{D:Dx E}(hD:D.Ok P){R:Type}{k:Option (TV E)->TS E->Option R}{r:R}{w0:World}{G0:bx}{tmps:Array Value}{RR:Ending->World->Prop}:
  ∀(df:J (FuncId×J (TV E)))(m:Option (TV E))(st:TS E)(ds mv:J Deferred)(u:FrameMode)(w:World)(G:bx),DS D k df m st=W0 r->ds.length=df.length ->
   Rel E w0 G0 {st with df:=df++me m} {tmps:=tmps,defers:=ds++mv} w G->Qy m mv u ->
   (∀(m':Option (TV E))(st':TS E)(mv':J Deferred)(u':FrameMode)(w':World)(G':bx),k m' {st' with df:=[]} = W0 r->Rel E w0 G0 {st' with df:=me m'} {tmps:=tmps,defers:=mv'} w' G'->Qy m' mv' u'->Fr [] UV st st'->Leaves P fn tmps RR [] u' w') ->
   Leaves P fn tmps RR ds u w
 | [],m,st,ds,mv,u,w,G,h,hl,hr,hm,hk=>by
  have:ds=[]:=by simp_all
  subst this
  exact hk m st mv u w G h hr hm (Fr.refl _ _ _)
 | (f,dv)::df,m,st,ds,mv,u,w,G,h,hl,hr,hm,hk=>by
  cases ds with
  | nil=>cases hl
  | cons d0 ds=>
  have hl':ds.length=df.length:=by simpa using hl
  have iz:=hr.defers;obtain⟨hdo,apr⟩:=iz;simp[DS]at h;cases af8:ST f AZ<;>rw[af8]at h<;>simp only[aY,aM]at h
  rotate_left
  ·cases h
  obtain⟨-,cap,akz,hargs⟩:=hdo.resolve_right (λhh=>by
   simp_all)
  have hu:u≠.run:=by cases hm<;>(intro e;cases e)
  have hinv:(∀args w,(callFunc f args).run P w=.ok (.enter f args) w)->(invoke d0.target d0.args).run P w=.ok (.enter f (d0.args++cap)) w:=λhe=>by
   rw[akz];have:=he (d0.args++cap) w;simpa[invoke]using this
  cases hc:(D.r.any λC=>ST C.s.f f)<;>rw[hc]at h<;>simp at h
  ·have eX:=hr.UX apr
   have hI:=DP hE (UW.mono P) hD.o h w0 G0 _ w G (d0.args++cap) eX hargs;refine⟨hu,.func f,cap,f,d0.args++cap,akz,hinv hI.1,(hI.2 u).mono λe u' w' hh=>?_⟩;obtain⟨rfl,hh⟩:=hh;rcases hh with⟨v,st',G',rfl,hR,hkk,hF⟩|⟨x,st',hne,hkk⟩
   ·have mN:settle u'=u':=by cases hm<;>rfl
    show Leaves P fn tmps RR ds (settle u') w';rw[mN];have hdf:st'.df=df++me m:=hF.df rfl;have hR':Rel E w0 G0 {st' with df:=df++me m} {tmps:=tmps,defers:=ds++mv} w' G':=by rw[<-hdf];exact hR
    refine G8 hE hD df m st' ds mv u' w' G' hkk hl' hR' hm λm' Il mv' u2 w2 G2 h1 h2 h3 rD=>hk m' Il mv' u2 w2 G2 h1 h2 h3 ?_;exact((Fr.agt st (df++me m) []).trans hF (n:=UV) (λ_ h=>h) (λ_ h=>h) (λh=>nomatch h)).trans rD (λ_ h=>h) (λ_ h=>h) (λh=>nomatch h)
   grind
  ·obtain⟨X5,X6⟩:=kA.app hl' apr
   have eX:=hr.UX X5
   have hv:∃v,aif u v/\VT E w G (aky m) v:=by
    cases hm with
    | ret=>exact⟨.nilIface,.inl ⟨rfl,rfl⟩,by simp[aky,VT]⟩
    | lY d v=>
     refine⟨v,.inr rfl,?_⟩;obtain⟨akA,-⟩:=X6;obtain⟨-,cap',ht',jz⟩:=akA.resolve_right (λhh=>absurd (show(0:Nat)=AZ from hh.1) de);obtain⟨u1,us,he,h1,-⟩:=jz.cons_inv;simp at he;obtain⟨rfl,-⟩:=he;exact h1
   obtain⟨v,hmo,hvt⟩:=hv
   have hI:=DP hE (DR.mono P) hD.r h w0 G0 _ w G (#[v]++(d0.args++cap)) eX (by
    have:(#[v]++(d0.args++cap)).toList=v::(d0.args++cap).toList:=by simp
    rw[this];exact .cons hvt hargs)
   refine⟨hu,.func f,cap,f,d0.args++cap,akz,hinv hI.1,(hI.2 v (d0.args++cap) u si hmo).mono λe u' w' hh=>?_⟩;obtain⟨mN,hh⟩:=hh;rcases hh with⟨v,st',G',rfl,hR,hkk,hF⟩|⟨x,st',hne,hkk⟩
   ·show Leaves P fn tmps RR ds (settle u') w'
    rw[mN];have hdf:st'.df=df:=hF.df rfl
    have hR':Rel E w0 G0 {st' with df:=df++me WP} {tmps:=tmps,defers:=ds++[]} w' G':=by
     simp[me];rw[<-hdf];exact hR
    refine G8 hE hD df WP st' ds [] .returning w' G' hkk hl' hR' .ret λm' Il mv' u2 w2 G2 h1 h2 h3 rD=>hk m' Il mv' u2 w2 G2 h1 h2 h3 ?_;exact((Fr.agt st df []).trans hF (n:=UV) (λ_ h=>h) (λ_ h=>h) (λh=>nomatch h)).trans rD (λ_ h=>h) (λ_ h=>h) (λh=>nomatch h)
   grind
end Go.RT
