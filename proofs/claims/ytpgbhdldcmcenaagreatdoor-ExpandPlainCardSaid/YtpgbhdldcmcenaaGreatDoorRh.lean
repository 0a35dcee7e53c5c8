import Derived.Test.YtpgbhdldcmcenaaGreatDoorRf
import Derived.Sort.Row
import Derived.OrdersHeld
import Derived.Lib.ConvBytes
import Derived.Scope
import Derived.Lib.Bytealg
import Derived.Recover
set_option linter.all false
namespace Go.RT
variable {E : TEnv}
def zf(E:TEnv)(w:U)(G:bq)(r:aag E)(e:Ending)(w':U):Prop:=
 ∃v G',e=C2 r.ok v/\kQ w G w' G'/\lP E w' G' r.H r.g/\kH E w' G' r.c/\VT E w' G' r.d v/\∀(q b:Nat),G.i[q]? = some b->q∉r.D->w'.heap[b]? = w.heap[b]?
def Inv:=FuncId->aG Value->U->(Ending->U->Prop)->Prop
def Inv.aaq(I:Inv):Prop:=∀f args w (R R':Ending->U->Prop),(∀e w',R e w'->R' e w')->I f args w R->I f args w R'
def AGC(E:TEnv)(I:Inv)(f:FuncId)(ds:J (TV E))(H:J (fM E))(gs:J cH)(cs:J (Nat×Cn E))(r:aag E):Prop:=
 ∀(w:U)(G:bq)(args:aG Value),p6 E w G->lP E w G H gs->kH E w G cs->bI E w G ds args.toList->I f args w (zf E w G r)
def bJ.GC(I:Inv)(C:bJ E):Prop:=
 ∀x y,C.m x=some y->AGC E I C.s.f (C.s.ds (aP C.s.tys x)) (C.s.H (aP C.s.tys x)) C.s.g0 (C.s.c (aP C.s.tys x)) (ko C.s (C.s.H (aP C.s.tys x)) C.s.lU y)
variable{st:TS E}
theorem Dv(hE:E.Ok){I:Inv}(hI:I.aaq){R:Type}{f:FuncId}{ds:J (TV E)}{dst:Option Nat}{k:Ex E->TS E->Option R}{r:R}:
  ∀ {Γ:J (bJ E)},(∀C∈Γ,C.GC I)->q8 st dst f ds k Γ=some r->∀(w0:World)(G0:bq)(a:Act)(w:World)(G:bq)(args:Array Value),Rel E w0 G0 st a w G->bI E w G ds args.toList ->
   I f args w (fun e w'=>(∃v st' G',e=.returned v/\Rel E w0 G0 st' (a.put dst v) w' G'/\k .normal st'=some r/\Fr (iC dst) true st st')\/∃x st',x≠.normal/\k x st'=some r)
 | [],_,h=>by cases h
 | C::Γ,hΓ,h=>by
  have fC:q8 st dst f ds k Γ=some r->_:=Dv hE hI (fun C' hC=>hΓ C' (by simp [hC]));simp [q8] at h;cases hf:Nat.beq C.s.f f<;>rw [hf] at h<;>simp at h
  ·exact fC h
  have hf:=eM hf;obtain⟨QB,jF,hhs⟩:∃QB jF,yK C.s.args ds st=(QB,jF):=⟨_,_,rfl⟩;rw [hhs] at h;split at h
  ·rename_i ls hls
   split at h
   ·rename_i xx hxx
    generalize BX:qQ (C.s.dY jF QB).b=bs at *;generalize hgs:qQ (C.s.dY jF QB).g=gs at *;obtain⟨hwf,h⟩:=dQ h
    cases hm:C.m xx with
    | none=>rw [hm] at h;cases h
    | some y=>
     intro w0 G0 a w G0' args hr N5;obtain⟨PM,G,eU,AV,hvs⟩:=N1 C.s.args ds hr;have hargs:=hvs _ N5;rw [hhs] at eU hargs PM;have hr:=eU
     have hnd:bs.Nodup/\gs.Nodup/\bs.length=C.s.boxes.length/\C.s.rows.length=gs.length:=by
      unfold dc.enter at hls;split at hls<;>try trivial
      rename_i H g hH hg;cases o5:(vU bs&&(vU gs&&(Nat.beq bs.length C.s.boxes.length&&zH C.s.rows g)))<;>rw [o5] at hls<;>simp only [aZ] at hls
      ·cases hls
      simp only [cE] at o5;exact⟨vV o5.1,vV o5.2.1,eM o5.2.2.1,by rw [(C3 o5.2.2.2).1,(rI hg).1]⟩
     obtain⟨is,gg,hi,AQ,hB,hS,hV⟩:=hr.enter hE hls hargs;have hput:=Dr _ hxx;have hok:=hΓ C si xx y hm w (G.dY is gg) args (hr.TF.dY hi AQ) (by rw [hput];exact hB) (by rw [hput];exact hS) (by rw [hput];exact hV);have hg0:=hB.gs
     have hwf':∀(q:Outs),q.wf bs.length gs.length=true->zI bs.length q.boxes=true/\gs.length<=q.rows.length:=fun q hq=>by
      simp_all [Outs.wf]
     unfold dc.wf at hwf;rw [cE] at hwf
     have N6:∀(y:dens E C.s.out.tys)(e:Ending)(w':World),okK C.s.out bs gs jF dst k y=some r ->
       zf E w (G.dY is gg) (C.s.out.mM true (C.s.H (aP C.s.tys xx)) C.s.g0 (aP C.s.out.tys y)) e w' ->
       ∃v st' G',e=.returned v/\Rel E w0 G0 st' (a.put dst v) w' G'/\k .normal st'=some r/\Fr (iC dst) true st st':=by
      rintro y e w' hk ⟨v1,G',he,hE,TJ,TK,TL,Lg⟩;subst he;obtain⟨hs1,hs2⟩:=hwf' _ hwf.1;rw [<-hg0] at TJ TK TL;obtain⟨Gn,hR,hval⟩:=hr.leave hi AQ hnd.1 hnd.2.1 C.s.out hs1 hs2 hE TJ TK TL Lg;exact⟨v1,_,Gn,rfl,hR.put hval dst,hk,(C.s.out.R8 bs gs jF _ dst _).ofC PM⟩
     have fin:∀(p:Option Outs)(hp:C.s.lU=p)(y:OutP E C.s.out p),aao C.s bs gs jF dst k p y=some r->I f args w (zf E w (G.dY is gg) (ko C.s (C.s.H (aP C.s.tys xx)) p y)) ->
       I f args w (fun e w'=>(∃v st' G',e=.returned v/\Rel E w0 G0 st' (a.put dst v) w' G'/\k .normal st'=some r/\Fr (iC dst) true st st')\/∃x st',x≠.normal/\k x st'=some r):=by
      intro p hp y hk hi;refine hI _ _ _ _ _ (fun e w' hR=>?_) hi
      cases p with
      | none=>exact .inl (N6 y e w' hk hR)
      | some q=>
       cases y with
       | inl y=>exact .inl (N6 y e w' hk hR)
       | inr y=>exact .inr ⟨.panic (q.val bs gs jF (aP q.tys y)),_,(fun h=>nomatch h),hk⟩
     grind
   ·exact fC h
  ·exact fC h
def VJ(E:TEnv)(P:bh):Inv:=fun f args w R=>∀(Y:YD)(fn l D:Nat)(xs tmps:aG Value),E.yd f Y->args=xs++tmps->xs.size=Y.params.size ->
 w.heap[l]? = some (.loop ⟨.ready,none,fn,tmps,Y.params,Y.assign,Y.body,D⟩)->RoundIn Fence.wide 0 P l fn ((Y.params.zip xs).foldl (fun t (p,v)=>t.setIfInBounds p v) tmps) Y.assign Y.body w R
theorem VJ.mono(P:bh):(VJ E P).aaq:=fun f args w R R' h hi Y fn l D xs tmps h1 h2 h3 h4=>(hi Y fn l D xs tmps h1 h2 h3 h4).mono h
def aq0{E:TEnv}(P:bh)(Y:J (bJ E)):Prop:=∀C∈Y,C.GC (VJ E P)
structure SO(P:Program)(f:FuncId):Prop where
 enters:∀args w,(callFunc f args).run P w=.ok (.enter f args) w
 call:∀(blk cap:Nat)(zs:List Int)(w:World),Sort.Holds (Value.int .u8) w blk 0 zs.toArray->zs.length<=9223372036854775807->Calls P f #[.slice (some ⟨blk,0,none⟩) zs.length cap] w fun e w'=>
  e=.returned (.tuple #[])/\∃n,w'=Sort.putRow (Value.int .u8) (Sort.ahead w n) blk 0 zs.reverse.toArray
structure Cx(E:TEnv) where
 P:Program
 ty:TypeId->Option Ty
 Γ:List (bJ E)
 Y:List (bJ E):=[]
 rv:Option FuncId:=none
structure Cx.Ok(X:Cx E):Prop where
 E:E.Ok
 Γ:∀C∈X.Γ,C.Ok X.P
 mix:X.P.follows .mixedOrders=true
 Y:aq0 X.P X.Y:=by exact fun _ h=>nomatch h
 rv:∀f,X.rv=some f->SO X.P f:=by exact fun _ h=>nomatch h
variable{P:bh}
theorem QC:∀f,(none:Option FuncId)=some f->SO P f:=fun _ h=>nomatch h
theorem rvS{g:FuncId}(h:SO P g):∀f,some g=some f->SO P f:=fun _ e=>by cases e;exact h
def dec(l:J UInt8)(p:Nat):Nat×Nat:=Utf8.decode ⟨⟨l⟩⟩ p
def alg(P:bh)(src dst t:aI)(n:Nat):Bool:=match P.underlying src,P.underlying dst with
 | some (.pointer e),some .unsafePointer=>(match P.info? e with|some j=>!(Nat.beq j.size 0)|none=>false)&&Nat.blt 0 n
 | some .unsafePointer,some (.pointer u)=>(match P.info? u with|some _=>true|none=>false)&&liesAt P P.depth t (n / P.cellsOf t) 0 u 1
 | _,_=>false
def PO(st:TS E):Op->Bool
 | .move _=>true
 | .assign _=>true
 | .unOp _ _ _=>true
 | .field _ _ _=>true
 | .fieldAddr _ _ _=>true
 | .load _ _=>true
 | .nilCheck _=>true
 | .extract _ _=>true
 | .alloc _=>true
 | .binOp op _ x y _=>match op with
  | .quo=>isConst y
  | .rem=>isConst y
  | .shl=>isConst y
  | .shr=>isConst y
  | .add=>match st.ev x with
   | .dat (.int _) _=>true
   | _=>false
  | _=>true
 | .convert _ _ x=>match st.ev x with
  | .dat (.int _) _=>true
  | _=>false
 | _=>false
abbrev YW{α:Type}(b:Bool)(x y:α):α:=match b with
 | true=>x
 | false=>y
theorem aju{α:Type}(b:Bool)(x y:α):YW b x y=cond b x y:=by cases b<;>rfl
abbrev rqP{R:Type}(pl c:Bool)(k:O R):O R:=match pl with
 | true=>match c with
  | true=>k
  | false=>none
 | false=>rq c k
variable{R:Type}
theorem GD{pl c:Bool}{k:O R}{r:R}(h:rqP pl c k=some r):c=true/\k=some r:=by
 grind [dQ]
noncomputable def agree{R:Type}(a b:O R):O R:=@ite _ (a=b) (Classical.propDecidable _) a none
theorem Bb{a b:O R}{r:R}(h:agree a b=some r):a=some r/\b=some r:=by
 unfold agree at h
 grind
theorem Ll(a:O R):agree a a=a:=by simp_all [agree]
theorem ahp{t e:aI}(ey:P.underlying t=some (.slice e))(ad:O Addr)(n c:Nat)(hn:ad=none->n=0/\c=0)(x y:dy)(op:BinOp)(hop:op=.eql\/op=.neq)(w:U):
  (do eqGuard op t x y (.slice ad n c) (.slice none 0 0);binOp op t (.slice ad n c) (.slice none 0 0)).run P w=.ok (.bool (Fa op ad.isNone)) w:=by
 have h1:(eqGuard op t x y (.slice ad n c) (.slice none 0 0)).run P w=.ok () w:=by rcases hop with rfl|rfl<;>rfl
 have h3:binOp op t (.slice ad n c) (.slice none 0 0)=(do let r <-Op.equal t (.slice ad n c) (.slice none 0 0);pure (.bool (Fa op r))):=by rcases hop with rfl|rfl<;>rfl
 have h2:∀d,(Op.equalIn (d+1) t (.slice ad n c) (.slice none 0 0)).run P w=.ok ad.isNone w:=by
  cases ad with
  | none=>
   simp [Op.equalIn,aQ ey]
  | some a=>simp [Op.equalIn,aQ ey]
 simp [h1,h3,Op.equal,Op.maxDepth,h2 9999]
noncomputable def Xe{R:Type}(X:Cx E)(st:TS E)(o:Oper)(k:Ex E->TS E->Option R):Option R:=
 match Tz X.P X.ty st o.op with
 | some (c,d)=>rqP (PO st o.op) c (k .normal {st with t:=cx st.t o.dst d})
 | none=>match aaa X.P X.ty st o.dst o.op with
  | some (c,st')=>rqP (PO st o.op) c (k .normal st')
  | none=>match o.op with
   | .pick c x y=>match st.ev c with
    | .dat .bool b=>cond b (k .normal {st with t:=cx st.t o.dst (st.ev x)}) (k .normal {st with t:=cx st.t o.dst (st.ev y)})
    | _=>none
   | .call c=>match c.callee with
    | .value x=>match st.ev x with
     | .func (.func f) caps=>q8 st o.dst f (c.args.toList.map st.ev++caps) k X.Γ
     | .Gt (.func f) fs=>q8 st o.dst f (fs++c.args.toList.map st.ev) k X.Γ
     | _=>none
    | _=>none
   | .defer c=>match c.callee with
    | .value x=>match st.ev x with
     | .func (.func f) caps=>cond (Nat.beq f AH) none (k .normal {st with t:=cx st.t o.dst .any,df:=(f,c.args.toList.map st.ev++caps)::st.df})
     | _=>none
    | _=>none
   | .panic x=>match st.ev x with
    | .iface t d=>k (.panic (.iface t d)) st
    | _=>none
   | .range t x=>match aU X.P t,st.ev x with
    | some ⟨.string,_,_,_⟩,.dat .str l=>k .normal {st with t:=cx st.t o.dst (.ptr st.H.length 0),H:=st.H++[.iter l 0]}
    | _,_=>none
   | .next x s=>cond s (match st.ev x with
    | .ptr r 0=>match st.H[r]? with
     | some (.iter l p)=>cond (Nat.blt p l.length)
       (k .normal {st with t:=cx st.t o.dst (.tuple [.dat .bool true,.dat (.int .i64) (p:Int),.dat (.int .i32) ((dec l p).1:Int)]),H:=st.H.set r (.iter l (p+(dec l p).2)),d:=r::st.d})
       (k .normal {st with t:=cx st.t o.dst (.tuple [.dat .bool false])})
     | _=>none
    | _=>none) none
   | .convert src dst x=>match st.ev x with
    | .ptr r 0=>match st.H[r]? with
     | some (.cells t cs)=>rq (alg X.P src dst t cs.length) (k .normal {st with t:=cx st.t o.dst (.ptr r 0)})
     | _=>none
    | _=>none
   | .binOp op t x y _=>match aU X.P t,st.ev x,st.ev y with
    | some ⟨.slice _,_,_,_⟩,.dat (.bn T) xs,.val (.slice none 0 0)=>rq (Nat.blt 0 (T.size E)) (match op with
     | .eql=>cond xs.isEmpty (agree (k .normal {st with t:=cx st.t o.dst (.dat .bool true)}) (k .normal {st with t:=cx st.t o.dst (.dat .bool false)})) (k .normal {st with t:=cx st.t o.dst (.dat .bool false)})
     | .neq=>cond xs.isEmpty (agree (k .normal {st with t:=cx st.t o.dst (.dat .bool false)}) (k .normal {st with t:=cx st.t o.dst (.dat .bool true)})) (k .normal {st with t:=cx st.t o.dst (.dat .bool true)})
     | _=>none)
    | _,_,_=>none
   | _=>none
def Fg:Op->Bool
 | .defer _=>true
 | _=>false
variable{X:Cx E}{o:Oper}{a:Act}{w:U}{k:Ex E->TS E->O R}{t:Nat}{w0:U}{G0:bq}{n1 n2:Act->U->Prop}{G:bq}{all:aG Oper}{j:Nat}
theorem N7(hX:X.Ok){r:R}(h:Xe X st o k=some r):Cz X.P o (iC o.dst) (!(Fg o.op)) st (fun x st'=>k x st'=some r):=by
 unfold Xe at h;split at h
 ·rename_i pc pd hp
  obtain⟨h1,h2⟩:=GD h;exact Cz.F6 (fun w0 G0 a w G hr=>(QX hX.E hr hp h1).ajd hr) h2 ((Fr.put st o.dst pd).wide (fun i h=>h) (fun _=>rfl))
 ·split at h
  ·rename_i pc pd hp
   obtain⟨h1,h2⟩:=GD h;exact Cz.F6 (fun w0 G0 a w G hr=>afm hX.E hr hp h1) h2 ((al9 hp).wide (fun i h=>h) (fun _=>rfl))
  ·split at h<;>try trivial
   ·rename_i c x y ho
    split at h<;>try trivial
    rename_i b hb;intro w0 G0 a w G hr;have hv:=hr.ev c;rw [hb] at hv;have hv:=hv.mh
    have hrun:(execOp a.eval o).run X.P w=.ok (.value (if b then a.eval x else a.eval y)) w:=by
     simp [execOp,ho,hv,asBool]
    unfold Oper.wp;rw [hrun];cases b<;>simp only [aZ,aK] at h
    ·exact⟨_,G,hr.put (hr.ev y) o.dst,h,(Fr.put st o.dst _).wide (fun i h=>h) (fun _=>rfl)⟩
    ·exact⟨_,G,hr.put (hr.ev x) o.dst,h,(Fr.put st o.dst _).wide (fun i h=>h) (fun _=>rfl)⟩
   ·rename_i c ho
    split at h<;>try trivial
    rename_i x hc;split at h<;>try trivial
    ·rename_i f caps hx
     have:=acz hX.E (P:=X.P) ho hc hx hX.Γ h;rw [ho];exact this
    ·rename_i f caps hx
     have:=acA hX.E (P:=X.P) ho hc hx hX.Γ h;rw [ho];exact this
   ·rename_i c ho
    split at h<;>try trivial
    rename_i x hc;split at h<;>try trivial
    rename_i f caps hx;cases afs:Nat.beq f AH<;>rw [afs] at h<;>simp only [aZ,aK] at h
    rotate_left
    ·cases h
    intro w0 G0 a w G hr;have hv:=hr.ev x;rw [hx] at hv;simp only [VT] at hv;obtain⟨cv,Gx,PN⟩:=hv
    have hrun:(execOp a.eval o).run X.P w=.ok (.defer {target:=.fn (.func f) cv,args:=c.args.map a.eval}) w:=by
     simp [execOp,ho,resolve,hc,Gx,Deferred.ofValue]
    unfold Oper.wp;rw [hrun]
    have hargs:bI E w G (c.args.toList.map st.ev++caps) (c.args.map a.eval++cv).toList:=by
     have:=(N3 hr c.args.toList).append PN;simpa using this
    have eU:Rel E w0 G0 {st with df:=(f,c.args.toList.map st.ev++caps)::st.df} {a with defers:={target:=.fn (.func f) cv,args:=c.args.map a.eval} :: a.defers} w G:=
     ⟨hr.eX,hr.size,hr.tmps,⟨.inl ⟨afs,cv,rfl,hargs⟩,hr.defers⟩,hr.boxes,hr.fix,hr.pins,hr.gr⟩
    refine⟨_,G,eU.put (d:=.any) (by simp only [VT]) o.dst,h,?_⟩;exact⟨Li _ _ _,fun i hi=>Ij _ _ _ _ hi,⟨[],rfl,fun _ _ _=>rfl⟩,ek _,fun hh=>by rw [ho] at hh;cases hh⟩
   ·rename_i x ho
    split at h<;>try trivial
    rename_i t d hx;intro w0 G0 a w G hr;have hv:=hr.ev x;rw [hx] at hv;have hv0:=hv;simp only [VT] at hv;obtain⟨u,hu,-⟩:=hv
    have hrun:(execOp a.eval o).run X.P w=.halt (.panic (a.eval x)) w:=by
     simp [execOp,ho,Instr.panic,hu,goPanic]
    unfold Oper.wp;rw [hrun];exact⟨.panic (.iface t d),st,G,⟨a.eval x,rfl,hv0⟩,hr,(fun h=>nomatch h),h,Fr.refl _ _ _⟩
   ·rename_i t x ho
    split at h<;>try trivial
    rename_i j1 j2 z l ht hd;refine Cz.F6 (fun w0 G0 a w G hr=>?_) h ?_
    ·have hv:=hr.ev x
     rw [hd] at hv;obtain⟨xt,jP,ey,-⟩:=aM ht;refine Jd hr (ob:=.stringIter ⟨⟨l⟩⟩ 0) (x:=.iter l 0) (heap_alloc_new w _) ?_;simp only [execOp,ho,hv.hU,Instr.range,mkStr,jf,aQ ey,jG,pe];rfl
    ·exact (Fr.mem st o.dst _ _ st.g [] (Lj _ _) si).wide (fun i h=>h) (fun _=>rfl)
   ·rename_i x s ho
    cases s<;>simp only [aZ,aK] at h
    ·cases h
    split at h<;>try trivial
    rename_i r hd;split at h<;>try trivial
    rename_i l p hb;cases hlt:Nat.blt p l.length<;>rw [hlt] at h<;>simp only [aZ,aK] at h
    ·refine Cz.F6 (fun w0 G0 a w G hr=>?_) h ((Fr.put st o.dst _).wide (fun i h=>h) (fun _=>rfl))
     have hv:=hr.ev x;rw [hd] at hv;simp only [VT] at hv;obtain⟨b,he,hat⟩:=hv;have hheap:w.heap[b]? = some (.stringIter ⟨⟨l⟩⟩ p):=hr.box hat hb
     have hlt':¬ p<(ByteArray.mk ⟨l⟩).size:=fun hh=>by
      have:Nat.blt p l.length=true:=by rw [Nat.blt,Yr];exact hh
      simp_all
     have hrun:(execOp a.eval o).run X.P w=.ok (.value (.tuple #[.bool false])) w:=by
      have AV:(getObj b).run X.P w=.ok (.stringIter ⟨⟨l⟩⟩ p) w:=by simp only [getObj,Sem.run,hheap]
      simp only [execOp,ho,Instr.next,he,jf,AV,jG,hlt',if_false,pe]
     refine⟨_,_,w,G,hrun,.inl rfl,hr.put ?_ o.dst⟩;simp only [VT];exact⟨_,rfl,.cons (.bool _ _ _) (by simp only [bI])⟩
    ·refine Cz.F6 (fun w0 G0 a w G hr=>?_) h ((Fr.mem st o.dst _ _ st.g [r] (Cy _ _ _) si).wide (fun i h=>h) (fun _=>rfl))
     have hv:=hr.ev x;rw [hd] at hv;simp only [VT] at hv;obtain⟨b,he,hat⟩:=hv;have hheap:w.heap[b]? = some (.stringIter ⟨⟨l⟩⟩ p):=hr.box hat hb;have hlt':p<(ByteArray.mk ⟨l⟩).size:=by rw [Nat.blt,Yr] at hlt;exact hlt
     let w':World:={w with heap:=w.heap.setIfInBounds b (.stringIter ⟨⟨l⟩⟩ (p+(dec l p).2))}
     have Eb:∀b',b'≠b->w'.heap[b']? = w.heap[b']?:=fun b' hb'=>by
      grind
     have hnew:w'.heap[b]? = some (.stringIter ⟨⟨l⟩⟩ (p+(dec l p).2)):=by
      grind
     have hrun:(execOp a.eval o).run X.P w=.ok (.value (.tuple #[.bool true,.int .i64 p,.int .i32 (dec l p).1])) w':=by
      have AV:(getObj b).run X.P w=.ok (.stringIter ⟨⟨l⟩⟩ p) w:=by simp only [getObj,Sem.run,hheap]
      have hso:(setObj b (.stringIter ⟨⟨l⟩⟩ (p+(Utf8.decode ⟨⟨l⟩⟩ p).2))).run X.P w=.ok () w':=by
       simp only [setObj,Sem.run,hheap];rfl
      simp only [execOp,ho,Instr.next,he,jf,AV,jG,hlt',if_true,hso,pe,goInt,dec]
     have hR:=hr.yG (w':=w') hat (by simp [w']) rfl rfl rfl Eb (x:=.iter l (p+(dec l p).2)) (fun _=>hnew);refine⟨_,_,w',G,hrun,.inl rfl,hR.put (d:=.tuple [.dat .bool true,.dat (.int .i64) (p:Int),.dat (.int .i32) ((dec l p).1:Int)]) ?_ o.dst⟩;simp only [VT];exact⟨_,rfl,.cons (.bool _ _ _) (.cons (.int _ _ _ _) (.cons (.int _ _ _ _) (by simp only [bI])))⟩
   ·rename_i src dst x ho
    split at h<;>try trivial
    rename_i r hd;split at h<;>try trivial
    rename_i t cs hb;obtain⟨hc,h⟩:=dQ h;refine Cz.F6 (fun w0 G0 a w G hr=>?_) h ((Fr.put st o.dst _).wide (fun i h=>h) (fun _=>rfl));have hv:=hr.ev x;rw [hd] at hv;have hv0:=hv;simp only [VT] at hv;obtain⟨b,he,hat⟩:=hv;obtain⟨vs,hh,hone,hvs⟩:=hr.box hat hb;have hsz:vs.size=cs.length:=by simpa using hvs.length
    have hsh:w.shape? b=some (t,cs.length):=by simp [World.shape?,hh,hsz]
    have hrun:(convert src dst (.pointer (some ⟨b,0,none⟩))).run X.P w=.ok (.pointer (some ⟨b,0,none⟩)) w:=by
     unfold alg at hc;split at hc
     ·rename_i e hs hdd
      rw [cE] at hc;obtain⟨h1,h2⟩:=hc;split at h1
      ·rename_i j hj
       refine Lib.run_to_unsafe (j:=j) w ⟨b,0,none⟩ hs hdd hj (fun h0=>?_) hsh ?_
       ·rw [h0] at h1;cases h1
       simp_all
      ·cases h1
     ·rename_i u hs hdd
      grind [Lib.run_from_unsafe]
     ·cases hc
    refine⟨.value (.pointer (some ⟨b,0,none⟩)),_,w,G,?_,.inl rfl,hr.put (v:=.pointer (some ⟨b,0,none⟩)) (d:=.ptr r 0) ?_ o.dst⟩
    ·simp only [execOp,ho,he,jf,hrun,jG,pe]
    simp_all
   ·rename_i op t x y yt ho
    split at h<;>try trivial
    rename_i e j1 j2 z T xs ht hx hy;obtain⟨hk0,h⟩:=dQ h;have hk0:0<T.size E:=by simp_all
    obtain⟨xt,jP,ey,-⟩:=aM ht;have hop:op=.eql\/op=.neq:=by grind
    have key:(xs=[]->k .normal {st with t:=cx st.t o.dst (.dat .bool (Fa op true))} = some r)/\k .normal {st with t:=cx st.t o.dst (.dat .bool (Fa op false))} = some r:=by
     rcases hop with rfl|rfl<;>cases xs<;>simp only [List.isEmpty_nil,List.isEmpty_cons,aZ,aK] at h
     ·exact⟨fun _=>(Bb h).1,(Bb h).2⟩
     ·exact⟨(fun e=>by cases e),h⟩
     ·exact⟨fun _=>(Bb h).1,(Bb h).2⟩
     ·exact⟨(fun e=>by cases e),h⟩
    clear h;intro w0 G0 a w G hr;have hv:=hr.ev x;rw [hx] at hv;have BZ:=hr.ev y;rw [hy] at BZ;simp only [VT] at BZ;have hd:=(hv.atom rfl).tw;obtain⟨cs,hfl,CY⟩:=VD.flat hk0 hd
    have hsh:∃ad n c,a.eval x=.slice ad n c/\(ad=none->n=0/\c=0/\xs=[]):=by
     rcases CY with⟨ad,he,hn⟩|⟨b,off,cap,he,hcap,hcells⟩
     ·exact⟨ad,0,0,he,fun _=>⟨rfl,rfl,by simpa using hn⟩⟩
     grind
    obtain⟨ad,n,c,he,hn⟩:=hsh
    have hrun:(execOp a.eval o).run X.P w=.ok (.value (.bool (Fa op ad.isNone))) w:=by
     have hq:=ahp (P:=X.P) ey ad n c (fun e=>⟨(hn e).1,(hn e).2.1⟩) x y op hop w;have hx:execOp a.eval o=(do let z <- (do eqGuard op t x y (a.eval x) (a.eval y);binOp op t (a.eval x) (a.eval y));pure (.value z)):=by simp [execOp,ho]
     rw [hx,he,BZ,jf,hq];rfl
    unfold Oper.wp;rw [hrun];refine⟨_,G,hr.put (d:=.dat .bool (Fa op ad.isNone)) (.bool _ _ _) o.dst,?_,(Fr.put st o.dst _).wide (fun i h=>h) (fun _=>rfl)⟩
    cases ad with
    | none=>exact key.1 (hn rfl).2.2
    | some _=>exact key.2
def kR(all:aG Oper)(o:Oper):J Nat:=match o.guard with
 | some (j,_)=>match (all[j]?).bind (·.dst) with
  | some t=>[t]
  | none=>[]
 | none=>[]
def eN(all:aG Oper):J Oper->J Nat
 | []=>[]
 | o::os=>iC o.dst++(kR all o++eN all os)
def cy:J Oper->Bool
 | []=>true
 | o::os=>!(Fg o.op)&&cy os
abbrev jx{R:Type}(k1:TS E->O R)(k:Ex E->TS E->O R):Ex E->TS E->O R
 | .normal,st=>k1 st
 | e,st=>k e st
noncomputable def tW{R:Type}(X:Cx E)(all:aG Oper):J Oper->TS E->(Ex E->TS E->O R)->O R
 | [],st,k=>k .normal st
 | o::rest,st,k=>match o.guard with
  | none=>Xe X st o (jx (fun st'=>tW X all rest st' k) k)
  | some (j,want)=>match (all[j]?).bind (·.dst) with
   | some t=>match st.at t with
    | .dat .bool b=>cond b
      (YW want (Xe X {st with t:=st.t.set t (.dat .bool true)} o (jx (fun st'=>tW X all rest st' k) k))
       (tW X all rest {st with t:=cx (st.t.set t (.dat .bool true)) o.dst (.val undef)} k))
      (YW want (tW X all rest {st with t:=cx (st.t.set t (.dat .bool false)) o.dst (.val undef)} k)
       (Xe X {st with t:=st.t.set t (.dat .bool false)} o (jx (fun st'=>tW X all rest st' k) k)))
    | .val (.bool _)=>none
    | .val _=>tW X all rest {st with t:=cx st.t o.dst (.val undef)} k
    | _=>none
   | none=>none
theorem cG.mono{Q Q':Ex E->TS E->Prop}(h:∀x s,Q x s->Q' x s){e:Exit}(hp:cG E w0 G0 Q e a w):cG E w0 G0 Q' e a w:=by
 obtain⟨x,s,G,h1,h2,h3⟩:=hp;exact⟨x,s,G,h1,h2,h _ _ h3⟩
theorem pR{a:Act}{w:U}{Q1 Q2:Exit->Act->U->Prop}(hn:∀a w,n1 a w->n2 a w)(hq:∀e a w,Q1 e a w->Q2 e a w)(h:o.wp P a w n1 Q1):o.wp P a w n2 Q2:=by
 have hout:LetsOut Q1->LetsOut Q2:=fun⟨a,w,h⟩=>⟨a,w,hq _ _ _ h⟩;unfold Oper.wp at *;generalize (execOp a.eval o).run P w=r at *
 cases r with
 | ok n w'=>
  cases n<;>simp [Oper.upon] at h⊢
  case value u=>exact hn _ _ h
  case skip=>exact hn _ _ h
  case defer d=>exact hn _ _ h
  case enter f args=>
   grind [Calls.mono]
  grind [Rows.mono]
 | halt x w'=>
  cases x<;>simp [Oper.upon] at h⊢
  simp_all
theorem Jk(hr:Rel E w0 G0 st a w G){want b:Bool}(hg:o.guard=some (j,want))(ht:(all[j]?).bind (·.dst)=some t)(hb:st.at t=.dat .bool b):
  Region.wanted o (yielded all a.tmps)=(b==want)/\a.tmps[t]? = some (.bool b):=by
 have hv:=hr.at t;rw [hb] at hv;have hv:=hv.mh
 have hlt:t<st.t.length:=by
  grind [TS.at]
 have h2:a.tmps[t]? = some (.bool b):=by
  have:t<a.tmps.size:=by rw [hr.size];exact hlt
  simp_all
 unfold Region.wanted yielded
 simp_all
theorem Lm(hr:Rel E w0 G0 st a w G){want:Bool}{u:Value}(hg:o.guard=some (j,want))(ht:(all[j]?).bind (·.dst)=some t)(hb:st.at t=.val u)(hu:∀b,u≠.bool b):
  Region.wanted o (yielded all a.tmps)=false:=by
 have hv:=hr.at t;rw [hb] at hv;simp [VT] at hv
 have hlt:t<st.t.length:=by
  grind [TS.at]
 have h2:a.tmps[t]? = some u:=by
  have:t<a.tmps.size:=by rw [hr.size];exact hlt
  simp_all
 unfold Region.wanted yielded
 simp_all
theorem Rel.lit(hr:Rel E w0 G0 st a w G){b:Bool}(h:a.tmps[t]? = some (.bool b)):Rel E w0 G0 {st with t:=st.t.set t (.dat .bool b)} a w G:=by
 refine⟨hr.eX,by simpa using hr.size,fun j d hj=>?_,hr.defers,hr.boxes,hr.fix,hr.pins,hr.gr⟩;simp [UZ] at hj;by_cases hij:t=j
 ·subst hij
  have hlt:t<st.t.length:=by simp_all
  simp [hlt] at hj;subst hj;have:a.tmps.getD t undef=.bool b:=by simp_all
  rw [this];exact .bool _ _ _
 ·rw [if_neg hij] at hj
  exact hr.tmps j d hj
theorem Fr.lit(st:TS E)(t:Nat)(d:TV E):Fr [t] true st {st with t:=st.t.set t d}:=
 ⟨si,fun i hi=>by
  grind,⟨[],rfl,fun _ _ _=>rfl⟩,Nat.le_refl _,fun _=>rfl⟩
theorem q9{R:Type}(hX:X.Ok){all:aG Oper}{k:Ex E->TS E->O R}{r:R}:∀ {l:J Oper}{st:TS E},tW X all l st k=some r->aeW E X.P all l st (fun x st'=>k x st'=some r/\Fr (eN all l) (cy l) st st')
 | [],st,h=>fun w0 G0 a w G hr=>⟨.normal,st,G,trivial,hr,h,Fr.refl _ _ _⟩
 | o::rest,st,h=>by
  have ih:∀ {st:TS E},tW X all rest st k=some r->aeW E X.P all rest st (fun x st'=>k x st'=some r/\Fr (eN all rest) (cy rest) st st'):=fun h=>q9 hX h
  have step:∀(s0 s1:TS E),Fr (kR all o) true s0 s1->Xe X s1 o (jx (fun st'=>tW X all rest st' k) k)=some r->∀w0 G0 a w G,Rel E w0 G0 s1 a w G ->
    o.wp X.P a w (wpList X.P all (cG E w0 G0 fun x st'=>k x st'=some r/\Fr (eN all (o::rest)) (cy (o::rest)) s0 st') rest) (cG E w0 G0 fun x st'=>k x st'=some r/\Fr (eN all (o::rest)) (cy (o::rest)) s0 st'):=by
   intro s0 s1 TM h w0 G0 a w G hr;have h1:=N7 hX h w0 G0 a w G hr
   have hF:∀ {s2 s3:TS E},Fr (iC o.dst) (!(Fg o.op)) s1 s2->Fr (eN all rest) (cy rest) s2 s3->Fr (eN all (o::rest)) (cy (o::rest)) s0 s3:=fun f1 f2=>
    (TM.trans f1 (W:=iC o.dst++kR all o) (fun i hi=>by simp [hi]) (fun i hi=>by simp [hi]) (fun h=>⟨rfl,h⟩)).trans f2 (fun i hi=>by
     grind [eN]) (fun i hi=>by simp [eN,hi]) (fun h=>by
     simp_all [cy])
   refine pR (fun a' w' hn=>?_) (fun e a' w' hp=>?_) h1
   ·obtain⟨s2,G2,hr2,hk,f1⟩:=hn
    have hA:=ih hk w0 G0 a' w' G2 hr2
    have key:∀(l:J Oper)(a:Act)(w:U){Q1 Q2:Exit->Act->U->Prop},(∀e a w,Q1 e a w->Q2 e a w)->wpList X.P all Q1 l a w->wpList X.P all Q2 l a w:=by
     intro l
     induction l with
     | nil=>intro a w Q1 Q2 hq h;exact hq _ _ _ h
     | cons o l ihl=>
      intro a w Q1 Q2 hq h;unfold wpList at h⊢;split
      ·rename_i hw
       rw [if_pos hw] at h;rcases h with h|⟨h,a1,w1,h2⟩
       ·grind [pR]
       ·exact .inr ⟨h,a1,w1,hq _ _ _ h2⟩
      grind
    grind [cG.mono]
   ·obtain⟨x,s2,G2,he,hr2,hn,hk,f1⟩:=hp
    cases x with
    | normal=>exact (hn rfl).elim
    | _=>exact⟨_,s2,G2,he,hr2,hk,hF f1 (Fr.refl _ _ _)⟩
  simp [tW] at h;intro w0 G0 a w G hr;split at h
  ·rename_i hg
   unfold wpList;rw [if_pos (by simp [Region.wanted,hg])];exact .inl (step st st (by grind [kR,Fr.refl]) h w0 G0 a w G hr)
  ·rename_i j want hg
   split at h<;>try trivial
   rename_i t ht;have hgt:kR all o=[t]:=by simp_all [kR]
   have skip:∀(s1:TS E),Fr (kR all o) true st s1->Rel E w0 G0 s1 a w G->tW X all rest {s1 with t:=cx s1.t o.dst (.val undef)} k=some r ->
     wpList X.P all (cG E w0 G0 fun x st'=>k x st'=some r/\Fr (eN all (o::rest)) (cy (o::rest)) st st') rest (a.put o.dst undef) w:=by
    intro s1 f0 eU hk;have hr2:=eU.put (v:=undef) (d:=.val undef) (by simp [VT]) o.dst;have hA:=ih hk w0 G0 _ w G hr2
    have key:∀(l:J Oper)(a:Act)(w:U){Q1 Q2:Exit->Act->U->Prop},(∀e a w,Q1 e a w->Q2 e a w)->wpList X.P all Q1 l a w->wpList X.P all Q2 l a w:=by
     intro l
     induction l with
     | nil=>intro a w Q1 Q2 hq h;exact hq _ _ _ h
     | cons o l ihl=>
      intro a w Q1 Q2 hq h;unfold wpList at h⊢;split
      ·rename_i hw
       rw [if_pos hw] at h;rcases h with h|⟨h,a1,w1,h2⟩
       ·grind [pR]
       ·exact .inr ⟨h,a1,w1,hq _ _ _ h2⟩
      grind
    refine key rest _ w (fun e a w hp=>cG.mono (fun x s hh=>⟨hh.1,?_⟩) hp) hA;have f1:Fr (iC o.dst) (!(Fg o.op)) s1 {s1 with t:=cx s1.t o.dst (.val undef)}:=(Fr.put s1 o.dst (.val undef)).wide (fun i h=>h) (fun _=>rfl)
    exact (f0.trans f1 (W:=iC o.dst++kR all o) (fun i hi=>by simp [hi]) (fun i hi=>by simp [hi]) (fun h=>⟨rfl,h⟩)).trans hh.2 (fun i hi=>by
     grind [eN]) (fun i hi=>by simp [eN,hi]) (fun h=>by
     simp_all [cy])
   split at h<;>try trivial
   ·rename_i b hb
    obtain⟨hw,hbv⟩:=Jk hr hg ht hb;have hl:=hr.lit hbv;have hfl:Fr (kR all o) true st {st with t:=st.t.set t (.dat .bool b)}:=by simp_all [Fr.lit]
    unfold wpList
    grind
   ·rename_i u hnb hu
    have hw:=Lm hr hg ht hu (fun b e=>hnb b e);unfold wpList
    grind [Fr.refl]
variable{ops:aG Oper}{Q:Exit -> Act -> U -> Prop}{S:U -> Prop}{lo hi:Nat}{Q':Exit->Act->U->Prop}{i:Nat}{listed:aG Bool}{oi:Oper}{v:Value}{K K':Act->U->Prop}
def pre(n i:Nat):aG Bool:=((List.range n).map fun k=>Nat.blt k i).toArray
theorem CA{a b:Nat}:Nat.blt a b=true↔a<b:=by
 simp_all
theorem ads{a b:Nat}(h:b<=a):Nat.blt a b=false:=by
 simp_all [Rq]
theorem ajv(n:Nat):Array.replicate n false=pre n 0:=by
 grind [Array.ext',pre,ads]
theorem R9{n:Nat}:(pre n i).setIfInBounds i true=pre n (i+1):=by
 apply SI;apply Af
 ·simp [pre]
 ·intro k h1 h2
  simp only [pre,List.setIfInBounds_toArray,List.getElem_set,Rt,List.getElem_range];by_cases hk:i=k
  ·simp_all
  ·rw [if_neg hk]
   rw [tJ,CA,CA];omega
theorem ama{n k:Nat}(h:i<=k)(hk:k<n):(pre n i).getD k true=false:=by
 simp [pre,hk,ads h]
theorem Fh{n k:Nat}(h:k<i)(hk:k<n)(d:Bool):(pre n i).getD k d=true:=by
 simp [pre,hk,CA.2 h]
def waits(ops:aG Oper):Nat->Nat->Nat->Bool
 | 0,_,_=>false
 | fuel+1,j,i=>match ops[j]? with
  | none=>false
  | some o=>o.after.any (fun e=>Region.binds .any e&&e.on==i)||o.after.any (fun e=>Region.binds .any e&&(Nat.blt i e.on&&waits ops fuel e.on i))
def Kb(ops:aG Oper)(listed:aG Bool):Prop:=∀(j:Nat)(o:Oper),ops[j]? = some o->listed.getD j false=true->∀e∈o.after,Region.binds .any e=true->listed.getD e.on false=true
theorem N8{listed:aG Bool}(hc:Kb ops listed){i:Nat}:∀(fuel j:Nat),waits ops fuel j i=true ->
  (∀o,ops[j]? = some o->∀e∈o.after,Region.binds .any e=true->listed.getD e.on false=true)->listed.getD i false=true
 | 0,_,h,_=>by cases h
 | fuel+1,j,h,hj=>by
  unfold waits at h
  cases ho:ops[j]? with
  | none=>rw [ho] at h;cases h
  | some o=>
   rw [ho] at h;simp only [Rr] at h;rcases h with h|h
   ·grind
   ·obtain⟨e,he,hb⟩:=Array.any_eq_true'.1 h
    simp at hb;refine N8 hc fuel e.on hb.2.2 fun o' ho'=>hc e.on o' ho' (hj o ho e he hb.1)
theorem VK{k:Nat}(h:(listed.setIfInBounds i true).getD k false=true):k=i\/listed.getD k false=true:=by
 by_cases hik:i=k
 ·exact .inl hik.symm
 simp_all
theorem Kb.step(hc:Kb ops listed)(hr:i∈Region.ready .any ops listed):Kb ops (listed.setIfInBounds i true):=by
 intro j o ho hj e he hb;obtain⟨_,oi,GF,hall⟩:=mem_ready.1 hr;rcases VK hj with rfl|hj
 ·rw [GF] at ho;cases ho
  exact getD_set_true (hall e he hb)
 ·exact getD_set_true (hc j o ho hj e he hb)
def wpAnyS(P:bh)(ops:aG Oper)(Q:Exit->Act->U->Prop)(S:U->Prop)(lo hi:Nat):Nat->aG Bool->Act->U->Prop
 | 0,listed,a,w=>Region.ready .any ops listed=[]/\Q .normal a w
 | fuel+1,listed,a,w=>
  (Region.ready .any ops listed=[]->Q .normal a w) /\
  ∀i∈Region.ready .any ops listed,wpOp P ops Q i (fun a' w'=>(lo<=i/\i<hi->S w->S w')/\wpAnyS P ops Q S lo hi fuel (listed.setIfInBounds i true) a' w') a w
theorem TN:∀(fuel:Nat)(listed:aG Bool)(a:Act)(w:U),wpAnyS P ops Q S lo hi fuel listed a w->wpAny P .any ops Q fuel listed a w
 | 0,_,_,_,h=>h
 | fuel+1,_,_,_,h=>⟨h.1,fun i hi=>wpOp_mono (fun a' w' h'=>TN fuel _ a' w' h'.2) (h.2 i hi)⟩
theorem TO:∀(fuel:Nat)(listed:aG Bool)(a:Act)(w:U),(∀k,lo<=k->k<hi->listed.getD k true=true)->wpAny P .any ops Q fuel listed a w->wpAnyS P ops Q S lo hi fuel listed a w
 | 0,_,_,_,_,h=>h
 | fuel+1,listed,_,_,hp,h=>⟨h.1,fun i hm=>wpOp_mono (fun a' w' h'=>by
   have hun:=(mem_ready.1 hm).1;refine⟨fun hx _=>?_,TO fuel _ a' w' (fun k h1 h2=>?_) h'⟩
   ·simp_all
   ·by_cases hik:i=k
    ·simp_all
    simp_all) (h.2 i hm)⟩
theorem wpAnyS_first(GF:ops[i]? = some oi)(hsel:∀(j:Nat)(o:Oper) cs b,ops[j]? = some o->o.op≠.select cs b)
  (hQ:∀c a w,Q (.panic c) (a.put oi.dst v) w->Q (.panic c) a w) (hW:∀j,hi<=j->j<ops.size->waits ops ops.size j i=true) :
  ∀(fuel:Nat)(listed:aG Bool)(a:Act)(w:U),Kb ops listed->(∀k,k<lo->k<ops.size->listed.getD k true=true) ->
   (∀j oj,ops[j]? = some oj->j≠i->listed.getD j true=false->(∀e∈oj.after,Region.binds .any e=true->e.on≠i)->oi.apart ops oj=true) ->
   i∈Region.ready .any ops listed->YieldsIf P ops S oi v a->S w ->
   wpAnyS P ops Q S lo hi fuel (listed.setIfInBounds i true) (a.put oi.dst v) w->wpAnyS P ops Q S lo hi (fuel+1) listed a w:=by
 intro fuel
 induction fuel with
 | zero=>
  intro listed a w _ _ _ hr hy hS H;refine⟨fun h=>(by rw [h] at hr;cases hr),fun j hj=>?_⟩;by_cases hji:j=i
  ·subst hji;exact hy.wpOp GF hS ⟨fun _ h=>h,H⟩
  ·have:=ready_mono hj hji
   rw [H.1] at this
   cases this
 | succ fuel ih=>
  intro listed a w hcl hlo hfree hr hy hS H;refine⟨fun h=>(by rw [h] at hr;cases hr),fun j hj=>?_⟩;by_cases hji:j=i
  ·subst hji;exact hy.wpOp GF hS ⟨fun _ h=>h,H⟩
  ·have h1:=H.2 j (ready_mono hj hji)
   obtain⟨N9,oj,Oa,hall⟩:=mem_ready.1 hj;have hpi:=(mem_ready.1 hr).1
   have hnot:∀e∈oj.after,Region.binds .any e=true->e.on≠i:=fun e he hb heq=>by
    grind
   have TP:lo<=j/\j<hi:=by
    grind [N8]
   have h2:=wpOp_putIf Oa (hfree j oj Oa hji N9 hnot) (fun cs b=>hsel i oi cs b GF) (fun cs b=>hsel j oj cs b Oa) hQ hy h1
   have Ob:∀k ok,ops[k]? = some ok->k≠i->(listed.setIfInBounds j true).getD k true=false ->
     (∀e∈ok.after,Region.binds .any e=true->e.on≠i)->oi.apart ops ok=true:=fun k ok hk hki hun hno=>by
    refine hfree k ok hk hki ?_ hno;by_cases hjk:j=k
    ·subst hjk;exact N9
    simp_all
   have aq1:∀k,k<lo->k<ops.size->(listed.setIfInBounds j true).getD k true=true:=fun k h1 h2=>by
    by_cases hjk:j=k
    ·subst hjk;omega
    ·rw [getD_set_ne true hjk];exact hlo k h1 h2
   refine wpOp_mono (fun a' w' h3=>⟨fun _ _=>h3.2.1 TP hS,ih (listed.setIfInBounds j true) a' w' (hcl.step hj) aq1 Ob (ready_mono hr (Ne.symm hji)) h3.1 (h3.2.1 TP hS) ?_⟩) h2
   grind [Array.setIfInBounds_comm]
theorem acB(GF:ops[i]? = some oi)(hsel:∀(j:Nat)(o:Oper) cs b,ops[j]? = some o->o.op≠.select cs b)
  (hQ:∀c a w,Q (.panic c) (a.put oi.dst v) w->Q (.panic c) a w) :
  ∀(fuel:Nat)(listed:aG Bool)(a:Act)(w:U),
   (∀j oj,ops[j]? = some oj->j≠i->listed.getD j true=false->(∀e∈oj.after,Region.binds .any e=true->e.on≠i)->oi.apart ops oj=true) ->
   i∈Region.ready .any ops listed->YieldsIf P ops (fun _=>True) oi v a ->
   wpAnyS P ops Q S lo hi fuel (listed.setIfInBounds i true) (a.put oi.dst v) w->wpAnyS P ops Q S lo hi (fuel+1) listed a w:=by
 intro fuel
 induction fuel with
 | zero=>
  intro listed a w _ hr hy H;refine⟨fun h=>(by rw [h] at hr;cases hr),fun j hj=>?_⟩;by_cases hji:j=i
  ·subst hji;exact hy.wpOp GF trivial ⟨fun _ h=>h,H⟩
  ·have:=ready_mono hj hji
   rw [H.1] at this
   cases this
 | succ fuel ih=>
  intro listed a w hfree hr hy H;refine⟨fun h=>(by rw [h] at hr;cases hr),fun j hj=>?_⟩;by_cases hji:j=i
  ·subst hji;exact hy.wpOp GF trivial ⟨fun _ h=>h,H⟩
  ·have h1:=H.2 j (ready_mono hj hji)
   obtain⟨N9,oj,Oa,hall⟩:=mem_ready.1 hj;have hpi:=(mem_ready.1 hr).1
   have hnot:∀e∈oj.after,Region.binds .any e=true->e.on≠i:=fun e he hb heq=>by
    grind
   have h2:=wpOp_putIf Oa (hfree j oj Oa hji N9 hnot) (fun cs b=>hsel i oi cs b GF) (fun cs b=>hsel j oj cs b Oa) hQ hy h1
   have Ob:∀k ok,ops[k]? = some ok->k≠i->(listed.setIfInBounds j true).getD k true=false ->
     (∀e∈ok.after,Region.binds .any e=true->e.on≠i)->oi.apart ops ok=true:=fun k ok hk hki hun hno=>by
    refine hfree k ok hk hki ?_ hno;by_cases hjk:j=k
    ·subst hjk;exact N9
    simp_all
   refine wpOp_mono (fun a' w' h3=>⟨h3.2.1,ih (listed.setIfInBounds j true) a' w' Ob (ready_mono hr (Ne.symm hji)) h3.1 ?_⟩) h2
   grind [Array.setIfInBounds_comm]
theorem Oper.aar{a:Act}{w:U}(h:∀a w,K a w->K' a w)(hq:∀e a w,e≠.normal->Q e a w->Q' e a w)
  (hh:o.wp P a w K Q):o.wp P a w K' Q':=by
 have hout:LetsOut Q->LetsOut Q':=fun⟨a,w,h⟩=>⟨a,w,hq _ _ _ si h⟩;unfold Oper.wp at *;generalize (execOp a.eval o).run P w=r at *
 cases r with
 | ok n w'=>
  cases n<;>simp [Oper.upon] at hh⊢
  case value u=>exact h _ _ hh
  case skip=>exact h _ _ hh
  case defer d=>exact h _ _ hh
  case enter f args=>
   refine Ge hh fun e w'' he=>?_
   grind
  case row row args=>exact Rows.mono hh fun u w'' he=>h _ _ he
 | halt x w'=>
  cases x<;>simp [Oper.upon] at hh⊢
  simp_all
def forced(ops:aG Oper)(i:Nat):Nat->Bool
 | 0=>true
 | m+1=>(Region.ready .any ops (pre ops.size i)==[i])&&forced ops (i+1) m
theorem Xf{R Q':Exit->Act->U->Prop}:∀(seg:J Oper)(i fuel:Nat),(∀k,k<seg.length->ops[i+k]? = seg[k]?)->forced ops i seg.length=true->∀a w,wpList P ops R seg a w ->
  (∀e a w,R e a w->e=.normal/\wpAny P .any ops Q' fuel (pre ops.size (i+seg.length)) a w)->wpAny P .any ops Q' (seg.length+fuel) (pre ops.size i) a w
 | [],i,fuel,_,_,a,w,h,hR=>by
  have:=(hR _ a w h).2
  simpa using this
 | o::seg,i,fuel,hs,hf,a,w,h,hR=>by
  simp [forced] at hf;have GF:ops[i]? = some o:=by simpa using hs 0 si
  rw [show (o::seg).length+fuel=(seg.length+fuel)+1 by simp;omega];refine wpAny_all hf.1 si fun j hj=>?_;have:j=i:=by simpa using hj
  subst this
  have ih:∀a w,wpList P ops R seg a w->wpAny P .any ops Q' (seg.length+fuel) ((pre ops.size j).setIfInBounds j true) a w:=fun a w hw=>by
   rw [R9];refine Xf seg (j+1) fuel (fun k hk=>?_) hf.2 a w hw (fun e a w hr=>?_)
   ·have:=hs (k+1) (by simpa using hk)
    grind
   grind
  unfold wpOp;simp [GF];have h':(if Region.wanted o (yielded ops a.tmps) then o.wp P a w (wpList P ops R seg) R\/(o.asks P a w/\LetsOut R) else wpList P ops R seg (a.put o.dst undef) w):=h;split
  ·rename_i hw
   rw [if_pos hw] at h';rcases h' with h'|⟨_,a1,w1,h1⟩
   ·grind [Oper.aar]
   grind
  simp_all
def ahq(j:Nat):J (Nat×Ty)->O Ty
 | []=>none
 | (q,t)::ps=>cond (Nat.beq q j) (some t) (ahq j ps)
def Oc(j:Nat):J (Nat×Cn E)->Bool
 | []=>true
 | p::cs=>!(Nat.beq p.1 j)&&Oc j cs
theorem Od{j:Nat}:∀ {cs:J (Nat×Cn E)},Oc j cs=true->∀c,(j,c)∉cs
 | [],_,_,h=>nomatch h
 | p::cs,h,c,hm=>by
  simp [Oc] at h;rcases iE.1 hm with e|hm
  ·rw [<-e,M9] at h;exact nomatch h.1
  ·exact Od h.2 c hm
def Xg(j j':Nat):J (Nat×Cn E)->J (Nat×Cn E)
 | []=>[]
 | p::cs=>cond (Nat.beq p.1 j) (Xg j j' cs) (cond (Nat.beq p.1 j') ((j,p.2)::Xg j j' cs) (p::Xg j j' cs))
theorem adt{j j':Nat}:∀ {cs:J (Nat×Cn E)}{q:Nat}{x:Cn E},(q,x)∈Xg j j' cs->(q=j/\(j',x)∈cs)\/(q≠j/\q≠j'/\(q,x)∈cs)
 | p::cs,q,x,h=>by
  rw [Xg] at h;have next:(q,x)∈Xg j j' cs->(q=j/\(j',x)∈p::cs)\/(q≠j/\q≠j'/\(q,x)∈p::cs):=fun h=>(adt h).imp (fun⟨a,b⟩=>⟨a,kf _ b⟩) fun⟨a,b,c⟩=>⟨a,b,kf _ c⟩
  cases h1:Nat.beq p.1 j<;>rw [h1] at h
  ·cases h2:Nat.beq p.1 j'<;>rw [h2] at h
   ·rcases iE.1 h with e|h
    ·rw [<-e] at h1 h2
     exact .inr ⟨fun e=>(by rw [e,M9] at h1;cases h1),fun e=>(by rw [e,M9] at h2;cases h2),by rw [e];exact qD ..⟩
    ·exact next h
   ·rcases iE.1 h with e|h
    ·cases e
     exact .inl ⟨rfl,by rw [<-eM h2];exact qD ..⟩
    ·exact next h
  ·exact next h
 | [],_,_,h=>nomatch h
def TQ(c:Cut)(n0 i:Nat)(p:PT)(st:TS E):TS E:=match p,st.t[i]? with
 | .one (.cA j _),some (.cA j' v T xs)=>match st.g[j]?,st.g[j']? with
  | some g,some g'=>cond (!(Nat.beq j' j)&&(Nat.ble n0 j'&&(Nat.beq g'.aF v&&(Nat.beq g.e g'.e&&(Nat.beq g.k g'.k&&(Oc j st.c&&Oc j' st.c))))))
    {st with t:=st.t.set i (.cA j (g.aF+1) T xs),g:=(st.g.set j' {g' with aF:=g'.aF+1}).set j {g with aF:=g.aF+1}} st
  | _,_=>st
 | .one (.cA j T),some (.val (.slice none 0 0))=>match st.g[j]? with
  | some g=>cond (Oc j st.c) {st with t:=st.t.set i (.cA j (g.aF+1) T []),g:=st.g.set j {g with aF:=g.aF+1}} st
  | none=>st
 | .one (.eu j),some (.eu j' v)=>match st.g[j]?,st.g[j']? with
  | some g,some g'=>cond (!(Nat.beq j' j)&&(Nat.ble n0 j'&&(Nat.beq g'.aF v&&(Nat.beq g.e g'.e&&Nat.beq g.k g'.k))))
    {st with t:=st.t.set i (.eu j (g.aF+1)),g:=(st.g.set j' {g' with aF:=g'.aF+1}).set j {g with aF:=g.aF+1},c:=Xg j j' st.c} st
  | _,_=>st
 | .one (.eu j),some (.val (.slice none 0 0))=>match c.rows[j]?,ahq j c.soft with
  | some (some (e,_)),some T=>cond (Nat.beq st.g.length j&&Nat.blt 0 (T.size E)) {st with t:=st.t.set i (.eu st.g.length 0),g:=st.g++[⟨0,e,T.size E⟩],c:=(st.g.length,⟨T,[]⟩)::st.c} st
  | _,_=>st
 | .one (.dat t),some (.eu j v)=>{(vh (.dat t) (.eu j v) st).2 with t:=st.t.set i (vh (.dat t) (.eu j v) st).1}
 | _,_=>st
def YX(c:Cut)(n0:Nat):J (Nat×PT)->TS E->TS E
 | [],st=>st
 | (i,p)::vs,st=>YX c n0 vs (TQ c n0 i p st)
def Cut.pack(c:Cut)(bR st:TS E):O (dens E c.tys):=match c.leaves bR (YX c bR.g.length c.vars st) with
 | some ls=>getAll c.tys ls
 | none=>none
def Cut.un(c:Cut)(W:J Nat)(bR:TS E)(x:dens E c.tys):TS E:=c.unpack W bR (aP c.tys x)
def Cut.okW(c:Cut)(W:J Nat):Bool:=c.vars.all fun p=>W.elem p.1
theorem Eg(n:Rn):∀(bs:J (O BT))(r0:Nat)(H:J (fM E))(ls:J (Lf E))(r:Nat),r<bs.length->r0+r∉Dt r0 bs->r<H.length->(eO n bs H ls)[r]? = H[r]?
 | [],_,_,_,_,h,_,_=>by simp at h
 | none::bs,r0,H,ls,0,_,_,h=>by cases H with|nil=>simp at h|cons x H=>simp [eO]
 | none::bs,r0,H,ls,r+1,h1,h2,h3=>by
  cases H with
  | nil=>simp at h3
  | cons x H=>
   have:=Eg n bs (r0+1) H ls r (by simpa using h1) (by rw [show r0+1+r=r0+(r+1) by omega];exact h2) (by simpa using h3)
   simpa [eO] using this
 | some t::bs,r0,H,ls,0,_,h2,_=>(h2 (by simp [Dt])).elim
 | some t::bs,r0,H,ls,r+1,h1,h2,h3=>by
  cases H with
  | nil=>simp at h3
  | cons x H=>
   have:=Eg n bs (r0+1) H (t.put n ls).2 r (by simpa using h1) (by rw [show r0+1+r=r0+(r+1) by omega];exact fun hm=>h2 (by simp [Dt,hm])) (by simpa using h3);simpa [eO] using this
theorem QY(n:Rn):∀(vs:J (Nat×PT))(t:J (TV E))(ls:J (Lf E))(i:Nat),i∉vs.map (·.1)->(mU n vs t ls).1[i]? = t[i]?
 | [],t,ls,i,_=>rfl
 | (j,p)::vs,t,ls,i,h=>by
  simp only [jU,iE,not_or] at h;rw [mU,QY n vs _ _ i h.2,Na (fun e=>h.1 e.symm)]
theorem TR(n:Rn):∀(vs:J (Nat×PT))(t:J (TV E))(ls:J (Lf E)),(mU n vs t ls).1.length=t.length
 | [],t,ls=>rfl
 | (j,p)::vs,t,ls=>by simp_all [mU,TR]
theorem TT(W:J Nat):∀(i:Nat)(l:J (TV E))(j:Nat),(i+j)∉W->(nJ W i l)[j]? = l[j]?
 | _,[],j,_=>rfl
 | i,d::ds,0,h=>by
  simp_all [UU,nJ]
 | i,d::ds,j+1,h=>by
  have:=TT W (i+1) ds j (by rw [show i+1+j=i+(j+1) by omega];exact h);simpa [nJ] using this
variable{c:Cut}{bR:TS E}{ls:J (Lf E)}
theorem Cut.aft(h:c.leaves bR st=some ls):bR.H.length<=c.boxes.length:=by
 unfold Cut.leaves at h;cases hc:(below c.rows.length c.soft&&(Nat.ble bR.H.length c.boxes.length&&(Nat.ble bR.g.length c.rows.length&&yI c.rows bR.g st.g)))<;>rw [hc] at h<;>simp only [aZ] at h
 ·cases h
 simp_all
variable{W:J Nat}
theorem Cut.Xh{ls':J (Lf E)}(hW:c.okW W=true)(h:c.leaves bR st=some ls):Fr W true bR (c.unpack W bR ls'):=by
 have hl:=Cut.aft h;refine⟨?_,fun i hi=>?_,⟨Dt 0 c.boxes,rfl,fun r hr hd=>?_⟩,?_,fun _=>rfl⟩
 ·show ((mU _ c.vars (nJ W 0 bR.t) ls').1).length=_
  rw [TR,Gy]
 ·show ((mU _ c.vars (nJ W 0 bR.t) ls').1)[i]? = _
  rw [QY _ _ _ _ i (fun hm=>?_),TT W 0 bR.t i (by simp_all)];obtain⟨p,hp,rfl⟩:=rD.1 hm;exact hi (U0 (p4.1 hW p hp))
 ·exact Eg _ c.boxes 0 bR.H _ r om (by simp_all) hr
 ·show bR.H.length<=(eO _ c.boxes bR.H _).length
  simp_all [oh]
theorem Rel.aq2{G1:bq}{jF:TS E}(hr:Rel E w0 G0 st a w G)(hc:pI st jF)(eU:Rel E w0 G0 jF a w G1){d d1:TV E}(hi:st.t[i]? = some d)(hv:∀v,VT E w G d v->VT E w G1 d1 v):
  Rel E w0 G0 {jF with t:=st.t.set i d1} a w G1:=by
 obtain⟨c',rfl⟩:=hc;refine⟨eU.eX,by simpa using eU.size,fun j d' hj=>?_,eU.defers,eU.boxes,eU.fix,eU.pins,eU.gr⟩;simp [UZ] at hj;by_cases hij:i=j
 ·subst hij
  have hlt:=(eV.1 hi).1;simp [hlt] at hj;subst hj;exact hv _ (hr.tmps i _ hi)
 ·rw [if_neg hij] at hj
  exact eU.tmps j d' hj
theorem Rel.aas(h:Rel E w0 G0 st a w G){x x':cH}{hd hd':Value}(c':J (Nat×Cn E))(hj:G.g[j]? = some (x,hd))(hlt:x.aF<x'.aF)(hok:yE E w G x' hd')(AN:∀i c,(i,c)∈c'->∃y z,(G.g.set j (x',hd'))[i]? = some (y,z)/\sI E w G y z c)
  (hnew:∀b,hd'.ownBlock=some b->w0.heap.size<=b) (hap:∀(m:Nat) y z b,m≠j->G.g[m]? = some (y,z)->z.ownBlock=some b->hd'.ownBlock≠some b) :
  Rel E w0 G0 {st with g:=st.g.set j x',c:=c'} a w {G with g:=G.g.set j (x',hd')}:=by
 have at':∀(m:Nat) y z,(G.g.set j (x',hd'))[m]? = some (y,z)->(m=j/\y=x'/\z=hd')\/(m≠j/\G.g[m]? = some (y,z)):=by
  grind
 have hg:iB w G w {G with g:=G.g.set j (x',hd')}:=by
  refine⟨fun _ _ h=>h,fun _ _ _ _ h=>h,fun _ _ h=>h,fun m y z hm=>?_⟩
  grind
 have ev:=h.eX;refine⟨⟨ev.os,ev.tape,ev.output,ev.size,ev.old,ev.goes.trans hg,ev.oe,ev.qH,fun m y z b hm hb=>?_⟩,h.size,fun m d hm=>(h.tmps m d hm).mono hg,h.defers.mono hg,?_,h.fix,h.pins,?_⟩
 ·rcases at' m y z hm with⟨-,-,rfl⟩|⟨-,hm⟩
  ·exact .inl (hnew b hb)
  ·exact ev.gL m y z b hm hb
 ·refine⟨h.boxes.len,?_,fun r b y hb hy=>(h.boxes.box r b y hb hy).mono hg rfl,h.boxes.lt,h.boxes.nodup,h.boxes.gq,fun m y z hm=>?_,fun m m' y z y' z' b hm hm' hb hb'=>?_⟩
  ·rw [Yx,h.boxes.gs]
  ·rcases at' m y z hm with⟨-,rfl,rfl⟩|⟨-,hm⟩
   ·exact hok
   ·exact h.boxes.grow m y z hm
  ·rcases at' m y z hm with⟨q1,-,q3⟩|⟨q1,q⟩<;>rcases at' m' y' z' hm' with⟨q1',-,q3'⟩|⟨q1',q'⟩
   ·rw [q1,q1']
   ·grind
   ·grind
   ·exact h.boxes.apart m m' y z y' z' b q q' hb hb'
 ·exact fun i c hm=>AN i c hm
theorem Rel.PR(h:Rel E w0 G0 st a w G){x x':cH}{hd hd':Value}(hj:G.g[j]? = some (x,hd))(hlt:x.aF<x'.aF)(hok:yE E w G x' hd')(AN:∀c,(j,c)∉st.c)
  (hnew:∀b,hd'.ownBlock=some b->w0.heap.size<=b) (hap:∀(m:Nat) y z b,m≠j->G.g[m]? = some (y,z)->z.ownBlock=some b->hd'.ownBlock≠some b) :
  Rel E w0 G0 {st with g:=st.g.set j x'} a w {G with g:=G.g.set j (x',hd')}:=
 h.aas st.c hj hlt hok (fun i c hm=>by
  obtain⟨y,z,q1,q2⟩:=h.gr i c hm
  grind) hnew hap
theorem xo(x:cH):yE E w G x (.slice none 0 0):=
 ⟨0,[],⟨si,.inl ⟨rfl,rfl⟩⟩,(fun a m e=>nomatch e),(fun b hb=>nomatch hb)⟩
theorem Rel.afu(h:Rel E w0 G0 st a w G){d1:TV E}(hv:VT E w G d1 (a.tmps.getD i undef)):Rel E w0 G0 {st with t:=st.t.set i d1} a w G:=by
 refine⟨h.eX,by simpa using h.size,fun j d' hj=>?_,h.defers,h.boxes,h.fix,h.pins,h.gr⟩;simp [UZ] at hj;by_cases hij:i=j
 ·simp_all
 ·rw [if_neg hij] at hj
  exact h.tmps j d' hj
theorem aat(c:Cut)(n0 i:Nat)(p:PT)(hn0:G0.g.length<=n0)(hr:Rel E w0 G0 st a w G):(∃G',Rel E w0 G0 (TQ c n0 i p st) a w G')/\Fr [i] true st (TQ c n0 i p st):=by
 have vW:(∃G',Rel E w0 G0 st a w G')/\Fr [i] true st st:=⟨⟨G,hr⟩,Fr.refl _ _ _⟩;have mL:∀(d:TV E)(j:Nat),j∉[i]->(st.t.set i d)[j]? = st.t[j]?:=fun d j hj=>Na (fun e=>hj (by simp [e]))
 have ar1:∀(t:Ty)(d:TV E),st.t[i]? = some d->(∃G',Rel E w0 G0 {(vh (.dat t) d st).2 with t:=st.t.set i (vh (.dat t) d st).1} a w G')/\Fr [i] true st {(vh (.dat t) d st).2 with t:=st.t.set i (vh (.dat t) d st).1}:=by
  intro t d hi;obtain⟨o1,G1,eU,g1,v1⟩:=R7 (.dat t) d hr;refine⟨⟨G1,hr.aq2 o1 eU hi v1⟩,?_⟩;obtain⟨c',uz⟩:=o1;rw [uz];exact⟨si,fun j hj=>mL _ j hj,⟨[],rfl,fun _ _ _=>rfl⟩,ek _,fun _=>rfl⟩
 unfold TQ;split
 ·rename_i j T0 j' v T xs hi
  split
  ·rename_i g g' hg hg'
   generalize hb:(!(Nat.beq j' j)&&(Nat.ble n0 j'&&(Nat.beq g'.aF v&&(Nat.beq g.e g'.e&&(Nat.beq g.k g'.k&&(Oc j st.c&&Oc j' st.c))))))=b;cases b
   ·exact vW
   simp only [cE,Gd] at hb;obtain⟨b1,b2,b3,b4,b5,b6,b7⟩:=hb;have b1:j'≠j:=fun e=>by simp_all
   have b2:=lR b2;have b3:=eM b3;obtain⟨hd,hj⟩:=hr.AU hg;obtain⟨hd',hj'⟩:=hr.AU hg';have hv:=hr.tmps i _ hi;have aau:=hr.boxes.grow j' g' hd' hj';have r1:=hr.PR (x':={g' with aF:=g'.aF+1}) (hd':=.slice none 0 0) hj' (I5 _) (xo _) (Od b7) (fun b hb=>nomatch hb) (fun _ _ _ _ _ _ _ hb=>nomatch hb)
   have r2:=r1.PR (j:=j) (x:=g) (hd:=hd) (x':={g with aF:=g.aF+1}) (hd':=hd') (by
     simp_all) (I5 _) (by
     obtain⟨n,xs',g1,g2,g3⟩:=aau;exact⟨n,xs',by simp_all,fun a m h=>by simp_all,fun b hb=>by simp_all⟩) (Od b6) (fun b hb=>by
     rcases hr.eX.gL j' g' hd' b hj' hb with q|⟨x0,h0,q,-⟩
     ·exact q
     grind) (fun m y z b hm TU hb hb'=>by
     by_cases e:m=j'
     ·subst e
      rw [Yy (eV.1 hj').1] at TU;cases TU;cases hb
     ·rw [Na (fun q=>e q.symm)] at TU
      exact e (hr.boxes.apart m j' y z g' hd' b TU hj' hb hb'))
   refine⟨⟨_,r2.afu (d1:=.cA j (g.aF+1) T xs) ?_⟩,si,fun q hq=>mL _ q hq,⟨[],rfl,fun _ _ _=>rfl⟩,ek _,fun _=>rfl⟩
   grind [VT]
  ·exact vW
 ·rename_i j T hi
  split
  ·rename_i g hg
   cases hb:Oc j st.c
   ·exact vW
   obtain⟨hd,hj⟩:=hr.AU hg;have hjl:j<G.g.length:=(eV.1 hj).1;have hv:=hr.tmps i _ hi;have r1:=hr.PR (x':={g with aF:=g.aF+1}) (hd':=.slice none 0 0) hj (I5 _) (xo _) (Od hb) (fun b hb=>nomatch hb) (fun _ _ _ _ _ _ _ hb=>nomatch hb);refine⟨⟨_,r1.afu (d1:=.cA j (g.aF+1) T []) ?_⟩,si,fun q hq=>mL _ q hq,⟨[],rfl,fun _ _ _=>rfl⟩,ek _,fun _=>rfl⟩;rw [hv];simp only [VT];exact⟨.va _ _,{g with aF:=g.aF+1},.slice none 0 0,by simp [hjl],ek _,fun _=>rfl⟩
  ·exact vW
 ·rename_i j j' v hi
  split
  ·rename_i g g' hg hg'
   generalize hb:(!(Nat.beq j' j)&&(Nat.ble n0 j'&&(Nat.beq g'.aF v&&(Nat.beq g.e g'.e&&Nat.beq g.k g'.k))))=b;cases b
   ·exact vW
   simp only [cE,Gd] at hb;obtain⟨b1,b2,b3,b4,b5⟩:=hb;have b1:j'≠j:=fun e=>by simp_all
   have b2:=lR b2;have b3:=eM b3;have b4:=eM b4;have b5:=eM b5;obtain⟨hd,hj⟩:=hr.AU hg;obtain⟨hd',hj'⟩:=hr.AU hg';have hv:=hr.tmps i _ hi;have aau:=hr.boxes.grow j' g' hd' hj';have r1:=hr.aas (x':={g' with aF:=g'.aF+1}) (hd':=.slice none 0 0) [] hj' (I5 _) (xo _) (fun _ _ h=>nomatch h) (fun b hb=>nomatch hb) (fun _ _ _ _ _ _ _ hb=>nomatch hb)
   have r2:=r1.aas (j:=j) (x:=g) (hd:=hd) (x':={g with aF:=g.aF+1}) (hd':=hd') (Xg j j' st.c) (by
     simp_all) (I5 _) (by
     obtain⟨n,xs',g1,g2,g3⟩:=aau;exact⟨n,xs',by simp_all,fun a m h=>by simp_all,fun b hb=>by simp_all⟩) (fun q x hm=>by
     show ∃y z,((G.g.set j' _).set j _)[q]? = some (y,z)/\sI E w G y z x;rcases adt hm with⟨rfl,hm2⟩|⟨h1,h2,hm2⟩
     ·obtain⟨y,z,q1,q2⟩:=hr.gr j' x hm2
      grind [List.getElem?_set_self,sI]
     ·obtain⟨y,z,q1,q2⟩:=hr.gr q x hm2
      grind) (fun b hb=>by
     rcases hr.eX.gL j' g' hd' b hj' hb with q|⟨x0,h0,q,-⟩
     ·exact q
     grind) (fun m y z b hm TU hb hb'=>by
     by_cases e:m=j'
     ·subst e
      rw [Yy (eV.1 hj').1] at TU;cases TU;cases hb
     ·rw [Na (fun q=>e q.symm)] at TU
      exact e (hr.boxes.apart m j' y z g' hd' b TU hj' hb hb'))
   refine⟨⟨_,r2.afu (d1:=.eu j (g.aF+1)) ?_⟩,si,fun q hq=>mL _ q hq,⟨[],rfl,fun _ _ _=>rfl⟩,ek _,fun _=>rfl⟩
   grind [VT]
  ·exact vW
 ·rename_i j hi
  split
  ·rename_i e k T h1 h2
   cases hb:(Nat.beq st.g.length j&&Nat.blt 0 (T.size E))
   ·exact vW
   ·rw [cE] at hb
    exact⟨hr.aho hi e T (lR hb.2),⟨si,fun j hj=>mL _ j hj,⟨[],rfl,fun _ _ _=>rfl⟩,ek _,fun _=>rfl⟩⟩
  ·exact vW
 ·simp_all
 ·exact vW
theorem aav(c:Cut)(n0:Nat){W:J Nat}{w0 w:U}{G0:bq}{a:Act}(hn0:G0.g.length<=n0):∀(vs:J (Nat×PT)),(∀p∈vs,p.1∈W)->∀ {st:TS E}{G:bq},Rel E w0 G0 st a w G->(∃G',Rel E w0 G0 (YX c n0 vs st) a w G')/\Fr W true st (YX c n0 vs st)
 | [],_,st,G,hr=>⟨⟨G,hr⟩,Fr.refl _ _ _⟩
 | (i,p)::vs,hW,st,G,hr=>by
  obtain⟨⟨G1,eU⟩,f1⟩:=aat c n0 i p hn0 hr;obtain⟨h2,f2⟩:=aav c n0 hn0 vs (fun q hq=>hW q (by simp [hq])) eU;exact⟨h2,Fr.trans f1 f2 (fun j hj=>by simp_all) (fun j hj=>hj) (fun h=>⟨rfl,h⟩)⟩
theorem zJ(hE:E.Ok){x:dens E c.tys}(hp:Pre G0 bR)(hr:Rel E w0 G0 st a w G)(hF:Fr W true bR st)(hW:c.okW W=true)(h:c.pack bR st=some x):
  (∃G2,Rel E w0 G0 (c.un W bR x) a w G2)/\Fr W true bR (c.un W bR x):=by
 unfold Cut.pack at h;split at h<;>try trivial
 rename_i ls hls
 obtain⟨⟨G1,hr⟩,hF1⟩:=aav c bR.g.length (by
  rcases Yz bR.g.length G0.g.length with hlt|hge
  ·obtain⟨x,hx,-⟩:=hp.rows bR.g.length _ _ (fJ hlt)
   simp_all
  ·exact hge) c.vars (fun p hp=>U0 (p4.1 hW p hp)) hr
 have hF:=Fr.trans hF hF1 (fun _ h=>h) (fun _ h=>h) (fun h=>⟨h,h⟩);obtain⟨D,hD,hH⟩:=hF.d;obtain⟨G2,hR,-⟩:=Rel.cut hE hp hr hF.len hF.keep hD hH (hF.df rfl) hls
 grind [Dr,Cut.un,Cut.Xh]
def VM{R:Type}(X:Cx E)(st:TS E)(o:Oper)(k:TS E->O R):O R:=
 match Tz X.P X.ty st o.op with
 | some (c,d)=>rqP (PO st o.op) c (k {st with t:=cx st.t o.dst d})
 | none=>match o.op with
  | .pick c x y=>match st.ev c with
   | .dat .bool b=>cond b (k {st with t:=cx st.t o.dst (st.ev x)}) (k {st with t:=cx st.t o.dst (st.ev y)})
   | _=>none
  | _=>none
def qld(P:bh)(st:TS E):Op->O (Bool×TV E)
 | .load t x=>match aU P t,st.ev x with
  | some i,.ir j aF k ix off=>match st.g[j]?,oM st.c j with
   | some g,some c=>match TV.part c.1 (c.2.getD ix (c.1.dflt E)) i.isAgg i.size off with
    | some d=>some (Nat.beq g.aF aF&&Nat.beq k (c.1.size E),d)
    | none=>none
   | _,_=>none
  | _,_=>none
 | _=>none
def VN{R:Type}(X:Cx E)(st:TS E)(o:Oper)(k:TS E->O R):O R:=
 match qld X.P st o.op with
 | some (c,d)=>rqP (PO st o.op) c (k {st with t:=cx st.t o.dst d})
 | none=>VM X st o k
def uB{R:Type}(X:Cx E)(all:aG Oper):J Oper->TS E->(TS E->O R)->O R
 | [],st,k=>k st
 | o::rest,st,k=>match o.guard with
  | none=>VN X st o (fun st'=>uB X all rest st' k)
  | some (j,want)=>match (all[j]?).bind (·.dst) with
   | some t=>match st.at t with
    | .dat .bool b=>cond b
      (cond want (VN X {st with t:=st.t.set t (.dat .bool true)} o (fun st'=>uB X all rest st' k))
       (uB X all rest {st with t:=cx (st.t.set t (.dat .bool true)) o.dst (.val undef)} k))
      (cond want (uB X all rest {st with t:=cx (st.t.set t (.dat .bool false)) o.dst (.val undef)} k)
       (VN X {st with t:=st.t.set t (.dat .bool false)} o (fun st'=>uB X all rest st' k)))
    | .val (.bool _)=>none
    | .val _=>uB X all rest {st with t:=cx st.t o.dst (.val undef)} k
    | _=>none
   | none=>none
def ahr(ops:aG Oper)(i:Nat):Bool:=match ops[i]? with
 | some o=>!(S6 o.op)
 | none=>false
def takes(ops:aG Oper)(hi:Nat):Nat->Nat->Bool
 | _,0=>true
 | i,m+1=>(Region.free .any ops (pre ops.size i) i&&(Region.ready .any ops (pre ops.size i)).contains i&&(ahr ops i||(List.range' hi (ops.size-hi)).all (fun j=>waits ops ops.size j i)))&&takes ops hi (i+1) m
def backward(ops:aG Oper):Bool:=(List.range ops.size).all fun j=>match ops[j]? with
 | some o=>o.after.all fun e=>!(Region.binds .any e)||Nat.blt e.on j
 | none=>true
structure afv where
 q:Bool
 m:Nat
 c:Option Cut
noncomputable def aaw{R:Type}(X:Cx E)(l:J Oper)(i:Nat)(q:Bool)(m:Nat)(st:TS E)(k:TS E->O R):O R:=
 cond q (rq ((Region.noSelect l.toArray&&backward l.toArray&&takes l.toArray (i+m) i m)&&Nat.ble (i+m) l.length) (uB X l.toArray ((l.drop i).take m) st k))
  (rq (forced l.toArray i m&&Nat.ble (i+m) l.length) (tW X l.toArray ((l.drop i).take m) st (jx k fun _ _=>none)))
noncomputable def Ln{R:Type}(X:Cx E)(l:J Oper):Nat->J afv->TS E->(TS E->O R)->O R
 | i,[],st,k=>cond (Nat.beq i l.length) (k st) none
 | i,s::ss,st,k=>match s.c with
  | none=>aaw X l i s.q s.m st (fun st'=>Ln X l (i+s.m) ss st' k)
  | some c=>rq (c.okW (eN l.toArray ((l.drop i).take s.m))&&cy l) ((aaw X l i s.q s.m st (fun st'=>c.pack st st')).bind fun x=>Ln X l (i+s.m) ss (c.un (eN l.toArray ((l.drop i).take s.m)) st x) k)
variable{w':U}{f m id:Nat}{ws:U}{Gs:bq}{Z:J Nat}{L:aG Bool}{R':Type}
def oq(Q:TS E->Prop):Ex E->TS E->Prop:=fun x s=>x=.normal/\Q s
theorem cG.oq{e:Exit}{R:TS E->Prop}(h:cG E w0 G0 (fun x s=>x=.normal/\R s) e a w):e=.normal:=by
 obtain⟨x,s,G,he,_,rfl,_⟩:=h;cases e<;>first|rfl|exact he.elim
def xu(w0:U)(G0:bq)(P:bh)(ops:aG Oper)(i:Nat)(st:TS E)(Q:TS E->Prop):Prop:=
 ∀a w G,Rel E w0 G0 st a w G->wpAny P .any ops (cG E w0 G0 (oq Q)) (ops.size-i) (pre ops.size i) a w
theorem xu.done{l:J Oper}{Q:TS E->Prop}(i:Nat)(hi:i=l.length)(h:Q st):xu w0 G0 P l.toArray i st Q:=by
 subst hi;intro a w G hr;have:l.toArray.size-l.length=0:=by simp
 rw [this];refine⟨?_,.normal,st,G,trivial,hr,rfl,h⟩;apply List.eq_nil_iff_forall_not_mem.2;intro j hj;obtain⟨h1,o,ho,_⟩:=mem_ready.1 hj;have hlt:j<l.length:=by grind
 rw [Fh hlt (by simpa using hlt)] at h1;cases h1
theorem amb{l:J Oper}(hm:i+m<=l.length)(k:Nat)(hk:k<((l.drop i).take m).length):l.toArray[i+k]? = ((l.drop i).take m)[k]?:=by
 simp_all
theorem afw(h:backward ops=true)(i:Nat):Kb ops (pre ops.size i):=by
 intro j o ho hj e he hb;have hlt:=(Ag.1 ho).1;have h1:=p4.1 h j (List.mem_range.2 hlt);simp only [ho] at h1;have h2:=Array.all_eq_true_iff_forall_mem.1 h1 e he;simp only [hb] at h2;have h3:=CA.1 h2
 have hji:j<i:=by
  simp_all [ama,pre]
 exact Fh om om false
theorem TW(hX:X.Ok){k:TS E->O R}{r:R}(h:VM X st o k=some r)(hr:Rel E w0 G0 st a w G):
  ∃v st',(∀w',H6 o w w'->(execOp a.eval o).run X.P w'=.ok (.value v) w')/\Rel E w0 G0 st' (a.put o.dst v) w G/\k st'=some r/\Fr (iC o.dst) true st st':=by
 unfold VM at h;split at h
 ·rename_i pc pd hp
  obtain⟨h1,h2⟩:=GD h;obtain⟨v,hv,hrun⟩:=QX hX.E hr hp h1;exact⟨v,_,hrun,hr.put hv o.dst,h2,Fr.put _ _ _⟩
 ·split at h<;>try trivial
  rename_i c x y ho;split at h<;>try trivial
  rename_i b hb;have hv:=hr.ev c;rw [hb] at hv;have hv:=hv.mh
  have hrun:∀w',(execOp a.eval o).run X.P w'=.ok (.value (if b then a.eval x else a.eval y)) w':=fun w'=>by
   simp [execOp,ho,hv,asBool]
  cases b<;>simp at h
  ·exact⟨a.eval y,_,fun w' _=>hrun w',hr.put (hr.ev y) o.dst,h,Fr.put _ _ _⟩
  ·exact⟨a.eval x,_,fun w' _=>hrun w',hr.put (hr.ev x) o.dst,h,Fr.put _ _ _⟩
theorem afx(hX:X.Ok){k:TS E->O R}{r:R}(h:VN X st o k=some r)(hr:Rel E w0 G0 st a w G):
  ∃v st',(∀w',H6 o w w'->(execOp a.eval o).run X.P w'=.ok (.value v) w')/\Rel E w0 G0 st' (a.put o.dst v) w G/\k st'=some r/\Fr (iC o.dst) true st st':=by
 unfold VN at h;split at h
 ·rename_i pc pd hp
  obtain⟨h1,h2⟩:=GD h;cases ho:o.op<;>rw [ho] at hp<;>try trivial
  simp [qld] at hp;split at hp<;>try trivial
  rename_i i j aF k' ix off ht hx;split at hp<;>try trivial
  rename_i g c hg hc;split at hp<;>try trivial
  rename_i d hpart;cases hp;rw [cE] at h1;obtain rfl:=eM h1.1;obtain⟨v,hv,hrun⟩:=Ie hX.E hr ho ht hx hg hc (eM h1.2) hpart;exact⟨v,_,hrun,hr.put hv o.dst,h2,Fr.put _ _ _⟩
 grind [TW]
theorem acC(hX:X.Ok){l:J Oper}{k:TS E->O R}{r:R}{Q:TS E->Prop}(hs:(Region.noSelect l.toArray&&backward l.toArray&&takes l.toArray (i+m) i m)=true)(hm:i+m<=l.length)
  (h:uB X l.toArray ((l.drop i).take m) st k=some r)    (fC:∀st',k st'=some r->Fr (eN l.toArray ((l.drop i).take m)) true st st'->xu w0 G0 X.P l.toArray (i+m) st' Q) (hr:Rel E w0 G0 st a w G) :
  wpAny X.P .any l.toArray (cG E w0 G0 (oq Q)) (l.toArray.size-i) (pre l.toArray.size i) a w:=by
 simp only [cE] at hs;obtain⟨⟨uA,hbk⟩,htk⟩:=hs;refine TN (S:=fun w'=>eY w w') (lo:=i) (hi:=i+m) _ _ _ _ ?_;have hQp:∀c a w,¬ cG E w0 G0 (oq Q) (.panic c) a w:=fun c a w hp=>by have:=cG.oq hp;cases this
 have key:∀(seg:J Oper)(q:Nat)(s:TS E)(a:Act),(∀k,k<seg.length->l.toArray[q+k]? = seg[k]?)->q+seg.length=i+m->i<=q->takes l.toArray (i+m) q seg.length=true ->
   Rel E w0 G0 s a w G->uB X l.toArray seg s k=some r->(∀st',k st'=some r->Fr (eN l.toArray seg) true s st'->xu w0 G0 X.P l.toArray (i+m) st' Q) ->
   wpAnyS X.P l.toArray (cG E w0 G0 (oq Q)) (fun w'=>eY w w') i (i+m) (l.toArray.size-q) (pre l.toArray.size q) a w:=by
  intro seg
  induction seg with
  | nil=>
   intro q s a hsg hq hiq _ hr h fC;subst hq;refine TO _ _ _ _ (fun k h1 h2=>Fh h2 bz true) ?_
   exact fC s h (Fr.refl _ _ _) a w G hr
  | cons o seg ih=>
   intro q s a hsg hq hiq ht hr h fC;simp only [su] at hq ht;simp only [takes,cE] at ht;obtain⟨⟨⟨hfr,hrd⟩,hwt⟩,ht'⟩:=ht;have hoq:l.toArray[q]? = some o:=by simpa using hsg 0 si
   have aoa:∀k,k<seg.length->l.toArray[(q+1)+k]? = seg[k]?:=fun k hk=>by
    have:=hsg (k+1) (by simpa using hk)
    grind
   rw [show l.toArray.size-q=(l.toArray.size-(q+1))+1 by simp;omega]
   have first:∀v,YieldsIf X.P l.toArray (fun w'=>H6 o w w') o v a->wpAnyS X.P l.toArray (cG E w0 G0 (oq Q)) (fun w'=>eY w w') i (i+m) (l.toArray.size-(q+1)) (pre l.toArray.size (q+1)) (a.put o.dst v) w ->
     wpAnyS X.P l.toArray (cG E w0 G0 (oq Q)) (fun w'=>eY w w') i (i+m) ((l.toArray.size-(q+1))+1) (pre l.toArray.size q) a w:=fun v hy hh=>by
    simp only [Rr] at hwt;rcases hwt with hnl|hwt
    ·have aq3:S6 o.op=false:=by
      simp_all [ahr]
     refine acB (v:=v) hoq (adW uA) (fun c a w hp=>(hQp _ _ _ hp).elim) _ _ a w (adX hoq hfr) (by simpa using hrd) ?_ ?_
     ·rcases hy with⟨h1,h2⟩|hy
      ·exact .inl ⟨h1,fun w' _=>h2 w' (fun hl=>by rw [aq3] at hl;cases hl)⟩
      ·exact .inr hy
     simp_all [R9]
    refine wpAnyS_first (v:=v) hoq (adW uA) (fun c a w hp=>(hQp _ _ _ hp).elim) (fun j h1 h2=>?_) _ _ a w (afw hbk q) (fun k h1 h2=>Fh om h2 true) (adX hoq hfr) (by simpa using hrd) ?_ (eY.refl w) ?_
    rotate_left
    ·rcases hy with⟨h1,h2⟩|hy
     ·exact .inl ⟨h1,fun w' hs=>h2 w' (fun _=>hs)⟩
     ·exact .inr hy
    rotate_left
    ·simp_all
    simp_all [R9]
   have run:∀(s1:TS E),Fr (kR l.toArray o) true s s1->Rel E w0 G0 s1 a w G->Region.wanted o (yielded l.toArray a.tmps)=true->VN X s1 o (fun st'=>uB X l.toArray seg st' k)=some r ->
     wpAnyS X.P l.toArray (cG E w0 G0 (oq Q)) (fun w'=>eY w w') i (i+m) ((l.toArray.size-(q+1))+1) (pre l.toArray.size q) a w:=by
    intro s1 f0 eU hw h1;obtain⟨v,s2,hrun,hr2,h2,f1⟩:=afx hX h1 eU;refine first v (.inl ⟨hw,hrun⟩) (ih (q+1) s2 _ aoa om om ht' hr2 h2 (fun st' hk f2=>fC st' hk ?_))
    exact (f0.trans f1 (W:=iC o.dst++kR l.toArray o) (n:=true) (fun i hi=>by simp [hi]) (fun i hi=>by simp [hi]) (fun h=>⟨rfl,rfl⟩)).trans f2 (fun i hi=>by
     grind [eN]) (fun i hi=>by simp [eN,hi]) (fun h=>⟨rfl,rfl⟩)
   have skip:∀(s1:TS E),Fr (kR l.toArray o) true s s1->Rel E w0 G0 s1 a w G->Region.wanted o (yielded l.toArray a.tmps)=false->uB X l.toArray seg {s1 with t:=cx s1.t o.dst (.val undef)} k=some r ->
     wpAnyS X.P l.toArray (cG E w0 G0 (oq Q)) (fun w'=>eY w w') i (i+m) ((l.toArray.size-(q+1))+1) (pre l.toArray.size q) a w:=by
    intro s1 f0 eU hw h1;have hr2:=eU.put (v:=undef) (d:=.val undef) (by simp only [VT]) o.dst;refine first undef (.inr ⟨hw,rfl⟩) (ih (q+1) _ _ aoa om om ht' hr2 h1 (fun st' hk f2=>fC st' hk ?_))
    exact (f0.trans (Fr.put s1 o.dst (.val undef)) (W:=iC o.dst++kR l.toArray o) (n:=true) (fun i hi=>by simp [hi]) (fun i hi=>by simp [hi]) (fun h=>⟨rfl,rfl⟩)).trans f2 (fun i hi=>by
     grind [eN]) (fun i hi=>by simp [eN,hi]) (fun h=>⟨rfl,rfl⟩)
   simp only [uB] at h;split at h
   ·rename_i hg
    exact run s (Fr.refl _ _ _) hr (by simp [Region.wanted,hg]) h
   ·rename_i j want hg
    split at h<;>try trivial
    rename_i t htt;split at h<;>try trivial
    ·rename_i b hb
     obtain⟨hw,hbv⟩:=Jk hr hg htt hb;have hl:=hr.lit hbv
     grind [kR,Fr.lit]
    grind [Fr.refl,Lm]
 grind
theorem TX(hX:X.Ok){l:J Oper}{q:Bool}{k:TS E->O R}{r:R}{Q:TS E->Prop}(h:aaw X l i q m st k=some r)
  (fC:∀st',k st'=some r->Fr (eN l.toArray ((l.drop i).take m)) (cy ((l.drop i).take m)) st st'->xu w0 G0 X.P l.toArray (i+m) st' Q):xu w0 G0 X.P l.toArray i st Q:=by
 intro a w G hr;unfold aaw at h;cases q<;>simp at h
 ·obtain⟨h1,h2⟩:=dQ h
  rw [cE] at h1;have hm:=lR h1.2;have hlen:((l.drop i).take m).length=m:=by simp;omega
  have key:=Xf (Q':=cG E w0 G0 (oq Q)) ((l.drop i).take m) i (l.toArray.size-(i+m)) (amb hm) (by rw [hlen];exact h1.1) a w (q9 hX h2 w0 G0 a w G hr) (fun e a w hp=>?_)
  ·grind
  ·obtain⟨x,s,G',he,hr',hk,hf⟩:=hp
   cases x with
   | normal=>
    refine⟨by cases e<;>first|rfl|exact he.elim,?_⟩;rw [hlen]
    exact fC s hk hf a w G' hr'
   | _=>cases hk
 ·obtain⟨h1,h2⟩:=dQ h
  rw [cE] at h1;exact acC hX h1.1 (lR h1.2) h2 (fun st' hk hf=>fC st' hk (hf.wide (fun _ h=>h) (fun _=>rfl))) hr
theorem xu.mono{Q Q':TS E->Prop}(hq:∀s,Q s->Q' s)(h:xu w0 G0 P ops i st Q):xu w0 G0 P ops i st Q':=by
 intro a w G hr
 have key:∀(fuel:Nat)(listed:aG Bool)(a:Act)(w:U){Q1 Q2:Exit->Act->U->Prop},(∀e a w,Q1 e a w->Q2 e a w)->wpAny P .any ops Q1 fuel listed a w->wpAny P .any ops Q2 fuel listed a w:=by
  intro fuel
  induction fuel with
  | zero=>intro listed a w Q1 Q2 hq h;exact⟨h.1,hq _ _ _ h.2⟩
  | succ fuel ih=>
   intro listed a w Q1 Q2 hq h;refine⟨fun he=>hq _ _ _ (h.1 he),fun i hi=>?_⟩;have h1:=h.2 i hi;unfold wpOp at h1⊢;split
   ·grind
   ·rename_i o ho
    rw [ho] at h1;simp only at h1;split
    ·rename_i hw
     rw [if_pos hw] at h1;rcases h1 with h1|⟨h1,a1,w1,h2⟩
     ·exact .inl (pR (fun a w h=>ih _ a w hq h) hq h1)
     ·exact .inr ⟨h1,a1,w1,hq _ _ _ h2⟩
    grind
 exact key _ _ _ _ (fun e a w hp=>cG.mono (fun x s hh=>⟨hh.1,hq _ hh.2⟩) hp) (h a w G hr)
theorem F7{all:aG Oper}:∀(l:J Oper)(a b:Nat)(i:Nat),i∈eN all ((l.drop a).take b)->i∈eN all l
 | [],a,b,i,h=>by simp at h;exact h
 | o::l,0,0,i,h=>by simp [eN] at h
 | o::l,0,b+1,i,h=>by
  simp [eN] at h⊢;rcases h with h|h|h
  ·exact .inl h
  ·exact .inr (.inl h)
  ·exact .inr (.inr (F7 l 0 b i (by simpa using h)))
 | o::l,a+1,b,i,h=>by
  simp [eN];exact .inr (.inr (F7 l a b i (by simpa using h)))
theorem Bc:∀(l:J Oper)(a b:Nat),cy l=true->cy ((l.drop a).take b)=true
 | [],a,b,h=>by simp [cy]
 | o::l,0,0,h=>by simp [cy]
 | o::l,0,b+1,h=>by
  simp only [cy,cE] at h;simp only [UW,List.take_succ_cons,cy,cE]
  exact⟨h.1,by simpa using Bc l 0 b h.2⟩
 | o::l,a+1,b,h=>by
  simp_all [cy,Bc]
theorem Jl{R:Type}(hX:X.Ok){l:J Oper}{k:TS E->O R}{r:R}{w0:U}{G0:bq}:∀(ss:J afv)(i:Nat){st:TS E},Ln X l i ss st k=some r ->
  xu w0 G0 X.P l.toArray i st (fun st'=>k st'=some r/\Fr (eN l.toArray l) (cy l) st st')
 | [],i,st,h=>by
  simp [Ln] at h;cases hi:Nat.beq i l.length<;>rw [hi] at h<;>simp only [aZ,aK] at h
  ·cases h
  simp_all [xu.done,Fr.refl]
 | s::ss,i,st,h=>by
  simp [Ln] at h;split at h
  ·refine TX hX h fun st' hk hf=>?_
   refine xu.mono (fun s' hh=>⟨hh.1,hf.trans hh.2 (fun j hj=>F7 l i s.m j hj) (fun j hj=>hj) (fun hn=>⟨Bc l i s.m hn,hn⟩)⟩) (Jl hX ss (i+s.m) hk)
  ·rename_i c hc
   obtain⟨h1,h2⟩:=dQ h;rw [cE] at h1
   cases hs:aaw X l i s.q s.m st (fun st'=>c.pack st st') with
   | none=>rw [hs] at h2;cases h2
   | some x=>
    rw [hs] at h2;intro a w G hr;have hpre:=hr.pre;refine TX hX hs (fun st' hk hf=>?_) a w G hr;intro a' w' G' hr';obtain⟨⟨G2,hR⟩,hF⟩:=zJ hX.E hpre hr' (hf.wide (fun _ h=>h) (fun _=>Bc l i s.m h1.2)) h1.1 hk;exact xu.mono (fun s' hh=>⟨hh.1,hF.trans hh.2 (fun j hj=>F7 l i s.m j hj) (fun j hj=>hj) (fun hn=>⟨rfl,hn⟩)⟩) (Jl hX ss (i+s.m) h2) a' w' G2 hR
theorem afy(hX:X.Ok){ss:J afv}{k:TS E->O R}{r:R}(h:Ln X ops.toList 0 ss st k=some r):
  HZ E X.P (.region id ops true) st (fun x st'=>x=.normal/\k st'=some r/\Fr (eN ops ops.toList) (cy ops.toList) st st'):=by
 intro w0 G0 a w G hr;have hs:eY w {w with drawn:=w.drawn+1}:=⟨ek _,fun _ _=>rfl⟩;have hr':=hr.grow hs rfl rfl rfl G.pr (fun _ _ h=>h) (fun _ _ _ h=>h) (fun b o hp=>jN (hr.boxes.gq b o hp).1 hs.1);have h1:=Jl hX ss 0 h a _ _ hr';refine wp_region_any hX.mix ?_;rw [ajv];exact h1
theorem kQ.trans{w1 w2:U}{G1 G2:bq}(h:kQ w0 G0 w1 G1)(h':kQ w1 G1 w2 G2):kQ w0 G0 w2 G2:=by
 have Ea:∀b,b<w0.heap.size->G1.Ea b->G0.Ea b:=by
  intro b hb hf;rcases hf with hf|⟨x,hd,hm,hbk⟩
  ·obtain⟨q,hq,he⟩:=lS hf
   have TD:G1.i[q]? = some b:=by rw [<-he];exact fJ hq
   by_cases tC:q<G0.i.length
   ·have e1:=h.goes.i q _ (fJ tC)
    rw [TD] at e1;exact .inl (by rw [qE e1];exact gU tC)
   ·have:=h.qH q b om TD;omega
  ·obtain⟨j,hj,he⟩:=lS hm
   rcases h.gL j x hd b (by rw [<-he];exact fJ hj) hbk with q|⟨x0,h0,q1,q2⟩
   ·omega
   ·exact .inr ⟨x0,h0,jo q1,q2⟩
 refine⟨h'.os.trans h.os,h'.tape.trans h.tape,h'.output.trans h.output,oD h.size h'.size,fun b hb hn=>(h'.old b (jN hb h.size) (fun hf=>hn (Ea b hb hf))).trans (h.old b hb hn),h.goes.trans h'.goes,fun b o hb hp=>?_,fun r b h1 h2=>?_,fun j x hd b hj hbk=>?_⟩
 ·rcases h'.oe b o (jN hb h.size) hp with q|⟨x,hd,hm,hbk⟩
  ·exact h.oe b o hb q
  ·obtain⟨j,hj,he⟩:=lS hm
   rcases h.gL j x hd b (by rw [<-he];exact fJ hj) hbk with q|⟨x0,h0,q1,q2⟩
   ·omega
   ·exact .inr ⟨x0,h0,jo q1,q2⟩
 ·by_cases hr:r<G1.i.length
  ·have e1:=h'.goes.i r _ (fJ hr)
   rw [h2] at e1;exact h.qH r b h1 (by rw [qE e1];exact fJ hr)
  ·exact oD h.size (h'.qH r b om h2)
 ·rcases h'.gL j x hd b hj hbk with q|⟨x0,h0,q1,q2⟩
  ·exact .inl (oD h.size q)
  ·exact h.gL j x0 h0 b q1 q2
theorem Rel.root(h:Rel E w0 G0 st a w G):Rel E w G {st with d:=[]} a w G:=
 ⟨kQ.refl w G,h.size,h.tmps,h.defers,h.boxes,fun _ _ _ _=>rfl,h.TF,h.gr⟩
theorem Rel.Oe{G':bq}{a':Act}{st':TS E}(h:Rel E w0 G0 st a w G)(h':Rel E w G st' a' w' G'):Rel E w0 G0 {st' with d:=st'.d++st.d} a' w' G':=
 ⟨h.eX.trans h'.eX,h'.size,h'.tmps,h'.defers,h'.boxes,fun r b hb hd=>by
  rw [qF,not_or] at hd;exact (h'.fix r b (h.eX.goes.i r b hb) hd.1).trans (h.fix r b hb hd.2),h.pins,h'.gr⟩
theorem Fr.Oe{nd:Bool}{st':TS E}(h:Fr W nd {st with d:=[]} st'):Fr W nd st {st' with d:=st'.d++st.d}:=by
 obtain⟨D,hD,hH⟩:=h.d;simp at hD;exact⟨h.len,h.keep,⟨D,by rw [hD],hH⟩,h.hl,h.df⟩
def Me(ws:U)(Gs:bq)(R:J Nat)(w':U):Prop:=
 (∀r b,r∈R->Gs.i[r]? = some b->w'.heap[b]? = ws.heap[b]?)/\∀b o u,Gs.pr b o->ws.cell? ⟨b,o,none⟩=some u->w'.cell? ⟨b,o,none⟩=some u
def pinned(R:J Nat)(st:TS E):Bool:=R.all fun r=>!(st.d.elem r)
theorem Rel.pin{R:J Nat}(h:Rel E ws Gs st a w G)(hR:pinned R st=true):Me ws Gs R w:=
 ⟨fun r b hr hb=>h.fix r b hb (fun hm=>by
  have:=p4.1 hR r hr
  simp_all),h.eX.goes.cells⟩
def TY(R:J Nat)(first:Bool)(st:TS E):Op->Bool
 | .load _ x=>match st.ev x with
  | .ptr r _=>R.elem r
  | .sH _ _ _=>first
  | _=>false
 | _=>true
def vX(P:bh)(ops:aG Oper)(Q:Exit->Act->U->Prop)(S:U->Prop)(Z:J Nat):Nat->aG Bool->Act->U->Prop
 | 0,listed,a,w=>Region.ready .any ops listed=[]/\Q .normal a w
 | fuel+1,listed,a,w=>
  (Region.ready .any ops listed=[]->Q .normal a w) /\
  ∀i∈Region.ready .any ops listed,wpOp P ops Q i (fun a' w'=>(Z.elem i=false->S w')/\vX P ops Q S Z fuel (listed.setIfInBounds i true) a' w') a w
theorem Lo{P:bh}{ops:aG Oper}{Q:Exit->Act->U->Prop}{S:U->Prop}{Z:J Nat}:∀(fuel:Nat)(listed:aG Bool)(a:Act)(w:U),vX P ops Q S Z fuel listed a w->wpAny P .any ops Q fuel listed a w
 | 0,_,_,_,h=>h
 | fuel+1,_,_,_,h=>⟨h.1,fun i hi=>wpOp_mono (fun a' w' h'=>Lo fuel _ a' w' h'.2) (h.2 i hi)⟩
theorem aax(GF:ops[i]? = some oi)(hsel:∀(j:Nat)(o:Oper) cs b,ops[j]? = some o->o.op≠.select cs b)
  (hQ:∀c a w,Q (.panic c) (a.put oi.dst v) w->Q (.panic c) a w) {B:J Nat} (hZ:∀j,Z.elem j=true->j∈B) (hB:∀j∈B,∃oj,ops[j]? = some oj/\∃e∈oj.after,Region.binds .any e=true/\(e.on=i\/e.on∈B)) :
  ∀(fuel:Nat)(listed:aG Bool)(a:Act)(w:U),
   (∀j oj,ops[j]? = some oj->j≠i->listed.getD j true=false->(∀e∈oj.after,Region.binds .any e=true->e.on≠i)->oi.apart ops oj=true) ->
   (∀j∈B,listed.getD j true=false)->i∈Region.ready .any ops listed->YieldsIf P ops S oi v a->S w ->
   vX P ops Q S Z fuel (listed.setIfInBounds i true) (a.put oi.dst v) w->vX P ops Q S Z (fuel+1) listed a w:=by
 intro fuel
 induction fuel with
 | zero=>
  intro listed a w _ _ hr hy hS H;refine⟨fun h=>(by rw [h] at hr;cases hr),fun j hj=>?_⟩;by_cases hji:j=i
  ·subst hji;exact hy.wpOp GF hS ⟨fun _=>hS,H⟩
  ·have:=ready_mono hj hji
   rw [H.1] at this
   cases this
 | succ fuel ih=>
  intro listed a w hfree hL hr hy hS H;refine⟨fun h=>(by rw [h] at hr;cases hr),fun j hj=>?_⟩;by_cases hji:j=i
  ·subst hji;exact hy.wpOp GF hS ⟨fun _=>hS,H⟩
  ·have h1:=H.2 j (ready_mono hj hji)
   obtain⟨N9,oj,Oa,hall⟩:=mem_ready.1 hj;have hpi:=(mem_ready.1 hr).1
   have hnot:∀e∈oj.after,Region.binds .any e=true->e.on≠i:=fun e he hb heq=>by
    grind
   have h2:=wpOp_putIf Oa (hfree j oj Oa hji N9 hnot) (fun cs b=>hsel i oi cs b GF) (fun cs b=>hsel j oj cs b Oa) hQ hy h1
   have Ob:∀k ok,ops[k]? = some ok->k≠i->(listed.setIfInBounds j true).getD k true=false ->
     (∀e∈ok.after,Region.binds .any e=true->e.on≠i)->oi.apart ops ok=true:=fun k ok hk hki hun hno=>by
    refine hfree k ok hk hki ?_ hno;by_cases hjk:j=k
    ·subst hjk;exact N9
    ·rw [getD_set_ne true hjk] at hun;exact hun
   have hjB:j∉B:=fun hjB=>by
    grind
   have hjZ:Z.elem j=false:=by
    grind
   have hL':∀k∈B,(listed.setIfInBounds j true).getD k true=false:=fun k hk=>by
    rw [getD_set_ne true (fun e=>hjB (by rw [e];exact hk))];exact hL k hk
   refine wpOp_mono (fun a' w' h3=>⟨h3.2.1,ih (listed.setIfInBounds j true) a' w' Ob hL' (ready_mono hr (Ne.symm hji)) h3.1 (h3.2.1 hjZ) ?_⟩) h2
   grind [Array.setIfInBounds_comm]
def gdT{R':Type}(all:aG Oper)(o:Oper)(st:TS E)(run skip:TS E->O R'):O R':=match o.guard with
 | none=>run st
 | some (j,want)=>match (all[j]?).bind (·.dst) with
  | some t=>match st.at t with
   | .dat .bool b=>cond b
     (cond want (run {st with t:=st.t.set t (.dat .bool true)}) (skip {st with t:=st.t.set t (.dat .bool true)}))
     (cond want (skip {st with t:=st.t.set t (.dat .bool false)}) (run {st with t:=st.t.set t (.dat .bool false)}))
   | .val (.bool _)=>none
   | .val _=>skip st
   | _=>none
  | none=>none
def hasDep(all:aG Oper)(i:Nat)(S:J Nat)(j:Nat):Bool:=match all[j]? with
 | some o=>o.after.any (fun e=>Region.binds .any e&&(Nat.beq e.on i||S.elem e.on))
 | none=>false
def upG(all:aG Oper)(i:Nat):J Nat->J Nat->J Nat
 | [],acc=>acc
 | j::js,acc=>upG all i js (cond (hasDep all i acc j) (j::acc) acc)
def adu(all:aG Oper)(Z:J Nat)(L:aG Bool)(i:Nat)(B:J Nat):Bool:=Z.all (B.elem ·)&&B.all fun j=>hasDep all i B j && !(L.getD j true)
def behind(all:aG Oper)(Z:J Nat)(L:aG Bool)(i:Nat):Bool:=cond Z.isEmpty true (adu all Z L i (upG all i (List.range all.size) []))
theorem ahs(h:behind all Z L i=true):∃B:J Nat,(∀j,Z.elem j=true->j∈B)/\∀j∈B,L.getD j true=false/\∃oj,all[j]? = some oj/\∃e∈oj.after,Region.binds .any e=true/\(e.on=i\/e.on∈B):=by
 unfold behind at h;cases hz:Z.isEmpty<;>rw [hz] at h<;>simp at h
 ·unfold adu at h
  rw [cE] at h;refine⟨_,fun j hj=>U0 (p4.1 h.1 j (U0 hj)),fun j hj=>?_⟩;have h2:=p4.1 h.2 j hj
  grind [hasDep,Array.any_eq_true',Nat.eq_of_beq_eq_true,List.mem_of_elem_eq_true]
 ·refine⟨[],fun j hj=>?_,fun j hj=>by cases hj⟩
  simp_all
noncomputable def Mf{R':Type}(X:Cx E)(R Z:J Nat)(all:aG Oper):J (Nat×Bool)->Nat->aG Bool->TS E->(Nat->TS E->O R')->O R'
 | [],f,_,st,k=>k f st
 | p::is,f,L,st,k=>match all[p.1]? with
  | none=>none
  | some o=>cond p.2
    (rq ((Region.free .any all L p.1&&(Region.ready .any all L).contains p.1)&&(Nat.ble f 1&&behind all Z L p.1)) (gdT all o st
     (fun st=>rq (TY R (Nat.beq f 0) st o.op) (VM X st o (fun st'=>Mf X R Z all is f (L.setIfInBounds p.1 true) st' k)))
     (fun st=>Mf X R Z all is f (L.setIfInBounds p.1 true) {st with t:=cx st.t o.dst (.val undef)} k)))
    (rq (Region.ready .any all L==[p.1]) (gdT all o st
     (fun st=>Xe X st o (jx (fun st'=>cond (Z.elem p.1) (Mf X R Z all is 2 (L.setIfInBounds p.1 true) st' k) (rq (pinned R st') (Mf X R Z all is 1 (L.setIfInBounds p.1 true) st' k))) fun _ _=>none))
     (fun st=>rq (Nat.ble f 1||Z.elem p.1) (Mf X R Z all is f (L.setIfInBounds p.1 true) {st with t:=cx st.t o.dst (.val undef)} k))))
structure yq where
 l:List (Nat×Bool)
 c:Option Cut
def YY(L:aG Bool):J (Nat×Bool)->aG Bool
 | []=>L
 | p::l=>YY (L.setIfInBounds p.1 true) l
def qd(all:aG Oper)(l:J (Nat×Bool)):J Oper:=l.filterMap fun p=>all[p.1]?
noncomputable def PU{R':Type}(X:Cx E)(R Z:J Nat)(all:aG Oper):J yq->Nat->aG Bool->TS E->(TS E->O R')->O R'
 | [],_,L,st,k=>rq (Region.ready .any all L).isEmpty (k st)
 | s::ss,f,L,st,k=>match s.c with
  | none=>Mf X R Z all s.l f L st (fun f' st'=>PU X R Z all ss f' (YY L s.l) st' k)
  | some c=>rq (c.okW (eN all (qd all s.l))&&cy all.toList) ((Mf X R Z all s.l f L st (fun _ st'=>c.pack st st')).bind fun x=>rq (pinned R (c.un (eN all (qd all s.l)) st x)) (PU X R Z all ss 1 (YY L s.l) (c.un (eN all (qd all s.l)) st x) k))
def yq.n:J yq->Nat
 | []=>0
 | s::ss=>s.l.length+yq.n ss
def nS(ws:U)(Gs:bq)(R Z:J Nat)(P:bh)(ops:aG Oper)(f n:Nat)(L:aG Bool)(st:TS E)(Q:TS E->Prop):Prop:=
 ∀a w G,Rel E ws Gs st a w G->(f=0->w.heap=ws.heap/\G=Gs)->(f<=1->Me ws Gs R w)->vX P ops (cG E ws Gs (oq Q)) (Me ws Gs R) Z n L a w
theorem nS.done{R:J Nat}{Q:TS E->Prop}(hL:(Region.ready .any ops L).isEmpty=true)(h:Q st):∀n,nS ws Gs R Z P ops f n L st Q:=by
 have hL:=List.isEmpty_iff.1 hL;intro n a w G hr _ _;have hq:cG E ws Gs (oq Q) .normal a w:=⟨.normal,st,G,trivial,hr,rfl,h⟩
 cases n with
 | zero=>exact⟨hL,hq⟩
 | succ n=>exact⟨fun _=>hq,fun i hi=>by rw [hL] at hi;cases hi⟩
theorem afz(hX:X.Ok){R:J Nat}{first:Bool}{k:TS E->O R'}{r:R'}(hl:TY R first st o.op=true)(h:VM X st o k=some r)(hr:Rel E ws Gs st a w G)
  (hf:first=true->w.heap=ws.heap/\G=Gs) (hp:Me ws Gs R w) (Be:∀q,q∈R->q<Gs.i.length) :
  ∃v st',(∀w',Me ws Gs R w'->(execOp a.eval o).run X.P w'=.ok (.value v) w')/\Rel E ws Gs st' (a.put o.dst v) w G/\k st'=some r/\Fr (iC o.dst) true st st':=by
 cases hld:S6 o.op with
 | false=>
  obtain⟨v,st',h1,h2,h3,h4⟩:=TW hX h hr
  exact⟨v,st',fun w' _=>h1 w' (fun hh=>by rw [hld] at hh;cases hh),h2,h3,h4⟩
 | true=>
  obtain⟨t,x,ho⟩:∃t x,o.op=.load t x:=by cases ho:o.op<;>rw [ho] at hld<;>first|exact⟨_,_,rfl⟩|cases hld
  unfold VM at h;split at h
  ·rename_i pc pd hpp
   obtain⟨h1,h2⟩:=GD h;obtain⟨p,hpd⟩:∃p:Bool×TV E,p=(pc,pd):=⟨_,rfl⟩;rw [<-hpd] at hpp;have aob:pc=p.1:=by rw [hpd]
   have aoc:pd=p.2:=by rw [hpd]
   rw [aob] at h1;rw [aoc] at h2;clear hpd aob aoc
   have aq4:Tw X.P X.ty st o.op=some p\/Tx X.P st o.op=some p:=by
    grind [Tz,YS]
   rcases aq4 with hpp|ZQ
   rotate_left
   ·rw [ho] at ZQ hl
    simp only [Tx] at ZQ;simp only [TY] at hl;have hv:=hr.ev x;split at ZQ<;>try trivial
    rename_i i r' off hi hd;rw [hd] at hv hl;have hrR:=U0 hl;split at ZQ<;>try trivial
    rename_i e cap T xs d' hb;cases ZQ;obtain⟨b,he,hat⟩:=hv;obtain⟨cur,q1,q2,q4,q5,q6⟩:=hr.box hat hb;simp only [cE,Gd] at h1;obtain⟨c1,c2,c3⟩:=h1;have c1:=eM c1;have c3:=eM c3;subst c3
    have hGs:Gs.i[r']? = some b:=by
     have hlt:=Be r' hrR;have e1:=hr.eX.goes.i r' _ (fJ hlt)
     simp_all
    refine⟨_,_,fun w' hP=>?_,hr.put q5 o.dst,h2,Fr.put _ _ _⟩;have hh':w'.heap[b]? = some (.cells cur e (0,0)):=by rw [hP.1 r' b hrR hGs,<-hp.1 r' b hrR hGs];exact q1
    have hrun:=Md (P:=X.P) hi c1 c2 w' (W5 hh' (by rw [q2];exact q6));simp only [execOp,ho,he,jf,hrun,jG,pe]
   have Of:PD X.P X.ty st o.op=some p\/(PD X.P X.ty st o.op=none/\Tq X.P X.ty st o.op=some p):=by
    grind [Tw,Tu,Tr,YP,YR]
   rw [ho] at Of hl;rcases Of with Of|⟨-,Of⟩
   rotate_left
   ·simp_all [Tq]
   simp only [PD] at Of;simp only [TY] at hl;have hv:=hr.ev x;split at Of<;>try trivial
   ·rename_i i T y off hi hd
    rw [hd] at hv hl;subst hl;obtain⟨hw,hG⟩:=hf rfl;subst hG;have hcell:∀a,w.cell? a=ws.cell? a:=fun a=>by unfold World.cell?;rw [hw]
    obtain⟨b,o',c,he,q1,q2⟩:=hv;have hpart:=K5 hX.E q1 (Cs Of);obtain⟨v,L8,TH⟩:=sM (P:=X.P) hi (fun l u hl=>(q2 l u hl).2) hpart;refine⟨v,_,fun w' hP=>?_,hr.put L8 o.dst,h2,Fr.put _ _ _⟩;have hrow:∀(l:Nat) u,c[l]? = some u->w'.cell? ⟨b,o'+l,none⟩=some u:=fun l u hl=>hP.2 _ _ _ (q2 l u hl).1 (by simp_all)
    have hrun:(Instr.loadAt t (.pointer (some ⟨b,o'+off,none⟩))).run X.P w'=.ok v w':=by
     have e0:=TH w (eY.refl w)
     have key:∀(W:U),(∀(l:Nat) u,c[l]? = some u->W.cell? ⟨b,o'+l,none⟩=some u)->∀(p1:Part E w G c i.isAgg i.size off p.2),(Instr.loadAt t (.pointer (some ⟨b,o'+off,none⟩))).run X.P W=.ok (cond i.isAgg (.agg ((c.drop off).take i.size).toArray) (c.getD off undef)) W:=by
      intro W hW p1
      have uz:∀l,l<c.length->W.cell? ⟨b,o'+l,none⟩=some (c.getD l undef):=fun l hl=>by
       simp_all
      cases ha:i.isAgg<;>rw [ha] at p1<;>simp only [aZ,aK] at p1⊢
      ·obtain⟨u,hu,-⟩:=p1
       have hl:=(eV.1 hu).1;rw [mF hi b o' c.length (fun l=>c.getD l undef) uz off (by rw [ha];exact hl) W (eY.refl W),ha];rfl
      ·obtain⟨hl,-⟩:=p1
       rw [mF hi b o' c.length (fun l=>c.getD l undef) uz off (by rw [ha];exact hl) W (eY.refl W),ha];simp only [aZ];congr 3;apply Af
       ·simp;omega
       grind
     simp_all
    simp only [execOp,ho,he,jf,hrun,jG,pe]
   ·rename_i i r' off hi hd
    rw [hd] at hv hl;have hrR:=U0 hl;split at Of<;>try trivial
    rename_i t' cs hb;obtain⟨b,he,hat⟩:=hv;obtain⟨vs,hh,q1,q2⟩:=hr.box hat hb
    have hGs:Gs.i[r']? = some b:=by
     have hlt:=Be r' hrR;have e1:=hr.eX.goes.i r' _ (fJ hlt)
     simp_all
    have hpart:=Jb hX.E q2 (fun u hu=>q1 u (by simpa using hu)) (Cs Of)
    obtain⟨v,L8,TH⟩:=sM (P:=X.P) (w:=w) (b:=b) (o':=0) hi (fun l u hl=>by
     grind [cell_of_row]) hpart
    refine⟨v,_,fun w' hP=>?_,hr.put L8 o.dst,h2,Fr.put _ _ _⟩;have hh':w'.heap[b]? = some (.cells vs t' (0,0)):=by rw [hP.1 r' b hrR hGs,<-hp.1 r' b hrR hGs];exact hh
    have hrun:(Instr.loadAt t (.pointer (some ⟨b,0+off,none⟩))).run X.P w'=.ok v w':=by
     have e0:=TH w (eY.refl w)
     have key:∀(W:U),W.heap[b]? = some (.cells vs t' (0,0))->(Instr.loadAt t (.pointer (some ⟨b,0+off,none⟩))).run X.P W=.ok (cond i.isAgg (.agg ((vs.toList.drop off).take i.size).toArray) (vs.toList.getD off undef)) W:=by
      intro W hW
      have uz:∀l,l<vs.toList.length->W.cell? ⟨b,0+l,none⟩=some (vs.toList.getD l undef):=fun l hl=>by
       grind [cell_of_row]
      have p1:=hpart;cases ha:i.isAgg<;>rw [ha] at p1<;>simp only [aZ,aK] at p1⊢
      ·obtain⟨u,hu,-⟩:=p1
       have hl:=(eV.1 hu).1;rw [mF hi b 0 vs.toList.length (fun l=>vs.toList.getD l undef) uz off (by rw [ha];exact hl) W (eY.refl W),ha];rfl
      ·obtain⟨hl,-⟩:=p1
       rw [mF hi b 0 vs.toList.length (fun l=>vs.toList.getD l undef) uz off (by rw [ha];exact hl) W (eY.refl W),ha];simp only [aZ];congr 3;apply Af
       ·simp;simp at hl;omega
       grind
     simp_all
    rw [qC] at hrun;simp only [execOp,ho,he,jf,hrun,jG,pe]
  ·rw [ho] at h;cases h
theorem Sa{run skip:TS E->O R'}{r:R'}(h:gdT all o st run skip=some r)(hr:Rel E w0 G0 st a w G):
  ∃s1,Fr (kR all o) true st s1/\Rel E w0 G0 s1 a w G/\((Region.wanted o (yielded all a.tmps)=true/\run s1=some r)\/(Region.wanted o (yielded all a.tmps)=false/\skip s1=some r)):=by
 unfold gdT at h;split at h
 ·rename_i hg
  exact⟨st,Fr.refl _ _ _,hr,.inl ⟨by simp [Region.wanted,hg],h⟩⟩
 ·rename_i j want hg
  split at h<;>try trivial
  rename_i t htt;split at h<;>try trivial
  ·rename_i b hb
   obtain⟨hw,hbv⟩:=Jk hr hg htt hb;have hl:=hr.lit hbv
   grind [kR,Fr.lit]
  grind [Fr.refl,Lm]
theorem vY{R':Type}(hX:X.Ok){R Z:J Nat}{all:aG Oper}(uA:Region.noSelect all=true){ws:U}{Gs:bq}(Be:∀q,q∈R->q<Gs.i.length){Q:TS E->Prop}{n:Nat}{k:Nat->TS E->O R'}{r:R'}:
  ∀(is:J (Nat×Bool))(f:Nat)(L:aG Bool){st:TS E},Mf X R Z all is f L st k=some r ->
   (∀f' st',k f' st'=some r->Fr (eN all (qd all is)) (cy (qd all is)) st st'->nS ws Gs R Z X.P all f' n (YY L is) st' Q)->nS ws Gs R Z X.P all f (is.length+n) L st Q
 | [],f,L,st,h,fC=>by
  simp
  exact fC f st h (Fr.refl _ _ _)
 | (i,q)::is,f,L,st,h,fC=>by
  intro a w G hr hf hp;simp only [Mf] at h;split at h<;>try trivial
  rename_i o ho;have hQp:∀c a w,¬ cG E ws Gs (oq Q) (.panic c) a w:=fun c a w hp=>by have:=cG.oq hp;cases this
  have nw:qd all ((i,q)::is)=o::qd all is:=by simp [qd,ho]
  have hfr:∀ {s1 s2 s3:TS E}{nd:Bool},(nd=!(Fg o.op)\/nd=true)->Fr (kR all o) true st s1->Fr (iC o.dst) nd s1 s2->Fr (eN all (qd all is)) (cy (qd all is)) s2 s3->Fr (eN all (qd all ((i,q)::is))) (cy (qd all ((i,q)::is))) st s3:=by
   intro s1 s2 s3 nd hnd f0 f1 f2;rw [nw]
   refine (f0.trans f1 (W:=iC o.dst++kR all o) (fun i hi=>by simp [hi]) (fun i hi=>by simp [hi]) (fun h=>⟨rfl,h⟩)).trans f2 (fun i hi=>by
     grind [eN]) (fun i hi=>by simp [eN,hi]) (fun h=>by
     simp_all [cy])
  rw [show ((i,q)::is).length+n=(is.length+n)+1 by simp;omega]
  have alh:∀(s1:TS E),Fr (kR all o) true st s1->Rel E ws Gs s1 a w G->Mf X R Z all is f (L.setIfInBounds i true) {s1 with t:=cx s1.t o.dst (.val undef)} k=some r ->
    vX X.P all (cG E ws Gs (oq Q)) (Me ws Gs R) Z (is.length+n) (L.setIfInBounds i true) (a.put o.dst undef) w:=by
   intro s1 f0 eU h1;have hr2:=eU.put (v:=undef) (d:=.val undef) (by simp [VT]) o.dst;exact vY hX uA Be is f _ h1 (fun f' st' hk f2=>fC f' st' hk (hfr (.inr rfl) f0 (Fr.put s1 o.dst (.val undef)) f2)) _ w G hr2 hf hp
  cases q<;>simp only [aZ,aK] at h
  ·obtain⟨h1,h⟩:=dQ h
   refine⟨fun he=>(by rw [he] at h1;cases h1),fun j hj=>?_⟩;have hji:j=i:=by simp_all
   subst hji;obtain⟨s1,f0,eU,hc⟩:=Sa h hr;unfold wpOp;simp only [ho];rcases hc with⟨hw,h2⟩|⟨hw,h2⟩
   ·rw [if_pos hw]
    have hop:=N7 hX h2 ws Gs a w G eU;refine .inl (pR (fun a' w' hn=>?_) (fun e a' w' hpp=>?_) hop)
    ·obtain⟨s2,G2,hr2,hk,f1⟩:=hn
     cases hz:Z.elem j<;>rw [hz] at hk<;>simp at hk
     ·obtain⟨aay,hk⟩:=dQ hk
      have hp2:=hr2.pin aay;exact⟨fun _=>hp2,vY hX uA Be is 1 _ hk (fun f' st' hk' f2=>fC f' st' hk' (hfr (.inl rfl) f0 f1 f2)) a' w' G2 hr2 (fun e=>by cases e) (fun _=>hp2)⟩
     ·exact⟨fun e=>(by cases e),vY hX uA Be is 2 _ hk (fun f' st' hk' f2=>fC f' st' hk' (hfr (.inl rfl) f0 f1 f2)) a' w' G2 hr2 (fun e=>by cases e) (fun e=>om)⟩
    ·obtain⟨x,s2,G2,he,hr2,hn,hk,f1⟩:=hpp
     grind
   ·rw [if_neg (by rw [hw];simp)]
    obtain⟨h3,h2⟩:=dQ h2;refine⟨fun hz=>hp ?_,alh s1 f0 eU h2⟩
    simp_all
  ·obtain⟨h1,h⟩:=dQ h
   simp only [cE] at h1;obtain⟨h1,hf1,hbe⟩:=h1;have hp:=hp (lR hf1);obtain⟨B,hZ,hB⟩:=ahs hbe
   have first:∀v,YieldsIf X.P all (Me ws Gs R) o v a->vX X.P all (cG E ws Gs (oq Q)) (Me ws Gs R) Z (is.length+n) (L.setIfInBounds i true) (a.put o.dst v) w ->
     vX X.P all (cG E ws Gs (oq Q)) (Me ws Gs R) Z ((is.length+n)+1) L a w:=fun v hy hh=>
    aax ho (adW uA) (fun c a w hp=>(hQp _ _ _ hp).elim) hZ (fun j hj=>(hB j hj).2) _ _ a w (adX ho h1.1) (fun j hj=>(hB j hj).1) (by simpa using h1.2) hy hp hh
   obtain⟨s1,f0,eU,hc⟩:=Sa h hr;rcases hc with⟨hw,h2⟩|⟨hw,h2⟩
   ·obtain⟨hl,h2⟩:=dQ h2
    obtain⟨v,s2,hrun,hr2,hk,f1⟩:=afz hX hl h2 eU (fun e=>hf (eM e)) hp Be;exact first v (.inl ⟨hw,hrun⟩) (vY hX uA Be is f _ hk (fun f' st' hk' f2=>fC f' st' hk' (hfr (.inr rfl) f0 f1 f2)) _ w G hr2 hf (fun _=>hp))
   ·exact first undef (.inr ⟨hw,rfl⟩) (alh s1 f0 eU h2)
theorem VO{all:aG Oper}{o:Oper}:∀ {l:J Oper},o∈l->∀i,i∈iC o.dst++kR all o->i∈eN all l
 | [],h,_,_=>by cases h
 | o'::l,h,i,hi=>by
  simp [eN];rcases iE.1 h with rfl|h
  ·simp at hi
   rcases hi with hi|hi
   ·exact .inl hi
   ·exact .inr (.inl hi)
  ·exact .inr (.inr (VO h i hi))
theorem Lp{l:J (Nat×Bool)}(h:o∈qd all l):o∈all.toList:=by
 obtain⟨p,_,hp⟩:=List.mem_filterMap.1 h
 grind
theorem Sb{all:aG Oper}:∀ {l:J Oper},(∀o,o∈l->o∈all.toList)->∀i,i∈eN all l->i∈eN all all.toList
 | [],_,i,h=>by cases h
 | o::l,hm,i,h=>by
  simp [eN] at h;rcases h with h|h|h
  ·exact VO (hm o si) i (by simp [h])
  ·exact VO (hm o si) i (by simp [h])
  ·exact Sb (fun o h=>hm o (by simp [h])) i h
theorem TZ{l m:J Oper}(hm:∀o,o∈l->o∈m)(h:cy m=true):cy l=true:=by
 have key:∀(l:J Oper),cy l=true↔∀o,o∈l->(!(Fg o.op))=true:=by
  intro l
  induction l with
  | nil=>simp [cy]
  | cons o l ih=>simp_all [cy]
 simp_all
theorem nS.mono{R:J Nat}{n:Nat}{Q Q':TS E->Prop}(hq:∀s,Q s->Q' s)(h:nS ws Gs R Z P ops f n L st Q):nS ws Gs R Z P ops f n L st Q':=by
 intro a w G hr hf hp
 have key:∀(fuel:Nat)(listed:aG Bool)(a:Act)(w:U){Q1 Q2:Exit->Act->U->Prop}{S:U->Prop},(∀e a w,Q1 e a w->Q2 e a w)->vX P ops Q1 S Z fuel listed a w->vX P ops Q2 S Z fuel listed a w:=by
  intro fuel
  induction fuel with
  | zero=>intro listed a w Q1 Q2 S hq h;exact⟨h.1,hq _ _ _ h.2⟩
  | succ fuel ih=>
   intro listed a w Q1 Q2 S hq h;refine⟨fun he=>hq _ _ _ (h.1 he),fun i hi=>?_⟩;have h1:=h.2 i hi;unfold wpOp at h1⊢;split
   ·grind
   ·rename_i o ho
    rw [ho] at h1;simp only at h1;split
    ·rename_i hw
     rw [if_pos hw] at h1;rcases h1 with h1|⟨h1,a1,w1,h2⟩
     ·exact .inl (pR (fun a w h=>⟨h.1,ih _ a w hq h.2⟩) hq h1)
     ·exact .inr ⟨h1,a1,w1,hq _ _ _ h2⟩
    grind
 exact key _ _ _ _ (fun e a w hp=>cG.mono (fun x s hh=>⟨hh.1,hq _ hh.2⟩) hp) (h a w G hr hf hp)
theorem Jm{R':Type}(hX:X.Ok){R Z:J Nat}{all:aG Oper}(uA:Region.noSelect all=true){ws:U}{Gs:bq}(Be:∀q,q∈R->q<Gs.i.length){n:Nat}{k:TS E->O R'}{r:R'}:
  ∀(ss:J yq)(f:Nat)(L:aG Bool){st:TS E},PU X R Z all ss f L st k=some r->nS ws Gs R Z X.P all f (yq.n ss+n) L st (fun st'=>k st'=some r/\Fr (eN all all.toList) (cy all.toList) st st')
 | [],f,L,st,h=>by
  grind [PU,dQ,nS.done,Fr.refl]
 | s::ss,f,L,st,h=>by
  have hW:∀j,j∈eN all (qd all s.l)->j∈eN all all.toList:=Sb (fun o ho=>Lp ho);have hN:cy all.toList=true->cy (qd all s.l)=true:=TZ (fun o ho=>Lp ho);simp [PU] at h;rw [show yq.n (s::ss)+n=s.l.length+(yq.n ss+n) by simp [yq.n];omega];split at h
  ·refine vY hX uA Be s.l f L h fun f' st' hk hf=>?_
   exact nS.mono (fun s' hh=>⟨hh.1,hf.trans hh.2 hW (fun j hj=>hj) (fun hn=>⟨hN hn,hn⟩)⟩) (Jm hX uA Be ss f' _ hk)
  ·rename_i c hc
   obtain⟨h1,h2⟩:=dQ h;rw [cE] at h1
   cases hs:Mf X R Z all s.l f L st (fun _ st'=>c.pack st st') with
   | none=>rw [hs] at h2;cases h2
   | some x=>
    rw [hs] at h2;obtain⟨h3,h2⟩:=dQ h2;intro a w G hr;have hpre:=hr.pre;refine vY hX uA Be s.l f L hs (fun f' st' hk hf=>?_) a w G hr;intro a' w' G' hr' _ _;obtain⟨⟨G2,hR⟩,hF⟩:=zJ hX.E hpre hr' (hf.wide (fun _ h=>h) (fun _=>hN h1.2)) h1.1 hk;exact nS.mono (fun s' hh=>⟨hh.1,hF.trans hh.2 hW (fun j hj=>hj) (fun hn=>⟨rfl,hn⟩)⟩) (Jm hX uA Be ss 1 _ h2) a' w' G2 hR (fun e=>by cases e) (fun _=>hR.pin h3)
noncomputable def fF{R':Type}(X:Cx E)(R Z:J Nat)(ops:aG Oper)(ss:J yq)(st:TS E)(k:TS E->O R'):O R':=
 rq ((Region.noSelect ops&&Nat.ble (yq.n ss) ops.size)&&R.all (fun q=>Nat.blt q st.H.length)) (PU X R Z ops ss 0 (Array.replicate ops.size false) {st with d:=[]} (fun st'=>k {st' with d:=st'.d++st.d}))
theorem acD(hX:X.Ok){R:J Nat}{ss:J yq}{k:TS E->O R'}{r:R'}(h:fF X R Z ops ss st k=some r):
  HZ E X.P (.region id ops true) st (fun x st'=>x=.normal/\k st'=some r/\Fr (eN ops ops.toList) (cy ops.toList) st st'):=by
 intro w0 G0 a w G hr;have hs:eY w {w with drawn:=w.drawn+1}:=⟨ek _,fun _ _=>rfl⟩;have hr':=hr.grow hs rfl rfl rfl G.pr (fun _ _ h=>h) (fun _ _ _ h=>h) (fun b o hp=>jN (hr.boxes.gq b o hp).1 hs.1);obtain⟨h1,h2⟩:=dQ h;simp only [cE] at h1;obtain⟨⟨uA,hn⟩,hR⟩:=h1;have hn:=lR hn
 have Be:∀q,q∈R->q<G.i.length:=fun q hq=>by
  have:=CA.1 (p4.1 hR q hq);rw [hr.boxes.len];exact this
 have hroot:=hr'.root;have h3:=Jm hX uA Be (n:=ops.size-yq.n ss) ss 0 _ h2 a _ G hroot (fun _=>⟨rfl,rfl⟩) (fun _=>⟨fun _ _ _ _=>rfl,fun _ _ _ _ h=>h⟩);rw [show yq.n ss+(ops.size-yq.n ss)=ops.size by omega] at h3;refine wp_region_any hX.mix ?_;have h4:=Lo _ _ _ _ h3
 have key:∀(fuel:Nat)(listed:aG Bool)(a:Act)(w:U){Q1 Q2:Exit->Act->U->Prop},(∀e a w,Q1 e a w->Q2 e a w)->wpAny X.P .any ops Q1 fuel listed a w->wpAny X.P .any ops Q2 fuel listed a w:=by
  intro fuel
  induction fuel with
  | zero=>intro listed a w Q1 Q2 hq h;exact⟨h.1,hq _ _ _ h.2⟩
  | succ fuel ih=>
   intro listed a w Q1 Q2 hq h;refine⟨fun he=>hq _ _ _ (h.1 he),fun i hi=>?_⟩;have h1:=h.2 i hi;unfold wpOp at h1⊢;split
   ·grind
   ·rename_i o ho
    rw [ho] at h1;simp only at h1;split
    ·rename_i hw
     rw [if_pos hw] at h1;rcases h1 with h1|⟨h1,a1,w1,h2⟩
     ·grind [pR]
     ·exact .inr ⟨h1,a1,w1,hq _ _ _ h2⟩
    grind
 refine key _ _ _ _ (fun e a' w' hp=>?_) h4;obtain⟨x,s,G',he,hrr,rfl,hk,hF⟩:=hp;exact⟨.normal,_,G',he,hr'.Oe hrr,rfl,hk,hF.Oe⟩
inductive FT where
 | done
 | step (i:Nat) (q:Bool) (t:FT)
 | fork (i:Nat) (t:FT) (j:Nat) (u:FT)
def FT.n:FT->Nat
 | .done=>0
 | .step _ _ t=>t.n+1
 | .fork _ t _ u=>Nat.max t.n u.n+1
noncomputable def YZ{R':Type}(X:Cx E)(R:J Nat)(all:aG Oper)(i f:Nat)(st:TS E)(k:Nat->TS E->O R'):O R':=match all[i]? with
 | none=>none
 | some o=>gdT all o st
   (fun st=>Xe X st o (jx (fun st'=>rq (pinned R st') (k 1 st')) fun _ _=>none))
   (fun st=>rq (Nat.ble f 1) (k f {st with t:=cx st.t o.dst (.val undef)}))
noncomputable def goF{R':Type}(X:Cx E)(R:J Nat)(all:aG Oper):FT->Nat->aG Bool->TS E->(TS E->O R')->O R'
 | .done,_,L,st,k=>rq (Region.ready .any all L).isEmpty (k st)
 | .step i q t,f,L,st,k=>Mf X R [] all [(i,q)] f L st (fun f' st'=>goF X R all t f' (L.setIfInBounds i true) st' k)
 | .fork i t j u,f,L,st,k=>rq (Region.ready .any all L==[i,j]) (agree
   (YZ X R all i f st (fun f' st'=>goF X R all t f' (L.setIfInBounds i true) st' k))
   (YZ X R all j f st (fun f' st'=>goF X R all u f' (L.setIfInBounds j true) st' k)))
theorem ajw(h:all[i]? = some o){q:Bool}:qd all [(i,q)]=[o]:=by simp [qd,h]
theorem QZ(hX:X.Ok){R:J Nat}{Q:TS E->Prop}{n:Nat}{k:Nat->TS E->O R'}{r:R'}(h:YZ X R all i f st k=some r)
  (fC:∀f' st',k f' st'=some r->Fr (eN all (qd all [(i,false)])) (cy (qd all [(i,false)])) st st'->nS ws Gs R [] X.P all f' n (L.setIfInBounds i true) st' Q)    (hr:Rel E ws Gs st a w G) (hf:f=0->w.heap=ws.heap/\G=Gs) (hp:f<=1->Me ws Gs R w) :
  wpOp X.P all (cG E ws Gs (oq Q)) i (fun a' w'=>(([]:J Nat).elem i=false->Me ws Gs R w')/\vX X.P all (cG E ws Gs (oq Q)) (Me ws Gs R) [] n (L.setIfInBounds i true) a' w') a w:=by
 unfold YZ at h;split at h<;>try trivial
 rename_i o ho
 have hfr:∀ {s1 s2:TS E}{nd:Bool},(nd=!(Fg o.op)\/nd=true)->Fr (kR all o) true st s1->Fr (iC o.dst) nd s1 s2->Fr (eN all (qd all [(i,false)])) (cy (qd all [(i,false)])) st s2:=by
  intro s1 s2 nd hnd f0 f1;rw [ajw ho]
  exact f0.trans f1 (fun i hi=>by simp [eN,hi]) (fun i hi=>by simp [eN,hi]) (fun h=>by
    simp_all [cy])
 obtain⟨s1,f0,eU,hc⟩:=Sa h hr;unfold wpOp;simp only [ho];rcases hc with⟨hw,h2⟩|⟨hw,h2⟩
 ·rw [if_pos hw]
  have hop:=N7 hX h2 ws Gs a w G eU;refine .inl (pR (fun a' w' hn=>?_) (fun e a' w' hpp=>?_) hop)
  ·obtain⟨s2,G2,hr2,hk,f1⟩:=hn
   obtain⟨aay,hk⟩:=dQ hk;have hp2:=hr2.pin aay;exact⟨fun _=>hp2,fC 1 _ hk (hfr (.inl rfl) f0 f1) a' w' G2 hr2 (fun e=>by cases e) (fun _=>hp2)⟩
  ·obtain⟨x,s2,G2,he,hr2,hn,hk,f1⟩:=hpp
   grind
 ·rw [if_neg (by rw [hw];simp)]
  obtain⟨h3,h2⟩:=dQ h2;have hp2:=hp (lR h3);exact⟨fun _=>hp2,fC f _ h2 (hfr (.inr rfl) f0 (Fr.put s1 o.dst (.val undef))) _ w G (eU.put (by simp [VT]) o.dst) hf hp⟩
theorem aht(hX:X.Ok){R:J Nat}(uA:Region.noSelect all=true)(Be:∀q,q∈R->q<Gs.i.length){k:TS E->O R'}{r:R'}:
  ∀(t:FT)(n f:Nat)(L:aG Bool){st:TS E},t.n<=n->goF X R all t f L st k=some r->nS ws Gs R [] X.P all f n L st (fun st'=>k st'=some r/\Fr (eN all all.toList) (cy all.toList) st st'):=by
 have hW:∀l,∀j,j∈eN all (qd all l)->j∈eN all all.toList:=fun l=>Sb (fun o ho=>Lp ho);have hN:∀l,cy all.toList=true->cy (qd all l)=true:=fun l=>TZ (fun o ho=>Lp ho);intro t
 induction t with
 | done=>
  grind [goF,dQ,nS.done,Fr.refl]
 | step i q t ih=>
  intro n f L st hn h;simp [FT.n] at hn;obtain⟨m,rfl⟩:∃m,n=[(i,q)].length+m:=⟨n-1,bz⟩;refine vY hX uA Be [(i,q)] f L h fun f' st' hk hf=>?_
  exact nS.mono (fun s' hh=>⟨hh.1,hf.trans hh.2 (hW _) (fun j hj=>hj) (fun hn=>⟨hN _ hn,hn⟩)⟩) (ih m f' _ (by simp at hn;omega) hk)
 | fork i t j u iht ihu=>
  intro n f L st hn h;simp [FT.n] at hn;obtain⟨h1,h2⟩:=dQ h;obtain⟨ha,hb⟩:=Bb h2;obtain⟨m,rfl⟩:∃m,n=m+1:=⟨n-1,om⟩;have hmt:=oD (Nat.le_max_left t.n u.n) (Nat.le_of_succ_le_succ hn);have hmu:=oD (Nat.le_max_right t.n u.n) (Nat.le_of_succ_le_succ hn);intro a w G hr hf hp;refine⟨fun he=>(by rw [he] at h1;cases h1),fun q hq=>?_⟩;have Zf:q=i\/q=j:=by simp_all
  rcases Zf with rfl|rfl
  ·exact QZ hX ha (fun f' st' hk hf=>nS.mono (fun s' hh=>⟨hh.1,hf.trans hh.2 (hW _) (fun j hj=>hj) (fun hn=>⟨hN _ hn,hn⟩)⟩) (iht m f' _ hmt hk)) hr hf hp
  ·exact QZ hX hb (fun f' st' hk hf=>nS.mono (fun s' hh=>⟨hh.1,hf.trans hh.2 (hW _) (fun j hj=>hj) (fun hn=>⟨hN _ hn,hn⟩)⟩) (ihu m f' _ hmu hk)) hr hf hp
noncomputable def PV{R':Type}(X:Cx E)(R:J Nat)(ops:aG Oper)(c:Cut)(t:FT)(st:TS E)(k:TS E->O R'):O R':=
 rq (((Region.noSelect ops&&Nat.ble t.n ops.size)&&R.all (fun q=>Nat.blt q st.H.length))&&(c.okW (eN ops ops.toList)&&cy ops.toList))
  ((goF X R ops t 0 (Array.replicate ops.size false) {st with d:=[]} (fun st'=>c.pack {st with d:=[]} st')).bind fun x=>
    k {c.un (eN ops ops.toList) {st with d:=[]} x with d:=(c.un (eN ops ops.toList) {st with d:=[]} x).d++st.d})
theorem acE(hX:X.Ok){R:J Nat}{t:FT}{k:TS E->O R'}{r:R'}(h:PV X R ops c t st k=some r):
  HZ E X.P (.region id ops true) st (fun x st'=>x=.normal/\k st'=some r/\Fr (eN ops ops.toList) (cy ops.toList) st st'):=by
 intro w0 G0 a w G hr;have hs:eY w {w with drawn:=w.drawn+1}:=⟨ek _,fun _ _=>rfl⟩;have hr':=hr.grow hs rfl rfl rfl G.pr (fun _ _ h=>h) (fun _ _ _ h=>h) (fun b o hp=>jN (hr.boxes.gq b o hp).1 hs.1);obtain⟨h1,h2⟩:=dQ h;simp only [cE] at h1;obtain⟨⟨⟨uA,hn⟩,hR⟩,hcW,hnd⟩:=h1;have hn:=lR hn
 have Be:∀q,q∈R->q<G.i.length:=fun q hq=>by
  have:=CA.1 (p4.1 hR q hq);rw [hr.boxes.len];exact this
 have hroot:=hr'.root
 cases hg:goF X R ops t 0 (Array.replicate ops.size false) {st with d:=[]} (fun st'=>c.pack {st with d:=[]} st') with
 | none=>rw [hg] at h2;cases h2
 | some x=>
 rw [hg] at h2;have h3:=aht hX uA Be t ops.size 0 _ hn hg a _ G hroot (fun _=>⟨rfl,rfl⟩) (fun _=>⟨fun _ _ _ _=>rfl,fun _ _ _ _ h=>h⟩);refine wp_region_any hX.mix ?_;have h4:=Lo _ _ _ _ h3
 have key:∀(fuel:Nat)(listed:aG Bool)(a:Act)(w:U){Q1 Q2:Exit->Act->U->Prop},(∀e a w,Q1 e a w->Q2 e a w)->wpAny X.P .any ops Q1 fuel listed a w->wpAny X.P .any ops Q2 fuel listed a w:=by
  intro fuel
  induction fuel with
  | zero=>intro listed a w Q1 Q2 hq h;exact⟨h.1,hq _ _ _ h.2⟩
  | succ fuel ih=>
   intro listed a w Q1 Q2 hq h;refine⟨fun he=>hq _ _ _ (h.1 he),fun i hi=>?_⟩;have h1:=h.2 i hi;unfold wpOp at h1⊢;split
   ·grind
   ·rename_i o ho
    rw [ho] at h1;simp only at h1;split
    ·rename_i hw
     rw [if_pos hw] at h1;rcases h1 with h1|⟨h1,a1,w1,h2⟩
     ·grind [pR]
     ·exact .inr ⟨h1,a1,w1,hq _ _ _ h2⟩
    grind
 refine key _ _ _ _ (fun e a' w' hp=>?_) h4;obtain⟨x',s,G',he,hrr,rfl,hk,hF⟩:=hp;obtain⟨⟨G2,hR2⟩,rU⟩:=zJ hX.E hroot.pre hrr (hF.wide (fun _ h=>h) (fun _=>hnd)) hcW hk;refine⟨.normal,_,G2,by cases e<;>first|exact he.elim|trivial,hr'.Oe hR2,rfl,h2,?_⟩;exact (rU.wide (fun _ h=>h) (fun _=>rfl)).Oe
def vb(st:TS E)(dst:O Nat)(d:TV E):TS E:={st with t:=cx st.t dst d}
structure Bf where
 m1:Oper
 cv:Oper
 as:Oper
 m2:Oper
 cl:Oper
 q1:Oper
 q3:Oper
 q4:Oper
 x1:Operand
 sT:TypeId
 bT:TypeId
 f:FuncId
 call:Call
 x5:Operand
 rest:List Oper
def Sc(A B C:J Oper):O Bf:=match A,B,C with
 | [m1,cv,as],[m2,cl],q1::q3::q4::rest=>match m1.op,cv.op,cl.op with
  | .move x1,.convert sT bT _,.call c=>match c.callee,q1.op with
   | .value (.func f),.move x5=>some ⟨m1,cv,as,m2,cl,q1,q3,q4,x1,sT,bT,f,c,x5,rest⟩
   | _,_=>none
  | _,_,_=>none
 | _,_,_=>none
def PW(x:dy)(d:O Nat)(n:Nat):Bool:=match x,d with
 | .tmp i,some j=>Nat.beq i j&&Nat.blt i n
 | _,_=>false
variable{d:O Nat}{x:dy}
theorem CB{n:Nat}(h:PW x d n=true):∃i,x=.tmp i/\d=some i/\i<n:=by
 unfold PW at h
 grind [Nat.eq_of_beq_eq_true,CA]
def Og(d e:O Nat):Bool:=match d,e with
 | some i,some j=>!(Nat.beq i j)
 | _,_=>true
def opAs(o:Oper)(d:O Nat)(n:Nat):Bool:=match o.op with
 | .assign x=>PW x d n
 | _=>false
def afA(o:Oper)(d:O Nat)(n:Nat):Bool:=match o.op with
 | .move x=>PW x d n
 | _=>false
def afB(o:Oper)(s t:aI)(d:O Nat)(n:Nat):Bool:=match o.op with
 | .convert s' t' x=>Nat.beq s' s&&(Nat.beq t' t&&PW x d n)
 | _=>false
def Mg(o:Oper):Bool:=match o.guard with
 | none=>true
 | some _=>false
def Bf.tys(P:bh)(s:Bf):Bool:=match aU P s.sT,aU P s.bT with
 | some ⟨.string,_,_,_⟩,some ⟨.slice e,_,_,_⟩=>match aU P e with
  | some ⟨.int .u8,_,_,_⟩=>true
  | _=>false
 | _,_=>false
def Bf.ok(X:Cx E)(n:Nat)(s:Bf):Bool:=
 ((Mg s.m1&&(Mg s.cv&&(Mg s.as&&(Mg s.m2&&Mg s.cl))))&&(Mg s.q1&&(Mg s.q3&&Mg s.q4))) &&
 ((afB s.cv s.sT s.bT s.m1.dst n&&(opAs s.as s.cv.dst n&&afA s.m2 s.as.dst n))&&(afA s.q3 s.as.dst n&&afB s.q4 s.bT s.sT s.q3.dst n)) &&
 ((match s.call.args.toList with | [x]=>PW x s.m2.dst n|_=>false)&&(Og s.as.dst s.m2.dst&&(Og s.as.dst s.cl.dst&&Og s.as.dst s.q1.dst))) &&
 (s.tys X.P&&(match X.rv with|some g=>Nat.beq g s.f|none=>false))
def Bf.s5(s:Bf)(st:TS E)(l:J UInt8):TS E:=vb (vb (vb (vb (vb st s.m1.dst (.dat .str l)) s.cv.dst .any) s.as.dst .any) s.m2.dst .any) s.cl.dst .any
def Bf.s6(s:Bf)(st:TS E)(l:J UInt8):TS E:=vb (s.s5 st l) s.q1.dst ((s.s5 st l).ev s.x5)
def Bf.s9(s:Bf)(st:TS E)(l:J UInt8):TS E:=vb (vb (s.s6 st l) s.q3.dst .any) s.q4.dst (.dat .str l.reverse)
noncomputable def ajx{R:Type}(X:Cx E)(A B C:aG Oper)(st:TS E)(k:Ex E->TS E->O R):O R:=match Sc A.toList B.toList C.toList with
 | none=>none
 | some s=>match st.ev s.x1 with
  | .dat .str l=>cond (s.ok X st.t.length&&(cy A.toList&&(cy B.toList&&cy C.toList))) (rq (decide (l.length<=9223372036854775807)) (tW X C s.rest (s.s9 st l) k)) none
  | _=>none
variable{rest:J Oper}
theorem tX(hg:Mg o=true)(h:(execOp a.eval o).run P w=.ok (.value v) w')(hk:wpList P ops Q rest (a.put o.dst v) w'):wpList P ops Q (o::rest) a w:=by
 unfold wpList;have:o.guard=none:=by grind [Mg]
 rw [if_pos (by simp [Region.wanted,this])];refine .inl ?_;unfold Oper.wp;rw [h];exact hk
theorem acF{f:FuncId}{args:aG Value}(hg:Mg o=true)(h:(execOp a.eval o).run P w=.ok (.enter f args) w)(hk:Calls P f args w fun e w'=>∃v,e=.returned v/\wpList P ops Q rest (a.put o.dst v) w'):wpList P ops Q (o::rest) a w:=by
 unfold wpList;have:o.guard=none:=by grind [Mg]
 rw [if_pos (by simp [Region.wanted,this])];refine .inl ?_;unfold Oper.wp;rw [h];refine Ge hk fun e w'' he=>?_
 grind
theorem T3(ho:o.op=.move x):(execOp a.eval o).run P w=.ok (.value (a.eval x)) w:=by simp [execOp,ho]
theorem aod(ho:o.op=.assign x):(execOp a.eval o).run P w=.ok (.value (a.eval x)) w:=by simp [execOp,ho]
theorem eval_put(hd:d=some i)(hi:i<a.tmps.size):(a.put d v).eval (.tmp i)=v:=by
 have:=Cr a d v i;rw [if_pos ⟨hd,hi⟩] at this;exact this
theorem T4(hd:d≠some i):(a.put d v).eval (.tmp i)=a.eval (.tmp i):=by
 have:=Cr a d v i;rw [if_neg (fun h=>hd h.1)] at this;exact this
theorem Oh{e:O Nat}(h:Og (some i) e=true):e≠some i:=by
 intro he
 simp_all [Og]
theorem Q0(w:U)(e:aI)(l:J UInt8):Sort.Holds (Value.int .u8) (Lib.bytesWorld w e ⟨⟨l⟩⟩) w.heap.size 0 (cU l).toArray:=by
 intro j hj;have hj':j<l.length:=by simpa [cU] using hj
 have e1:(cU l).toArray[j]! = ((l.getD j 0).toNat:Int):=by simp_all [cU]
 rw [qC,e1];refine⟨Lib.bytesWorld_cell w e ⟨⟨l⟩⟩ j hj',?_⟩;unfold World.frozen?
 have hsz:j<(Lib.bytesCells w e ⟨⟨l⟩⟩).size:=by
  unfold Lib.bytesCells
  grind
 grind [Lib.bytesWorld_at_new]
variable{B A C:J Oper}{s:Bf}
theorem afC(hX:X.Ok)(hs:Sc A B C=some s){l:J UInt8}(hx:st.ev s.x1=.dat .str l)(hok:s.ok X st.t.length=true)(hl:l.length<=9223372036854775807)
     (hr:Rel E w0 G0 st a w G) :
  ∃a3 w1,(∀ops Q,Q .normal a3 w1->wpList X.P ops Q A a w)/\∃W2:Act->U->Prop,(∀ops Q,(∀a5 w2,W2 a5 w2->Q .normal a5 w2)->wpList X.P ops Q B a3 w1) /\
   ∀a5 w2,W2 a5 w2->∃a9,(∃G',Rel E w0 G0 (s.s9 st l) a9 w2 G')/\∀ops Q,wpList X.P ops Q s.rest a9 w2->wpList X.P ops Q C a5 w2:=by
 have hsz:=hr.size;unfold Sc at hs;split at hs<;>try trivial
 rename_i m1 cv as m2 cl q1 q3 q4 rest;split at hs<;>try trivial
 rename_i x1 sT bT xc c WD Gx hcl;split at hs<;>try trivial
 rename_i f x5 ajy hq1;cases hs;simp only [Bf.ok,cE] at hok;obtain⟨⟨⟨⟨⟨g1,g2,g3,g4,g5⟩,g6,g8,g9⟩,⟨k1,k2,k3⟩,k4,k5⟩,k6,n1,n2,n3⟩,hty,hrv⟩:=hok;dsimp only at hx;unfold afB at k1;rw [Gx] at k1;simp only [cE] at k1;obtain⟨y1,rfl,d1,l1⟩:=CB k1.2.2;unfold opAs at k2;split at k2<;>try trivial
 rename_i xa has;obtain⟨y2,rfl,d2,l2⟩:=CB k2;unfold afA at k3;split at k3<;>try trivial
 rename_i xm hm2;obtain⟨y3,rfl,d3,l3⟩:=CB k3;unfold afA at k4;split at k4<;>try trivial
 rename_i xq hq3;obtain⟨y3',rfl,d3',l3'⟩:=CB k4;have:y3'=y3:=by simp_all
 subst this;unfold afB at k5;split at k5<;>try trivial
 rename_i bT' sT' xz hq4;simp only [cE] at k5;have e1:=eM k5.1;have e2:=eM k5.2.1;subst e1 e2;obtain⟨y8,rfl,d8,l8⟩:=CB k5.2.2;split at k6<;>try trivial
 rename_i xk hargs;obtain⟨y4,rfl,d4,l4⟩:=CB k6;rw [d3] at n1 n2 n3;have n1:=Oh n1;have n2:=Oh n2;have n3:=Oh n3;unfold Bf.tys at hty;split at hty<;>try trivial
 rename_i i1 i2 z1 e i3 i4 z2 hts htb;split at hty<;>try trivial
 rename_i i5 i6 z3 hte;obtain⟨_,_,QU,-⟩:=aM hts;obtain⟨_,_,hub,-⟩:=aM htb;obtain⟨_,_,AL,-⟩:=aM hte;split at hrv<;>try trivial
 rename_i g hg;have hf:=eM hrv;subst hf;have hR:=hX.rv g hg;have ve:=hr.ev x1;rw [hx] at ve;have aq5:=ve.hU;obtain⟨V,hV⟩:∃V:Value,V=.slice (some ⟨w.heap.size,0,none⟩) l.length (grownCap w l.length 0 e):=⟨_,rfl⟩;obtain⟨w1,hw1⟩:∃w1,w1=Lib.bytesWorld w e ⟨⟨l⟩⟩:=⟨_,rfl⟩;have r1:=hr.put (v:=a.eval x1) (d:=.dat .str l) (by simp_all) m1.dst;have r2:=r1.put (v:=V) (d:=.any) (by simp only [VT]) cv.dst;have r3:=r2.put (v:=V) (d:=.any) (by simp only [VT]) as.dst;have r4:=r3.put (v:=V) (d:=.any) (by simp only [VT]) m2.dst;have r5:=r4.put (v:=.tuple #[]) (d:=.any) (by simp only [VT]) cl.dst;have sz:∀(b:Act)(d:O Nat)(v:Value),(b.put d v).tmps.size=b.tmps.size:=K4;refine⟨((a.put m1.dst (a.eval x1)).put cv.dst V).put as.dst V,w1,fun ops Q hQ=>?_,fun a5 w2=>a5=((((a.put m1.dst (a.eval x1)).put cv.dst V).put as.dst V).put m2.dst V).put cl.dst (.tuple #[])/\∃n,w2=Sort.putRow (Value.int .u8) (Sort.ahead w1 n) w.heap.size 0 (cU l).reverse.toArray,fun ops Q hQ=>?_,?_⟩
 ·refine tX g1 (T3 WD) (tX (v:=V) (w':=w1) g2 ?_ (tX (v:=V) (w':=w1) g3 ?_ hQ))
  ·have hrun:(convert sT' bT' ((a.put m1.dst (a.eval x1)).eval (.tmp y1))).run X.P w=.ok V w1:=by
    rw [eval_put d1 (by rw [hsz];exact l1),aq5,hV,hw1];exact Lib.run_convert_string_bytes w sT' bT' e ⟨⟨l⟩⟩ QU hub AL
   simp only [execOp,Gx,jf,hrun,jG,pe]
  simp_all [aod,eval_put]
 ·refine tX (v:=V) (w':=w1) g4 ?_ (acF (f:=g) (args:=#[V]) g5 ?_ ?_)
  ·simp_all [T3,eval_put]
  ·have Mc:=r4.ev (.func g)
   obtain⟨vs,hfe,hvs⟩:=Mc;have hvs:vs.toList=[]:=by simp_all [bI]
   have hvs:vs=#[]:=by simp_all
   subst hvs;have ha:c.args=#[.tmp y4]:=by grind
   have aq6:((((a.put m1.dst (a.eval x1)).put cv.dst V).put as.dst V).put m2.dst V).eval (.tmp y4)=V:=eval_put d4 (by simp_all)
   have:(execOp ((((a.put m1.dst (a.eval x1)).put cv.dst V).put as.dst V).put m2.dst V).eval cl).run X.P w1=(callFunc g #[V]).run X.P w1:=by
    simp only [execOp,hcl,resolve,ajy,hfe,Deferred.ofValue,jf,pe,jG,invoke,ha];simp [aq6]
   rw [this,hR.enters]
  ·have hlen:(cU l).length=l.length:=by simp [cU]
   have hH:Sort.Holds (Value.int .u8) w1 w.heap.size 0 (cU l).toArray:=by simp_all [Q0]
   have hc:=hR.call w.heap.size (grownCap w l.length 0 e) (cU l) w1 hH (by rw [hlen];exact hl);rw [hlen,<-hV] at hc;refine hc.mono fun e' w' he=>?_;obtain⟨rfl,n,hn⟩:=he;exact⟨_,rfl,hQ _ _ ⟨rfl,n,hn⟩⟩
 ·rintro a5 w2 ⟨rfl,n,AA⟩
  have e3:(((a.put m1.dst (a.eval x1)).put cv.dst V).put as.dst V).eval (.tmp y3')=V:=eval_put d3 (by simp_all);have e5:(((((a.put m1.dst (a.eval x1)).put cv.dst V).put as.dst V).put m2.dst V).put cl.dst (.tuple #[])).eval (.tmp y3')=V:=by simp_all [T4]
  have s5:(((((a.put m1.dst (a.eval x1)).put cv.dst V).put as.dst V).put m2.dst V).put cl.dst (.tuple #[])).tmps.size=a.tmps.size:=by rw [sz,sz,sz,sz,sz]
  generalize (((((a.put m1.dst (a.eval x1)).put cv.dst V).put as.dst V).put m2.dst V).put cl.dst (.tuple #[]))=a5 at r5 e5 s5⊢;have r6:=r5.put (r5.ev x5) q1.dst;have r8:=r6.put (v:=V) (d:=.any) (by simp only [VT]) q3.dst;have r9:=r8.put (v:=mkStr l.reverse) (d:=.dat .str l.reverse) (.str _ _ _) q4.dst;have e7:(a5.put q1.dst (a5.eval x5)).eval (.tmp y3')=V:=by simp_all [T4]
  have hold:∀j,j<w.heap.size->w2.heap[j]? = w.heap[j]?:=fun j hj=>by
   rw [AA]
   have h1:(Sort.putRow (Value.int .u8) (Sort.ahead w1 n) w.heap.size 0 (cU l).reverse.toArray).heap[j]? = w1.heap[j]?:=by
    simp only [Sort.putRow,Sort.mapBlock,Sort.ahead,Array.getElem?_modify];rw [if_neg om]
   simp_all [Lib.bytesWorld_at_old]
  have hsize:w.heap.size<=w2.heap.size:=by
   grind
  refine⟨_,⟨_,r9.grow (w':=w2) ⟨hsize,hold⟩ (by rw [AA,hw1];rfl) (by rw [AA,hw1];rfl) (by rw [AA,hw1];rfl) G.pr (fun _ _ h=>h) (fun _ _ _ h=>h) (fun b o hp=>jN (r9.boxes.gq b o hp).1 hsize)⟩,fun ops Q hQ=>?_⟩;refine tX g6 (T3 hq1) (tX (v:=V) (w':=w2) g8 ?_ (tX (v:=mkStr l.reverse) (w':=w2) g9 ?_ hQ))
  ·rw [T3 hq3,e7]
  ·have e8:((a5.put q1.dst (a5.eval x5)).put q3.dst V).eval (.tmp y8)=V:=eval_put d8 (by simp_all)
   have hH:=Sort.holds_putRow (Value.int .u8) (Sort.ahead w1 n) w.heap.size 0 (cU l).toArray (cU l).reverse.toArray (by
    have:=Q0 w e l;rw [<-hw1] at this;intro j hj;exact this j hj) si
   rw [<-AA] at hH;have hlen:(cU l).reverse.length=l.length:=by simp [cU]
   have hcell:∀(j:Nat) m,(cU l).reverse[j]? = some m->w2.cell? ((⟨w.heap.size,0,none⟩:Addr).add j)=some (.int .u8 m):=fun j m hj=>by
    have hjl:j<(cU l).reverse.length:=(eV.1 hj).1;have:=(hH j (by simpa using hjl)).1
    simp_all [add_lit,cU,eV]
   have hb:=Gv (P:=X.P) (w:=w2) ⟨w.heap.size,0,none⟩ (grownCap w l.length 0 e) (cU l).reverse hcell;rw [hlen,<-hV] at hb
   have TE:cu (cU l).reverse=l.reverse:=by
    simp_all [cu,cU,List.map_reverse,Ah,U1,adY]
   rw [TE] at hb
   have hrun:(convert bT' sT' V).run X.P w2=.ok (mkStr l.reverse) w2:=by
    rw [hV] at hb⊢;unfold convert;simp only [jf,aQ QU,aQ hub,jG,aQ AL,hb]
   simp only [execOp,hq4,e8,jf,hrun,jG,pe]
variable{dst:O Nat}
theorem Fr.vb{s1:TS E}(h:Fr W true st s1)(d:TV E)(hd:∀i,i∈iC dst->i∈W):Fr W true st (vb s1 dst d):=
 h.trans (Fr.put s1 dst d) (fun _ h=>h) hd (fun _=>⟨rfl,rfl⟩)
theorem aoe(hs:Sc A B C=some s)(st:TS E)(l:J UInt8)(hW:∀o,o∈A++B++C->∀i,i∈iC o.dst->i∈W):Fr W true st (s.s9 st l):=by
 unfold Sc at hs;split at hs<;>try trivial
 split at hs<;>try trivial
 split at hs<;>try trivial
 cases hs;refine Fr.vb (Fr.vb (Fr.vb (Fr.vb (Fr.vb (Fr.vb (Fr.vb (Fr.vb (Fr.refl _ _ _) _ ?_) _ ?_) _ ?_) _ ?_) _ ?_) _ ?_) _ ?_) _ ?_
 all_goals simp_all
theorem ajz(hs:Sc A B C=some s):∃l,C=l++s.rest:=by
 unfold Sc at hs;split at hs<;>try trivial
 rename_i m1 cv as m2 cl q1 q3 q4 rest;split at hs<;>try trivial
 split at hs<;>try trivial
 cases hs;exact⟨[q1,q3,q4],rfl⟩
def jj{σ R:Type}(x:O (σ ⊕ R))(k:σ->O R):O R:=x.bind (sm k some)
def b8{σ R:Type}(body:(σ->O R)->σ->O R):Nat->σ->O R
 | 0,_=>none
 | n+1,s=>body (b8 body n) s
inductive Own where
 | slot (i:Nat) (e:TypeId) (t:Ty)
 | cell (r c:Nat) (e:TypeId) (t:Ty)
 | soft (i:Nat) (e:TypeId) (t:Ty)
 | T5 (r c:Nat) (e:TypeId) (t:Ty)
def sQ(W:J Nat):J Own->TS E->O (TS E)
 | [],st=>some st
 | .slot i e T::os,st=>match st.t[i]? with
  | some (.val (.slice none 0 0))=>cond (W.elem i) (sQ W os {st with t:=st.t.set i (.cA st.g.length 0 T []),g:=st.g++[⟨0,e,T.size E⟩]}) none
  | _=>none
 | .cell r c e T::os,st=>match st.H[r]? with
  | some (.cells t cs)=>match cs[c]? with
   | some (.val (.slice none 0 0))=>sQ W os {st with H:=st.H.set r (.cells t (cs.set c (.cA st.g.length 0 T []))),g:=st.g++[⟨0,e,T.size E⟩],d:=r::st.d}
   | _=>none
  | _=>none
 | .soft i e T::os,st=>match st.t[i]? with
  | some (.val (.slice none 0 0))=>cond (W.elem i&&Nat.blt 0 (T.size E)) (sQ W os {st with t:=st.t.set i (.eu st.g.length 0),g:=st.g++[⟨0,e,T.size E⟩],c:=(st.g.length,⟨T,[]⟩)::st.c}) none
  | _=>none
 | .T5 r c e T::os,st=>match st.H[r]? with
  | some (.cells t cs)=>match cs[c]? with
   | some (.val (.slice none 0 0))=>cond (Nat.blt 0 (T.size E)) (sQ W os {st with H:=st.H.set r (.cells t (cs.set c (.eu st.g.length 0))),g:=st.g++[⟨0,e,T.size E⟩],d:=r::st.d,c:=(st.g.length,⟨T,[]⟩)::st.c}) none
   | _=>none
  | _=>none
def aaz{R:Type}(X:Cx E)(st:TS E)(o:Oper)(k:TS E->O R):O R:=
 match o.guard,o.op with
 | none,.call c=>match c.callee with
  | .value x=>match st.ev x with
   | .ux r=>match st.H[r]? with
    | some (.loop y ds)=>match E.ydn y with
     | some n=>cond (Nat.beq c.args.size n) (q8 st o.dst y (c.args.toList.map st.ev++ds) (jx k fun _ _=>none) X.Y) none
     | none=>none
    | _=>none
   | _=>none
  | _=>none
 | _,_=>none
noncomputable def ajA{R:Type}(X:Cx E)(ops:aG Oper)(i:Nat)(st:TS E)(k:Ex E->TS E->O R):O R:=
 match ops.toList.drop i with
 | o::rest=>rq (cy (ops.toList.take i)&&cy rest) (tW X ops (ops.toList.take i) st (jx (fun jF=>aaz X jF o fun zT=>tW X ops rest zT k) k))
 | []=>none
inductive dN where
 | leaf
 | yat (i:Nat)
 | region (l:List (Nat×Cut×Bool))
 | draw (l:List afv)
 | fF (R Z:List Nat) (l:List yq)
 | PV (R:List Nat) (c:Cut) (t:FT)
 | rev
 | seq (ow:List Own) (c:Option (Cut×Bool)) (p q:dN)
 | cond (p q:dN)
 | loop (ow:List Own) (c:Cut) (p:dN)
 | Jn (ow:List Own) (p q:dN)
 | aaA (p:dN)
 | range (ow:List Own) (y f:FuncId) (keep:List Nat)
def dN.l:dN->dN
 | .cond p _=>p
 | _=>.leaf
def dN.r:dN->dN
 | .cond _ q=>q
 | _=>.leaf
def wr:Code->J Nat
 | .region _ ops _=>eN ops ops.toList
 | .seq a b=>wr a++wr b
 | .cond _ a b=>wr a++wr b
 | .block _ a=>wr a
 | .scope a=>wr a
 | .loop a=>wr a
 | _=>[]
def jg:Code->Bool
 | .region _ ops _=>cy ops.toList
 | .seq a b=>jg a&&jg b
 | .cond _ a b=>jg a&&jg b
 | .block _ a=>jg a
 | .scope a=>jg a
 | .loop a=>jg a
 | _=>true
def Xi{σ R:Type}(x:O σ):O (σ ⊕ R):=x.bind fun s=>some (.inl s)
def zA{σ R:Type}(x:O R):O (σ ⊕ R):=x.bind fun r=>some (.inr r)
noncomputable def afD{R:Type}(X:Cx E)(all:aG Oper):J (Nat×Cut×Bool)->J Oper->TS E->(Ex E->TS E->O R)->O R
 | [],l,st,k=>tW X all l st k
 | s::cs,l,st,k=>rq (s.2.1.okW (eN all (l.take s.1))&&cy (l.take s.1)) (cond s.2.2
   (jj (tW X all (l.take s.1) st (jx (fun st'=>Xi (s.2.1.pack st st')) fun e st'=>zA (k e st'))) fun x=>afD X all cs (l.drop s.1) (s.2.1.un (eN all (l.take s.1)) st x) k)
   ((tW X all (l.take s.1) st (jx (fun st'=>s.2.1.pack st st') fun _ _=>none)).bind fun x=>afD X all cs (l.drop s.1) (s.2.1.un (eN all (l.take s.1)) st x) k))
abbrev T6{R:Type}(i:Nat)(k:Ex E->TS E->O R):Ex E->TS E->O R
 | .exit j,st=>cond (Nat.beq j i) (k .normal st) (k (.exit j) st)
 | e,st=>k e st
abbrev aof{R:Type}(k:Ex E->TS E->O R):Ex E->TS E->O R
 | .goto _,_=>none
 | e,st=>k e st
noncomputable def runT(X:Cx E)(F:Nat):Code->dN->{R:Type}->TS E->(Ex E->TS E->Option R)->Option R
 | .skip,_,_,st,k=>k .normal st
 | .label _,_,_,st,k=>k .normal st
 | .exit i,_,_,st,k=>k (.exit i) st
 | .ret,_,_,st,k=>k .ret st
 | .region _ ops dr,p,_,st,k=>YW dr (match p with
   | .draw ss=>Ln X ops.toList 0 ss st (k .normal)
   | .fF R Z ss=>fF X R Z ops ss st (k .normal)
   | .PV R c t=>PV X R ops c t st (k .normal)
   | _=>none) (match p with
   | .region cs=>afD X ops cs ops.toList st k
   | .yat i=>ajA X ops i st k
   | _=>tW X ops ops.toList st k)
 | .seq a b,p,_,st,k=>match p with
  | .seq ow c p q=>match sQ (wr a++wr b) ow st with
   | none=>none
   | some st=>match c with
    | none=>runT X F a p st (jx (fun st'=>runT X F b q st' k) k)
    | some (c,j)=>rq (c.okW (wr a)&&jg a) (_root_.cond j
     (jj (runT X F a p st (jx (fun st'=>Xi (c.pack st st')) fun e st'=>zA (k e st'))) fun x=>runT X F b q (c.un (wr a) st x) k)
     ((runT X F a p st (jx (fun st'=>c.pack st st') fun _ _=>none)).bind fun x=>runT X F b q (c.un (wr a) st x) k))
  | .rev=>match a,b with
   | .region _ A false,.seq (.region _ B false) (.seq (.region _ C false) .ret)=>ajx X A B C st (jx (fun st'=>k .ret st') k)
   | _,_=>none
  | _=>runT X F a .leaf st (jx (fun st'=>runT X F b .leaf st' k) k)
 | .cond c a b,p,_,st,k=>match st.ev c with
  | .dat .bool v=>_root_.cond v (runT X F a p.l st k) (runT X F b p.r st k)
  | _=>none
 | .block i a,p,_,st,k=>runT X F a p st (T6 i k)
 | .scope a,p,_,st,k=>runT X F a p st (aof k)
 | .loop a,p,_,st,k=>match p with
  | .loop ow c p=>match sQ (wr a) ow st with
   | none=>none
   | some st=>rq (c.okW (wr a)&&jg a) ((c.pack st st).bind fun s=>b8 (fun rc s=>runT X F a p (c.un (wr a) st s) (jx (fun st'=>(c.pack st st').bind rc) k)) F s)
  | _=>none
 | _,_,_,_,_=>none
variable{ro:O Nat}{F:Fence}{σ:Type}
theorem HZ.mono{c:Code}{Q Q':Ex E->TS E->Prop}(h:HZ E P c st Q)(hq:∀x s,Q x s->Q' x s):HZ E P c st Q':=fun w0 G0 a w G hr=>
 wp_mono (h w0 G0 a w G hr) fun _ _ _ hp=>cG.mono hq hp
theorem nT{W:J Nat}{w0 w:U}{G0:bq}{a:Act}:∀ {os:J Own}{st st':TS E}{G:bq},sQ W os st=some st'->Rel E w0 G0 st a w G->(∃G',Rel E w0 G0 st' a w G')/\Fr W true st st'
 | [],st,st',G,h,hr=>by cases h;grind [Fr.refl]
 | .slot i e T::os,st,st',G,h,hr=>by
  simp only [sQ] at h;split at h<;>try trivial
  rename_i hi;cases hw:W.elem i<;>rw [hw] at h<;>simp only [aZ,aK] at h
  ·cases h
  obtain⟨G1,eU⟩:=hr.apA hi e T;obtain⟨h1,h2⟩:=nT h eU
  have f1:Fr [i] true st {st with t:=st.t.set i (.cA st.g.length 0 T []),g:=st.g++[⟨0,e,T.size E⟩]}:=⟨si,fun j hj=>by
   grind,⟨[],rfl,fun _ _ _=>rfl⟩,Nat.le_refl _,fun _=>rfl⟩
  exact⟨h1,f1.trans h2 (fun j hj=>by simp_all) (fun _ h=>h) (fun _=>⟨rfl,rfl⟩)⟩
 | .cell r c e T::os,st,st',G,h,hr=>by
  simp [sQ] at h;split at h<;>try trivial
  rename_i t cs hH;split at h<;>try trivial
  rename_i hc;obtain⟨G1,eU⟩:=hr.ahd hH hc e T;obtain⟨h1,h2⟩:=nT h eU;have f1:Fr [] true st {st with H:=st.H.set r (.cells t (cs.set c (.cA st.g.length 0 T []))),g:=st.g++[⟨0,e,T.size E⟩],d:=r::st.d}:=⟨rfl,fun _ _=>rfl,⟨[r],rfl,Cy _ _ _⟩,si,fun _=>rfl⟩
  exact⟨h1,f1.trans h2 (fun j hj=>by cases hj) (fun _ h=>h) (fun _=>⟨rfl,rfl⟩)⟩
 | .soft i e T::os,st,st',G,h,hr=>by
  simp only [sQ] at h;split at h<;>try trivial
  rename_i hi;cases hw:(W.elem i&&Nat.blt 0 (T.size E))<;>rw [hw] at h<;>simp only [aZ,aK] at h
  ·cases h
  rw [cE] at hw;obtain⟨G1,eU⟩:=hr.aho hi e T (lR hw.2);obtain⟨h1,h2⟩:=nT h eU
  have f1:Fr [i] true st {st with t:=st.t.set i (.eu st.g.length 0),g:=st.g++[⟨0,e,T.size E⟩],c:=(st.g.length,⟨T,[]⟩)::st.c}:=⟨si,fun j hj=>by
   grind,⟨[],rfl,fun _ _ _=>rfl⟩,Nat.le_refl _,fun _=>rfl⟩
  exact⟨h1,f1.trans h2 (fun j hj=>by simp_all) (fun _ h=>h) (fun _=>⟨rfl,rfl⟩)⟩
 | .T5 r c e T::os,st,st',G,h,hr=>by
  simp [sQ] at h;split at h<;>try trivial
  rename_i t cs hH;split at h<;>try trivial
  rename_i hc;cases hw:Nat.blt 0 (T.size E)<;>rw [hw] at h<;>simp only [aZ,aK] at h
  ·cases h
  obtain⟨G1,eU⟩:=hr.afq hH hc e T (lR hw);obtain⟨h1,h2⟩:=nT h eU;have f1:Fr [] true st {st with H:=st.H.set r (.cells t (cs.set c (.eu st.g.length 0))),g:=st.g++[⟨0,e,T.size E⟩],d:=r::st.d,c:=(st.g.length,⟨T,[]⟩)::st.c}:=⟨rfl,fun _ _=>rfl,⟨[r],rfl,Cy _ _ _⟩,si,fun _=>rfl⟩;exact⟨h1,f1.trans h2 (fun j hj=>by cases hj) (fun _ h=>h) (fun _=>⟨rfl,rfl⟩)⟩
theorem Eh{P:bh}{ops:aG Oper}{Q:Exit->Act->U->Prop}:∀(l1 l2:J Oper)(a:Act)(w:U),wpList P ops (Exit.then (wpList P ops Q l2) Q) l1 a w->wpList P ops Q (l1++l2) a w
 | [],l2,a,w,h=>h
 | o::l1,l2,a,w,h=>by
  rw [zw];unfold wpList at h⊢;split
  ·rename_i hw
   rw [if_pos hw] at h;rcases h with h|⟨h,a1,w1,h2⟩
   ·exact .inl (Oper.aar (fun a w h=>Eh l1 l2 a w h) (fun e a w hne hq=>by cases e<;>first|exact (hne rfl).elim|exact hq) h)
   ·exact .inr ⟨h,a1,w1,h2⟩
  simp_all [Eh]
theorem rJ{P:bh}{ops:aG Oper}:∀(l:J Oper)(a:Act)(w:U){Q1 Q2:Exit->Act->U->Prop},(∀e a w,Q1 e a w->Q2 e a w)->wpList P ops Q1 l a w->wpList P ops Q2 l a w
 | [],a,w,Q1,Q2,hq,h=>hq _ _ _ h
 | o::l,a,w,Q1,Q2,hq,h=>by
  unfold wpList at h⊢;split
  ·rename_i hw
   rw [if_pos hw] at h;rcases h with h|⟨h,a1,w1,h2⟩
   ·exact .inl (pR (fun a w h=>rJ l a w hq h) hq h)
   ·exact .inr ⟨h,a1,w1,hq _ _ _ h2⟩
  ·rename_i hw
   rw [if_neg hw] at h;exact rJ l _ _ hq h
def FW(ro:O Nat):Fence:={Fence.wide with round:=ro}
def uC:Code->Bool
 | .region _ ops dr=>!dr&&cy ops.toList
 | .seq a b=>uC a&&uC b
 | .cond _ a b=>uC a&&uC b
 | .block _ a=>uC a
 | .scope _=>false
 | .loop a=>uC a
 | .rangeFunc _ _ _ _=>false
 | _=>true
def Kc(P:bh)(c:Code)(st:TS E)(Q:Ex E->TS E->Prop):Prop:=
 ∀ro,(ro.isSome=true->uC c=true)->∀w0 G0 a w G,Rel E w0 G0 st a w G->c.wpIn (FW ro) 0 P (cG E w0 G0 Q) a w
theorem amc{a:Act}{w:World}(hd:ro.isSome=true->Fg o.op=false)(hQ:¬ LetsOut Q)(hn:∀a w,n1 a w->n2 a w)(h:o.wp P a w n1 Q):
  o.wpIn (FW ro) 0 P a w n2 Q:=by
 have aq7:o.semAt ro a.eval=execOp a.eval o:=by
  cases ro with
  | none=>rfl
  | some l=>exact Oper.semAt_eq _ _ _ fun c e=>by have:=hd rfl;rw [e] at this;cases this
 refine⟨fun _ _=>trivial,?_⟩;show o.uponIn (FW ro) 0 P a n2 Q ((o.semAt ro a.eval).run P w);rw [aq7];unfold Oper.wp at h;generalize (execOp a.eval o).run P w=r at *
 cases r with
 | ok n w'=>
  cases n<;>simp [Oper.upon] at h
  case value u=>exact hn _ _ h
  case skip=>exact hn _ _ h
  case defer d=>exact hn _ _ h
  case enter f args=>
   refine⟨(fun h=>nomatch h),?_⟩;refine (callsIn_wide).2 (Ge h fun e w'' he=>?_)
   grind
  case row row args=>exact⟨(fun h=>nomatch h),fun c cs _=>by
   obtain⟨v,w2,r,s⟩:=h c cs
   exact⟨v,w2,hn _ _ r,stepsIn_wide.2 s⟩⟩
 | halt x w'=>
  cases x<;>simp [Oper.upon] at h
  case panic u=>exact h
theorem cG.T7{Q:Ex E->TS E->Prop}:¬ LetsOut (cG E w0 G0 Q):=fun⟨_,_,x,_,_,h,_⟩=>by cases x<;>exact h
theorem Oper.T8{n:Nat}{a:Act}{w:U}(h:∀a w,K a w->K' a w)(hq:∀e a w,e≠.normal->Q e a w->Q' e a w)
  (hh:o.wpIn F n P a w K Q):o.wpIn F n P a w K' Q':=by
 have hout:LetsOut Q->LetsOut Q':=fun⟨a,w,h⟩=>⟨a,w,hq _ _ _ si h⟩;refine⟨hh.1,?_⟩;have hh:=hh.2;generalize (o.semAt F.round a.eval).run P w=r at *
 cases r with
 | ok m w'=>
  cases m<;>simp [Oper.uponIn] at hh⊢
  case value u=>exact h _ _ hh
  case skip=>exact h _ _ hh
  case defer d=>exact h _ _ hh
  case enter f args=>
   refine⟨hh.1,hh.2.1,fun cs hroom=>?_⟩;obtain⟨e,w'',fr,he,hs⟩:=hh.2.2 cs hroom
   grind
  case row row args=>exact⟨hh.1,RowsIn.mono hh.2 fun u w'' he=>h _ _ he⟩
  case round l f tmps assign body=>
   refine⟨hh.1,RoundIn.mono hh.2 fun e w'' he=>?_⟩
   grind
 | halt x w'=>
  cases x<;>simp [Oper.uponIn] at hh⊢
  simp_all
theorem xw{P:bh}{ro:O Nat}{ops:aG Oper}{Q:Exit->Act->U->Prop}(hQ:¬ LetsOut Q):∀(l:J Oper)(a:Act)(w:U),(ro.isSome=true->cy l=true)->wpList P ops Q l a w->wpListIn (FW ro) 0 P ops Q l a w
 | [],_,_,_,h=>h
 | o::l,a,w,hd,h=>by
  have Xj:=fun hr=>by
   have:=hd hr;simp [cy] at this;exact this.1
  have Xk:=fun hr=>by
   have:=hd hr;simp [cy] at this;exact this.2
  unfold wpList at h;unfold wpListIn;split
  ·rename_i hw
   rw [if_pos hw] at h;rcases h with h|⟨_,a1,w1,h2⟩
   ·exact amc Xj hQ (fun a w h=>xw hQ l a w Xk h) h
   ·exact (hQ ⟨a1,w1,h2⟩).elim
  ·rename_i hw
   rw [if_neg hw] at h;exact⟨fun _ _=>trivial,xw hQ l _ w Xk h⟩
theorem Ei{F:Fence}{n:Nat}{P:bh}{ops:aG Oper}{Q:Exit->Act->U->Prop}:∀(l1 l2:J Oper)(a:Act)(w:U),wpListIn F n P ops (Exit.then (wpListIn F n P ops Q l2) Q) l1 a w->wpListIn F n P ops Q (l1++l2) a w
 | [],l2,a,w,h=>h
 | o::l1,l2,a,w,h=>by
  rw [zw];unfold wpListIn at h⊢;split
  ·rename_i hw
   rw [if_pos hw] at h;exact Oper.T8 (fun a w h=>Ei l1 l2 a w h) (fun e a w hne hq=>by cases e<;>first|exact (hne rfl).elim|exact hq) h
  simp_all [Ei]
theorem aaB(hX:X.Ok){k:TS E->Option R}{r:R}(h:aaz X st o k=some r):∀w0 G0 a w G,Rel E w0 G0 st a w G ->
  (o.guard=none/\Fg o.op=false)/\o.wpIn (FW ro) 0 X.P a w (fun a' w'=>∃st' G',Rel E w0 G0 st' a' w' G'/\k st'=some r/\Fr (iC o.dst) true st st') Q:=by
 unfold aaz at h;split at h<;>try trivial
 rename_i c hg ho;split at h<;>try trivial
 rename_i x hc;split at h<;>try trivial
 rename_i q hx;split at h<;>try trivial
 rename_i y ds hb;split at h<;>try trivial
 rename_i n hY;cases hsz:Nat.beq c.args.size n<;>rw [hsz] at h<;>simp only [aZ,aK] at h
 ·cases h
 have hsz:=eM hsz;intro w0 G0 a w G hr;refine⟨⟨hg,by rw [ho];rfl⟩,fun _ _=>trivial,?_⟩;have hv:=hr.ev x;rw [hx] at hv;obtain⟨b,Of,hat⟩:=hv;obtain⟨Y,fn,tmps,D,hY',hheap,hds⟩:=hr.box hat hb;have hsz:=hsz.trans (hX.E.ydn y Y n hY' hY).symm
 have hargs:bI E w G (c.args.toList.map st.ev++ds) (c.args.map a.eval++tmps).toList:=by
  have:=(N3 hr c.args.toList).append hds;simpa using this
 have hI:=Dv hX.E (VJ.mono X.P) hX.Y h w0 G0 a w G (c.args.map a.eval++tmps) hr hargs;have hR:=hI Y fn b D (c.args.map a.eval) tmps hY' rfl (by simpa using hsz) hheap;rw [Oper.semAt_eq _ _ _ fun c' e=>by rw [ho] at e;cases e]
 have hrun:(execOp a.eval o).run X.P w=.ok (.round b fn ((Y.params.zip (c.args.map a.eval)).foldl (fun t (p,v)=>t.setIfInBounds p v) tmps) Y.assign Y.body) w:=by
  have hy:=run_yield (P:=X.P) (args:=c.args.map a.eval) hheap (by simpa using hsz);simp [execOp,ho,resolve,hc,Of,Deferred.ofValue,invoke];simpa using hy
 rw [hrun];refine⟨(fun h=>nomatch h),RoundIn.mono hR fun e w' he=>?_⟩
 grind
theorem Lq{x:O σ}{j:σ ⊕ R}(h:Xi x=some j):∃s,x=some s/\j=.inl s:=by
 unfold Xi at h
 cases x with
 | none=>cases h
 | some s=>simp_all
theorem Oi{x:O R}{j:σ ⊕ R}(h:zA x=some j):∃r,x=some r/\j=.inr r:=by
 unfold zA at h
 cases x with
 | none=>cases h
 | some s=>simp_all
theorem amd{x:O (σ ⊕ R)}{k:σ->O R}{r:R}(h:jj x k=some r):∃j,x=some j/\(∀s,j=.inl s->k s=some r)/\∀r',j=.inr r'->r'=r:=by
 cases x with
 | none=>cases h
 | some j=>
  refine⟨j,rfl,fun s hs=>?_,fun r' hr=>?_⟩
  ·subst hs;exact h
  ·subst hr;exact qE h
theorem Xl{j:Bool}{A:{R':Type}->(Ex E->TS E->O R')->O R'}{pk:TS E->O σ}{B:σ->O R}{r:R}
  (h:cond j (jj (A (jx (fun st'=>Xi (pk st')) fun e st'=>zA (k e st'))) B) ((A (jx pk fun _ _=>none)).bind B)=some r) {C:(Ex E->TS E->Prop)->Prop} (hA:∀ {R':Type}{k':Ex E->TS E->O R'}{r':R'},A k'=some r'->C (fun x s=>k' x s=some r')) :
  ∃Q:Ex E->TS E->Prop,C Q/\(∀s,Q .normal s->∃x,pk s=some x/\B x=some r)/\∀x s,x≠.normal->Q x s->k x s=some r:=by
 cases j<;>simp at h
 ·cases hx:A (jx pk fun _ _=>none) with
  | none=>rw [hx] at h;cases h
  | some x=>
   grind
 ·obtain⟨jv,hx,h1,h2⟩:=amd h
  refine⟨_,hA hx,fun s hs=>?_,fun e s hne hs=>?_⟩
  ·obtain⟨x,hp,rfl⟩:=Lq hs
   simp_all
  ·have:zA (k e s)=some jv:=by grind
   obtain⟨r',hk,rfl⟩:=Oi this;rw [hk,h2 r' rfl]
theorem T9{R:Type}(hX:X.Ok){all:aG Oper}{k:Ex E->TS E->O R}{r:R}:∀(cs:J (Nat×Cut×Bool)){l:J Oper}{st:TS E},afD X all cs l st k=some r ->
  aeW E X.P all l st (fun x st'=>k x st'=some r/\Fr (eN all l) (cy l) st st')
 | [],l,st,h=>q9 hX h
 | s::cs,l,st,h=>by
  obtain⟨hc,h⟩:=dQ h;rw [cE] at hc;intro w0 G0 a w G hr;have hpre:=hr.pre;obtain⟨Q,hC,hN,hX'⟩:=Xl h (C:=fun Q=>aeW E X.P all (l.take s.1) st (fun x st'=>Q x st'/\Fr (eN all (l.take s.1)) (cy (l.take s.1)) st st')) (fun h'=>q9 hX h');rw [<-Ru s.1 l];refine Eh _ _ a w (rJ _ a w (fun e a' w' hp=>?_) (hC w0 G0 a w G hr));obtain⟨x,s',G',he,hr',hq,hf⟩:=hp
  have ali:∀i,i∈eN all (l.take s.1)->i∈eN all (l.take s.1++l.drop s.1):=fun i hi=>by
   grind [List.take_append_drop,F7]
  have apG:∀i,i∈eN all (l.drop s.1)->i∈eN all (l.take s.1++l.drop s.1):=fun i hi=>by
   rw [Ru];exact F7 l s.1 l.length i (by simp_all [tL])
  have an5:cy (l.take s.1++l.drop s.1)=true->cy (l.drop s.1)=true:=fun hn=>by
   rw [Ru] at hn;have:=Bc l s.1 l.length hn
   simp_all [tL]
  cases x with
  | normal=>
   cases e<;>try (exact he.elim)
   obtain⟨y,hp,hB⟩:=hN s' hq;obtain⟨⟨G2,hR⟩,hF⟩:=zJ hX.E hpre hr' (hf.wide (fun _ h=>h) (fun _=>hc.2)) hc.1 hp
   exact rJ _ _ _ (fun e a w hp=>cG.mono (fun x s'' hh=>⟨hh.1,hF.trans hh.2 ali apG (fun hn=>⟨rfl,an5 hn⟩)⟩) hp) (T9 hX cs hB w0 G0 a' w' G2 hR)
  | _=>
   have hk:=hX' _ s' (by intro h;cases h) hq;have qZ:cG E w0 G0 (fun x st'=>k x st'=some r/\Fr (eN all (l.take s.1++l.drop s.1)) (cy (l.take s.1++l.drop s.1)) st st') e a' w':=⟨_,s',G',he,hr',hk,hf.wide ali (fun _=>hc.2)⟩;cases e<;>first|exact he.elim|exact qZ
theorem Oj{ι:Type}{n:Nat}{c:Code}{a:Act}{w:U}(I:ι->Act->U->Prop)(μ:ι->Nat)(x0:ι)(h₀:I x0 a w)
  (round:∀x a w,I x a w->c.wpIn F n P (Exit.then (fun a' w'=>∃y,I y a' w'/\μ y<μ x) Q) a w):(Code.loop c).wpIn F n P Q a w:=by
 intro b k cs hro hb hr
 have key:∀j x a w,μ x=j->I x a w ->
   ∃e a' w',Q e a' w'/\ArrivesIn (Machine.fenced P F) P (lone (b.atR a (.code c :: .inLoop c::k)) cs w) b k cs e a' w':=by
  intro j
  induction j using Nat.strongRecOn with
  | _ j ih=>
   intro x a w hn hI;obtain⟨e,a₁,w₁,hq,Ol⟩:=round x a w hI b (.inLoop c::k) cs hro hb hr
   cases e with
   | normal=>
    obtain⟨y,hI₁,hlt⟩:=hq;obtain⟨e₂,a₂,w₂,hq₂,apH⟩:=ih (μ y) (hn▸hlt) y a₁ w₁ rfl hI₁
    exact⟨e₂,a₂,w₂,hq₂,.of_steps (StepsIn.trans Ol (.one (fenced_calm hb hr rfl) stepR_inLoop)) apH⟩
   | exit id=>exact⟨_,a₁,w₁,hq,.pass rfl (fun _ _=>.inl si) Ol⟩
   | goto l=>exact⟨_,a₁,w₁,hq,.pass rfl (fun _ _=>.inl si) Ol⟩
   | ret=>exact⟨_,a₁,w₁,hq,.pass rfl (fun _ _=>.inl si) Ol⟩
   | panic ch=>exact⟨_,a₁,w₁,hq,.pass rfl (fun _ _=>.inl si) Ol⟩
   | outgrown=>exact⟨_,a₁,w₁,hq,.pass rfl (fun _ _=>.inl si) Ol⟩
 obtain⟨e,a',w',hq,Ol⟩:=key _ x0 a w rfl h₀;exact⟨e,a',w',hq,.of_steps (.one (fenced_calm hb hr rfl) stepR_loop) Ol⟩
theorem Kc.of_wp{c:Code}{Q:Ex E->TS E->Prop}(hc:uC c=false)(h:HZ E P c st Q):Kc P c st Q:=fun ro hro w0 G0 a w G hr=>by
 cases ro with
 | some l=>simp_all
 | none=>exact (wpIn_wide).2 (h w0 G0 a w G hr)
theorem Kc.wp{c:Code}{Q:Ex E->TS E->Prop}(h:Kc P c st Q)(hr:Rel E w0 G0 st a w G):c.wp P (cG E w0 G0 Q) a w:=
 (wpIn_wide).1 (h none (fun h=>nomatch h) w0 G0 a w G hr)
theorem ahu{a b:Code}(hro:ro.isSome=true->uC a=true){ac:Act}{Q1 Q:Ex E->TS E->Prop}(hr:Rel E w0 G0 st ac w G)(h:Kc P a st Q1)(hN:∀s a' w' G',Q1 .normal s->Rel E w0 G0 s a' w' G'->b.wpIn (FW ro) 0 P (cG E w0 G0 Q) a' w')
  (hX:∀x s,x≠.normal->Q1 x s->Q x s):(Code.seq a b).wpIn (FW ro) 0 P (cG E w0 G0 Q) ac w:=by
 refine wpIn_seq (wpIn_mono (h ro hro w0 G0 ac w G hr) fun e a' w' hp=>?_);obtain⟨x,s,G',he,hr',hq⟩:=hp
 cases x with
 | normal=>
  cases e<;>try (exact he.elim)
  exact hN s a' w' G' hq hr'
 | _=>
  have qZ:cG E w0 G0 Q e a' w':=⟨_,s,G',he,hr',hX _ s (by intro h;cases h) hq⟩;cases e<;>first|exact he.elim|exact qZ
theorem Lr{all:aG Oper}:∀l1 l2:J Oper,eN all (l1++l2)=eN all l1++eN all l2
 | [],l2=>rfl
 | o::l1,l2=>by simp_all [eN,Lr]
theorem afE(hX:X.Ok)(id:Nat){r:R}(h:ajA X ops i st k=some r):Kc X.P (.region id ops false) st (fun x st'=>k x st'=some r/\Fr (wr (.region id ops false)) (jg (.region id ops false)) st st'):=by
 unfold ajA at h;split at h<;>try trivial
 rename_i o rest hd;obtain⟨hnd,h⟩:=dQ h;rw [cE] at hnd;intro ro hro w0 G0 a w G hr;refine wpIn_region_list ?_;have hl:ops.toList=ops.toList.take i++o::rest:=by grind [List.take_append_drop]
 have hwr:∀j,j∈eN ops (ops.toList.take i)\/j∈iC o.dst\/j∈eN ops rest->j∈wr (.region id ops false):=fun j hj=>by
  show j∈eN ops ops.toList
  grind [Lr,eN]
 rw [hl]
 have hF:∀ {s1 s2 s3:TS E},Fr (eN ops (ops.toList.take i)) (cy (ops.toList.take i)) st s1->Fr (iC o.dst) true s1 s2->Fr (eN ops rest) (cy rest) s2 s3->Fr (wr (.region id ops false)) (jg (.region id ops false)) st s3:=fun f1 f2 f3=>
  (f1.trans f2 (fun j hj=>hwr j (.inl hj)) (fun j hj=>hwr j (.inr (.inl hj))) (fun _=>⟨hnd.1,rfl⟩)).trans f3 (fun j hj=>hj) (fun j hj=>hwr j (.inr (.inr hj))) (fun _=>⟨rfl,hnd.2⟩)
 have hout:∀ {K:Act->U->Prop}{Q:Ex E->TS E->Prop},¬ LetsOut (Exit.then K (cG E w0 G0 Q)):=fun⟨a,w,h⟩=>cG.T7 ⟨a,w,h⟩;refine Ei _ _ a w (xw hout _ a w (fun _=>hnd.1) (rJ _ a w (fun e a' w' hp=>?_) (q9 hX h w0 G0 a w G hr)));obtain⟨x,s',G',he,hr',hq,hf⟩:=hp
 cases x with
 | normal=>
  cases e<;>try (exact he.elim)
  obtain⟨⟨hg,-⟩,hw⟩:=aaB hX hq w0 G0 a' w' G' hr';show wpListIn _ _ _ _ _ (o::rest) _ _;unfold wpListIn;rw [if_pos (by simp [Region.wanted,hg])];refine Oper.T8 (fun a2 w2 hh=>?_) (fun e a w hne hq=>hq) hw;obtain⟨s2,G2,hr2,hk,f2⟩:=hh
  exact xw cG.T7 rest a2 w2 (fun _=>hnd.2) (rJ rest a2 w2 (fun e a w hp=>cG.mono (fun x s hh=>⟨hh.1,hF hf f2 hh.2⟩) hp) (q9 hX hk w0 G0 a2 w2 G2 hr2))
 | _=>
  have qZ:cG E w0 G0 (fun x st'=>k x st'=some r/\Fr (wr (.region id ops false)) (jg (.region id ops false)) st st') e a' w':=⟨_,s',G',he,hr',hq,hF hf (Fr.refl _ _ _) (Fr.refl _ _ _)⟩;cases e<;>first|exact he.elim|exact qZ
theorem adv{all:aG Oper}:∀ {l:J Oper}{o:Oper},o∈l->∀i,i∈iC o.dst->i∈eN all l
 | [],_,h,_,_=>by cases h
 | o'::l,o,h,i,hi=>by
  simp [eN];rcases iE.1 h with rfl|h
  ·exact .inl hi
  ·exact .inr (.inr (adv h i hi))
theorem afF(hX:X.Ok){i1 i2 i3:Nat}{A B C:aG Oper}{r:R}(h:ajx X A B C st (jx (fun st'=>k .ret st') k)=some r):
  Kc X.P (.seq (.region i1 A false) (.seq (.region i2 B false) (.seq (.region i3 C false) .ret))) st (fun x st'=>k x st'=some r/\Fr (wr (.seq (.region i1 A false) (.seq (.region i2 B false) (.seq (.region i3 C false) .ret)))) (jg (.seq (.region i1 A false) (.seq (.region i2 B false) (.seq (.region i3 C false) .ret)))) st st'):=by
 unfold ajx at h;split at h<;>try trivial
 rename_i s hs;split at h<;>try trivial
 rename_i l hx;cases hc:(s.ok X st.t.length&&(cy A.toList&&(cy B.toList&&cy C.toList)))<;>rw [hc] at h<;>simp only [aZ,aK] at h
 ·cases h
 simp at hc;obtain⟨hok,nA,nB,nC⟩:=hc;obtain⟨hl,h⟩:=dQ h;have hl:=Ae hl;intro ro hro w0 G0 a w G hr;obtain⟨a3,w1,hA,W2,hB,hC⟩:=afC hX hs hx hok hl hr;obtain⟨C0,hC0⟩:=ajz hs
 have nR:cy s.rest=true:=by
  have:∀(l1 l2:J Oper),cy (l1++l2)=true->cy l2=true:=by
   intro l1
   induction l1 with
   | nil=>intro l2 h;exact h
   | cons o l1 ih=>simp_all [cy]
  grind
 have hF:Fr (eN A A.toList++(eN B B.toList++eN C C.toList)) true st (s.s9 st l):=aoe hs st l (fun o ho i hi=>by
  grind [adv])
 have hout:∀ {K:Act->U->Prop}{Q:Ex E->TS E->Prop},¬ LetsOut (Exit.then K (cG E w0 G0 Q)):=fun⟨a,w,h⟩=>cG.T7 ⟨a,w,h⟩;refine wpIn_seq (wpIn_region_list (xw hout _ a w (fun _=>nA) (hA _ _ ?_)));refine wpIn_seq (wpIn_region_list (xw hout _ a3 w1 (fun _=>nB) (hB _ _ fun a5 w2 hW=>?_)));obtain⟨a9,⟨G',hr9⟩,fC⟩:=hC a5 w2 hW;refine wpIn_seq (wpIn_region_list (xw hout _ a5 w2 (fun _=>nC) (fC _ _ ?_)));refine rJ s.rest a9 w2 (fun e a w hp=>?_) (q9 hX h w0 G0 a9 w2 G' hr9);obtain⟨x,s',G2,he,hr',hq,hf⟩:=hp
 have hf:=hF.trans hf (W:=wr (.seq (.region i1 A false) (.seq (.region i2 B false) (.seq (.region i3 C false) .ret)))) (fun i hi=>by
  simp_all [wr]) (fun i hi=>by
  simp_all [wr,Lr]) (n:=jg (.seq (.region i1 A false) (.seq (.region i2 B false) (.seq (.region i3 C false) .ret)))) (fun _=>⟨rfl,nR⟩)
 cases x with
 | normal=>
  cases e<;>try (exact he.elim)
  exact wpIn_ret ⟨.ret,s',G2,trivial,hr',hq,hf⟩
 | _=>
  have qZ:cG E w0 G0 (fun x st'=>k x st'=some r/\Fr (wr (.seq (.region i1 A false) (.seq (.region i2 B false) (.seq (.region i3 C false) .ret)))) (jg (.seq (.region i1 A false) (.seq (.region i2 B false) (.seq (.region i3 C false) .ret)))) st st') e a w:=⟨_,s',G2,he,hr',hq,hf⟩;cases e<;>first|exact he.elim|exact qZ
theorem tY(hX:X.Ok){F:Nat}:∀(c:Code)(p:dN){R:Type}{st:TS E}{k:Ex E->TS E->Option R}{r:R},runT X F c p st k=some r->Kc X.P c st (fun x st'=>k x st'=some r/\Fr (wr c) (jg c) st st'):=by
 intro c
 induction c with
 | skip=>intro p R st k r h ro hro w0 G0 a w G hr;exact wpIn_skip ⟨.normal,st,G,trivial,hr,h,Fr.refl _ _ _⟩
 | label l=>intro p R st k r h ro hro w0 G0 a w G hr;exact wpIn_label ⟨.normal,st,G,trivial,hr,h,Fr.refl _ _ _⟩
 | exit i=>intro p R st k r h ro hro w0 G0 a w G hr;exact wpIn_exit ⟨.exit i,st,G,rfl,hr,h,Fr.refl _ _ _⟩
 | ret=>intro p R st k r h ro hro w0 G0 a w G hr;exact wpIn_ret ⟨.ret,st,G,trivial,hr,h,Fr.refl _ _ _⟩
 | goto l=>intro p R st k r h;cases h
 | refuse s=>intro p R st k r h;cases h
 | scope c ih=>
  intro p R st k r h;have h1:=ih p h;intro ro hro w0 G0 ac w G hr
  cases ro with
  | some l=>cases hro rfl
  | none=>
  refine (wpIn_wide (n:=0)).2 ?_;refine wp_scope_straight (wp_mono ((wpIn_wide (n:=0)).1 (h1 none (fun h=>nomatch h) w0 G0 ac w G hr)) fun e a' w' hp=>?_);obtain⟨x,s,G',he,hr',hq,hf⟩:=hp;have qZ:∀ {x},anP E w' G' e x->k x s=some r->cG E w0 G0 (fun x st'=>k x st'=some r/\Fr (wr (.scope c)) (jg (.scope c)) st st') e a' w':=fun h1 h2=>⟨_,s,G',h1,hr',h2,hf⟩
  cases x<;>cases e<;>first|exact he.elim|(cases hq;done)|exact qZ he hq
 | rangeFunc f ps a b _ _=>intro p R st k r h;cases h
 | region id ops dr=>
  intro p R st k r h;simp only [runT] at h;rw [aju] at h;cases dr<;>simp only [aZ,aK] at h
  ·split at h
   ·intro ro hro w0 G0 a w G hr
    exact wpIn_region_list (xw cG.T7 _ a w (fun h=>by simp_all [uC,cE]) (T9 hX _ h w0 G0 a w G hr))
   ·grind [afE]
   ·intro ro hro w0 G0 a w G hr
    exact wpIn_region_list (xw cG.T7 _ a w (fun h=>by simp_all [uC,cE]) (q9 hX h w0 G0 a w G hr))
  ·split at h<;>try trivial
   ·exact Kc.of_wp (by rfl) (HZ.mono (afy hX h) fun x s hh=>by rw [hh.1];exact hh.2)
   ·exact Kc.of_wp (by rfl) (HZ.mono (acD hX h) fun x s hh=>by rw [hh.1];exact hh.2)
   ·exact Kc.of_wp (by rfl) (HZ.mono (acE hX h) fun x s hh=>by rw [hh.1];exact hh.2)
 | block i a ih=>
  intro p R st k r h;have h1:=ih p h;intro ro hro w0 G0 ac w G hr;refine wpIn_block (wpIn_mono (h1 ro hro w0 G0 ac w G hr) fun e a' w' hp=>?_);obtain⟨x,s,G',he,hr',hq,hf⟩:=hp
  cases x with
  | exit j=>
   cases e<;>try (exact he.elim)
   rename_i i';subst he;simp only [T6] at hq;simp only [Exit.inBlock];cases hb:Nat.beq i' i<;>rw [hb] at hq<;>simp only [aZ,aK] at hq
   ·have:i'≠i:=fun e=>by simp_all
    rw [if_neg this];exact⟨.exit i',s,G',rfl,hr',hq,hf⟩
   ·rw [if_pos (eM hb)]
    exact⟨.normal,s,G',trivial,hr',hq,hf⟩
  | _=>
   have qZ:cG E w0 G0 (fun x st'=>k x st'=some r/\Fr (wr (.block i a)) (jg (.block i a)) st st') e a' w':=⟨_,s,G',he,hr',hq,hf⟩
   cases e<;>first|exact he.elim|exact qZ
 | cond c a b EA EB=>
  intro p R st k r h;simp only [runT] at h;split at h<;>try trivial
  rename_i v hv;intro ro hro w0 G0 ac w G hr;have aaC:ro.isSome=true->uC a=true:=fun h=>by simp_all [uC,cE]
  have aaD:ro.isSome=true->uC b=true:=fun h=>by simp_all [uC,cE]
  have L8:=hr.ev c;rw [hv] at L8;have L8:=L8.mh;cases v<;>simp only [aZ,aK] at h
  ·exact wpIn_cond_false L8 (wpIn_mono (EB p.r h ro aaD w0 G0 ac w G hr) fun _ _ _ hp=>cG.mono (fun x s hh=>⟨hh.1,hh.2.wide (fun i hi=>by simp [wr,hi]) (fun hn=>by simp_all [jg,cE])⟩) hp)
  ·exact wpIn_cond_true L8 (wpIn_mono (EA p.l h ro aaC w0 G0 ac w G hr) fun _ _ _ hp=>cG.mono (fun x s hh=>⟨hh.1,hh.2.wide (fun i hi=>by simp [wr,hi]) (fun hn=>by simp_all [jg,cE])⟩) hp)
 | seq a b EA EB=>
  have plain:∀(p q:dN){R:Type}{st:TS E}{k:Ex E->TS E->Option R}{r:R},runT X F a p st (jx (fun st'=>runT X F b q st' k) k)=some r->Kc X.P (.seq a b) st (fun x st'=>k x st'=some r/\Fr (wr (.seq a b)) (jg (.seq a b)) st st'):=by
   intro p q R st k r h ro hro w0 G0 ac w G hr;have aaC:ro.isSome=true->uC a=true:=fun h=>by simp_all [uC,cE]
   have aaD:ro.isSome=true->uC b=true:=fun h=>by simp_all [uC,cE]
   refine ahu aaC hr (EA p h) (fun s a' w' G' hq hr'=>?_) (fun x s hne hq=>?_)
   ·exact wpIn_mono (EB q hq.1 ro aaD w0 G0 a' w' G' hr') fun _ _ _ hp=>cG.mono (fun x s' hh=>⟨hh.1,hq.2.trans hh.2 (fun i hi=>by simp [wr,hi]) (fun i hi=>by simp [wr,hi]) (fun hn=>by simp_all [jg,cE])⟩) hp
   ·refine⟨by grind,hq.2.wide (fun i hi=>by simp [wr,hi]) (fun hn=>by simp_all [jg,Bool.and_eq_true])⟩
  intro p R st k r h;simp only [runT] at h;split at h
  ·rename_i ow c p q
   split at h<;>try trivial
   rename_i jF had;intro ro hro w0 G0 ac w G hr;have aaC:ro.isSome=true->uC a=true:=fun h=>by simp_all [uC,cE]
   have aaD:ro.isSome=true->uC b=true:=fun h=>by simp_all [uC,cE]
   obtain⟨⟨G1,eU⟩,TM⟩:=nT had hr;split at h
   ·exact wpIn_mono (plain p q h ro hro w0 G0 ac w G1 eU) fun _ _ _ hp=>cG.mono (fun x s' hh=>⟨hh.1,TM.trans hh.2 (fun i hi=>hi) (fun i hi=>hi) (fun hn=>⟨rfl,hn⟩)⟩) hp
   ·obtain⟨hc,h⟩:=dQ h
    rw [cE] at hc;have hpre:=eU.pre;obtain⟨Q,hC,hN,hXn⟩:=Xl h (C:=fun Q=>Kc X.P a jF (fun x st'=>Q x st'/\Fr (wr a) (jg a) jF st')) (fun h'=>EA p h');refine ahu aaC eU hC (fun s a' w' G' hq hr'=>?_) (fun x s hne hq=>?_)
    ·obtain⟨y,hp,hB⟩:=hN s hq.1
     obtain⟨⟨G2,hR⟩,hF⟩:=zJ hX.E hpre hr' (hq.2.wide (fun _ h=>h) (fun _=>hc.2)) hc.1 hp
     exact wpIn_mono (EB q hB ro aaD w0 G0 a' w' G2 hR) fun _ _ _ hp=>cG.mono (fun x s' hh=>⟨hh.1,TM.trans (hF.trans hh.2 (W:=wr a++wr b) (n:=jg b) (fun i hi=>by simp [hi]) (fun i hi=>by simp [hi]) (fun hn=>⟨rfl,hn⟩)) (fun i hi=>hi) (fun i hi=>hi) (fun hn=>by
      simp_all [jg,cE])⟩) hp
    ·exact⟨hXn x s hne hq.1,TM.trans hq.2 (fun i hi=>hi) (fun i hi=>by simp [wr,hi]) (fun hn=>⟨rfl,hc.2⟩)⟩
  ·split at h<;>try trivial
   exact afF hX h
  ·exact plain .leaf .leaf h
 | loop a ih=>
  intro p R st k r h;simp only [runT] at h;split at h<;>try trivial
  rename_i ow c p;split at h<;>try trivial
  rename_i jF had;obtain⟨hc,h⟩:=dQ h;rw [cE] at hc;intro ro hro w0 G0 ac w G hr;obtain⟨⟨G1,eU⟩,TM⟩:=nT had hr;have hpre:=eU.pre
  cases hs:c.pack jF jF with
  | none=>rw [hs] at h;cases h
  | some s0=>
   rw [hs] at h;obtain⟨hR0,hFu⟩:=zJ hX.E (W:=wr a) hpre eU (Fr.refl _ _ _) hc.1 hs;refine Oj (ι:=Nat×dens E c.tys) (fun x a' w'=>b8 (fun rc s=>runT X F a p (c.un (wr a) jF s) (jx (fun st'=>(c.pack jF st').bind rc) k)) x.1 x.2=some r/\∃G',Rel E w0 G0 (c.un (wr a) jF x.2) a' w' G') (fun x=>x.1) (F,s0) ⟨h,hR0⟩ ?_;rintro⟨n,s⟩ a' w' ⟨hl,G',hr'⟩
   cases n with
   | zero=>cases hl
   | succ n=>
    have hFs:Fr (wr a) true jF (c.un (wr a) jF s):=by
     unfold Cut.pack at hs;split at hs<;>try trivial
     rename_i ls hls;exact Cut.Xh hc.1 hls
    refine wpIn_mono (ih p hl ro hro w0 G0 a' w' G' hr') fun e a2 w2 hp=>?_;obtain⟨x,s2,G2,he,hr2,hq,hf⟩:=hp;have rU:Fr (wr a) true jF s2:=hFs.trans hf (fun _ h=>h) (fun _ h=>h) (fun _=>⟨rfl,hc.2⟩)
    cases x with
    | normal=>
     cases e<;>try (exact he.elim)
     simp only [jx] at hq
     cases hp2:c.pack jF s2 with
     | none=>rw [hp2] at hq;cases hq
     | some y=>
      rw [hp2] at hq;obtain⟨hR2,-⟩:=zJ hX.E hpre hr2 rU hc.1 hp2
      exact⟨(n,y),⟨hq,hR2⟩,I5 n⟩
    | _=>
     have qZ:cG E w0 G0 (fun x st'=>k x st'=some r/\Fr (wr (.loop a)) (jg (.loop a)) st st') e a2 w2:=⟨_,s2,G2,he,hr2,hq,TM.trans rU (fun _ h=>h) (fun _ h=>h) (fun _=>⟨rfl,rfl⟩)⟩;cases e<;>first|exact he.elim|exact qZ
end Go.RT
namespace Go.RT
variable {E : TEnv}
def aaE(X:Cx E)(st:TS E):ResultVar->O (TV E)
 | .tmp t=>some (st.at t)
 | .cell p t=>match aU X.P t,st.at p with
  | some i,.ptr r off=>match st.H[r]? with
   | some (.cells _ cs)=>Ta E (X.ty t) cs i.isAgg i.size off
   | _=>none
  | _,_=>none
def qf(X:Cx E)(st:TS E):J ResultVar->O (J (TV E))
 | []=>some []
 | r::rs=>match aaE X st r,qf X st rs with
  | some d,some ds=>some (d::ds)
  | _,_=>none
def qL:J (TV E)->TV E
 | [d]=>d
 | ds=>.tuple ds
def PX(tmps:aG Value):ResultVar->Sem Value
 | .tmp t=>pure (tmps.getD t undef)
 | .cell a t=>do loadVar t (<-asAddr (tmps.getD a undef))
theorem afG(fn:Func)(tmps:aG Value):results fn tmps=(do
  let vs <-fn.results.mapM (PX tmps)
  pure (if h:vs.size=1 then vs[0] else .tuple vs)):=by
 congr 2
def PY:J Value->Value
 | [v]=>v
 | vs=>.tuple vs.toArray
theorem ajB(vs:J Value):(if h:vs.toArray.size=1 then vs.toArray[0] else .tuple vs.toArray)=PY vs:=by
 match vs with
 | []=>rfl
 | [v]=>rfl
 | v::u::r=>simp [PY]
variable{X:Cx E}{w0 w:U}{G0 G:bq}{st:TS E}{a:Act}{fn:Func}
theorem ahv(hX:X.Ok)(hr:Rel E w0 G0 st a w G){rv:ResultVar}{d:TV E}(h:aaE X st rv=some d):∃v,VT E w G d v/\(PX a.tmps rv).run X.P w=.ok v w:=by
 cases rv with
 | tmp t=>
  cases h
  exact⟨_,hr.at t,rfl⟩
 | cell p t=>
  simp [aaE] at h;split at h<;>try trivial
  rename_i i r off hi hd;split at h<;>try trivial
  rename_i t' cs hb;have hv:=hr.at p;rw [hd] at hv;obtain⟨b,he,hat⟩:=hv;obtain⟨vs,hh,h1,h2⟩:=hr.box hat hb
  obtain⟨v,hv,hrun⟩:=sM (b:=b) (o':=0) hi (fun l u hl=>by
   grind [cell_of_row]) (Jb hX.E h2 (fun u hu=>h1 u (by simpa using hu)) h)
  refine⟨v,hv,?_⟩;have:=hrun w (eY.refl w);simp only [PX];rw [he];simpa [Instr.loadAt,Instr.sureAddr,asAddr] using this
theorem Xm(hX:X.Ok)(hr:Rel E w0 G0 st a w G):∀ {rs:J ResultVar}{ds:J (TV E)},qf X st rs=some ds->∃vs,bI E w G ds vs/\(rs.mapM (PX a.tmps)).run X.P w=.ok vs w
 | [],ds,h=>by cases h;exact⟨[],.nil,rfl⟩
 | r::rs,ds,h=>by
  simp [qf] at h;split at h<;>try trivial
  rename_i d ds' h1 h2;cases h;obtain⟨v,hv,hrun⟩:=ahv hX hr h1;obtain⟨vs,hvs,apI⟩:=Xm hX hr h2;exact⟨v::vs,.cons hv hvs,by simp [hrun,apI]⟩
theorem afH:∀ {ds:J (TV E)}{vs:J Value},bI E w G ds vs->VT E w G (qL ds) (PY vs)
 | [],vs,h=>by grind [bI,qL,PY,VT]
 | [d],vs,h=>by
  obtain⟨u,us,rfl,h1,h2⟩:=h.cons_inv;subst h2
  exact h1
 | d1::d2::ds,vs,h=>by
  obtain⟨u,us,rfl,h1,h2⟩:=h.cons_inv;obtain⟨u2,SN,rfl,h3,h4⟩:=h2.cons_inv
  grind [qL,PY,VT]
theorem An(hX:X.Ok)(hr:Rel E w0 G0 st a w G){ds:J (TV E)}(h:qf X st fn.results.toList=some ds):∃v,VT E w G (qL ds) v/\(results fn a.tmps).run X.P w=.ok v w:=by
 obtain⟨vs,hv,hrun⟩:=Xm hX hr h;refine⟨PY vs,afH hv,?_⟩
 grind [afG,Array.mapM_eq_mapM_toList,Sem.run_bind,Sem.run_map,Result.andThen_ok,Sem.run_pure,ajB]
def Outs.cut(o:Outs):Cut:=⟨[],o.boxes,o.rows,o.soft⟩
def Outs.get(o:Outs)(bR st:TS E)(d:TV E):O (dens E o.tys):=
 match Ff o.res d st with
 | (d,st)=>match o.res.get ⟨List.range o.boxes.length,List.range o.rows.length,st.g.map (·.aF)⟩ d,o.cut.leaves bR st with
  | some a,some b=>getAll o.tys (a++b)
  | _,_=>none
def Bg(n:Nat)(l:J (TV E)):J (TV E):=l++List.replicate (n-l.length) .any
def dc.bR(s:dc)(n:Nat)(ls:J (Lf E)):TS E:=⟨Bg n (s.ds ls),s.H ls,s.g0,[],[],s.c ls⟩
def aq8(s:dc)(fn:Func)(st:TS E):O (Nat×PT):=match fn.results.toList,s.out.res with
 | [.tmp t],.one (.cA j T)=>some (t,.one (.cA j T))
 | [.tmp t],.one (.eu j)=>match st.t[t]? with
  | some (.val (.slice none 0 0))=>some (t,.one (.eu j))
  | _=>none
 | _,_=>none
def GG(s:dc)(fn:Func)(bR st:TS E):TS E:=match aq8 s fn st with
 | some (t,p)=>TQ s.out.cut bR.g.length t p st
 | none=>st
variable{s:dc}{W:J Nat}{nd:Bool}
theorem ame{bR:TS E}(hp:Pre G0 bR)(hr:Rel E w0 G0 st a w G)(hF:Fr W nd bR st):
  ∃G' W',Rel E w0 G0 (GG s fn bR st) a w G'/\Fr W' nd bR (GG s fn bR st)/\(GG s fn bR st).df=st.df:=by
 unfold GG;split
 ·rename_i t p h1
  have hn0:G0.g.length<=bR.g.length:=by
   rcases Yz bR.g.length G0.g.length with hlt|hge
   ·obtain⟨x,hx,-⟩:=hp.rows bR.g.length _ _ (fJ hlt)
    simp_all
   ·exact hge
  obtain⟨⟨G1,eU⟩,f1⟩:=aat s.out.cut bR.g.length t p hn0 hr;exact⟨G1,t::W,eU,Fr.trans hF f1 (fun i hi=>kf _ hi) (fun i hi=>by simp_all) (fun h=>⟨h,rfl⟩),f1.df rfl⟩
 grind
def Y0(q c:Nat)(p:CT)(st:TS E):TS E:=match p,st.H[q]? with
 | .cA j T,some (.cells t cs)=>match cs[c]?,st.g[j]? with
  | some (.val (.slice none 0 0)),some g=>cond (Oc j st.c) {st with H:=st.H.set q (.cells t (cs.set c (.cA j (g.aF+1) T []))),g:=st.g.set j {g with aF:=g.aF+1},d:=q::st.d} st
  | _,_=>st
 | _,_=>st
def Ua(q:Nat):Nat->J CT->TS E->TS E
 | _,[],st=>st
 | c,p::ps,st=>Ua q (c+1) ps (Y0 q c p st)
def vZ:Nat->J (O BT)->TS E->TS E
 | _,[],st=>st
 | q,some (.cells _ ps)::bs,st=>vZ (q+1) bs (Ua q 0 ps st)
 | q,_::bs,st=>vZ (q+1) bs st
theorem ajC(q c:Nat)(p:CT)(hr:Rel E w0 G0 st a w G):(∃G',Rel E w0 G0 (Y0 q c p st) a w G')/\Fr [] true st (Y0 q c p st):=by
 have vW:(∃G',Rel E w0 G0 st a w G')/\Fr [] true st st:=⟨⟨G,hr⟩,Fr.refl _ _ _⟩;unfold Y0;split
 ·rename_i j T t cs hq
  split
  ·rename_i g hc hg
   generalize hb:Oc j st.c=b;cases b
   ·exact vW
   obtain⟨hd,hj⟩:=hr.AU hg;have hjl:=(eV.1 hj).1;have hN:=hr.PR (x':={g with aF:=g.aF+1}) hj (I5 _) (xo _) (Od hb) (fun b hb=>nomatch hb) (fun _ _ _ _ _ _ _ hb=>nomatch hb);have hlr:q<G.i.length:=by rw [hr.boxes.len];grind
   have hat:=fJ hlr;refine⟨⟨_,hN.yG hat rfl rfl rfl rfl (fun _ _=>rfl) (fun _=>?_)⟩,rfl,fun _ _=>rfl,⟨[q],rfl,fun r _ hr=>?_⟩,si,fun _=>rfl⟩
   ·obtain⟨vs,h1,h2,h3⟩:=hN.boxes.box q _ _ hat hq
    refine⟨vs,h1,h2,?_⟩;obtain⟨u,hu,hv⟩:=h3.get c hc;subst hv
    have key:∀(w1:World)(G1:bq)(cs:J (TV E))(vs:J Value)(c:Nat)(d:TV E),bI E w1 G1 cs vs->vs[c]? = some (.slice none 0 0)->VT E w1 G1 d (.slice none 0 0)->bI E w1 G1 (cs.set c d) vs:=by
     intro w1 G1 cs
     induction cs with
     | nil=>simp_all
     | cons x cs ih=>
      intro vs c d h1 h2 h3;obtain⟨u,us,rfl,q1,q2⟩:=h1.cons_inv
      cases c with
      | zero=>simp at h2;subst h2;exact .cons h3 q2
      | succ c=>exact .cons q1 (ih us c d q2 (by simpa using h2) h3)
    refine key _ _ cs vs.toList c _ h3 hu ?_;exact⟨.va _ _,{g with aF:=g.aF+1},.slice none 0 0,by simp [hjl],ek _,fun _=>rfl⟩
   grind
  ·exact vW
 ·exact vW
theorem Xn(q:Nat){w0 w:U}{G0:bq}{a:Act}:∀(ps:J CT)(c:Nat){st:TS E}{G:bq},Rel E w0 G0 st a w G->(∃G',Rel E w0 G0 (Ua q c ps st) a w G')/\Fr [] true st (Ua q c ps st)
 | [],_,_,G,hr=>⟨⟨G,hr⟩,Fr.refl _ _ _⟩
 | p::ps,c,st,G,hr=>by
  obtain⟨⟨G1,eU⟩,f1⟩:=ajC q c p hr;obtain⟨h2,f2⟩:=Xn q ps (c+1) eU;exact⟨h2,Fr.trans f1 f2 (fun _ h=>h) (fun _ h=>h) (fun _=>⟨rfl,rfl⟩)⟩
theorem z6{w0 w:U}{G0:bq}{a:Act}:∀(bs:J (O BT))(q:Nat){st:TS E}{G:bq},Rel E w0 G0 st a w G->(∃G',Rel E w0 G0 (vZ q bs st) a w G')/\Fr [] true st (vZ q bs st)
 | [],_,_,G,hr=>⟨⟨G,hr⟩,Fr.refl _ _ _⟩
 | some (.cells _ ps)::bs,q,st,G,hr=>by
  obtain⟨⟨G1,eU⟩,f1⟩:=Xn q ps 0 hr;obtain⟨h2,f2⟩:=z6 bs (q+1) eU
  exact⟨h2,Fr.trans f1 f2 (fun _ h=>h) (fun _ h=>h) (fun _=>⟨rfl,rfl⟩)⟩
 | none::bs,q,st,G,hr=>z6 bs (q+1) hr
 | some (.map _ _)::bs,q,st,G,hr=>z6 bs (q+1) hr
 | some .iter::bs,q,st,G,hr=>z6 bs (q+1) hr
 | some (.loop _ _)::bs,q,st,G,hr=>z6 bs (q+1) hr
theorem adw{bR:TS E}(hp:Pre G0 bR)(hr:Rel E w0 G0 st a w G)(hF:Fr W nd bR st):
  ∃G' W',Rel E w0 G0 (GG s fn bR (vZ 0 s.out.boxes st)) a w G'/\Fr W' nd bR (GG s fn bR (vZ 0 s.out.boxes st))/\(GG s fn bR (vZ 0 s.out.boxes st)).df=st.df:=by
 obtain⟨⟨G1,eU⟩,f1⟩:=z6 s.out.boxes 0 hr;obtain⟨G2,W2,h1,h2,h3⟩:=ame hp eU (Fr.trans hF f1 (fun _ h=>h) (fun _ h=>nomatch h) (fun h=>⟨h,rfl⟩));exact⟨G2,W2,h1,h2,h3.trans (f1.df rfl)⟩
def Om(X:Cx E)(s:dc)(fn:Func)(bR st:TS E):O (dens E s.out.tys):=(qf X (GG s fn bR (vZ 0 s.out.boxes st)) fn.results.toList).bind fun ds=>s.out.get bR (GG s fn bR (vZ 0 s.out.boxes st)) (qL ds)
def nU(X:Cx E)(s:dc)(fn:Func)(bR:TS E):(p:O Outs)->Ex E->TS E->O (OutP E s.out p)
 | none,.ret,st=>Om X s fn bR st
 | none,.normal,st=>Om X s fn bR st
 | some q,.ret,st=>Xi (Om X s fn bR st)
 | some q,.normal,st=>Xi (Om X s fn bR st)
 | some q,.panic d,st=>zA (q.get bR st d)
 | _,_,_=>none
noncomputable def aaF(X:Cx E)(F:Nat)(s:dc)(fn:Func)(pl:dN)(x:dens E s.tys):O (OutP E s.out s.lU):=
 match fn.body with
 | some c=>rq (jg c) (runT X F c pl (s.bR fn.ntmps (aP s.tys x)) (nU X s fn (s.bR fn.ntmps (aP s.tys x)) s.lU))
 | none=>none
variable{args:aG Value}{ls:J (Lf E)}{y:OutP E s.out s.lU}{P:bh}{f:FuncId}{F:Nat}{pl:dN}{x:dens E s.tys}
theorem Rel.init{n:Nat}(hP:p6 E w G)(hB:lP E w G (s.H ls) s.g0)(hS:kH E w G (s.c ls))(hV:bI E w G (s.ds ls) args.toList):
  Rel E w G (s.bR n ls) {tmps:=args++Array.replicate (n-args.size) undef,defers:=[]} w G:=by
 have hl:args.size=(s.ds ls).length:=by simpa using hV.length
 refine⟨kQ.refl w G,?_,fun j d hj=>?_,trivial,hB,fun _ _ _ _=>rfl,hP,hS⟩
 ·simp [dc.bR,Bg,hl]
 ·have hj:(Bg n (s.ds ls))[j]? = some d:=hj
  unfold Bg at hj;by_cases hlt:j<(s.ds ls).length
  ·rw [vq hlt] at hj
   obtain⟨u,hu,hv⟩:=hV.get j hj
   simp_all [akU]
  grind [List.mem_of_getElem?,VT]
theorem Outs.GH(hE:E.Ok){o:Outs}{ok:Bool}{w':U}{G':bq}{bR:TS E}{d:TV E}{v:Value}{y:dens E o.tys}(hp:Pre G bR)(Q7:bR.d=[])(hdf:st.df=bR.df)(hr:Rel E w G st a w' G')(hF:Fr W nd bR st)(hv:VT E w' G' d v)(h:o.get bR st d=some y):
  ∃G2,kQ w G w' G2/\lP E w' G2 (o.mM ok bR.H bR.g (aP o.tys y)).H (o.mM ok bR.H bR.g (aP o.tys y)).g/\kH E w' G2 (o.mM ok bR.H bR.g (aP o.tys y)).c/\VT E w' G2 (o.mM ok bR.H bR.g (aP o.tys y)).d v /\
   ∀(q b:Nat),G.i[q]? = some b->q∉(o.mM ok bR.H bR.g (aP o.tys y)).D->w'.heap[b]? = w.heap[b]?:=by
 unfold Outs.get at h;obtain⟨d1,jF,hh⟩:∃d1 jF,Ff o.res d st=(d1,jF):=⟨_,_,rfl⟩;rw [hh] at h;dsimp only at h;split at h<;>try trivial
 rename_i la lb hla hlb;obtain⟨o1,G1,eU,-,ve⟩:=aam o.res d hr;have hv:=ve v hv;rw [hh] at o1 eU hv;have hr:=eU
 have hF:Fr W nd bR jF:=by
  obtain⟨c,rfl⟩:=o1;exact⟨hF.len,hF.keep,hF.d,hF.hl,hF.df⟩
 have hdf:jF.df=bR.df:=by
  obtain⟨c,rfl⟩:=o1;exact hdf
 obtain⟨D,hD,hH⟩:=hF.d;obtain⟨G2,hR,hL⟩:=Rel.cut hE hp hr hF.len hF.keep hD hH hdf hlb;have hput:=Dr _ h;obtain⟨e1,e2⟩:=PT.sound hE hL hla hv;rw [hput];simp [Outs.mM];have e3:(o.res.put (o.n1 bR.g) (la++lb)).2=lb:=e1;refine⟨G2,hR.eX,?_,?_,e2,fun q b hq hd=>hR.fix q b hq ?_⟩
 ·rw [e3]
  exact hR.boxes
 ·rw [e3]
  exact hR.gr
 ·show q∉Dt 0 o.boxes++bR.d
  simp_all
theorem tN{c:Code}{R:Ending->U->Prop}(hf:P.funcs[f]? = some fn)(hb:fn.body=some c)(hn:(fn.name == "runtime.NumGoroutine")=false)(h:Calls P f args w R):kn P f args w R:=by
 have:(callFunc f args).run P w=.ok (.enter f args) w:=by
  simp only [callFunc,jf,run_program,jG,hf,hn,hb];simp
 simp_all [kn]
theorem afI(hX:X.Ok)(hf:X.P.funcs[s.f]? = some fn)(hn:(fn.name == "runtime.NumGoroutine")=false)(h:aaF X F s fn pl x=some y):
  lE X.P s.f (s.ds (aP s.tys x)) (s.H (aP s.tys x)) s.g0 (s.c (aP s.tys x)) (ko s (s.H (aP s.tys x)) s.lU y):=by
 unfold aaF at h;split at h<;>try trivial
 rename_i c hb;obtain⟨hnd,h⟩:=dQ h;intro w G args hP hB hS hV;have Gj:=Rel.init (n:=fn.ntmps) hP hB hS hV;have hpre:=Gj.pre;refine tN hf hb hn (calls_of_wp hf hb (wp_mono ((tY hX c pl h).wp Gj) fun e a' w' hp=>?_));obtain⟨ex,st,G',he,hr,hk,hF⟩:=hp;have hdf:=hF.df hnd
 have I8:a'.defers=[]:=by
  have:=hr.defers;rw [hdf] at this
  cases hd:a'.defers with
  | nil=>rfl
  | cons d ds=>rw [hd] at this;exact this.elim
 have okc:∀ {y:dens E s.out.tys},Om X s fn (s.bR fn.ntmps (aP s.tys x)) st=some y ->
   ∃v,(results fn a'.tmps).run X.P w'=.ok v w'/\∃v1 G2,Ending.returned v=C2 (s.out.mM true (s.H (aP s.tys x)) s.g0 (aP s.out.tys y)).ok v1/\kQ w G w' G2 /\
    lP E w' G2 (s.out.mM true (s.H (aP s.tys x)) s.g0 (aP s.out.tys y)).H (s.out.mM true (s.H (aP s.tys x)) s.g0 (aP s.out.tys y)).g/\kH E w' G2 (s.out.mM true (s.H (aP s.tys x)) s.g0 (aP s.out.tys y)).c/\VT E w' G2 (s.out.mM true (s.H (aP s.tys x)) s.g0 (aP s.out.tys y)).d v1 /\
    ∀(q b:Nat),G.i[q]? = some b->q∉(s.out.mM true (s.H (aP s.tys x)) s.g0 (aP s.out.tys y)).D->w'.heap[b]? = w.heap[b]?:=by
  intro y hy;unfold Om at hy;obtain⟨G3,W3,hr,hF,ajD⟩:=adw hpre hr hF;generalize GG s fn (s.bR fn.ntmps (aP s.tys x)) (vZ 0 s.out.boxes st)=Zx at *
  cases hds:qf X Zx fn.results.toList with
  | none=>rw [hds] at hy;cases hy
  | some ds=>
   rw [hds] at hy;obtain⟨v,hv,hrun⟩:=An hX hr hds;obtain⟨G2,q1,q2,q3,q4,q5⟩:=Outs.GH hX.E hpre rfl (ajD.trans hdf) hr hF hv hy;exact⟨v,hrun,v,G2,rfl,q1,q2,q3,q4,q5⟩
 have fin:∀(p:O Outs)(y:OutP E s.out p),nU X s fn (s.bR fn.ntmps (aP s.tys x)) p ex st=some y->bodyPost X.P fn (fun e w'=>∃v G',e=C2 (ko s (s.H (aP s.tys x)) p y).ok v/\kQ w G w' G'/\lP E w' G' (ko s (s.H (aP s.tys x)) p y).H (ko s (s.H (aP s.tys x)) p y).g/\kH E w' G' (ko s (s.H (aP s.tys x)) p y).c /\
   VT E w' G' (ko s (s.H (aP s.tys x)) p y).d v/\∀(q b:Nat),G.i[q]? = some b->q∉(ko s (s.H (aP s.tys x)) p y).D->w'.heap[b]? = w.heap[b]?) e a' w':=by
  intro p y hk
  cases p with
  | none=>
   cases ex<;>cases e<;>try (exact he.elim)
   ·obtain⟨v,hrun,h2⟩:=okc hk;exact⟨I8,v,hrun,h2⟩
   ·cases hk
   ·cases hk
   ·obtain⟨v,hrun,h2⟩:=okc hk;exact⟨I8,v,hrun,h2⟩
   ·cases hk
  | some q=>
   cases ex<;>cases e<;>try (exact he.elim)
   ·obtain⟨y',hy,rfl⟩:=Lq hk;obtain⟨v,hrun,h2⟩:=okc hy;exact⟨I8,v,hrun,h2⟩
   ·cases hk
   ·cases hk
   ·obtain⟨y',hy,rfl⟩:=Lq hk;obtain⟨v,hrun,h2⟩:=okc hy;exact⟨I8,v,hrun,h2⟩
   ·obtain⟨y',hy,rfl⟩:=Oi hk
    obtain⟨v,rfl,hv⟩:=he;obtain⟨G2,q1,q2,q3,q4,q5⟩:=Outs.GH hX.E hpre rfl hdf hr hF hv hy;exact⟨I8,v,G2,rfl,q1,q2,q3,q4,q5⟩
 exact fin s.lU y hk
variable{l:Nat}{r:Loop}
theorem EG{o:Nat}(h:w.heap[l]? = some (.loop r)):w.cell? ⟨l,o,none⟩=none:=by
 simp [World.cell?,h]
theorem On(o:Obj)(h:w.heap[l]? = some (.loop r)):iB w G (w.putObj l o) G:=by
 refine⟨fun _ _ h=>h,fun b c v _ hv=>?_,fun _ _ h=>h,fun j x y hj=>⟨x,y,hj,ek _,fun _=>rfl⟩⟩
 grind [EG,World.cell?_of_block,World.putObj_heap_other]
variable{tmps:aG Value}{C:bJ E}
theorem lP.turn{H:J (fM E)}{gs:J cH}(o:Obj)(h:w.heap[l]? = some (.loop r))(hl:l∉G.i)(hB:lP E w G H gs):lP E (w.putObj l o) G H gs:=by
 have hg:=On (G:=G) o h;refine⟨hB.len,hB.gs,fun q b x hq hx=>(hB.box q b x hq hx).mono hg (World.putObj_heap_other fun e=>hl (by grind)),fun b hb=>by simpa using hB.lt b hb,hB.nodup,fun b o' hp=>by simpa using hB.gq b o' hp,fun j x y hj=>?_,hB.apart⟩;obtain⟨n,xs,ho,hz,hb⟩:=hB.grow j x y hj;refine⟨n,xs,⟨ho.1,?_⟩,hz,fun b Gp=>by simpa using hb b Gp⟩;rcases ho.2 with h2|⟨g,cap,cur,h2,h3,h4,h5⟩
 ·exact .inl h2
 ·refine .inr ⟨g,cap,cur,h2,h3,?_,h5⟩
  rw [I6 (fun e=>by simp_all)];exact h4
theorem kH.turn{cs:J (Nat×Cn E)}(o:Obj)(h:w.heap[l]? = some (.loop r))(hS:kH E w G cs):kH E (w.putObj l o) G cs:=by
 have hg:=On (G:=G) o h;intro j c hj;obtain⟨x,hd,h1,h2,h3,⟨vals,ho,hf⟩,hp⟩:=hS j c hj;refine⟨x,hd,h1,h2,h3,⟨vals,⟨ho.1,?_⟩,hf.mono hg.pr hg.cells⟩,hp⟩;rcases ho.2 with q|⟨g,cap,cur,q1,q2,q3,q4⟩
 ·exact .inl q
 ·refine .inr ⟨g,cap,cur,q1,q2,?_,q4⟩
  rw [I6 (fun e=>by simp_all)];exact q3
theorem p6.turn(o:Obj)(h:w.heap[l]? = some (.loop r))(hP:p6 E w G):p6 E (w.putObj l o) G:=by
 intro b p hb;obtain⟨⟨cs,t,m,h1,hp⟩,h2⟩:=hP b p hb;exact⟨⟨cs,t,m,by rw [I6 (fun e=>by simp_all)];exact h1,hp⟩,h2⟩
theorem kQ.turn(o:Loop)(h0:l<w0.heap.size)(h:w.heap[l]? = some (.loop r))(hE:kQ w0 G0 w G):kQ (w0.putObj l (.loop o)) G0 (w.putObj l (.loop o)) G:=by
 have hlt:=(Ag.1 h).1;refine⟨hE.os,hE.tape,hE.output,by simpa using hE.size,fun b hb hf=>?_,⟨hE.goes.pr,fun b c v hp hv=>?_,hE.goes.i,hE.goes.g⟩,fun b c hb hp=>hE.oe b c (by simpa using hb) hp,fun q b hq hb=>by simpa using hE.qH q b hq hb,fun j x y b hj hb=>by simpa using hE.gL j x y b hj hb⟩
 ·by_cases e:b=l
  ·subst e;rw [U2 hlt,U2 h0]
  ·rw [I6 e,I6 e];exact hE.old b (by simpa using hb) hf
 ·by_cases e:b=l
  ·subst e;rw [EG (U2 h0)] at hv;cases hv
  ·rw [U3 (I6 e)] at hv⊢
   exact hE.goes.cells b c v hp hv
theorem ahw(hE:kQ w0 G0 w G)(h0:l<w0.heap.size)(hf:¬ G0.Ea l):¬ G.Ea l:=by
 intro hf';refine hf ?_;rcases hf' with hf|⟨x,hd,hm,hbk⟩
 ·obtain⟨q,hq,he⟩:=lS hf
  have TD:G.i[q]? = some l:=by simp_all
  by_cases tC:q<G0.i.length
  ·have e1:=hE.goes.i q _ (fJ tC)
   exact .inl (by simp_all)
  ·have:=hE.qH q l om TD;omega
 ·obtain⟨j,hj,he⟩:=lS hm
  rcases hE.gL j x hd l (by simp_all) hbk with q|⟨x0,h0',q1,q2⟩
  ·omega
  ·exact .inr ⟨x0,h0',jo q1,q2⟩
theorem Rel.turn(o:Loop)(hr:Rel E w0 G0 st a w G)(h0:w0.heap[l]? = some (.loop r))(hf:¬ G0.Ea l):w.heap[l]? = some (.loop r)/\Rel E (w0.putObj l (.loop o)) G0 st a (w.putObj l (.loop o)) G:=by
 have hl0:=(Ag.1 h0).1;have h:w.heap[l]? = some (.loop r):=by rw [hr.eX.old l hl0 hf];exact h0
 have hg:=On (G:=G) (.loop o) h;have hfG:=ahw hr.eX hl0 hf;refine⟨h,hr.eX.turn o hl0 h,hr.size,fun j d hj=>(hr.tmps j d hj).mono hg,hr.defers.mono hg,hr.boxes.turn _ h (fun hm=>hfG (.inl hm)),fun q b hq hd=>?_,hr.pins.turn _ h0,hr.gr.turn _ h⟩;have hne:b≠l:=fun e=>hf (.inl (by grind));rw [I6 hne,I6 hne];exact hr.fix q b hq hd
def Y1:J Tmp->J (TV E)->J (TV E)->J (TV E)
 | p::ps,x::xs,t=>Y1 ps xs (t.set p x)
 | _,_,t=>t
theorem aaG{w:U}{G:bq}:∀(ps:J Tmp)(xT:J (TV E))(xV:J Value)(t:J (TV E))(tmps:aG Value),bI E w G xT xV->xT.length=ps.length->tmps.size=t.length->(∀j d,t[j]? = some d->VT E w G d (tmps.getD j undef)) ->
  ((ps.zip xV).foldl (fun t (p,v)=>t.setIfInBounds p v) tmps).size=(Y1 ps xT t).length/\∀j d,(Y1 ps xT t)[j]? = some d->VT E w G d (((ps.zip xV).foldl (fun t (p,v)=>t.setIfInBounds p v) tmps).getD j undef)
 | [],xT,xV,t,tmps,hv,hl,hs,ht=>by
  cases xT with
  | nil=>exact⟨hs,ht⟩
  | cons _ _=>cases hl
 | p::ps,[],xV,t,tmps,hv,hl,hs,ht=>by cases hl
 | p::ps,x::xs,xV,t,tmps,hv,hl,hs,ht=>by
  obtain⟨u,us,rfl,h1,h2⟩:=hv.cons_inv;refine aaG ps xs us (t.set p x) (tmps.setIfInBounds p u) h2 (by simpa using hl) (by simpa using hs) fun j d hj=>?_;by_cases hjp:p=j
  ·by_cases hlt:p<t.length
   ·simp_all
   simp_all
  simp_all
def aaH(s:dc)(Y:YD)(ls:J (Lf E)):TS E:=⟨Y1 Y.params.toList ((s.ds ls).take Y.params.size) ((s.ds ls).drop Y.params.size),s.H ls,s.g0,[],[],s.c ls⟩
def okH:J (fM E)->Bool
 | []=>true
 | x::xs=>(match x with | .cells _ _=>true | .iter _ _=>true | .map _ _ _=>true|_=>false)&&okH xs
def aog(s:dc)(bR:TS E):(p:O Outs)->Ex E->TS E->O (OutP E s.out p)
 | none,.normal,st=>s.out.get bR st (.dat .bool true)
 | _,_,_=>none
noncomputable def aoh(X:Cx E)(F:Nat)(s:dc)(Y:YD)(pl:dN)(x:dens E s.tys):O (OutP E s.out s.lU):=
 rq (uC Y.assign&&jg Y.assign&&(uC Y.body&&jg Y.body)&&okH (s.H (aP s.tys x))) (runT X F Y.assign .leaf (aaH s Y (aP s.tys x)) (jx (fun jF=>runT X F Y.body pl jF (aog s (aaH s Y (aP s.tys x)) s.lU)) fun _ _=>none))
theorem bI.ahx{w:U}{G:bq}:∀ {ds:J (TV E)}{vs us:J Value},bI E w G ds (vs++us)->bI E w G (ds.take vs.length) vs/\bI E w G (ds.drop vs.length) us
 | ds,[],us,h=>⟨by simpa using bI.nil,by simpa using h⟩
 | [],v::vs,us,h=>by simp_all [bI]
 | d::ds,v::vs,us,h=>by
  obtain⟨u,us',e,h1,h2⟩:=h.cons_inv;cases e;obtain⟨q1,q2⟩:=bI.ahx h2;exact⟨by simpa using bI.cons h1 q1,by simpa using q2⟩
theorem ahy{w:U}{G:bq}{l:Nat}{r:Loop}(h:w.heap[l]? = some (.loop r)):∀ {H:J (fM E)}{q:Nat}{x:fM E},okH H=true->H[q]? = some x->¬ jS E w G l x
 | [],_,_,_,hx=>by cases hx
 | y::H,0,x,ho,hx=>by
  cases hx;intro hb;simp [okH] at ho
  cases y with
  | cells ty cs=>obtain⟨vs,h1,-⟩:=hb;rw [h] at h1;cases h1
  | iter s p=>have h1:w.heap[l]? = _:=hb;rw [h] at h1;cases h1
  | map kt vt m=>obtain⟨es,clock,h1,-⟩:=hb;rw [h] at h1;cases h1
  | _=>cases ho.1
 | y::H,q+1,x,ho,hx=>by
  simp [okH] at ho;exact ahy h ho.2 (by simpa using hx)
theorem Rel.apJ{Y:YD}{xs:aG Value}(hn:xs.size=Y.params.size)(hP:p6 E w G)(hB:lP E w G (s.H ls) s.g0)(hS:kH E w G (s.c ls))(hV:bI E w G (s.ds ls) (xs++tmps).toList):
  Rel E w G (aaH s Y ls) {tmps:=(Y.params.zip xs).foldl (fun t (p,v)=>t.setIfInBounds p v) tmps,defers:=[]} w G:=by
 rw [Array.toList_append] at hV;obtain⟨h1,h2⟩:=bI.ahx hV;have hx:xs.toList.length=Y.params.size:=by simpa using hn
 rw [hx] at h1 h2
 have hf:(Y.params.zip xs).foldl (fun t (p,v)=>t.setIfInBounds p v) tmps=(Y.params.toList.zip xs.toList).foldl (fun t (p,v)=>t.setIfInBounds p v) tmps:=by
  rw [<-Array.foldl_toList,Array.toList_zip]
 obtain⟨q1,q2⟩:=aaG Y.params.toList ((s.ds ls).take Y.params.size) xs.toList ((s.ds ls).drop Y.params.size) tmps h1 (by have:=h1.length;simp at this⊢;omega) (by simpa using h2.length) (fun j d hj=>by
  obtain⟨u,hu,hv⟩:=h2.get j hj
  simp_all)
 refine⟨kQ.refl w G,?_,fun j d hj=>?_,trivial,hB,fun _ _ _ _=>rfl,hP,hS⟩
 ·show (_:aG Value).size=_;rw [hf];exact q1
 ·show VT E w G d (Array.getD _ j undef);rw [hf];exact q2 j d hj
theorem acG{o o':Obj}(h:w.heap[l]? = some o):(w.putObj l o').putObj l o=w:=by
 have:(w.heap.setIfInBounds l o').setIfInBounds l o=w.heap:=by
  grind
 unfold World.putObj;simp [this]
theorem bJ.aoi(hX:X.Ok){Y:YD}(hY:∀Y',E.yd C.s.f Y'->Y'=Y)(h:∀x,aoh X F C.s Y pl x=C.m x):C.GC (VJ E X.P):=by
 intro x y hy;have h1:aoh X F C.s Y pl x=some y:=by rw [h x];exact hy
 intro w G args hP hB hS hV Y' fn l D xs tmps hY' hargs hsz hheap;have hY':=(hY Y' hY').symm;subst hY';subst hargs;obtain⟨hc,h1⟩:=dQ h1;simp at hc;obtain⟨⟨⟨ha1,sw⟩,vz,nN⟩,hok⟩:=hc
 have hf:¬ G.Ea l:=by
  rintro (hm|⟨z,hd,hm,hbk⟩)
  ·obtain⟨q,hq,he⟩:=lS hm
   have hq2:q<(C.s.H (aP C.s.tys x)).length:=by rw [<-hB.len];exact hq
   exact ahy hheap hok (fJ hq2) (hB.box q l _ (by simp_all) (fJ hq2))
  ·obtain⟨j,hj,he⟩:=lS hm
   obtain⟨n,xs',ho,-,-⟩:=hB.grow j z hd (by simp_all);rcases ho.2 with⟨h2,-⟩|⟨g,cap,cur,h2,h3,h4,h5⟩
   ·rw [h2] at hbk;cases hbk
   ·rw [h2] at hbk
    cases hbk
    simp_all
 have Gj:=Rel.apJ hsz hP hB hS hV;have hpre:=Gj.pre;refine roundIn_of_wpIn trivial ?_;refine wpIn_mono ((tY hX Y.assign .leaf h1) (some l) (fun _=>ha1) w G _ w G Gj) fun e a1 w1 hp=>?_;obtain⟨x1,jF,G1,he,eU,hq,hF1⟩:=hp;cases x1<;>try trivial
 cases e<;>try (exact he.elim)
 obtain⟨hl1,hrt⟩:=eU.turn ⟨.busy,none,fn,tmps,Y.params,Y.assign,Y.body,D⟩ hheap hf;refine⟨_,run_beginRound hl1 rfl,?_⟩;refine wpIn_mono ((tY hX Y.body pl hq) (some l) (fun _=>vz) _ G a1 _ G1 hrt) fun e a2 w2 hp=>?_;obtain⟨x2,zT,G2,WH,hr2,hq2,rU⟩:=hp
 have fin:∀(p:O Outs)(y:OutP E C.s.out p),aog C.s (aaH C.s Y (aP C.s.tys x)) p x2 zT=some y->x2=.normal/\∃v w',(Instr.endRound l none).run X.P w2=.ok v w'/\zf E w G (ko C.s (C.s.H (aP C.s.tys x)) p y) (.returned v) w':=by
  intro p y hk
  cases p with
  | some q=>cases hk
  | none=>
   cases x2<;>try trivial
   refine⟨rfl,?_⟩;obtain⟨hl2,hr3⟩:=hr2.turn ⟨.ready,none,fn,tmps,Y.params,Y.assign,Y.body,D⟩ (U2 (Ag.1 hheap).1) hf;rw [acG hheap] at hr3;refine⟨_,_,run_endRound none hl2,?_⟩;have hF:Fr (wr Y.assign++wr Y.body) true (aaH C.s Y (aP C.s.tys x)) zT:=hF1.trans rU (fun j hj=>by simp [hj]) (fun j hj=>by simp [hj]) (fun _=>⟨sw,nN⟩);have hv:VT E (w2.putObj l (.loop ⟨.ready,none,fn,tmps,Y.params,Y.assign,Y.body,D⟩)) G2 (.dat .bool true) (.bool true):=⟨VD.bool true,trivial⟩;obtain⟨G3,q1,q2,q3,q4,q5⟩:=Outs.GH hX.E hpre rfl (hF.df rfl) hr3 hF hv hk;exact⟨.bool true,G3,rfl,q1,q2,q3,q4,q5⟩
 obtain⟨rfl,v,w',hend,hres⟩:=fin C.s.lU y hq2;cases e<;>try (exact WH.elim)
 exact⟨v,w',hend,hres⟩
def VP(P:bh):Inv:=fun f args w R=>kn P f args w R
theorem VP.mono(P:bh):(VP P).aaq:=fun f args w R R' h hi=>by
 unfold VP kn at *;split at hi
 ·exact Ge hi h
 ·exact h _ _ hi
 ·exact hi.elim
theorem bJ.Ok.gok(h:C.Ok P):C.GC (VP P):=fun x y hy=>h x y hy
def Ls(keep:J Nat)(t:J (TV E)):J (TV E):=t.zipIdx.map fun p=>cond (keep.elem p.2) p.1 .any
noncomputable def runM(X:Cx E)(F:Nat):Code->dN->{R:Type}->TS E->(Ex E->TS E->O R)->O R
 | .seq a b,p,_,st,k=>match p with
  | .Jn ow p q=>match sQ (wr a++wr b) ow st with
   | none=>none
   | some st=>runM X F a p st (jx (fun st'=>runM X F b q st' k) k)
  | p=>runT X F (.seq a b) p st k
 | .block i a,p,_,st,k=>match p with
  | .aaA p=>runM X F a p st (T6 i k)
  | p=>runT X F (.block i a) p st k
 | .rangeFunc g ps a b,p,_,st,k=>match p with
  | .range ow y f keep=>match sQ [] ow st with
   | none=>none
   | some st=>match st.ev g with
    | .func (.func f') caps=>cond (Nat.beq f f')
     (q8 {st with H:=(st.H++[.QS])++[.loop y (Ls keep st.t)],df:=(AH,[.ux st.H.length])::st.df} none f (.ux (st.H.length+1)::caps) (jx (fun st'=>match st'.H[st.H.length+1]? with
      | some (.loop _ _)=>k .normal {st' with H:=st'.H.set (st.H.length+1) .gone,d:=(st.H.length+1)::st'.d}
      | _=>none) fun _ _=>none) X.Γ) none
    | _=>none
  | _=>none
 | c,p,_,st,k=>runT X F c p st k
def GJ(E:TEnv)(P:bh):Code->dN->Prop
 | .seq a b,.Jn _ p q=>GJ E P a p/\GJ E P b q
 | .block _ a,.aaA p=>GJ E P a p
 | .rangeFunc _ ps a b,.range _ y f _=>E.yd y ⟨ps,a,b⟩/\∀args w,(callFunc f args).run P w=.ok (.enter f args) w
 | _,_=>True
def Lt:Code->dN->J (Nat×FuncId×YD)
 | .seq a b,.Jn _ p q=>Lt a p++Lt b q
 | .block _ a,.aaA p=>Lt a p
 | .rangeFunc _ ps a b,.range _ y f _=>[(y,f,⟨ps,a,b⟩)]
 | _,_=>[]
def Dw:Code->J Bool->O YD
 | .rangeFunc _ ps a b,_=>some ⟨ps,a,b⟩
 | .seq a _,false::p=>Dw a p
 | .seq _ b,true::p=>Dw b p
 | .cond _ a _,false::p=>Dw a p
 | .cond _ _ b,true::p=>Dw b p
 | .block _ a,p=>Dw a p
 | .scope a,p=>Dw a p
 | .loop a,p=>Dw a p
 | _,_=>none
def Ub:Nat->Func->J Bool->YD
 | 0,f,p=>match f.body with
  | some c=>match Dw c p with
   | some y=>y
   | none=>⟨#[],.skip,.skip⟩
  | none=>⟨#[],.skip,.skip⟩
 | n+1,f,p=>Ub n f p
def aaI(E:TEnv)(P:bh)(t:Nat×FuncId×YD):Prop:=E.yd t.1 t.2.2/\∀args w,(callFunc t.2.1 args).run P w=.ok (.enter t.2.1 args) w
theorem amf:∀(c:Code)(p:dN),(∀t∈Lt c p,aaI E P t)->GJ E P c p:=by
 intro c
 induction c with
 | seq a b EA EB=>
  intro p h;cases p<;>try (simp [GJ];done)
  simp only [Lt,qF] at h
  exact⟨EA _ fun t ht=>h t (.inl ht),EB _ fun t ht=>h t (.inr ht)⟩
 | block i a ih=>
  intro p h;cases p<;>try (simp [GJ];done)
  exact ih _ h
 | rangeFunc g ps a b _ _=>
  intro p h;cases p<;>try (simp [GJ];done)
  simp only [Lt,nM] at h
  exact h _ rfl
 | _=>simp_all [GJ]
theorem ydC{t:Nat×FuncId×YD}{l:J (Nat×FuncId×YD)}(h:aaI E P t)(hs:∀t∈l,aaI E P t):∀t'∈t::l,aaI E P t':=fun t' ht=>by
 grind
variable{R:Type}{keep:J Nat}
theorem ajE{t:J (TV E)}(hs:tmps.size=t.length)(h:∀j d,t[j]? = some d->VT E w G d (tmps.getD j undef)):bI E w G (Ls keep t) tmps.toList:=by
 have key:∀(t:J (TV E))(vs:J Value)(n:Nat),vs.length=t.length->(∀j d,t[j]? = some d->VT E w G d (vs.getD j undef))->bI E w G ((t.zipIdx n).map fun p=>cond (keep.elem p.2) p.1 .any) vs:=by
  intro t
  induction t with
  | nil=>intro vs n hl _;cases vs with|nil=>exact .nil|cons _ _=>cases hl
  | cons d t ih=>
   intro vs n hl h
   cases vs with
   | nil=>cases hl
   | cons v vs=>
    rw [List.zipIdx_cons,jU];refine .cons ?_ (ih vs (n+1) (by simpa using hl) fun j d' hj=>by simpa using h (j+1) d' (by simpa using hj));cases keep.elem n
    ·simp [VT]
    ·simpa using h 0 d rfl
 refine key t tmps.toList 0 (by simpa using hs) fun j d hj=>?_
 simp_all
theorem Rel.aoj(hr:Rel E w0 G0 st a w G):Rel E w G st a w G:=
 ⟨kQ.refl w G,hr.size,hr.tmps,hr.defers,hr.boxes,fun _ _ _ _=>rfl,hr.TF,hr.gr⟩
theorem Rel.over{w1 w2:U}{G1 G2:bq}{a1 a2:Act}{jF zT:TS E}(h1:Rel E w0 G0 jF a1 w1 G1)(h2:Rel E w1 G1 zT a2 w2 G2)(hd:∀q,q∈jF.d->q∈zT.d):Rel E w0 G0 zT a2 w2 G2:=
 ⟨h1.eX.trans h2.eX,h2.size,h2.tmps,h2.defers,h2.boxes,fun q b hq hn=>(h2.fix q b (h1.eX.goes.i q b hq) hn).trans (h1.fix q b hq fun hm=>hn (hd q hm)),h1.pins,h2.gr⟩
theorem afJ(hX:X.Ok){g:Operand}{ps:Array Tmp}{ca cb:Code}{y:FuncId}{k:Ex E->TS E->Option R}{r:R}{ow:J Own}(h:runM X F (.rangeFunc g ps ca cb) (.range ow y f keep) st k=some r)
  (hy:GJ E X.P (.rangeFunc g ps ca cb) (.range ow y f keep)):HZ E X.P (.rangeFunc g ps ca cb) st (fun x st'=>k x st'=some r/\Fr [] false st st'):=by
 obtain⟨hyd,hent⟩:=hy;simp only [runM] at h;split at h<;>try trivial
 rename_i mE Uc
 suffices hmain:HZ E X.P (.rangeFunc g ps ca cb) mE (fun x st'=>k x st'=some r/\Fr [] false mE st') by
  intro w0 G0 a w G hr;obtain⟨⟨GA,hrA⟩,hfA⟩:=nT Uc hr;exact wp_mono (hmain w0 G0 a w GA hrA) fun _ _ _ hp=>cG.mono (fun x s' hh=>⟨hh.1,hfA.trans hh.2 (fun _ h=>h) (fun _ h=>h) (fun h=>nomatch h)⟩) hp
 clear Uc;revert h;generalize mE=st;intro h;split at h<;>try trivial
 rename_i f' caps hg;cases hf:Nat.beq f f'<;>rw [hf] at h<;>simp only [aZ,aK] at h
 ·cases h
 obtain rfl:=eM hf;intro w0 G0 a w G hr;refine (wpIn_wide (n:=0)).1 (wpIn_rangeFunc fun fn _=>?_);have hv:=hr.ev g;rw [hg] at hv;simp only [VT] at hv;obtain⟨cv,Gx,PN⟩:=hv;have hn1:=hr.J3 (.deferred (some [])) .QS (heap_alloc_new w _)
 have AV:iB (w.alloc (.deferred (some []))) {G with i:=G.i++[w.heap.size]} ((w.alloc (.deferred (some []))).alloc (.loop ⟨.ready,none,fn,a.tmps,ps,ca,cb,w.heap.size⟩)) {G with i:=G.i++[w.heap.size]}:=
  ⟨fun _ _ h=>h,fun b o v hp hv=>(U3 ((eY.alloc _ _).2 b (hn1.boxes.gq b o hp).1)).trans hv,fun _ _ h=>h,fun j x h hj=>⟨x,h,hj,ek _,fun _=>rfl⟩⟩
 have apK:bI E ((w.alloc (.deferred (some []))).alloc (.loop ⟨.ready,none,fn,a.tmps,ps,ca,cb,w.heap.size⟩)) {G with i:=G.i++[w.heap.size]} (Ls keep st.t) a.tmps.toList:=
  ajE hr.size fun j d hj=>(hn1.tmps j d hj).mono AV
 have hn2:=hn1.J3 (.loop ⟨.ready,none,fn,a.tmps,ps,ca,cb,w.heap.size⟩) (.loop y (Ls keep st.t)) ⟨⟨ps,ca,cb⟩,fn,a.tmps,w.heap.size,hyd,heap_alloc_new _ _,apK⟩;have hlen:=hr.boxes.len;obtain⟨G2,hG2⟩:∃G2:bq,{G with i:=(G.i++[w.heap.size])++[(w.alloc (.deferred (some []))).heap.size]} = G2:=⟨_,rfl⟩;obtain⟨W1,hW1⟩:∃W1,(w.alloc (.deferred (some []))).alloc (.loop ⟨.ready,none,fn,a.tmps,ps,ca,cb,w.heap.size⟩)=W1:=⟨_,rfl⟩;have hn2:Rel E w0 G0 {st with H:=(st.H++[.QS])++[.loop y (Ls keep st.t)]} a W1 G2:=by simp_all
 have hi0:G2.i[st.H.length]? = some w.heap.size:=by
  grind
 have hi1:G2.i[st.H.length+1]? = some (w.heap.size+1):=by
  rw [<-hG2]
  simp_all
 have hn3:Rel E w0 G0 {st with H:=(st.H++[.QS])++[.loop y (Ls keep st.t)],df:=(AH,[.ux st.H.length])::st.df} {a with defers:={target:=.collected w.heap.size,args:=#[]} :: a.defers} W1 G2:=
  ⟨hn2.eX,hn2.size,hn2.tmps,⟨.inr ⟨rfl,w.heap.size,rfl,.cons (by simp_all [VT]) .nil⟩,hn2.defers⟩,hn2.boxes,hn2.fix,hn2.pins,hn2.gr⟩
 have hargs:bI E W1 G2 (.ux (st.H.length+1)::caps) ((#[.func (.yield (w.heap.size+1)) #[] #[]]:Array Value)++cv).toList:=by
  have qS:=hn3.ev g;have e1:TS.ev {st with H:=(st.H++[.QS])++[.loop y (Ls keep st.t)],df:=(AH,[.ux st.H.length])::st.df} g=.func (.func f) caps:=hg;rw [e1] at qS;simp only [VT] at qS;obtain⟨cv2,aok,aol⟩:=qS;have e2:Act.eval {a with defers:={target:=.collected w.heap.size,args:=#[]} :: a.defers} g=a.eval g:=rfl;rw [e2,Gx] at aok;cases aok;have:((#[.func (.yield (w.heap.size+1)) #[] #[]]:Array Value)++cv).toList=.func (.yield (w.heap.size+1)) #[] #[]::cv.toList:=by simp
  rw [this];exact .cons (by simp_all [VT]) aol
 have hI:=Dv hX.E (VP.mono X.P) (fun C hC=>(hX.Γ C hC).gok) h _ _ _ _ _ _ hn3.aoj hargs;unfold VP kn at hI;rw [hent] at hI;have hC:=hI;refine⟨w.heap.size+1,[{target:=.collected w.heap.size,args:=#[]}],W1,{target:=.fn (.func f) cv,args:=#[.func (.yield (w.heap.size+1)) #[] #[]]},W1,f,#[.func (.yield (w.heap.size+1)) #[] #[]]++cv,W1,(by simp_all [run_enterLoop_outer]),?_,fun _ _=>trivial,?_,(fun h=>nomatch h),(callsIn_wide (n:=0)).2 (Ge hC fun e w3 he=>?_)⟩
 ·simp only [resolve,Gx]
  simp [go_sem]
 ·simp [invoke,go_sem,hent]
 rcases he with⟨v,st',G',rfl,hR,hk,hF⟩|⟨x,st',hne,hk⟩
 rotate_left
 ·grind
 simp only [jx] at hk;split at hk<;>try trivial
 rename_i y' ds' apL;have hat:G'.i[st.H.length+1]? = some (w.heap.size+1):=hR.eX.goes.i _ _ hi1;obtain⟨Y',fn',tmps',D',hY',hheap,-⟩:=hR.box hat apL;have hlt:w.heap.size+1<w3.heap.size:=(Ag.1 hheap).1
 have hS:=hR.yG (w':=w3.putObj (w.heap.size+1) (.loop ⟨.exhausted,none,fn',tmps',Y'.params,Y'.assign,Y'.body,D'⟩)) hat si rfl rfl rfl (fun b' hb=>I6 hb) (x:=.gone)
  (fun _=>⟨_,U2 hlt,fun cs t m e=>by cases e⟩)
 obtain⟨D2,hD2,hH2⟩:=hF.d
 have hO:=Rel.over hn3 hS (fun q hq=>by
  grind)
 refine⟨none,_,run_endLoop hheap (fun e=>nomatch e),?_⟩;refine⟨.normal,_,G',trivial,hO,hk,?_⟩;refine⟨hF.len,fun i hi=>hF.keep i (fun h=>by cases h),⟨(st.H.length+1)::D2,by grind,fun q hq hd=>?_⟩,?_,fun h=>nomatch h⟩
 ·grind
 grind
theorem afK(hX:X.Ok):∀(c:Code)(p:dN){R:Type}{st:TS E}{k:Ex E->TS E->Option R}{r:R},runM X F c p st k=some r->GJ E X.P c p->HZ E X.P c st (fun x st'=>k x st'=some r/\Fr (wr c) false st st'):=by
 have base:∀(c:Code)(p:dN){R:Type}{st:TS E}{k:Ex E->TS E->Option R}{r:R},runT X F c p st k=some r->HZ E X.P c st (fun x st'=>k x st'=some r/\Fr (wr c) false st st'):=
  fun c p R st k r h w0 G0 a w G hr=>wp_mono ((tY hX c p h).wp hr) fun _ _ _ hp=>cG.mono (fun x s hh=>⟨hh.1,hh.2.wide (fun _ h=>h) (fun h=>nomatch h)⟩) hp
 intro c
 induction c with
 | seq a b EA EB=>
  intro p R st k r h hy
  cases p with
  | Jn ow p q=>
   simp [runM] at h;split at h<;>try trivial
   rename_i mE Uc;intro w0 G0 ac w G hr;obtain⟨⟨GA,hrA⟩,hfA⟩:=nT Uc hr;refine wp_mono (Q:=cG E w0 G0 (fun x st'=>k x st'=some r/\Fr (wr (.seq a b)) false mE st')) ?_ fun _ _ _ hp=>cG.mono (fun x s' hh=>⟨hh.1,hfA.trans hh.2 (fun _ h=>h) (fun _ h=>h) (fun h=>nomatch h)⟩) hp;revert GA h;generalize mE=st;intro h G hr;refine wp_seq (wp_mono (EA p h hy.1 w0 G0 ac w G hr) fun e a' w' hp=>?_);obtain⟨x,s,G',he,hr',hq,hf⟩:=hp
   cases x with
   | normal=>
    cases e<;>try (exact he.elim)
    exact wp_mono (EB q hq hy.2 w0 G0 a' w' G' hr') fun _ _ _ hp=>cG.mono (fun x s' hh=>⟨hh.1,hf.trans hh.2 (fun i hi=>by simp [wr,hi]) (fun i hi=>by simp [wr,hi]) (fun h=>nomatch h)⟩) hp
   | _=>
    have qZ:cG E w0 G0 (fun x st'=>k x st'=some r/\Fr (wr (.seq a b)) false st st') e a' w':=⟨_,s,G',he,hr',hq,hf.wide (fun i hi=>by simp [wr,hi]) (fun h=>h)⟩
    cases e<;>first|exact he.elim|exact qZ
  | _=>grind [runM]
 | block i a ih=>
  intro p R st k r h hy
  cases p with
  | aaA p=>
   intro w0 G0 ac w G hr;refine wp_block (wp_mono (ih p h hy w0 G0 ac w G hr) fun e a' w' hp=>?_);obtain⟨x,s,G',he,hr',hq,hf⟩:=hp
   cases x with
   | exit j=>
    cases e<;>try (exact he.elim)
    rename_i i';subst he;simp [T6] at hq;simp [Exit.inBlock];cases hb:Nat.beq i' i<;>rw [hb] at hq<;>simp at hq
    ·have:i'≠i:=fun e=>by simp_all
     rw [if_neg this];exact⟨.exit i',s,G',rfl,hr',hq,hf⟩
    ·rw [if_pos (eM hb)]
     exact⟨.normal,s,G',trivial,hr',hq,hf⟩
   | _=>
    have qZ:cG E w0 G0 (fun x st'=>k x st'=some r/\Fr (wr (.block i a)) false st st') e a' w':=⟨_,s,G',he,hr',hq,hf⟩
    cases e<;>first|exact he.elim|exact qZ
  | _=>grind [runM]
 | rangeFunc g ps a b _ _=>
  intro p R st k r h hy
  cases p with
  | range ow y f keep=>exact afJ hX h hy
  | _=>simp_all [runM]
 | _=>grind [runM]
def PZ{R:Type}(k:TS E->Option R):J (FuncId×J (TV E))->TS E->Option R
 | [],st=>k {st with df:=[]}
 | (f,[.ux q])::df,st=>cond (Nat.beq f AH) (match st.H[q]? with
   | some .QS=>PZ k df {st with H:=st.H.set q .gone,d:=q::st.d}
   | _=>none) none
 | _,_=>none
def aom(X:Cx E)(s:dc)(fn:Func)(bR:TS E):(p:O Outs)->Ex E->TS E->O (OutP E s.out p)
 | none,.ret,st=>PZ (fun st=>(qf X st fn.results.toList).bind fun ds=>s.out.get bR st (qL ds)) st.df st
 | none,.normal,st=>PZ (fun st=>(qf X st fn.results.toList).bind fun ds=>s.out.get bR st (qL ds)) st.df st
 | _,_,_=>none
noncomputable def afL(X:Cx E)(F:Nat)(s:dc)(fn:Func)(pl:dN)(x:dens E s.tys):O (OutP E s.out s.lU):=
 match fn.body with
 | some c=>runM X F c pl (s.bR fn.ntmps (aP s.tys x)) (aom X s fn (s.bR fn.ntmps (aP s.tys x)) s.lU)
 | none=>none
theorem Q8{P:Program}{fn:Func}{R:Type}{k:TS E->Option R}{r:R}{w0:World}{G0:bq}{tmps:Array Value}{RR:Ending->World->Prop}:∀(df:J (FuncId×J (TV E)))(st:TS E)(ds:J Deferred)(w:World)(G:bq),PZ k df st=some r ->
  Rel E w0 G0 {st with df:=df} {tmps:=tmps,defers:=ds} w G ->
  (∀(st':TS E)(w':World)(G':bq),k {st' with df:=[]} = some r->Rel E w0 G0 {st' with df:=[]} {tmps:=tmps,defers:=[]} w' G'->Fr [] false st st'->∃v,(results fn tmps).run P w'=.ok v w'/\RR (.returned v) w') ->
  LeavesInM Fence.wide 0 P fn tmps RR ds .returning w
 | [],st,ds,w,G,h,hr,hk=>by
  have:ds=[]:=by
   have:=hr.defers
   cases ds with
   | nil=>rfl
   | cons _ _=>exact this.elim
  subst this
  exact hk st w G h hr (Fr.refl _ _ _)
 | (f,dv)::df,st,ds,w,G,h,hr,hk=>by
  cases ds with
  | nil=>exact hr.defers.elim
  | cons d0 ds=>
  obtain⟨hd,fC⟩:=hr.defers
  obtain⟨q,hdv,h'⟩:∃q,dv=[.ux q]/\cond (Nat.beq f AH) (match st.H[q]? with
   | some .QS=>PZ k df {st with H:=st.H.set q .gone,d:=q::st.d}
   | _=>none) none=some r:=by
   cases dv with
   | nil=>cases h
   | cons z zs=>
    cases zs with
    | cons _ _=>cases z<;>cases h
    | nil=>cases z<;>first|(cases h;done)|exact⟨_,rfl,h⟩
  subst hdv;cases hc:Nat.beq f AH<;>rw [hc] at h'<;>simp only [aZ,aK] at h'
  ·cases h'
  split at h'<;>try (cases h';done)
  rename_i hq
  obtain⟨-,b,rfl,hv⟩:=hd.resolve_left (fun hh=>by
   simp_all)
  obtain⟨u,us,he,h1,-⟩:=hv.cons_inv;cases he;obtain⟨b',he,hat⟩:=h1;cases he;have NJ:=hr.box hat hq;have hlt:=(Ag.1 NJ).1;have hS:=hr.yG (w':=w.putObj b (.deferred none)) hat si rfl rfl rfl (fun b' hb=>I6 hb) (x:=.gone) (fun _=>⟨_,U2 hlt,fun cs t m e=>by cases e⟩);refine⟨(fun e=>nomatch e),.inl ⟨b,_,rfl,run_takeDeferred NJ,?_⟩⟩;refine Q8 df {st with H:=st.H.set q .gone,d:=q::st.d} ds _ G h' ⟨hS.eX,hS.size,hS.tmps,hS.defers.2,hS.boxes,hS.fix,hS.pins,hS.gr⟩ fun st' w' G' h1 h2 h3=>hk st' w' G' h1 h2 ?_;have f1:Fr [] false st {st with H:=st.H.set q .gone,d:=q::st.d}:=⟨rfl,fun _ _=>rfl,⟨[q],rfl,fun j hj hd=>Na (fun e=>hd (by simp [e]))⟩,si,fun h=>nomatch h⟩;exact f1.trans h3 (fun _ h=>h) (fun _ h=>h) (fun h=>nomatch h)
theorem acH(hX:X.Ok)(hf:X.P.funcs[s.f]? = some fn)(hn:(fn.name == "runtime.NumGoroutine")=false)(hy:∀c,fn.body=some c->GJ E X.P c pl)(h:afL X F s fn pl x=some y):
  lE X.P s.f (s.ds (aP s.tys x)) (s.H (aP s.tys x)) s.g0 (s.c (aP s.tys x)) (ko s (s.H (aP s.tys x)) s.lU y):=by
 unfold afL at h;split at h<;>try trivial
 rename_i c hb;intro w G args hP hB hS hV;have Gj:=Rel.init (n:=fn.ntmps) hP hB hS hV;have hpre:=Gj.pre;refine tN hf hb hn ((callsIn_wide).1 (callsIn_of_wp_marks hf hb trivial ((wpIn_wide (n:=0)).2 (wp_mono (afK hX c pl h (hy c hb) w G _ w G Gj) fun e a' w' hp=>?_))));obtain⟨ex,st,G',he,hr,hk,hF⟩:=hp
 have fin:∀(p:Option Outs)(y:OutP E s.out p),aom X s fn (s.bR fn.ntmps (aP s.tys x)) p ex st=some y->(ex=.ret\/ex=.normal)/\LeavesInM Fence.wide 0 X.P fn a'.tmps (zf E w G (ko s (s.H (aP s.tys x)) p y)) a'.defers .returning w':=by
  intro p y hk
  cases p with
  | some q=>cases ex<;>cases hk
  | none=>
   have main:PZ (fun st=>(qf X st fn.results.toList).bind fun ds=>s.out.get (s.bR fn.ntmps (aP s.tys x)) st (qL ds)) st.df st=some y->LeavesInM Fence.wide 0 X.P fn a'.tmps (zf E w G (ko s (s.H (aP s.tys x)) none y)) a'.defers .returning w':=fun hk=>
    Q8 st.df st a'.defers w' G' hk hr fun st' w2 G2 h1 h2 h3=>by
     have hF3:Fr (wr c) false (s.bR fn.ntmps (aP s.tys x)) st':=hF.trans h3 (fun _ h=>h) (fun _ h=>by cases h) (fun h=>nomatch h)
     cases hds:qf X {st' with df:=[]} fn.results.toList with
     | none=>rw [hds] at h1;cases h1
     | some ds=>
      rw [hds] at h1;obtain⟨v,hv,hrun⟩:=An hX h2 hds;have hF4:Fr (wr c) false (s.bR fn.ntmps (aP s.tys x)) {st' with df:=[]}:=⟨hF3.len,hF3.keep,hF3.d,hF3.hl,fun h=>nomatch h⟩;obtain⟨G3,q1,q2,q3,q4,q5⟩:=Outs.GH hX.E (st:={st' with df:=[]}) hpre rfl rfl h2 hF4 hv h1;exact⟨v,hrun,v,G3,rfl,q1,q2,q3,q4,q5⟩
   cases ex<;>try trivial
   ·exact⟨.inr rfl,main hk⟩
   ·exact⟨.inl rfl,main hk⟩
 obtain⟨hex,hl⟩:=fin s.lU y hk;rcases hex with rfl|rfl<;>cases e<;>first|exact he.elim|exact hl
theorem bJ.aon(hX:X.Ok)(hf:X.P.funcs[C.s.f]? = some fn)(hn:(fn.name == "runtime.NumGoroutine")=false){c:Code}(hc:fn.body=some c){l:J (Nat×FuncId×YD)}(hl:Lt c pl=l)(hy:∀t∈l,aaI E X.P t)
  (h:∀x,afL X F C.s fn pl x=C.m x):C.Ok X.P:=
 fun x y hyy=>acH hX hf hn (fun c' uz=>by rw [hc] at uz;cases uz;exact amf c pl (by rw [hl];exact hy)) (by rw [h x];exact hyy)
def aB(n:Int):Int:=IntKind.wrap .i64 n
def sl{α:Type}(l:J α)(p q:Int):J α:=(l.take q.toNat).drop p.toNat
def cV{α:Type}[BEq α](a b:α):Bool:=a==b
theorem bJ.Y2(hX:X.Ok)(hf:X.P.funcs[C.s.f]? = some fn)(hn:(fn.name == "runtime.NumGoroutine")=false)(h:∀x,aaF X F C.s fn pl x=C.m x):C.Ok X.P:=
 fun x y hy=>afI hX hf hn (by rw [h x];exact hy)
theorem ij:∀C∈([]:J (bJ E)),C.Ok P:=fun _ h=>nomatch h
theorem bU{C:bJ E}{Γ:J (bJ E)}(h:C.Ok P)(hs:∀C∈Γ,C.Ok P):∀C'∈C::Γ,C'.Ok P:=fun C' hC=>by
 rcases iE.1 hC with rfl|hC
 ·exact h
 ·exact hs C' hC
def tyS(l:J Nat)(ty:aI->O Ty):aI->O Ty:=fun t=>cond (Nat.ble 2000000 t) (cond (l.elem (t-2000000)) (some .bool) none) (ty t)
def ibF(F:Nat)(s:J UInt8)(c:Int):O Int:=some (Lib.indexByte s c.toNat.toUInt8)
def ibS(f:FuncId):dc:=⟨f,[.one (.dat .str),.one (.dat (.int .u8))],[],[],⟨.one (.dat (.int .i64)),[],[],[]⟩,none,[]⟩
def ibC(E:TEnv)(f:FuncId)(F:Nat):bJ E:=⟨ibS f,fun (x:J UInt8×Int)=>ibF F x.1 x.2⟩
theorem ao2(h:∀args w,(callFunc f args).run P w=((Extern.BytealgIndexByte.indexByte args).run P w).andThen fun v w'=>.ok (.value v) w')(F:Nat):(ibC E f F).Ok P:=by
 have key:∀(s:J UInt8)(c:Int),lE (E:=E) P f [.dat .str s,.dat (.int .u8) c] [] [] [] ⟨true,.dat (.int .i64) (Lib.indexByte s c.toNat.toUInt8),[],[],[],[]⟩:=by
  intro s c w G args hP hB hS hv;obtain⟨u,us,he,h1,h2⟩:=hv.cons_inv;obtain⟨u2,SN,WH,h3,h4⟩:=h2.cons_inv;have h4:SN=[]:=by simpa only [bI] using h4
  have e1:=h1.hU;have e2:=h3.fU;subst e1 e2 h4 WH;have ha:args=#[mkStr s,.int .u8 c]:=by apply SI;exact he
  subst ha
  have hrun:(callFunc f #[mkStr s,.int .u8 c]).run P w=.ok (.value (.int .i64 (Lib.indexByte s c.toNat.toUInt8))) w:=by
   rw [h,mkStr,Lib.run_indexByteString];rfl
  unfold kn;rw [hrun];exact⟨.int .i64 (Lib.indexByte s c.toNat.toUInt8),G,rfl,kQ.refl w G,hB,hS,.int _ _ _ _,fun _ _ _ _=>rfl⟩
 intro x y hy;obtain⟨s,c⟩:=x;have hy:some (Lib.indexByte s (Int.toNat c).toUInt8)=some y:=hy;cases hy;exact key s c
def neF(F:Nat):O Unit:=some ()
def neS(f:FuncId)(b:BT)(rows:J (aI×Nat)):dc:=⟨f,[.one (.ptr 0 0)],[b],rows,⟨.one (.ptr 0 0),[none],rows.map fun _=>none,[]⟩,none,[]⟩
def neC(E:TEnv)(f:FuncId)(b:BT)(rows:J (aI×Nat)):bJ E:=⟨neS f b rows,fun _=>some ()⟩
theorem Oo:∀(rows:J (aI×Nat))(g:J cH),g.length=rows.length->dX (rows.map fun _=>none) g=g
 | [],[],_=>rfl
 | _::rows,x::g,h=>by
  have:=Oo rows g (by simpa using h);simp only [jU,dX,this]
theorem apM{b:BT}{rows:J (aI×Nat)}(h:∀v w,(callFunc f #[v]).run P w=.ok (.value v) w):(neC E f b rows).Ok P:=by
 intro x y _;intro w G args hP hB hS hv;have hv:bI E w G [.ptr 0 0] args.toList:=hv;obtain⟨u,us,he,h1,h2⟩:=hv.cons_inv;have h2:us=[]:=by simpa only [bI] using h2
 subst h2;have ha:args=#[u]:=by apply SI;exact he
 subst ha;show kn P f #[u] w _;unfold kn;rw [h];refine⟨u,G,rfl,kQ.refl w G,?_,hS,h1,fun _ _ _ _=>rfl⟩;have e:dX (rows.map fun _=>none) (neS f b rows).g0=(neS f b rows).g0:=Oo rows _ (by simp [dc.g0,neS]);show lP E w G _ (dX (rows.map fun _=>none) (neS f b rows).g0);rw [e];exact hB
def Ud(P:bh):Inv:=fun f args w R=>(∀args w,(callFunc f args).run P w=.ok (.enter f args) w)/\∀u,CallsD P f args u w (fun e u' w'=>u'=u/\R e w')
def ahz(u:FrameMode)(v:Value):Prop:=(u=.returning/\v=.nilIface)\/u=.panicking [{v:=v,recovered:=false}]
def Dy(P:bh):Inv:=fun f alj w R=>(∀args w,(callFunc f args).run P w=.ok (.enter f args) w) /\
 ∀(v:Value)(args:aG Value)(u:FrameMode),alj.toList=v::args.toList->ahz u v->CallsD P f args u w (fun e u' w'=>settle u'=.returning/\R e w')
theorem Ud.mono(P:bh):(Ud P).aaq:=fun f args w R R' h hi=>⟨hi.1,fun u=>(hi.2 u).mono fun e u' w' hh=>⟨hh.1,h _ _ hh.2⟩⟩
theorem Dy.mono(P:bh):(Dy P).aaq:=fun f args w R R' h hi=>⟨hi.1,fun v args u h1 h2=>(hi.2 v args u h1 h2).mono fun e u' w' hh=>⟨hh.1,h _ _ hh.2⟩⟩
structure Dx(E:TEnv) where
 o:List (bJ E)
 r:List (bJ E)
structure Dx.Ok(P:Program)(D:Dx E):Prop where
 o:∀C∈D.o,C.GC (Ud P)
 r:∀C∈D.r,C.GC (Dy P)
def me:O (TV E)->J (FuncId×J (TV E))
 | none=>[]
 | some d=>[(0,[d])]
def ajF:O (TV E)->TV E
 | none=>.val .nilIface
 | some d=>d
def Dz{R:Type}(D:Dx E)(k:O (TV E)->TS E->O R):J (FuncId×J (TV E))->O (TV E)->TS E->O R
 | [],m,st=>k m {st with df:=[]}
 | (f,ds)::df,m,st=>cond (Nat.beq f AH) none <| cond (D.r.any fun C=>Nat.beq C.s.f f)
   (q8 {st with df:=df} none f (ajF m::ds) (jx (fun st'=>Dz D k df none st') fun _ _=>none) D.r)
   (q8 {st with df:=df++me m} none f ds (jx (fun st'=>Dz D k df m st') fun _ _=>none) D.o)
inductive P0:Option (TV E)->List Deferred->FrameMode->Prop
 | ret:P0 none [] .returning
 | lU (d:TV E) (v:Value):P0 (some d) [{target:=.fn (.func 0) #[],args:=#[v]}] (.panicking [{v:=v,recovered:=false}])
theorem kj.app{w:U}{G:bq}:∀ {a b:J Deferred}{x y:J (FuncId×J (TV E))},a.length=x.length->kj E w G (a++b) (x++y)->kj E w G a x/\kj E w G b y
 | [],b,[],y,_,h=>⟨trivial,h⟩
 | d::a,b,z::x,y,hl,h=>by
  obtain⟨h1,h2⟩:=h;obtain⟨h3,h4⟩:=kj.app (by simpa using hl) h2;exact⟨⟨h1,h3⟩,h4⟩
theorem kj.len{w:U}{G:bq}:∀ {a:J Deferred}{x:J (FuncId×J (TV E))},kj E w G a x->a.length=x.length
 | [],[],_=>rfl
 | _::a,_::x,h=>by simp [kj.len h.2]
 | [],_::_,h=>h.elim
 | _::_,[],h=>h.elim
theorem Fr.afM(st:TS E)(y:J (FuncId×J (TV E)))(W:J Nat):Fr W false st {st with df:=y}:=⟨rfl,fun _ _=>rfl,⟨[],rfl,fun _ _ _=>rfl⟩,ek _,fun h=>nomatch h⟩
theorem Rel.Ue{y:J (FuncId×J (TV E))}{ds:J Deferred}(h:Rel E w0 G0 st a w G)(hd:kj E w G ds y):Rel E w0 G0 {st with df:=y} {a with defers:=ds} w G:=
 ⟨h.eX,h.size,h.tmps,hd,h.boxes,h.fix,h.pins,h.gr⟩
theorem GK(hE:E.Ok){P:Program}{fn:Func}{D:Dx E}(hD:D.Ok P){R:Type}{k:Option (TV E)->TS E->Option R}{r:R}{w0:World}{G0:bq}{tmps:Array Value}{RR:Ending->World->Prop}:
  ∀(df:J (FuncId×J (TV E)))(m:Option (TV E))(st:TS E)(ds mv:J Deferred)(u:FrameMode)(w:World)(G:bq),Dz D k df m st=some r->ds.length=df.length ->
   Rel E w0 G0 {st with df:=df++me m} {tmps:=tmps,defers:=ds++mv} w G->P0 m mv u ->
   (∀(m':Option (TV E))(st':TS E)(mv':J Deferred)(u':FrameMode)(w':World)(G':bq),k m' {st' with df:=[]} = some r->Rel E w0 G0 {st' with df:=me m'} {tmps:=tmps,defers:=mv'} w' G'->P0 m' mv' u'->Fr [] false st st'->Leaves P fn tmps RR [] u' w') ->
   Leaves P fn tmps RR ds u w
 | [],m,st,ds,mv,u,w,G,h,hl,hr,hm,hk=>by
  have:ds=[]:=by simp_all
  subst this
  exact hk m st mv u w G h hr hm (Fr.refl _ _ _)
 | (f,dv)::df,m,st,ds,mv,u,w,G,h,hl,hr,hm,hk=>by
  cases ds with
  | nil=>cases hl
  | cons d0 ds=>
  have hl':ds.length=df.length:=by simpa using hl
  have iq:=hr.defers;obtain⟨hdo,aoo⟩:=iq;simp [Dz] at h;cases afs:Nat.beq f AH<;>rw [afs] at h<;>simp only [aZ,aK] at h
  rotate_left
  ·cases h
  obtain⟨-,cap,ajG,hargs⟩:=hdo.resolve_right (fun hh=>by
   simp_all)
  have hu:u≠.run:=by cases hm<;>(intro e;cases e)
  have hinv:(∀args w,(callFunc f args).run P w=.ok (.enter f args) w)->(invoke d0.target d0.args).run P w=.ok (.enter f (d0.args++cap)) w:=fun he=>by
   rw [ajG];have:=he (d0.args++cap) w;simpa [invoke] using this
  cases hc:(D.r.any fun C=>Nat.beq C.s.f f)<;>rw [hc] at h<;>simp at h
  ·have eU:=hr.Ue aoo
   have hI:=Dv hE (Ud.mono P) hD.o h w0 G0 _ w G (d0.args++cap) eU hargs;refine⟨hu,.func f,cap,f,d0.args++cap,ajG,hinv hI.1,(hI.2 u).mono fun e u' w' hh=>?_⟩;obtain⟨rfl,hh⟩:=hh;rcases hh with⟨v,st',G',rfl,hR,hkk,hF⟩|⟨x,st',hne,hkk⟩
   ·have mL:settle u'=u':=by cases hm<;>rfl
    show Leaves P fn tmps RR ds (settle u') w';rw [mL];have hdf:st'.df=df++me m:=hF.df rfl;have hR':Rel E w0 G0 {st' with df:=df++me m} {tmps:=tmps,defers:=ds++mv} w' G':=by rw [<-hdf];exact hR
    refine GK hE hD df m st' ds mv u' w' G' hkk hl' hR' hm fun m' zT mv' u2 w2 G2 h1 h2 h3 rU=>hk m' zT mv' u2 w2 G2 h1 h2 h3 ?_;exact ((Fr.afM st (df++me m) []).trans hF (n:=false) (fun _ h=>h) (fun _ h=>h) (fun h=>nomatch h)).trans rU (fun _ h=>h) (fun _ h=>h) (fun h=>nomatch h)
   grind
  ·obtain⟨Xj,Xk⟩:=kj.app hl' aoo
   have eU:=hr.Ue Xj
   have hv:∃v,ahz u v/\VT E w G (ajF m) v:=by
    cases hm with
    | ret=>exact⟨.nilIface,.inl ⟨rfl,rfl⟩,by simp [ajF,VT]⟩
    | lU d v=>
     refine⟨v,.inr rfl,?_⟩;obtain⟨ajH,-⟩:=Xk;obtain⟨-,cap',ht',jt⟩:=ajH.resolve_right (fun hh=>absurd (show (0:Nat)=AH from hh.1) de);obtain⟨u1,us,he,h1,-⟩:=jt.cons_inv;simp at he;obtain⟨rfl,-⟩:=he;exact h1
   obtain⟨v,hmo,hvt⟩:=hv
   have hI:=Dv hE (Dy.mono P) hD.r h w0 G0 _ w G (#[v]++(d0.args++cap)) eU (by
    have:(#[v]++(d0.args++cap)).toList=v::(d0.args++cap).toList:=by simp
    rw [this];exact .cons hvt hargs)
   refine⟨hu,.func f,cap,f,d0.args++cap,ajG,hinv hI.1,(hI.2 v (d0.args++cap) u si hmo).mono fun e u' w' hh=>?_⟩;obtain⟨mL,hh⟩:=hh;rcases hh with⟨v,st',G',rfl,hR,hkk,hF⟩|⟨x,st',hne,hkk⟩
   ·show Leaves P fn tmps RR ds (settle u') w'
    rw [mL];have hdf:st'.df=df:=hF.df rfl
    have hR':Rel E w0 G0 {st' with df:=df++me none} {tmps:=tmps,defers:=ds++[]} w' G':=by
     simp [me];rw [<-hdf];exact hR
    refine GK hE hD df none st' ds [] .returning w' G' hkk hl' hR' .ret fun m' zT mv' u2 w2 G2 h1 h2 h3 rU=>hk m' zT mv' u2 w2 G2 h1 h2 h3 ?_;exact ((Fr.afM st df []).trans hF (n:=false) (fun _ h=>h) (fun _ h=>h) (fun h=>nomatch h)).trans rU (fun _ h=>h) (fun _ h=>h) (fun h=>nomatch h)
   grind
end Go.RT
