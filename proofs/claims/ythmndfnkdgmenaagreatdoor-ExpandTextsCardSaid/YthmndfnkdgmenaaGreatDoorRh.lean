import Derived.Test.YthmndfnkdgmenaaGreatDoorRf
import Derived.Sort.Row
import Derived.OrdersHeld
import Derived.Lib.ConvBytes
import Derived.Scope
import Derived.Lib.Bytealg
import Derived.Recover
set_option linter.all false
namespace Go.RT
variable {E : TEnv}
def yg(E:TEnv)(w:U)(G:aJ)(r:Zy E)(e:Ending)(w':U):Prop:=
 ∃v G',e=Ck r.ok v/\kC w G w' G'/\lu E w' G' r.H r.g/\kg E w' G' r.c/\VT E w' G' r.d v/\∀(q b:Nat),G.i[q]? = some b->q∉r.D->w'.heap[b]? = w.heap[b]?
def Inv:=FuncId->aI Value->U->(Ending->U->Prop)->Prop
def Inv.ZM(I:Inv):Prop:=∀f args w (R R':Ending->U->Prop),(∀e w',R e w'->R' e w')->I f args w R->I f args w R'
def AGC(E:TEnv)(I:Inv)(f:FuncId)(ds:J (TV E))(H:J (eZ E))(gs:J bQ)(cs:J (Nat×Cn E))(r:Zy E):Prop:=
 ∀(w:U)(G:aJ)(args:aI Value),o4 E w G->lu E w G H gs->kg E w G cs->bD E w G ds args.toList->I f args w (yg E w G r)
def bB.F5(I:Inv)(C:bB E):Prop:=
 ∀x y,C.m x=some y->AGC E I C.s.f (C.s.ds (aP C.s.tys x)) (C.s.H (aP C.s.tys x)) C.s.g0 (C.s.c (aP C.s.tys x)) (jS C.s (C.s.H (aP C.s.tys x)) C.s.kZ y)
section
variable {st : TS E}
theorem CU(hE:E.Ok){I:Inv}(hI:I.ZM){R:Type}{f:FuncId}{ds:J (TV E)}{dst:Option Nat}{k:Ex E->TS E->Option R}{r:R}:
  ∀ {Γ:J (bB E)},(∀C∈Γ,C.F5 I)->qt st dst f ds k Γ=some r->∀(w0:World)(G0:aJ)(a:Act)(w:World)(G:aJ)(args:Array Value),Rel E w0 G0 st a w G->bD E w G ds args.toList ->
   I f args w (fun e w'=>(∃v st' G',e=.returned v/\Rel E w0 G0 st' (a.put dst v) w' G'/\k .normal st'=some r/\Fr (ig dst) true st st')\/∃x st',x≠.normal/\k x st'=some r)
 | [],_,h=>by cases h
 | C::Γ,hΓ,h=>by
  have ff:qt st dst f ds k Γ=some r->_:=CU hE hI (fun C' hC=>hΓ C' (by simp [hC]));simp [qt] at h;cases hf:Nat.beq C.s.f f<;>rw [hf] at h<;>simp at h
  ·exact ff h
  have hf:=eB hf;obtain⟨PJ,jk,hhs⟩:∃PJ jk,xG C.s.args ds st=(PJ,jk):=⟨_,_,rfl⟩;rw [hhs] at h;split at h
  ·rename_i ls hls
   split at h
   ·rename_i xx hxx
    generalize AR:qf (C.s.dS jk PJ).b=bs at *;generalize Zx:qf (C.s.dS jk PJ).g=gs at *;obtain⟨hwf,h⟩:=dG h
    cases hm:C.m xx with
    | none=>rw [hm] at h;cases h
    | some y=>
     intro w0 G0 a w G0' args hr Nv;obtain⟨O5,G,eM,zR,hvs⟩:=Ns C.s.args ds hr;have hargs:=hvs _ Nv;rw [hhs] at eM hargs O5;have hr:=eM
     have hnd:bs.Nodup/\gs.Nodup/\bs.length=C.s.boxes.length/\C.s.rows.length=gs.length:=by
      unfold cL.enter at hls;split at hls<;>try trivial
      rename_i H g hH hg;cases o9:(vf bs&&(vf gs&&(Nat.beq bs.length C.s.boxes.length&&yF C.s.rows g)))<;>rw [o9] at hls<;>simp only [bq] at hls
      ·cases hls
      simp only [cx] at o9;exact⟨vg o9.1,vg o9.2.1,eB o9.2.2.1,by rw [(Cl o9.2.2.2).1,(qG hg).1]⟩
     obtain⟨is,gg,hi,zO,hB,hS,hV⟩:=hr.enter hE hls hargs;have hput:=CP _ hxx;have hok:=hΓ C si xx y hm w (G.dS is gg) args (hr.SL.dS hi zO) (by rw [hput];exact hB) (by rw [hput];exact hS) (by rw [hput];exact hV);have hg0:=hB.gs
     have hwf':∀(q:Outs),q.wf bs.length gs.length=true->yG bs.length q.boxes=true/\gs.length<=q.rows.length:=fun q hq=>by
      simp_all [Outs.wf]
     unfold cL.wf at hwf;rw [cx] at hwf
     have Nw:∀(y:dens E C.s.out.tys)(e:Ending)(w':World),okK C.s.out bs gs jk dst k y=some r ->
       yg E w (G.dS is gg) (C.s.out.mg true (C.s.H (aP C.s.tys xx)) C.s.g0 (aP C.s.out.tys y)) e w' ->
       ∃v st' G',e=.returned v/\Rel E w0 G0 st' (a.put dst v) w' G'/\k .normal st'=some r/\Fr (ig dst) true st st':=by
      rintro y e w' hk ⟨v1,G',he,hE,SO,SP,SQ,KG⟩;subst he;obtain⟨hs1,hs2⟩:=hwf' _ hwf.1;rw [<-hg0] at SO SP SQ;obtain⟨Gn,hR,hval⟩:=hr.leave hi zO hnd.1 hnd.2.1 C.s.out hs1 hs2 hE SO SP SQ KG;exact⟨v1,_,Gn,rfl,hR.put hval dst,hk,(C.s.out.QY bs gs jk _ dst _).ofC O5⟩
     have fin:∀(p:Option Outs)(hp:C.s.kZ=p)(y:OutP E C.s.out p),ZK C.s bs gs jk dst k p y=some r->I f args w (yg E w (G.dS is gg) (jS C.s (C.s.H (aP C.s.tys xx)) p y)) ->
       I f args w (fun e w'=>(∃v st' G',e=.returned v/\Rel E w0 G0 st' (a.put dst v) w' G'/\k .normal st'=some r/\Fr (ig dst) true st st')\/∃x st',x≠.normal/\k x st'=some r):=by
      intro p hp y hk hi;refine hI _ _ _ _ _ (fun e w' hR=>?_) hi
      cases p with
      | none=>exact .inl (Nw y e w' hk hR)
      | some q=>
       cases y with
       | inl y=>exact .inl (Nw y e w' hk hR)
       | inr y=>exact .inr ⟨.panic (q.val bs gs jk (aP q.tys y)),_,(fun h=>nomatch h),hk⟩
     grind
   ·exact ff h
  ·exact ff h
end
def U3(E:TEnv)(P:aE):Inv:=fun f args w R=>∀(Y:YD)(fn l D:Nat)(xs tmps:aI Value),E.yd f Y->args=xs++tmps->xs.size=Y.params.size ->
 w.heap[l]? = some (.loop ⟨.ready,none,fn,tmps,Y.params,Y.assign,Y.body,D⟩)->RoundIn Fence.wide 0 P l fn ((Y.params.zip xs).foldl (fun t (p,v)=>t.setIfInBounds p v) tmps) Y.assign Y.body w R
theorem U3.mono(P:aE):(U3 E P).ZM:=fun f args w R R' h hi Y fn l D xs tmps h1 h2 h3 h4=>(hi Y fn l D xs tmps h1 h2 h3 h4).mono h
def apD{E:TEnv}(P:aE)(Y:J (bB E)):Prop:=∀C∈Y,C.F5 (U3 E P)
end Go.RT
namespace Go.RT
variable {E : TEnv}
structure RW(P:Program)(f:FuncId):Prop where
 enters:∀args w,(callFunc f args).run P w=.ok (.enter f args) w
 call:∀(blk cap:Nat)(zs:List Int)(w:World),Sort.Holds (Value.int .u8) w blk 0 zs.toArray->zs.length<=9223372036854775807->Calls P f #[.slice (some ⟨blk,0,none⟩) zs.length cap] w fun e w'=>
  e=.returned (.tuple #[])/\∃n,w'=Sort.putRow (Value.int .u8) (Sort.ahead w n) blk 0 zs.reverse.toArray
structure Cx(E:TEnv) where
 P:Program
 ty:TypeId->Option Ty
 Γ:List (bB E)
 Y:List (bB E):=[]
 rv:Option FuncId:=none
structure Cx.Ok(X:Cx E):Prop where
 E:E.Ok
 Γ:∀C∈X.Γ,C.Ok X.P
 mix:X.P.follows .mixedOrders=true
 Y:apD X.P X.Y:=by exact fun _ h=>nomatch h
 rv:∀f,X.rv=some f->RW X.P f:=by exact fun _ h=>nomatch h
theorem PK{P:Program}:∀f,(none:Option FuncId)=some f->RW P f:=fun _ h=>nomatch h
theorem rvS{P:aE}{g:FuncId}(h:RW P g):∀f,some g=some f->RW P f:=fun _ e=>by cases e;exact h
def dec(l:J UInt8)(p:Nat):Nat×Nat:=Utf8.decode ⟨⟨l⟩⟩ p
def aj5(P:aE)(src dst t:aD)(n:Nat):Bool:=match P.underlying src,P.underlying dst with
 | some (.pointer e),some .unsafePointer=>(match P.info? e with|some j=>!(Nat.beq j.size 0)|none=>false)&&Nat.blt 0 n
 | some .unsafePointer,some (.pointer u)=>(match P.info? u with|some _=>true|none=>false)&&liesAt P P.depth t (n / P.cellsOf t) 0 u 1
 | _,_=>false
def O7(st:TS E):Op->Bool
 | .move _=>true
 | .assign _=>true
 | .unOp _ _ _=>true
 | .field _ _ _=>true
 | .fieldAddr _ _ _=>true
 | .load _ _=>true
 | .nilCheck _=>true
 | .extract _ _=>true
 | .alloc _=>true
 | .binOp op _ x y _=>match op with
  | .quo=>isConst y
  | .rem=>isConst y
  | .shl=>isConst y
  | .shr=>isConst y
  | .add=>match st.ev x with
   | .dat (.int _) _=>true
   | _=>false
  | _=>true
 | .convert _ _ x=>match st.ev x with
  | .dat (.int _) _=>true
  | _=>false
 | _=>false
abbrev Yc{α:Type}(b:Bool)(x y:α):α:=match b with
 | true=>x
 | false=>y
theorem ais{α:Type}(b:Bool)(x y:α):Yc b x y=cond b x y:=by cases b<;>rfl
abbrev rqP{R:Type}(pl c:Bool)(k:O R):O R:=match pl with
 | true=>match c with
  | true=>k
  | false=>none
 | false=>rq c k
theorem F6{R:Type}{pl c:Bool}{k:O R}{r:R}(h:rqP pl c k=some r):c=true/\k=some r:=by
 grind [dG]
noncomputable def agree{R:Type}(a b:O R):O R:=@ite _ (a=b) (Classical.propDecidable _) a none
theorem zY{R:Type}{a b:O R}{r:R}(h:agree a b=some r):a=some r/\b=some r:=by
 unfold agree at h
 grind
theorem KK{R:Type}(a:O R):agree a a=a:=by simp_all [agree]
theorem agx{P:aE}{t e:aD}(ec:P.underlying t=some (.slice e))(ad:O Addr)(n c:Nat)(hn:ad=none->n=0/\c=0)(x y:bx)(op:BinOp)(hop:op=.eql\/op=.neq)(w:U):
  (do eqGuard op t x y (.slice ad n c) (.slice none 0 0);binOp op t (.slice ad n c) (.slice none 0 0)).run P w=.ok (.bool (Ev op ad.isNone)) w:=by
 have h1:(eqGuard op t x y (.slice ad n c) (.slice none 0 0)).run P w=.ok () w:=by rcases hop with rfl|rfl<;>rfl
 have h3:binOp op t (.slice ad n c) (.slice none 0 0)=(do let r <-Op.equal t (.slice ad n c) (.slice none 0 0);pure (.bool (Ev op r))):=by rcases hop with rfl|rfl<;>rfl
 have h2:∀d,(Op.equalIn (d+1) t (.slice ad n c) (.slice none 0 0)).run P w=.ok ad.isNone w:=by
  cases ad with
  | none=>
   simp [Op.equalIn,aQ ec]
  | some a=>simp [Op.equalIn,aQ ec]
 simp [h1,h3,Op.equal,Op.maxDepth,h2 9999]
noncomputable def Wm{R:Type}(X:Cx E)(st:TS E)(o:Oper)(k:Ex E->TS E->Option R):Option R:=
 match SF X.P X.ty st o.op with
 | some (c,d)=>rqP (O7 st o.op) c (k .normal {st with t:=b9 st.t o.dst d})
 | none=>match Zr X.P X.ty st o.dst o.op with
  | some (c,st')=>rqP (O7 st o.op) c (k .normal st')
  | none=>match o.op with
   | .pick c x y=>match st.ev c with
    | .dat .bool b=>cond b (k .normal {st with t:=b9 st.t o.dst (st.ev x)}) (k .normal {st with t:=b9 st.t o.dst (st.ev y)})
    | _=>none
   | .call c=>match c.callee with
    | .value x=>match st.ev x with
     | .func (.func f) caps=>qt st o.dst f (c.args.toList.map st.ev++caps) k X.Γ
     | .FU (.func f) fs=>qt st o.dst f (fs++c.args.toList.map st.ev) k X.Γ
     | _=>none
    | _=>none
   | .defer c=>match c.callee with
    | .value x=>match st.ev x with
     | .func (.func f) caps=>cond (Nat.beq f zH) none (k .normal {st with t:=b9 st.t o.dst .any,df:=(f,c.args.toList.map st.ev++caps)::st.df})
     | _=>none
    | _=>none
   | .panic x=>match st.ev x with
    | .iface t d=>k (.panic (.iface t d)) st
    | _=>none
   | .range t x=>match aU X.P t,st.ev x with
    | some ⟨.string,_,_,_⟩,.dat .str l=>k .normal {st with t:=b9 st.t o.dst (.ptr st.H.length 0),H:=st.H++[.iter l 0]}
    | _,_=>none
   | .next x s=>cond s (match st.ev x with
    | .ptr r 0=>match st.H[r]? with
     | some (.iter l p)=>cond (Nat.blt p l.length)
       (k .normal {st with t:=b9 st.t o.dst (.tuple [.dat .bool true,.dat (.int .i64) (p:Int),.dat (.int .i32) ((dec l p).1:Int)]),H:=st.H.set r (.iter l (p+(dec l p).2)),d:=r::st.d})
       (k .normal {st with t:=b9 st.t o.dst (.tuple [.dat .bool false])})
     | _=>none
    | _=>none) none
   | .convert src dst x=>match st.ev x with
    | .ptr r 0=>match st.H[r]? with
     | some (.cells t cs)=>rq (aj5 X.P src dst t cs.length) (k .normal {st with t:=b9 st.t o.dst (.ptr r 0)})
     | _=>none
    | _=>none
   | .binOp op t x y _=>match aU X.P t,st.ev x,st.ev y with
    | some ⟨.slice _,_,_,_⟩,.dat (.aZ T) xs,.val (.slice none 0 0)=>rq (Nat.blt 0 (T.size E)) (match op with
     | .eql=>cond xs.isEmpty (agree (k .normal {st with t:=b9 st.t o.dst (.dat .bool true)}) (k .normal {st with t:=b9 st.t o.dst (.dat .bool false)})) (k .normal {st with t:=b9 st.t o.dst (.dat .bool false)})
     | .neq=>cond xs.isEmpty (agree (k .normal {st with t:=b9 st.t o.dst (.dat .bool false)}) (k .normal {st with t:=b9 st.t o.dst (.dat .bool true)})) (k .normal {st with t:=b9 st.t o.dst (.dat .bool true)})
     | _=>none)
    | _,_,_=>none
   | _=>none
def EB:Op->Bool
 | .defer _=>true
 | _=>false
section
variable {X : Cx E} {st : TS E} {o : Oper}
theorem Nx{R:Type}(hX:X.Ok){k:Ex E->TS E->Option R}{r:R}(h:Wm X st o k=some r):BP X.P o (ig o.dst) (!(EB o.op)) st (fun x st'=>k x st'=some r):=by
 unfold Wm at h;split at h
 ·rename_i pc pd hp
  obtain⟨h1,h2⟩:=F6 h;exact BP.Ft (fun w0 G0 a w G hr=>(Qc hX.E hr hp h1).aia hr) h2 ((Fr.put st o.dst pd).wide (fun i h=>h) (fun _=>rfl))
 ·split at h
  ·rename_i pc pd hp
   obtain⟨h1,h2⟩:=F6 h;exact BP.Ft (fun w0 G0 a w G hr=>aey hX.E hr hp h1) h2 ((akW hp).wide (fun i h=>h) (fun _=>rfl))
  ·split at h<;>try trivial
   ·rename_i c x y ho
    split at h<;>try trivial
    rename_i b hb;intro w0 G0 a w G hr;have hv:=hr.ev c;rw [hb] at hv;have hv:=hv.lI
    have hrun:(execOp a.eval o).run X.P w=.ok (.value (if b then a.eval x else a.eval y)) w:=by
     simp [execOp,ho,hv,asBool]
    unfold Oper.wp;rw [hrun];cases b<;>simp only [bq,aS] at h
    ·exact⟨_,G,hr.put (hr.ev y) o.dst,h,(Fr.put st o.dst _).wide (fun i h=>h) (fun _=>rfl)⟩
    ·exact⟨_,G,hr.put (hr.ev x) o.dst,h,(Fr.put st o.dst _).wide (fun i h=>h) (fun _=>rfl)⟩
   ·rename_i c ho
    split at h<;>try trivial
    rename_i x hc;split at h<;>try trivial
    ·rename_i f caps hx
     have:=abM hX.E (P:=X.P) ho hc hx hX.Γ h;rw [ho];exact this
    ·rename_i f caps hx
     have:=abN hX.E (P:=X.P) ho hc hx hX.Γ h;rw [ho];exact this
   ·rename_i c ho
    split at h<;>try trivial
    rename_i x hc;split at h<;>try trivial
    rename_i f caps hx;cases aeE:Nat.beq f zH<;>rw [aeE] at h<;>simp only [bq,aS] at h
    rotate_left
    ·cases h
    intro w0 G0 a w G hr;have hv:=hr.ev x;rw [hx] at hv;simp only [VT] at hv;obtain⟨cv,FZ,O6⟩:=hv
    have hrun:(execOp a.eval o).run X.P w=.ok (.defer {target:=.fn (.func f) cv,args:=c.args.map a.eval}) w:=by
     simp [execOp,ho,resolve,hc,FZ,Deferred.ofValue]
    unfold Oper.wp;rw [hrun]
    have hargs:bD E w G (c.args.toList.map st.ev++caps) (c.args.map a.eval++cv).toList:=by
     have:=(Nt hr c.args.toList).append O6;simpa using this
    have eM:Rel E w0 G0 {st with df:=(f,c.args.toList.map st.ev++caps)::st.df} {a with defers:={target:=.fn (.func f) cv,args:=c.args.map a.eval} :: a.defers} w G:=
     ⟨hr.eR,hr.size,hr.tmps,⟨.inl ⟨aeE,cv,rfl,hargs⟩,hr.defers⟩,hr.boxes,hr.fix,hr.pins,hr.gf⟩
    refine⟨_,G,eM.put (d:=.any) (by simp only [VT]) o.dst,h,?_⟩;exact⟨KI _ _ _,fun i hi=>HK _ _ _ _ hi,⟨[],rfl,fun _ _ _=>rfl⟩,eo _,fun hh=>by rw [ho] at hh;cases hh⟩
   ·rename_i x ho
    split at h<;>try trivial
    rename_i t d hx;intro w0 G0 a w G hr;have hv:=hr.ev x;rw [hx] at hv;have hv0:=hv;simp only [VT] at hv;obtain⟨u,hu,-⟩:=hv
    have hrun:(execOp a.eval o).run X.P w=.halt (.panic (a.eval x)) w:=by
     simp [execOp,ho,Instr.panic,hu,goPanic]
    unfold Oper.wp;rw [hrun];exact⟨.panic (.iface t d),st,G,⟨a.eval x,rfl,hv0⟩,hr,(fun h=>nomatch h),h,Fr.refl _ _ _⟩
   ·rename_i t x ho
    split at h<;>try trivial
    rename_i j1 j2 z l ht hd;refine BP.Ft (fun w0 G0 a w G hr=>?_) h ?_
    ·have hv:=hr.ev x
     rw [hd] at hv;obtain⟨xt,jB,ec,-⟩:=aN ht;refine IG hr (ob:=.stringIter ⟨⟨l⟩⟩ 0) (x:=.iter l 0) (heap_alloc_new w _) ?_;simp only [execOp,ho,hv.gP,Instr.range,mkStr,iS,aQ ec,jm,od];rfl
    ·exact (Fr.mem st o.dst _ _ st.g [] (KJ _ _) si).wide (fun i h=>h) (fun _=>rfl)
   ·rename_i x s ho
    cases s<;>simp only [bq,aS] at h
    ·cases h
    split at h<;>try trivial
    rename_i r hd;split at h<;>try trivial
    rename_i l p hb;cases hlt:Nat.blt p l.length<;>rw [hlt] at h<;>simp only [bq,aS] at h
    ·refine BP.Ft (fun w0 G0 a w G hr=>?_) h ((Fr.put st o.dst _).wide (fun i h=>h) (fun _=>rfl))
     have hv:=hr.ev x;rw [hd] at hv;simp only [VT] at hv;obtain⟨b,he,hat⟩:=hv;have hheap:w.heap[b]? = some (.stringIter ⟨⟨l⟩⟩ p):=hr.box hat hb
     have hlt':¬ p<(ByteArray.mk ⟨l⟩).size:=fun hh=>by
      have:Nat.blt p l.length=true:=by rw [Nat.blt,XP];exact hh
      simp_all
     have hrun:(execOp a.eval o).run X.P w=.ok (.value (.tuple #[.bool false])) w:=by
      have zR:(getObj b).run X.P w=.ok (.stringIter ⟨⟨l⟩⟩ p) w:=by simp only [getObj,Sem.run,hheap]
      simp only [execOp,ho,Instr.next,he,iS,zR,jm,hlt',if_false,od]
     refine⟨_,_,w,G,hrun,.inl rfl,hr.put ?_ o.dst⟩;simp only [VT];exact⟨_,rfl,.cons (.bool _ _ _) (by simp only [bD])⟩
    ·refine BP.Ft (fun w0 G0 a w G hr=>?_) h ((Fr.mem st o.dst _ _ st.g [r] (BO _ _ _) si).wide (fun i h=>h) (fun _=>rfl))
     have hv:=hr.ev x;rw [hd] at hv;simp only [VT] at hv;obtain⟨b,he,hat⟩:=hv;have hheap:w.heap[b]? = some (.stringIter ⟨⟨l⟩⟩ p):=hr.box hat hb;have hlt':p<(ByteArray.mk ⟨l⟩).size:=by rw [Nat.blt,XP] at hlt;exact hlt
     let w':World:={w with heap:=w.heap.setIfInBounds b (.stringIter ⟨⟨l⟩⟩ (p+(dec l p).2))}
     have Dt:∀b',b'≠b->w'.heap[b']? = w.heap[b']?:=fun b' hb'=>by
      grind
     have hnew:w'.heap[b]? = some (.stringIter ⟨⟨l⟩⟩ (p+(dec l p).2)):=by
      grind
     have hrun:(execOp a.eval o).run X.P w=.ok (.value (.tuple #[.bool true,.int .i64 p,.int .i32 (dec l p).1])) w':=by
      have zR:(getObj b).run X.P w=.ok (.stringIter ⟨⟨l⟩⟩ p) w:=by simp only [getObj,Sem.run,hheap]
      have hso:(setObj b (.stringIter ⟨⟨l⟩⟩ (p+(Utf8.decode ⟨⟨l⟩⟩ p).2))).run X.P w=.ok () w':=by
       simp only [setObj,Sem.run,hheap];rfl
      simp only [execOp,ho,Instr.next,he,iS,zR,jm,hlt',if_true,hso,od,goInt,dec]
     have hR:=hr.xC (w':=w') hat (by simp [w']) rfl rfl rfl Dt (x:=.iter l (p+(dec l p).2)) (fun _=>hnew);refine⟨_,_,w',G,hrun,.inl rfl,hR.put (d:=.tuple [.dat .bool true,.dat (.int .i64) (p:Int),.dat (.int .i32) ((dec l p).1:Int)]) ?_ o.dst⟩;simp only [VT];exact⟨_,rfl,.cons (.bool _ _ _) (.cons (.int _ _ _ _) (.cons (.int _ _ _ _) (by simp only [bD])))⟩
   ·rename_i src dst x ho
    split at h<;>try trivial
    rename_i r hd;split at h<;>try trivial
    rename_i t cs hb;obtain⟨hc,h⟩:=dG h;refine BP.Ft (fun w0 G0 a w G hr=>?_) h ((Fr.put st o.dst _).wide (fun i h=>h) (fun _=>rfl));have hv:=hr.ev x;rw [hd] at hv;have hv0:=hv;simp only [VT] at hv;obtain⟨b,he,hat⟩:=hv;obtain⟨vs,hh,hone,hvs⟩:=hr.box hat hb;have hsz:vs.size=cs.length:=by simpa using hvs.length
    have hsh:w.shape? b=some (t,cs.length):=by simp [World.shape?,hh,hsz]
    have hrun:(convert src dst (.pointer (some ⟨b,0,none⟩))).run X.P w=.ok (.pointer (some ⟨b,0,none⟩)) w:=by
     unfold aj5 at hc;split at hc
     ·rename_i e hs hdd
      rw [cx] at hc;obtain⟨h1,h2⟩:=hc;split at h1
      ·rename_i j hj
       refine Lib.run_to_unsafe (j:=j) w ⟨b,0,none⟩ hs hdd hj (fun h0=>?_) hsh ?_
       ·rw [h0] at h1;cases h1
       simp_all
      ·cases h1
     ·rename_i u hs hdd
      grind [Lib.run_from_unsafe]
     ·cases hc
    refine⟨.value (.pointer (some ⟨b,0,none⟩)),_,w,G,?_,.inl rfl,hr.put (v:=.pointer (some ⟨b,0,none⟩)) (d:=.ptr r 0) ?_ o.dst⟩
    ·simp only [execOp,ho,he,iS,hrun,jm,od]
    simp_all
   ·rename_i op t x y yt ho
    split at h<;>try trivial
    rename_i e j1 j2 z T xs ht hx hy;obtain⟨hk0,h⟩:=dG h;have hk0:0<T.size E:=by simp_all
    obtain⟨xt,jB,ec,-⟩:=aN ht;have hop:op=.eql\/op=.neq:=by grind
    have key:(xs=[]->k .normal {st with t:=b9 st.t o.dst (.dat .bool (Ev op true))} = some r)/\k .normal {st with t:=b9 st.t o.dst (.dat .bool (Ev op false))} = some r:=by
     rcases hop with rfl|rfl<;>cases xs<;>simp only [List.isEmpty_nil,List.isEmpty_cons,bq,aS] at h
     ·exact⟨fun _=>(zY h).1,(zY h).2⟩
     ·exact⟨(fun e=>by cases e),h⟩
     ·exact⟨fun _=>(zY h).1,(zY h).2⟩
     ·exact⟨(fun e=>by cases e),h⟩
    clear h;intro w0 G0 a w G hr;have hv:=hr.ev x;rw [hx] at hv;have AU:=hr.ev y;rw [hy] at AU;simp only [VT] at AU;have hd:=(hv.atom rfl).sB;obtain⟨cs,hfl,Ci⟩:=VD.flat hk0 hd
    have hsh:∃ad n c,a.eval x=.slice ad n c/\(ad=none->n=0/\c=0/\xs=[]):=by
     rcases Ci with⟨ad,he,hn⟩|⟨b,off,cap,he,hcap,hcells⟩
     ·exact⟨ad,0,0,he,fun _=>⟨rfl,rfl,by simpa using hn⟩⟩
     grind
    obtain⟨ad,n,c,he,hn⟩:=hsh
    have hrun:(execOp a.eval o).run X.P w=.ok (.value (.bool (Ev op ad.isNone))) w:=by
     have hq:=agx (P:=X.P) ec ad n c (fun e=>⟨(hn e).1,(hn e).2.1⟩) x y op hop w;have hx:execOp a.eval o=(do let z <- (do eqGuard op t x y (a.eval x) (a.eval y);binOp op t (a.eval x) (a.eval y));pure (.value z)):=by simp [execOp,ho]
     rw [hx,he,AU,iS,hq];rfl
    unfold Oper.wp;rw [hrun];refine⟨_,G,hr.put (d:=.dat .bool (Ev op ad.isNone)) (.bool _ _ _) o.dst,?_,(Fr.put st o.dst _).wide (fun i h=>h) (fun _=>rfl)⟩
    cases ad with
    | none=>exact key.1 (hn rfl).2.2
    | some _=>exact key.2
def kD(all:aI Oper)(o:Oper):J Nat:=match o.guard with
 | some (j,_)=>match (all[j]?).bind (·.dst) with
  | some t=>[t]
  | none=>[]
 | none=>[]
def eD(all:aI Oper):J Oper->J Nat
 | []=>[]
 | o::os=>ig o.dst++(kD all o++eD all os)
def cg:J Oper->Bool
 | []=>true
 | o::os=>!(EB o.op)&&cg os
abbrev jc{R:Type}(k1:TS E->O R)(k:Ex E->TS E->O R):Ex E->TS E->O R
 | .normal,st=>k1 st
 | e,st=>k e st
noncomputable def s7{R:Type}(X:Cx E)(all:aI Oper):J Oper->TS E->(Ex E->TS E->O R)->O R
 | [],st,k=>k .normal st
 | o::rest,st,k=>match o.guard with
  | none=>Wm X st o (jc (fun st'=>s7 X all rest st' k) k)
  | some (j,want)=>match (all[j]?).bind (·.dst) with
   | some t=>match st.at t with
    | .dat .bool b=>cond b
      (Yc want (Wm X {st with t:=st.t.set t (.dat .bool true)} o (jc (fun st'=>s7 X all rest st' k) k))
       (s7 X all rest {st with t:=b9 (st.t.set t (.dat .bool true)) o.dst (.val undef)} k))
      (Yc want (s7 X all rest {st with t:=b9 (st.t.set t (.dat .bool false)) o.dst (.val undef)} k)
       (Wm X {st with t:=st.t.set t (.dat .bool false)} o (jc (fun st'=>s7 X all rest st' k) k)))
    | .val (.bool _)=>none
    | .val _=>s7 X all rest {st with t:=b9 st.t o.dst (.val undef)} k
    | _=>none
   | none=>none
theorem cu.mono{w0:U}{G0:aJ}{Q Q':Ex E->TS E->Prop}(h:∀x s,Q x s->Q' x s){e:Exit}{a:Act}{w:U}(hp:cu E w0 G0 Q e a w):cu E w0 G0 Q' e a w:=by
 obtain⟨x,s,G,h1,h2,h3⟩:=hp;exact⟨x,s,G,h1,h2,h _ _ h3⟩
theorem oN{P:aE}{o:Oper}{a:Act}{w:U}{n1 n2:Act->U->Prop}{Q1 Q2:Exit->Act->U->Prop}(hn:∀a w,n1 a w->n2 a w)(hq:∀e a w,Q1 e a w->Q2 e a w)(h:o.wp P a w n1 Q1):o.wp P a w n2 Q2:=by
 have hout:LetsOut Q1->LetsOut Q2:=fun⟨a,w,h⟩=>⟨a,w,hq _ _ _ h⟩;unfold Oper.wp at *;generalize (execOp a.eval o).run P w=r at *
 cases r with
 | ok n w'=>
  cases n<;>simp [Oper.upon] at h⊢
  case value u=>exact hn _ _ h
  case skip=>exact hn _ _ h
  case defer d=>exact hn _ _ h
  case enter f args=>
   grind [Calls.mono]
  grind [Rows.mono]
 | halt x w'=>
  cases x<;>simp [Oper.upon] at h⊢
  simp_all
theorem IP{w0 w:U}{G0 G:aJ}{a:Act}(hr:Rel E w0 G0 st a w G){all:aI Oper}{j t:Nat}{want b:Bool}(hg:o.guard=some (j,want))(ht:(all[j]?).bind (·.dst)=some t)(hb:st.at t=.dat .bool b):
  Region.wanted o (yielded all a.tmps)=(b==want)/\a.tmps[t]? = some (.bool b):=by
 have hv:=hr.at t;rw [hb] at hv;have hv:=hv.lI
 have hlt:t<st.t.length:=by
  grind [TS.at]
 have h2:a.tmps[t]? = some (.bool b):=by
  have:t<a.tmps.size:=by rw [hr.size];exact hlt
  simp_all
 unfold Region.wanted yielded
 simp_all
theorem KL{w0 w:U}{G0 G:aJ}{a:Act}(hr:Rel E w0 G0 st a w G){all:aI Oper}{j t:Nat}{want:Bool}{u:Value}(hg:o.guard=some (j,want))(ht:(all[j]?).bind (·.dst)=some t)(hb:st.at t=.val u)(hu:∀b,u≠.bool b):
  Region.wanted o (yielded all a.tmps)=false:=by
 have hv:=hr.at t;rw [hb] at hv;simp [VT] at hv
 have hlt:t<st.t.length:=by
  grind [TS.at]
 have h2:a.tmps[t]? = some u:=by
  have:t<a.tmps.size:=by rw [hr.size];exact hlt
  simp_all
 unfold Region.wanted yielded
 simp_all
theorem Rel.lit{w0 w:U}{G0 G:aJ}{a:Act}(hr:Rel E w0 G0 st a w G){t:Nat}{b:Bool}(h:a.tmps[t]? = some (.bool b)):Rel E w0 G0 {st with t:=st.t.set t (.dat .bool b)} a w G:=by
 refine⟨hr.eR,by simpa using hr.size,fun j d hj=>?_,hr.defers,hr.boxes,hr.fix,hr.pins,hr.gf⟩;simp [Uo] at hj;by_cases hij:t=j
 ·subst hij
  have hlt:t<st.t.length:=by simp_all
  simp [hlt] at hj;subst hj;have:a.tmps.getD t undef=.bool b:=by simp_all
  rw [this];exact .bool _ _ _
 ·rw [if_neg hij] at hj
  exact hr.tmps j d hj
theorem Fr.lit(st:TS E)(t:Nat)(d:TV E):Fr [t] true st {st with t:=st.t.set t d}:=
 ⟨si,fun i hi=>by
  grind,⟨[],rfl,fun _ _ _=>rfl⟩,Nat.le_refl _,fun _=>rfl⟩
theorem qu{R:Type}(hX:X.Ok){all:aI Oper}{k:Ex E->TS E->O R}{r:R}:∀ {l:J Oper}{st:TS E},s7 X all l st k=some r->ad7 E X.P all l st (fun x st'=>k x st'=some r/\Fr (eD all l) (cg l) st st')
 | [],st,h=>fun w0 G0 a w G hr=>⟨.normal,st,G,trivial,hr,h,Fr.refl _ _ _⟩
 | o::rest,st,h=>by
  have ih:∀ {st:TS E},s7 X all rest st k=some r->ad7 E X.P all rest st (fun x st'=>k x st'=some r/\Fr (eD all rest) (cg rest) st st'):=fun h=>qu hX h
  have step:∀(s0 s1:TS E),Fr (kD all o) true s0 s1->Wm X s1 o (jc (fun st'=>s7 X all rest st' k) k)=some r->∀w0 G0 a w G,Rel E w0 G0 s1 a w G ->
    o.wp X.P a w (wpList X.P all (cu E w0 G0 fun x st'=>k x st'=some r/\Fr (eD all (o::rest)) (cg (o::rest)) s0 st') rest) (cu E w0 G0 fun x st'=>k x st'=some r/\Fr (eD all (o::rest)) (cg (o::rest)) s0 st'):=by
   intro s0 s1 SU h w0 G0 a w G hr;have h1:=Nx hX h w0 G0 a w G hr
   have hF:∀ {s2 s3:TS E},Fr (ig o.dst) (!(EB o.op)) s1 s2->Fr (eD all rest) (cg rest) s2 s3->Fr (eD all (o::rest)) (cg (o::rest)) s0 s3:=fun f1 f2=>
    (SU.trans f1 (W:=ig o.dst++kD all o) (fun i hi=>by simp [hi]) (fun i hi=>by simp [hi]) (fun h=>⟨rfl,h⟩)).trans f2 (fun i hi=>by
     grind [eD]) (fun i hi=>by simp [eD,hi]) (fun h=>by
     simp_all [cg])
   refine oN (fun a' w' hn=>?_) (fun e a' w' hp=>?_) h1
   ·obtain⟨s2,G2,hr2,hk,f1⟩:=hn
    have hA:=ih hk w0 G0 a' w' G2 hr2
    have key:∀(l:J Oper)(a:Act)(w:U){Q1 Q2:Exit->Act->U->Prop},(∀e a w,Q1 e a w->Q2 e a w)->wpList X.P all Q1 l a w->wpList X.P all Q2 l a w:=by
     intro l
     induction l with
     | nil=>intro a w Q1 Q2 hq h;exact hq _ _ _ h
     | cons o l ihl=>
      intro a w Q1 Q2 hq h;unfold wpList at h⊢;split
      ·rename_i hw
       rw [if_pos hw] at h;rcases h with h|⟨h,a1,w1,h2⟩
       ·grind [oN]
       ·exact .inr ⟨h,a1,w1,hq _ _ _ h2⟩
      grind
    grind [cu.mono]
   ·obtain⟨x,s2,G2,he,hr2,hn,hk,f1⟩:=hp
    cases x with
    | normal=>exact (hn rfl).elim
    | _=>exact⟨_,s2,G2,he,hr2,hk,hF f1 (Fr.refl _ _ _)⟩
  simp [s7] at h;intro w0 G0 a w G hr;split at h
  ·rename_i hg
   unfold wpList;rw [if_pos (by simp [Region.wanted,hg])];exact .inl (step st st (by grind [kD,Fr.refl]) h w0 G0 a w G hr)
  ·rename_i j want hg
   split at h<;>try trivial
   rename_i t ht;have hgt:kD all o=[t]:=by simp_all [kD]
   have skip:∀(s1:TS E),Fr (kD all o) true st s1->Rel E w0 G0 s1 a w G->s7 X all rest {s1 with t:=b9 s1.t o.dst (.val undef)} k=some r ->
     wpList X.P all (cu E w0 G0 fun x st'=>k x st'=some r/\Fr (eD all (o::rest)) (cg (o::rest)) st st') rest (a.put o.dst undef) w:=by
    intro s1 f0 eM hk;have hr2:=eM.put (v:=undef) (d:=.val undef) (by simp [VT]) o.dst;have hA:=ih hk w0 G0 _ w G hr2
    have key:∀(l:J Oper)(a:Act)(w:U){Q1 Q2:Exit->Act->U->Prop},(∀e a w,Q1 e a w->Q2 e a w)->wpList X.P all Q1 l a w->wpList X.P all Q2 l a w:=by
     intro l
     induction l with
     | nil=>intro a w Q1 Q2 hq h;exact hq _ _ _ h
     | cons o l ihl=>
      intro a w Q1 Q2 hq h;unfold wpList at h⊢;split
      ·rename_i hw
       rw [if_pos hw] at h;rcases h with h|⟨h,a1,w1,h2⟩
       ·grind [oN]
       ·exact .inr ⟨h,a1,w1,hq _ _ _ h2⟩
      grind
    refine key rest _ w (fun e a w hp=>cu.mono (fun x s hh=>⟨hh.1,?_⟩) hp) hA;have f1:Fr (ig o.dst) (!(EB o.op)) s1 {s1 with t:=b9 s1.t o.dst (.val undef)}:=(Fr.put s1 o.dst (.val undef)).wide (fun i h=>h) (fun _=>rfl)
    exact (f0.trans f1 (W:=ig o.dst++kD all o) (fun i hi=>by simp [hi]) (fun i hi=>by simp [hi]) (fun h=>⟨rfl,h⟩)).trans hh.2 (fun i hi=>by
     grind [eD]) (fun i hi=>by simp [eD,hi]) (fun h=>by
     simp_all [cg])
   split at h<;>try trivial
   ·rename_i b hb
    obtain⟨hw,hbv⟩:=IP hr hg ht hb;have hl:=hr.lit hbv;have hfl:Fr (kD all o) true st {st with t:=st.t.set t (.dat .bool b)}:=by simp_all [Fr.lit]
    unfold wpList
    grind
   ·rename_i u hnb hu
    have hw:=KL hr hg ht hu (fun b e=>hnb b e);unfold wpList
    grind [Fr.refl]
end
end Go.RT
namespace Go.RT
section
variable {P : aE} {ops : aI Oper} {Q : Exit -> Act -> U -> Prop} {S : U -> Prop} {lo hi : Nat}
def pre(n i:Nat):aI Bool:=((List.range n).map fun k=>Nat.blt k i).toArray
theorem BQ{a b:Nat}:Nat.blt a b=true↔a<b:=by
 simp_all
theorem acI{a b:Nat}(h:b<=a):Nat.blt a b=false:=by
 simp_all [Qw]
theorem ait(n:Nat):Array.replicate n false=pre n 0:=by
 grind [Array.ext',pre,acI]
theorem QZ{n i:Nat}:(pre n i).setIfInBounds i true=pre n (i+1):=by
 apply RM;apply y9
 ·simp [pre]
 ·intro k h1 h2
  simp only [pre,List.setIfInBounds_toArray,List.getElem_set,Ue,List.getElem_range];by_cases hk:i=k
  ·simp_all
  ·rw [if_neg hk]
   rw [sN,BQ,BQ];omega
theorem akX{n i k:Nat}(h:i<=k)(hk:k<n):(pre n i).getD k true=false:=by
 simp [pre,hk,acI h]
theorem EC{n i k:Nat}(h:k<i)(hk:k<n)(d:Bool):(pre n i).getD k d=true:=by
 simp [pre,hk,BQ.2 h]
def waits(ops:aI Oper):Nat->Nat->Nat->Bool
 | 0,_,_=>false
 | fuel+1,j,i=>match ops[j]? with
  | none=>false
  | some o=>o.after.any (fun e=>Region.binds .any e&&e.on==i)||o.after.any (fun e=>Region.binds .any e&&(Nat.blt i e.on&&waits ops fuel e.on i))
def JD(ops:aI Oper)(listed:aI Bool):Prop:=∀(j:Nat)(o:Oper),ops[j]? = some o->listed.getD j false=true->∀e∈o.after,Region.binds .any e=true->listed.getD e.on false=true
theorem Ny{listed:aI Bool}(hc:JD ops listed){i:Nat}:∀(fuel j:Nat),waits ops fuel j i=true ->
  (∀o,ops[j]? = some o->∀e∈o.after,Region.binds .any e=true->listed.getD e.on false=true)->listed.getD i false=true
 | 0,_,h,_=>by cases h
 | fuel+1,j,h,hj=>by
  unfold waits at h
  cases ho:ops[j]? with
  | none=>rw [ho] at h;cases h
  | some o=>
   rw [ho] at h;simp only [Qu] at h;rcases h with h|h
   ·grind
   ·obtain⟨e,he,hb⟩:=Array.any_eq_true'.1 h
    simp at hb;refine Ny hc fuel e.on hb.2.2 fun o' ho'=>hc e.on o' ho' (hj o ho e he hb.1)
theorem U4{listed:aI Bool}{i k:Nat}(h:(listed.setIfInBounds i true).getD k false=true):k=i\/listed.getD k false=true:=by
 by_cases hik:i=k
 ·exact .inl hik.symm
 simp_all
theorem JD.step{listed:aI Bool}(hc:JD ops listed){i:Nat}(hr:i∈Region.ready .any ops listed):JD ops (listed.setIfInBounds i true):=by
 intro j o ho hj e he hb;obtain⟨_,oi,F7,hall⟩:=mem_ready.1 hr;rcases U4 hj with rfl|hj
 ·rw [F7] at ho;cases ho
  exact getD_set_true (hall e he hb)
 ·exact getD_set_true (hc j o ho hj e he hb)
def wpAnyS(P:aE)(ops:aI Oper)(Q:Exit->Act->U->Prop)(S:U->Prop)(lo hi:Nat):Nat->aI Bool->Act->U->Prop
 | 0,listed,a,w=>Region.ready .any ops listed=[]/\Q .normal a w
 | fuel+1,listed,a,w=>
  (Region.ready .any ops listed=[]->Q .normal a w) /\
  ∀i∈Region.ready .any ops listed,wpOp P ops Q i (fun a' w'=>(lo<=i/\i<hi->S w->S w')/\wpAnyS P ops Q S lo hi fuel (listed.setIfInBounds i true) a' w') a w
theorem SV:∀(fuel:Nat)(listed:aI Bool)(a:Act)(w:U),wpAnyS P ops Q S lo hi fuel listed a w->wpAny P .any ops Q fuel listed a w
 | 0,_,_,_,h=>h
 | fuel+1,_,_,_,h=>⟨h.1,fun i hi=>wpOp_mono (fun a' w' h'=>SV fuel _ a' w' h'.2) (h.2 i hi)⟩
theorem SW:∀(fuel:Nat)(listed:aI Bool)(a:Act)(w:U),(∀k,lo<=k->k<hi->listed.getD k true=true)->wpAny P .any ops Q fuel listed a w->wpAnyS P ops Q S lo hi fuel listed a w
 | 0,_,_,_,_,h=>h
 | fuel+1,listed,_,_,hp,h=>⟨h.1,fun i hm=>wpOp_mono (fun a' w' h'=>by
   have hun:=(mem_ready.1 hm).1;refine⟨fun hx _=>?_,SW fuel _ a' w' (fun k h1 h2=>?_) h'⟩
   ·simp_all
   ·by_cases hik:i=k
    ·simp_all
    simp_all) (h.2 i hm)⟩
theorem wpAnyS_first{i:Nat}{oi:Oper}{v:Value}(F7:ops[i]? = some oi)(hsel:∀(j:Nat)(o:Oper) cs b,ops[j]? = some o->o.op≠.select cs b)
  (hQ:∀c a w,Q (.panic c) (a.put oi.dst v) w->Q (.panic c) a w) (hW:∀j,hi<=j->j<ops.size->waits ops ops.size j i=true) :
  ∀(fuel:Nat)(listed:aI Bool)(a:Act)(w:U),JD ops listed->(∀k,k<lo->k<ops.size->listed.getD k true=true) ->
   (∀j oj,ops[j]? = some oj->j≠i->listed.getD j true=false->(∀e∈oj.after,Region.binds .any e=true->e.on≠i)->oi.apart ops oj=true) ->
   i∈Region.ready .any ops listed->YieldsIf P ops S oi v a->S w ->
   wpAnyS P ops Q S lo hi fuel (listed.setIfInBounds i true) (a.put oi.dst v) w->wpAnyS P ops Q S lo hi (fuel+1) listed a w:=by
 intro fuel
 induction fuel with
 | zero=>
  intro listed a w _ _ _ hr hy hS H;refine⟨fun h=>(by rw [h] at hr;cases hr),fun j hj=>?_⟩;by_cases hji:j=i
  ·subst hji;exact hy.wpOp F7 hS ⟨fun _ h=>h,H⟩
  ·have:=ready_mono hj hji
   rw [H.1] at this
   cases this
 | succ fuel ih=>
  intro listed a w hcl hlo hfree hr hy hS H;refine⟨fun h=>(by rw [h] at hr;cases hr),fun j hj=>?_⟩;by_cases hji:j=i
  ·subst hji;exact hy.wpOp F7 hS ⟨fun _ h=>h,H⟩
  ·have h1:=H.2 j (ready_mono hj hji)
   obtain⟨Nz,oj,NA,hall⟩:=mem_ready.1 hj;have hpi:=(mem_ready.1 hr).1
   have hnot:∀e∈oj.after,Region.binds .any e=true->e.on≠i:=fun e he hb heq=>by
    grind
   have SY:lo<=j/\j<hi:=by
    grind [Ny]
   have h2:=wpOp_putIf NA (hfree j oj NA hji Nz hnot) (fun cs b=>hsel i oi cs b F7) (fun cs b=>hsel j oj cs b NA) hQ hy h1
   have NB:∀k ok,ops[k]? = some ok->k≠i->(listed.setIfInBounds j true).getD k true=false ->
     (∀e∈ok.after,Region.binds .any e=true->e.on≠i)->oi.apart ops ok=true:=fun k ok hk hki hun hno=>by
    refine hfree k ok hk hki ?_ hno;by_cases hjk:j=k
    ·subst hjk;exact Nz
    simp_all
   have apE:∀k,k<lo->k<ops.size->(listed.setIfInBounds j true).getD k true=true:=fun k h1 h2=>by
    by_cases hjk:j=k
    ·subst hjk;omega
    ·rw [getD_set_ne true hjk];exact hlo k h1 h2
   refine wpOp_mono (fun a' w' h3=>⟨fun _ _=>h3.2.1 SY hS,ih (listed.setIfInBounds j true) a' w' (hcl.step hj) apE NB (ready_mono hr (Ne.symm hji)) h3.1 (h3.2.1 SY hS) ?_⟩) h2
   grind [Array.setIfInBounds_comm]
theorem abO{i:Nat}{oi:Oper}{v:Value}(F7:ops[i]? = some oi)(hsel:∀(j:Nat)(o:Oper) cs b,ops[j]? = some o->o.op≠.select cs b)
  (hQ:∀c a w,Q (.panic c) (a.put oi.dst v) w->Q (.panic c) a w) :
  ∀(fuel:Nat)(listed:aI Bool)(a:Act)(w:U),
   (∀j oj,ops[j]? = some oj->j≠i->listed.getD j true=false->(∀e∈oj.after,Region.binds .any e=true->e.on≠i)->oi.apart ops oj=true) ->
   i∈Region.ready .any ops listed->YieldsIf P ops (fun _=>True) oi v a ->
   wpAnyS P ops Q S lo hi fuel (listed.setIfInBounds i true) (a.put oi.dst v) w->wpAnyS P ops Q S lo hi (fuel+1) listed a w:=by
 intro fuel
 induction fuel with
 | zero=>
  intro listed a w _ hr hy H;refine⟨fun h=>(by rw [h] at hr;cases hr),fun j hj=>?_⟩;by_cases hji:j=i
  ·subst hji;exact hy.wpOp F7 trivial ⟨fun _ h=>h,H⟩
  ·have:=ready_mono hj hji
   rw [H.1] at this
   cases this
 | succ fuel ih=>
  intro listed a w hfree hr hy H;refine⟨fun h=>(by rw [h] at hr;cases hr),fun j hj=>?_⟩;by_cases hji:j=i
  ·subst hji;exact hy.wpOp F7 trivial ⟨fun _ h=>h,H⟩
  ·have h1:=H.2 j (ready_mono hj hji)
   obtain⟨Nz,oj,NA,hall⟩:=mem_ready.1 hj;have hpi:=(mem_ready.1 hr).1
   have hnot:∀e∈oj.after,Region.binds .any e=true->e.on≠i:=fun e he hb heq=>by
    grind
   have h2:=wpOp_putIf NA (hfree j oj NA hji Nz hnot) (fun cs b=>hsel i oi cs b F7) (fun cs b=>hsel j oj cs b NA) hQ hy h1
   have NB:∀k ok,ops[k]? = some ok->k≠i->(listed.setIfInBounds j true).getD k true=false ->
     (∀e∈ok.after,Region.binds .any e=true->e.on≠i)->oi.apart ops ok=true:=fun k ok hk hki hun hno=>by
    refine hfree k ok hk hki ?_ hno;by_cases hjk:j=k
    ·subst hjk;exact Nz
    simp_all
   refine wpOp_mono (fun a' w' h3=>⟨h3.2.1,ih (listed.setIfInBounds j true) a' w' NB (ready_mono hr (Ne.symm hji)) h3.1 ?_⟩) h2
   grind [Array.setIfInBounds_comm]
theorem Oper.ZN{o:Oper}{a:Act}{w:U}{K K':Act->U->Prop}{Q':Exit->Act->U->Prop}(h:∀a w,K a w->K' a w)(hq:∀e a w,e≠.normal->Q e a w->Q' e a w)
  (hh:o.wp P a w K Q):o.wp P a w K' Q':=by
 have hout:LetsOut Q->LetsOut Q':=fun⟨a,w,h⟩=>⟨a,w,hq _ _ _ si h⟩;unfold Oper.wp at *;generalize (execOp a.eval o).run P w=r at *
 cases r with
 | ok n w'=>
  cases n<;>simp [Oper.upon] at hh⊢
  case value u=>exact h _ _ hh
  case skip=>exact h _ _ hh
  case defer d=>exact h _ _ hh
  case enter f args=>
   refine FA hh fun e w'' he=>?_
   grind
  case row row args=>exact Rows.mono hh fun u w'' he=>h _ _ he
 | halt x w'=>
  cases x<;>simp [Oper.upon] at hh⊢
  simp_all
def forced(ops:aI Oper)(i:Nat):Nat->Bool
 | 0=>true
 | m+1=>(Region.ready .any ops (pre ops.size i)==[i])&&forced ops (i+1) m
theorem Wn{R Q':Exit->Act->U->Prop}:∀(seg:J Oper)(i fuel:Nat),(∀k,k<seg.length->ops[i+k]? = seg[k]?)->forced ops i seg.length=true->∀a w,wpList P ops R seg a w ->
  (∀e a w,R e a w->e=.normal/\wpAny P .any ops Q' fuel (pre ops.size (i+seg.length)) a w)->wpAny P .any ops Q' (seg.length+fuel) (pre ops.size i) a w
 | [],i,fuel,_,_,a,w,h,hR=>by
  have:=(hR _ a w h).2
  simpa using this
 | o::seg,i,fuel,hs,hf,a,w,h,hR=>by
  simp [forced] at hf;have F7:ops[i]? = some o:=by simpa using hs 0 si
  rw [show (o::seg).length+fuel=(seg.length+fuel)+1 by simp;omega];refine wpAny_all hf.1 si fun j hj=>?_;have:j=i:=by simpa using hj
  subst this
  have ih:∀a w,wpList P ops R seg a w->wpAny P .any ops Q' (seg.length+fuel) ((pre ops.size j).setIfInBounds j true) a w:=fun a w hw=>by
   rw [QZ];refine Wn seg (j+1) fuel (fun k hk=>?_) hf.2 a w hw (fun e a w hr=>?_)
   ·have:=hs (k+1) (by simpa using hk)
    grind
   grind
  unfold wpOp;simp [F7];have h':(if Region.wanted o (yielded ops a.tmps) then o.wp P a w (wpList P ops R seg) R\/(o.asks P a w/\LetsOut R) else wpList P ops R seg (a.put o.dst undef) w):=h;split
  ·rename_i hw
   rw [if_pos hw] at h';rcases h' with h'|⟨_,a1,w1,h1⟩
   ·grind [Oper.ZN]
   grind
  simp_all
end
end Go.RT
namespace Go.RT
variable {E : TEnv}
def agy(j:Nat):J (Nat×Ty)->O Ty
 | []=>none
 | (q,t)::ps=>cond (Nat.beq q j) (some t) (agy j ps)
def ND(j:Nat):J (Nat×Cn E)->Bool
 | []=>true
 | p::cs=>!(Nat.beq p.1 j)&&ND j cs
theorem NF{j:Nat}:∀ {cs:J (Nat×Cn E)},ND j cs=true->∀c,(j,c)∉cs
 | [],_,_,h=>nomatch h
 | p::cs,h,c,hm=>by
  simp [ND] at h;rcases iq.1 hm with e|hm
  ·rw [<-e,MF] at h;exact nomatch h.1
  ·exact NF h.2 c hm
def Wo(j j':Nat):J (Nat×Cn E)->J (Nat×Cn E)
 | []=>[]
 | p::cs=>cond (Nat.beq p.1 j) (Wo j j' cs) (cond (Nat.beq p.1 j') ((j,p.2)::Wo j j' cs) (p::Wo j j' cs))
theorem acJ{j j':Nat}:∀ {cs:J (Nat×Cn E)}{q:Nat}{x:Cn E},(q,x)∈Wo j j' cs->(q=j/\(j',x)∈cs)\/(q≠j/\q≠j'/\(q,x)∈cs)
 | p::cs,q,x,h=>by
  rw [Wo] at h;have next:(q,x)∈Wo j j' cs->(q=j/\(j',x)∈p::cs)\/(q≠j/\q≠j'/\(q,x)∈p::cs):=fun h=>(acJ h).imp (fun⟨a,b⟩=>⟨a,pX _ b⟩) fun⟨a,b,c⟩=>⟨a,b,pX _ c⟩
  cases h1:Nat.beq p.1 j<;>rw [h1] at h
  ·cases h2:Nat.beq p.1 j'<;>rw [h2] at h
   ·rcases iq.1 h with e|h
    ·rw [<-e] at h1 h2
     exact .inr ⟨fun e=>(by rw [e,MF] at h1;cases h1),fun e=>(by rw [e,MF] at h2;cases h2),by rw [e];exact Mz ..⟩
    ·exact next h
   ·rcases iq.1 h with e|h
    ·cases e
     exact .inl ⟨rfl,by rw [<-eB h2];exact Mz ..⟩
    ·exact next h
  ·exact next h
 | [],_,_,h=>nomatch h
def SZ(c:Cut)(n0 i:Nat)(p:PT)(st:TS E):TS E:=match p,st.t[i]? with
 | .one (.cj j _),some (.cj j' v T xs)=>match st.g[j]?,st.g[j']? with
  | some g,some g'=>cond (!(Nat.beq j' j)&&(Nat.ble n0 j'&&(Nat.beq g'.aF v&&(Nat.beq g.e g'.e&&(Nat.beq g.k g'.k&&(ND j st.c&&ND j' st.c))))))
    {st with t:=st.t.set i (.cj j (g.aF+1) T xs),g:=(st.g.set j' {g' with aF:=g'.aF+1}).set j {g with aF:=g.aF+1}} st
  | _,_=>st
 | .one (.cj j T),some (.val (.slice none 0 0))=>match st.g[j]? with
  | some g=>cond (ND j st.c) {st with t:=st.t.set i (.cj j (g.aF+1) T []),g:=st.g.set j {g with aF:=g.aF+1}} st
  | none=>st
 | .one (.dZ j),some (.dZ j' v)=>match st.g[j]?,st.g[j']? with
  | some g,some g'=>cond (!(Nat.beq j' j)&&(Nat.ble n0 j'&&(Nat.beq g'.aF v&&(Nat.beq g.e g'.e&&Nat.beq g.k g'.k))))
    {st with t:=st.t.set i (.dZ j (g.aF+1)),g:=(st.g.set j' {g' with aF:=g'.aF+1}).set j {g with aF:=g.aF+1},c:=Wo j j' st.c} st
  | _,_=>st
 | .one (.dZ j),some (.val (.slice none 0 0))=>match c.rows[j]?,agy j c.soft with
  | some (some (e,_)),some T=>cond (Nat.beq st.g.length j&&Nat.blt 0 (T.size E)) {st with t:=st.t.set i (.dZ st.g.length 0),g:=st.g++[⟨0,e,T.size E⟩],c:=(st.g.length,⟨T,[]⟩)::st.c} st
  | _,_=>st
 | .one (.dat t),some (.dZ j v)=>{(uC (.dat t) (.dZ j v) st).2 with t:=st.t.set i (uC (.dat t) (.dZ j v) st).1}
 | _,_=>st
def Yd(c:Cut)(n0:Nat):J (Nat×PT)->TS E->TS E
 | [],st=>st
 | (i,p)::vs,st=>Yd c n0 vs (SZ c n0 i p st)
def Cut.pack(c:Cut)(bJ st:TS E):O (dens E c.tys):=match c.leaves bJ (Yd c bJ.g.length c.vars st) with
 | some ls=>getAll c.tys ls
 | none=>none
def Cut.un(c:Cut)(W:J Nat)(bJ:TS E)(x:dens E c.tys):TS E:=c.unpack W bJ (aP c.tys x)
def Cut.okW(c:Cut)(W:J Nat):Bool:=c.vars.all fun p=>W.elem p.1
theorem Dz(n:Rn):∀(bs:J (O BT))(r0:Nat)(H:J (eZ E))(ls:J (Lf E))(r:Nat),r<bs.length->r0+r∉CR r0 bs->r<H.length->(eE n bs H ls)[r]? = H[r]?
 | [],_,_,_,_,h,_,_=>by simp at h
 | none::bs,r0,H,ls,0,_,_,h=>by cases H with|nil=>simp at h|cons x H=>simp [eE]
 | none::bs,r0,H,ls,r+1,h1,h2,h3=>by
  cases H with
  | nil=>simp at h3
  | cons x H=>
   have:=Dz n bs (r0+1) H ls r (by simpa using h1) (by rw [show r0+1+r=r0+(r+1) by omega];exact h2) (by simpa using h3)
   simpa [eE] using this
 | some t::bs,r0,H,ls,0,_,h2,_=>(h2 (by simp [CR])).elim
 | some t::bs,r0,H,ls,r+1,h1,h2,h3=>by
  cases H with
  | nil=>simp at h3
  | cons x H=>
   have:=Dz n bs (r0+1) H (t.put n ls).2 r (by simpa using h1) (by rw [show r0+1+r=r0+(r+1) by omega];exact fun hm=>h2 (by simp [CR,hm])) (by simpa using h3);simpa [eE] using this
theorem Qd(n:Rn):∀(vs:J (Nat×PT))(t:J (TV E))(ls:J (Lf E))(i:Nat),i∉vs.map (·.1)->(mu n vs t ls).1[i]? = t[i]?
 | [],t,ls,i,_=>rfl
 | (j,p)::vs,t,ls,i,h=>by
  simp only [lD,iq,not_or] at h;rw [mu,Qd n vs _ _ i h.2,My (fun e=>h.1 e.symm)]
theorem S0(n:Rn):∀(vs:J (Nat×PT))(t:J (TV E))(ls:J (Lf E)),(mu n vs t ls).1.length=t.length
 | [],t,ls=>rfl
 | (j,p)::vs,t,ls=>by simp_all [mu,S0]
theorem S1(W:J Nat):∀(i:Nat)(l:J (TV E))(j:Nat),(i+j)∉W->(mO W i l)[j]? = l[j]?
 | _,[],j,_=>rfl
 | i,d::ds,0,h=>by
  simp_all [Ud,mO]
 | i,d::ds,j+1,h=>by
  have:=S1 W (i+1) ds j (by rw [show i+1+j=i+(j+1) by omega];exact h);simpa [mO] using this
theorem Cut.aeF{c:Cut}{bJ st:TS E}{ls:J (Lf E)}(h:c.leaves bJ st=some ls):bJ.H.length<=c.boxes.length:=by
 unfold Cut.leaves at h;cases hc:(below c.rows.length c.soft&&(Nat.ble bJ.H.length c.boxes.length&&(Nat.ble bJ.g.length c.rows.length&&xE c.rows bJ.g st.g)))<;>rw [hc] at h<;>simp only [bq] at h
 ·cases h
 simp_all
theorem Cut.Wp{c:Cut}{W:J Nat}{bJ st:TS E}{ls ls':J (Lf E)}(hW:c.okW W=true)(h:c.leaves bJ st=some ls):Fr W true bJ (c.unpack W bJ ls'):=by
 have hl:=Cut.aeF h;refine⟨?_,fun i hi=>?_,⟨CR 0 c.boxes,rfl,fun r hr hd=>?_⟩,?_,fun _=>rfl⟩
 ·show ((mu _ c.vars (mO W 0 bJ.t) ls').1).length=_
  rw [S0,F0]
 ·show ((mu _ c.vars (mO W 0 bJ.t) ls').1)[i]? = _
  rw [Qd _ _ _ _ i (fun hm=>?_),S1 W 0 bJ.t i (by simp_all)];obtain⟨p,hp,rfl⟩:=yx.1 hm;exact hi (OK (oX.1 hW p hp))
 ·exact Dz _ c.boxes 0 bJ.H _ r om (by simp_all) hr
 ·show bJ.H.length<=(eE _ c.boxes bJ.H _).length
  simp_all [nv]
theorem Rel.apF{w0 w:U}{G0 G G1:aJ}{st jk:TS E}{a:Act}(hr:Rel E w0 G0 st a w G)(hc:oy st jk)(eM:Rel E w0 G0 jk a w G1){i:Nat}{d d1:TV E}(hi:st.t[i]? = some d)(hv:∀v,VT E w G d v->VT E w G1 d1 v):
  Rel E w0 G0 {jk with t:=st.t.set i d1} a w G1:=by
 obtain⟨c',rfl⟩:=hc;refine⟨eM.eR,by simpa using eM.size,fun j d' hj=>?_,eM.defers,eM.boxes,eM.fix,eM.pins,eM.gf⟩;simp [Uo] at hj;by_cases hij:i=j
 ·subst hij
  have hlt:=(eO.1 hi).1;simp [hlt] at hj;subst hj;exact hv _ (hr.tmps i _ hi)
 ·rw [if_neg hij] at hj
  exact eM.tmps j d' hj
theorem Rel.ZO{w0 w:U}{G0 G:aJ}{st:TS E}{a:Act}(h:Rel E w0 G0 st a w G){j:Nat}{x x':bQ}{hd hd':Value}(c':J (Nat×Cn E))(hj:G.g[j]? = some (x,hd))(hlt:x.aF<x'.aF)(hok:xA E w G x' hd')(zM:∀i c,(i,c)∈c'->∃y z,(G.g.set j (x',hd'))[i]? = some (y,z)/\rG E w G y z c)
  (hnew:∀b,hd'.ownBlock=some b->w0.heap.size<=b) (hap:∀(m:Nat) y z b,m≠j->G.g[m]? = some (y,z)->z.ownBlock=some b->hd'.ownBlock≠some b) :
  Rel E w0 G0 {st with g:=st.g.set j x',c:=c'} a w {G with g:=G.g.set j (x',hd')}:=by
 have at':∀(m:Nat) y z,(G.g.set j (x',hd'))[m]? = some (y,z)->(m=j/\y=x'/\z=hd')\/(m≠j/\G.g[m]? = some (y,z)):=by
  grind
 have hg:ic w G w {G with g:=G.g.set j (x',hd')}:=by
  refine⟨fun _ _ h=>h,fun _ _ _ _ h=>h,fun _ _ h=>h,fun m y z hm=>?_⟩
  grind
 have ev:=h.eR;refine⟨⟨ev.os,ev.tape,ev.output,ev.size,ev.old,ev.goes.trans hg,ev.nt,ev.p4,fun m y z b hm hb=>?_⟩,h.size,fun m d hm=>(h.tmps m d hm).mono hg,h.defers.mono hg,?_,h.fix,h.pins,?_⟩
 ·rcases at' m y z hm with⟨-,-,rfl⟩|⟨-,hm⟩
  ·exact .inl (hnew b hb)
  ·exact ev.gA m y z b hm hb
 ·refine⟨h.boxes.len,?_,fun r b y hb hy=>(h.boxes.box r b y hb hy).mono hg rfl,h.boxes.lt,h.boxes.nodup,h.boxes.ga,fun m y z hm=>?_,fun m m' y z y' z' b hm hm' hb hb'=>?_⟩
  ·rw [XS,h.boxes.gs]
  ·rcases at' m y z hm with⟨-,rfl,rfl⟩|⟨-,hm⟩
   ·exact hok
   ·exact h.boxes.grow m y z hm
  ·rcases at' m y z hm with⟨q1,-,q3⟩|⟨q1,q⟩<;>rcases at' m' y' z' hm' with⟨q1',-,q3'⟩|⟨q1',q'⟩
   ·rw [q1,q1']
   ·grind
   ·grind
   ·exact h.boxes.apart m m' y z y' z' b q q' hb hb'
 ·exact fun i c hm=>zM i c hm
theorem Rel.O8{w0 w:U}{G0 G:aJ}{st:TS E}{a:Act}(h:Rel E w0 G0 st a w G){j:Nat}{x x':bQ}{hd hd':Value}(hj:G.g[j]? = some (x,hd))(hlt:x.aF<x'.aF)(hok:xA E w G x' hd')(zM:∀c,(j,c)∉st.c)
  (hnew:∀b,hd'.ownBlock=some b->w0.heap.size<=b) (hap:∀(m:Nat) y z b,m≠j->G.g[m]? = some (y,z)->z.ownBlock=some b->hd'.ownBlock≠some b) :
  Rel E w0 G0 {st with g:=st.g.set j x'} a w {G with g:=G.g.set j (x',hd')}:=
 h.ZO st.c hj hlt hok (fun i c hm=>by
  obtain⟨y,z,q1,q2⟩:=h.gf i c hm
  grind) hnew hap
theorem vY{w:World}{G:aJ}(x:bQ):xA E w G x (.slice none 0 0):=
 ⟨0,[],⟨si,.inl ⟨rfl,rfl⟩⟩,(fun a m e=>nomatch e),(fun b hb=>nomatch hb)⟩
theorem Rel.aeG{w0 w:U}{G0 G:aJ}{st:TS E}{a:Act}(h:Rel E w0 G0 st a w G){i:Nat}{d1:TV E}(hv:VT E w G d1 (a.tmps.getD i undef)):Rel E w0 G0 {st with t:=st.t.set i d1} a w G:=by
 refine⟨h.eR,by simpa using h.size,fun j d' hj=>?_,h.defers,h.boxes,h.fix,h.pins,h.gf⟩;simp [Uo] at hj;by_cases hij:i=j
 ·simp_all
 ·rw [if_neg hij] at hj
  exact h.tmps j d' hj
theorem ZP(c:Cut)(n0 i:Nat)(p:PT){w0 w:World}{G0 G:aJ}{st:TS E}{a:Act}(hn0:G0.g.length<=n0)(hr:Rel E w0 G0 st a w G):(∃G',Rel E w0 G0 (SZ c n0 i p st) a w G')/\Fr [i] true st (SZ c n0 i p st):=by
 have vh:(∃G',Rel E w0 G0 st a w G')/\Fr [i] true st st:=⟨⟨G,hr⟩,Fr.refl _ _ _⟩;have mc:∀(d:TV E)(j:Nat),j∉[i]->(st.t.set i d)[j]? = st.t[j]?:=fun d j hj=>My (fun e=>hj (by simp [e]))
 have aqr:∀(t:Ty)(d:TV E),st.t[i]? = some d->(∃G',Rel E w0 G0 {(uC (.dat t) d st).2 with t:=st.t.set i (uC (.dat t) d st).1} a w G')/\Fr [i] true st {(uC (.dat t) d st).2 with t:=st.t.set i (uC (.dat t) d st).1}:=by
  intro t d hi;obtain⟨o1,G1,eM,g1,v1⟩:=QX (.dat t) d hr;refine⟨⟨G1,hr.apF o1 eM hi v1⟩,?_⟩;obtain⟨c',sD⟩:=o1;rw [sD];exact⟨si,fun j hj=>mc _ j hj,⟨[],rfl,fun _ _ _=>rfl⟩,eo _,fun _=>rfl⟩
 unfold SZ;split
 ·rename_i j T0 j' v T xs hi
  split
  ·rename_i g g' hg hg'
   generalize hb:(!(Nat.beq j' j)&&(Nat.ble n0 j'&&(Nat.beq g'.aF v&&(Nat.beq g.e g'.e&&(Nat.beq g.k g'.k&&(ND j st.c&&ND j' st.c))))))=b;cases b
   ·exact vh
   simp only [cx,FE] at hb;obtain⟨b1,b2,b3,b4,b5,b6,b7⟩:=hb;have b1:j'≠j:=fun e=>by simp_all
   have b2:=lC b2;have b3:=eB b3;obtain⟨hd,hj⟩:=hr.zQ hg;obtain⟨hd',hj'⟩:=hr.zQ hg';have hv:=hr.tmps i _ hi;have ZQ:=hr.boxes.grow j' g' hd' hj';have r1:=hr.O8 (x':={g' with aF:=g'.aF+1}) (hd':=.slice none 0 0) hj' (Iv _) (vY _) (NF b7) (fun b hb=>nomatch hb) (fun _ _ _ _ _ _ _ hb=>nomatch hb)
   have r2:=r1.O8 (j:=j) (x:=g) (hd:=hd) (x':={g with aF:=g.aF+1}) (hd':=hd') (by
     simp_all) (Iv _) (by
     obtain⟨n,xs',g1,g2,g3⟩:=ZQ;exact⟨n,xs',by simp_all,fun a m h=>by simp_all,fun b hb=>by simp_all⟩) (NF b6) (fun b hb=>by
     rcases hr.eR.gA j' g' hd' b hj' hb with q|⟨x0,h0,q,-⟩
     ·exact q
     grind) (fun m y z b hm S2 hb hb'=>by
     by_cases e:m=j'
     ·subst e
      rw [XA (eO.1 hj').1] at S2;cases S2;cases hb
     ·rw [My (fun q=>e q.symm)] at S2
      exact e (hr.boxes.apart m j' y z g' hd' b S2 hj' hb hb'))
   refine⟨⟨_,r2.aeG (d1:=.cj j (g.aF+1) T xs) ?_⟩,si,fun q hq=>mc _ q hq,⟨[],rfl,fun _ _ _=>rfl⟩,eo _,fun _=>rfl⟩
   grind [VT]
  ·exact vh
 ·rename_i j T hi
  split
  ·rename_i g hg
   cases hb:ND j st.c
   ·exact vh
   obtain⟨hd,hj⟩:=hr.zQ hg;have hjl:j<G.g.length:=(eO.1 hj).1;have hv:=hr.tmps i _ hi;have r1:=hr.O8 (x':={g with aF:=g.aF+1}) (hd':=.slice none 0 0) hj (Iv _) (vY _) (NF hb) (fun b hb=>nomatch hb) (fun _ _ _ _ _ _ _ hb=>nomatch hb);refine⟨⟨_,r1.aeG (d1:=.cj j (g.aF+1) T []) ?_⟩,si,fun q hq=>mc _ q hq,⟨[],rfl,fun _ _ _=>rfl⟩,eo _,fun _=>rfl⟩;rw [hv];simp only [VT];exact⟨.uk _ _,{g with aF:=g.aF+1},.slice none 0 0,by simp [hjl],eo _,fun _=>rfl⟩
  ·exact vh
 ·rename_i j j' v hi
  split
  ·rename_i g g' hg hg'
   generalize hb:(!(Nat.beq j' j)&&(Nat.ble n0 j'&&(Nat.beq g'.aF v&&(Nat.beq g.e g'.e&&Nat.beq g.k g'.k))))=b;cases b
   ·exact vh
   simp only [cx,FE] at hb;obtain⟨b1,b2,b3,b4,b5⟩:=hb;have b1:j'≠j:=fun e=>by simp_all
   have b2:=lC b2;have b3:=eB b3;have b4:=eB b4;have b5:=eB b5;obtain⟨hd,hj⟩:=hr.zQ hg;obtain⟨hd',hj'⟩:=hr.zQ hg';have hv:=hr.tmps i _ hi;have ZQ:=hr.boxes.grow j' g' hd' hj';have r1:=hr.ZO (x':={g' with aF:=g'.aF+1}) (hd':=.slice none 0 0) [] hj' (Iv _) (vY _) (fun _ _ h=>nomatch h) (fun b hb=>nomatch hb) (fun _ _ _ _ _ _ _ hb=>nomatch hb)
   have r2:=r1.ZO (j:=j) (x:=g) (hd:=hd) (x':={g with aF:=g.aF+1}) (hd':=hd') (Wo j j' st.c) (by
     simp_all) (Iv _) (by
     obtain⟨n,xs',g1,g2,g3⟩:=ZQ;exact⟨n,xs',by simp_all,fun a m h=>by simp_all,fun b hb=>by simp_all⟩) (fun q x hm=>by
     show ∃y z,((G.g.set j' _).set j _)[q]? = some (y,z)/\rG E w G y z x;rcases acJ hm with⟨rfl,hm2⟩|⟨h1,h2,hm2⟩
     ·obtain⟨y,z,q1,q2⟩:=hr.gf j' x hm2
      grind [List.getElem?_set_self,rG]
     ·obtain⟨y,z,q1,q2⟩:=hr.gf q x hm2
      grind) (fun b hb=>by
     rcases hr.eR.gA j' g' hd' b hj' hb with q|⟨x0,h0,q,-⟩
     ·exact q
     grind) (fun m y z b hm S2 hb hb'=>by
     by_cases e:m=j'
     ·subst e
      rw [XA (eO.1 hj').1] at S2;cases S2;cases hb
     ·rw [My (fun q=>e q.symm)] at S2
      exact e (hr.boxes.apart m j' y z g' hd' b S2 hj' hb hb'))
   refine⟨⟨_,r2.aeG (d1:=.dZ j (g.aF+1)) ?_⟩,si,fun q hq=>mc _ q hq,⟨[],rfl,fun _ _ _=>rfl⟩,eo _,fun _=>rfl⟩
   grind [VT]
  ·exact vh
 ·rename_i j hi
  split
  ·rename_i e k T h1 h2
   cases hb:(Nat.beq st.g.length j&&Nat.blt 0 (T.size E))
   ·exact vh
   ·rw [cx] at hb
    exact⟨hr.agw hi e T (lC hb.2),⟨si,fun j hj=>mc _ j hj,⟨[],rfl,fun _ _ _=>rfl⟩,eo _,fun _=>rfl⟩⟩
  ·exact vh
 ·simp_all
 ·exact vh
theorem ZR(c:Cut)(n0:Nat){W:J Nat}{w0 w:U}{G0:aJ}{a:Act}(hn0:G0.g.length<=n0):∀(vs:J (Nat×PT)),(∀p∈vs,p.1∈W)->∀ {st:TS E}{G:aJ},Rel E w0 G0 st a w G->(∃G',Rel E w0 G0 (Yd c n0 vs st) a w G')/\Fr W true st (Yd c n0 vs st)
 | [],_,st,G,hr=>⟨⟨G,hr⟩,Fr.refl _ _ _⟩
 | (i,p)::vs,hW,st,G,hr=>by
  obtain⟨⟨G1,eM⟩,f1⟩:=ZP c n0 i p hn0 hr;obtain⟨h2,f2⟩:=ZR c n0 hn0 vs (fun q hq=>hW q (by simp [hq])) eM;exact⟨h2,Fr.trans f1 f2 (fun j hj=>by simp_all) (fun j hj=>hj) (fun h=>⟨rfl,h⟩)⟩
theorem yH(hE:E.Ok){c:Cut}{W:J Nat}{w0 w:U}{G0 G:aJ}{bJ st:TS E}{a:Act}{x:dens E c.tys}(hp:Pre G0 bJ)(hr:Rel E w0 G0 st a w G)(hF:Fr W true bJ st)(hW:c.okW W=true)(h:c.pack bJ st=some x):
  (∃G2,Rel E w0 G0 (c.un W bJ x) a w G2)/\Fr W true bJ (c.un W bJ x):=by
 unfold Cut.pack at h;split at h<;>try trivial
 rename_i ls hls
 obtain⟨⟨G1,hr⟩,hF1⟩:=ZR c bJ.g.length (by
  rcases XT bJ.g.length G0.g.length with hlt|hge
  ·obtain⟨x,hx,-⟩:=hp.rows bJ.g.length _ _ (fC hlt)
   simp_all
  ·exact hge) c.vars (fun p hp=>OK (oX.1 hW p hp)) hr
 have hF:=Fr.trans hF hF1 (fun _ h=>h) (fun _ h=>h) (fun h=>⟨h,h⟩);obtain⟨D,hD,hH⟩:=hF.d;obtain⟨G2,hR,-⟩:=Rel.cut hE hp hr hF.len hF.keep hD hH (hF.df rfl) hls
 grind [CP,Cut.un,Cut.Wp]
def U5{R:Type}(X:Cx E)(st:TS E)(o:Oper)(k:TS E->O R):O R:=
 match SF X.P X.ty st o.op with
 | some (c,d)=>rqP (O7 st o.op) c (k {st with t:=b9 st.t o.dst d})
 | none=>match o.op with
  | .pick c x y=>match st.ev c with
   | .dat .bool b=>cond b (k {st with t:=b9 st.t o.dst (st.ev x)}) (k {st with t:=b9 st.t o.dst (st.ev y)})
   | _=>none
  | _=>none
def qld(P:aE)(st:TS E):Op->O (Bool×TV E)
 | .load t x=>match aU P t,st.ev x with
  | some i,.gY j aF k ix off=>match st.g[j]?,nO st.c j with
   | some g,some c=>match TV.part c.1 (c.2.getD ix (c.1.dflt E)) i.isAgg i.size off with
    | some d=>some (Nat.beq g.aF aF&&Nat.beq k (c.1.size E),d)
    | none=>none
   | _,_=>none
  | _,_=>none
 | _=>none
def U6{R:Type}(X:Cx E)(st:TS E)(o:Oper)(k:TS E->O R):O R:=
 match qld X.P st o.op with
 | some (c,d)=>rqP (O7 st o.op) c (k {st with t:=b9 st.t o.dst d})
 | none=>U5 X st o k
def tJ{R:Type}(X:Cx E)(all:aI Oper):J Oper->TS E->(TS E->O R)->O R
 | [],st,k=>k st
 | o::rest,st,k=>match o.guard with
  | none=>U6 X st o (fun st'=>tJ X all rest st' k)
  | some (j,want)=>match (all[j]?).bind (·.dst) with
   | some t=>match st.at t with
    | .dat .bool b=>cond b
      (cond want (U6 X {st with t:=st.t.set t (.dat .bool true)} o (fun st'=>tJ X all rest st' k))
       (tJ X all rest {st with t:=b9 (st.t.set t (.dat .bool true)) o.dst (.val undef)} k))
      (cond want (tJ X all rest {st with t:=b9 (st.t.set t (.dat .bool false)) o.dst (.val undef)} k)
       (U6 X {st with t:=st.t.set t (.dat .bool false)} o (fun st'=>tJ X all rest st' k)))
    | .val (.bool _)=>none
    | .val _=>tJ X all rest {st with t:=b9 st.t o.dst (.val undef)} k
    | _=>none
   | none=>none
def agz(ops:aI Oper)(i:Nat):Bool:=match ops[i]? with
 | some o=>!(Sc o.op)
 | none=>false
def takes(ops:aI Oper)(hi:Nat):Nat->Nat->Bool
 | _,0=>true
 | i,m+1=>(Region.free .any ops (pre ops.size i) i&&(Region.ready .any ops (pre ops.size i)).contains i&&(agz ops i||(List.range' hi (ops.size-hi)).all (fun j=>waits ops ops.size j i)))&&takes ops hi (i+1) m
def backward(ops:aI Oper):Bool:=(List.range ops.size).all fun j=>match ops[j]? with
 | some o=>o.after.all fun e=>!(Region.binds .any e)||Nat.blt e.on j
 | none=>true
structure aeH where
 q:Bool
 m:Nat
 c:Option Cut
noncomputable def ZS{R:Type}(X:Cx E)(l:J Oper)(i:Nat)(q:Bool)(m:Nat)(st:TS E)(k:TS E->O R):O R:=
 cond q (rq ((Region.noSelect l.toArray&&backward l.toArray&&takes l.toArray (i+m) i m)&&Nat.ble (i+m) l.length) (tJ X l.toArray ((l.drop i).take m) st k))
  (rq (forced l.toArray i m&&Nat.ble (i+m) l.length) (s7 X l.toArray ((l.drop i).take m) st (jc k fun _ _=>none)))
noncomputable def KM{R:Type}(X:Cx E)(l:J Oper):Nat->J aeH->TS E->(TS E->O R)->O R
 | i,[],st,k=>cond (Nat.beq i l.length) (k st) none
 | i,s::ss,st,k=>match s.c with
  | none=>ZS X l i s.q s.m st (fun st'=>KM X l (i+s.m) ss st' k)
  | some c=>rq (c.okW (eD l.toArray ((l.drop i).take s.m))&&cg l) ((ZS X l i s.q s.m st (fun st'=>c.pack st st')).bind fun x=>KM X l (i+s.m) ss (c.un (eD l.toArray ((l.drop i).take s.m)) st x) k)
section
variable {X : Cx E} {st : TS E}
def nw(Q:TS E->Prop):Ex E->TS E->Prop:=fun x s=>x=.normal/\Q s
theorem cu.nw{w0:U}{G0:aJ}{e:Exit}{a:Act}{w:U}{R:TS E->Prop}(h:cu E w0 G0 (fun x s=>x=.normal/\R s) e a w):e=.normal:=by
 obtain⟨x,s,G,he,_,rfl,_⟩:=h;cases e<;>first|rfl|exact he.elim
def vZ(w0:U)(G0:aJ)(P:aE)(ops:aI Oper)(i:Nat)(st:TS E)(Q:TS E->Prop):Prop:=
 ∀a w G,Rel E w0 G0 st a w G->wpAny P .any ops (cu E w0 G0 (nw Q)) (ops.size-i) (pre ops.size i) a w
theorem vZ.done{w0:U}{G0:aJ}{P:aE}{l:J Oper}{Q:TS E->Prop}(i:Nat)(hi:i=l.length)(h:Q st):vZ w0 G0 P l.toArray i st Q:=by
 subst hi;intro a w G hr;have:l.toArray.size-l.length=0:=by simp
 rw [this];refine⟨?_,.normal,st,G,trivial,hr,rfl,h⟩;apply List.eq_nil_iff_forall_not_mem.2;intro j hj;obtain⟨h1,o,ho,_⟩:=mem_ready.1 hj;have hlt:j<l.length:=by grind
 rw [EC hlt (by simpa using hlt)] at h1;cases h1
theorem akY{l:J Oper}{i m:Nat}(hm:i+m<=l.length)(k:Nat)(hk:k<((l.drop i).take m).length):l.toArray[i+k]? = ((l.drop i).take m)[k]?:=by
 simp_all
theorem aeI{ops:aI Oper}(h:backward ops=true)(i:Nat):JD ops (pre ops.size i):=by
 intro j o ho hj e he hb;have hlt:=(za.1 ho).1;have h1:=oX.1 h j (List.mem_range.2 hlt);simp only [ho] at h1;have h2:=Array.all_eq_true_iff_forall_mem.1 h1 e he;simp only [hb] at h2;have h3:=BQ.1 h2
 have hji:j<i:=by
  simp_all [akX,pre]
 exact EC om om false
theorem S3{R:Type}(hX:X.Ok){o:Oper}{k:TS E->O R}{r:R}(h:U5 X st o k=some r){w0 w:U}{G0 G:aJ}{a:Act}(hr:Rel E w0 G0 st a w G):
  ∃v st',(∀w',Hz o w w'->(execOp a.eval o).run X.P w'=.ok (.value v) w')/\Rel E w0 G0 st' (a.put o.dst v) w G/\k st'=some r/\Fr (ig o.dst) true st st':=by
 unfold U5 at h;split at h
 ·rename_i pc pd hp
  obtain⟨h1,h2⟩:=F6 h;obtain⟨v,hv,hrun⟩:=Qc hX.E hr hp h1;exact⟨v,_,hrun,hr.put hv o.dst,h2,Fr.put _ _ _⟩
 ·split at h<;>try trivial
  rename_i c x y ho;split at h<;>try trivial
  rename_i b hb;have hv:=hr.ev c;rw [hb] at hv;have hv:=hv.lI
  have hrun:∀w',(execOp a.eval o).run X.P w'=.ok (.value (if b then a.eval x else a.eval y)) w':=fun w'=>by
   simp [execOp,ho,hv,asBool]
  cases b<;>simp at h
  ·exact⟨a.eval y,_,fun w' _=>hrun w',hr.put (hr.ev y) o.dst,h,Fr.put _ _ _⟩
  ·exact⟨a.eval x,_,fun w' _=>hrun w',hr.put (hr.ev x) o.dst,h,Fr.put _ _ _⟩
theorem aeJ{R:Type}(hX:X.Ok){o:Oper}{k:TS E->O R}{r:R}(h:U6 X st o k=some r){w0 w:U}{G0 G:aJ}{a:Act}(hr:Rel E w0 G0 st a w G):
  ∃v st',(∀w',Hz o w w'->(execOp a.eval o).run X.P w'=.ok (.value v) w')/\Rel E w0 G0 st' (a.put o.dst v) w G/\k st'=some r/\Fr (ig o.dst) true st st':=by
 unfold U6 at h;split at h
 ·rename_i pc pd hp
  obtain⟨h1,h2⟩:=F6 h;cases ho:o.op<;>rw [ho] at hp<;>try trivial
  simp [qld] at hp;split at hp<;>try trivial
  rename_i i j aF k' ix off ht hx;split at hp<;>try trivial
  rename_i g c hg hc;split at hp<;>try trivial
  rename_i d hpart;cases hp;rw [cx] at h1;obtain rfl:=eB h1.1;obtain⟨v,hv,hrun⟩:=HG hX.E hr ho ht hx hg hc (eB h1.2) hpart;exact⟨v,_,hrun,hr.put hv o.dst,h2,Fr.put _ _ _⟩
 grind [S3]
theorem abP{R:Type}(hX:X.Ok){l:J Oper}{i m:Nat}{k:TS E->O R}{r:R}{Q:TS E->Prop}(hs:(Region.noSelect l.toArray&&backward l.toArray&&takes l.toArray (i+m) i m)=true)(hm:i+m<=l.length)
  (h:tJ X l.toArray ((l.drop i).take m) st k=some r) {w0 w:U} {G0 G:aJ} {a:Act} (ff:∀st',k st'=some r->Fr (eD l.toArray ((l.drop i).take m)) true st st'->vZ w0 G0 X.P l.toArray (i+m) st' Q) (hr:Rel E w0 G0 st a w G) :
  wpAny X.P .any l.toArray (cu E w0 G0 (nw Q)) (l.toArray.size-i) (pre l.toArray.size i) a w:=by
 simp only [cx] at hs;obtain⟨⟨tI,hbk⟩,htk⟩:=hs;refine SV (S:=fun w'=>eS w w') (lo:=i) (hi:=i+m) _ _ _ _ ?_;have hQp:∀c a w,¬ cu E w0 G0 (nw Q) (.panic c) a w:=fun c a w hp=>by have:=cu.nw hp;cases this
 have key:∀(seg:J Oper)(q:Nat)(s:TS E)(a:Act),(∀k,k<seg.length->l.toArray[q+k]? = seg[k]?)->q+seg.length=i+m->i<=q->takes l.toArray (i+m) q seg.length=true ->
   Rel E w0 G0 s a w G->tJ X l.toArray seg s k=some r->(∀st',k st'=some r->Fr (eD l.toArray seg) true s st'->vZ w0 G0 X.P l.toArray (i+m) st' Q) ->
   wpAnyS X.P l.toArray (cu E w0 G0 (nw Q)) (fun w'=>eS w w') i (i+m) (l.toArray.size-q) (pre l.toArray.size q) a w:=by
  intro seg
  induction seg with
  | nil=>
   intro q s a hsg hq hiq _ hr h ff;subst hq;refine SW _ _ _ _ (fun k h1 h2=>EC h2 bE true) ?_
   exact ff s h (Fr.refl _ _ _) a w G hr
  | cons o seg ih=>
   intro q s a hsg hq hiq ht hr h ff;simp only [Bh] at hq ht;simp only [takes,cx] at ht;obtain⟨⟨⟨hfr,hrd⟩,hwt⟩,ht'⟩:=ht;have hoq:l.toArray[q]? = some o:=by simpa using hsg 0 si
   have amO:∀k,k<seg.length->l.toArray[(q+1)+k]? = seg[k]?:=fun k hk=>by
    have:=hsg (k+1) (by simpa using hk)
    grind
   rw [show l.toArray.size-q=(l.toArray.size-(q+1))+1 by simp;omega]
   have first:∀v,YieldsIf X.P l.toArray (fun w'=>Hz o w w') o v a->wpAnyS X.P l.toArray (cu E w0 G0 (nw Q)) (fun w'=>eS w w') i (i+m) (l.toArray.size-(q+1)) (pre l.toArray.size (q+1)) (a.put o.dst v) w ->
     wpAnyS X.P l.toArray (cu E w0 G0 (nw Q)) (fun w'=>eS w w') i (i+m) ((l.toArray.size-(q+1))+1) (pre l.toArray.size q) a w:=fun v hy hh=>by
    simp only [Qu] at hwt;rcases hwt with hnl|hwt
    ·have apG:Sc o.op=false:=by
      simp_all [agz]
     refine abO (v:=v) hoq (ado tI) (fun c a w hp=>(hQp _ _ _ hp).elim) _ _ a w (adp hoq hfr) (by simpa using hrd) ?_ ?_
     ·rcases hy with⟨h1,h2⟩|hy
      ·exact .inl ⟨h1,fun w' _=>h2 w' (fun hl=>by rw [apG] at hl;cases hl)⟩
      ·exact .inr hy
     simp_all [QZ]
    refine wpAnyS_first (v:=v) hoq (ado tI) (fun c a w hp=>(hQp _ _ _ hp).elim) (fun j h1 h2=>?_) _ _ a w (aeI hbk q) (fun k h1 h2=>EC om h2 true) (adp hoq hfr) (by simpa using hrd) ?_ (eS.refl w) ?_
    rotate_left
    ·rcases hy with⟨h1,h2⟩|hy
     ·exact .inl ⟨h1,fun w' hs=>h2 w' (fun _=>hs)⟩
     ·exact .inr hy
    rotate_left
    ·simp_all
    simp_all [QZ]
   have run:∀(s1:TS E),Fr (kD l.toArray o) true s s1->Rel E w0 G0 s1 a w G->Region.wanted o (yielded l.toArray a.tmps)=true->U6 X s1 o (fun st'=>tJ X l.toArray seg st' k)=some r ->
     wpAnyS X.P l.toArray (cu E w0 G0 (nw Q)) (fun w'=>eS w w') i (i+m) ((l.toArray.size-(q+1))+1) (pre l.toArray.size q) a w:=by
    intro s1 f0 eM hw h1;obtain⟨v,s2,hrun,hr2,h2,f1⟩:=aeJ hX h1 eM;refine first v (.inl ⟨hw,hrun⟩) (ih (q+1) s2 _ amO om om ht' hr2 h2 (fun st' hk f2=>ff st' hk ?_))
    exact (f0.trans f1 (W:=ig o.dst++kD l.toArray o) (n:=true) (fun i hi=>by simp [hi]) (fun i hi=>by simp [hi]) (fun h=>⟨rfl,rfl⟩)).trans f2 (fun i hi=>by
     grind [eD]) (fun i hi=>by simp [eD,hi]) (fun h=>⟨rfl,rfl⟩)
   have skip:∀(s1:TS E),Fr (kD l.toArray o) true s s1->Rel E w0 G0 s1 a w G->Region.wanted o (yielded l.toArray a.tmps)=false->tJ X l.toArray seg {s1 with t:=b9 s1.t o.dst (.val undef)} k=some r ->
     wpAnyS X.P l.toArray (cu E w0 G0 (nw Q)) (fun w'=>eS w w') i (i+m) ((l.toArray.size-(q+1))+1) (pre l.toArray.size q) a w:=by
    intro s1 f0 eM hw h1;have hr2:=eM.put (v:=undef) (d:=.val undef) (by simp only [VT]) o.dst;refine first undef (.inr ⟨hw,rfl⟩) (ih (q+1) _ _ amO om om ht' hr2 h1 (fun st' hk f2=>ff st' hk ?_))
    exact (f0.trans (Fr.put s1 o.dst (.val undef)) (W:=ig o.dst++kD l.toArray o) (n:=true) (fun i hi=>by simp [hi]) (fun i hi=>by simp [hi]) (fun h=>⟨rfl,rfl⟩)).trans f2 (fun i hi=>by
     grind [eD]) (fun i hi=>by simp [eD,hi]) (fun h=>⟨rfl,rfl⟩)
   simp only [tJ] at h;split at h
   ·rename_i hg
    exact run s (Fr.refl _ _ _) hr (by simp [Region.wanted,hg]) h
   ·rename_i j want hg
    split at h<;>try trivial
    rename_i t htt;split at h<;>try trivial
    ·rename_i b hb
     obtain⟨hw,hbv⟩:=IP hr hg htt hb;have hl:=hr.lit hbv
     grind [kD,Fr.lit]
    grind [Fr.refl,KL]
 grind
theorem S4{R:Type}(hX:X.Ok){l:J Oper}{i m:Nat}{q:Bool}{k:TS E->O R}{r:R}{Q:TS E->Prop}{w0:U}{G0:aJ}(h:ZS X l i q m st k=some r)
  (ff:∀st',k st'=some r->Fr (eD l.toArray ((l.drop i).take m)) (cg ((l.drop i).take m)) st st'->vZ w0 G0 X.P l.toArray (i+m) st' Q):vZ w0 G0 X.P l.toArray i st Q:=by
 intro a w G hr;unfold ZS at h;cases q<;>simp at h
 ·obtain⟨h1,h2⟩:=dG h
  rw [cx] at h1;have hm:=lC h1.2;have hlen:((l.drop i).take m).length=m:=by simp;omega
  have key:=Wn (Q':=cu E w0 G0 (nw Q)) ((l.drop i).take m) i (l.toArray.size-(i+m)) (akY hm) (by rw [hlen];exact h1.1) a w (qu hX h2 w0 G0 a w G hr) (fun e a w hp=>?_)
  ·grind
  ·obtain⟨x,s,G',he,hr',hk,hf⟩:=hp
   cases x with
   | normal=>
    refine⟨by cases e<;>first|rfl|exact he.elim,?_⟩;rw [hlen]
    exact ff s hk hf a w G' hr'
   | _=>cases hk
 ·obtain⟨h1,h2⟩:=dG h
  rw [cx] at h1;exact abP hX h1.1 (lC h1.2) h2 (fun st' hk hf=>ff st' hk (hf.wide (fun _ h=>h) (fun _=>rfl))) hr
theorem vZ.mono{w0:U}{G0:aJ}{P:aE}{ops:aI Oper}{i:Nat}{Q Q':TS E->Prop}(hq:∀s,Q s->Q' s)(h:vZ w0 G0 P ops i st Q):vZ w0 G0 P ops i st Q':=by
 intro a w G hr
 have key:∀(fuel:Nat)(listed:aI Bool)(a:Act)(w:U){Q1 Q2:Exit->Act->U->Prop},(∀e a w,Q1 e a w->Q2 e a w)->wpAny P .any ops Q1 fuel listed a w->wpAny P .any ops Q2 fuel listed a w:=by
  intro fuel
  induction fuel with
  | zero=>intro listed a w Q1 Q2 hq h;exact⟨h.1,hq _ _ _ h.2⟩
  | succ fuel ih=>
   intro listed a w Q1 Q2 hq h;refine⟨fun he=>hq _ _ _ (h.1 he),fun i hi=>?_⟩;have h1:=h.2 i hi;unfold wpOp at h1⊢;split
   ·grind
   ·rename_i o ho
    rw [ho] at h1;simp only at h1;split
    ·rename_i hw
     rw [if_pos hw] at h1;rcases h1 with h1|⟨h1,a1,w1,h2⟩
     ·exact .inl (oN (fun a w h=>ih _ a w hq h) hq h1)
     ·exact .inr ⟨h1,a1,w1,hq _ _ _ h2⟩
    grind
 exact key _ _ _ _ (fun e a w hp=>cu.mono (fun x s hh=>⟨hh.1,hq _ hh.2⟩) hp) (h a w G hr)
theorem Fu{all:aI Oper}:∀(l:J Oper)(a b:Nat)(i:Nat),i∈eD all ((l.drop a).take b)->i∈eD all l
 | [],a,b,i,h=>by simp at h;exact h
 | o::l,0,0,i,h=>by simp [eD] at h
 | o::l,0,b+1,i,h=>by
  simp [eD] at h⊢;rcases h with h|h|h
  ·exact .inl h
  ·exact .inr (.inl h)
  ·exact .inr (.inr (Fu l 0 b i (by simpa using h)))
 | o::l,a+1,b,i,h=>by
  simp [eD];exact .inr (.inr (Fu l a b i (by simpa using h)))
theorem zZ:∀(l:J Oper)(a b:Nat),cg l=true->cg ((l.drop a).take b)=true
 | [],a,b,h=>by simp [cg]
 | o::l,0,0,h=>by simp [cg]
 | o::l,0,b+1,h=>by
  simp only [cg,cx] at h;simp only [Ul,List.take_succ_cons,cg,cx]
  exact⟨h.1,by simpa using zZ l 0 b h.2⟩
 | o::l,a+1,b,h=>by
  simp_all [cg,zZ]
theorem IQ{R:Type}(hX:X.Ok){l:J Oper}{k:TS E->O R}{r:R}{w0:U}{G0:aJ}:∀(ss:J aeH)(i:Nat){st:TS E},KM X l i ss st k=some r ->
  vZ w0 G0 X.P l.toArray i st (fun st'=>k st'=some r/\Fr (eD l.toArray l) (cg l) st st')
 | [],i,st,h=>by
  simp [KM] at h;cases hi:Nat.beq i l.length<;>rw [hi] at h<;>simp only [bq,aS] at h
  ·cases h
  simp_all [vZ.done,Fr.refl]
 | s::ss,i,st,h=>by
  simp [KM] at h;split at h
  ·refine S4 hX h fun st' hk hf=>?_
   refine vZ.mono (fun s' hh=>⟨hh.1,hf.trans hh.2 (fun j hj=>Fu l i s.m j hj) (fun j hj=>hj) (fun hn=>⟨zZ l i s.m hn,hn⟩)⟩) (IQ hX ss (i+s.m) hk)
  ·rename_i c hc
   obtain⟨h1,h2⟩:=dG h;rw [cx] at h1
   cases hs:ZS X l i s.q s.m st (fun st'=>c.pack st st') with
   | none=>rw [hs] at h2;cases h2
   | some x=>
    rw [hs] at h2;intro a w G hr;have hpre:=hr.pre;refine S4 hX hs (fun st' hk hf=>?_) a w G hr;intro a' w' G' hr';obtain⟨⟨G2,hR⟩,hF⟩:=yH hX.E hpre hr' (hf.wide (fun _ h=>h) (fun _=>zZ l i s.m h1.2)) h1.1 hk;exact vZ.mono (fun s' hh=>⟨hh.1,hF.trans hh.2 (fun j hj=>Fu l i s.m j hj) (fun j hj=>hj) (fun hn=>⟨rfl,hn⟩)⟩) (IQ hX ss (i+s.m) h2) a' w' G2 hR
theorem aeK{R:Type}(hX:X.Ok){id:Nat}{ops:aI Oper}{ss:J aeH}{k:TS E->O R}{r:R}(h:KM X ops.toList 0 ss st k=some r):
  Hy E X.P (.region id ops true) st (fun x st'=>x=.normal/\k st'=some r/\Fr (eD ops ops.toList) (cg ops.toList) st st'):=by
 intro w0 G0 a w G hr;have hs:eS w {w with drawn:=w.drawn+1}:=⟨eo _,fun _ _=>rfl⟩;have hr':=hr.grow hs rfl rfl rfl G.pr (fun _ _ h=>h) (fun _ _ _ h=>h) (fun b o hp=>jz (hr.boxes.ga b o hp).1 hs.1);have h1:=IQ hX ss 0 h a _ _ hr';refine wp_region_any hX.mix ?_;rw [ait];exact h1
theorem kC.trans{w0 w1 w2:U}{G0 G1 G2:aJ}(h:kC w0 G0 w1 G1)(h':kC w1 G1 w2 G2):kC w0 G0 w2 G2:=by
 have Ds:∀b,b<w0.heap.size->G1.Ds b->G0.Ds b:=by
  intro b hb hf;rcases hf with hf|⟨x,hd,hm,hbk⟩
  ·obtain⟨q,hq,he⟩:=lB hf
   have SJ:G1.i[q]? = some b:=by rw [<-he];exact fC hq
   by_cases sF:q<G0.i.length
   ·have e1:=h.goes.i q _ (fC sF)
    rw [SJ] at e1;exact .inl (by rw [uK e1];exact kz sF)
   ·have:=h.p4 q b om SJ;omega
  ·obtain⟨j,hj,he⟩:=lB hm
   rcases h.gA j x hd b (by rw [<-he];exact fC hj) hbk with q|⟨x0,h0,q1,q2⟩
   ·omega
   ·exact .inr ⟨x0,h0,iX q1,q2⟩
 refine⟨h'.os.trans h.os,h'.tape.trans h.tape,h'.output.trans h.output,nH h.size h'.size,fun b hb hn=>(h'.old b (jz hb h.size) (fun hf=>hn (Ds b hb hf))).trans (h.old b hb hn),h.goes.trans h'.goes,fun b o hb hp=>?_,fun r b h1 h2=>?_,fun j x hd b hj hbk=>?_⟩
 ·rcases h'.nt b o (jz hb h.size) hp with q|⟨x,hd,hm,hbk⟩
  ·exact h.nt b o hb q
  ·obtain⟨j,hj,he⟩:=lB hm
   rcases h.gA j x hd b (by rw [<-he];exact fC hj) hbk with q|⟨x0,h0,q1,q2⟩
   ·omega
   ·exact .inr ⟨x0,h0,iX q1,q2⟩
 ·by_cases hr:r<G1.i.length
  ·have e1:=h'.goes.i r _ (fC hr)
   rw [h2] at e1;exact h.p4 r b h1 (by rw [uK e1];exact fC hr)
  ·exact nH h.size (h'.p4 r b om h2)
 ·rcases h'.gA j x hd b hj hbk with q|⟨x0,h0,q1,q2⟩
  ·exact .inl (nH h.size q)
  ·exact h.gA j x0 h0 b q1 q2
theorem Rel.root{w0 w:U}{G0 G:aJ}{a:Act}(h:Rel E w0 G0 st a w G):Rel E w G {st with d:=[]} a w G:=
 ⟨kC.refl w G,h.size,h.tmps,h.defers,h.boxes,fun _ _ _ _=>rfl,h.SL,h.gf⟩
theorem Rel.NG{w0 w w':U}{G0 G G':aJ}{a a':Act}{st':TS E}(h:Rel E w0 G0 st a w G)(h':Rel E w G st' a' w' G'):Rel E w0 G0 {st' with d:=st'.d++st.d} a' w' G':=
 ⟨h.eR.trans h'.eR,h'.size,h'.tmps,h'.defers,h'.boxes,fun r b hb hd=>by
  rw [wX,not_or] at hd;exact (h'.fix r b (h.eR.goes.i r b hb) hd.1).trans (h.fix r b hb hd.2),h.pins,h'.gf⟩
theorem Fr.NG{W:J Nat}{nd:Bool}{st':TS E}(h:Fr W nd {st with d:=[]} st'):Fr W nd st {st' with d:=st'.d++st.d}:=by
 obtain⟨D,hD,hH⟩:=h.d;simp at hD;exact⟨h.len,h.keep,⟨D,by rw [hD],hH⟩,h.hl,h.df⟩
def LC(ws:U)(Gs:aJ)(R:J Nat)(w':U):Prop:=
 (∀r b,r∈R->Gs.i[r]? = some b->w'.heap[b]? = ws.heap[b]?)/\∀b o u,Gs.pr b o->ws.cell? ⟨b,o,none⟩=some u->w'.cell? ⟨b,o,none⟩=some u
def pinned(R:J Nat)(st:TS E):Bool:=R.all fun r=>!(st.d.elem r)
theorem Rel.pin{ws w:U}{Gs G:aJ}{a:Act}{R:J Nat}(h:Rel E ws Gs st a w G)(hR:pinned R st=true):LC ws Gs R w:=
 ⟨fun r b hr hb=>h.fix r b hb (fun hm=>by
  have:=oX.1 hR r hr
  simp_all),h.eR.goes.cells⟩
def S5(R:J Nat)(first:Bool)(st:TS E):Op->Bool
 | .load _ x=>match st.ev x with
  | .ptr r _=>R.elem r
  | .rF _ _ _=>first
  | _=>false
 | _=>true
def vi(P:aE)(ops:aI Oper)(Q:Exit->Act->U->Prop)(S:U->Prop)(Z:J Nat):Nat->aI Bool->Act->U->Prop
 | 0,listed,a,w=>Region.ready .any ops listed=[]/\Q .normal a w
 | fuel+1,listed,a,w=>
  (Region.ready .any ops listed=[]->Q .normal a w) /\
  ∀i∈Region.ready .any ops listed,wpOp P ops Q i (fun a' w'=>(Z.elem i=false->S w')/\vi P ops Q S Z fuel (listed.setIfInBounds i true) a' w') a w
theorem KN{P:aE}{ops:aI Oper}{Q:Exit->Act->U->Prop}{S:U->Prop}{Z:J Nat}:∀(fuel:Nat)(listed:aI Bool)(a:Act)(w:U),vi P ops Q S Z fuel listed a w->wpAny P .any ops Q fuel listed a w
 | 0,_,_,_,h=>h
 | fuel+1,_,_,_,h=>⟨h.1,fun i hi=>wpOp_mono (fun a' w' h'=>KN fuel _ a' w' h'.2) (h.2 i hi)⟩
theorem ZT{P:aE}{ops:aI Oper}{Q:Exit->Act->U->Prop}{S:U->Prop}{Z:J Nat}{i:Nat}{oi:Oper}{v:Value}(F7:ops[i]? = some oi)(hsel:∀(j:Nat)(o:Oper) cs b,ops[j]? = some o->o.op≠.select cs b)
  (hQ:∀c a w,Q (.panic c) (a.put oi.dst v) w->Q (.panic c) a w) {B:J Nat} (hZ:∀j,Z.elem j=true->j∈B) (hB:∀j∈B,∃oj,ops[j]? = some oj/\∃e∈oj.after,Region.binds .any e=true/\(e.on=i\/e.on∈B)) :
  ∀(fuel:Nat)(listed:aI Bool)(a:Act)(w:U),
   (∀j oj,ops[j]? = some oj->j≠i->listed.getD j true=false->(∀e∈oj.after,Region.binds .any e=true->e.on≠i)->oi.apart ops oj=true) ->
   (∀j∈B,listed.getD j true=false)->i∈Region.ready .any ops listed->YieldsIf P ops S oi v a->S w ->
   vi P ops Q S Z fuel (listed.setIfInBounds i true) (a.put oi.dst v) w->vi P ops Q S Z (fuel+1) listed a w:=by
 intro fuel
 induction fuel with
 | zero=>
  intro listed a w _ _ hr hy hS H;refine⟨fun h=>(by rw [h] at hr;cases hr),fun j hj=>?_⟩;by_cases hji:j=i
  ·subst hji;exact hy.wpOp F7 hS ⟨fun _=>hS,H⟩
  ·have:=ready_mono hj hji
   rw [H.1] at this
   cases this
 | succ fuel ih=>
  intro listed a w hfree hL hr hy hS H;refine⟨fun h=>(by rw [h] at hr;cases hr),fun j hj=>?_⟩;by_cases hji:j=i
  ·subst hji;exact hy.wpOp F7 hS ⟨fun _=>hS,H⟩
  ·have h1:=H.2 j (ready_mono hj hji)
   obtain⟨Nz,oj,NA,hall⟩:=mem_ready.1 hj;have hpi:=(mem_ready.1 hr).1
   have hnot:∀e∈oj.after,Region.binds .any e=true->e.on≠i:=fun e he hb heq=>by
    grind
   have h2:=wpOp_putIf NA (hfree j oj NA hji Nz hnot) (fun cs b=>hsel i oi cs b F7) (fun cs b=>hsel j oj cs b NA) hQ hy h1
   have NB:∀k ok,ops[k]? = some ok->k≠i->(listed.setIfInBounds j true).getD k true=false ->
     (∀e∈ok.after,Region.binds .any e=true->e.on≠i)->oi.apart ops ok=true:=fun k ok hk hki hun hno=>by
    refine hfree k ok hk hki ?_ hno;by_cases hjk:j=k
    ·subst hjk;exact Nz
    ·rw [getD_set_ne true hjk] at hun;exact hun
   have hjB:j∉B:=fun hjB=>by
    grind
   have hjZ:Z.elem j=false:=by
    grind
   have hL':∀k∈B,(listed.setIfInBounds j true).getD k true=false:=fun k hk=>by
    rw [getD_set_ne true (fun e=>hjB (by rw [e];exact hk))];exact hL k hk
   refine wpOp_mono (fun a' w' h3=>⟨h3.2.1,ih (listed.setIfInBounds j true) a' w' NB hL' (ready_mono hr (Ne.symm hji)) h3.1 (h3.2.1 hjZ) ?_⟩) h2
   grind [Array.setIfInBounds_comm]
def gdT{R':Type}(all:aI Oper)(o:Oper)(st:TS E)(run skip:TS E->O R'):O R':=match o.guard with
 | none=>run st
 | some (j,want)=>match (all[j]?).bind (·.dst) with
  | some t=>match st.at t with
   | .dat .bool b=>cond b
     (cond want (run {st with t:=st.t.set t (.dat .bool true)}) (skip {st with t:=st.t.set t (.dat .bool true)}))
     (cond want (skip {st with t:=st.t.set t (.dat .bool false)}) (run {st with t:=st.t.set t (.dat .bool false)}))
   | .val (.bool _)=>none
   | .val _=>skip st
   | _=>none
  | none=>none
def hasDep(all:aI Oper)(i:Nat)(S:J Nat)(j:Nat):Bool:=match all[j]? with
 | some o=>o.after.any (fun e=>Region.binds .any e&&(Nat.beq e.on i||S.elem e.on))
 | none=>false
def upG(all:aI Oper)(i:Nat):J Nat->J Nat->J Nat
 | [],acc=>acc
 | j::js,acc=>upG all i js (cond (hasDep all i acc j) (j::acc) acc)
def acK(all:aI Oper)(Z:J Nat)(L:aI Bool)(i:Nat)(B:J Nat):Bool:=Z.all (B.elem ·)&&B.all fun j=>hasDep all i B j && !(L.getD j true)
def behind(all:aI Oper)(Z:J Nat)(L:aI Bool)(i:Nat):Bool:=cond Z.isEmpty true (acK all Z L i (upG all i (List.range all.size) []))
theorem agA{all:aI Oper}{Z:J Nat}{L:aI Bool}{i:Nat}(h:behind all Z L i=true):∃B:J Nat,(∀j,Z.elem j=true->j∈B)/\∀j∈B,L.getD j true=false/\∃oj,all[j]? = some oj/\∃e∈oj.after,Region.binds .any e=true/\(e.on=i\/e.on∈B):=by
 unfold behind at h;cases hz:Z.isEmpty<;>rw [hz] at h<;>simp at h
 ·unfold acK at h
  rw [cx] at h;refine⟨_,fun j hj=>OK (oX.1 h.1 j (OK hj)),fun j hj=>?_⟩;have h2:=oX.1 h.2 j hj
  grind [hasDep,Array.any_eq_true',Nat.eq_of_beq_eq_true,List.mem_of_elem_eq_true]
 ·refine⟨[],fun j hj=>?_,fun j hj=>by cases hj⟩
  simp_all
noncomputable def LF{R':Type}(X:Cx E)(R Z:J Nat)(all:aI Oper):J (Nat×Bool)->Nat->aI Bool->TS E->(Nat->TS E->O R')->O R'
 | [],f,_,st,k=>k f st
 | p::is,f,L,st,k=>match all[p.1]? with
  | none=>none
  | some o=>cond p.2
    (rq ((Region.free .any all L p.1&&(Region.ready .any all L).contains p.1)&&(Nat.ble f 1&&behind all Z L p.1)) (gdT all o st
     (fun st=>rq (S5 R (Nat.beq f 0) st o.op) (U5 X st o (fun st'=>LF X R Z all is f (L.setIfInBounds p.1 true) st' k)))
     (fun st=>LF X R Z all is f (L.setIfInBounds p.1 true) {st with t:=b9 st.t o.dst (.val undef)} k)))
    (rq (Region.ready .any all L==[p.1]) (gdT all o st
     (fun st=>Wm X st o (jc (fun st'=>cond (Z.elem p.1) (LF X R Z all is 2 (L.setIfInBounds p.1 true) st' k) (rq (pinned R st') (LF X R Z all is 1 (L.setIfInBounds p.1 true) st' k))) fun _ _=>none))
     (fun st=>rq (Nat.ble f 1||Z.elem p.1) (LF X R Z all is f (L.setIfInBounds p.1 true) {st with t:=b9 st.t o.dst (.val undef)} k))))
structure w9 where
 l:List (Nat×Bool)
 c:Option Cut
def Ye(L:aI Bool):J (Nat×Bool)->aI Bool
 | []=>L
 | p::l=>Ye (L.setIfInBounds p.1 true) l
def pq(all:aI Oper)(l:J (Nat×Bool)):J Oper:=l.filterMap fun p=>all[p.1]?
noncomputable def O9{R':Type}(X:Cx E)(R Z:J Nat)(all:aI Oper):J w9->Nat->aI Bool->TS E->(TS E->O R')->O R'
 | [],_,L,st,k=>rq (Region.ready .any all L).isEmpty (k st)
 | s::ss,f,L,st,k=>match s.c with
  | none=>LF X R Z all s.l f L st (fun f' st'=>O9 X R Z all ss f' (Ye L s.l) st' k)
  | some c=>rq (c.okW (eD all (pq all s.l))&&cg all.toList) ((LF X R Z all s.l f L st (fun _ st'=>c.pack st st')).bind fun x=>rq (pinned R (c.un (eD all (pq all s.l)) st x)) (O9 X R Z all ss 1 (Ye L s.l) (c.un (eD all (pq all s.l)) st x) k))
def w9.n:J w9->Nat
 | []=>0
 | s::ss=>s.l.length+w9.n ss
def mV(ws:U)(Gs:aJ)(R Z:J Nat)(P:aE)(ops:aI Oper)(f n:Nat)(L:aI Bool)(st:TS E)(Q:TS E->Prop):Prop:=
 ∀a w G,Rel E ws Gs st a w G->(f=0->w.heap=ws.heap/\G=Gs)->(f<=1->LC ws Gs R w)->vi P ops (cu E ws Gs (nw Q)) (LC ws Gs R) Z n L a w
theorem mV.done{ws:U}{Gs:aJ}{R Z:J Nat}{P:aE}{ops:aI Oper}{f:Nat}{L:aI Bool}{Q:TS E->Prop}(hL:(Region.ready .any ops L).isEmpty=true)(h:Q st):∀n,mV ws Gs R Z P ops f n L st Q:=by
 have hL:=List.isEmpty_iff.1 hL;intro n a w G hr _ _;have hq:cu E ws Gs (nw Q) .normal a w:=⟨.normal,st,G,trivial,hr,rfl,h⟩
 cases n with
 | zero=>exact⟨hL,hq⟩
 | succ n=>exact⟨fun _=>hq,fun i hi=>by rw [hL] at hi;cases hi⟩
theorem aeL{R':Type}(hX:X.Ok){R:J Nat}{first:Bool}{o:Oper}{k:TS E->O R'}{r:R'}(hl:S5 R first st o.op=true)(h:U5 X st o k=some r){ws w:U}{Gs G:aJ}{a:Act}(hr:Rel E ws Gs st a w G)
  (hf:first=true->w.heap=ws.heap/\G=Gs) (hp:LC ws Gs R w) (z6:∀q,q∈R->q<Gs.i.length) :
  ∃v st',(∀w',LC ws Gs R w'->(execOp a.eval o).run X.P w'=.ok (.value v) w')/\Rel E ws Gs st' (a.put o.dst v) w G/\k st'=some r/\Fr (ig o.dst) true st st':=by
 cases hld:Sc o.op with
 | false=>
  obtain⟨v,st',h1,h2,h3,h4⟩:=S3 hX h hr
  exact⟨v,st',fun w' _=>h1 w' (fun hh=>by rw [hld] at hh;cases hh),h2,h3,h4⟩
 | true=>
  obtain⟨t,x,ho⟩:∃t x,o.op=.load t x:=by cases ho:o.op<;>rw [ho] at hld<;>first|exact⟨_,_,rfl⟩|cases hld
  unfold U5 at h;split at h
  ·rename_i pc pd hpp
   obtain⟨h1,h2⟩:=F6 h;obtain⟨p,hpd⟩:∃p:Bool×TV E,p=(pc,pd):=⟨_,rfl⟩;rw [<-hpd] at hpp;have amP:pc=p.1:=by rw [hpd]
   have amQ:pd=p.2:=by rw [hpd]
   rw [amP] at h1;rw [amQ] at h2;clear hpd amP amQ
   have apH:SD X.P X.ty st o.op=some p\/SE X.P st o.op=some p:=by
    grind [SF,X8]
   rcases apH with hpp|Y7
   rotate_left
   ·rw [ho] at Y7 hl
    simp only [SE] at Y7;simp only [S5] at hl;have hv:=hr.ev x;split at Y7<;>try trivial
    rename_i i r' off hi hd;rw [hd] at hv hl;have ZU:=OK hl;split at Y7<;>try trivial
    rename_i e cap T xs d' hb;cases Y7;obtain⟨b,he,hat⟩:=hv;obtain⟨cur,q1,q2,q4,q5,q6⟩:=hr.box hat hb;simp only [cx,FE] at h1;obtain⟨c1,c2,c3⟩:=h1;have c1:=eB c1;have c3:=eB c3;subst c3
    have hGs:Gs.i[r']? = some b:=by
     have hlt:=z6 r' ZU;have e1:=hr.eR.goes.i r' _ (fC hlt)
     simp_all
    refine⟨_,_,fun w' hP=>?_,hr.put q5 o.dst,h2,Fr.put _ _ _⟩;have hh':w'.heap[b]? = some (.cells cur e (0,0)):=by rw [hP.1 r' b ZU hGs,<-hp.1 r' b ZU hGs];exact q1
    have hrun:=LB (P:=X.P) hi c1 c2 w' (Wd hh' (by rw [q2];exact q6));simp only [execOp,ho,he,iS,hrun,jm,od]
   have NH:OY X.P X.ty st o.op=some p\/(OY X.P X.ty st o.op=none/\Sw X.P X.ty st o.op=some p):=by
    grind [SD,SB,Sy,X5,X7]
   rw [ho] at NH hl;rcases NH with NH|⟨-,NH⟩
   rotate_left
   ·simp_all [Sw]
   simp only [OY] at NH;simp only [S5] at hl;have hv:=hr.ev x;split at NH<;>try trivial
   ·rename_i i T y off hi hd
    rw [hd] at hv hl;subst hl;obtain⟨hw,hG⟩:=hf rfl;subst hG;have hcell:∀a,w.cell? a=ws.cell? a:=fun a=>by unfold World.cell?;rw [hw]
    obtain⟨b,o',c,he,q1,q2⟩:=hv;have hpart:=Kw hX.E q1 (BJ NH);obtain⟨v,Lv,SN⟩:=rJ (P:=X.P) hi (fun l u hl=>(q2 l u hl).2) hpart;refine⟨v,_,fun w' hP=>?_,hr.put Lv o.dst,h2,Fr.put _ _ _⟩;have hrow:∀(l:Nat) u,c[l]? = some u->w'.cell? ⟨b,o'+l,none⟩=some u:=fun l u hl=>hP.2 _ _ _ (q2 l u hl).1 (by simp_all)
    have hrun:(Instr.loadAt t (.pointer (some ⟨b,o'+off,none⟩))).run X.P w'=.ok v w':=by
     have e0:=SN w (eS.refl w)
     have key:∀(W:U),(∀(l:Nat) u,c[l]? = some u->W.cell? ⟨b,o'+l,none⟩=some u)->∀(p1:Part E w G c i.isAgg i.size off p.2),(Instr.loadAt t (.pointer (some ⟨b,o'+off,none⟩))).run X.P W=.ok (cond i.isAgg (.agg ((c.drop off).take i.size).toArray) (c.getD off undef)) W:=by
      intro W hW p1
      have sD:∀l,l<c.length->W.cell? ⟨b,o'+l,none⟩=some (c.getD l undef):=fun l hl=>by
       simp_all
      cases ha:i.isAgg<;>rw [ha] at p1<;>simp only [bq,aS] at p1⊢
      ·obtain⟨u,hu,-⟩:=p1
       have hl:=(eO.1 hu).1;rw [lX hi b o' c.length (fun l=>c.getD l undef) sD off (by rw [ha];exact hl) W (eS.refl W),ha];rfl
      ·obtain⟨hl,-⟩:=p1
       rw [lX hi b o' c.length (fun l=>c.getD l undef) sD off (by rw [ha];exact hl) W (eS.refl W),ha];simp only [bq];congr 3;apply y9
       ·simp;omega
       grind
     simp_all
    simp only [execOp,ho,he,iS,hrun,jm,od]
   ·rename_i i r' off hi hd
    rw [hd] at hv hl;have ZU:=OK hl;split at NH<;>try trivial
    rename_i t' cs hb;obtain⟨b,he,hat⟩:=hv;obtain⟨vs,hh,q1,q2⟩:=hr.box hat hb
    have hGs:Gs.i[r']? = some b:=by
     have hlt:=z6 r' ZU;have e1:=hr.eR.goes.i r' _ (fC hlt)
     simp_all
    have hpart:=ID hX.E q2 (fun u hu=>q1 u (by simpa using hu)) (BJ NH)
    obtain⟨v,Lv,SN⟩:=rJ (P:=X.P) (w:=w) (b:=b) (o':=0) hi (fun l u hl=>by
     grind [cell_of_row]) hpart
    refine⟨v,_,fun w' hP=>?_,hr.put Lv o.dst,h2,Fr.put _ _ _⟩;have hh':w'.heap[b]? = some (.cells vs t' (0,0)):=by rw [hP.1 r' b ZU hGs,<-hp.1 r' b ZU hGs];exact hh
    have hrun:(Instr.loadAt t (.pointer (some ⟨b,0+off,none⟩))).run X.P w'=.ok v w':=by
     have e0:=SN w (eS.refl w)
     have key:∀(W:U),W.heap[b]? = some (.cells vs t' (0,0))->(Instr.loadAt t (.pointer (some ⟨b,0+off,none⟩))).run X.P W=.ok (cond i.isAgg (.agg ((vs.toList.drop off).take i.size).toArray) (vs.toList.getD off undef)) W:=by
      intro W hW
      have sD:∀l,l<vs.toList.length->W.cell? ⟨b,0+l,none⟩=some (vs.toList.getD l undef):=fun l hl=>by
       grind [cell_of_row]
      have p1:=hpart;cases ha:i.isAgg<;>rw [ha] at p1<;>simp only [bq,aS] at p1⊢
      ·obtain⟨u,hu,-⟩:=p1
       have hl:=(eO.1 hu).1;rw [lX hi b 0 vs.toList.length (fun l=>vs.toList.getD l undef) sD off (by rw [ha];exact hl) W (eS.refl W),ha];rfl
      ·obtain⟨hl,-⟩:=p1
       rw [lX hi b 0 vs.toList.length (fun l=>vs.toList.getD l undef) sD off (by rw [ha];exact hl) W (eS.refl W),ha];simp only [bq];congr 3;apply y9
       ·simp;simp at hl;omega
       grind
     simp_all
    rw [pW] at hrun;simp only [execOp,ho,he,iS,hrun,jm,od]
  ·rw [ho] at h;cases h
theorem Q0{R':Type}{all:aI Oper}{o:Oper}{run skip:TS E->O R'}{r:R'}(h:gdT all o st run skip=some r){w0 w:U}{G0 G:aJ}{a:Act}(hr:Rel E w0 G0 st a w G):
  ∃s1,Fr (kD all o) true st s1/\Rel E w0 G0 s1 a w G/\((Region.wanted o (yielded all a.tmps)=true/\run s1=some r)\/(Region.wanted o (yielded all a.tmps)=false/\skip s1=some r)):=by
 unfold gdT at h;split at h
 ·rename_i hg
  exact⟨st,Fr.refl _ _ _,hr,.inl ⟨by simp [Region.wanted,hg],h⟩⟩
 ·rename_i j want hg
  split at h<;>try trivial
  rename_i t htt;split at h<;>try trivial
  ·rename_i b hb
   obtain⟨hw,hbv⟩:=IP hr hg htt hb;have hl:=hr.lit hbv
   grind [kD,Fr.lit]
  grind [Fr.refl,KL]
theorem vj{R':Type}(hX:X.Ok){R Z:J Nat}{all:aI Oper}(tI:Region.noSelect all=true){ws:U}{Gs:aJ}(z6:∀q,q∈R->q<Gs.i.length){Q:TS E->Prop}{n:Nat}{k:Nat->TS E->O R'}{r:R'}:
  ∀(is:J (Nat×Bool))(f:Nat)(L:aI Bool){st:TS E},LF X R Z all is f L st k=some r ->
   (∀f' st',k f' st'=some r->Fr (eD all (pq all is)) (cg (pq all is)) st st'->mV ws Gs R Z X.P all f' n (Ye L is) st' Q)->mV ws Gs R Z X.P all f (is.length+n) L st Q
 | [],f,L,st,h,ff=>by
  simp
  exact ff f st h (Fr.refl _ _ _)
 | (i,q)::is,f,L,st,h,ff=>by
  intro a w G hr hf hp;simp only [LF] at h;split at h<;>try trivial
  rename_i o ho;have hQp:∀c a w,¬ cu E ws Gs (nw Q) (.panic c) a w:=fun c a w hp=>by have:=cu.nw hp;cases this
  have mF:pq all ((i,q)::is)=o::pq all is:=by simp [pq,ho]
  have hfr:∀ {s1 s2 s3:TS E}{nd:Bool},(nd=!(EB o.op)\/nd=true)->Fr (kD all o) true st s1->Fr (ig o.dst) nd s1 s2->Fr (eD all (pq all is)) (cg (pq all is)) s2 s3->Fr (eD all (pq all ((i,q)::is))) (cg (pq all ((i,q)::is))) st s3:=by
   intro s1 s2 s3 nd hnd f0 f1 f2;rw [mF]
   refine (f0.trans f1 (W:=ig o.dst++kD all o) (fun i hi=>by simp [hi]) (fun i hi=>by simp [hi]) (fun h=>⟨rfl,h⟩)).trans f2 (fun i hi=>by
     grind [eD]) (fun i hi=>by simp [eD,hi]) (fun h=>by
     simp_all [cg])
  rw [show ((i,q)::is).length+n=(is.length+n)+1 by simp;omega]
  have aj6:∀(s1:TS E),Fr (kD all o) true st s1->Rel E ws Gs s1 a w G->LF X R Z all is f (L.setIfInBounds i true) {s1 with t:=b9 s1.t o.dst (.val undef)} k=some r ->
    vi X.P all (cu E ws Gs (nw Q)) (LC ws Gs R) Z (is.length+n) (L.setIfInBounds i true) (a.put o.dst undef) w:=by
   intro s1 f0 eM h1;have hr2:=eM.put (v:=undef) (d:=.val undef) (by simp [VT]) o.dst;exact vj hX tI z6 is f _ h1 (fun f' st' hk f2=>ff f' st' hk (hfr (.inr rfl) f0 (Fr.put s1 o.dst (.val undef)) f2)) _ w G hr2 hf hp
  cases q<;>simp only [bq,aS] at h
  ·obtain⟨h1,h⟩:=dG h
   refine⟨fun he=>(by rw [he] at h1;cases h1),fun j hj=>?_⟩;have hji:j=i:=by simp_all
   subst hji;obtain⟨s1,f0,eM,hc⟩:=Q0 h hr;unfold wpOp;simp only [ho];rcases hc with⟨hw,h2⟩|⟨hw,h2⟩
   ·rw [if_pos hw]
    have hop:=Nx hX h2 ws Gs a w G eM;refine .inl (oN (fun a' w' hn=>?_) (fun e a' w' hpp=>?_) hop)
    ·obtain⟨s2,G2,hr2,hk,f1⟩:=hn
     cases hz:Z.elem j<;>rw [hz] at hk<;>simp at hk
     ·obtain⟨ZV,hk⟩:=dG hk
      have hp2:=hr2.pin ZV;exact⟨fun _=>hp2,vj hX tI z6 is 1 _ hk (fun f' st' hk' f2=>ff f' st' hk' (hfr (.inl rfl) f0 f1 f2)) a' w' G2 hr2 (fun e=>by cases e) (fun _=>hp2)⟩
     ·exact⟨fun e=>(by cases e),vj hX tI z6 is 2 _ hk (fun f' st' hk' f2=>ff f' st' hk' (hfr (.inl rfl) f0 f1 f2)) a' w' G2 hr2 (fun e=>by cases e) (fun e=>om)⟩
    ·obtain⟨x,s2,G2,he,hr2,hn,hk,f1⟩:=hpp
     grind
   ·rw [if_neg (by rw [hw];simp)]
    obtain⟨h3,h2⟩:=dG h2;refine⟨fun hz=>hp ?_,aj6 s1 f0 eM h2⟩
    simp_all
  ·obtain⟨h1,h⟩:=dG h
   simp only [cx] at h1;obtain⟨h1,hf1,hbe⟩:=h1;have hp:=hp (lC hf1);obtain⟨B,hZ,hB⟩:=agA hbe
   have first:∀v,YieldsIf X.P all (LC ws Gs R) o v a->vi X.P all (cu E ws Gs (nw Q)) (LC ws Gs R) Z (is.length+n) (L.setIfInBounds i true) (a.put o.dst v) w ->
     vi X.P all (cu E ws Gs (nw Q)) (LC ws Gs R) Z ((is.length+n)+1) L a w:=fun v hy hh=>
    ZT ho (ado tI) (fun c a w hp=>(hQp _ _ _ hp).elim) hZ (fun j hj=>(hB j hj).2) _ _ a w (adp ho h1.1) (fun j hj=>(hB j hj).1) (by simpa using h1.2) hy hp hh
   obtain⟨s1,f0,eM,hc⟩:=Q0 h hr;rcases hc with⟨hw,h2⟩|⟨hw,h2⟩
   ·obtain⟨hl,h2⟩:=dG h2
    obtain⟨v,s2,hrun,hr2,hk,f1⟩:=aeL hX hl h2 eM (fun e=>hf (eB e)) hp z6;exact first v (.inl ⟨hw,hrun⟩) (vj hX tI z6 is f _ hk (fun f' st' hk' f2=>ff f' st' hk' (hfr (.inr rfl) f0 f1 f2)) _ w G hr2 hf (fun _=>hp))
   ·exact first undef (.inr ⟨hw,rfl⟩) (aj6 s1 f0 eM h2)
theorem U7{all:aI Oper}{o:Oper}:∀ {l:J Oper},o∈l->∀i,i∈ig o.dst++kD all o->i∈eD all l
 | [],h,_,_=>by cases h
 | o'::l,h,i,hi=>by
  simp [eD];rcases iq.1 h with rfl|h
  ·simp at hi
   rcases hi with hi|hi
   ·exact .inl hi
   ·exact .inr (.inl hi)
  ·exact .inr (.inr (U7 h i hi))
theorem KO{all:aI Oper}{l:J (Nat×Bool)}{o:Oper}(h:o∈pq all l):o∈all.toList:=by
 obtain⟨p,_,hp⟩:=List.mem_filterMap.1 h
 grind
theorem Q7{all:aI Oper}:∀ {l:J Oper},(∀o,o∈l->o∈all.toList)->∀i,i∈eD all l->i∈eD all all.toList
 | [],_,i,h=>by cases h
 | o::l,hm,i,h=>by
  simp [eD] at h;rcases h with h|h|h
  ·exact U7 (hm o si) i (by simp [h])
  ·exact U7 (hm o si) i (by simp [h])
  ·exact Q7 (fun o h=>hm o (by simp [h])) i h
theorem S6{l m:J Oper}(hm:∀o,o∈l->o∈m)(h:cg m=true):cg l=true:=by
 have key:∀(l:J Oper),cg l=true↔∀o,o∈l->(!(EB o.op))=true:=by
  intro l
  induction l with
  | nil=>simp [cg]
  | cons o l ih=>simp_all [cg]
 simp_all
theorem mV.mono{ws:U}{Gs:aJ}{R Z:J Nat}{P:aE}{ops:aI Oper}{f n:Nat}{L:aI Bool}{Q Q':TS E->Prop}(hq:∀s,Q s->Q' s)(h:mV ws Gs R Z P ops f n L st Q):mV ws Gs R Z P ops f n L st Q':=by
 intro a w G hr hf hp
 have key:∀(fuel:Nat)(listed:aI Bool)(a:Act)(w:U){Q1 Q2:Exit->Act->U->Prop}{S:U->Prop},(∀e a w,Q1 e a w->Q2 e a w)->vi P ops Q1 S Z fuel listed a w->vi P ops Q2 S Z fuel listed a w:=by
  intro fuel
  induction fuel with
  | zero=>intro listed a w Q1 Q2 S hq h;exact⟨h.1,hq _ _ _ h.2⟩
  | succ fuel ih=>
   intro listed a w Q1 Q2 S hq h;refine⟨fun he=>hq _ _ _ (h.1 he),fun i hi=>?_⟩;have h1:=h.2 i hi;unfold wpOp at h1⊢;split
   ·grind
   ·rename_i o ho
    rw [ho] at h1;simp only at h1;split
    ·rename_i hw
     rw [if_pos hw] at h1;rcases h1 with h1|⟨h1,a1,w1,h2⟩
     ·exact .inl (oN (fun a w h=>⟨h.1,ih _ a w hq h.2⟩) hq h1)
     ·exact .inr ⟨h1,a1,w1,hq _ _ _ h2⟩
    grind
 exact key _ _ _ _ (fun e a w hp=>cu.mono (fun x s hh=>⟨hh.1,hq _ hh.2⟩) hp) (h a w G hr hf hp)
theorem IU{R':Type}(hX:X.Ok){R Z:J Nat}{all:aI Oper}(tI:Region.noSelect all=true){ws:U}{Gs:aJ}(z6:∀q,q∈R->q<Gs.i.length){n:Nat}{k:TS E->O R'}{r:R'}:
  ∀(ss:J w9)(f:Nat)(L:aI Bool){st:TS E},O9 X R Z all ss f L st k=some r->mV ws Gs R Z X.P all f (w9.n ss+n) L st (fun st'=>k st'=some r/\Fr (eD all all.toList) (cg all.toList) st st')
 | [],f,L,st,h=>by
  grind [O9,dG,mV.done,Fr.refl]
 | s::ss,f,L,st,h=>by
  have hW:∀j,j∈eD all (pq all s.l)->j∈eD all all.toList:=Q7 (fun o ho=>KO ho);have hN:cg all.toList=true->cg (pq all s.l)=true:=S6 (fun o ho=>KO ho);simp [O9] at h;rw [show w9.n (s::ss)+n=s.l.length+(w9.n ss+n) by simp [w9.n];omega];split at h
  ·refine vj hX tI z6 s.l f L h fun f' st' hk hf=>?_
   exact mV.mono (fun s' hh=>⟨hh.1,hf.trans hh.2 hW (fun j hj=>hj) (fun hn=>⟨hN hn,hn⟩)⟩) (IU hX tI z6 ss f' _ hk)
  ·rename_i c hc
   obtain⟨h1,h2⟩:=dG h;rw [cx] at h1
   cases hs:LF X R Z all s.l f L st (fun _ st'=>c.pack st st') with
   | none=>rw [hs] at h2;cases h2
   | some x=>
    rw [hs] at h2;obtain⟨h3,h2⟩:=dG h2;intro a w G hr;have hpre:=hr.pre;refine vj hX tI z6 s.l f L hs (fun f' st' hk hf=>?_) a w G hr;intro a' w' G' hr' _ _;obtain⟨⟨G2,hR⟩,hF⟩:=yH hX.E hpre hr' (hf.wide (fun _ h=>h) (fun _=>hN h1.2)) h1.1 hk;exact mV.mono (fun s' hh=>⟨hh.1,hF.trans hh.2 hW (fun j hj=>hj) (fun hn=>⟨rfl,hn⟩)⟩) (IU hX tI z6 ss 1 _ h2) a' w' G2 hR (fun e=>by cases e) (fun _=>hR.pin h3)
noncomputable def eX{R':Type}(X:Cx E)(R Z:J Nat)(ops:aI Oper)(ss:J w9)(st:TS E)(k:TS E->O R'):O R':=
 rq ((Region.noSelect ops&&Nat.ble (w9.n ss) ops.size)&&R.all (fun q=>Nat.blt q st.H.length)) (O9 X R Z ops ss 0 (Array.replicate ops.size false) {st with d:=[]} (fun st'=>k {st' with d:=st'.d++st.d}))
theorem abQ{R':Type}(hX:X.Ok){id:Nat}{R Z:J Nat}{ops:aI Oper}{ss:J w9}{k:TS E->O R'}{r:R'}(h:eX X R Z ops ss st k=some r):
  Hy E X.P (.region id ops true) st (fun x st'=>x=.normal/\k st'=some r/\Fr (eD ops ops.toList) (cg ops.toList) st st'):=by
 intro w0 G0 a w G hr;have hs:eS w {w with drawn:=w.drawn+1}:=⟨eo _,fun _ _=>rfl⟩;have hr':=hr.grow hs rfl rfl rfl G.pr (fun _ _ h=>h) (fun _ _ _ h=>h) (fun b o hp=>jz (hr.boxes.ga b o hp).1 hs.1);obtain⟨h1,h2⟩:=dG h;simp only [cx] at h1;obtain⟨⟨tI,hn⟩,hR⟩:=h1;have hn:=lC hn
 have z6:∀q,q∈R->q<G.i.length:=fun q hq=>by
  have:=BQ.1 (oX.1 hR q hq);rw [hr.boxes.len];exact this
 have hroot:=hr'.root;have h3:=IU hX tI z6 (n:=ops.size-w9.n ss) ss 0 _ h2 a _ G hroot (fun _=>⟨rfl,rfl⟩) (fun _=>⟨fun _ _ _ _=>rfl,fun _ _ _ _ h=>h⟩);rw [show w9.n ss+(ops.size-w9.n ss)=ops.size by omega] at h3;refine wp_region_any hX.mix ?_;have h4:=KN _ _ _ _ h3
 have key:∀(fuel:Nat)(listed:aI Bool)(a:Act)(w:U){Q1 Q2:Exit->Act->U->Prop},(∀e a w,Q1 e a w->Q2 e a w)->wpAny X.P .any ops Q1 fuel listed a w->wpAny X.P .any ops Q2 fuel listed a w:=by
  intro fuel
  induction fuel with
  | zero=>intro listed a w Q1 Q2 hq h;exact⟨h.1,hq _ _ _ h.2⟩
  | succ fuel ih=>
   intro listed a w Q1 Q2 hq h;refine⟨fun he=>hq _ _ _ (h.1 he),fun i hi=>?_⟩;have h1:=h.2 i hi;unfold wpOp at h1⊢;split
   ·grind
   ·rename_i o ho
    rw [ho] at h1;simp only at h1;split
    ·rename_i hw
     rw [if_pos hw] at h1;rcases h1 with h1|⟨h1,a1,w1,h2⟩
     ·grind [oN]
     ·exact .inr ⟨h1,a1,w1,hq _ _ _ h2⟩
    grind
 refine key _ _ _ _ (fun e a' w' hp=>?_) h4;obtain⟨x,s,G',he,hrr,rfl,hk,hF⟩:=hp;exact⟨.normal,_,G',he,hr'.NG hrr,rfl,hk,hF.NG⟩
inductive FT where
 | done
 | step (i:Nat) (q:Bool) (t:FT)
 | fork (i:Nat) (t:FT) (j:Nat) (u:FT)
def FT.n:FT->Nat
 | .done=>0
 | .step _ _ t=>t.n+1
 | .fork _ t _ u=>Nat.max t.n u.n+1
noncomputable def Yf{R':Type}(X:Cx E)(R:J Nat)(all:aI Oper)(i f:Nat)(st:TS E)(k:Nat->TS E->O R'):O R':=match all[i]? with
 | none=>none
 | some o=>gdT all o st
   (fun st=>Wm X st o (jc (fun st'=>rq (pinned R st') (k 1 st')) fun _ _=>none))
   (fun st=>rq (Nat.ble f 1) (k f {st with t:=b9 st.t o.dst (.val undef)}))
noncomputable def ZW{R':Type}(X:Cx E)(R:J Nat)(all:aI Oper):FT->Nat->aI Bool->TS E->(TS E->O R')->O R'
 | .done,_,L,st,k=>rq (Region.ready .any all L).isEmpty (k st)
 | .step i q t,f,L,st,k=>LF X R [] all [(i,q)] f L st (fun f' st'=>ZW X R all t f' (L.setIfInBounds i true) st' k)
 | .fork i t j u,f,L,st,k=>rq (Region.ready .any all L==[i,j]) (agree
   (Yf X R all i f st (fun f' st'=>ZW X R all t f' (L.setIfInBounds i true) st' k))
   (Yf X R all j f st (fun f' st'=>ZW X R all u f' (L.setIfInBounds j true) st' k)))
theorem aiu{all:aI Oper}{i:Nat}{o:Oper}(h:all[i]? = some o){q:Bool}:pq all [(i,q)]=[o]:=by simp [pq,h]
theorem Qe{R':Type}(hX:X.Ok){R:J Nat}{all:aI Oper}{ws:U}{Gs:aJ}{Q:TS E->Prop}{n i f:Nat}{L:aI Bool}{k:Nat->TS E->O R'}{r:R'}(h:Yf X R all i f st k=some r)
  (ff:∀f' st',k f' st'=some r->Fr (eD all (pq all [(i,false)])) (cg (pq all [(i,false)])) st st'->mV ws Gs R [] X.P all f' n (L.setIfInBounds i true) st' Q) {a:Act} {w:U} {G:aJ} (hr:Rel E ws Gs st a w G) (hf:f=0->w.heap=ws.heap/\G=Gs) (hp:f<=1->LC ws Gs R w) :
  wpOp X.P all (cu E ws Gs (nw Q)) i (fun a' w'=>(([]:J Nat).elem i=false->LC ws Gs R w')/\vi X.P all (cu E ws Gs (nw Q)) (LC ws Gs R) [] n (L.setIfInBounds i true) a' w') a w:=by
 unfold Yf at h;split at h<;>try trivial
 rename_i o ho
 have hfr:∀ {s1 s2:TS E}{nd:Bool},(nd=!(EB o.op)\/nd=true)->Fr (kD all o) true st s1->Fr (ig o.dst) nd s1 s2->Fr (eD all (pq all [(i,false)])) (cg (pq all [(i,false)])) st s2:=by
  intro s1 s2 nd hnd f0 f1;rw [aiu ho]
  exact f0.trans f1 (fun i hi=>by simp [eD,hi]) (fun i hi=>by simp [eD,hi]) (fun h=>by
    simp_all [cg])
 obtain⟨s1,f0,eM,hc⟩:=Q0 h hr;unfold wpOp;simp only [ho];rcases hc with⟨hw,h2⟩|⟨hw,h2⟩
 ·rw [if_pos hw]
  have hop:=Nx hX h2 ws Gs a w G eM;refine .inl (oN (fun a' w' hn=>?_) (fun e a' w' hpp=>?_) hop)
  ·obtain⟨s2,G2,hr2,hk,f1⟩:=hn
   obtain⟨ZV,hk⟩:=dG hk;have hp2:=hr2.pin ZV;exact⟨fun _=>hp2,ff 1 _ hk (hfr (.inl rfl) f0 f1) a' w' G2 hr2 (fun e=>by cases e) (fun _=>hp2)⟩
  ·obtain⟨x,s2,G2,he,hr2,hn,hk,f1⟩:=hpp
   grind
 ·rw [if_neg (by rw [hw];simp)]
  obtain⟨h3,h2⟩:=dG h2;have hp2:=hp (lC h3);exact⟨fun _=>hp2,ff f _ h2 (hfr (.inr rfl) f0 (Fr.put s1 o.dst (.val undef))) _ w G (eM.put (by simp [VT]) o.dst) hf hp⟩
theorem agB{R':Type}(hX:X.Ok){R:J Nat}{all:aI Oper}(tI:Region.noSelect all=true){ws:U}{Gs:aJ}(z6:∀q,q∈R->q<Gs.i.length){k:TS E->O R'}{r:R'}:
  ∀(t:FT)(n f:Nat)(L:aI Bool){st:TS E},t.n<=n->ZW X R all t f L st k=some r->mV ws Gs R [] X.P all f n L st (fun st'=>k st'=some r/\Fr (eD all all.toList) (cg all.toList) st st'):=by
 have hW:∀l,∀j,j∈eD all (pq all l)->j∈eD all all.toList:=fun l=>Q7 (fun o ho=>KO ho);have hN:∀l,cg all.toList=true->cg (pq all l)=true:=fun l=>S6 (fun o ho=>KO ho);intro t
 induction t with
 | done=>
  grind [ZW,dG,mV.done,Fr.refl]
 | step i q t ih=>
  intro n f L st hn h;simp [FT.n] at hn;obtain⟨m,rfl⟩:∃m,n=[(i,q)].length+m:=⟨n-1,bE⟩;refine vj hX tI z6 [(i,q)] f L h fun f' st' hk hf=>?_
  exact mV.mono (fun s' hh=>⟨hh.1,hf.trans hh.2 (hW _) (fun j hj=>hj) (fun hn=>⟨hN _ hn,hn⟩)⟩) (ih m f' _ (by simp at hn;omega) hk)
 | fork i t j u iht ihu=>
  intro n f L st hn h;simp [FT.n] at hn;obtain⟨h1,h2⟩:=dG h;obtain⟨ha,hb⟩:=zY h2;obtain⟨m,rfl⟩:∃m,n=m+1:=⟨n-1,om⟩;have hmt:=nH (Nat.le_max_left t.n u.n) (Nat.le_of_succ_le_succ hn);have hmu:=nH (Nat.le_max_right t.n u.n) (Nat.le_of_succ_le_succ hn);intro a w G hr hf hp;refine⟨fun he=>(by rw [he] at h1;cases h1),fun q hq=>?_⟩;have Yu:q=i\/q=j:=by simp_all
  rcases Yu with rfl|rfl
  ·exact Qe hX ha (fun f' st' hk hf=>mV.mono (fun s' hh=>⟨hh.1,hf.trans hh.2 (hW _) (fun j hj=>hj) (fun hn=>⟨hN _ hn,hn⟩)⟩) (iht m f' _ hmt hk)) hr hf hp
  ·exact Qe hX hb (fun f' st' hk hf=>mV.mono (fun s' hh=>⟨hh.1,hf.trans hh.2 (hW _) (fun j hj=>hj) (fun hn=>⟨hN _ hn,hn⟩)⟩) (ihu m f' _ hmu hk)) hr hf hp
noncomputable def KP{R':Type}(X:Cx E)(R:J Nat)(ops:aI Oper)(c:Cut)(t:FT)(st:TS E)(k:TS E->O R'):O R':=
 rq (((Region.noSelect ops&&Nat.ble t.n ops.size)&&R.all (fun q=>Nat.blt q st.H.length))&&(c.okW (eD ops ops.toList)&&cg ops.toList))
  ((ZW X R ops t 0 (Array.replicate ops.size false) {st with d:=[]} (fun st'=>c.pack {st with d:=[]} st')).bind fun x=>
    k {c.un (eD ops ops.toList) {st with d:=[]} x with d:=(c.un (eD ops ops.toList) {st with d:=[]} x).d++st.d})
theorem abR{R':Type}(hX:X.Ok){id:Nat}{R:J Nat}{ops:aI Oper}{c:Cut}{t:FT}{k:TS E->O R'}{r:R'}(h:KP X R ops c t st k=some r):
  Hy E X.P (.region id ops true) st (fun x st'=>x=.normal/\k st'=some r/\Fr (eD ops ops.toList) (cg ops.toList) st st'):=by
 intro w0 G0 a w G hr;have hs:eS w {w with drawn:=w.drawn+1}:=⟨eo _,fun _ _=>rfl⟩;have hr':=hr.grow hs rfl rfl rfl G.pr (fun _ _ h=>h) (fun _ _ _ h=>h) (fun b o hp=>jz (hr.boxes.ga b o hp).1 hs.1);obtain⟨h1,h2⟩:=dG h;simp only [cx] at h1;obtain⟨⟨⟨tI,hn⟩,hR⟩,hcW,hnd⟩:=h1;have hn:=lC hn
 have z6:∀q,q∈R->q<G.i.length:=fun q hq=>by
  have:=BQ.1 (oX.1 hR q hq);rw [hr.boxes.len];exact this
 have hroot:=hr'.root
 cases hg:ZW X R ops t 0 (Array.replicate ops.size false) {st with d:=[]} (fun st'=>c.pack {st with d:=[]} st') with
 | none=>rw [hg] at h2;cases h2
 | some x=>
 rw [hg] at h2;have h3:=agB hX tI z6 t ops.size 0 _ hn hg a _ G hroot (fun _=>⟨rfl,rfl⟩) (fun _=>⟨fun _ _ _ _=>rfl,fun _ _ _ _ h=>h⟩);refine wp_region_any hX.mix ?_;have h4:=KN _ _ _ _ h3
 have key:∀(fuel:Nat)(listed:aI Bool)(a:Act)(w:U){Q1 Q2:Exit->Act->U->Prop},(∀e a w,Q1 e a w->Q2 e a w)->wpAny X.P .any ops Q1 fuel listed a w->wpAny X.P .any ops Q2 fuel listed a w:=by
  intro fuel
  induction fuel with
  | zero=>intro listed a w Q1 Q2 hq h;exact⟨h.1,hq _ _ _ h.2⟩
  | succ fuel ih=>
   intro listed a w Q1 Q2 hq h;refine⟨fun he=>hq _ _ _ (h.1 he),fun i hi=>?_⟩;have h1:=h.2 i hi;unfold wpOp at h1⊢;split
   ·grind
   ·rename_i o ho
    rw [ho] at h1;simp only at h1;split
    ·rename_i hw
     rw [if_pos hw] at h1;rcases h1 with h1|⟨h1,a1,w1,h2⟩
     ·grind [oN]
     ·exact .inr ⟨h1,a1,w1,hq _ _ _ h2⟩
    grind
 refine key _ _ _ _ (fun e a' w' hp=>?_) h4;obtain⟨x',s,G',he,hrr,rfl,hk,hF⟩:=hp;obtain⟨⟨G2,hR2⟩,qS⟩:=yH hX.E hroot.pre hrr (hF.wide (fun _ h=>h) (fun _=>hnd)) hcW hk;refine⟨.normal,_,G2,by cases e<;>first|exact he.elim|trivial,hr'.NG hR2,rfl,h2,?_⟩;exact (qS.wide (fun _ h=>h) (fun _=>rfl)).NG
end
end Go.RT
namespace Go.RT
variable {E : TEnv}
def um(st:TS E)(dst:O Nat)(d:TV E):TS E:={st with t:=b9 st.t dst d}
structure xb where
 m1:Oper
 cv:Oper
 as:Oper
 m2:Oper
 cl:Oper
 q1:Oper
 q3:Oper
 q4:Oper
 x1:Operand
 sT:TypeId
 bT:TypeId
 f:FuncId
 call:Call
 x5:Operand
 rest:List Oper
def Q8(A B C:J Oper):O xb:=match A,B,C with
 | [m1,cv,as],[m2,cl],q1::q3::q4::rest=>match m1.op,cv.op,cl.op with
  | .move x1,.convert sT bT _,.call c=>match c.callee,q1.op with
   | .value (.func f),.move x5=>some ⟨m1,cv,as,m2,cl,q1,q3,q4,x1,sT,bT,f,c,x5,rest⟩
   | _,_=>none
  | _,_,_=>none
 | _,_,_=>none
def Pa(x:bx)(d:O Nat)(n:Nat):Bool:=match x,d with
 | .tmp i,some j=>Nat.beq i j&&Nat.blt i n
 | _,_=>false
theorem BR{x:bx}{d:O Nat}{n:Nat}(h:Pa x d n=true):∃i,x=.tmp i/\d=some i/\i<n:=by
 unfold Pa at h
 grind [Nat.eq_of_beq_eq_true,BQ]
def NI(d e:O Nat):Bool:=match d,e with
 | some i,some j=>!(Nat.beq i j)
 | _,_=>true
def opAs(o:Oper)(d:O Nat)(n:Nat):Bool:=match o.op with
 | .assign x=>Pa x d n
 | _=>false
def aeM(o:Oper)(d:O Nat)(n:Nat):Bool:=match o.op with
 | .move x=>Pa x d n
 | _=>false
def aeN(o:Oper)(s t:aD)(d:O Nat)(n:Nat):Bool:=match o.op with
 | .convert s' t' x=>Nat.beq s' s&&(Nat.beq t' t&&Pa x d n)
 | _=>false
def LG(o:Oper):Bool:=match o.guard with
 | none=>true
 | some _=>false
def xb.tys(P:aE)(s:xb):Bool:=match aU P s.sT,aU P s.bT with
 | some ⟨.string,_,_,_⟩,some ⟨.slice e,_,_,_⟩=>match aU P e with
  | some ⟨.int .u8,_,_,_⟩=>true
  | _=>false
 | _,_=>false
def xb.ok(X:Cx E)(n:Nat)(s:xb):Bool:=
 ((LG s.m1&&(LG s.cv&&(LG s.as&&(LG s.m2&&LG s.cl))))&&(LG s.q1&&(LG s.q3&&LG s.q4))) &&
 ((aeN s.cv s.sT s.bT s.m1.dst n&&(opAs s.as s.cv.dst n&&aeM s.m2 s.as.dst n))&&(aeM s.q3 s.as.dst n&&aeN s.q4 s.bT s.sT s.q3.dst n)) &&
 ((match s.call.args.toList with | [x]=>Pa x s.m2.dst n|_=>false)&&(NI s.as.dst s.m2.dst&&(NI s.as.dst s.cl.dst&&NI s.as.dst s.q1.dst))) &&
 (s.tys X.P&&(match X.rv with|some g=>Nat.beq g s.f|none=>false))
def xb.s5(s:xb)(st:TS E)(l:J UInt8):TS E:=um (um (um (um (um st s.m1.dst (.dat .str l)) s.cv.dst .any) s.as.dst .any) s.m2.dst .any) s.cl.dst .any
def xb.s6(s:xb)(st:TS E)(l:J UInt8):TS E:=um (s.s5 st l) s.q1.dst ((s.s5 st l).ev s.x5)
def xb.s9(s:xb)(st:TS E)(l:J UInt8):TS E:=um (um (s.s6 st l) s.q3.dst .any) s.q4.dst (.dat .str l.reverse)
noncomputable def aiv{R:Type}(X:Cx E)(A B C:aI Oper)(st:TS E)(k:Ex E->TS E->O R):O R:=match Q8 A.toList B.toList C.toList with
 | none=>none
 | some s=>match st.ev s.x1 with
  | .dat .str l=>cond (s.ok X st.t.length&&(cg A.toList&&(cg B.toList&&cg C.toList))) (rq (decide (l.length<=9223372036854775807)) (s7 X C s.rest (s.s9 st l) k)) none
  | _=>none
section
variable {P : aE} {ops : aI Oper} {Q : Exit -> Act -> U -> Prop} {a : Act} {w w' : U} {o : Oper} {rest : J Oper}
theorem s8{v:Value}(hg:LG o=true)(h:(execOp a.eval o).run P w=.ok (.value v) w')(hk:wpList P ops Q rest (a.put o.dst v) w'):wpList P ops Q (o::rest) a w:=by
 unfold wpList;have:o.guard=none:=by grind [LG]
 rw [if_pos (by simp [Region.wanted,this])];refine .inl ?_;unfold Oper.wp;rw [h];exact hk
theorem abS{f:FuncId}{args:aI Value}(hg:LG o=true)(h:(execOp a.eval o).run P w=.ok (.enter f args) w)(hk:Calls P f args w fun e w'=>∃v,e=.returned v/\wpList P ops Q rest (a.put o.dst v) w'):wpList P ops Q (o::rest) a w:=by
 unfold wpList;have:o.guard=none:=by grind [LG]
 rw [if_pos (by simp [Region.wanted,this])];refine .inl ?_;unfold Oper.wp;rw [h];refine FA hk fun e w'' he=>?_
 grind
theorem S7{x:bx}(ho:o.op=.move x):(execOp a.eval o).run P w=.ok (.value (a.eval x)) w:=by simp [execOp,ho]
theorem amR{x:bx}(ho:o.op=.assign x):(execOp a.eval o).run P w=.ok (.value (a.eval x)) w:=by simp [execOp,ho]
theorem eval_put{i:Nat}{d:O Nat}{v:Value}(hd:d=some i)(hi:i<a.tmps.size):(a.put d v).eval (.tmp i)=v:=by
 have:=BI a d v i;rw [if_pos ⟨hd,hi⟩] at this;exact this
theorem S8{i:Nat}{d:O Nat}{v:Value}(hd:d≠some i):(a.put d v).eval (.tmp i)=a.eval (.tmp i):=by
 have:=BI a d v i;rw [if_neg (fun h=>hd h.1)] at this;exact this
theorem NJ{i:Nat}{e:O Nat}(h:NI (some i) e=true):e≠some i:=by
 intro he
 simp_all [NI]
end
theorem Qf(w:U)(e:aD)(l:J UInt8):Sort.Holds (Value.int .u8) (Lib.bytesWorld w e ⟨⟨l⟩⟩) w.heap.size 0 (dn l).toArray:=by
 intro j hj;have hj':j<l.length:=by simpa [dn] using hj
 have e1:(dn l).toArray[j]! = ((l.getD j 0).toNat:Int):=by simp_all [dn]
 rw [pW,e1];refine⟨Lib.bytesWorld_cell w e ⟨⟨l⟩⟩ j hj',?_⟩;unfold World.frozen?
 have hsz:j<(Lib.bytesCells w e ⟨⟨l⟩⟩).size:=by
  unfold Lib.bytesCells
  grind
 grind [Lib.bytesWorld_at_new]
theorem aeO{X:Cx E}(hX:X.Ok){st:TS E}{A B C:J Oper}{s:xb}(hs:Q8 A B C=some s){l:J UInt8}(hx:st.ev s.x1=.dat .str l)(hok:s.ok X st.t.length=true)(hl:l.length<=9223372036854775807)
  {w0 w:U} {G0 G:aJ} {a:Act} (hr:Rel E w0 G0 st a w G) :
  ∃a3 w1,(∀ops Q,Q .normal a3 w1->wpList X.P ops Q A a w)/\∃W2:Act->U->Prop,(∀ops Q,(∀a5 w2,W2 a5 w2->Q .normal a5 w2)->wpList X.P ops Q B a3 w1) /\
   ∀a5 w2,W2 a5 w2->∃a9,(∃G',Rel E w0 G0 (s.s9 st l) a9 w2 G')/\∀ops Q,wpList X.P ops Q s.rest a9 w2->wpList X.P ops Q C a5 w2:=by
 have hsz:=hr.size;unfold Q8 at hs;split at hs<;>try trivial
 rename_i m1 cv as m2 cl q1 q3 q4 rest;split at hs<;>try trivial
 rename_i x1 sT bT xc c VW FZ hcl;split at hs<;>try trivial
 rename_i f x5 aiw hq1;cases hs;simp only [xb.ok,cx] at hok;obtain⟨⟨⟨⟨⟨g1,g2,g3,g4,g5⟩,g6,g8,g9⟩,⟨k1,k2,k3⟩,k4,k5⟩,k6,n1,n2,n3⟩,hty,hrv⟩:=hok;dsimp only at hx;unfold aeN at k1;rw [FZ] at k1;simp only [cx] at k1;obtain⟨y1,rfl,d1,l1⟩:=BR k1.2.2;unfold opAs at k2;split at k2<;>try trivial
 rename_i xa has;obtain⟨y2,rfl,d2,l2⟩:=BR k2;unfold aeM at k3;split at k3<;>try trivial
 rename_i xm hm2;obtain⟨y3,rfl,d3,l3⟩:=BR k3;unfold aeM at k4;split at k4<;>try trivial
 rename_i xq hq3;obtain⟨y3',rfl,d3',l3'⟩:=BR k4;have:y3'=y3:=by simp_all
 subst this;unfold aeN at k5;split at k5<;>try trivial
 rename_i bT' sT' xz hq4;simp only [cx] at k5;have e1:=eB k5.1;have e2:=eB k5.2.1;subst e1 e2;obtain⟨y8,rfl,d8,l8⟩:=BR k5.2.2;split at k6<;>try trivial
 rename_i xk hargs;obtain⟨y4,rfl,d4,l4⟩:=BR k6;rw [d3] at n1 n2 n3;have n1:=NJ n1;have n2:=NJ n2;have n3:=NJ n3;unfold xb.tys at hty;split at hty<;>try trivial
 rename_i i1 i2 z1 e i3 i4 z2 hts htb;split at hty<;>try trivial
 rename_i i5 i6 z3 hte;obtain⟨_,_,Qa,-⟩:=aN hts;obtain⟨_,_,hub,-⟩:=aN htb;obtain⟨_,_,zK,-⟩:=aN hte;split at hrv<;>try trivial
 rename_i g hg;have hf:=eB hrv;subst hf;have hR:=hX.rv g hg;have uy:=hr.ev x1;rw [hx] at uy;have apI:=uy.gP;obtain⟨V,hV⟩:∃V:Value,V=.slice (some ⟨w.heap.size,0,none⟩) l.length (grownCap w l.length 0 e):=⟨_,rfl⟩;obtain⟨w1,hw1⟩:∃w1,w1=Lib.bytesWorld w e ⟨⟨l⟩⟩:=⟨_,rfl⟩;have r1:=hr.put (v:=a.eval x1) (d:=.dat .str l) (by simp_all) m1.dst;have r2:=r1.put (v:=V) (d:=.any) (by simp only [VT]) cv.dst;have r3:=r2.put (v:=V) (d:=.any) (by simp only [VT]) as.dst;have r4:=r3.put (v:=V) (d:=.any) (by simp only [VT]) m2.dst;have r5:=r4.put (v:=.tuple #[]) (d:=.any) (by simp only [VT]) cl.dst;have sz:∀(b:Act)(d:O Nat)(v:Value),(b.put d v).tmps.size=b.tmps.size:=Kv;refine⟨((a.put m1.dst (a.eval x1)).put cv.dst V).put as.dst V,w1,fun ops Q hQ=>?_,fun a5 w2=>a5=((((a.put m1.dst (a.eval x1)).put cv.dst V).put as.dst V).put m2.dst V).put cl.dst (.tuple #[])/\∃n,w2=Sort.putRow (Value.int .u8) (Sort.ahead w1 n) w.heap.size 0 (dn l).reverse.toArray,fun ops Q hQ=>?_,?_⟩
 ·refine s8 g1 (S7 VW) (s8 (v:=V) (w':=w1) g2 ?_ (s8 (v:=V) (w':=w1) g3 ?_ hQ))
  ·have hrun:(convert sT' bT' ((a.put m1.dst (a.eval x1)).eval (.tmp y1))).run X.P w=.ok V w1:=by
    rw [eval_put d1 (by rw [hsz];exact l1),apI,hV,hw1];exact Lib.run_convert_string_bytes w sT' bT' e ⟨⟨l⟩⟩ Qa hub zK
   simp only [execOp,FZ,iS,hrun,jm,od]
  simp_all [amR,eval_put]
 ·refine s8 (v:=V) (w':=w1) g4 ?_ (abS (f:=g) (args:=#[V]) g5 ?_ ?_)
  ·simp_all [S7,eval_put]
  ·have LA:=r4.ev (.func g)
   obtain⟨vs,hfe,hvs⟩:=LA;have hvs:vs.toList=[]:=by simp_all [bD]
   have hvs:vs=#[]:=by simp_all
   subst hvs;have ha:c.args=#[.tmp y4]:=by grind
   have apJ:((((a.put m1.dst (a.eval x1)).put cv.dst V).put as.dst V).put m2.dst V).eval (.tmp y4)=V:=eval_put d4 (by simp_all)
   have:(execOp ((((a.put m1.dst (a.eval x1)).put cv.dst V).put as.dst V).put m2.dst V).eval cl).run X.P w1=(callFunc g #[V]).run X.P w1:=by
    simp only [execOp,hcl,resolve,aiw,hfe,Deferred.ofValue,iS,od,jm,invoke,ha];simp [apJ]
   rw [this,hR.enters]
  ·have hlen:(dn l).length=l.length:=by simp [dn]
   have hH:Sort.Holds (Value.int .u8) w1 w.heap.size 0 (dn l).toArray:=by simp_all [Qf]
   have hc:=hR.call w.heap.size (grownCap w l.length 0 e) (dn l) w1 hH (by rw [hlen];exact hl);rw [hlen,<-hV] at hc;refine hc.mono fun e' w' he=>?_;obtain⟨rfl,n,hn⟩:=he;exact⟨_,rfl,hQ _ _ ⟨rfl,n,hn⟩⟩
 ·rintro a5 w2 ⟨rfl,n,zA⟩
  have e3:(((a.put m1.dst (a.eval x1)).put cv.dst V).put as.dst V).eval (.tmp y3')=V:=eval_put d3 (by simp_all);have e5:(((((a.put m1.dst (a.eval x1)).put cv.dst V).put as.dst V).put m2.dst V).put cl.dst (.tuple #[])).eval (.tmp y3')=V:=by simp_all [S8]
  have s5:(((((a.put m1.dst (a.eval x1)).put cv.dst V).put as.dst V).put m2.dst V).put cl.dst (.tuple #[])).tmps.size=a.tmps.size:=by rw [sz,sz,sz,sz,sz]
  generalize (((((a.put m1.dst (a.eval x1)).put cv.dst V).put as.dst V).put m2.dst V).put cl.dst (.tuple #[]))=a5 at r5 e5 s5⊢;have r6:=r5.put (r5.ev x5) q1.dst;have r8:=r6.put (v:=V) (d:=.any) (by simp only [VT]) q3.dst;have r9:=r8.put (v:=mkStr l.reverse) (d:=.dat .str l.reverse) (.str _ _ _) q4.dst;have e7:(a5.put q1.dst (a5.eval x5)).eval (.tmp y3')=V:=by simp_all [S8]
  have hold:∀j,j<w.heap.size->w2.heap[j]? = w.heap[j]?:=fun j hj=>by
   rw [zA]
   have h1:(Sort.putRow (Value.int .u8) (Sort.ahead w1 n) w.heap.size 0 (dn l).reverse.toArray).heap[j]? = w1.heap[j]?:=by
    simp only [Sort.putRow,Sort.mapBlock,Sort.ahead,Array.getElem?_modify];rw [if_neg om]
   simp_all [Lib.bytesWorld_at_old]
  have hsize:w.heap.size<=w2.heap.size:=by
   grind
  refine⟨_,⟨_,r9.grow (w':=w2) ⟨hsize,hold⟩ (by rw [zA,hw1];rfl) (by rw [zA,hw1];rfl) (by rw [zA,hw1];rfl) G.pr (fun _ _ h=>h) (fun _ _ _ h=>h) (fun b o hp=>jz (r9.boxes.ga b o hp).1 hsize)⟩,fun ops Q hQ=>?_⟩;refine s8 g6 (S7 hq1) (s8 (v:=V) (w':=w2) g8 ?_ (s8 (v:=mkStr l.reverse) (w':=w2) g9 ?_ hQ))
  ·rw [S7 hq3,e7]
  ·have e8:((a5.put q1.dst (a5.eval x5)).put q3.dst V).eval (.tmp y8)=V:=eval_put d8 (by simp_all)
   have hH:=Sort.holds_putRow (Value.int .u8) (Sort.ahead w1 n) w.heap.size 0 (dn l).toArray (dn l).reverse.toArray (by
    have:=Qf w e l;rw [<-hw1] at this;intro j hj;exact this j hj) si
   rw [<-zA] at hH;have hlen:(dn l).reverse.length=l.length:=by simp [dn]
   have hcell:∀(j:Nat) m,(dn l).reverse[j]? = some m->w2.cell? ((⟨w.heap.size,0,none⟩:Addr).add j)=some (.int .u8 m):=fun j m hj=>by
    have hjl:j<(dn l).reverse.length:=(eO.1 hj).1;have:=(hH j (by simpa using hjl)).1
    simp_all [add_lit,dn,eO]
   have hb:=FX (P:=X.P) (w:=w2) ⟨w.heap.size,0,none⟩ (grownCap w l.length 0 e) (dn l).reverse hcell;rw [hlen,<-hV] at hb
   have SK:bZ (dn l).reverse=l.reverse:=by
    simp_all [bZ,dn,List.map_reverse,Bg,Uc,ac6]
   rw [SK] at hb
   have hrun:(convert bT' sT' V).run X.P w2=.ok (mkStr l.reverse) w2:=by
    rw [hV] at hb⊢;unfold convert;simp only [iS,aQ Qa,aQ hub,jm,aQ zK,hb]
   simp only [execOp,hq4,e8,iS,hrun,jm,od]
theorem Fr.um{W:J Nat}{st s1:TS E}(h:Fr W true st s1){dst:O Nat}(d:TV E)(hd:∀i,i∈ig dst->i∈W):Fr W true st (um s1 dst d):=
 h.trans (Fr.put s1 dst d) (fun _ h=>h) hd (fun _=>⟨rfl,rfl⟩)
theorem amS{A B C:J Oper}{s:xb}(hs:Q8 A B C=some s)(st:TS E)(l:J UInt8){W:J Nat}(hW:∀o,o∈A++B++C->∀i,i∈ig o.dst->i∈W):Fr W true st (s.s9 st l):=by
 unfold Q8 at hs;split at hs<;>try trivial
 split at hs<;>try trivial
 split at hs<;>try trivial
 cases hs;refine Fr.um (Fr.um (Fr.um (Fr.um (Fr.um (Fr.um (Fr.um (Fr.um (Fr.refl _ _ _) _ ?_) _ ?_) _ ?_) _ ?_) _ ?_) _ ?_) _ ?_) _ ?_
 all_goals simp_all
theorem aix{A B C:J Oper}{s:xb}(hs:Q8 A B C=some s):∃l,C=l++s.rest:=by
 unfold Q8 at hs;split at hs<;>try trivial
 rename_i m1 cv as m2 cl q1 q3 q4 rest;split at hs<;>try trivial
 split at hs<;>try trivial
 cases hs;exact⟨[q1,q3,q4],rfl⟩
end Go.RT
namespace Go.RT
variable {E : TEnv}
def jj{σ R:Type}(x:O (σ ⊕ R))(k:σ->O R):O R:=x.bind (sm k some)
def bV{σ R:Type}(body:(σ->O R)->σ->O R):Nat->σ->O R
 | 0,_=>none
 | n+1,s=>body (bV body n) s
inductive Own where
 | slot (i:Nat) (e:TypeId) (t:Ty)
 | cell (r c:Nat) (e:TypeId) (t:Ty)
 | soft (i:Nat) (e:TypeId) (t:Ty)
 | S9 (r c:Nat) (e:TypeId) (t:Ty)
def rN(W:J Nat):J Own->TS E->O (TS E)
 | [],st=>some st
 | .slot i e T::os,st=>match st.t[i]? with
  | some (.val (.slice none 0 0))=>cond (W.elem i) (rN W os {st with t:=st.t.set i (.cj st.g.length 0 T []),g:=st.g++[⟨0,e,T.size E⟩]}) none
  | _=>none
 | .cell r c e T::os,st=>match st.H[r]? with
  | some (.cells t cs)=>match cs[c]? with
   | some (.val (.slice none 0 0))=>rN W os {st with H:=st.H.set r (.cells t (cs.set c (.cj st.g.length 0 T []))),g:=st.g++[⟨0,e,T.size E⟩],d:=r::st.d}
   | _=>none
  | _=>none
 | .soft i e T::os,st=>match st.t[i]? with
  | some (.val (.slice none 0 0))=>cond (W.elem i&&Nat.blt 0 (T.size E)) (rN W os {st with t:=st.t.set i (.dZ st.g.length 0),g:=st.g++[⟨0,e,T.size E⟩],c:=(st.g.length,⟨T,[]⟩)::st.c}) none
  | _=>none
 | .S9 r c e T::os,st=>match st.H[r]? with
  | some (.cells t cs)=>match cs[c]? with
   | some (.val (.slice none 0 0))=>cond (Nat.blt 0 (T.size E)) (rN W os {st with H:=st.H.set r (.cells t (cs.set c (.dZ st.g.length 0))),g:=st.g++[⟨0,e,T.size E⟩],d:=r::st.d,c:=(st.g.length,⟨T,[]⟩)::st.c}) none
   | _=>none
  | _=>none
def ZX{R:Type}(X:Cx E)(st:TS E)(o:Oper)(k:TS E->O R):O R:=
 match o.guard,o.op with
 | none,.call c=>match c.callee with
  | .value x=>match st.ev x with
   | .tG r=>match st.H[r]? with
    | some (.loop y ds)=>match E.ydn y with
     | some n=>cond (Nat.beq c.args.size n) (qt st o.dst y (c.args.toList.map st.ev++ds) (jc k fun _ _=>none) X.Y) none
     | none=>none
    | _=>none
   | _=>none
  | _=>none
 | _,_=>none
noncomputable def aiy{R:Type}(X:Cx E)(ops:aI Oper)(i:Nat)(st:TS E)(k:Ex E->TS E->O R):O R:=
 match ops.toList.drop i with
 | o::rest=>rq (cg (ops.toList.take i)&&cg rest) (s7 X ops (ops.toList.take i) st (jc (fun jk=>ZX X jk o fun Hu=>s7 X ops rest Hu k) k))
 | []=>none
inductive cZ where
 | leaf
 | yat (i:Nat)
 | region (l:List (Nat×Cut×Bool))
 | draw (l:List aeH)
 | eX (R Z:List Nat) (l:List w9)
 | KP (R:List Nat) (c:Cut) (t:FT)
 | rev
 | seq (ow:List Own) (c:Option (Cut×Bool)) (p q:cZ)
 | cond (p q:cZ)
 | loop (ow:List Own) (c:Cut) (p:cZ)
 | IV (ow:List Own) (p q:cZ)
 | ZY (p:cZ)
 | range (ow:List Own) (y f:FuncId) (keep:List Nat)
def cZ.l:cZ->cZ
 | .cond p _=>p
 | _=>.leaf
def cZ.r:cZ->cZ
 | .cond _ q=>q
 | _=>.leaf
def wr:Code->J Nat
 | .region _ ops _=>eD ops ops.toList
 | .seq a b=>wr a++wr b
 | .cond _ a b=>wr a++wr b
 | .block _ a=>wr a
 | .scope a=>wr a
 | .loop a=>wr a
 | _=>[]
def iT:Code->Bool
 | .region _ ops _=>cg ops.toList
 | .seq a b=>iT a&&iT b
 | .cond _ a b=>iT a&&iT b
 | .block _ a=>iT a
 | .scope a=>iT a
 | .loop a=>iT a
 | _=>true
def Wq{σ R:Type}(x:O σ):O (σ ⊕ R):=x.bind fun s=>some (.inl s)
def yA{σ R:Type}(x:O R):O (σ ⊕ R):=x.bind fun r=>some (.inr r)
noncomputable def aeP{R:Type}(X:Cx E)(all:aI Oper):J (Nat×Cut×Bool)->J Oper->TS E->(Ex E->TS E->O R)->O R
 | [],l,st,k=>s7 X all l st k
 | s::cs,l,st,k=>rq (s.2.1.okW (eD all (l.take s.1))&&cg (l.take s.1)) (cond s.2.2
   (jj (s7 X all (l.take s.1) st (jc (fun st'=>Wq (s.2.1.pack st st')) fun e st'=>yA (k e st'))) fun x=>aeP X all cs (l.drop s.1) (s.2.1.un (eD all (l.take s.1)) st x) k)
   ((s7 X all (l.take s.1) st (jc (fun st'=>s.2.1.pack st st') fun _ _=>none)).bind fun x=>aeP X all cs (l.drop s.1) (s.2.1.un (eD all (l.take s.1)) st x) k))
abbrev Ta{R:Type}(i:Nat)(k:Ex E->TS E->O R):Ex E->TS E->O R
 | .exit j,st=>cond (Nat.beq j i) (k .normal st) (k (.exit j) st)
 | e,st=>k e st
abbrev amT{R:Type}(k:Ex E->TS E->O R):Ex E->TS E->O R
 | .goto _,_=>none
 | e,st=>k e st
noncomputable def runT(X:Cx E)(F:Nat):Code->cZ->{R:Type}->TS E->(Ex E->TS E->Option R)->Option R
 | .skip,_,_,st,k=>k .normal st
 | .label _,_,_,st,k=>k .normal st
 | .exit i,_,_,st,k=>k (.exit i) st
 | .ret,_,_,st,k=>k .ret st
 | .region _ ops dr,p,_,st,k=>Yc dr (match p with
   | .draw ss=>KM X ops.toList 0 ss st (k .normal)
   | .eX R Z ss=>eX X R Z ops ss st (k .normal)
   | .KP R c t=>KP X R ops c t st (k .normal)
   | _=>none) (match p with
   | .region cs=>aeP X ops cs ops.toList st k
   | .yat i=>aiy X ops i st k
   | _=>s7 X ops ops.toList st k)
 | .seq a b,p,_,st,k=>match p with
  | .seq ow c p q=>match rN (wr a++wr b) ow st with
   | none=>none
   | some st=>match c with
    | none=>runT X F a p st (jc (fun st'=>runT X F b q st' k) k)
    | some (c,j)=>rq (c.okW (wr a)&&iT a) (_root_.cond j
     (jj (runT X F a p st (jc (fun st'=>Wq (c.pack st st')) fun e st'=>yA (k e st'))) fun x=>runT X F b q (c.un (wr a) st x) k)
     ((runT X F a p st (jc (fun st'=>c.pack st st') fun _ _=>none)).bind fun x=>runT X F b q (c.un (wr a) st x) k))
  | .rev=>match a,b with
   | .region _ A false,.seq (.region _ B false) (.seq (.region _ C false) .ret)=>aiv X A B C st (jc (fun st'=>k .ret st') k)
   | _,_=>none
  | _=>runT X F a .leaf st (jc (fun st'=>runT X F b .leaf st' k) k)
 | .cond c a b,p,_,st,k=>match st.ev c with
  | .dat .bool v=>_root_.cond v (runT X F a p.l st k) (runT X F b p.r st k)
  | _=>none
 | .block i a,p,_,st,k=>runT X F a p st (Ta i k)
 | .scope a,p,_,st,k=>runT X F a p st (amT k)
 | .loop a,p,_,st,k=>match p with
  | .loop ow c p=>match rN (wr a) ow st with
   | none=>none
   | some st=>rq (c.okW (wr a)&&iT a) ((c.pack st st).bind fun s=>bV (fun rc s=>runT X F a p (c.un (wr a) st s) (jc (fun st'=>(c.pack st st').bind rc) k)) F s)
  | _=>none
 | _,_,_,_,_=>none
section
variable {X : Cx E} {st : TS E}
theorem Hy.mono{P:aE}{c:Code}{Q Q':Ex E->TS E->Prop}(h:Hy E P c st Q)(hq:∀x s,Q x s->Q' x s):Hy E P c st Q':=fun w0 G0 a w G hr=>
 wp_mono (h w0 G0 a w G hr) fun _ _ _ hp=>cu.mono hq hp
theorem mW{W:J Nat}{w0 w:U}{G0:aJ}{a:Act}:∀ {os:J Own}{st st':TS E}{G:aJ},rN W os st=some st'->Rel E w0 G0 st a w G->(∃G',Rel E w0 G0 st' a w G')/\Fr W true st st'
 | [],st,st',G,h,hr=>by cases h;grind [Fr.refl]
 | .slot i e T::os,st,st',G,h,hr=>by
  simp only [rN] at h;split at h<;>try trivial
  rename_i hi;cases hw:W.elem i<;>rw [hw] at h<;>simp only [bq,aS] at h
  ·cases h
  obtain⟨G1,eM⟩:=hr.aoh hi e T;obtain⟨h1,h2⟩:=mW h eM
  have f1:Fr [i] true st {st with t:=st.t.set i (.cj st.g.length 0 T []),g:=st.g++[⟨0,e,T.size E⟩]}:=⟨si,fun j hj=>by
   grind,⟨[],rfl,fun _ _ _=>rfl⟩,Nat.le_refl _,fun _=>rfl⟩
  exact⟨h1,f1.trans h2 (fun j hj=>by simp_all) (fun _ h=>h) (fun _=>⟨rfl,rfl⟩)⟩
 | .cell r c e T::os,st,st',G,h,hr=>by
  simp [rN] at h;split at h<;>try trivial
  rename_i t cs hH;split at h<;>try trivial
  rename_i hc;obtain⟨G1,eM⟩:=hr.agl hH hc e T;obtain⟨h1,h2⟩:=mW h eM;have f1:Fr [] true st {st with H:=st.H.set r (.cells t (cs.set c (.cj st.g.length 0 T []))),g:=st.g++[⟨0,e,T.size E⟩],d:=r::st.d}:=⟨rfl,fun _ _=>rfl,⟨[r],rfl,BO _ _ _⟩,si,fun _=>rfl⟩
  exact⟨h1,f1.trans h2 (fun j hj=>by cases hj) (fun _ h=>h) (fun _=>⟨rfl,rfl⟩)⟩
 | .soft i e T::os,st,st',G,h,hr=>by
  simp only [rN] at h;split at h<;>try trivial
  rename_i hi;cases hw:(W.elem i&&Nat.blt 0 (T.size E))<;>rw [hw] at h<;>simp only [bq,aS] at h
  ·cases h
  rw [cx] at hw;obtain⟨G1,eM⟩:=hr.agw hi e T (lC hw.2);obtain⟨h1,h2⟩:=mW h eM
  have f1:Fr [i] true st {st with t:=st.t.set i (.dZ st.g.length 0),g:=st.g++[⟨0,e,T.size E⟩],c:=(st.g.length,⟨T,[]⟩)::st.c}:=⟨si,fun j hj=>by
   grind,⟨[],rfl,fun _ _ _=>rfl⟩,Nat.le_refl _,fun _=>rfl⟩
  exact⟨h1,f1.trans h2 (fun j hj=>by simp_all) (fun _ h=>h) (fun _=>⟨rfl,rfl⟩)⟩
 | .S9 r c e T::os,st,st',G,h,hr=>by
  simp [rN] at h;split at h<;>try trivial
  rename_i t cs hH;split at h<;>try trivial
  rename_i hc;cases hw:Nat.blt 0 (T.size E)<;>rw [hw] at h<;>simp only [bq,aS] at h
  ·cases h
  obtain⟨G1,eM⟩:=hr.aeC hH hc e T (lC hw);obtain⟨h1,h2⟩:=mW h eM;have f1:Fr [] true st {st with H:=st.H.set r (.cells t (cs.set c (.dZ st.g.length 0))),g:=st.g++[⟨0,e,T.size E⟩],d:=r::st.d,c:=(st.g.length,⟨T,[]⟩)::st.c}:=⟨rfl,fun _ _=>rfl,⟨[r],rfl,BO _ _ _⟩,si,fun _=>rfl⟩;exact⟨h1,f1.trans h2 (fun j hj=>by cases hj) (fun _ h=>h) (fun _=>⟨rfl,rfl⟩)⟩
theorem DA{P:aE}{ops:aI Oper}{Q:Exit->Act->U->Prop}:∀(l1 l2:J Oper)(a:Act)(w:U),wpList P ops (Exit.then (wpList P ops Q l2) Q) l1 a w->wpList P ops Q (l1++l2) a w
 | [],l2,a,w,h=>h
 | o::l1,l2,a,w,h=>by
  rw [wW];unfold wpList at h⊢;split
  ·rename_i hw
   rw [if_pos hw] at h;rcases h with h|⟨h,a1,w1,h2⟩
   ·exact .inl (Oper.ZN (fun a w h=>DA l1 l2 a w h) (fun e a w hne hq=>by cases e<;>first|exact (hne rfl).elim|exact hq) h)
   ·exact .inr ⟨h,a1,w1,h2⟩
  simp_all [DA]
theorem qH{P:aE}{ops:aI Oper}:∀(l:J Oper)(a:Act)(w:U){Q1 Q2:Exit->Act->U->Prop},(∀e a w,Q1 e a w->Q2 e a w)->wpList P ops Q1 l a w->wpList P ops Q2 l a w
 | [],a,w,Q1,Q2,hq,h=>hq _ _ _ h
 | o::l,a,w,Q1,Q2,hq,h=>by
  unfold wpList at h⊢;split
  ·rename_i hw
   rw [if_pos hw] at h;rcases h with h|⟨h,a1,w1,h2⟩
   ·exact .inl (oN (fun a w h=>qH l a w hq h) hq h)
   ·exact .inr ⟨h,a1,w1,hq _ _ _ h2⟩
  ·rename_i hw
   rw [if_neg hw] at h;exact qH l _ _ hq h
def FW(ro:O Nat):Fence:={Fence.wide with round:=ro}
def tK:Code->Bool
 | .region _ ops dr=>!dr&&cg ops.toList
 | .seq a b=>tK a&&tK b
 | .cond _ a b=>tK a&&tK b
 | .block _ a=>tK a
 | .scope _=>false
 | .loop a=>tK a
 | .rangeFunc _ _ _ _=>false
 | _=>true
def JE(P:aE)(c:Code)(st:TS E)(Q:Ex E->TS E->Prop):Prop:=
 ∀ro,(ro.isSome=true->tK c=true)->∀w0 G0 a w G,Rel E w0 G0 st a w G->c.wpIn (FW ro) 0 P (cu E w0 G0 Q) a w
theorem akZ{P:Program}{ro:Option Nat}{o:Oper}{a:Act}{w:World}{n1 n2:Act->World->Prop}{Q:Exit->Act->World->Prop}(hd:ro.isSome=true->EB o.op=false)(hQ:¬ LetsOut Q)(hn:∀a w,n1 a w->n2 a w)(h:o.wp P a w n1 Q):
  o.wpIn (FW ro) 0 P a w n2 Q:=by
 have apK:o.semAt ro a.eval=execOp a.eval o:=by
  cases ro with
  | none=>rfl
  | some l=>exact Oper.semAt_eq _ _ _ fun c e=>by have:=hd rfl;rw [e] at this;cases this
 refine⟨fun _ _=>trivial,?_⟩;show o.uponIn (FW ro) 0 P a n2 Q ((o.semAt ro a.eval).run P w);rw [apK];unfold Oper.wp at h;generalize (execOp a.eval o).run P w=r at *
 cases r with
 | ok n w'=>
  cases n<;>simp [Oper.upon] at h
  case value u=>exact hn _ _ h
  case skip=>exact hn _ _ h
  case defer d=>exact hn _ _ h
  case enter f args=>
   refine⟨(fun h=>nomatch h),?_⟩;refine (callsIn_wide).2 (FA h fun e w'' he=>?_)
   grind
  case row row args=>exact⟨(fun h=>nomatch h),fun c cs _=>by
   obtain⟨v,w2,r,s⟩:=h c cs
   exact⟨v,w2,hn _ _ r,stepsIn_wide.2 s⟩⟩
 | halt x w'=>
  cases x<;>simp [Oper.upon] at h
  case panic u=>exact h
theorem cu.Tb{w0:U}{G0:aJ}{Q:Ex E->TS E->Prop}:¬ LetsOut (cu E w0 G0 Q):=fun⟨_,_,x,_,_,h,_⟩=>by cases x<;>exact h
theorem Oper.Tc{F:Fence}{n:Nat}{P:aE}{o:Oper}{a:Act}{w:U}{K K':Act->U->Prop}{Q Q':Exit->Act->U->Prop}(h:∀a w,K a w->K' a w)(hq:∀e a w,e≠.normal->Q e a w->Q' e a w)
  (hh:o.wpIn F n P a w K Q):o.wpIn F n P a w K' Q':=by
 have hout:LetsOut Q->LetsOut Q':=fun⟨a,w,h⟩=>⟨a,w,hq _ _ _ si h⟩;refine⟨hh.1,?_⟩;have hh:=hh.2;generalize (o.semAt F.round a.eval).run P w=r at *
 cases r with
 | ok m w'=>
  cases m<;>simp [Oper.uponIn] at hh⊢
  case value u=>exact h _ _ hh
  case skip=>exact h _ _ hh
  case defer d=>exact h _ _ hh
  case enter f args=>
   refine⟨hh.1,hh.2.1,fun cs hroom=>?_⟩;obtain⟨e,w'',fr,he,hs⟩:=hh.2.2 cs hroom
   grind
  case row row args=>exact⟨hh.1,RowsIn.mono hh.2 fun u w'' he=>h _ _ he⟩
  case round l f tmps assign body=>
   refine⟨hh.1,RoundIn.mono hh.2 fun e w'' he=>?_⟩
   grind
 | halt x w'=>
  cases x<;>simp [Oper.uponIn] at hh⊢
  simp_all
theorem v7{P:aE}{ro:O Nat}{ops:aI Oper}{Q:Exit->Act->U->Prop}(hQ:¬ LetsOut Q):∀(l:J Oper)(a:Act)(w:U),(ro.isSome=true->cg l=true)->wpList P ops Q l a w->wpListIn (FW ro) 0 P ops Q l a w
 | [],_,_,_,h=>h
 | o::l,a,w,hd,h=>by
  have Wr:=fun hr=>by
   have:=hd hr;simp [cg] at this;exact this.1
  have Ws:=fun hr=>by
   have:=hd hr;simp [cg] at this;exact this.2
  unfold wpList at h;unfold wpListIn;split
  ·rename_i hw
   rw [if_pos hw] at h;rcases h with h|⟨_,a1,w1,h2⟩
   ·exact akZ Wr hQ (fun a w h=>v7 hQ l a w Ws h) h
   ·exact (hQ ⟨a1,w1,h2⟩).elim
  ·rename_i hw
   rw [if_neg hw] at h;exact⟨fun _ _=>trivial,v7 hQ l _ w Ws h⟩
theorem DB{F:Fence}{n:Nat}{P:aE}{ops:aI Oper}{Q:Exit->Act->U->Prop}:∀(l1 l2:J Oper)(a:Act)(w:U),wpListIn F n P ops (Exit.then (wpListIn F n P ops Q l2) Q) l1 a w->wpListIn F n P ops Q (l1++l2) a w
 | [],l2,a,w,h=>h
 | o::l1,l2,a,w,h=>by
  rw [wW];unfold wpListIn at h⊢;split
  ·rename_i hw
   rw [if_pos hw] at h;exact Oper.Tc (fun a w h=>DB l1 l2 a w h) (fun e a w hne hq=>by cases e<;>first|exact (hne rfl).elim|exact hq) h
  simp_all [DB]
theorem ZZ(hX:X.Ok){R:Type}{o:Oper}{k:TS E->Option R}{r:R}(h:ZX X st o k=some r){ro:Option Nat}{Q:Exit->Act->World->Prop}:∀w0 G0 a w G,Rel E w0 G0 st a w G ->
  (o.guard=none/\EB o.op=false)/\o.wpIn (FW ro) 0 X.P a w (fun a' w'=>∃st' G',Rel E w0 G0 st' a' w' G'/\k st'=some r/\Fr (ig o.dst) true st st') Q:=by
 unfold ZX at h;split at h<;>try trivial
 rename_i c hg ho;split at h<;>try trivial
 rename_i x hc;split at h<;>try trivial
 rename_i q hx;split at h<;>try trivial
 rename_i y ds hb;split at h<;>try trivial
 rename_i n hY;cases hsz:Nat.beq c.args.size n<;>rw [hsz] at h<;>simp only [bq,aS] at h
 ·cases h
 have hsz:=eB hsz;intro w0 G0 a w G hr;refine⟨⟨hg,by rw [ho];rfl⟩,fun _ _=>trivial,?_⟩;have hv:=hr.ev x;rw [hx] at hv;obtain⟨b,NH,hat⟩:=hv;obtain⟨Y,fn,tmps,D,Z0,hheap,hds⟩:=hr.box hat hb;have hsz:=hsz.trans (hX.E.ydn y Y n Z0 hY).symm
 have hargs:bD E w G (c.args.toList.map st.ev++ds) (c.args.map a.eval++tmps).toList:=by
  have:=(Nt hr c.args.toList).append hds;simpa using this
 have hI:=CU hX.E (U3.mono X.P) hX.Y h w0 G0 a w G (c.args.map a.eval++tmps) hr hargs;have hR:=hI Y fn b D (c.args.map a.eval) tmps Z0 rfl (by simpa using hsz) hheap;rw [Oper.semAt_eq _ _ _ fun c' e=>by rw [ho] at e;cases e]
 have hrun:(execOp a.eval o).run X.P w=.ok (.round b fn ((Y.params.zip (c.args.map a.eval)).foldl (fun t (p,v)=>t.setIfInBounds p v) tmps) Y.assign Y.body) w:=by
  have hy:=run_yield (P:=X.P) (args:=c.args.map a.eval) hheap (by simpa using hsz);simp [execOp,ho,resolve,hc,NH,Deferred.ofValue,invoke];simpa using hy
 rw [hrun];refine⟨(fun h=>nomatch h),RoundIn.mono hR fun e w' he=>?_⟩
 grind
theorem KQ{σ R:Type}{x:O σ}{j:σ ⊕ R}(h:Wq x=some j):∃s,x=some s/\j=.inl s:=by
 unfold Wq at h
 cases x with
 | none=>cases h
 | some s=>simp_all
theorem NK{σ R:Type}{x:O R}{j:σ ⊕ R}(h:yA x=some j):∃r,x=some r/\j=.inr r:=by
 unfold yA at h
 cases x with
 | none=>cases h
 | some s=>simp_all
theorem ak0{σ R:Type}{x:O (σ ⊕ R)}{k:σ->O R}{r:R}(h:jj x k=some r):∃j,x=some j/\(∀s,j=.inl s->k s=some r)/\∀r',j=.inr r'->r'=r:=by
 cases x with
 | none=>cases h
 | some j=>
  refine⟨j,rfl,fun s hs=>?_,fun r' hr=>?_⟩
  ·subst hs;exact h
  ·subst hr;exact uK h
theorem Wt{σ R:Type}{j:Bool}{A:{R':Type}->(Ex E->TS E->O R')->O R'}{pk:TS E->O σ}{B:σ->O R}{k:Ex E->TS E->O R}{r:R}
  (h:cond j (jj (A (jc (fun st'=>Wq (pk st')) fun e st'=>yA (k e st'))) B) ((A (jc pk fun _ _=>none)).bind B)=some r) {C:(Ex E->TS E->Prop)->Prop} (hA:∀ {R':Type}{k':Ex E->TS E->O R'}{r':R'},A k'=some r'->C (fun x s=>k' x s=some r')) :
  ∃Q:Ex E->TS E->Prop,C Q/\(∀s,Q .normal s->∃x,pk s=some x/\B x=some r)/\∀x s,x≠.normal->Q x s->k x s=some r:=by
 cases j<;>simp at h
 ·cases hx:A (jc pk fun _ _=>none) with
  | none=>rw [hx] at h;cases h
  | some x=>
   grind
 ·obtain⟨jv,hx,h1,h2⟩:=ak0 h
  refine⟨_,hA hx,fun s hs=>?_,fun e s hne hs=>?_⟩
  ·obtain⟨x,hp,rfl⟩:=KQ hs
   simp_all
  ·have:yA (k e s)=some jv:=by grind
   obtain⟨r',hk,rfl⟩:=NK this;rw [hk,h2 r' rfl]
theorem Td{R:Type}(hX:X.Ok){all:aI Oper}{k:Ex E->TS E->O R}{r:R}:∀(cs:J (Nat×Cut×Bool)){l:J Oper}{st:TS E},aeP X all cs l st k=some r ->
  ad7 E X.P all l st (fun x st'=>k x st'=some r/\Fr (eD all l) (cg l) st st')
 | [],l,st,h=>qu hX h
 | s::cs,l,st,h=>by
  obtain⟨hc,h⟩:=dG h;rw [cx] at hc;intro w0 G0 a w G hr;have hpre:=hr.pre;obtain⟨Q,hC,hN,hX'⟩:=Wt h (C:=fun Q=>ad7 E X.P all (l.take s.1) st (fun x st'=>Q x st'/\Fr (eD all (l.take s.1)) (cg (l.take s.1)) st st')) (fun h'=>qu hX h');rw [<-Uh s.1 l];refine DA _ _ a w (qH _ a w (fun e a' w' hp=>?_) (hC w0 G0 a w G hr));obtain⟨x,s',G',he,hr',hq,hf⟩:=hp
  have aj7:∀i,i∈eD all (l.take s.1)->i∈eD all (l.take s.1++l.drop s.1):=fun i hi=>by
   grind [List.take_append_drop,Fu]
  have aon:∀i,i∈eD all (l.drop s.1)->i∈eD all (l.take s.1++l.drop s.1):=fun i hi=>by
   rw [Uh];exact Fu l s.1 l.length i (by simp_all [Iw])
  have amJ:cg (l.take s.1++l.drop s.1)=true->cg (l.drop s.1)=true:=fun hn=>by
   rw [Uh] at hn;have:=zZ l s.1 l.length hn
   simp_all [Iw]
  cases x with
  | normal=>
   cases e<;>try (exact he.elim)
   obtain⟨y,hp,hB⟩:=hN s' hq;obtain⟨⟨G2,hR⟩,hF⟩:=yH hX.E hpre hr' (hf.wide (fun _ h=>h) (fun _=>hc.2)) hc.1 hp
   exact qH _ _ _ (fun e a w hp=>cu.mono (fun x s'' hh=>⟨hh.1,hF.trans hh.2 aj7 aon (fun hn=>⟨rfl,amJ hn⟩)⟩) hp) (Td hX cs hB w0 G0 a' w' G2 hR)
  | _=>
   have hk:=hX' _ s' (by intro h;cases h) hq;have qq:cu E w0 G0 (fun x st'=>k x st'=some r/\Fr (eD all (l.take s.1++l.drop s.1)) (cg (l.take s.1++l.drop s.1)) st st') e a' w':=⟨_,s',G',he,hr',hk,hf.wide aj7 (fun _=>hc.2)⟩;cases e<;>first|exact he.elim|exact qq
theorem NL{ι:Type}{F:Fence}{n:Nat}{P:aE}{c:Code}{a:Act}{w:U}{Q:Exit->Act->U->Prop}(I:ι->Act->U->Prop)(μ:ι->Nat)(x0:ι)(h₀:I x0 a w)
  (round:∀x a w,I x a w->c.wpIn F n P (Exit.then (fun a' w'=>∃y,I y a' w'/\μ y<μ x) Q) a w):(Code.loop c).wpIn F n P Q a w:=by
 intro b k cs hro hb hr
 have key:∀j x a w,μ x=j->I x a w ->
   ∃e a' w',Q e a' w'/\ArrivesIn (Machine.fenced P F) P (lone (b.atR a (.code c :: .inLoop c::k)) cs w) b k cs e a' w':=by
  intro j
  induction j using Nat.strongRecOn with
  | _ j ih=>
   intro x a w hn hI;obtain⟨e,a₁,w₁,hq,NM⟩:=round x a w hI b (.inLoop c::k) cs hro hb hr
   cases e with
   | normal=>
    obtain⟨y,hI₁,hlt⟩:=hq;obtain⟨e₂,a₂,w₂,hq₂,aoo⟩:=ih (μ y) (hn▸hlt) y a₁ w₁ rfl hI₁
    exact⟨e₂,a₂,w₂,hq₂,.of_steps (StepsIn.trans NM (.one (fenced_calm hb hr rfl) stepR_inLoop)) aoo⟩
   | exit id=>exact⟨_,a₁,w₁,hq,.pass rfl (fun _ _=>.inl si) NM⟩
   | goto l=>exact⟨_,a₁,w₁,hq,.pass rfl (fun _ _=>.inl si) NM⟩
   | ret=>exact⟨_,a₁,w₁,hq,.pass rfl (fun _ _=>.inl si) NM⟩
   | panic ch=>exact⟨_,a₁,w₁,hq,.pass rfl (fun _ _=>.inl si) NM⟩
   | outgrown=>exact⟨_,a₁,w₁,hq,.pass rfl (fun _ _=>.inl si) NM⟩
 obtain⟨e,a',w',hq,NM⟩:=key _ x0 a w rfl h₀;exact⟨e,a',w',hq,.of_steps (.one (fenced_calm hb hr rfl) stepR_loop) NM⟩
theorem JE.of_wp{P:aE}{c:Code}{Q:Ex E->TS E->Prop}(hc:tK c=false)(h:Hy E P c st Q):JE P c st Q:=fun ro hro w0 G0 a w G hr=>by
 cases ro with
 | some l=>simp_all
 | none=>exact (wpIn_wide).2 (h w0 G0 a w G hr)
theorem JE.wp{P:Program}{c:Code}{Q:Ex E->TS E->Prop}(h:JE P c st Q){w0 w:World}{G0 G:aJ}{a:Act}(hr:Rel E w0 G0 st a w G):c.wp P (cu E w0 G0 Q) a w:=
 (wpIn_wide).1 (h none (fun h=>nomatch h) w0 G0 a w G hr)
theorem agC{P:aE}{a b:Code}{ro:O Nat}(hro:ro.isSome=true->tK a=true){w0 w:U}{G0 G:aJ}{ac:Act}{Q1 Q:Ex E->TS E->Prop}(hr:Rel E w0 G0 st ac w G)(h:JE P a st Q1)(hN:∀s a' w' G',Q1 .normal s->Rel E w0 G0 s a' w' G'->b.wpIn (FW ro) 0 P (cu E w0 G0 Q) a' w')
  (hX:∀x s,x≠.normal->Q1 x s->Q x s):(Code.seq a b).wpIn (FW ro) 0 P (cu E w0 G0 Q) ac w:=by
 refine wpIn_seq (wpIn_mono (h ro hro w0 G0 ac w G hr) fun e a' w' hp=>?_);obtain⟨x,s,G',he,hr',hq⟩:=hp
 cases x with
 | normal=>
  cases e<;>try (exact he.elim)
  exact hN s a' w' G' hq hr'
 | _=>
  have qq:cu E w0 G0 Q e a' w':=⟨_,s,G',he,hr',hX _ s (by intro h;cases h) hq⟩;cases e<;>first|exact he.elim|exact qq
theorem KR{all:aI Oper}:∀l1 l2:J Oper,eD all (l1++l2)=eD all l1++eD all l2
 | [],l2=>rfl
 | o::l1,l2=>by simp_all [eD,KR]
theorem aeQ(hX:X.Ok){R:Type}(id:Nat){ops:aI Oper}{i:Nat}{k:Ex E->TS E->O R}{r:R}(h:aiy X ops i st k=some r):JE X.P (.region id ops false) st (fun x st'=>k x st'=some r/\Fr (wr (.region id ops false)) (iT (.region id ops false)) st st'):=by
 unfold aiy at h;split at h<;>try trivial
 rename_i o rest hd;obtain⟨hnd,h⟩:=dG h;rw [cx] at hnd;intro ro hro w0 G0 a w G hr;refine wpIn_region_list ?_;have hl:ops.toList=ops.toList.take i++o::rest:=by grind [List.take_append_drop]
 have hwr:∀j,j∈eD ops (ops.toList.take i)\/j∈ig o.dst\/j∈eD ops rest->j∈wr (.region id ops false):=fun j hj=>by
  show j∈eD ops ops.toList
  grind [KR,eD]
 rw [hl]
 have hF:∀ {s1 s2 s3:TS E},Fr (eD ops (ops.toList.take i)) (cg (ops.toList.take i)) st s1->Fr (ig o.dst) true s1 s2->Fr (eD ops rest) (cg rest) s2 s3->Fr (wr (.region id ops false)) (iT (.region id ops false)) st s3:=fun f1 f2 f3=>
  (f1.trans f2 (fun j hj=>hwr j (.inl hj)) (fun j hj=>hwr j (.inr (.inl hj))) (fun _=>⟨hnd.1,rfl⟩)).trans f3 (fun j hj=>hj) (fun j hj=>hwr j (.inr (.inr hj))) (fun _=>⟨rfl,hnd.2⟩)
 have hout:∀ {K:Act->U->Prop}{Q:Ex E->TS E->Prop},¬ LetsOut (Exit.then K (cu E w0 G0 Q)):=fun⟨a,w,h⟩=>cu.Tb ⟨a,w,h⟩;refine DB _ _ a w (v7 hout _ a w (fun _=>hnd.1) (qH _ a w (fun e a' w' hp=>?_) (qu hX h w0 G0 a w G hr)));obtain⟨x,s',G',he,hr',hq,hf⟩:=hp
 cases x with
 | normal=>
  cases e<;>try (exact he.elim)
  obtain⟨⟨hg,-⟩,hw⟩:=ZZ hX hq w0 G0 a' w' G' hr';show wpListIn _ _ _ _ _ (o::rest) _ _;unfold wpListIn;rw [if_pos (by simp [Region.wanted,hg])];refine Oper.Tc (fun a2 w2 hh=>?_) (fun e a w hne hq=>hq) hw;obtain⟨s2,G2,hr2,hk,f2⟩:=hh
  exact v7 cu.Tb rest a2 w2 (fun _=>hnd.2) (qH rest a2 w2 (fun e a w hp=>cu.mono (fun x s hh=>⟨hh.1,hF hf f2 hh.2⟩) hp) (qu hX hk w0 G0 a2 w2 G2 hr2))
 | _=>
  have qq:cu E w0 G0 (fun x st'=>k x st'=some r/\Fr (wr (.region id ops false)) (iT (.region id ops false)) st st') e a' w':=⟨_,s',G',he,hr',hq,hF hf (Fr.refl _ _ _) (Fr.refl _ _ _)⟩;cases e<;>first|exact he.elim|exact qq
theorem acL{all:aI Oper}:∀ {l:J Oper}{o:Oper},o∈l->∀i,i∈ig o.dst->i∈eD all l
 | [],_,h,_,_=>by cases h
 | o'::l,o,h,i,hi=>by
  simp [eD];rcases iq.1 h with rfl|h
  ·exact .inl hi
  ·exact .inr (.inr (acL h i hi))
theorem aeR(hX:X.Ok){R:Type}{i1 i2 i3:Nat}{A B C:aI Oper}{k:Ex E->TS E->O R}{r:R}(h:aiv X A B C st (jc (fun st'=>k .ret st') k)=some r):
  JE X.P (.seq (.region i1 A false) (.seq (.region i2 B false) (.seq (.region i3 C false) .ret))) st (fun x st'=>k x st'=some r/\Fr (wr (.seq (.region i1 A false) (.seq (.region i2 B false) (.seq (.region i3 C false) .ret)))) (iT (.seq (.region i1 A false) (.seq (.region i2 B false) (.seq (.region i3 C false) .ret)))) st st'):=by
 unfold aiv at h;split at h<;>try trivial
 rename_i s hs;split at h<;>try trivial
 rename_i l hx;cases hc:(s.ok X st.t.length&&(cg A.toList&&(cg B.toList&&cg C.toList)))<;>rw [hc] at h<;>simp only [bq,aS] at h
 ·cases h
 simp at hc;obtain⟨hok,nA,nB,nC⟩:=hc;obtain⟨hl,h⟩:=dG h;have hl:=wS hl;intro ro hro w0 G0 a w G hr;obtain⟨a3,w1,hA,W2,hB,hC⟩:=aeO hX hs hx hok hl hr;obtain⟨C0,hC0⟩:=aix hs
 have nR:cg s.rest=true:=by
  have:∀(l1 l2:J Oper),cg (l1++l2)=true->cg l2=true:=by
   intro l1
   induction l1 with
   | nil=>intro l2 h;exact h
   | cons o l1 ih=>simp_all [cg]
  grind
 have hF:Fr (eD A A.toList++(eD B B.toList++eD C C.toList)) true st (s.s9 st l):=amS hs st l (fun o ho i hi=>by
  grind [acL])
 have hout:∀ {K:Act->U->Prop}{Q:Ex E->TS E->Prop},¬ LetsOut (Exit.then K (cu E w0 G0 Q)):=fun⟨a,w,h⟩=>cu.Tb ⟨a,w,h⟩;refine wpIn_seq (wpIn_region_list (v7 hout _ a w (fun _=>nA) (hA _ _ ?_)));refine wpIn_seq (wpIn_region_list (v7 hout _ a3 w1 (fun _=>nB) (hB _ _ fun a5 w2 hW=>?_)));obtain⟨a9,⟨G',hr9⟩,ff⟩:=hC a5 w2 hW;refine wpIn_seq (wpIn_region_list (v7 hout _ a5 w2 (fun _=>nC) (ff _ _ ?_)));refine qH s.rest a9 w2 (fun e a w hp=>?_) (qu hX h w0 G0 a9 w2 G' hr9);obtain⟨x,s',G2,he,hr',hq,hf⟩:=hp
 have hf:=hF.trans hf (W:=wr (.seq (.region i1 A false) (.seq (.region i2 B false) (.seq (.region i3 C false) .ret)))) (fun i hi=>by
  simp_all [wr]) (fun i hi=>by
  simp_all [wr,KR]) (n:=iT (.seq (.region i1 A false) (.seq (.region i2 B false) (.seq (.region i3 C false) .ret)))) (fun _=>⟨rfl,nR⟩)
 cases x with
 | normal=>
  cases e<;>try (exact he.elim)
  exact wpIn_ret ⟨.ret,s',G2,trivial,hr',hq,hf⟩
 | _=>
  have qq:cu E w0 G0 (fun x st'=>k x st'=some r/\Fr (wr (.seq (.region i1 A false) (.seq (.region i2 B false) (.seq (.region i3 C false) .ret)))) (iT (.seq (.region i1 A false) (.seq (.region i2 B false) (.seq (.region i3 C false) .ret)))) st st') e a w:=⟨_,s',G2,he,hr',hq,hf⟩;cases e<;>first|exact he.elim|exact qq
theorem tc(hX:X.Ok){F:Nat}:∀(c:Code)(p:cZ){R:Type}{st:TS E}{k:Ex E->TS E->Option R}{r:R},runT X F c p st k=some r->JE X.P c st (fun x st'=>k x st'=some r/\Fr (wr c) (iT c) st st'):=by
 intro c
 induction c with
 | skip=>intro p R st k r h ro hro w0 G0 a w G hr;exact wpIn_skip ⟨.normal,st,G,trivial,hr,h,Fr.refl _ _ _⟩
 | label l=>intro p R st k r h ro hro w0 G0 a w G hr;exact wpIn_label ⟨.normal,st,G,trivial,hr,h,Fr.refl _ _ _⟩
 | exit i=>intro p R st k r h ro hro w0 G0 a w G hr;exact wpIn_exit ⟨.exit i,st,G,rfl,hr,h,Fr.refl _ _ _⟩
 | ret=>intro p R st k r h ro hro w0 G0 a w G hr;exact wpIn_ret ⟨.ret,st,G,trivial,hr,h,Fr.refl _ _ _⟩
 | goto l=>intro p R st k r h;cases h
 | refuse s=>intro p R st k r h;cases h
 | scope c ih=>
  intro p R st k r h;have h1:=ih p h;intro ro hro w0 G0 ac w G hr
  cases ro with
  | some l=>cases hro rfl
  | none=>
  refine (wpIn_wide (n:=0)).2 ?_;refine wp_scope_straight (wp_mono ((wpIn_wide (n:=0)).1 (h1 none (fun h=>nomatch h) w0 G0 ac w G hr)) fun e a' w' hp=>?_);obtain⟨x,s,G',he,hr',hq,hf⟩:=hp;have qq:∀ {x},amt E w' G' e x->k x s=some r->cu E w0 G0 (fun x st'=>k x st'=some r/\Fr (wr (.scope c)) (iT (.scope c)) st st') e a' w':=fun h1 h2=>⟨_,s,G',h1,hr',h2,hf⟩
  cases x<;>cases e<;>first|exact he.elim|(cases hq;done)|exact qq he hq
 | rangeFunc f ps a b _ _=>intro p R st k r h;cases h
 | region id ops dr=>
  intro p R st k r h;simp only [runT] at h;rw [ais] at h;cases dr<;>simp only [bq,aS] at h
  ·split at h
   ·intro ro hro w0 G0 a w G hr
    exact wpIn_region_list (v7 cu.Tb _ a w (fun h=>by simp_all [tK,cx]) (Td hX _ h w0 G0 a w G hr))
   ·grind [aeQ]
   ·intro ro hro w0 G0 a w G hr
    exact wpIn_region_list (v7 cu.Tb _ a w (fun h=>by simp_all [tK,cx]) (qu hX h w0 G0 a w G hr))
  ·split at h<;>try trivial
   ·exact JE.of_wp (by rfl) (Hy.mono (aeK hX h) fun x s hh=>by rw [hh.1];exact hh.2)
   ·exact JE.of_wp (by rfl) (Hy.mono (abQ hX h) fun x s hh=>by rw [hh.1];exact hh.2)
   ·exact JE.of_wp (by rfl) (Hy.mono (abR hX h) fun x s hh=>by rw [hh.1];exact hh.2)
 | block i a ih=>
  intro p R st k r h;have h1:=ih p h;intro ro hro w0 G0 ac w G hr;refine wpIn_block (wpIn_mono (h1 ro hro w0 G0 ac w G hr) fun e a' w' hp=>?_);obtain⟨x,s,G',he,hr',hq,hf⟩:=hp
  cases x with
  | exit j=>
   cases e<;>try (exact he.elim)
   rename_i i';subst he;simp only [Ta] at hq;simp only [Exit.inBlock];cases hb:Nat.beq i' i<;>rw [hb] at hq<;>simp only [bq,aS] at hq
   ·have:i'≠i:=fun e=>by simp_all
    rw [if_neg this];exact⟨.exit i',s,G',rfl,hr',hq,hf⟩
   ·rw [if_pos (eB hb)]
    exact⟨.normal,s,G',trivial,hr',hq,hf⟩
  | _=>
   have qq:cu E w0 G0 (fun x st'=>k x st'=some r/\Fr (wr (.block i a)) (iT (.block i a)) st st') e a' w':=⟨_,s,G',he,hr',hq,hf⟩
   cases e<;>first|exact he.elim|exact qq
 | cond c a b DS DT=>
  intro p R st k r h;simp only [runT] at h;split at h<;>try trivial
  rename_i v hv;intro ro hro w0 G0 ac w G hr;have Z1:ro.isSome=true->tK a=true:=fun h=>by simp_all [tK,cx]
  have Z2:ro.isSome=true->tK b=true:=fun h=>by simp_all [tK,cx]
  have Lv:=hr.ev c;rw [hv] at Lv;have Lv:=Lv.lI;cases v<;>simp only [bq,aS] at h
  ·exact wpIn_cond_false Lv (wpIn_mono (DT p.r h ro Z2 w0 G0 ac w G hr) fun _ _ _ hp=>cu.mono (fun x s hh=>⟨hh.1,hh.2.wide (fun i hi=>by simp [wr,hi]) (fun hn=>by simp_all [iT,cx])⟩) hp)
  ·exact wpIn_cond_true Lv (wpIn_mono (DS p.l h ro Z1 w0 G0 ac w G hr) fun _ _ _ hp=>cu.mono (fun x s hh=>⟨hh.1,hh.2.wide (fun i hi=>by simp [wr,hi]) (fun hn=>by simp_all [iT,cx])⟩) hp)
 | seq a b DS DT=>
  have plain:∀(p q:cZ){R:Type}{st:TS E}{k:Ex E->TS E->Option R}{r:R},runT X F a p st (jc (fun st'=>runT X F b q st' k) k)=some r->JE X.P (.seq a b) st (fun x st'=>k x st'=some r/\Fr (wr (.seq a b)) (iT (.seq a b)) st st'):=by
   intro p q R st k r h ro hro w0 G0 ac w G hr;have Z1:ro.isSome=true->tK a=true:=fun h=>by simp_all [tK,cx]
   have Z2:ro.isSome=true->tK b=true:=fun h=>by simp_all [tK,cx]
   refine agC Z1 hr (DS p h) (fun s a' w' G' hq hr'=>?_) (fun x s hne hq=>?_)
   ·exact wpIn_mono (DT q hq.1 ro Z2 w0 G0 a' w' G' hr') fun _ _ _ hp=>cu.mono (fun x s' hh=>⟨hh.1,hq.2.trans hh.2 (fun i hi=>by simp [wr,hi]) (fun i hi=>by simp [wr,hi]) (fun hn=>by simp_all [iT,cx])⟩) hp
   ·refine⟨by grind,hq.2.wide (fun i hi=>by simp [wr,hi]) (fun hn=>by simp_all [iT,Bool.and_eq_true])⟩
  intro p R st k r h;simp only [runT] at h;split at h
  ·rename_i ow c p q
   split at h<;>try trivial
   rename_i jk had;intro ro hro w0 G0 ac w G hr;have Z1:ro.isSome=true->tK a=true:=fun h=>by simp_all [tK,cx]
   have Z2:ro.isSome=true->tK b=true:=fun h=>by simp_all [tK,cx]
   obtain⟨⟨G1,eM⟩,SU⟩:=mW had hr;split at h
   ·exact wpIn_mono (plain p q h ro hro w0 G0 ac w G1 eM) fun _ _ _ hp=>cu.mono (fun x s' hh=>⟨hh.1,SU.trans hh.2 (fun i hi=>hi) (fun i hi=>hi) (fun hn=>⟨rfl,hn⟩)⟩) hp
   ·obtain⟨hc,h⟩:=dG h
    rw [cx] at hc;have hpre:=eM.pre;obtain⟨Q,hC,hN,hXn⟩:=Wt h (C:=fun Q=>JE X.P a jk (fun x st'=>Q x st'/\Fr (wr a) (iT a) jk st')) (fun h'=>DS p h');refine agC Z1 eM hC (fun s a' w' G' hq hr'=>?_) (fun x s hne hq=>?_)
    ·obtain⟨y,hp,hB⟩:=hN s hq.1
     obtain⟨⟨G2,hR⟩,hF⟩:=yH hX.E hpre hr' (hq.2.wide (fun _ h=>h) (fun _=>hc.2)) hc.1 hp
     exact wpIn_mono (DT q hB ro Z2 w0 G0 a' w' G2 hR) fun _ _ _ hp=>cu.mono (fun x s' hh=>⟨hh.1,SU.trans (hF.trans hh.2 (W:=wr a++wr b) (n:=iT b) (fun i hi=>by simp [hi]) (fun i hi=>by simp [hi]) (fun hn=>⟨rfl,hn⟩)) (fun i hi=>hi) (fun i hi=>hi) (fun hn=>by
      simp_all [iT,cx])⟩) hp
    ·exact⟨hXn x s hne hq.1,SU.trans hq.2 (fun i hi=>hi) (fun i hi=>by simp [wr,hi]) (fun hn=>⟨rfl,hc.2⟩)⟩
  ·split at h<;>try trivial
   exact aeR hX h
  ·exact plain .leaf .leaf h
 | loop a ih=>
  intro p R st k r h;simp only [runT] at h;split at h<;>try trivial
  rename_i ow c p;split at h<;>try trivial
  rename_i jk had;obtain⟨hc,h⟩:=dG h;rw [cx] at hc;intro ro hro w0 G0 ac w G hr;obtain⟨⟨G1,eM⟩,SU⟩:=mW had hr;have hpre:=eM.pre
  cases hs:c.pack jk jk with
  | none=>rw [hs] at h;cases h
  | some s0=>
   rw [hs] at h;obtain⟨hR0,hFu⟩:=yH hX.E (W:=wr a) hpre eM (Fr.refl _ _ _) hc.1 hs;refine NL (ι:=Nat×dens E c.tys) (fun x a' w'=>bV (fun rc s=>runT X F a p (c.un (wr a) jk s) (jc (fun st'=>(c.pack jk st').bind rc) k)) x.1 x.2=some r/\∃G',Rel E w0 G0 (c.un (wr a) jk x.2) a' w' G') (fun x=>x.1) (F,s0) ⟨h,hR0⟩ ?_;rintro⟨n,s⟩ a' w' ⟨hl,G',hr'⟩
   cases n with
   | zero=>cases hl
   | succ n=>
    have hFs:Fr (wr a) true jk (c.un (wr a) jk s):=by
     unfold Cut.pack at hs;split at hs<;>try trivial
     rename_i ls hls;exact Cut.Wp hc.1 hls
    refine wpIn_mono (ih p hl ro hro w0 G0 a' w' G' hr') fun e a2 w2 hp=>?_;obtain⟨x,s2,G2,he,hr2,hq,hf⟩:=hp;have qS:Fr (wr a) true jk s2:=hFs.trans hf (fun _ h=>h) (fun _ h=>h) (fun _=>⟨rfl,hc.2⟩)
    cases x with
    | normal=>
     cases e<;>try (exact he.elim)
     simp only [jc] at hq
     cases hp2:c.pack jk s2 with
     | none=>rw [hp2] at hq;cases hq
     | some y=>
      rw [hp2] at hq;obtain⟨hR2,-⟩:=yH hX.E hpre hr2 qS hc.1 hp2
      exact⟨(n,y),⟨hq,hR2⟩,Iv n⟩
    | _=>
     have qq:cu E w0 G0 (fun x st'=>k x st'=some r/\Fr (wr (.loop a)) (iT (.loop a)) st st') e a2 w2:=⟨_,s2,G2,he,hr2,hq,SU.trans qS (fun _ h=>h) (fun _ h=>h) (fun _=>⟨rfl,rfl⟩)⟩;cases e<;>first|exact he.elim|exact qq
end
end Go.RT
namespace Go.RT
variable {E : TEnv}
def Z3(X:Cx E)(st:TS E):ResultVar->O (TV E)
 | .tmp t=>some (st.at t)
 | .cell p t=>match aU X.P t,st.at p with
  | some i,.ptr r off=>match st.H[r]? with
   | some (.cells _ cs)=>Sg E (X.ty t) cs i.isAgg i.size off
   | _=>none
  | _,_=>none
def pz(X:Cx E)(st:TS E):J ResultVar->O (J (TV E))
 | []=>some []
 | r::rs=>match Z3 X st r,pz X st rs with
  | some d,some ds=>some (d::ds)
  | _,_=>none
def p8:J (TV E)->TV E
 | [d]=>d
 | ds=>.tuple ds
def Pb(tmps:aI Value):ResultVar->Sem Value
 | .tmp t=>pure (tmps.getD t undef)
 | .cell a t=>do loadVar t (<-asAddr (tmps.getD a undef))
theorem aeS(fn:Func)(tmps:aI Value):results fn tmps=(do
  let vs <-fn.results.mapM (Pb tmps)
  pure (if h:vs.size=1 then vs[0] else .tuple vs)):=by
 congr 2
def Pc:J Value->Value
 | [v]=>v
 | vs=>.tuple vs.toArray
theorem aiz(vs:J Value):(if h:vs.toArray.size=1 then vs.toArray[0] else .tuple vs.toArray)=Pc vs:=by
 match vs with
 | []=>rfl
 | [v]=>rfl
 | v::u::r=>simp [Pc]
section
variable {X : Cx E} {w0 w : U} {G0 G : aJ} {st : TS E} {a : Act}
theorem agD(hX:X.Ok)(hr:Rel E w0 G0 st a w G){rv:ResultVar}{d:TV E}(h:Z3 X st rv=some d):∃v,VT E w G d v/\(Pb a.tmps rv).run X.P w=.ok v w:=by
 cases rv with
 | tmp t=>
  cases h
  exact⟨_,hr.at t,rfl⟩
 | cell p t=>
  simp [Z3] at h;split at h<;>try trivial
  rename_i i r off hi hd;split at h<;>try trivial
  rename_i t' cs hb;have hv:=hr.at p;rw [hd] at hv;obtain⟨b,he,hat⟩:=hv;obtain⟨vs,hh,h1,h2⟩:=hr.box hat hb
  obtain⟨v,hv,hrun⟩:=rJ (b:=b) (o':=0) hi (fun l u hl=>by
   grind [cell_of_row]) (ID hX.E h2 (fun u hu=>h1 u (by simpa using hu)) h)
  refine⟨v,hv,?_⟩;have:=hrun w (eS.refl w);simp only [Pb];rw [he];simpa [Instr.loadAt,Instr.sureAddr,asAddr] using this
theorem Wu(hX:X.Ok)(hr:Rel E w0 G0 st a w G):∀ {rs:J ResultVar}{ds:J (TV E)},pz X st rs=some ds->∃vs,bD E w G ds vs/\(rs.mapM (Pb a.tmps)).run X.P w=.ok vs w
 | [],ds,h=>by cases h;exact⟨[],.nil,rfl⟩
 | r::rs,ds,h=>by
  simp [pz] at h;split at h<;>try trivial
  rename_i d ds' h1 h2;cases h;obtain⟨v,hv,hrun⟩:=agD hX hr h1;obtain⟨vs,hvs,aop⟩:=Wu hX hr h2;exact⟨v::vs,.cons hv hvs,by simp [hrun,aop]⟩
theorem aeT:∀ {ds:J (TV E)}{vs:J Value},bD E w G ds vs->VT E w G (p8 ds) (Pc vs)
 | [],vs,h=>by grind [bD,p8,Pc,VT]
 | [d],vs,h=>by
  obtain⟨u,us,rfl,h1,h2⟩:=h.cons_inv;subst h2
  exact h1
 | d1::d2::ds,vs,h=>by
  obtain⟨u,us,rfl,h1,h2⟩:=h.cons_inv;obtain⟨u2,RU,rfl,h3,h4⟩:=h2.cons_inv
  grind [p8,Pc,VT]
theorem zi(hX:X.Ok)(hr:Rel E w0 G0 st a w G){fn:Func}{ds:J (TV E)}(h:pz X st fn.results.toList=some ds):∃v,VT E w G (p8 ds) v/\(results fn a.tmps).run X.P w=.ok v w:=by
 obtain⟨vs,hv,hrun⟩:=Wu hX hr h;refine⟨Pc vs,aeT hv,?_⟩
 grind [aeS,Array.mapM_eq_mapM_toList,Sem.run_bind,Sem.run_map,Result.andThen_ok,Sem.run_pure,aiz]
end
def Outs.cut(o:Outs):Cut:=⟨[],o.boxes,o.rows,o.soft⟩
def Outs.get(o:Outs)(bJ st:TS E)(d:TV E):O (dens E o.tys):=
 match EA o.res d st with
 | (d,st)=>match o.res.get ⟨List.range o.boxes.length,List.range o.rows.length,st.g.map (·.aF)⟩ d,o.cut.leaves bJ st with
  | some a,some b=>getAll o.tys (a++b)
  | _,_=>none
def z7(n:Nat)(l:J (TV E)):J (TV E):=l++List.replicate (n-l.length) .any
def cL.bJ(s:cL)(n:Nat)(ls:J (Lf E)):TS E:=⟨z7 n (s.ds ls),s.H ls,s.g0,[],[],s.c ls⟩
def apL(s:cL)(fn:Func)(st:TS E):O (Nat×PT):=match fn.results.toList,s.out.res with
 | [.tmp t],.one (.cj j T)=>some (t,.one (.cj j T))
 | [.tmp t],.one (.dZ j)=>match st.t[t]? with
  | some (.val (.slice none 0 0))=>some (t,.one (.dZ j))
  | _=>none
 | _,_=>none
def F8(s:cL)(fn:Func)(bJ st:TS E):TS E:=match apL s fn st with
 | some (t,p)=>SZ s.out.cut bJ.g.length t p st
 | none=>st
theorem ak1{s:cL}{fn:Func}{w0 w:U}{G0 G:aJ}{bJ st:TS E}{a:Act}{W:J Nat}{nd:Bool}(hp:Pre G0 bJ)(hr:Rel E w0 G0 st a w G)(hF:Fr W nd bJ st):
  ∃G' W',Rel E w0 G0 (F8 s fn bJ st) a w G'/\Fr W' nd bJ (F8 s fn bJ st)/\(F8 s fn bJ st).df=st.df:=by
 unfold F8;split
 ·rename_i t p h1
  have hn0:G0.g.length<=bJ.g.length:=by
   rcases XT bJ.g.length G0.g.length with hlt|hge
   ·obtain⟨x,hx,-⟩:=hp.rows bJ.g.length _ _ (fC hlt)
    simp_all
   ·exact hge
  obtain⟨⟨G1,eM⟩,f1⟩:=ZP s.out.cut bJ.g.length t p hn0 hr;exact⟨G1,t::W,eM,Fr.trans hF f1 (fun i hi=>pX _ hi) (fun i hi=>by simp_all) (fun h=>⟨h,rfl⟩),f1.df rfl⟩
 grind
def Yg(q c:Nat)(p:CT)(st:TS E):TS E:=match p,st.H[q]? with
 | .cj j T,some (.cells t cs)=>match cs[c]?,st.g[j]? with
  | some (.val (.slice none 0 0)),some g=>cond (ND j st.c) {st with H:=st.H.set q (.cells t (cs.set c (.cj j (g.aF+1) T []))),g:=st.g.set j {g with aF:=g.aF+1},d:=q::st.d} st
  | _,_=>st
 | _,_=>st
def Te(q:Nat):Nat->J CT->TS E->TS E
 | _,[],st=>st
 | c,p::ps,st=>Te q (c+1) ps (Yg q c p st)
def vk:Nat->J (O BT)->TS E->TS E
 | _,[],st=>st
 | q,some (.cells _ ps)::bs,st=>vk (q+1) bs (Te q 0 ps st)
 | q,_::bs,st=>vk (q+1) bs st
theorem aiA(q c:Nat)(p:CT){w0 w:World}{G0 G:aJ}{st:TS E}{a:Act}(hr:Rel E w0 G0 st a w G):(∃G',Rel E w0 G0 (Yg q c p st) a w G')/\Fr [] true st (Yg q c p st):=by
 have vh:(∃G',Rel E w0 G0 st a w G')/\Fr [] true st st:=⟨⟨G,hr⟩,Fr.refl _ _ _⟩;unfold Yg;split
 ·rename_i j T t cs hq
  split
  ·rename_i g hc hg
   generalize hb:ND j st.c=b;cases b
   ·exact vh
   obtain⟨hd,hj⟩:=hr.zQ hg;have hjl:=(eO.1 hj).1;have hN:=hr.O8 (x':={g with aF:=g.aF+1}) hj (Iv _) (vY _) (NF hb) (fun b hb=>nomatch hb) (fun _ _ _ _ _ _ _ hb=>nomatch hb);have hlr:q<G.i.length:=by rw [hr.boxes.len];grind
   have hat:=fC hlr;refine⟨⟨_,hN.xC hat rfl rfl rfl rfl (fun _ _=>rfl) (fun _=>?_)⟩,rfl,fun _ _=>rfl,⟨[q],rfl,fun r _ hr=>?_⟩,si,fun _=>rfl⟩
   ·obtain⟨vs,h1,h2,h3⟩:=hN.boxes.box q _ _ hat hq
    refine⟨vs,h1,h2,?_⟩;obtain⟨u,hu,hv⟩:=h3.get c hc;subst hv
    have key:∀(w1:World)(G1:aJ)(cs:J (TV E))(vs:J Value)(c:Nat)(d:TV E),bD E w1 G1 cs vs->vs[c]? = some (.slice none 0 0)->VT E w1 G1 d (.slice none 0 0)->bD E w1 G1 (cs.set c d) vs:=by
     intro w1 G1 cs
     induction cs with
     | nil=>simp_all
     | cons x cs ih=>
      intro vs c d h1 h2 h3;obtain⟨u,us,rfl,q1,q2⟩:=h1.cons_inv
      cases c with
      | zero=>simp at h2;subst h2;exact .cons h3 q2
      | succ c=>exact .cons q1 (ih us c d q2 (by simpa using h2) h3)
    refine key _ _ cs vs.toList c _ h3 hu ?_;exact⟨.uk _ _,{g with aF:=g.aF+1},.slice none 0 0,by simp [hjl],eo _,fun _=>rfl⟩
   grind
  ·exact vh
 ·exact vh
theorem Wv(q:Nat){w0 w:U}{G0:aJ}{a:Act}:∀(ps:J CT)(c:Nat){st:TS E}{G:aJ},Rel E w0 G0 st a w G->(∃G',Rel E w0 G0 (Te q c ps st) a w G')/\Fr [] true st (Te q c ps st)
 | [],_,_,G,hr=>⟨⟨G,hr⟩,Fr.refl _ _ _⟩
 | p::ps,c,st,G,hr=>by
  obtain⟨⟨G1,eM⟩,f1⟩:=aiA q c p hr;obtain⟨h2,f2⟩:=Wv q ps (c+1) eM;exact⟨h2,Fr.trans f1 f2 (fun _ h=>h) (fun _ h=>h) (fun _=>⟨rfl,rfl⟩)⟩
theorem yX{w0 w:U}{G0:aJ}{a:Act}:∀(bs:J (O BT))(q:Nat){st:TS E}{G:aJ},Rel E w0 G0 st a w G->(∃G',Rel E w0 G0 (vk q bs st) a w G')/\Fr [] true st (vk q bs st)
 | [],_,_,G,hr=>⟨⟨G,hr⟩,Fr.refl _ _ _⟩
 | some (.cells _ ps)::bs,q,st,G,hr=>by
  obtain⟨⟨G1,eM⟩,f1⟩:=Wv q ps 0 hr;obtain⟨h2,f2⟩:=yX bs (q+1) eM
  exact⟨h2,Fr.trans f1 f2 (fun _ h=>h) (fun _ h=>h) (fun _=>⟨rfl,rfl⟩)⟩
 | none::bs,q,st,G,hr=>yX bs (q+1) hr
 | some (.map _ _)::bs,q,st,G,hr=>yX bs (q+1) hr
 | some .iter::bs,q,st,G,hr=>yX bs (q+1) hr
 | some (.loop _ _)::bs,q,st,G,hr=>yX bs (q+1) hr
theorem acM{s:cL}{fn:Func}{w0 w:World}{G0 G:aJ}{bJ st:TS E}{a:Act}{W:J Nat}{nd:Bool}(hp:Pre G0 bJ)(hr:Rel E w0 G0 st a w G)(hF:Fr W nd bJ st):
  ∃G' W',Rel E w0 G0 (F8 s fn bJ (vk 0 s.out.boxes st)) a w G'/\Fr W' nd bJ (F8 s fn bJ (vk 0 s.out.boxes st))/\(F8 s fn bJ (vk 0 s.out.boxes st)).df=st.df:=by
 obtain⟨⟨G1,eM⟩,f1⟩:=yX s.out.boxes 0 hr;obtain⟨G2,W2,h1,h2,h3⟩:=ak1 hp eM (Fr.trans hF f1 (fun _ h=>h) (fun _ h=>nomatch h) (fun h=>⟨h,rfl⟩));exact⟨G2,W2,h1,h2,h3.trans (f1.df rfl)⟩
def NN(X:Cx E)(s:cL)(fn:Func)(bJ st:TS E):O (dens E s.out.tys):=(pz X (F8 s fn bJ (vk 0 s.out.boxes st)) fn.results.toList).bind fun ds=>s.out.get bJ (F8 s fn bJ (vk 0 s.out.boxes st)) (p8 ds)
def aeU(X:Cx E)(s:cL)(fn:Func)(bJ:TS E):(p:O Outs)->Ex E->TS E->O (OutP E s.out p)
 | none,.ret,st=>NN X s fn bJ st
 | none,.normal,st=>NN X s fn bJ st
 | some q,.ret,st=>Wq (NN X s fn bJ st)
 | some q,.normal,st=>Wq (NN X s fn bJ st)
 | some q,.panic d,st=>yA (q.get bJ st d)
 | _,_,_=>none
noncomputable def Z4(X:Cx E)(F:Nat)(s:cL)(fn:Func)(pl:cZ)(x:dens E s.tys):O (OutP E s.out s.kZ):=
 match fn.body with
 | some c=>rq (iT c) (runT X F c pl (s.bJ fn.ntmps (aP s.tys x)) (aeU X s fn (s.bJ fn.ntmps (aP s.tys x)) s.kZ))
 | none=>none
section
variable {X : Cx E}
theorem Rel.init{w:U}{G:aJ}{args:aI Value}{s:cL}{ls:J (Lf E)}{n:Nat}(hP:o4 E w G)(hB:lu E w G (s.H ls) s.g0)(hS:kg E w G (s.c ls))(hV:bD E w G (s.ds ls) args.toList):
  Rel E w G (s.bJ n ls) {tmps:=args++Array.replicate (n-args.size) undef,defers:=[]} w G:=by
 have hl:args.size=(s.ds ls).length:=by simpa using hV.length
 refine⟨kC.refl w G,?_,fun j d hj=>?_,trivial,hB,fun _ _ _ _=>rfl,hP,hS⟩
 ·simp [cL.bJ,z7,hl]
 ·have hj:(z7 n (s.ds ls))[j]? = some d:=hj
  unfold z7 at hj;by_cases hlt:j<(s.ds ls).length
  ·rw [uJ hlt] at hj
   obtain⟨u,hu,hv⟩:=hV.get j hj
   simp_all [ajK]
  grind [List.mem_of_getElem?,VT]
theorem Outs.F9(hE:E.Ok){o:Outs}{ok:Bool}{w w':U}{G G':aJ}{bJ st:TS E}{a:Act}{W:J Nat}{nd:Bool}{d:TV E}{v:Value}{y:dens E o.tys}(hp:Pre G bJ)(Ww:bJ.d=[])(hdf:st.df=bJ.df)(hr:Rel E w G st a w' G')(hF:Fr W nd bJ st)(hv:VT E w' G' d v)(h:o.get bJ st d=some y):
  ∃G2,kC w G w' G2/\lu E w' G2 (o.mg ok bJ.H bJ.g (aP o.tys y)).H (o.mg ok bJ.H bJ.g (aP o.tys y)).g/\kg E w' G2 (o.mg ok bJ.H bJ.g (aP o.tys y)).c/\VT E w' G2 (o.mg ok bJ.H bJ.g (aP o.tys y)).d v /\
   ∀(q b:Nat),G.i[q]? = some b->q∉(o.mg ok bJ.H bJ.g (aP o.tys y)).D->w'.heap[b]? = w.heap[b]?:=by
 unfold Outs.get at h;obtain⟨d1,jk,hh⟩:∃d1 jk,EA o.res d st=(d1,jk):=⟨_,_,rfl⟩;rw [hh] at h;dsimp only at h;split at h<;>try trivial
 rename_i la lb hla hlb;obtain⟨o1,G1,eM,-,uy⟩:=ZI o.res d hr;have hv:=uy v hv;rw [hh] at o1 eM hv;have hr:=eM
 have hF:Fr W nd bJ jk:=by
  obtain⟨c,rfl⟩:=o1;exact⟨hF.len,hF.keep,hF.d,hF.hl,hF.df⟩
 have hdf:jk.df=bJ.df:=by
  obtain⟨c,rfl⟩:=o1;exact hdf
 obtain⟨D,hD,hH⟩:=hF.d;obtain⟨G2,hR,hL⟩:=Rel.cut hE hp hr hF.len hF.keep hD hH hdf hlb;have hput:=CP _ h;obtain⟨e1,e2⟩:=PT.sound hE hL hla hv;rw [hput];simp [Outs.mg];have e3:(o.res.put (o.n1 bJ.g) (la++lb)).2=lb:=e1;refine⟨G2,hR.eR,?_,?_,e2,fun q b hq hd=>hR.fix q b hq ?_⟩
 ·rw [e3]
  exact hR.boxes
 ·rw [e3]
  exact hR.gf
 ·show q∉CR 0 o.boxes++bJ.d
  simp_all
theorem sP{P:aE}{f:FuncId}{fn:Func}{c:Code}{args:aI Value}{w:U}{R:Ending->U->Prop}(hf:P.funcs[f]? = some fn)(hb:fn.body=some c)(hn:(fn.name == "runtime.NumGoroutine")=false)(h:Calls P f args w R):jR P f args w R:=by
 have:(callFunc f args).run P w=.ok (.enter f args) w:=by
  simp only [callFunc,iS,run_program,jm,hf,hn,hb];simp
 simp_all [jR]
theorem aeV(hX:X.Ok){F:Nat}{s:cL}{fn:Func}{pl:cZ}{x:dens E s.tys}{y:OutP E s.out s.kZ}(hf:X.P.funcs[s.f]? = some fn)(hn:(fn.name == "runtime.NumGoroutine")=false)(h:Z4 X F s fn pl x=some y):
  kV X.P s.f (s.ds (aP s.tys x)) (s.H (aP s.tys x)) s.g0 (s.c (aP s.tys x)) (jS s (s.H (aP s.tys x)) s.kZ y):=by
 unfold Z4 at h;split at h<;>try trivial
 rename_i c hb;obtain⟨hnd,h⟩:=dG h;intro w G args hP hB hS hV;have FJ:=Rel.init (n:=fn.ntmps) hP hB hS hV;have hpre:=FJ.pre;refine sP hf hb hn (calls_of_wp hf hb (wp_mono ((tc hX c pl h).wp FJ) fun e a' w' hp=>?_));obtain⟨ex,st,G',he,hr,hk,hF⟩:=hp;have hdf:=hF.df hnd
 have Iz:a'.defers=[]:=by
  have:=hr.defers;rw [hdf] at this
  cases hd:a'.defers with
  | nil=>rfl
  | cons d ds=>rw [hd] at this;exact this.elim
 have Z5:∀ {y:dens E s.out.tys},NN X s fn (s.bJ fn.ntmps (aP s.tys x)) st=some y ->
   ∃v,(results fn a'.tmps).run X.P w'=.ok v w'/\∃v1 G2,Ending.returned v=Ck (s.out.mg true (s.H (aP s.tys x)) s.g0 (aP s.out.tys y)).ok v1/\kC w G w' G2 /\
    lu E w' G2 (s.out.mg true (s.H (aP s.tys x)) s.g0 (aP s.out.tys y)).H (s.out.mg true (s.H (aP s.tys x)) s.g0 (aP s.out.tys y)).g/\kg E w' G2 (s.out.mg true (s.H (aP s.tys x)) s.g0 (aP s.out.tys y)).c/\VT E w' G2 (s.out.mg true (s.H (aP s.tys x)) s.g0 (aP s.out.tys y)).d v1 /\
    ∀(q b:Nat),G.i[q]? = some b->q∉(s.out.mg true (s.H (aP s.tys x)) s.g0 (aP s.out.tys y)).D->w'.heap[b]? = w.heap[b]?:=by
  intro y hy;unfold NN at hy;obtain⟨G3,W3,hr,hF,aiB⟩:=acM hpre hr hF;generalize F8 s fn (s.bJ fn.ntmps (aP s.tys x)) (vk 0 s.out.boxes st)=YN at *
  cases hds:pz X YN fn.results.toList with
  | none=>rw [hds] at hy;cases hy
  | some ds=>
   rw [hds] at hy;obtain⟨v,hv,hrun⟩:=zi hX hr hds;obtain⟨G2,q1,q2,q3,q4,q5⟩:=Outs.F9 hX.E hpre rfl (aiB.trans hdf) hr hF hv hy;exact⟨v,hrun,v,G2,rfl,q1,q2,q3,q4,q5⟩
 have fin:∀(p:O Outs)(y:OutP E s.out p),aeU X s fn (s.bJ fn.ntmps (aP s.tys x)) p ex st=some y->bodyPost X.P fn (fun e w'=>∃v G',e=Ck (jS s (s.H (aP s.tys x)) p y).ok v/\kC w G w' G'/\lu E w' G' (jS s (s.H (aP s.tys x)) p y).H (jS s (s.H (aP s.tys x)) p y).g/\kg E w' G' (jS s (s.H (aP s.tys x)) p y).c /\
   VT E w' G' (jS s (s.H (aP s.tys x)) p y).d v/\∀(q b:Nat),G.i[q]? = some b->q∉(jS s (s.H (aP s.tys x)) p y).D->w'.heap[b]? = w.heap[b]?) e a' w':=by
  intro p y hk
  cases p with
  | none=>
   cases ex<;>cases e<;>try (exact he.elim)
   ·obtain⟨v,hrun,h2⟩:=Z5 hk;exact⟨Iz,v,hrun,h2⟩
   ·cases hk
   ·cases hk
   ·obtain⟨v,hrun,h2⟩:=Z5 hk;exact⟨Iz,v,hrun,h2⟩
   ·cases hk
  | some q=>
   cases ex<;>cases e<;>try (exact he.elim)
   ·obtain⟨y',hy,rfl⟩:=KQ hk;obtain⟨v,hrun,h2⟩:=Z5 hy;exact⟨Iz,v,hrun,h2⟩
   ·cases hk
   ·cases hk
   ·obtain⟨y',hy,rfl⟩:=KQ hk;obtain⟨v,hrun,h2⟩:=Z5 hy;exact⟨Iz,v,hrun,h2⟩
   ·obtain⟨y',hy,rfl⟩:=NK hk
    obtain⟨v,rfl,hv⟩:=he;obtain⟨G2,q1,q2,q3,q4,q5⟩:=Outs.F9 hX.E hpre rfl hdf hr hF hv hy;exact⟨Iz,v,G2,rfl,q1,q2,q3,q4,q5⟩
 exact fin s.kZ y hk
end
end Go.RT
namespace Go.RT
variable {E : TEnv}
theorem DX{w:U}{l o:Nat}{r:Loop}(h:w.heap[l]? = some (.loop r)):w.cell? ⟨l,o,none⟩=none:=by
 simp [World.cell?,h]
theorem NO{w:U}{G:aJ}{l:Nat}{r:Loop}(o:Obj)(h:w.heap[l]? = some (.loop r)):ic w G (w.putObj l o) G:=by
 refine⟨fun _ _ h=>h,fun b c v _ hv=>?_,fun _ _ h=>h,fun j x y hj=>⟨x,y,hj,eo _,fun _=>rfl⟩⟩
 grind [DX,World.cell?_of_block,World.putObj_heap_other]
section
variable {st : TS E}
theorem lu.turn{w:U}{G:aJ}{H:J (eZ E)}{gs:J bQ}{l:Nat}{r:Loop}(o:Obj)(h:w.heap[l]? = some (.loop r))(hl:l∉G.i)(hB:lu E w G H gs):lu E (w.putObj l o) G H gs:=by
 have hg:=NO (G:=G) o h;refine⟨hB.len,hB.gs,fun q b x hq hx=>(hB.box q b x hq hx).mono hg (World.putObj_heap_other fun e=>hl (by grind)),fun b hb=>by simpa using hB.lt b hb,hB.nodup,fun b o' hp=>by simpa using hB.ga b o' hp,fun j x y hj=>?_,hB.apart⟩;obtain⟨n,xs,ho,hz,hb⟩:=hB.grow j x y hj;refine⟨n,xs,⟨ho.1,?_⟩,hz,fun b Jr=>by simpa using hb b Jr⟩;rcases ho.2 with h2|⟨g,cap,cur,h2,h3,h4,h5⟩
 ·exact .inl h2
 ·refine .inr ⟨g,cap,cur,h2,h3,?_,h5⟩
  rw [Ix (fun e=>by simp_all)];exact h4
theorem kg.turn{w:U}{G:aJ}{cs:J (Nat×Cn E)}{l:Nat}{r:Loop}(o:Obj)(h:w.heap[l]? = some (.loop r))(hS:kg E w G cs):kg E (w.putObj l o) G cs:=by
 have hg:=NO (G:=G) o h;intro j c hj;obtain⟨x,hd,h1,h2,h3,⟨vals,ho,hf⟩,hp⟩:=hS j c hj;refine⟨x,hd,h1,h2,h3,⟨vals,⟨ho.1,?_⟩,hf.mono hg.pr hg.cells⟩,hp⟩;rcases ho.2 with q|⟨g,cap,cur,q1,q2,q3,q4⟩
 ·exact .inl q
 ·refine .inr ⟨g,cap,cur,q1,q2,?_,q4⟩
  rw [Ix (fun e=>by simp_all)];exact q3
theorem o4.turn{w:U}{G:aJ}{l:Nat}{r:Loop}(o:Obj)(h:w.heap[l]? = some (.loop r))(hP:o4 E w G):o4 E (w.putObj l o) G:=by
 intro b p hb;obtain⟨⟨cs,t,m,h1,hp⟩,h2⟩:=hP b p hb;exact⟨⟨cs,t,m,by rw [Ix (fun e=>by simp_all)];exact h1,hp⟩,h2⟩
theorem kC.turn{w0 w:U}{G0 G:aJ}{l:Nat}{r:Loop}(o:Loop)(h0:l<w0.heap.size)(h:w.heap[l]? = some (.loop r))(hE:kC w0 G0 w G):kC (w0.putObj l (.loop o)) G0 (w.putObj l (.loop o)) G:=by
 have hlt:=(za.1 h).1;refine⟨hE.os,hE.tape,hE.output,by simpa using hE.size,fun b hb hf=>?_,⟨hE.goes.pr,fun b c v hp hv=>?_,hE.goes.i,hE.goes.g⟩,fun b c hb hp=>hE.nt b c (by simpa using hb) hp,fun q b hq hb=>by simpa using hE.p4 q b hq hb,fun j x y b hj hb=>by simpa using hE.gA j x y b hj hb⟩
 ·by_cases e:b=l
  ·subst e;rw [OL hlt,OL h0]
  ·rw [Ix e,Ix e];exact hE.old b (by simpa using hb) hf
 ·by_cases e:b=l
  ·subst e;rw [DX (OL h0)] at hv;cases hv
  ·rw [OM (Ix e)] at hv⊢
   exact hE.goes.cells b c v hp hv
theorem agE{w0 w:U}{G0 G:aJ}{l:Nat}(hE:kC w0 G0 w G)(h0:l<w0.heap.size)(hf:¬ G0.Ds l):¬ G.Ds l:=by
 intro hf';refine hf ?_;rcases hf' with hf|⟨x,hd,hm,hbk⟩
 ·obtain⟨q,hq,he⟩:=lB hf
  have SJ:G.i[q]? = some l:=by simp_all
  by_cases sF:q<G0.i.length
  ·have e1:=hE.goes.i q _ (fC sF)
   exact .inl (by simp_all)
  ·have:=hE.p4 q l om SJ;omega
 ·obtain⟨j,hj,he⟩:=lB hm
  rcases hE.gA j x hd l (by simp_all) hbk with q|⟨x0,h0',q1,q2⟩
  ·omega
  ·exact .inr ⟨x0,h0',iX q1,q2⟩
theorem Rel.turn{w0 w:U}{G0 G:aJ}{a:Act}{l:Nat}{r:Loop}(o:Loop)(hr:Rel E w0 G0 st a w G)(h0:w0.heap[l]? = some (.loop r))(hf:¬ G0.Ds l):w.heap[l]? = some (.loop r)/\Rel E (w0.putObj l (.loop o)) G0 st a (w.putObj l (.loop o)) G:=by
 have hl0:=(za.1 h0).1;have h:w.heap[l]? = some (.loop r):=by rw [hr.eR.old l hl0 hf];exact h0
 have hg:=NO (G:=G) (.loop o) h;have hfG:=agE hr.eR hl0 hf;refine⟨h,hr.eR.turn o hl0 h,hr.size,fun j d hj=>(hr.tmps j d hj).mono hg,hr.defers.mono hg,hr.boxes.turn _ h (fun hm=>hfG (.inl hm)),fun q b hq hd=>?_,hr.pins.turn _ h0,hr.gf.turn _ h⟩;have hne:b≠l:=fun e=>hf (.inl (by grind));rw [Ix hne,Ix hne];exact hr.fix q b hq hd
def Yh:J Tmp->J (TV E)->J (TV E)->J (TV E)
 | p::ps,x::xs,t=>Yh ps xs (t.set p x)
 | _,_,t=>t
theorem Z6{w:U}{G:aJ}:∀(ps:J Tmp)(xT:J (TV E))(xV:J Value)(t:J (TV E))(tmps:aI Value),bD E w G xT xV->xT.length=ps.length->tmps.size=t.length->(∀j d,t[j]? = some d->VT E w G d (tmps.getD j undef)) ->
  ((ps.zip xV).foldl (fun t (p,v)=>t.setIfInBounds p v) tmps).size=(Yh ps xT t).length/\∀j d,(Yh ps xT t)[j]? = some d->VT E w G d (((ps.zip xV).foldl (fun t (p,v)=>t.setIfInBounds p v) tmps).getD j undef)
 | [],xT,xV,t,tmps,hv,hl,hs,ht=>by
  cases xT with
  | nil=>exact⟨hs,ht⟩
  | cons _ _=>cases hl
 | p::ps,[],xV,t,tmps,hv,hl,hs,ht=>by cases hl
 | p::ps,x::xs,xV,t,tmps,hv,hl,hs,ht=>by
  obtain⟨u,us,rfl,h1,h2⟩:=hv.cons_inv;refine Z6 ps xs us (t.set p x) (tmps.setIfInBounds p u) h2 (by simpa using hl) (by simpa using hs) fun j d hj=>?_;by_cases hjp:p=j
  ·by_cases hlt:p<t.length
   ·simp_all
   simp_all
  simp_all
def Z7(s:cL)(Y:YD)(ls:J (Lf E)):TS E:=⟨Yh Y.params.toList ((s.ds ls).take Y.params.size) ((s.ds ls).drop Y.params.size),s.H ls,s.g0,[],[],s.c ls⟩
def okH:J (eZ E)->Bool
 | []=>true
 | x::xs=>(match x with | .cells _ _=>true | .iter _ _=>true | .map _ _ _=>true|_=>false)&&okH xs
def amU(s:cL)(bJ:TS E):(p:O Outs)->Ex E->TS E->O (OutP E s.out p)
 | none,.normal,st=>s.out.get bJ st (.dat .bool true)
 | _,_,_=>none
noncomputable def amV(X:Cx E)(F:Nat)(s:cL)(Y:YD)(pl:cZ)(x:dens E s.tys):O (OutP E s.out s.kZ):=
 rq (tK Y.assign&&iT Y.assign&&(tK Y.body&&iT Y.body)&&okH (s.H (aP s.tys x))) (runT X F Y.assign .leaf (Z7 s Y (aP s.tys x)) (jc (fun jk=>runT X F Y.body pl jk (amU s (Z7 s Y (aP s.tys x)) s.kZ)) fun _ _=>none))
theorem bD.agF{w:U}{G:aJ}:∀ {ds:J (TV E)}{vs us:J Value},bD E w G ds (vs++us)->bD E w G (ds.take vs.length) vs/\bD E w G (ds.drop vs.length) us
 | ds,[],us,h=>⟨by simpa using bD.nil,by simpa using h⟩
 | [],v::vs,us,h=>by simp_all [bD]
 | d::ds,v::vs,us,h=>by
  obtain⟨u,us',e,h1,h2⟩:=h.cons_inv;cases e;obtain⟨q1,q2⟩:=bD.agF h2;exact⟨by simpa using bD.cons h1 q1,by simpa using q2⟩
theorem agG{w:U}{G:aJ}{l:Nat}{r:Loop}(h:w.heap[l]? = some (.loop r)):∀ {H:J (eZ E)}{q:Nat}{x:eZ E},okH H=true->H[q]? = some x->¬ jE E w G l x
 | [],_,_,_,hx=>by cases hx
 | y::H,0,x,ho,hx=>by
  cases hx;intro hb;simp [okH] at ho
  cases y with
  | cells ty cs=>obtain⟨vs,h1,-⟩:=hb;rw [h] at h1;cases h1
  | iter s p=>have h1:w.heap[l]? = _:=hb;rw [h] at h1;cases h1
  | map kt vt m=>obtain⟨es,clock,h1,-⟩:=hb;rw [h] at h1;cases h1
  | _=>cases ho.1
 | y::H,q+1,x,ho,hx=>by
  simp [okH] at ho;exact agG h ho.2 (by simpa using hx)
theorem Rel.aoq{w:U}{G:aJ}{s:cL}{Y:YD}{ls:J (Lf E)}{xs tmps:aI Value}(hn:xs.size=Y.params.size)(hP:o4 E w G)(hB:lu E w G (s.H ls) s.g0)(hS:kg E w G (s.c ls))(hV:bD E w G (s.ds ls) (xs++tmps).toList):
  Rel E w G (Z7 s Y ls) {tmps:=(Y.params.zip xs).foldl (fun t (p,v)=>t.setIfInBounds p v) tmps,defers:=[]} w G:=by
 rw [Array.toList_append] at hV;obtain⟨h1,h2⟩:=bD.agF hV;have hx:xs.toList.length=Y.params.size:=by simpa using hn
 rw [hx] at h1 h2
 have hf:(Y.params.zip xs).foldl (fun t (p,v)=>t.setIfInBounds p v) tmps=(Y.params.toList.zip xs.toList).foldl (fun t (p,v)=>t.setIfInBounds p v) tmps:=by
  rw [<-Array.foldl_toList,Array.toList_zip]
 obtain⟨q1,q2⟩:=Z6 Y.params.toList ((s.ds ls).take Y.params.size) xs.toList ((s.ds ls).drop Y.params.size) tmps h1 (by have:=h1.length;simp at this⊢;omega) (by simpa using h2.length) (fun j d hj=>by
  obtain⟨u,hu,hv⟩:=h2.get j hj
  simp_all)
 refine⟨kC.refl w G,?_,fun j d hj=>?_,trivial,hB,fun _ _ _ _=>rfl,hP,hS⟩
 ·show (_:aI Value).size=_;rw [hf];exact q1
 ·show VT E w G d (Array.getD _ j undef);rw [hf];exact q2 j d hj
theorem abT{w:U}{l:Nat}{o o':Obj}(h:w.heap[l]? = some o):(w.putObj l o').putObj l o=w:=by
 have:(w.heap.setIfInBounds l o').setIfInBounds l o=w.heap:=by
  grind
 unfold World.putObj;simp [this]
theorem bB.amW{X:Cx E}(hX:X.Ok){C:bB E}{F:Nat}{Y:YD}{pl:cZ}(hY:∀Y',E.yd C.s.f Y'->Y'=Y)(h:∀x,amV X F C.s Y pl x=C.m x):C.F5 (U3 E X.P):=by
 intro x y hy;have h1:amV X F C.s Y pl x=some y:=by rw [h x];exact hy
 intro w G args hP hB hS hV Y' fn l D xs tmps Z0 hargs hsz hheap;have Z0:=(hY Y' Z0).symm;subst Z0;subst hargs;obtain⟨hc,h1⟩:=dG h1;simp at hc;obtain⟨⟨⟨ha1,ry⟩,xj,o5⟩,hok⟩:=hc
 have hf:¬ G.Ds l:=by
  rintro (hm|⟨z,hd,hm,hbk⟩)
  ·obtain⟨q,hq,he⟩:=lB hm
   have hq2:q<(C.s.H (aP C.s.tys x)).length:=by rw [<-hB.len];exact hq
   exact agG hheap hok (fC hq2) (hB.box q l _ (by simp_all) (fC hq2))
  ·obtain⟨j,hj,he⟩:=lB hm
   obtain⟨n,xs',ho,-,-⟩:=hB.grow j z hd (by simp_all);rcases ho.2 with⟨h2,-⟩|⟨g,cap,cur,h2,h3,h4,h5⟩
   ·rw [h2] at hbk;cases hbk
   ·rw [h2] at hbk
    cases hbk
    simp_all
 have FJ:=Rel.aoq hsz hP hB hS hV;have hpre:=FJ.pre;refine roundIn_of_wpIn trivial ?_;refine wpIn_mono ((tc hX Y.assign .leaf h1) (some l) (fun _=>ha1) w G _ w G FJ) fun e a1 w1 hp=>?_;obtain⟨x1,jk,G1,he,eM,hq,hF1⟩:=hp;cases x1<;>try trivial
 cases e<;>try (exact he.elim)
 obtain⟨hl1,hrt⟩:=eM.turn ⟨.busy,none,fn,tmps,Y.params,Y.assign,Y.body,D⟩ hheap hf;refine⟨_,run_beginRound hl1 rfl,?_⟩;refine wpIn_mono ((tc hX Y.body pl hq) (some l) (fun _=>xj) _ G a1 _ G1 hrt) fun e a2 w2 hp=>?_;obtain⟨x2,Hu,G2,VX,hr2,hq2,qS⟩:=hp
 have fin:∀(p:O Outs)(y:OutP E C.s.out p),amU C.s (Z7 C.s Y (aP C.s.tys x)) p x2 Hu=some y->x2=.normal/\∃v w',(Instr.endRound l none).run X.P w2=.ok v w'/\yg E w G (jS C.s (C.s.H (aP C.s.tys x)) p y) (.returned v) w':=by
  intro p y hk
  cases p with
  | some q=>cases hk
  | none=>
   cases x2<;>try trivial
   refine⟨rfl,?_⟩;obtain⟨hl2,hr3⟩:=hr2.turn ⟨.ready,none,fn,tmps,Y.params,Y.assign,Y.body,D⟩ (OL (za.1 hheap).1) hf;rw [abT hheap] at hr3;refine⟨_,_,run_endRound none hl2,?_⟩;have hF:Fr (wr Y.assign++wr Y.body) true (Z7 C.s Y (aP C.s.tys x)) Hu:=hF1.trans qS (fun j hj=>by simp [hj]) (fun j hj=>by simp [hj]) (fun _=>⟨ry,o5⟩);have hv:VT E (w2.putObj l (.loop ⟨.ready,none,fn,tmps,Y.params,Y.assign,Y.body,D⟩)) G2 (.dat .bool true) (.bool true):=⟨VD.bool true,trivial⟩;obtain⟨G3,q1,q2,q3,q4,q5⟩:=Outs.F9 hX.E hpre rfl (hF.df rfl) hr3 hF hv hk;exact⟨.bool true,G3,rfl,q1,q2,q3,q4,q5⟩
 obtain⟨rfl,v,w',hend,hres⟩:=fin C.s.kZ y hq2;cases e<;>try (exact VX.elim)
 exact⟨v,w',hend,hres⟩
end
end Go.RT
namespace Go.RT
variable {E : TEnv}
def U8(P:aE):Inv:=fun f args w R=>jR P f args w R
theorem U8.mono(P:aE):(U8 P).ZM:=fun f args w R R' h hi=>by
 unfold U8 jR at *;split at hi
 ·exact FA hi h
 ·exact h _ _ hi
 ·exact hi.elim
theorem bB.Ok.gok{P:aE}{C:bB E}(h:C.Ok P):C.F5 (U8 P):=fun x y hy=>h x y hy
def KS(keep:J Nat)(t:J (TV E)):J (TV E):=t.zipIdx.map fun p=>cond (keep.elem p.2) p.1 .any
noncomputable def runM(X:Cx E)(F:Nat):Code->cZ->{R:Type}->TS E->(Ex E->TS E->O R)->O R
 | .seq a b,p,_,st,k=>match p with
  | .IV ow p q=>match rN (wr a++wr b) ow st with
   | none=>none
   | some st=>runM X F a p st (jc (fun st'=>runM X F b q st' k) k)
  | p=>runT X F (.seq a b) p st k
 | .block i a,p,_,st,k=>match p with
  | .ZY p=>runM X F a p st (Ta i k)
  | p=>runT X F (.block i a) p st k
 | .rangeFunc g ps a b,p,_,st,k=>match p with
  | .range ow y f keep=>match rN [] ow st with
   | none=>none
   | some st=>match st.ev g with
    | .func (.func f') caps=>cond (Nat.beq f f')
     (qt {st with H:=(st.H++[.P7])++[.loop y (KS keep st.t)],df:=(zH,[.tG st.H.length])::st.df} none f (.tG (st.H.length+1)::caps) (jc (fun st'=>match st'.H[st.H.length+1]? with
      | some (.loop _ _)=>k .normal {st' with H:=st'.H.set (st.H.length+1) .gone,d:=(st.H.length+1)::st'.d}
      | _=>none) fun _ _=>none) X.Γ) none
    | _=>none
  | _=>none
 | c,p,_,st,k=>runT X F c p st k
def Ga(E:TEnv)(P:aE):Code->cZ->Prop
 | .seq a b,.IV _ p q=>Ga E P a p/\Ga E P b q
 | .block _ a,.ZY p=>Ga E P a p
 | .rangeFunc _ ps a b,.range _ y f _=>E.yd y ⟨ps,a,b⟩/\∀args w,(callFunc f args).run P w=.ok (.enter f args) w
 | _,_=>True
def KT:Code->cZ->J (Nat×FuncId×YD)
 | .seq a b,.IV _ p q=>KT a p++KT b q
 | .block _ a,.ZY p=>KT a p
 | .rangeFunc _ ps a b,.range _ y f _=>[(y,f,⟨ps,a,b⟩)]
 | _,_=>[]
def CV:Code->J Bool->O YD
 | .rangeFunc _ ps a b,_=>some ⟨ps,a,b⟩
 | .seq a _,false::p=>CV a p
 | .seq _ b,true::p=>CV b p
 | .cond _ a _,false::p=>CV a p
 | .cond _ _ b,true::p=>CV b p
 | .block _ a,p=>CV a p
 | .scope a,p=>CV a p
 | .loop a,p=>CV a p
 | _,_=>none
def Tf:Nat->Func->J Bool->YD
 | 0,f,p=>match f.body with
  | some c=>match CV c p with
   | some y=>y
   | none=>⟨#[],.skip,.skip⟩
  | none=>⟨#[],.skip,.skip⟩
 | n+1,f,p=>Tf n f p
def Z8(E:TEnv)(P:aE)(t:Nat×FuncId×YD):Prop:=E.yd t.1 t.2.2/\∀args w,(callFunc t.2.1 args).run P w=.ok (.enter t.2.1 args) w
theorem ak2{P:aE}:∀(c:Code)(p:cZ),(∀t∈KT c p,Z8 E P t)->Ga E P c p:=by
 intro c
 induction c with
 | seq a b DS DT=>
  intro p h;cases p<;>try (simp [Ga];done)
  simp only [KT,wX] at h
  exact⟨DS _ fun t ht=>h t (.inl ht),DT _ fun t ht=>h t (.inr ht)⟩
 | block i a ih=>
  intro p h;cases p<;>try (simp [Ga];done)
  exact ih _ h
 | rangeFunc g ps a b _ _=>
  intro p h;cases p<;>try (simp [Ga];done)
  simp only [KT,MD] at h
  exact h _ rfl
 | _=>simp_all [Ga]
theorem ydC{P:aE}{t:Nat×FuncId×YD}{l:J (Nat×FuncId×YD)}(h:Z8 E P t)(hs:∀t∈l,Z8 E P t):∀t'∈t::l,Z8 E P t':=fun t' ht=>by
 grind
section
variable {X : Cx E} {st : TS E}
theorem aiC{w:U}{G:aJ}{keep:J Nat}{t:J (TV E)}{tmps:aI Value}(hs:tmps.size=t.length)(h:∀j d,t[j]? = some d->VT E w G d (tmps.getD j undef)):bD E w G (KS keep t) tmps.toList:=by
 have key:∀(t:J (TV E))(vs:J Value)(n:Nat),vs.length=t.length->(∀j d,t[j]? = some d->VT E w G d (vs.getD j undef))->bD E w G ((t.zipIdx n).map fun p=>cond (keep.elem p.2) p.1 .any) vs:=by
  intro t
  induction t with
  | nil=>intro vs n hl _;cases vs with|nil=>exact .nil|cons _ _=>cases hl
  | cons d t ih=>
   intro vs n hl h
   cases vs with
   | nil=>cases hl
   | cons v vs=>
    rw [List.zipIdx_cons,lD];refine .cons ?_ (ih vs (n+1) (by simpa using hl) fun j d' hj=>by simpa using h (j+1) d' (by simpa using hj));cases keep.elem n
    ·simp [VT]
    ·simpa using h 0 d rfl
 refine key t tmps.toList 0 (by simpa using hs) fun j d hj=>?_
 simp_all
theorem Rel.amX{w0 w:U}{G0 G:aJ}{a:Act}(hr:Rel E w0 G0 st a w G):Rel E w G st a w G:=
 ⟨kC.refl w G,hr.size,hr.tmps,hr.defers,hr.boxes,fun _ _ _ _=>rfl,hr.SL,hr.gf⟩
theorem Rel.over{w0 w1 w2:U}{G0 G1 G2:aJ}{a1 a2:Act}{jk Hu:TS E}(h1:Rel E w0 G0 jk a1 w1 G1)(h2:Rel E w1 G1 Hu a2 w2 G2)(hd:∀q,q∈jk.d->q∈Hu.d):Rel E w0 G0 Hu a2 w2 G2:=
 ⟨h1.eR.trans h2.eR,h2.size,h2.tmps,h2.defers,h2.boxes,fun q b hq hn=>(h2.fix q b (h1.eR.goes.i q b hq) hn).trans (h1.fix q b hq fun hm=>hn (hd q hm)),h1.pins,h2.gf⟩
theorem aeW(hX:X.Ok){F:Nat}{g:Operand}{ps:Array Tmp}{ca cb:Code}{y f:FuncId}{keep:J Nat}{R:Type}{k:Ex E->TS E->Option R}{r:R}{ow:J Own}(h:runM X F (.rangeFunc g ps ca cb) (.range ow y f keep) st k=some r)
  (hy:Ga E X.P (.rangeFunc g ps ca cb) (.range ow y f keep)):Hy E X.P (.rangeFunc g ps ca cb) st (fun x st'=>k x st'=some r/\Fr [] false st st'):=by
 obtain⟨hyd,hent⟩:=hy;simp only [runM] at h;split at h<;>try trivial
 rename_i lW Tg
 suffices hmain:Hy E X.P (.rangeFunc g ps ca cb) lW (fun x st'=>k x st'=some r/\Fr [] false lW st') by
  intro w0 G0 a w G hr;obtain⟨⟨GA,hrA⟩,hfA⟩:=mW Tg hr;exact wp_mono (hmain w0 G0 a w GA hrA) fun _ _ _ hp=>cu.mono (fun x s' hh=>⟨hh.1,hfA.trans hh.2 (fun _ h=>h) (fun _ h=>h) (fun h=>nomatch h)⟩) hp
 clear Tg;revert h;generalize lW=st;intro h;split at h<;>try trivial
 rename_i f' caps hg;cases hf:Nat.beq f f'<;>rw [hf] at h<;>simp only [bq,aS] at h
 ·cases h
 obtain rfl:=eB hf;intro w0 G0 a w G hr;refine (wpIn_wide (n:=0)).1 (wpIn_rangeFunc fun fn _=>?_);have hv:=hr.ev g;rw [hg] at hv;simp only [VT] at hv;obtain⟨cv,FZ,O6⟩:=hv;have ZB:=hr.Jw (.deferred (some [])) .P7 (heap_alloc_new w _)
 have zR:ic (w.alloc (.deferred (some []))) {G with i:=G.i++[w.heap.size]} ((w.alloc (.deferred (some []))).alloc (.loop ⟨.ready,none,fn,a.tmps,ps,ca,cb,w.heap.size⟩)) {G with i:=G.i++[w.heap.size]}:=
  ⟨fun _ _ h=>h,fun b o v hp hv=>(OM ((eS.alloc _ _).2 b (ZB.boxes.ga b o hp).1)).trans hv,fun _ _ h=>h,fun j x h hj=>⟨x,h,hj,eo _,fun _=>rfl⟩⟩
 have aor:bD E ((w.alloc (.deferred (some []))).alloc (.loop ⟨.ready,none,fn,a.tmps,ps,ca,cb,w.heap.size⟩)) {G with i:=G.i++[w.heap.size]} (KS keep st.t) a.tmps.toList:=
  aiC hr.size fun j d hj=>(ZB.tmps j d hj).mono zR
 have hn2:=ZB.Jw (.loop ⟨.ready,none,fn,a.tmps,ps,ca,cb,w.heap.size⟩) (.loop y (KS keep st.t)) ⟨⟨ps,ca,cb⟩,fn,a.tmps,w.heap.size,hyd,heap_alloc_new _ _,aor⟩;have hlen:=hr.boxes.len;obtain⟨G2,hG2⟩:∃G2:aJ,{G with i:=(G.i++[w.heap.size])++[(w.alloc (.deferred (some []))).heap.size]} = G2:=⟨_,rfl⟩;obtain⟨W1,hW1⟩:∃W1,(w.alloc (.deferred (some []))).alloc (.loop ⟨.ready,none,fn,a.tmps,ps,ca,cb,w.heap.size⟩)=W1:=⟨_,rfl⟩;have hn2:Rel E w0 G0 {st with H:=(st.H++[.P7])++[.loop y (KS keep st.t)]} a W1 G2:=by simp_all
 have hi0:G2.i[st.H.length]? = some w.heap.size:=by
  grind
 have hi1:G2.i[st.H.length+1]? = some (w.heap.size+1):=by
  rw [<-hG2]
  simp_all
 have hn3:Rel E w0 G0 {st with H:=(st.H++[.P7])++[.loop y (KS keep st.t)],df:=(zH,[.tG st.H.length])::st.df} {a with defers:={target:=.collected w.heap.size,args:=#[]} :: a.defers} W1 G2:=
  ⟨hn2.eR,hn2.size,hn2.tmps,⟨.inr ⟨rfl,w.heap.size,rfl,.cons (by simp_all [VT]) .nil⟩,hn2.defers⟩,hn2.boxes,hn2.fix,hn2.pins,hn2.gf⟩
 have hargs:bD E W1 G2 (.tG (st.H.length+1)::caps) ((#[.func (.yield (w.heap.size+1)) #[] #[]]:Array Value)++cv).toList:=by
  have qh:=hn3.ev g;have e1:TS.ev {st with H:=(st.H++[.P7])++[.loop y (KS keep st.t)],df:=(zH,[.tG st.H.length])::st.df} g=.func (.func f) caps:=hg;rw [e1] at qh;simp only [VT] at qh;obtain⟨cv2,amY,amZ⟩:=qh;have e2:Act.eval {a with defers:={target:=.collected w.heap.size,args:=#[]} :: a.defers} g=a.eval g:=rfl;rw [e2,FZ] at amY;cases amY;have:((#[.func (.yield (w.heap.size+1)) #[] #[]]:Array Value)++cv).toList=.func (.yield (w.heap.size+1)) #[] #[]::cv.toList:=by simp
  rw [this];exact .cons (by simp_all [VT]) amZ
 have hI:=CU hX.E (U8.mono X.P) (fun C hC=>(hX.Γ C hC).gok) h _ _ _ _ _ _ hn3.amX hargs;unfold U8 jR at hI;rw [hent] at hI;have hC:=hI;refine⟨w.heap.size+1,[{target:=.collected w.heap.size,args:=#[]}],W1,{target:=.fn (.func f) cv,args:=#[.func (.yield (w.heap.size+1)) #[] #[]]},W1,f,#[.func (.yield (w.heap.size+1)) #[] #[]]++cv,W1,(by simp_all [run_enterLoop_outer]),?_,fun _ _=>trivial,?_,(fun h=>nomatch h),(callsIn_wide (n:=0)).2 (FA hC fun e w3 he=>?_)⟩
 ·simp only [resolve,FZ]
  simp [go_sem]
 ·simp [invoke,go_sem,hent]
 rcases he with⟨v,st',G',rfl,hR,hk,hF⟩|⟨x,st',hne,hk⟩
 rotate_left
 ·grind
 simp only [jc] at hk;split at hk<;>try trivial
 rename_i y' ds' aos;have hat:G'.i[st.H.length+1]? = some (w.heap.size+1):=hR.eR.goes.i _ _ hi1;obtain⟨Y',fn',tmps',D',Z0,hheap,-⟩:=hR.box hat aos;have hlt:w.heap.size+1<w3.heap.size:=(za.1 hheap).1
 have hS:=hR.xC (w':=w3.putObj (w.heap.size+1) (.loop ⟨.exhausted,none,fn',tmps',Y'.params,Y'.assign,Y'.body,D'⟩)) hat si rfl rfl rfl (fun b' hb=>Ix hb) (x:=.gone)
  (fun _=>⟨_,OL hlt,fun cs t m e=>by cases e⟩)
 obtain⟨D2,hD2,hH2⟩:=hF.d
 have hO:=Rel.over hn3 hS (fun q hq=>by
  grind)
 refine⟨none,_,run_endLoop hheap (fun e=>nomatch e),?_⟩;refine⟨.normal,_,G',trivial,hO,hk,?_⟩;refine⟨hF.len,fun i hi=>hF.keep i (fun h=>by cases h),⟨(st.H.length+1)::D2,by grind,fun q hq hd=>?_⟩,?_,fun h=>nomatch h⟩
 ·grind
 grind
theorem aeX(hX:X.Ok){F:Nat}:∀(c:Code)(p:cZ){R:Type}{st:TS E}{k:Ex E->TS E->Option R}{r:R},runM X F c p st k=some r->Ga E X.P c p->Hy E X.P c st (fun x st'=>k x st'=some r/\Fr (wr c) false st st'):=by
 have base:∀(c:Code)(p:cZ){R:Type}{st:TS E}{k:Ex E->TS E->Option R}{r:R},runT X F c p st k=some r->Hy E X.P c st (fun x st'=>k x st'=some r/\Fr (wr c) false st st'):=
  fun c p R st k r h w0 G0 a w G hr=>wp_mono ((tc hX c p h).wp hr) fun _ _ _ hp=>cu.mono (fun x s hh=>⟨hh.1,hh.2.wide (fun _ h=>h) (fun h=>nomatch h)⟩) hp
 intro c
 induction c with
 | seq a b DS DT=>
  intro p R st k r h hy
  cases p with
  | IV ow p q=>
   simp [runM] at h;split at h<;>try trivial
   rename_i lW Tg;intro w0 G0 ac w G hr;obtain⟨⟨GA,hrA⟩,hfA⟩:=mW Tg hr;refine wp_mono (Q:=cu E w0 G0 (fun x st'=>k x st'=some r/\Fr (wr (.seq a b)) false lW st')) ?_ fun _ _ _ hp=>cu.mono (fun x s' hh=>⟨hh.1,hfA.trans hh.2 (fun _ h=>h) (fun _ h=>h) (fun h=>nomatch h)⟩) hp;revert GA h;generalize lW=st;intro h G hr;refine wp_seq (wp_mono (DS p h hy.1 w0 G0 ac w G hr) fun e a' w' hp=>?_);obtain⟨x,s,G',he,hr',hq,hf⟩:=hp
   cases x with
   | normal=>
    cases e<;>try (exact he.elim)
    exact wp_mono (DT q hq hy.2 w0 G0 a' w' G' hr') fun _ _ _ hp=>cu.mono (fun x s' hh=>⟨hh.1,hf.trans hh.2 (fun i hi=>by simp [wr,hi]) (fun i hi=>by simp [wr,hi]) (fun h=>nomatch h)⟩) hp
   | _=>
    have qq:cu E w0 G0 (fun x st'=>k x st'=some r/\Fr (wr (.seq a b)) false st st') e a' w':=⟨_,s,G',he,hr',hq,hf.wide (fun i hi=>by simp [wr,hi]) (fun h=>h)⟩
    cases e<;>first|exact he.elim|exact qq
  | _=>grind [runM]
 | block i a ih=>
  intro p R st k r h hy
  cases p with
  | ZY p=>
   intro w0 G0 ac w G hr;refine wp_block (wp_mono (ih p h hy w0 G0 ac w G hr) fun e a' w' hp=>?_);obtain⟨x,s,G',he,hr',hq,hf⟩:=hp
   cases x with
   | exit j=>
    cases e<;>try (exact he.elim)
    rename_i i';subst he;simp [Ta] at hq;simp [Exit.inBlock];cases hb:Nat.beq i' i<;>rw [hb] at hq<;>simp at hq
    ·have:i'≠i:=fun e=>by simp_all
     rw [if_neg this];exact⟨.exit i',s,G',rfl,hr',hq,hf⟩
    ·rw [if_pos (eB hb)]
     exact⟨.normal,s,G',trivial,hr',hq,hf⟩
   | _=>
    have qq:cu E w0 G0 (fun x st'=>k x st'=some r/\Fr (wr (.block i a)) false st st') e a' w':=⟨_,s,G',he,hr',hq,hf⟩
    cases e<;>first|exact he.elim|exact qq
  | _=>grind [runM]
 | rangeFunc g ps a b _ _=>
  intro p R st k r h hy
  cases p with
  | range ow y f keep=>exact aeW hX h hy
  | _=>simp_all [runM]
 | _=>grind [runM]
def Pd{R:Type}(k:TS E->Option R):J (FuncId×J (TV E))->TS E->Option R
 | [],st=>k {st with df:=[]}
 | (f,[.tG q])::df,st=>cond (Nat.beq f zH) (match st.H[q]? with
   | some .P7=>Pd k df {st with H:=st.H.set q .gone,d:=q::st.d}
   | _=>none) none
 | _,_=>none
def am0(X:Cx E)(s:cL)(fn:Func)(bJ:TS E):(p:O Outs)->Ex E->TS E->O (OutP E s.out p)
 | none,.ret,st=>Pd (fun st=>(pz X st fn.results.toList).bind fun ds=>s.out.get bJ st (p8 ds)) st.df st
 | none,.normal,st=>Pd (fun st=>(pz X st fn.results.toList).bind fun ds=>s.out.get bJ st (p8 ds)) st.df st
 | _,_,_=>none
noncomputable def aeY(X:Cx E)(F:Nat)(s:cL)(fn:Func)(pl:cZ)(x:dens E s.tys):O (OutP E s.out s.kZ):=
 match fn.body with
 | some c=>runM X F c pl (s.bJ fn.ntmps (aP s.tys x)) (am0 X s fn (s.bJ fn.ntmps (aP s.tys x)) s.kZ)
 | none=>none
theorem Qg{P:Program}{fn:Func}{R:Type}{k:TS E->Option R}{r:R}{w0:World}{G0:aJ}{tmps:Array Value}{RR:Ending->World->Prop}:∀(df:J (FuncId×J (TV E)))(st:TS E)(ds:J Deferred)(w:World)(G:aJ),Pd k df st=some r ->
  Rel E w0 G0 {st with df:=df} {tmps:=tmps,defers:=ds} w G ->
  (∀(st':TS E)(w':World)(G':aJ),k {st' with df:=[]} = some r->Rel E w0 G0 {st' with df:=[]} {tmps:=tmps,defers:=[]} w' G'->Fr [] false st st'->∃v,(results fn tmps).run P w'=.ok v w'/\RR (.returned v) w') ->
  LeavesInM Fence.wide 0 P fn tmps RR ds .returning w
 | [],st,ds,w,G,h,hr,hk=>by
  have:ds=[]:=by
   have:=hr.defers
   cases ds with
   | nil=>rfl
   | cons _ _=>exact this.elim
  subst this
  exact hk st w G h hr (Fr.refl _ _ _)
 | (f,dv)::df,st,ds,w,G,h,hr,hk=>by
  cases ds with
  | nil=>exact hr.defers.elim
  | cons d0 ds=>
  obtain⟨hd,ff⟩:=hr.defers
  obtain⟨q,hdv,h'⟩:∃q,dv=[.tG q]/\cond (Nat.beq f zH) (match st.H[q]? with
   | some .P7=>Pd k df {st with H:=st.H.set q .gone,d:=q::st.d}
   | _=>none) none=some r:=by
   cases dv with
   | nil=>cases h
   | cons z zs=>
    cases zs with
    | cons _ _=>cases z<;>cases h
    | nil=>cases z<;>first|(cases h;done)|exact⟨_,rfl,h⟩
  subst hdv;cases hc:Nat.beq f zH<;>rw [hc] at h'<;>simp only [bq,aS] at h'
  ·cases h'
  split at h'<;>try (cases h';done)
  rename_i hq
  obtain⟨-,b,rfl,hv⟩:=hd.resolve_left (fun hh=>by
   simp_all)
  obtain⟨u,us,he,h1,-⟩:=hv.cons_inv;cases he;obtain⟨b',he,hat⟩:=h1;cases he;have M8:=hr.box hat hq;have hlt:=(za.1 M8).1;have hS:=hr.xC (w':=w.putObj b (.deferred none)) hat si rfl rfl rfl (fun b' hb=>Ix hb) (x:=.gone) (fun _=>⟨_,OL hlt,fun cs t m e=>by cases e⟩);refine⟨(fun e=>nomatch e),.inl ⟨b,_,rfl,run_takeDeferred M8,?_⟩⟩;refine Qg df {st with H:=st.H.set q .gone,d:=q::st.d} ds _ G h' ⟨hS.eR,hS.size,hS.tmps,hS.defers.2,hS.boxes,hS.fix,hS.pins,hS.gf⟩ fun st' w' G' h1 h2 h3=>hk st' w' G' h1 h2 ?_;have f1:Fr [] false st {st with H:=st.H.set q .gone,d:=q::st.d}:=⟨rfl,fun _ _=>rfl,⟨[q],rfl,fun j hj hd=>My (fun e=>hd (by simp [e]))⟩,si,fun h=>nomatch h⟩;exact f1.trans h3 (fun _ h=>h) (fun _ h=>h) (fun h=>nomatch h)
theorem abU(hX:X.Ok){F:Nat}{s:cL}{fn:Func}{pl:cZ}{x:dens E s.tys}{y:OutP E s.out s.kZ}(hf:X.P.funcs[s.f]? = some fn)(hn:(fn.name == "runtime.NumGoroutine")=false)(hy:∀c,fn.body=some c->Ga E X.P c pl)(h:aeY X F s fn pl x=some y):
  kV X.P s.f (s.ds (aP s.tys x)) (s.H (aP s.tys x)) s.g0 (s.c (aP s.tys x)) (jS s (s.H (aP s.tys x)) s.kZ y):=by
 unfold aeY at h;split at h<;>try trivial
 rename_i c hb;intro w G args hP hB hS hV;have FJ:=Rel.init (n:=fn.ntmps) hP hB hS hV;have hpre:=FJ.pre;refine sP hf hb hn ((callsIn_wide).1 (callsIn_of_wp_marks hf hb trivial ((wpIn_wide (n:=0)).2 (wp_mono (aeX hX c pl h (hy c hb) w G _ w G FJ) fun e a' w' hp=>?_))));obtain⟨ex,st,G',he,hr,hk,hF⟩:=hp
 have fin:∀(p:Option Outs)(y:OutP E s.out p),am0 X s fn (s.bJ fn.ntmps (aP s.tys x)) p ex st=some y->(ex=.ret\/ex=.normal)/\LeavesInM Fence.wide 0 X.P fn a'.tmps (yg E w G (jS s (s.H (aP s.tys x)) p y)) a'.defers .returning w':=by
  intro p y hk
  cases p with
  | some q=>cases ex<;>cases hk
  | none=>
   have main:Pd (fun st=>(pz X st fn.results.toList).bind fun ds=>s.out.get (s.bJ fn.ntmps (aP s.tys x)) st (p8 ds)) st.df st=some y->LeavesInM Fence.wide 0 X.P fn a'.tmps (yg E w G (jS s (s.H (aP s.tys x)) none y)) a'.defers .returning w':=fun hk=>
    Qg st.df st a'.defers w' G' hk hr fun st' w2 G2 h1 h2 h3=>by
     have hF3:Fr (wr c) false (s.bJ fn.ntmps (aP s.tys x)) st':=hF.trans h3 (fun _ h=>h) (fun _ h=>by cases h) (fun h=>nomatch h)
     cases hds:pz X {st' with df:=[]} fn.results.toList with
     | none=>rw [hds] at h1;cases h1
     | some ds=>
      rw [hds] at h1;obtain⟨v,hv,hrun⟩:=zi hX h2 hds;have hF4:Fr (wr c) false (s.bJ fn.ntmps (aP s.tys x)) {st' with df:=[]}:=⟨hF3.len,hF3.keep,hF3.d,hF3.hl,fun h=>nomatch h⟩;obtain⟨G3,q1,q2,q3,q4,q5⟩:=Outs.F9 hX.E (st:={st' with df:=[]}) hpre rfl rfl h2 hF4 hv h1;exact⟨v,hrun,v,G3,rfl,q1,q2,q3,q4,q5⟩
   cases ex<;>try trivial
   ·exact⟨.inr rfl,main hk⟩
   ·exact⟨.inl rfl,main hk⟩
 obtain⟨hex,hl⟩:=fin s.kZ y hk;rcases hex with rfl|rfl<;>cases e<;>first|exact he.elim|exact hl
theorem bB.am1(hX:X.Ok){C:bB E}{F:Nat}{fn:Func}{pl:cZ}(hf:X.P.funcs[C.s.f]? = some fn)(hn:(fn.name == "runtime.NumGoroutine")=false){c:Code}(hc:fn.body=some c){l:J (Nat×FuncId×YD)}(hl:KT c pl=l)(hy:∀t∈l,Z8 E X.P t)
  (h:∀x,aeY X F C.s fn pl x=C.m x):C.Ok X.P:=
 fun x y hyy=>abU hX hf hn (fun c' sD=>by rw [hc] at sD;cases sD;exact ak2 c pl (by rw [hl];exact hy)) (by rw [h x];exact hyy)
end
end Go.RT
namespace Go.RT
variable {E : TEnv}
def aB(n:Int):Int:=IntKind.wrap .i64 n
def sl{α:Type}(l:J α)(p q:Int):J α:=(l.take q.toNat).drop p.toNat
def cK{α:Type}[BEq α](a b:α):Bool:=a==b
theorem bB.Yi{X:Cx E}(hX:X.Ok){C:bB E}{F:Nat}{fn:Func}{pl:cZ}(hf:X.P.funcs[C.s.f]? = some fn)(hn:(fn.name == "runtime.NumGoroutine")=false)(h:∀x,Z4 X F C.s fn pl x=C.m x):C.Ok X.P:=
 fun x y hy=>aeV hX hf hn (by rw [h x];exact hy)
theorem gU{P:Program}:∀C∈([]:J (bB E)),C.Ok P:=fun _ h=>nomatch h
theorem bM{P:aE}{C:bB E}{Γ:J (bB E)}(h:C.Ok P)(hs:∀C∈Γ,C.Ok P):∀C'∈C::Γ,C'.Ok P:=fun C' hC=>by
 rcases iq.1 hC with rfl|hC
 ·exact h
 ·exact hs C' hC
def tyS(l:J Nat)(ty:aD->O Ty):aD->O Ty:=fun t=>cond (Nat.ble 2000000 t) (cond (l.elem (t-2000000)) (some .bool) none) (ty t)
end Go.RT
namespace Go.RT
variable {E : TEnv}
def ibF(F:Nat)(s:J UInt8)(c:Int):O Int:=some (Lib.indexByte s c.toNat.toUInt8)
def ibS(f:FuncId):cL:=⟨f,[.one (.dat .str),.one (.dat (.int .u8))],[],[],⟨.one (.dat (.int .i64)),[],[],[]⟩,none,[]⟩
def ibC(E:TEnv)(f:FuncId)(F:Nat):bB E:=⟨ibS f,fun (x:J UInt8×Int)=>ibF F x.1 x.2⟩
theorem anJ{P:aE}{f:FuncId}(h:∀args w,(callFunc f args).run P w=((Extern.BytealgIndexByte.indexByte args).run P w).andThen fun v w'=>.ok (.value v) w')(F:Nat):(ibC E f F).Ok P:=by
 have key:∀(s:J UInt8)(c:Int),kV (E:=E) P f [.dat .str s,.dat (.int .u8) c] [] [] [] ⟨true,.dat (.int .i64) (Lib.indexByte s c.toNat.toUInt8),[],[],[],[]⟩:=by
  intro s c w G args hP hB hS hv;obtain⟨u,us,he,h1,h2⟩:=hv.cons_inv;obtain⟨u2,RU,VX,h3,h4⟩:=h2.cons_inv;have h4:RU=[]:=by simpa only [bD] using h4
  have e1:=h1.gP;have e2:=h3.fJ;subst e1 e2 h4 VX;have ha:args=#[mkStr s,.int .u8 c]:=by apply RM;exact he
  subst ha
  have hrun:(callFunc f #[mkStr s,.int .u8 c]).run P w=.ok (.value (.int .i64 (Lib.indexByte s c.toNat.toUInt8))) w:=by
   rw [h,mkStr,Lib.run_indexByteString];rfl
  unfold jR;rw [hrun];exact⟨.int .i64 (Lib.indexByte s c.toNat.toUInt8),G,rfl,kC.refl w G,hB,hS,.int _ _ _ _,fun _ _ _ _=>rfl⟩
 intro x y hy;obtain⟨s,c⟩:=x;have hy:some (Lib.indexByte s (Int.toNat c).toUInt8)=some y:=hy;cases hy;exact key s c
def neF(F:Nat):O Unit:=some ()
def neS(f:FuncId)(b:BT)(rows:J (aD×Nat)):cL:=⟨f,[.one (.ptr 0 0)],[b],rows,⟨.one (.ptr 0 0),[none],rows.map fun _=>none,[]⟩,none,[]⟩
def neC(E:TEnv)(f:FuncId)(b:BT)(rows:J (aD×Nat)):bB E:=⟨neS f b rows,fun _=>some ()⟩
theorem NP:∀(rows:J (aD×Nat))(g:J bQ),g.length=rows.length->dN (rows.map fun _=>none) g=g
 | [],[],_=>rfl
 | _::rows,x::g,h=>by
  have:=NP rows g (by simpa using h);simp only [lD,dN,this]
theorem aot{P:aE}{f:FuncId}{b:BT}{rows:J (aD×Nat)}(h:∀v w,(callFunc f #[v]).run P w=.ok (.value v) w):(neC E f b rows).Ok P:=by
 intro x y _;intro w G args hP hB hS hv;have hv:bD E w G [.ptr 0 0] args.toList:=hv;obtain⟨u,us,he,h1,h2⟩:=hv.cons_inv;have h2:us=[]:=by simpa only [bD] using h2
 subst h2;have ha:args=#[u]:=by apply RM;exact he
 subst ha;show jR P f #[u] w _;unfold jR;rw [h];refine⟨u,G,rfl,kC.refl w G,?_,hS,h1,fun _ _ _ _=>rfl⟩;have e:dN (rows.map fun _=>none) (neS f b rows).g0=(neS f b rows).g0:=NP rows _ (by simp [cL.g0,neS]);show lu E w G _ (dN (rows.map fun _=>none) (neS f b rows).g0);rw [e];exact hB
end Go.RT
namespace Go.RT
variable {E : TEnv}
section
variable {st : TS E}
def Th(P:aE):Inv:=fun f args w R=>(∀args w,(callFunc f args).run P w=.ok (.enter f args) w)/\∀u,CallsD P f args u w (fun e u' w'=>u'=u/\R e w')
def agH(u:FrameMode)(v:Value):Prop:=(u=.returning/\v=.nilIface)\/u=.panicking [{v:=v,recovered:=false}]
def CW(P:aE):Inv:=fun f aj8 w R=>(∀args w,(callFunc f args).run P w=.ok (.enter f args) w) /\
 ∀(v:Value)(args:aI Value)(u:FrameMode),aj8.toList=v::args.toList->agH u v->CallsD P f args u w (fun e u' w'=>settle u'=.returning/\R e w')
theorem Th.mono(P:aE):(Th P).ZM:=fun f args w R R' h hi=>⟨hi.1,fun u=>(hi.2 u).mono fun e u' w' hh=>⟨hh.1,h _ _ hh.2⟩⟩
theorem CW.mono(P:aE):(CW P).ZM:=fun f args w R R' h hi=>⟨hi.1,fun v args u h1 h2=>(hi.2 v args u h1 h2).mono fun e u' w' hh=>⟨hh.1,h _ _ hh.2⟩⟩
structure Dx(E:TEnv) where
 o:List (bB E)
 r:List (bB E)
structure Dx.Ok(P:Program)(D:Dx E):Prop where
 o:∀C∈D.o,C.F5 (Th P)
 r:∀C∈D.r,C.F5 (CW P)
def me:O (TV E)->J (FuncId×J (TV E))
 | none=>[]
 | some d=>[(0,[d])]
def aiD:O (TV E)->TV E
 | none=>.val .nilIface
 | some d=>d
def CX{R:Type}(D:Dx E)(k:O (TV E)->TS E->O R):J (FuncId×J (TV E))->O (TV E)->TS E->O R
 | [],m,st=>k m {st with df:=[]}
 | (f,ds)::df,m,st=>cond (Nat.beq f zH) none <| cond (D.r.any fun C=>Nat.beq C.s.f f)
   (qt {st with df:=df} none f (aiD m::ds) (jc (fun st'=>CX D k df none st') fun _ _=>none) D.r)
   (qt {st with df:=df++me m} none f ds (jc (fun st'=>CX D k df m st') fun _ _=>none) D.o)
inductive Pe:Option (TV E)->List Deferred->FrameMode->Prop
 | ret:Pe none [] .returning
 | kZ (d:TV E) (v:Value):Pe (some d) [{target:=.fn (.func 0) #[],args:=#[v]}] (.panicking [{v:=v,recovered:=false}])
theorem jQ.app{w:U}{G:aJ}:∀ {a b:J Deferred}{x y:J (FuncId×J (TV E))},a.length=x.length->jQ E w G (a++b) (x++y)->jQ E w G a x/\jQ E w G b y
 | [],b,[],y,_,h=>⟨trivial,h⟩
 | d::a,b,z::x,y,hl,h=>by
  obtain⟨h1,h2⟩:=h;obtain⟨h3,h4⟩:=jQ.app (by simpa using hl) h2;exact⟨⟨h1,h3⟩,h4⟩
theorem jQ.len{w:U}{G:aJ}:∀ {a:J Deferred}{x:J (FuncId×J (TV E))},jQ E w G a x->a.length=x.length
 | [],[],_=>rfl
 | _::a,_::x,h=>by simp [jQ.len h.2]
 | [],_::_,h=>h.elim
 | _::_,[],h=>h.elim
theorem Fr.aeZ(st:TS E)(y:J (FuncId×J (TV E)))(W:J Nat):Fr W false st {st with df:=y}:=⟨rfl,fun _ _=>rfl,⟨[],rfl,fun _ _ _=>rfl⟩,eo _,fun h=>nomatch h⟩
theorem Rel.Ti{w0 w:U}{G0 G:aJ}{a:Act}{y:J (FuncId×J (TV E))}{ds:J Deferred}(h:Rel E w0 G0 st a w G)(hd:jQ E w G ds y):Rel E w0 G0 {st with df:=y} {a with defers:=ds} w G:=
 ⟨h.eR,h.size,h.tmps,hd,h.boxes,h.fix,h.pins,h.gf⟩
theorem Gb(hE:E.Ok){P:Program}{fn:Func}{D:Dx E}(hD:D.Ok P){R:Type}{k:Option (TV E)->TS E->Option R}{r:R}{w0:World}{G0:aJ}{tmps:Array Value}{RR:Ending->World->Prop}:
  ∀(df:J (FuncId×J (TV E)))(m:Option (TV E))(st:TS E)(ds mv:J Deferred)(u:FrameMode)(w:World)(G:aJ),CX D k df m st=some r->ds.length=df.length ->
   Rel E w0 G0 {st with df:=df++me m} {tmps:=tmps,defers:=ds++mv} w G->Pe m mv u ->
   (∀(m':Option (TV E))(st':TS E)(Z9:J Deferred)(u':FrameMode)(w':World)(G':aJ),k m' {st' with df:=[]} = some r->Rel E w0 G0 {st' with df:=me m'} {tmps:=tmps,defers:=Z9} w' G'->Pe m' Z9 u'->Fr [] false st st'->Leaves P fn tmps RR [] u' w') ->
   Leaves P fn tmps RR ds u w
 | [],m,st,ds,mv,u,w,G,h,hl,hr,hm,hk=>by
  have:ds=[]:=by simp_all
  subst this
  exact hk m st mv u w G h hr hm (Fr.refl _ _ _)
 | (f,dv)::df,m,st,ds,mv,u,w,G,h,hl,hr,hm,hk=>by
  cases ds with
  | nil=>cases hl
  | cons d0 ds=>
  have hl':ds.length=df.length:=by simpa using hl
  have gW:=hr.defers;obtain⟨hdo,am2⟩:=gW;simp [CX] at h;cases aeE:Nat.beq f zH<;>rw [aeE] at h<;>simp only [bq,aS] at h
  rotate_left
  ·cases h
  obtain⟨-,cap,aiE,hargs⟩:=hdo.resolve_right (fun hh=>by
   simp_all)
  have hu:u≠.run:=by cases hm<;>(intro e;cases e)
  have hinv:(∀args w,(callFunc f args).run P w=.ok (.enter f args) w)->(invoke d0.target d0.args).run P w=.ok (.enter f (d0.args++cap)) w:=fun he=>by
   rw [aiE];have:=he (d0.args++cap) w;simpa [invoke] using this
  cases hc:(D.r.any fun C=>Nat.beq C.s.f f)<;>rw [hc] at h<;>simp at h
  ·have eM:=hr.Ti am2
   have hI:=CU hE (Th.mono P) hD.o h w0 G0 _ w G (d0.args++cap) eM hargs;refine⟨hu,.func f,cap,f,d0.args++cap,aiE,hinv hI.1,(hI.2 u).mono fun e u' w' hh=>?_⟩;obtain⟨rfl,hh⟩:=hh;rcases hh with⟨v,st',G',rfl,hR,hkk,hF⟩|⟨x,st',hne,hkk⟩
   ·have mc:settle u'=u':=by cases hm<;>rfl
    show Leaves P fn tmps RR ds (settle u') w';rw [mc];have hdf:st'.df=df++me m:=hF.df rfl;have hR':Rel E w0 G0 {st' with df:=df++me m} {tmps:=tmps,defers:=ds++mv} w' G':=by rw [<-hdf];exact hR
    refine Gb hE hD df m st' ds mv u' w' G' hkk hl' hR' hm fun m' Hu Z9 u2 w2 G2 h1 h2 h3 qS=>hk m' Hu Z9 u2 w2 G2 h1 h2 h3 ?_;exact ((Fr.aeZ st (df++me m) []).trans hF (n:=false) (fun _ h=>h) (fun _ h=>h) (fun h=>nomatch h)).trans qS (fun _ h=>h) (fun _ h=>h) (fun h=>nomatch h)
   grind
  ·obtain⟨Wr,Ws⟩:=jQ.app hl' am2
   have eM:=hr.Ti Wr
   have hv:∃v,agH u v/\VT E w G (aiD m) v:=by
    cases hm with
    | ret=>exact⟨.nilIface,.inl ⟨rfl,rfl⟩,by simp [aiD,VT]⟩
    | kZ d v=>
     refine⟨v,.inr rfl,?_⟩;obtain⟨aiF,-⟩:=Ws;obtain⟨-,cap',ht',iZ⟩:=aiF.resolve_right (fun hh=>absurd (show (0:Nat)=zH from hh.1) de);obtain⟨u1,us,he,h1,-⟩:=iZ.cons_inv;simp at he;obtain⟨rfl,-⟩:=he;exact h1
   obtain⟨v,hmo,hvt⟩:=hv
   have hI:=CU hE (CW.mono P) hD.r h w0 G0 _ w G (#[v]++(d0.args++cap)) eM (by
    have:(#[v]++(d0.args++cap)).toList=v::(d0.args++cap).toList:=by simp
    rw [this];exact .cons hvt hargs)
   refine⟨hu,.func f,cap,f,d0.args++cap,aiE,hinv hI.1,(hI.2 v (d0.args++cap) u si hmo).mono fun e u' w' hh=>?_⟩;obtain⟨mc,hh⟩:=hh;rcases hh with⟨v,st',G',rfl,hR,hkk,hF⟩|⟨x,st',hne,hkk⟩
   ·show Leaves P fn tmps RR ds (settle u') w'
    rw [mc];have hdf:st'.df=df:=hF.df rfl
    have hR':Rel E w0 G0 {st' with df:=df++me none} {tmps:=tmps,defers:=ds++[]} w' G':=by
     simp [me];rw [<-hdf];exact hR
    refine Gb hE hD df none st' ds [] .returning w' G' hkk hl' hR' .ret fun m' Hu Z9 u2 w2 G2 h1 h2 h3 qS=>hk m' Hu Z9 u2 w2 G2 h1 h2 h3 ?_;exact ((Fr.aeZ st df []).trans hF (n:=false) (fun _ h=>h) (fun _ h=>h) (fun h=>nomatch h)).trans qS (fun _ h=>h) (fun _ h=>h) (fun h=>nomatch h)
   grind
end
end Go.RT
