import Derived.Test.YtkeibjejncpgnaaGreatDoorRf
import Derived.Sort.Row
import Derived.OrdersHeld
import Derived.Lib.ConvBytes
import Derived.Scope
import Derived.Lib.Bytealg
import Derived.Recover
set_option linter.all false
namespace Go.RT
variable {E : TEnv}
def ua (E:TEnv) (w:World) (G:au) (r:Zj E) (e:Ending) (w':World):Prop :=
 ∃v G',e=ql r.ok v∧gU w G w' G'∧iq E w' G' r.H r.g∧gD E w' G' r.c∧VT E w' G' r.d v∧∀(q b:Nat),G.i[q]? = some b→q∉r.D→w'.heap[b]? = w.heap[b]?
def Inv:=FuncId→Array Value→World→(Ending→World→Prop)→Prop
def Inv.Zw (I:Inv):Prop:=∀f args w (R R':Ending→World→Prop),(∀e w',R e w'→R' e w')→I f args w R→I f args w R'
def AGC (E:TEnv) (I:Inv) (f:FuncId) (ds:List (TV E)) (H:List (cV E)) (gs:List aZ) (cs:List (Nat × Cn E)) (r:Zj E):Prop :=
 ∀(w:World) (G:au) (args:Array Value),kK E w G→iq E w G H gs→gD E w G cs→aP E w G ds args.toList→I f args w (ua E w G r)
def an.BR (I:Inv) (C:an E):Prop :=
 ∀x y,C.m x=some y→AGC E I C.s.f (C.s.ds (az C.s.tys x)) (C.s.H (az C.s.tys x)) C.s.g0 (C.s.c (az C.s.tys x)) (fG C.s (C.s.H (az C.s.tys x)) C.s.gw y)
section
variable {st : TS E}
theorem za (hE:E.Ok) {I:Inv} (hI:I.Zw) {R:Type} {f:FuncId} {ds:List (TV E)} {dst:Option Nat} {k:Ex E→TS E→Option R} {r:R} :
  ∀ {Γ:List (an E)},(∀C∈Γ,C.BR I)→lZ st dst f ds k Γ=some r→∀(w0:World) (G0:au) (a:Act) (w:World) (G:au) (args:Array Value),Rel E w0 G0 st a w G→aP E w G ds args.toList →
   I f args w (fun e w'=>(∃v st' G',e=.returned v∧Rel E w0 G0 st' (a.put dst v) w' G'∧k .normal st'=some r∧Fr (eH dst) true st st')∨∃x st',x≠.normal∧k x st'=some r)
 | [],_,h=>by cases h
 | C::Γ,hΓ,h=>by
  have cX:lZ st dst f ds k Γ=some r→_:=za hE hI (fun C' hC=>hΓ C' (by simp [hC]));simp only [lZ] at h;cases hf:Nat.beq C.s.f f<;>rw [hf] at h<;>simp only [cond_true,cond_false] at h
  ·exact cX h
  have hf:=bt hf;obtain⟨Qb,fM,hhs⟩:∃Qb fM,qU C.s.args ds st=(Qb,fM):=⟨_,_,rfl⟩;rw [hhs] at h;dsimp only at h;split at h
  ·rename_i ls hls
   split at h
   ·rename_i xx hxx
    generalize nI:lR (C.s.fA fM Qb).b=bs at *;generalize M8:lR (C.s.fA fM Qb).g=gs at *;obtain⟨hwf,h⟩:=b9 h
    cases hm:C.m xx with
    | none=>rw [hm] at h;cases h
    | some y =>
     rw [hm] at h;dsimp only [Option.bind] at h;intro w0 G0 a w G0' args hr J9;obtain⟨LO,G,cJ,ou,hvs⟩:=J6 C.s.args ds hr;have hargs:=hvs _ J9;rw [hhs] at cJ hargs LO;clear hr;have hr:=cJ
     have hnd:bs.Nodup∧gs.Nodup∧bs.length=C.s.boxes.length∧C.s.rows.length=gs.length:=by
      unfold bL.enter at hls;split at hls<;>try (cases hls;done)
      rename_i H g hH hg;cases fJ:(qS bs&&(qS gs&&(Nat.beq bs.length C.s.boxes.length&&uw C.s.rows g)))<;>rw [fJ] at hls<;>simp only [cond_true,cond_false] at hls
      ·cases hls
      simp only [aV] at fJ;exact⟨qT fJ.1,qT fJ.2.1,bt fJ.2.2.1,by rw [(yF fJ.2.2.2).1,(mH hg).1]⟩
     obtain⟨is,gg,hi,pM,hB,hS,hV⟩:=hr.enter hE hls hargs;have hput:=y9 _ hxx;have hok:=hΓ C si xx y hm w (G.fA is gg) args (hr.P9.fA hi pM) (by rw [hput];exact hB) (by rw [hput];exact hS) (by rw [hput];exact hV);rw [hf] at hok;have hg0:(G.fA is gg).g.map (·.1)=C.s.g0:=hB.gs
     have hwf':∀(q:Outs),q.wf bs.length gs.length=true→ux bs.length q.boxes=true∧gs.length≤q.rows.length:=fun q hq=>by
      unfold Outs.wf at hq;rw [aV] at hq;exact⟨hq.1,ef hq.2⟩
     unfold bL.wf at hwf;rw [aV] at hwf
     have Ka:∀(y:dens E C.s.out.tys) (e:Ending) (w':World),okK C.s.out bs gs fM dst k y=some r →
       ua E w (G.fA is gg) (C.s.out.eZ true (C.s.H (az C.s.tys xx)) C.s.g0 (az C.s.out.tys y)) e w' →
       ∃v st' G',e=.returned v∧Rel E w0 G0 st' (a.put dst v) w' G'∧k .normal st'=some r∧Fr (eH dst) true st st':=by
      rintro y e w' hk ⟨v1,G',he,hE,Kb,Kc,Ke,BQ⟩;simp only [Outs.eZ,ql,cond_true] at he;subst he;obtain⟨hs1,hs2⟩:=hwf' _ hwf.1;simp only [Outs.eZ] at Kb Kc Ke BQ;rw [←hg0] at Kb Kc Ke;obtain⟨Gn,hR,hval⟩:=hr.leave hi pM hnd.1 hnd.2.1 C.s.out hs1 hs2 hE Kb Kc Ke BQ;exact⟨v1,_,Gn,rfl,hR.put hval dst,hk,(C.s.out.N7 bs gs fM _ dst _).ofC LO⟩
     have fin:∀(p:Option Outs) (hp:C.s.gw=p) (y:OutP E C.s.out p),Zu C.s bs gs fM dst k p y=some r→I f args w (ua E w (G.fA is gg) (fG C.s (C.s.H (az C.s.tys xx)) p y)) →
       I f args w (fun e w'=>(∃v st' G',e=.returned v∧Rel E w0 G0 st' (a.put dst v) w' G'∧k .normal st'=some r∧Fr (eH dst) true st st')∨∃x st',x≠.normal∧k x st'=some r):=by
      intro p hp y hk hi;refine hI _ _ _ _ _ (fun e w' hR=>?_) hi
      cases p with
      | none=>exact .inl (Ka y e w' hk hR)
      | some q =>
       cases y with
       | inl y=>exact .inl (Ka y e w' hk hR)
       | inr y=>exact .inr ⟨.panic (q.val bs gs fM (az q.tys y)),_,(fun h=>nomatch h),hk⟩
     exact fin C.s.gw rfl y h hok
   ·exact cX h
  ·exact cX h
end
def SM (E:TEnv) (P:Program):Inv:=fun f args w R=>∀(Y:YD) (fn l D:Nat) (xs tmps:Array Value),E.yd f Y→args=xs++tmps→xs.size=Y.params.size →
 w.heap[l]? = some (.loop ⟨.ready,none,fn,tmps,Y.params,Y.assign,Y.body,D⟩)→RoundIn Fence.wide 0 P l fn ((Y.params.zip xs).foldl (fun t (p,v)=>t.setIfInBounds p v) tmps) Y.assign Y.body w R
theorem SM.mono (P:Program):(SM E P).Zw:=fun f args w R R' h hi Y fn l D xs tmps h1 h2 h3 h4=>(hi Y fn l D xs tmps h1 h2 h3 h4).mono h
def anE {E:TEnv} (P:Program) (Y:List (an E)):Prop:=∀C∈Y,C.BR (SM E P)
end Go.RT
namespace Go.RT
variable {E : TEnv}
structure aiQ (P:Program) (f:FuncId):Prop where
 enters:∀args w,(callFunc f args).run P w=.ok (.enter f args) w
 call:∀(blk cap:Nat) (zs:List Int) (w:World),Sort.Holds (Value.int .u8) w blk 0 zs.toArray→zs.length≤9223372036854775807→Calls P f #[.slice (some ⟨blk,0,none⟩) zs.length cap] w fun e w' =>
  e=.returned (.tuple #[])∧∃n,w'=Sort.putRow (Value.int .u8) (Sort.ahead w n) blk 0 zs.reverse.toArray
structure Cx (E:TEnv) where
 P:Program
 ty:TypeId→Option Ty
 Γ:List (an E)
 Y:List (an E):=[]
 rv:Option FuncId:=none
structure Cx.Ok (X:Cx E):Prop where
 E:E.Ok
 Γ:∀C∈X.Γ,C.Ok X.P
 mix:X.P.follows .mixedOrders=true
 Y:anE X.P X.Y:=by exact fun _ h=>nomatch h
 rv:∀f,X.rv=some f→aiQ X.P f:=by exact fun _ h=>nomatch h
theorem O9 {P:Program}:∀f,(none:Option FuncId)=some f→aiQ P f:=fun _ h=>nomatch h
def dec (l:List UInt8) (p:Nat):Nat × Nat:=Utf8.decode ⟨⟨l⟩⟩ p
def aiR (P:Program) (src dst t:TypeId) (n:Nat):Bool:=match P.underlying src,P.underlying dst with
 | some (.pointer e),some .unsafePointer=>(match P.info? e with | some j=>!(Nat.beq j.size 0) | none=>false)&&Nat.blt 0 n
 | some .unsafePointer,some (.pointer u)=>(match P.info? u with | some _=>true | none=>false)&&liesAt P P.depth t (n / P.cellsOf t) 0 u 1
 | _,_=>false
def LQ (st:TS E):Op→Bool
 | .move _=>true
 | .assign _=>true
 | .unOp _ _ _=>true
 | .field _ _ _=>true
 | .fieldAddr _ _ _=>true
 | .load _ _=>true
 | .nilCheck _=>true
 | .extract _ _=>true
 | .alloc _=>true
 | .binOp op _ x y _=>match op with
  | .quo=>isConst y
  | .rem=>isConst y
  | .shl=>isConst y
  | .shr=>isConst y
  | .add=>match st.ev x with
   | .dat (.int _) _=>true
   | _=>false
  | _=>true
 | .convert _ _ x=>match st.ev x with
  | .dat (.int _) _=>true
  | _=>false
 | _=>false
abbrev X7 {α:Type} (b:Bool) (x y:α):α:=match b with
 | true=>x
 | false=>y
theorem Zx {α:Type} (b:Bool) (x y:α):X7 b x y=cond b x y:=by cases b<;>rfl
abbrev rqP {R:Type} (pl c:Bool) (k:Option R):Option R:=match pl with
 | true=>match c with
  | true=>k
  | false=>none
 | false=>rq c k
theorem BS {R:Type} {pl c:Bool} {k:Option R} {r:R} (h:rqP pl c k=some r):c=true∧k=some r:=by
 cases pl
 ·exact b9 h
 ·cases c
  ·cases h
  ·exact⟨rfl,h⟩
noncomputable def agree {R:Type} (a b:Option R):Option R:=@ite _ (a=b) (Classical.propDecidable _) a none
theorem vF {R:Type} {a b:Option R} {r:R} (h:agree a b=some r):a=some r∧b=some r:=by
 unfold agree at h;by_cases e:a=b
 ·rw [if_pos e] at h
  exact⟨h,e▸h⟩
 ·rw [if_neg e] at h
  cases h
theorem GN {R:Type} (a:Option R):agree a a=a:=by unfold agree;rw [if_pos rfl]
theorem af4 {P:Program} {t e:TypeId} (bw:P.underlying t=some (.slice e)) (ad:Option Addr) (n c:Nat) (hn:ad=none→n=0∧c=0) (x y:Operand) (op:BinOp) (hop:op=.eql∨op=.neq) (w:World) :
  (do eqGuard op t x y (.slice ad n c) (.slice none 0 0);binOp op t (.slice ad n c) (.slice none 0 0)).run P w=.ok (.bool (AK op ad.isNone)) w:=by
 have h1:(eqGuard op t x y (.slice ad n c) (.slice none 0 0)).run P w=.ok () w:=by rcases hop with rfl | rfl<;>rfl
 have h3:binOp op t (.slice ad n c) (.slice none 0 0)=(do let r ←Op.equal t (.slice ad n c) (.slice none 0 0);pure (.bool (AK op r))):=by rcases hop with rfl | rfl<;>rfl
 have h2:∀d,(Op.equalIn (d+1) t (.slice ad n c) (.slice none 0 0)).run P w=.ok ad.isNone w:=by
  intro d
  cases ad with
  | none =>
   obtain⟨rfl,rfl⟩:=hn rfl
   simp [Op.equalIn,ak bw]
  | some a=>simp [Op.equalIn,ak bw]
 simp only [Sem.run_bind,h1,Result.andThen_ok,h3,Op.equal,Op.maxDepth,h2 9999,Sem.run_pure]
def aeC {R:Type} (i:Int) (n:Nat) (k:Nat→Option R):Nat→Option R
 | 0=>none
 | m+1=>cond (decide (i=((n - (m+1):Nat):Int))) (k (n - (m+1))) (aeC i n k m)
theorem Vq {R:Type} {i:Int} {n:Nat} {k:Nat→Option R} {r:R}:∀ {m:Nat},m≤n→aeC i n k m=some r→∃q:Nat,i=(q:Int)∧q<n∧k q=some r
 | 0,_,h=>by cases h
 | m+1,hm,h=>by
  unfold aeC at h;cases hd:decide (i=((n - (m+1):Nat):Int))<;>rw [hd] at h<;>simp only [cond_true,cond_false] at h
  ·exact Vq om h
  ·exact⟨_,of_decide_eq_true hd,om,h⟩
noncomputable def Vr {R:Type} (X:Cx E) (st:TS E) (o:Oper) (k:Ex E→TS E→Option R):Option R :=
 match PZ X.P X.ty st o.op with
 | some (c,d)=>rqP (LQ st o.op) c (k .normal { st with t:=br st.t o.dst d })
 | none=>match Zd X.P X.ty st o.dst o.op with
  | some (c,st')=>rqP (LQ st o.op) c (k .normal st')
  | none=>match o.op with
   | .pick c x y=>match st.ev c with
    | .dat .bool b=>cond b (k .normal { st with t:=br st.t o.dst (st.ev x) }) (k .normal { st with t:=br st.t o.dst (st.ev y) })
    | _=>none
   | .call c=>match c.callee with
    | .value x=>match st.ev x with
     | .func (.func f) caps=>lZ st o.dst f (c.args.toList.map st.ev++caps) k X.Γ
     | .BF (.func f) fs=>lZ st o.dst f (fs++c.args.toList.map st.ev) k X.Γ
     | _=>none
    | _=>none
   | .defer c=>match c.callee with
    | .value x=>match st.ev x with
     | .func (.func f) caps=>cond (Nat.beq f sV) none (k .normal { st with t:=br st.t o.dst .any,df:=(f,c.args.toList.map st.ev++caps)::st.df })
     | _=>none
    | _=>none
   | .panic x=>match st.ev x with
    | .iface t d=>k (.panic (.iface t d)) st
    | _=>none
   | .range t x=>match aB X.P t,st.ev x with
    | some ⟨.string,_,_,_⟩,.dat .str l=>k .normal { st with t:=br st.t o.dst (.ptr st.H.length 0),H:=st.H++[.iter l 0] }
    | _,_=>none
   | .next x s=>cond s (match st.ev x with
    | .ptr r 0=>match st.H[r]? with
     | some (.iter l p)=>cond (Nat.blt p l.length)
       (k .normal { st with t:=br st.t o.dst (.tuple [.dat .bool true,.dat (.int .i64) (p:Int),.dat (.int .i32) ((dec l p).1:Int)]),H:=st.H.set r (.iter l (p+(dec l p).2)),d:=r::st.d })
       (k .normal { st with t:=br st.t o.dst (.tuple [.dat .bool false]) })
     | _=>none
    | _=>none) none
   | .convert src dst x=>match st.ev x with
    | .ptr r 0=>match st.H[r]? with
     | some (.cells t cs)=>rq (aiR X.P src dst t cs.length) (k .normal { st with t:=br st.t o.dst (.ptr r 0) })
     | _=>none
    | _=>none
   | .indexAddr t x ix=>match aB X.P t,st.ev x,st.ev ix with
    | some ⟨.array n e,_,_,_⟩,.ptr r off,.dat (.int _) m=>match aB X.P e with
     | some i=>aeC m n (fun q=>k .normal { st with t:=br st.t o.dst (.ptr r (off+q * i.size)) }) n
     | none=>none
    | _,_,_=>none
   | .binOp op t x y _=>match aB X.P t,st.ev x,st.ev y with
    | some ⟨.slice _,_,_,_⟩,.dat (.aG T) xs,.val (.slice none 0 0)=>rq (Nat.blt 0 (T.size E)) (match op with
     | .eql=>cond xs.isEmpty (agree (k .normal { st with t:=br st.t o.dst (.dat .bool true) }) (k .normal { st with t:=br st.t o.dst (.dat .bool false) })) (k .normal { st with t:=br st.t o.dst (.dat .bool false) })
     | .neq=>cond xs.isEmpty (agree (k .normal { st with t:=br st.t o.dst (.dat .bool false) }) (k .normal { st with t:=br st.t o.dst (.dat .bool true) })) (k .normal { st with t:=br st.t o.dst (.dat .bool true) })
     | _=>none)
    | _,_,_=>none
   | _=>none
def uc:Op→Bool
 | .defer _=>true
 | _=>false
section
variable {X : Cx E} {st : TS E} {o : Oper}
theorem Kf {R:Type} (hX:X.Ok) {k:Ex E→TS E→Option R} {r:R} (h:Vr X st o k=some r):vE X.P o (eH o.dst) (!(uc o.op)) st (fun x st'=>k x st'=some r):=by
 unfold Vr at h;split at h
 ·rename_i pc pd hp
  obtain⟨h1,h2⟩:=BS h;exact vE.xN (fun w0 G0 a w G hr=>(M7 hX.E hr hp h1).ad5 hr) h2 ((Fr.put st o.dst pd).wide (fun i h=>h) (fun _=>rfl))
 ·split at h
  ·rename_i pc pd hp
   obtain⟨h1,h2⟩:=BS h;exact vE.xN (fun w0 G0 a w G hr=>aeu hX.E hr hp h1) h2 ((ajy hp).wide (fun i h=>h) (fun _=>rfl))
  ·split at h<;>try (cases h;done)
   ·rename_i c x y ho
    split at h<;>try (cases h;done)
    rename_i b hb;intro w0 G0 a w G hr;have hv:=hr.ev c;rw [hb] at hv;have hv:=hv.iG
    have hrun:(execOp a.eval o).run X.P w=.ok (.value (if b then a.eval x else a.eval y)) w:=by
     simp [execOp,ho,hv,asBool]
    unfold Oper.wp;rw [hrun];cases b<;>simp only [cond_true,cond_false] at h
    ·exact⟨_,G,hr.put (hr.ev y) o.dst,h,(Fr.put st o.dst _).wide (fun i h=>h) (fun _=>rfl)⟩
    ·exact⟨_,G,hr.put (hr.ev x) o.dst,h,(Fr.put st o.dst _).wide (fun i h=>h) (fun _=>rfl)⟩
   ·rename_i c ho
    split at h<;>try (cases h;done)
    rename_i x hc;split at h<;>try (cases h;done)
    ·rename_i f caps hx
     have:=abO hX.E (P:=X.P) ho hc hx hX.Γ h;rw [ho];exact this
    ·rename_i f caps hx
     have:=abP hX.E (P:=X.P) ho hc hx hX.Γ h;rw [ho];exact this
   ·rename_i c ho
    split at h<;>try (cases h;done)
    rename_i x hc;split at h<;>try (cases h;done)
    rename_i f caps hx;cases SN:Nat.beq f sV<;>rw [SN] at h<;>simp only [cond_true,cond_false] at h
    rotate_left
    ·cases h
    intro w0 G0 a w G hr;have hv:=hr.ev x;rw [hx] at hv;simp only [VT] at hv;obtain⟨cv,BL,LP⟩:=hv
    have hrun:(execOp a.eval o).run X.P w=.ok (.defer { target:=.fn (.func f) cv,args:=c.args.map a.eval }) w:=by
     simp [execOp,ho,resolve,hc,BL,Deferred.ofValue]
    unfold Oper.wp;rw [hrun]
    have hargs:aP E w G (c.args.toList.map st.ev++caps) (c.args.map a.eval++cv).toList:=by
     have:=(J7 hr c.args.toList).append LP;simpa using this
    have cJ:Rel E w0 G0 { st with df:=(f,c.args.toList.map st.ev++caps)::st.df } { a with defers:={ target:=.fn (.func f) cv,args:=c.args.map a.eval } :: a.defers } w G :=
     ⟨hr.cK,hr.size,hr.tmps,⟨.inl ⟨SN,cv,rfl,hargs⟩,hr.defers⟩,hr.boxes,hr.fix,hr.pins,hr.dI⟩
    refine⟨_,G,cJ.put (d:=.any) (by simp only [VT]) o.dst,h,?_⟩;exact⟨GL _ _ _,fun i hi=>Dv _ _ _ _ hi,⟨[],rfl,fun _ _ _=>rfl⟩,bM _,fun hh=>by rw [ho] at hh;cases hh⟩
   ·rename_i x ho
    split at h<;>try (cases h;done)
    rename_i t d hx;intro w0 G0 a w G hr;have hv:=hr.ev x;rw [hx] at hv;have vr:=hv;simp only [VT] at hv;obtain⟨u,hu,-⟩:=hv
    have hrun:(execOp a.eval o).run X.P w=.halt (.panic (a.eval x)) w:=by
     simp [execOp,ho,Instr.panic,hu,goPanic]
    unfold Oper.wp;rw [hrun];exact⟨.panic (.iface t d),st,G,⟨a.eval x,rfl,vr⟩,hr,(fun h=>nomatch h),h,Fr.refl _ _ _⟩
   ·rename_i t x ho
    split at h<;>try (cases h;done)
    rename_i j1 j2 z l ht hd;refine vE.xN (fun w0 G0 a w G hr=>?_) h ?_
    ·have hv:=hr.ev x
     rw [hd] at hv;obtain⟨xt,eA,bw,-⟩:=aq ht;refine Ek hr (ob:=.stringIter ⟨⟨l⟩⟩ 0) (x:=.iter l 0) (heap_alloc_new w _) ?_;simp only [execOp,ho,hv.ep,Instr.range,mkStr,Sem.run_bind,ak bw,Result.andThen_ok,Sem.run_pure];rfl
    ·exact (Fr.mem st o.dst _ _ st.g [] (GM _ _) si).wide (fun i h=>h) (fun _=>rfl)
   ·rename_i x s ho
    cases s<;>simp only [cond_true,cond_false] at h
    ·cases h
    split at h<;>try (cases h;done)
    rename_i r hd;split at h<;>try (cases h;done)
    rename_i l p hb;cases hlt:Nat.blt p l.length<;>rw [hlt] at h<;>simp only [cond_true,cond_false] at h
    ·refine vE.xN (fun w0 G0 a w G hr=>?_) h ((Fr.put st o.dst _).wide (fun i h=>h) (fun _=>rfl))
     have hv:=hr.ev x;rw [hd] at hv;simp only [VT] at hv;obtain⟨b,he,hat⟩:=hv;have hheap:w.heap[b]? = some (.stringIter ⟨⟨l⟩⟩ p):=hr.box hat hb
     have hlt':¬ p<(ByteArray.mk ⟨l⟩).size:=fun hh=>by
      have:Nat.blt p l.length=true:=by rw [Nat.blt,Sa];exact hh
      rw [hlt] at this;cases this
     have hrun:(execOp a.eval o).run X.P w=.ok (.value (.tuple #[.bool false])) w:=by
      have ou:(getObj b).run X.P w=.ok (.stringIter ⟨⟨l⟩⟩ p) w:=by simp only [getObj,Sem.run,hheap]
      simp only [execOp,ho,Instr.next,he,Sem.run_bind,ou,Result.andThen_ok,hlt',if_false,Sem.run_pure]
     refine⟨_,_,w,G,hrun,.inl rfl,hr.put ?_ o.dst⟩;simp only [VT];exact⟨_,rfl,.cons (.bool _ _ _) (by simp only [aP])⟩
    ·refine vE.xN (fun w0 G0 a w G hr=>?_) h ((Fr.mem st o.dst _ _ st.g [r] (xM _ _ _) si).wide (fun i h=>h) (fun _=>rfl))
     have hv:=hr.ev x;rw [hd] at hv;simp only [VT] at hv;obtain⟨b,he,hat⟩:=hv;have hheap:w.heap[b]? = some (.stringIter ⟨⟨l⟩⟩ p):=hr.box hat hb;have hlt':p<(ByteArray.mk ⟨l⟩).size:=by rw [Nat.blt,Sa] at hlt;exact hlt
     have wU:b<w.heap.size:=(lF.1 hheap).1
     let w':World:={ w with heap:=w.heap.setIfInBounds b (.stringIter ⟨⟨l⟩⟩ (p+(dec l p).2)) }
     have zO:∀b',b'≠b→w'.heap[b']? = w.heap[b']?:=fun b' hb'=>by
      show (w.heap.setIfInBounds b _)[b']? = _;rw [adz,if_neg (fun e=>hb' e.symm)]
     have hnew:w'.heap[b]? = some (.stringIter ⟨⟨l⟩⟩ (p+(dec l p).2)):=by
      show (w.heap.setIfInBounds b _)[b]? = _;rw [adz,if_pos rfl,if_pos wU]
     have hrun:(execOp a.eval o).run X.P w=.ok (.value (.tuple #[.bool true,.int .i64 p,.int .i32 (dec l p).1])) w':=by
      have ou:(getObj b).run X.P w=.ok (.stringIter ⟨⟨l⟩⟩ p) w:=by simp only [getObj,Sem.run,hheap]
      have hso:(setObj b (.stringIter ⟨⟨l⟩⟩ (p+(Utf8.decode ⟨⟨l⟩⟩ p).2))).run X.P w=.ok () w':=by
       simp only [setObj,Sem.run,hheap];rfl
      simp only [execOp,ho,Instr.next,he,Sem.run_bind,ou,Result.andThen_ok,hlt',if_true,hso,Sem.run_pure,goInt,dec]
     have hR:=hr.tA (w':=w') hat (by simp [w']) rfl rfl rfl zO (x:=.iter l (p+(dec l p).2)) (fun _=>hnew);refine⟨_,_,w',G,hrun,.inl rfl,hR.put (d:=.tuple [.dat .bool true,.dat (.int .i64) (p:Int),.dat (.int .i32) ((dec l p).1:Int)]) ?_ o.dst⟩;simp only [VT];exact⟨_,rfl,.cons (.bool _ _ _) (.cons (.int _ _ _ _) (.cons (.int _ _ _ _) (by simp only [aP])))⟩
   ·rename_i src dst x ho
    split at h<;>try (cases h;done)
    rename_i r hd;split at h<;>try (cases h;done)
    rename_i t cs hb;obtain⟨hc,h⟩:=b9 h;refine vE.xN (fun w0 G0 a w G hr=>?_) h ((Fr.put st o.dst _).wide (fun i h=>h) (fun _=>rfl));have hv:=hr.ev x;rw [hd] at hv;have vr:=hv;simp only [VT] at hv;obtain⟨b,he,hat⟩:=hv;obtain⟨vs,hh,hone,hvs⟩:=hr.box hat hb;have hsz:vs.size=cs.length:=by simpa using hvs.length
    have hsh:w.shape? b=some (t,cs.length):=by simp [World.shape?,hh,hsz]
    have hrun:(convert src dst (.pointer (some ⟨b,0,none⟩))).run X.P w=.ok (.pointer (some ⟨b,0,none⟩)) w:=by
     unfold aiR at hc;split at hc
     ·rename_i e hs hdd
      rw [aV] at hc;obtain⟨h1,h2⟩:=hc;split at h1
      ·rename_i j hj
       refine Lib.run_to_unsafe (j:=j) w ⟨b,0,none⟩ hs hdd hj (fun h0=>?_) hsh ?_
       ·rw [h0] at h1;cases h1
       ·rw [Nat.blt,Sa] at h2;exact h2
      ·cases h1
     ·rename_i u hs hdd
      rw [aV] at hc;obtain⟨h1,h2⟩:=hc;split at h1
      ·rename_i j hj
       exact Lib.run_from_unsafe (j:=j) w ⟨b,0,none⟩ hs hdd hj hsh h2
      ·cases h1
     ·cases hc
    refine⟨.value (.pointer (some ⟨b,0,none⟩)),_,w,G,?_,.inl rfl,hr.put (v:=.pointer (some ⟨b,0,none⟩)) (d:=.ptr r 0) ?_ o.dst⟩
    ·simp only [execOp,ho,he,Sem.run_bind,hrun,Result.andThen_ok,Sem.run_pure]
    ·simp only [VT];exact⟨b,rfl,hat⟩
   ·rename_i t x ix ho
    split at h<;>try (cases h;done)
    rename_i n e j1 j2 z r off kd m ht hx hix;split at h<;>try (cases h;done)
    rename_i i hi;obtain⟨q,hmq,hqn,h⟩:=Vq (bM n) h;refine vE.xN (fun w0 G0 a w G hr=>?_) h ((Fr.put st o.dst _).wide (fun i h=>h) (fun _=>rfl));obtain⟨xt,eA,bw,-⟩:=aq ht;obtain⟨xe,fZ,jA,hsz,-⟩:=aq hi;have hv:=hr.ev x;rw [hx] at hv;simp only [VT] at hv;obtain⟨b,he,hat⟩:=hv;have yZ:=hr.ev ix;rw [hix] at yZ;have Ai:=yZ.dw;refine (cy (f:=fun ρ=>Instr.indexAt t (ρ x) (ρ ix)) (by simp [execOp,ho]) ⟨.pointer (some ⟨b,off+q * i.size,none⟩),by simp only [VT];exact⟨b,rfl,hat⟩,fun w' hs=>?_⟩).ad5 hr;rw [he,Ai,hmq];unfold Instr.indexAt asIntOf Instr.sureAddr;have h3:((0:Int)≤(q:Int)∧(q:Int)<(n:Int)):=⟨om,om⟩;simp only [Sem.run_bind,Sem.run_pure,Result.andThen_ok,ak bw,h3,and_self,if_true,bQ fZ,add_lit,hsz,bf]
   ·rename_i op t x y yt ho
    split at h<;>try (cases h;done)
    rename_i e j1 j2 z T xs ht hx hy;obtain⟨hk0,h⟩:=b9 h;have hk0:0<T.size E:=by rw [Nat.blt,Sa] at hk0;exact hk0
    obtain⟨xt,eA,bw,-⟩:=aq ht;have hop:op=.eql∨op=.neq:=by cases op<;>first | exact .inl rfl | exact .inr rfl | (cases h;done)
    have key:(xs=[]→k .normal { st with t:=br st.t o.dst (.dat .bool (AK op true)) } = some r)∧k .normal { st with t:=br st.t o.dst (.dat .bool (AK op false)) } = some r:=by
     rcases hop with rfl | rfl<;>cases xs<;>simp only [List.isEmpty_nil,List.isEmpty_cons,cond_true,cond_false] at h
     ·exact⟨fun _=>(vF h).1,(vF h).2⟩
     ·exact⟨(fun e=>by cases e),h⟩
     ·exact⟨fun _=>(vF h).1,(vF h).2⟩
     ·exact⟨(fun e=>by cases e),h⟩
    clear h;intro w0 G0 a w G hr;have hv:=hr.ev x;rw [hx] at hv;have wY:=hr.ev y;rw [hy] at wY;simp only [VT] at wY;have hd:=(hv.atom rfl).oh;obtain⟨cs,hfl,rR⟩:=VD.flat hk0 hd
    have hsh:∃ad n c,a.eval x=.slice ad n c∧(ad=none→n=0∧c=0∧xs=[]):=by
     rcases rR with⟨ad,he,hn⟩ | ⟨b,off,cap,he,hcap,hcells⟩
     ·exact⟨ad,0,0,he,fun _=>⟨rfl,rfl,by simpa using hn⟩⟩
     ·exact⟨_,_,_,he,fun e=>by cases e⟩
    obtain⟨ad,n,c,he,hn⟩:=hsh
    have hrun:(execOp a.eval o).run X.P w=.ok (.value (.bool (AK op ad.isNone))) w:=by
     have hq:=af4 (P:=X.P) bw ad n c (fun e=>⟨(hn e).1,(hn e).2.1⟩) x y op hop w;have hx:execOp a.eval o=(do let z ← (do eqGuard op t x y (a.eval x) (a.eval y);binOp op t (a.eval x) (a.eval y));pure (.value z)):=by simp [execOp,ho]
     rw [hx,he,wY,Sem.run_bind,hq];rfl
    unfold Oper.wp;rw [hrun];refine⟨_,G,hr.put (d:=.dat .bool (AK op ad.isNone)) (.bool _ _ _) o.dst,?_,(Fr.put st o.dst _).wide (fun i h=>h) (fun _=>rfl)⟩
    cases ad with
    | none=>exact key.1 (hn rfl).2.2
    | some _=>exact key.2
def fO (all:Array Oper) (o:Oper):List Nat:=match o.guard with
 | some (j,_)=>match (all[j]?).bind (·.dst) with
  | some t=>[t]
  | none=>[]
 | none=>[]
def cC (all:Array Oper):List Oper→List Nat
 | []=>[]
 | o::os=>eH o.dst++(fO all o++cC all os)
def bz:List Oper→Bool
 | []=>true
 | o::os=>!(uc o.op)&&bz os
abbrev eM {R:Type} (k1:TS E→Option R) (k:Ex E→TS E→Option R):Ex E→TS E→Option R
 | .normal,st=>k1 st
 | e,st=>k e st
noncomputable def nN {R:Type} (X:Cx E) (all:Array Oper):List Oper→TS E→(Ex E→TS E→Option R)→Option R
 | [],st,k=>k .normal st
 | o::rest,st,k=>match o.guard with
  | none=>Vr X st o (eM (fun st'=>nN X all rest st' k) k)
  | some (j,want)=>match (all[j]?).bind (·.dst) with
   | some t=>match st.at t with
    | .dat .bool b=>cond b
      (X7 want (Vr X { st with t:=st.t.set t (.dat .bool true) } o (eM (fun st'=>nN X all rest st' k) k))
       (nN X all rest { st with t:=br (st.t.set t (.dat .bool true)) o.dst (.val undef) } k))
      (X7 want (nN X all rest { st with t:=br (st.t.set t (.dat .bool false)) o.dst (.val undef) } k)
       (Vr X { st with t:=st.t.set t (.dat .bool false) } o (eM (fun st'=>nN X all rest st' k) k)))
    | .val (.bool _)=>none
    | .val _=>nN X all rest { st with t:=br st.t o.dst (.val undef) } k
    | _=>none
   | none=>none
theorem bD.mono {w0:World} {G0:au} {Q Q':Ex E→TS E→Prop} (h:∀x s,Q x s→Q' x s) {e:Exit} {a:Act} {w:World} (hp:bD E w0 G0 Q e a w):bD E w0 G0 Q' e a w:=by
 obtain⟨x,s,G,h1,h2,h3⟩:=hp;exact⟨x,s,G,h1,h2,h _ _ h3⟩
theorem kG {P:Program} {o:Oper} {a:Act} {w:World} {n1 n2:Act→World→Prop} {Q1 Q2:Exit→Act→World→Prop} (hn:∀a w,n1 a w→n2 a w) (hq:∀e a w,Q1 e a w→Q2 e a w) (h:o.wp P a w n1 Q1):o.wp P a w n2 Q2:=by
 have hout:LetsOut Q1→LetsOut Q2:=fun⟨a,w,h⟩=>⟨a,w,hq _ _ _ h⟩;unfold Oper.wp at *;generalize (execOp a.eval o).run P w=r at *
 cases r with
 | ok n w' =>
  cases n<;>simp only [Oper.upon] at h ⊢
  case value u=>exact hn _ _ h
  case skip=>exact hn _ _ h
  case defer d=>exact hn _ _ h
  case enter f args =>
   refine Calls.mono h fun e w'' he=>?_
   cases e with
   | returned u=>exact hn _ _ he
   | panicked c=>exact hq _ _ _ he
   | outgrown=>exact hout he
  case row row args=>exact Rows.mono h fun u w'' he=>hn _ _ he
 | halt x w' =>
  cases x<;>simp only [Oper.upon] at h ⊢
  case panic u=>exact hq _ _ _ h
theorem Et {w0 w:World} {G0 G:au} {a:Act} (hr:Rel E w0 G0 st a w G) {all:Array Oper} {j t:Nat} {want b:Bool} (hg:o.guard=some (j,want)) (ht:(all[j]?).bind (·.dst)=some t) (hb:st.at t=.dat .bool b) :
  Region.wanted o (yielded all a.tmps)=(b==want)∧a.tmps[t]? = some (.bool b):=by
 have hv:=hr.at t;rw [hb] at hv;have hv:=hv.iG
 have hlt:t<st.t.length:=by
  rcases ur t st.t.length with h | h
  ·exact h
  ·simp [TS.at,List.getD,uX h] at hb
 have h2:a.tmps[t]? = some (.bool b):=by
  have:t<a.tmps.size:=by rw [hr.size];exact hlt
  rw [←hv];simp [Array.getD,this]
 refine⟨?_,h2⟩;unfold Region.wanted yielded;rw [hg];simp only [ht,aE,h2];cases b<;>cases want<;>rfl
theorem GO {w0 w:World} {G0 G:au} {a:Act} (hr:Rel E w0 G0 st a w G) {all:Array Oper} {j t:Nat} {want:Bool} {u:Value} (hg:o.guard=some (j,want)) (ht:(all[j]?).bind (·.dst)=some t) (hb:st.at t=.val u) (hu:∀b,u≠.bool b) :
  Region.wanted o (yielded all a.tmps)=false:=by
 have hv:=hr.at t;rw [hb] at hv;simp only [VT] at hv
 have hlt:t<st.t.length:=by
  rcases ur t st.t.length with h | h
  ·exact h
  ·simp [TS.at,List.getD,uX h] at hb
 have h2:a.tmps[t]? = some u:=by
  have:t<a.tmps.size:=by rw [hr.size];exact hlt
  rw [←hv];simp [Array.getD,this]
 unfold Region.wanted yielded;rw [hg];simp only [ht,aE,h2];cases u<;>first | rfl | (rename_i b;exact (hu b rfl).elim)
theorem Rel.lit {w0 w:World} {G0 G:au} {a:Act} (hr:Rel E w0 G0 st a w G) {t:Nat} {b:Bool} (h:a.tmps[t]? = some (.bool b)):Rel E w0 G0 { st with t:=st.t.set t (.dat .bool b) } a w G:=by
 refine⟨hr.cK,by simpa using hr.size,fun j d hj=>?_,hr.defers,hr.boxes,hr.fix,hr.pins,hr.dI⟩;simp only [NB] at hj;by_cases hij:t=j
 ·subst hij
  have hlt:t<st.t.length:=by rw [←hr.size];exact (lF.1 h).1
  simp [hlt] at hj;subst hj;have:a.tmps.getD t undef=.bool b:=by simp [uo,h]
  rw [this];exact .bool _ _ _
 ·rw [if_neg hij] at hj
  exact hr.tmps j d hj
theorem Fr.lit (st:TS E) (t:Nat) (d:TV E):Fr [t] true st { st with t:=st.t.set t d } :=
 ⟨si,fun i hi=>by
  show (st.t.set t d)[i]? = _;rw [iB (fun e=>hi (by simp [e]))],⟨[],rfl,fun _ _ _=>rfl⟩,bM _,fun _=>rfl⟩
theorem mc {R:Type} (hX:X.Ok) {all:Array Oper} {k:Ex E→TS E→Option R} {r:R}:∀ {l:List Oper} {st:TS E},nN X all l st k=some r→adY E X.P all l st (fun x st'=>k x st'=some r∧Fr (cC all l) (bz l) st st')
 | [],st,h=>fun w0 G0 a w G hr=>⟨.normal,st,G,trivial,hr,h,Fr.refl _ _ _⟩
 | o::rest,st,h=>by
  have ih:∀ {st:TS E},nN X all rest st k=some r→adY E X.P all rest st (fun x st'=>k x st'=some r∧Fr (cC all rest) (bz rest) st st'):=fun h=>mc hX h
  have step:∀(s0 s1:TS E),Fr (fO all o) true s0 s1→Vr X s1 o (eM (fun st'=>nN X all rest st' k) k)=some r→∀w0 G0 a w G,Rel E w0 G0 s1 a w G →
    o.wp X.P a w (wpList X.P all (bD E w0 G0 fun x st'=>k x st'=some r∧Fr (cC all (o::rest)) (bz (o::rest)) s0 st') rest) (bD E w0 G0 fun x st'=>k x st'=some r∧Fr (cC all (o::rest)) (bz (o::rest)) s0 st'):=by
   intro s0 s1 Qd h w0 G0 a w G hr;have h1:=Kf hX h w0 G0 a w G hr
   have hF:∀ {s2 s3:TS E},Fr (eH o.dst) (!(uc o.op)) s1 s2→Fr (cC all rest) (bz rest) s2 s3→Fr (cC all (o::rest)) (bz (o::rest)) s0 s3:=fun f1 f2 =>
    (Qd.trans f1 (W:=eH o.dst++fO all o) (n:=!(uc o.op)) (fun i hi=>by simp [hi]) (fun i hi=>by simp [hi]) (fun h=>⟨rfl,h⟩)).trans f2 (fun i hi=>by
     simp only [cC,gz] at hi ⊢;rcases hi with hi | hi<;>simp [hi]) (fun i hi=>by simp [cC,hi]) (fun h=>by
     simp only [bz,aV] at h;exact h)
   refine kG (fun a' w' hn=>?_) (fun e a' w' hp=>?_) h1
   ·obtain⟨s2,G2,hr2,hk,f1⟩:=hn
    simp only [eM] at hk;have hA:=ih hk w0 G0 a' w' G2 hr2
    have key:∀(l:List Oper) (a:Act) (w:World) {Q1 Q2:Exit→Act→World→Prop},(∀e a w,Q1 e a w→Q2 e a w)→wpList X.P all Q1 l a w→wpList X.P all Q2 l a w:=by
     intro l
     induction l with
     | nil=>intro a w Q1 Q2 hq h;exact hq _ _ _ h
     | cons o l ihl =>
      intro a w Q1 Q2 hq h;unfold wpList at h ⊢;split
      ·rename_i hw
       rw [if_pos hw] at h;rcases h with h | ⟨h,a1,w1,h2⟩
       ·exact .inl (kG (fun a w h=>ihl a w hq h) hq h)
       ·exact .inr ⟨h,a1,w1,hq _ _ _ h2⟩
      ·rename_i hw
       rw [if_neg hw] at h;exact ihl _ _ hq h
    exact key rest a' w' (fun e a w hp=>bD.mono (fun x s hh=>⟨hh.1,hF f1 hh.2⟩) hp) hA
   ·obtain⟨x,s2,G2,he,hr2,hn,hk,f1⟩:=hp
    cases x with
    | normal=>exact (hn rfl).elim
    | _=>exact⟨_,s2,G2,he,hr2,hk,hF f1 (Fr.refl _ _ _)⟩
  simp only [nN,Zx] at h;intro w0 G0 a w G hr;split at h
  ·rename_i hg
   unfold wpList;rw [if_pos (by simp [Region.wanted,hg])];exact .inl (step st st (by unfold fO;rw [hg];exact Fr.refl _ _ _) h w0 G0 a w G hr)
  ·rename_i j want hg
   split at h<;>try (cases h;done)
   rename_i t ht;have hgt:fO all o=[t]:=by unfold fO;rw [hg];simp only [ht]
   have skip:∀(s1:TS E),Fr (fO all o) true st s1→Rel E w0 G0 s1 a w G→nN X all rest { s1 with t:=br s1.t o.dst (.val undef) } k=some r →
     wpList X.P all (bD E w0 G0 fun x st'=>k x st'=some r∧Fr (cC all (o::rest)) (bz (o::rest)) st st') rest (a.put o.dst undef) w:=by
    intro s1 f0 cJ hk;have hr2:=cJ.put (v:=undef) (d:=.val undef) (by simp only [VT]) o.dst;have hA:=ih hk w0 G0 _ w G hr2
    have key:∀(l:List Oper) (a:Act) (w:World) {Q1 Q2:Exit→Act→World→Prop},(∀e a w,Q1 e a w→Q2 e a w)→wpList X.P all Q1 l a w→wpList X.P all Q2 l a w:=by
     intro l
     induction l with
     | nil=>intro a w Q1 Q2 hq h;exact hq _ _ _ h
     | cons o l ihl =>
      intro a w Q1 Q2 hq h;unfold wpList at h ⊢;split
      ·rename_i hw
       rw [if_pos hw] at h;rcases h with h | ⟨h,a1,w1,h2⟩
       ·exact .inl (kG (fun a w h=>ihl a w hq h) hq h)
       ·exact .inr ⟨h,a1,w1,hq _ _ _ h2⟩
      ·rename_i hw
       rw [if_neg hw] at h;exact ihl _ _ hq h
    refine key rest _ w (fun e a w hp=>bD.mono (fun x s hh=>⟨hh.1,?_⟩) hp) hA;have f1:Fr (eH o.dst) (!(uc o.op)) s1 { s1 with t:=br s1.t o.dst (.val undef) }:=(Fr.put s1 o.dst (.val undef)).wide (fun i h=>h) (fun _=>rfl)
    exact (f0.trans f1 (W:=eH o.dst++fO all o) (n:=!(uc o.op)) (fun i hi=>by simp [hi]) (fun i hi=>by simp [hi]) (fun h=>⟨rfl,h⟩)).trans hh.2 (fun i hi=>by
     simp only [cC,gz] at hi ⊢;rcases hi with hi | hi<;>simp [hi]) (fun i hi=>by simp [cC,hi]) (fun h=>by
     simp only [bz,aV] at h;exact h)
   split at h<;>try (cases h;done)
   ·rename_i b hb
    obtain⟨hw,hbv⟩:=Et hr hg ht hb;have hl:=hr.lit hbv;have hfl:Fr (fO all o) true st { st with t:=st.t.set t (.dat .bool b) }:=by rw [hgt];exact Fr.lit st t _
    unfold wpList;cases b<;>cases want<;>simp only [cond_true,cond_false] at h
    ·rw [if_pos (by rw [hw];rfl)]
     exact .inl (step _ _ hfl h w0 G0 a w G hl)
    ·rw [if_neg (by rw [hw];simp)]
     exact skip _ hfl hl h
    ·rw [if_neg (by rw [hw];simp)]
     exact skip _ hfl hl h
    ·rw [if_pos (by rw [hw];rfl)]
     exact .inl (step _ _ hfl h w0 G0 a w G hl)
   ·rename_i u hnb hu
    have hw:=GO hr hg ht hu (fun b e=>hnb b e);unfold wpList;rw [if_neg (by rw [hw];simp)];exact skip st (Fr.refl _ _ _) hr h
end
end Go.RT
namespace Go.RT
section
variable {P : Program} {ops : Array Oper} {Q : Exit → Act → World → Prop} {S : World → Prop} {lo hi : Nat}
def pre (n i:Nat):Array Bool:=((List.range n).map fun k=>Nat.blt k i).toArray
theorem rV {a b:Nat}:Nat.blt a b=true↔a<b:=by
 rw [Nat.blt,Sa];exact Nat.succ_le_iff
theorem acW {a b:Nat} (h:b≤a):Nat.blt a b=false:=by
 apply O2.2;rw [Ne,rV];omega
theorem ahD (n:Nat):Array.replicate n false=pre n 0:=by
 apply nj;apply zE
 ·simp [pre]
 ·intro k h1 h2
  simp [pre,acW]
theorem N8 {n i:Nat}:(pre n i).setIfInBounds i true=pre n (i+1):=by
 apply nj;apply zE
 ·simp [pre]
 ·intro k h1 h2
  simp only [pre,List.setIfInBounds_toArray,adC,Jp,List.getElem_range];by_cases hk:i=k
  ·subst hk;rw [if_pos rfl];exact (rV.2 om).symm
  ·rw [if_neg hk]
   rw [Eg,rV,rV];omega
theorem ajz {n i k:Nat} (h:i≤k) (hk:k<n):(pre n i).getD k true=false:=by
 simp [pre,hk,acW h]
theorem AP {n i k:Nat} (h:k<i) (hk:k<n) (d:Bool):(pre n i).getD k d=true:=by
 simp [pre,hk,rV.2 h]
def waits (ops:Array Oper):Nat→Nat→Nat→Bool
 | 0,_,_=>false
 | fuel+1,j,i=>match ops[j]? with
  | none=>false
  | some o=>o.after.any (fun e=>Region.binds .any e&&e.on==i)||o.after.any (fun e=>Region.binds .any e&&(Nat.blt i e.on&&waits ops fuel e.on i))
def Fz (ops:Array Oper) (listed:Array Bool):Prop:=∀(j:Nat) (o:Oper),ops[j]? = some o→listed.getD j false=true→∀e∈o.after,Region.binds .any e=true→listed.getD e.on false=true
theorem Kg {listed:Array Bool} (hc:Fz ops listed) {i:Nat}:∀(fuel j:Nat),waits ops fuel j i=true →
  (∀o,ops[j]? = some o→∀e∈o.after,Region.binds .any e=true→listed.getD e.on false=true)→listed.getD i false=true
 | 0,_,h,_=>by cases h
 | fuel+1,j,h,hj=>by
  unfold waits at h
  cases ho:ops[j]? with
  | none=>rw [ho] at h;cases h
  | some o =>
   rw [ho] at h;simp only [Ef] at h;rcases h with h | h
   ·obtain⟨e,he,hb⟩:=adG.1 h
    simp only [aV,beq_iff_eq] at hb;rw [←hb.2];exact hj o ho e he hb.1
   ·obtain⟨e,he,hb⟩:=adG.1 h
    simp only [aV] at hb;refine Kg hc fuel e.on hb.2.2 fun o' ho'=>hc e.on o' ho' (hj o ho e he hb.1)
theorem SO {listed:Array Bool} {i k:Nat} (h:(listed.setIfInBounds i true).getD k false=true):k=i∨listed.getD k false=true:=by
 by_cases hik:i=k
 ·exact .inl hik.symm
 ·rw [getD_set_ne false hik] at h;exact .inr h
theorem Fz.step {listed:Array Bool} (hc:Fz ops listed) {i:Nat} (hr:i∈Region.ready .any ops listed):Fz ops (listed.setIfInBounds i true):=by
 intro j o ho hj e he hb;obtain⟨_,oi,BU,hall⟩:=mem_ready.1 hr;rcases SO hj with rfl | hj
 ·rw [BU] at ho;cases ho
  exact getD_set_true (hall e he hb)
 ·exact getD_set_true (hc j o ho hj e he hb)
def wpAnyS (P:Program) (ops:Array Oper) (Q:Exit→Act→World→Prop) (S:World→Prop) (lo hi:Nat):Nat→Array Bool→Act→World→Prop
 | 0,listed,a,w=>Region.ready .any ops listed=[]∧Q .normal a w
 | fuel+1,listed,a,w =>
  (Region.ready .any ops listed=[]→Q .normal a w) ∧
  ∀i∈Region.ready .any ops listed,wpOp P ops Q i (fun a' w'=>(lo≤i∧i<hi→S w→S w')∧wpAnyS P ops Q S lo hi fuel (listed.setIfInBounds i true) a' w') a w
theorem Qe:∀(fuel:Nat) (listed:Array Bool) (a:Act) (w:World),wpAnyS P ops Q S lo hi fuel listed a w→wpAny P .any ops Q fuel listed a w
 | 0,_,_,_,h=>h
 | fuel+1,_,_,_,h=>⟨h.1,fun i hi=>wpOp_mono (fun a' w' h'=>Qe fuel _ a' w' h'.2) (h.2 i hi)⟩
theorem Qf:∀(fuel:Nat) (listed:Array Bool) (a:Act) (w:World),(∀k,lo≤k→k<hi→listed.getD k true=true)→wpAny P .any ops Q fuel listed a w→wpAnyS P ops Q S lo hi fuel listed a w
 | 0,_,_,_,_,h=>h
 | fuel+1,listed,_,_,hp,h=>⟨h.1,fun i hm=>wpOp_mono (fun a' w' h'=>by
   have hun:=(mem_ready.1 hm).1;refine⟨fun hx _=>?_,Qf fuel _ a' w' (fun k h1 h2=>?_) h'⟩
   ·rw [hp i hx.1 hx.2] at hun;cases hun
   ·by_cases hik:i=k
    ·subst hik;rw [hp i h1 h2] at hun;cases hun
    ·rw [getD_set_ne true hik];exact hp k h1 h2) (h.2 i hm)⟩
theorem wpAnyS_first {i:Nat} {oi:Oper} {v:Value} (BU:ops[i]? = some oi) (hsel:∀(j:Nat) (o:Oper) cs b,ops[j]? = some o→o.op≠.select cs b)
  (hQ:∀c a w,Q (.panic c) (a.put oi.dst v) w→Q (.panic c) a w) (hW:∀j,hi≤j→j<ops.size→waits ops ops.size j i=true) :
  ∀(fuel:Nat) (listed:Array Bool) (a:Act) (w:World),Fz ops listed→(∀k,k<lo→k<ops.size→listed.getD k true=true) →
   (∀j oj,ops[j]? = some oj→j≠i→listed.getD j true=false→(∀e∈oj.after,Region.binds .any e=true→e.on≠i)→oi.apart ops oj=true) →
   i∈Region.ready .any ops listed→YieldsIf P ops S oi v a→S w →
   wpAnyS P ops Q S lo hi fuel (listed.setIfInBounds i true) (a.put oi.dst v) w→wpAnyS P ops Q S lo hi (fuel+1) listed a w:=by
 intro fuel
 induction fuel with
 | zero =>
  intro listed a w _ _ _ hr hy hS H;refine⟨fun h=>(by rw [h] at hr;cases hr),fun j hj=>?_⟩;by_cases hji:j=i
  ·subst hji;exact hy.wpOp BU hS ⟨fun _ h=>h,H⟩
  ·have:=ready_mono hj hji
   rw [H.1] at this
   cases this
 | succ fuel ih =>
  intro listed a w hcl hlo hfree hr hy hS H;refine⟨fun h=>(by rw [h] at hr;cases hr),fun j hj=>?_⟩;by_cases hji:j=i
  ·subst hji;exact hy.wpOp BU hS ⟨fun _ h=>h,H⟩
  ·have h1:=H.2 j (ready_mono hj hji)
   obtain⟨Eu,oj,Dw,hall⟩:=mem_ready.1 hj;have hpi:listed.getD i true=false:=(mem_ready.1 hr).1
   have hnot:∀e∈oj.after,Region.binds .any e=true→e.on≠i:=fun e he hb heq=>by
    have h1:=hall e he hb;rw [heq] at h1;rcases ur i listed.size with h' | h'
    ·simp [h'] at hpi h1;rw [hpi] at h1;cases h1
    ·simp [O5 h'] at h1
   have hjl:j<ops.size:=(lF.1 Dw).1
   have Qg:lo≤j∧j<hi:=by
    refine⟨?_,?_⟩
    ·rcases ur j lo with h' | h'
     ·rw [hlo j h' hjl] at Eu;cases Eu
     ·exact h'
    ·rcases ur j hi with h' | h'
     ·exact h'
     ·have:=Kg hcl ops.size j (hW j h' hjl) (fun o ho e he hb=>by rw [Dw] at ho;cases ho;exact hall e he hb)
      rcases ur i listed.size with h'' | h''
      ·simp [h''] at hpi this;rw [hpi] at this;cases this
      ·simp [O5 h''] at this
   have h2:=wpOp_putIf Dw (hfree j oj Dw hji Eu hnot) (fun cs b=>hsel i oi cs b BU) (fun cs b=>hsel j oj cs b Dw) hQ hy h1
   have Kh:∀k ok,ops[k]? = some ok→k≠i→(listed.setIfInBounds j true).getD k true=false →
     (∀e∈ok.after,Region.binds .any e=true→e.on≠i)→oi.apart ops ok=true:=fun k ok hk hki hun hno=>by
    refine hfree k ok hk hki ?_ hno;by_cases hjk:j=k
    ·subst hjk;exact Eu
    ·rw [getD_set_ne true hjk] at hun;exact hun
   have anF:∀k,k<lo→k<ops.size→(listed.setIfInBounds j true).getD k true=true:=fun k h1 h2=>by
    by_cases hjk:j=k
    ·subst hjk;omega
    ·rw [getD_set_ne true hjk];exact hlo k h1 h2
   refine wpOp_mono (fun a' w' h3=>⟨fun _ _=>h3.2.1 Qg hS,ih (listed.setIfInBounds j true) a' w' (hcl.step hj) anF Kh (ready_mono hr (Ne.symm hji)) h3.1 (h3.2.1 Qg hS) ?_⟩) h2;rw [adH _ _ hji];exact h3.2.2
theorem abQ {i:Nat} {oi:Oper} {v:Value} (BU:ops[i]? = some oi) (hsel:∀(j:Nat) (o:Oper) cs b,ops[j]? = some o→o.op≠.select cs b)
  (hQ:∀c a w,Q (.panic c) (a.put oi.dst v) w→Q (.panic c) a w) :
  ∀(fuel:Nat) (listed:Array Bool) (a:Act) (w:World),
   (∀j oj,ops[j]? = some oj→j≠i→listed.getD j true=false→(∀e∈oj.after,Region.binds .any e=true→e.on≠i)→oi.apart ops oj=true) →
   i∈Region.ready .any ops listed→YieldsIf P ops (fun _=>True) oi v a →
   wpAnyS P ops Q S lo hi fuel (listed.setIfInBounds i true) (a.put oi.dst v) w→wpAnyS P ops Q S lo hi (fuel+1) listed a w:=by
 intro fuel
 induction fuel with
 | zero =>
  intro listed a w _ hr hy H;refine⟨fun h=>(by rw [h] at hr;cases hr),fun j hj=>?_⟩;by_cases hji:j=i
  ·subst hji;exact hy.wpOp BU trivial ⟨fun _ h=>h,H⟩
  ·have:=ready_mono hj hji
   rw [H.1] at this
   cases this
 | succ fuel ih =>
  intro listed a w hfree hr hy H;refine⟨fun h=>(by rw [h] at hr;cases hr),fun j hj=>?_⟩;by_cases hji:j=i
  ·subst hji;exact hy.wpOp BU trivial ⟨fun _ h=>h,H⟩
  ·have h1:=H.2 j (ready_mono hj hji)
   obtain⟨Eu,oj,Dw,hall⟩:=mem_ready.1 hj;have hpi:listed.getD i true=false:=(mem_ready.1 hr).1
   have hnot:∀e∈oj.after,Region.binds .any e=true→e.on≠i:=fun e he hb heq=>by
    have h1:=hall e he hb;rw [heq] at h1;rcases ur i listed.size with h' | h'
    ·simp [h'] at hpi h1;rw [hpi] at h1;cases h1
    ·simp [O5 h'] at h1
   have h2:=wpOp_putIf Dw (hfree j oj Dw hji Eu hnot) (fun cs b=>hsel i oi cs b BU) (fun cs b=>hsel j oj cs b Dw) hQ hy h1
   have Kh:∀k ok,ops[k]? = some ok→k≠i→(listed.setIfInBounds j true).getD k true=false →
     (∀e∈ok.after,Region.binds .any e=true→e.on≠i)→oi.apart ops ok=true:=fun k ok hk hki hun hno=>by
    refine hfree k ok hk hki ?_ hno;by_cases hjk:j=k
    ·subst hjk;exact Eu
    ·rw [getD_set_ne true hjk] at hun;exact hun
   refine wpOp_mono (fun a' w' h3=>⟨h3.2.1,ih (listed.setIfInBounds j true) a' w' Kh (ready_mono hr (Ne.symm hji)) h3.1 ?_⟩) h2;rw [adH _ _ hji];exact h3.2.2
theorem Oper.Zy {o:Oper} {a:Act} {w:World} {K K':Act→World→Prop} {Q':Exit→Act→World→Prop} (h:∀a w,K a w→K' a w) (hq:∀e a w,e≠.normal→Q e a w→Q' e a w)
  (hh:o.wp P a w K Q):o.wp P a w K' Q':=by
 have hout:LetsOut Q→LetsOut Q':=fun⟨a,w,h⟩=>⟨a,w,hq _ _ _ si h⟩;unfold Oper.wp at *;generalize (execOp a.eval o).run P w=r at *
 cases r with
 | ok n w' =>
  cases n<;>simp only [Oper.upon] at hh ⊢
  case value u=>exact h _ _ hh
  case skip=>exact h _ _ hh
  case defer d=>exact h _ _ hh
  case enter f args =>
   refine Calls.mono hh fun e w'' he=>?_
   cases e with
   | returned u=>exact h _ _ he
   | panicked c=>exact hq _ _ _ si he
   | outgrown=>exact hout he
  case row row args=>exact Rows.mono hh fun u w'' he=>h _ _ he
 | halt x w' =>
  cases x<;>simp only [Oper.upon] at hh ⊢
  case panic u=>exact hq _ _ _ si hh
def forced (ops:Array Oper) (i:Nat):Nat→Bool
 | 0=>true
 | m+1=>(Region.ready .any ops (pre ops.size i)==[i])&&forced ops (i+1) m
theorem Vs {R Q':Exit→Act→World→Prop}:∀(seg:List Oper) (i fuel:Nat),(∀k,k<seg.length→ops[i+k]? = seg[k]?)→forced ops i seg.length=true→∀a w,wpList P ops R seg a w →
  (∀e a w,R e a w→e=.normal∧wpAny P .any ops Q' fuel (pre ops.size (i+seg.length)) a w)→wpAny P .any ops Q' (seg.length+fuel) (pre ops.size i) a w
 | [],i,fuel,_,_,a,w,h,hR=>by
  have:=(hR _ a w h).2
  simpa using this
 | o::seg,i,fuel,hs,hf,a,w,h,hR=>by
  simp only [jd,forced,aV,beq_iff_eq] at hf;have BU:ops[i]? = some o:=by simpa using hs 0 si
  rw [show (o::seg).length+fuel=(seg.length+fuel)+1 by simp;omega];refine wpAny_all hf.1 si fun j hj=>?_;have:j=i:=by simpa using hj
  subst this
  have ih:∀a w,wpList P ops R seg a w→wpAny P .any ops Q' (seg.length+fuel) ((pre ops.size j).setIfInBounds j true) a w:=fun a w hw=>by
   rw [N8];refine Vs seg (j+1) fuel (fun k hk=>?_) hf.2 a w hw (fun e a w hr=>?_)
   ·have:=hs (k+1) (by simpa using hk)
    rw [show j+1+k=j+(k+1) by omega];simpa using this
   ·have:=hR e a w hr
    rw [show j+1+seg.length=j+(o::seg).length by simp;omega];exact this
  have hq:∀e a w,e≠.normal→R e a w→Q' e a w:=fun e a w hne hr=>absurd (hR e a w hr).1 hne;unfold wpOp;simp only [BU];have h':(if Region.wanted o (yielded ops a.tmps) then o.wp P a w (wpList P ops R seg) R∨(o.asks P a w∧LetsOut R) else wpList P ops R seg (a.put o.dst undef) w):=h;split
  ·rename_i hw
   rw [if_pos hw] at h';rcases h' with h' | ⟨_,a1,w1,h1⟩
   ·exact .inl (Oper.Zy ih hq h')
   ·exact absurd (hR _ _ _ h1).1 si
  ·rename_i hw
   rw [if_neg hw] at h';exact ih _ _ h'
end
end Go.RT
namespace Go.RT
variable {E : TEnv}
def af5 (j:Nat):List (Nat × Ty)→Option Ty
 | []=>none
 | (q,t)::ps=>cond (Nat.beq q j) (some t) (af5 j ps)
def Ki (j:Nat):List (Nat × Cn E)→Bool
 | []=>true
 | p::cs=>!(Nat.beq p.1 j)&&Ki j cs
theorem Kj {j:Nat}:∀ {cs:List (Nat × Cn E)},Ki j cs=true→∀c,(j,c)∉cs
 | [],_,_,h=>nomatch h
 | p::cs,h,c,hm=>by
  simp only [Ki,aV,nq] at h;rcases fK.1 hm with e | hm
  ·rw [←e,uY] at h;exact nomatch h.1
  ·exact Kj h.2 c hm
def Vt (j j':Nat):List (Nat × Cn E)→List (Nat × Cn E)
 | []=>[]
 | p::cs=>cond (Nat.beq p.1 j) (Vt j j' cs) (cond (Nat.beq p.1 j') ((j,p.2)::Vt j j' cs) (p::Vt j j' cs))
theorem acX {j j':Nat}:∀ {cs:List (Nat × Cn E)} {q:Nat} {x:Cn E},(q,x)∈Vt j j' cs→(q=j∧(j',x)∈cs)∨(q≠j∧q≠j'∧(q,x)∈cs)
 | p::cs,q,x,h=>by
  rw [Vt] at h;have next:(q,x)∈Vt j j' cs→(q=j∧(j',x)∈p::cs)∨(q≠j∧q≠j'∧(q,x)∈p::cs):=fun h=>(acX h).imp (fun⟨a,b⟩=>⟨a,jS _ b⟩) fun⟨a,b,c⟩=>⟨a,b,jS _ c⟩
  cases h1:Nat.beq p.1 j<;>rw [h1] at h
  ·cases h2:Nat.beq p.1 j'<;>rw [h2] at h
   ·rcases fK.1 h with e | h
    ·rw [←e] at h1 h2
     exact .inr ⟨fun e=>(by rw [e,uY] at h1;cases h1),fun e=>(by rw [e,uY] at h2;cases h2),by rw [e];exact nr ..⟩
    ·exact next h
   ·rcases fK.1 h with e | h
    ·cases e
     exact .inl ⟨rfl,by rw [←bt h2];exact nr ..⟩
    ·exact next h
  ·exact next h
 | [],_,_,h=>nomatch h
def Qh (c:Cut) (n0:Nat) (i:Nat) (p:PT) (st:TS E):TS E:=match p,st.t[i]? with
 | .one (.bn j _),some (.bn j' v T xs)=>match st.g[j]?,st.g[j']? with
  | some g,some g'=>cond (!(Nat.beq j' j)&&(Nat.ble n0 j'&&(Nat.beq g'.ai v&&(Nat.beq g.e g'.e&&(Nat.beq g.k g'.k&&(Ki j st.c&&Ki j' st.c))))))
    { st with t:=st.t.set i (.bn j (g.ai+1) T xs),g:=(st.g.set j' { g' with ai:=g'.ai+1 }).set j { g with ai:=g.ai+1 } } st
  | _,_=>st
 | .one (.bn j T),some (.val (.slice none 0 0))=>match st.g[j]? with
  | some g=>cond (Ki j st.c) { st with t:=st.t.set i (.bn j (g.ai+1) T []),g:=st.g.set j { g with ai:=g.ai+1 } } st
  | none=>st
 | .one (.cw j),some (.cw j' v)=>match st.g[j]?,st.g[j']? with
  | some g,some g'=>cond (!(Nat.beq j' j)&&(Nat.ble n0 j'&&(Nat.beq g'.ai v&&(Nat.beq g.e g'.e&&Nat.beq g.k g'.k))))
    { st with t:=st.t.set i (.cw j (g.ai+1)),g:=(st.g.set j' { g' with ai:=g'.ai+1 }).set j { g with ai:=g.ai+1 },c:=Vt j j' st.c } st
  | _,_=>st
 | .one (.cw j),some (.val (.slice none 0 0))=>match c.rows[j]?,af5 j c.soft with
  | some (some (e,_)),some T=>cond (Nat.beq st.g.length j&&Nat.blt 0 (T.size E)) { st with t:=st.t.set i (.cw st.g.length 0),g:=st.g++[⟨0,e,T.size E⟩],c:=(st.g.length,⟨T,[]⟩)::st.c } st
  | _,_=>st
 | .one (.dat t),some (.cw j v)=>{ (mY (.dat t) (.cw j v) st).2 with t:=st.t.set i (mY (.dat t) (.cw j v) st).1 }
 | .one (.dat t),some (.jz j v k lo n)=>{ (mY (.dat t) (.jz j v k lo n) st).2 with t:=st.t.set i (mY (.dat t) (.jz j v k lo n) st).1 }
 | _,_=>st
def X8 (c:Cut) (n0:Nat):List (Nat × PT)→TS E→TS E
 | [],st=>st
 | (i,p)::vs,st=>X8 c n0 vs (Qh c n0 i p st)
def Cut.pack (c:Cut) (aQ st:TS E):Option (dens E c.tys):=match c.leaves aQ (X8 c aQ.g.length c.vars st) with
 | some ls=>getAll c.tys ls
 | none=>none
def Cut.un (c:Cut) (W:List Nat) (aQ:TS E) (x:dens E c.tys):TS E:=c.unpack W aQ (az c.tys x)
def Cut.okW (c:Cut) (W:List Nat):Bool:=c.vars.all fun p=>W.elem p.1
theorem zS (n:Rn):∀(bs:List (Option BT)) (r0:Nat) (H:List (cV E)) (ls:List (Lf E)) (r:Nat),r<bs.length→r0+r∉wZ r0 bs→r<H.length→(cu n bs H ls)[r]? = H[r]?
 | [],_,_,_,_,h,_,_=>by simp at h
 | none::bs,r0,H,ls,0,_,_,h=>by cases H with | nil=>simp at h | cons x H=>simp [cu]
 | none::bs,r0,H,ls,r+1,h1,h2,h3=>by
  cases H with
  | nil=>simp at h3
  | cons x H =>
   have:=zS n bs (r0+1) H ls r (by simpa using h1) (by rw [show r0+1+r=r0+(r+1) by omega];exact h2) (by simpa using h3)
   simpa [cu] using this
 | some t::bs,r0,H,ls,0,_,h2,_=>(h2 (by simp [wZ])).elim
 | some t::bs,r0,H,ls,r+1,h1,h2,h3=>by
  cases H with
  | nil=>simp at h3
  | cons x H =>
   have:=zS n bs (r0+1) H (t.put n ls).2 r (by simpa using h1) (by rw [show r0+1+r=r0+(r+1) by omega];exact fun hm=>h2 (by simp [wZ,hm])) (by simpa using h3);simpa [cu] using this
theorem M9 (n:Rn):∀(vs:List (Nat × PT)) (t:List (TV E)) (ls:List (Lf E)) (i:Nat),i∉vs.map (·.1)→(iZ n vs t ls).1[i]? = t[i]?
 | [],t,ls,i,_=>rfl
 | (j,p)::vs,t,ls,i,h=>by
  simp only [eV,fK,not_or] at h;rw [iZ,M9 n vs _ _ i h.2,iB (fun e=>h.1 e.symm)]
theorem Qi (n:Rn):∀(vs:List (Nat × PT)) (t:List (TV E)) (ls:List (Lf E)),(iZ n vs t ls).1.length=t.length
 | [],t,ls=>rfl
 | (j,p)::vs,t,ls=>by rw [iZ,Qi n vs];simp
theorem Qj (W:List Nat):∀(i:Nat) (l:List (TV E)) (j:Nat),(i+j)∉W→(jt W i l)[j]? = l[j]?
 | _,[],j,_=>rfl
 | i,d::ds,0,h=>by
  rw [lE] at h
  have:W.elem i=false:=by
   cases hh:W.elem i with
   | false=>rfl
   | true=>exact (h (Eh hh)).elim
  show (cond (W.elem i) TV.any d::jt W (i+1) ds)[0]? = _;rw [this]
  rfl
 | i,d::ds,j+1,h=>by
  have:=Qj W (i+1) ds j (by rw [show i+1+j=i+(j+1) by omega];exact h);simpa [jt] using this
theorem Cut.aeD {c:Cut} {aQ st:TS E} {ls:List (Lf E)} (h:c.leaves aQ st=some ls):aQ.H.length≤c.boxes.length:=by
 unfold Cut.leaves at h;cases hc:(below c.rows.length c.soft&&(Nat.ble aQ.H.length c.boxes.length&&(Nat.ble aQ.g.length c.rows.length&&tD c.rows aQ.g st.g)))<;>rw [hc] at h<;>simp only [cond_true,cond_false] at h
 ·cases h
 simp only [aV] at hc;exact ef hc.2.1
theorem Cut.Vu {c:Cut} {W:List Nat} {aQ st:TS E} {ls ls':List (Lf E)} (hW:c.okW W=true) (h:c.leaves aQ st=some ls):Fr W true aQ (c.unpack W aQ ls'):=by
 have hl:=Cut.aeD h;refine⟨?_,fun i hi=>?_,⟨wZ 0 c.boxes,rfl,fun r hr hd=>?_⟩,?_,fun _=>rfl⟩
 ·show ((iZ _ c.vars (jt W 0 aQ.t) ls').1).length=_
  rw [Qi,BN]
 ·show ((iZ _ c.vars (jt W 0 aQ.t) ls').1)[i]? = _
  rw [M9 _ _ _ _ i (fun hm=>?_),Qj W 0 aQ.t i (by rw [fC];exact hi)];obtain⟨p,hp,rfl⟩:=p8.1 hm;exact hi (Eh (nk.1 hW p hp))
 ·exact zS _ c.boxes 0 aQ.H _ r om (by rw [fC];exact hd) hr
 ·show aQ.H.length≤(cu _ c.boxes aQ.H _).length
  rw [jL];exact hl
theorem Rel.anG {w0 w:World} {G0 G G1:au} {st fM:TS E} {a:Act} (hr:Rel E w0 G0 st a w G) (hc:kq st fM) (cJ:Rel E w0 G0 fM a w G1) {i:Nat} {d d1:TV E} (hi:st.t[i]? = some d) (hv:∀v,VT E w G d v→VT E w G1 d1 v) :
  Rel E w0 G0 { fM with t:=st.t.set i d1 } a w G1:=by
 obtain⟨c',rfl⟩:=hc;refine⟨cJ.cK,by simpa using cJ.size,fun j d' hj=>?_,cJ.defers,cJ.boxes,cJ.fix,cJ.pins,cJ.dI⟩;simp only [NB] at hj;by_cases hij:i=j
 ·subst hij
  have hlt:i<st.t.length:=(bS.1 hi).1;simp [hlt] at hj;subst hj;exact hv _ (hr.tmps i _ hi)
 ·rw [if_neg hij] at hj
  exact cJ.tmps j d' hj
theorem Rel.Zz {w0 w:World} {G0 G:au} {st:TS E} {a:Act} (h:Rel E w0 G0 st a w G) {j:Nat} {x x':aZ} {hd hd':Value} (c':List (Nat × Cn E)) (hj:G.g[j]? = some (x,hd)) (hlt:x.ai<x'.ai) (hok:tv E w G x' hd') (rT:∀i c,(i,c)∈c'→∃y z,(G.g.set j (x',hd'))[i]? = some (y,z)∧lW E w G y z c)
  (hnew:∀b,hd'.ownBlock=some b→w0.heap.size≤b) (hap:∀(m:Nat) y z b,m≠j→G.g[m]? = some (y,z)→z.ownBlock=some b→hd'.ownBlock≠some b) :
  Rel E w0 G0 { st with g:=st.g.set j x',c:=c' } a w { G with g:=G.g.set j (x',hd') }:=by
 have hjl:j<G.g.length:=(bS.1 hj).1
 have at':∀(m:Nat) y z,(G.g.set j (x',hd'))[m]? = some (y,z)→(m=j∧y=x'∧z=hd')∨(m≠j∧G.g[m]? = some (y,z)):=by
  intro m y z hm;by_cases e:m=j
  ·subst e
   simp [hjl] at hm;exact .inl ⟨rfl,hm.1.symm,hm.2.symm⟩
  ·rw [iB (fun q=>e q.symm)] at hm
   exact .inr ⟨e,hm⟩
 have hg:ez w G w { G with g:=G.g.set j (x',hd') }:=by
  refine⟨fun _ _ h=>h,fun _ _ _ _ h=>h,fun _ _ h=>h,fun m y z hm=>?_⟩;by_cases e:m=j
  ·subst e
   rw [hj] at hm;cases hm;exact⟨x',hd',by simp [hjl],Nat.le_of_lt hlt,fun e=>om⟩
  ·exact⟨y,z,by
    show (G.g.set j _)[m]? = _;rw [iB (fun q=>e q.symm)];exact hm,bM _,fun _=>rfl⟩
 have ev:=h.cK;refine⟨⟨ev.os,ev.tape,ev.output,ev.size,ev.old,ev.goes.trans hg,ev.jJ,ev.lH,fun m y z b hm hb=>?_⟩,h.size,fun m d hm=>(h.tmps m d hm).mono hg,h.defers.mono hg,?_,h.fix,h.pins,?_⟩
 ·rcases at' m y z hm with⟨-,-,rfl⟩ | ⟨-,hm⟩
  ·exact .inl (hnew b hb)
  ·exact ev.cY m y z b hm hb
 ·refine⟨h.boxes.len,?_,fun r b y hb hy=>(h.boxes.box r b y hb hy).mono hg rfl,h.boxes.lt,h.boxes.nodup,h.boxes.dH,fun m y z hm=>?_,fun m m' y z y' z' b hm hm' hb hb'=>?_,kE hg h.boxes.sU⟩
  ·show (G.g.set j (x',hd')).map (·.1)=st.g.set j x'
   rw [OY,h.boxes.gs]
  ·rcases at' m y z hm with⟨-,rfl,rfl⟩ | ⟨-,hm⟩
   ·exact hok
   ·exact h.boxes.grow m y z hm
  ·rcases at' m y z hm with⟨q1,-,q3⟩ | ⟨q1,q⟩<;>rcases at' m' y' z' hm' with⟨q1',-,q3'⟩ | ⟨q1',q'⟩
   ·rw [q1,q1']
   ·rw [q3] at hb
    exact (hap m' y' z' b q1' q' hb' hb).elim
   ·rw [q3'] at hb'
    exact (hap m y z b q1 q hb hb').elim
   ·exact h.boxes.apart m m' y z y' z' b q q' hb hb'
 ·exact fun i c hm=>rT i c hm
theorem Rel.LR {w0 w:World} {G0 G:au} {st:TS E} {a:Act} (h:Rel E w0 G0 st a w G) {j:Nat} {x x':aZ} {hd hd':Value} (hj:G.g[j]? = some (x,hd)) (hlt:x.ai<x'.ai) (hok:tv E w G x' hd') (rT:∀c,(j,c)∉st.c)
  (hnew:∀b,hd'.ownBlock=some b→w0.heap.size≤b) (hap:∀(m:Nat) y z b,m≠j→G.g[m]? = some (y,z)→z.ownBlock=some b→hd'.ownBlock≠some b) :
  Rel E w0 G0 { st with g:=st.g.set j x' } a w { G with g:=G.g.set j (x',hd') } :=
 h.Zz st.c hj hlt hok (fun i c hm=>by
  obtain⟨y,z,q1,q2⟩:=h.dI i c hm;have hne:i≠j:=fun e=>rT c (by subst e;exact hm);exact⟨y,z,by rw [iB (fun q=>hne q.symm)];exact q1,q2⟩) hnew hap
theorem rW {w:World} {G:au} (x:aZ):tv E w G x (.slice none 0 0) :=
 ⟨0,[],⟨si,.inl ⟨rfl,rfl⟩⟩,(fun a m e=>nomatch e),(fun b hb=>nomatch hb)⟩
theorem Rel.aeE {w0 w:World} {G0 G:au} {st:TS E} {a:Act} (h:Rel E w0 G0 st a w G) {i:Nat} {d1:TV E} (hv:VT E w G d1 (a.tmps.getD i undef)):Rel E w0 G0 { st with t:=st.t.set i d1 } a w G:=by
 refine⟨h.cK,by simpa using h.size,fun j d' hj=>?_,h.defers,h.boxes,h.fix,h.pins,h.dI⟩;simp only [NB] at hj;by_cases hij:i=j
 ·subst hij
  rw [if_pos rfl] at hj;split at hj
  ·cases hj;exact hv
  ·cases hj
 ·rw [if_neg hij] at hj
  exact h.tmps j d' hj
theorem ZA (c:Cut) (n0:Nat) (i:Nat) (p:PT) {w0 w:World} {G0 G:au} {st:TS E} {a:Act} (hn0:G0.g.length≤n0) (hr:Rel E w0 G0 st a w G):(∃G',Rel E w0 G0 (Qh c n0 i p st) a w G')∧Fr [i] true st (Qh c n0 i p st):=by
 have oR:(∃G',Rel E w0 G0 st a w G')∧Fr [i] true st st:=⟨⟨G,hr⟩,Fr.refl _ _ _⟩;have lI:∀(d:TV E) (j:Nat),j∉[i]→(st.t.set i d)[j]? = st.t[j]?:=fun d j hj=>iB (fun e=>hj (by simp [e]))
 have ak3:∀(t:Ty) (d:TV E),st.t[i]? = some d→(∃G',Rel E w0 G0 { (mY (.dat t) d st).2 with t:=st.t.set i (mY (.dat t) d st).1 } a w G')∧Fr [i] true st { (mY (.dat t) d st).2 with t:=st.t.set i (mY (.dat t) d st).1 }:=by
  intro t d hi;obtain⟨o1,G1,cJ,g1,v1⟩:=N5 (.dat t) d hr;refine⟨⟨G1,hr.anG o1 cJ hi v1⟩,?_⟩;obtain⟨c',tw⟩:=o1;rw [tw];exact⟨si,fun j hj=>lI _ j hj,⟨[],rfl,fun _ _ _=>rfl⟩,bM _,fun _=>rfl⟩
 unfold Qh;split
 ·rename_i j T0 j' v T xs hi
  split
  ·rename_i g g' hg hg'
   generalize hb:(!(Nat.beq j' j)&&(Nat.ble n0 j'&&(Nat.beq g'.ai v&&(Nat.beq g.e g'.e&&(Nat.beq g.k g'.k&&(Ki j st.c&&Ki j' st.c))))))=b;cases b
   ·exact oR
   simp only [aV,nq] at hb;obtain⟨b1,b2,b3,b4,b5,b6,b7⟩:=hb;have b1:j'≠j:=fun e=>by subst e;rw [uY] at b1;cases b1
   have b2:=ef b2;have b3:=bt b3;have b4:=bt b4;have b5:=bt b5;obtain⟨hd,hj⟩:=hr.tC hg;obtain⟨hd',hj'⟩:=hr.tC hg';have hv:=hr.tmps i _ hi;have ZB:=hr.boxes.grow j' g' hd' hj';have hjl:j<G.g.length:=(bS.1 hj).1;have r1:=hr.LR (x':={ g' with ai:=g'.ai+1 }) (hd':=.slice none 0 0) hj' (zF _) (rW _) (Kj b7) (fun b hb=>nomatch hb) (fun _ _ _ _ _ _ _ hb=>nomatch hb)
   have r2:=r1.LR (j:=j) (x:=g) (hd:=hd) (x':={ g with ai:=g.ai+1 }) (hd':=hd') (by
     show (G.g.set j' _)[j]? = _;rw [iB b1];exact hj) (zF _) (by
     obtain⟨n,xs',g1,g2,g3⟩:=ZB;exact⟨n,xs',by dsimp only;rw [b4,b5];exact g1,fun a m h=>by dsimp only;rw [b4];exact g2 a m h,fun b hb=>by dsimp only;rw [b5];exact g3 b hb⟩) (Kj b6) (fun b hb=>by
     rcases hr.cK.cY j' g' hd' b hj' hb with q | ⟨x0,h0,q,-⟩
     ·exact q
     ·have:=(bS.1 q).1;omega) (fun m y z b hm BM hb hb'=>by
     have BM:(G.g.set j' ({ g' with ai:=g'.ai+1 },Value.slice none 0 0))[m]? = some (y,z):=BM;by_cases e:m=j'
     ·subst e
      rw [Sd (bS.1 hj').1] at BM;cases BM;cases hb
     ·rw [iB (fun q=>e q.symm)] at BM
      exact e (hr.boxes.apart m j' y z g' hd' b BM hj' hb hb'))
   refine⟨⟨_,r2.aeE (d1:=.bn j (g.ai+1) T xs) ?_⟩,si,fun q hq=>lI _ q hq,⟨[],rfl,fun _ _ _=>rfl⟩,bM _,fun _=>rfl⟩;simp only [VT] at hv ⊢;obtain⟨h1,x,h,hx,hle,heq⟩:=hv;rw [hj'] at hx;cases hx;exact⟨h1,{ g with ai:=g.ai+1 },hd',by simp [hjl],bM _,fun _=>heq b3.symm⟩
  ·exact oR
 ·rename_i j T hi
  split
  ·rename_i g hg
   cases hb:Ki j st.c
   ·exact oR
   obtain⟨hd,hj⟩:=hr.tC hg;have hjl:j<G.g.length:=(bS.1 hj).1;have hv:=hr.tmps i _ hi;simp only [VT] at hv;have r1:=hr.LR (x':={ g with ai:=g.ai+1 }) (hd':=.slice none 0 0) hj (zF _) (rW _) (Kj hb) (fun b hb=>nomatch hb) (fun _ _ _ _ _ _ _ hb=>nomatch hb);refine⟨⟨_,r1.aeE (d1:=.bn j (g.ai+1) T []) ?_⟩,si,fun q hq=>lI _ q hq,⟨[],rfl,fun _ _ _=>rfl⟩,bM _,fun _=>rfl⟩;rw [hv];simp only [VT];exact⟨.oN _ _,{ g with ai:=g.ai+1 },.slice none 0 0,by simp [hjl],bM _,fun _=>rfl⟩
  ·exact oR
 ·rename_i j j' v hi
  split
  ·rename_i g g' hg hg'
   generalize hb:(!(Nat.beq j' j)&&(Nat.ble n0 j'&&(Nat.beq g'.ai v&&(Nat.beq g.e g'.e&&Nat.beq g.k g'.k))))=b;cases b
   ·exact oR
   simp only [aV,nq] at hb;obtain⟨b1,b2,b3,b4,b5⟩:=hb;have b1:j'≠j:=fun e=>by subst e;rw [uY] at b1;cases b1
   have b2:=ef b2;have b3:=bt b3;have b4:=bt b4;have b5:=bt b5;obtain⟨hd,hj⟩:=hr.tC hg;obtain⟨hd',hj'⟩:=hr.tC hg';have hv:=hr.tmps i _ hi;have ZB:=hr.boxes.grow j' g' hd' hj';have hjl:j<G.g.length:=(bS.1 hj).1;have r1:=hr.Zz (x':={ g' with ai:=g'.ai+1 }) (hd':=.slice none 0 0) [] hj' (zF _) (rW _) (fun _ _ h=>nomatch h) (fun b hb=>nomatch hb) (fun _ _ _ _ _ _ _ hb=>nomatch hb)
   have r2:=r1.Zz (j:=j) (x:=g) (hd:=hd) (x':={ g with ai:=g.ai+1 }) (hd':=hd') (Vt j j' st.c) (by
     show (G.g.set j' _)[j]? = _;rw [iB b1];exact hj) (zF _) (by
     obtain⟨n,xs',g1,g2,g3⟩:=ZB;exact⟨n,xs',by dsimp only;rw [b4,b5];exact g1,fun a m h=>by dsimp only;rw [b4];exact g2 a m h,fun b hb=>by dsimp only;rw [b5];exact g3 b hb⟩) (fun q x hm=>by
     show ∃y z,((G.g.set j' _).set j _)[q]? = some (y,z)∧lW E w G y z x;rcases acX hm with⟨rfl,hm2⟩ | ⟨h1,h2,hm2⟩
     ·obtain⟨y,z,q1,q2⟩:=hr.dI j' x hm2
      rw [hj'] at q1;cases q1;refine⟨_,_,by rw [Sd (by simpa using hjl)],?_⟩;unfold lW at q2 ⊢;dsimp only;rw [b4,b5];exact q2
     ·obtain⟨y,z,q1,q2⟩:=hr.dI q x hm2
      exact⟨y,z,by rw [iB (fun e=>h1 e.symm),iB (fun e=>h2 e.symm)];exact q1,q2⟩) (fun b hb=>by
     rcases hr.cK.cY j' g' hd' b hj' hb with q | ⟨x0,h0,q,-⟩
     ·exact q
     ·have:=(bS.1 q).1;omega) (fun m y z b hm BM hb hb'=>by
     have BM:(G.g.set j' ({ g' with ai:=g'.ai+1 },Value.slice none 0 0))[m]? = some (y,z):=BM;by_cases e:m=j'
     ·subst e
      rw [Sd (bS.1 hj').1] at BM;cases BM;cases hb
     ·rw [iB (fun q=>e q.symm)] at BM
      exact e (hr.boxes.apart m j' y z g' hd' b BM hj' hb hb'))
   refine⟨⟨_,r2.aeE (d1:=.cw j (g.ai+1)) ?_⟩,si,fun q hq=>lI _ q hq,⟨[],rfl,fun _ _ _=>rfl⟩,bM _,fun _=>rfl⟩;simp only [VT] at hv ⊢;obtain⟨x,h,hx,hle,h1,heq⟩:=hv;rw [hj'] at hx;cases hx;exact⟨{ g with ai:=g.ai+1 },hd',by simp [hjl],bM _,h1,fun _=>heq b3.symm⟩
  ·exact oR
 ·rename_i j hi
  split
  ·rename_i e k T h1 h2
   cases hb:(Nat.beq st.g.length j&&Nat.blt 0 (T.size E))
   ·exact oR
   ·rw [aV] at hb
    exact⟨hr.af3 hi e T (ef hb.2),⟨si,fun j hj=>lI _ j hj,⟨[],rfl,fun _ _ _=>rfl⟩,bM _,fun _=>rfl⟩⟩
  ·exact oR
 ·rename_i hi
  exact ak3 _ _ hi
 ·rename_i hi
  exact ak3 _ _ hi
 ·exact oR
theorem ZC (c:Cut) (n0:Nat) {W:List Nat} {w0 w:World} {G0:au} {a:Act} (hn0:G0.g.length≤n0):∀(vs:List (Nat × PT)),(∀p∈vs,p.1∈W)→∀ {st:TS E} {G:au},Rel E w0 G0 st a w G→(∃G',Rel E w0 G0 (X8 c n0 vs st) a w G')∧Fr W true st (X8 c n0 vs st)
 | [],_,st,G,hr=>⟨⟨G,hr⟩,Fr.refl _ _ _⟩
 | (i,p)::vs,hW,st,G,hr=>by
  obtain⟨⟨G1,cJ⟩,f1⟩:=ZA c n0 i p hn0 hr;obtain⟨h2,f2⟩:=ZC c n0 hn0 vs (fun q hq=>hW q (by simp [hq])) cJ;exact⟨h2,Fr.trans f1 f2 (fun j hj=>by simp at hj;subst hj;exact hW (j,p) si) (fun j hj=>hj) (fun h=>⟨rfl,h⟩)⟩
theorem uy (hE:E.Ok) {c:Cut} {W:List Nat} {w0 w:World} {G0 G:au} {aQ st:TS E} {a:Act} {x:dens E c.tys} (hp:Pre G0 aQ) (hr:Rel E w0 G0 st a w G) (hF:Fr W true aQ st) (hW:c.okW W=true) (h:c.pack aQ st=some x) :
  (∃G2,Rel E w0 G0 (c.un W aQ x) a w G2)∧Fr W true aQ (c.un W aQ x):=by
 unfold Cut.pack at h;split at h<;>try (cases h;done)
 rename_i ls hls
 obtain⟨⟨G1,hr⟩,hF1⟩:=ZC (W:=W) c aQ.g.length (by
  rcases ur aQ.g.length G0.g.length with hlt | hge
  ·obtain⟨x,hx,-⟩:=hp.rows aQ.g.length _ _ (bK hlt)
   rw [uX (bM _)] at hx;cases hx
  ·exact hge) c.vars (fun p hp=>Eh (nk.1 hW p hp)) hr
 have hF:=Fr.trans (W:=W) (n:=true) hF hF1 (fun _ h=>h) (fun _ h=>h) (fun h=>⟨h,h⟩);obtain⟨D,hD,hH⟩:=hF.d;obtain⟨G2,hR,-⟩:=Rel.cut hE (W:=W) hp hr hF.len hF.keep hD hH (hF.df rfl) hls;have hput:=y9 _ h;unfold Cut.un;rw [hput];exact⟨⟨G2,hR⟩,Cut.Vu hW hls⟩
def SP {R:Type} (X:Cx E) (st:TS E) (o:Oper) (k:TS E→Option R):Option R :=
 match PZ X.P X.ty st o.op with
 | some (c,d)=>rqP (LQ st o.op) c (k { st with t:=br st.t o.dst d })
 | none=>match o.op with
  | .pick c x y=>match st.ev c with
   | .dat .bool b=>cond b (k { st with t:=br st.t o.dst (st.ev x) }) (k { st with t:=br st.t o.dst (st.ev y) })
   | _=>none
  | _=>none
def qld (P:Program) (st:TS E):Op→Option (Bool × TV E)
 | .load t x=>match aB P t,st.ev x with
  | some i,.dK j ai k ix off=>match st.g[j]?,fL st.c j with
   | some g,some c=>match TV.part c.1 (c.2.getD ix (c.1.dflt E)) i.isAgg i.size off with
    | some d=>some (Nat.beq g.ai ai&&Nat.beq k (c.1.size E),d)
    | none=>none
   | _,_=>none
  | _,_=>none
 | _=>none
def SQ {R:Type} (X:Cx E) (st:TS E) (o:Oper) (k:TS E→Option R):Option R :=
 match qld X.P st o.op with
 | some (c,d)=>rqP (LQ st o.op) c (k { st with t:=br st.t o.dst d })
 | none=>SP X st o k
def pO {R:Type} (X:Cx E) (all:Array Oper):List Oper→TS E→(TS E→Option R)→Option R
 | [],st,k=>k st
 | o::rest,st,k=>match o.guard with
  | none=>SQ X st o (fun st'=>pO X all rest st' k)
  | some (j,want)=>match (all[j]?).bind (·.dst) with
   | some t=>match st.at t with
    | .dat .bool b=>cond b
      (cond want (SQ X { st with t:=st.t.set t (.dat .bool true) } o (fun st'=>pO X all rest st' k))
       (pO X all rest { st with t:=br (st.t.set t (.dat .bool true)) o.dst (.val undef) } k))
      (cond want (pO X all rest { st with t:=br (st.t.set t (.dat .bool false)) o.dst (.val undef) } k)
       (SQ X { st with t:=st.t.set t (.dat .bool false) } o (fun st'=>pO X all rest st' k)))
    | .val (.bool _)=>none
    | .val _=>pO X all rest { st with t:=br st.t o.dst (.val undef) } k
    | _=>none
   | none=>none
def af6 (ops:Array Oper) (i:Nat):Bool:=match ops[i]? with
 | some o=>!(Pu o.op)
 | none=>false
def takes (ops:Array Oper) (hi:Nat):Nat→Nat→Bool
 | _,0=>true
 | i,m+1=>(Region.free .any ops (pre ops.size i) i&&(Region.ready .any ops (pre ops.size i)).contains i&&(af6 ops i||(List.range' hi (ops.size - hi)).all (fun j=>waits ops ops.size j i)))&&takes ops hi (i+1) m
def backward (ops:Array Oper):Bool:=(List.range ops.size).all fun j=>match ops[j]? with
 | some o=>o.after.all fun e=>!(Region.binds .any e)||Nat.blt e.on j
 | none=>true
structure aeF where
 q:Bool
 m:Nat
 c:Option Cut
noncomputable def ZD {R:Type} (X:Cx E) (l:List Oper) (i:Nat) (q:Bool) (m:Nat) (st:TS E) (k:TS E→Option R):Option R :=
 cond q (rq ((Region.noSelect l.toArray&&backward l.toArray&&takes l.toArray (i+m) i m)&&Nat.ble (i+m) l.length) (pO X l.toArray ((l.drop i).take m) st k))
  (rq (forced l.toArray i m&&Nat.ble (i+m) l.length) (nN X l.toArray ((l.drop i).take m) st (eM k fun _ _=>none)))
noncomputable def GP {R:Type} (X:Cx E) (l:List Oper):Nat→List aeF→TS E→(TS E→Option R)→Option R
 | i,[],st,k=>cond (Nat.beq i l.length) (k st) none
 | i,s::ss,st,k=>match s.c with
  | none=>ZD X l i s.q s.m st (fun st'=>GP X l (i+s.m) ss st' k)
  | some c=>rq (c.okW (cC l.toArray ((l.drop i).take s.m))&&bz l) ((ZD X l i s.q s.m st (fun st'=>c.pack st st')).bind fun x=>GP X l (i+s.m) ss (c.un (cC l.toArray ((l.drop i).take s.m)) st x) k)
section
variable {X : Cx E} {st : TS E}
def jM (Q:TS E→Prop):Ex E→TS E→Prop:=fun x s=>x=.normal∧Q s
theorem bD.jM {w0:World} {G0:au} {e:Exit} {a:Act} {w:World} {R:TS E→Prop} (h:bD E w0 G0 (fun x s=>x=.normal∧R s) e a w):e=.normal:=by
 obtain⟨x,s,G,he,_,rfl,_⟩:=h;cases e<;>first | rfl | exact he.elim
def rX (w0:World) (G0:au) (P:Program) (ops:Array Oper) (i:Nat) (st:TS E) (Q:TS E→Prop):Prop :=
 ∀a w G,Rel E w0 G0 st a w G→wpAny P .any ops (bD E w0 G0 (jM Q)) (ops.size - i) (pre ops.size i) a w
theorem rX.done {w0:World} {G0:au} {P:Program} {l:List Oper} {Q:TS E→Prop} (i:Nat) (hi:i=l.length) (h:Q st):rX w0 G0 P l.toArray i st Q:=by
 subst hi;intro a w G hr;have:l.toArray.size - l.length=0:=by simp
 rw [this];refine⟨?_,.normal,st,G,trivial,hr,rfl,h⟩;apply List.eq_nil_iff_forall_not_mem.2;intro j hj;obtain⟨h1,o,ho,_⟩:=mem_ready.1 hj;have hlt:j<l.length:=by simpa using (lF.1 ho).1
 rw [AP hlt (by simpa using hlt)] at h1;cases h1
theorem acY {l:List Oper} {i m:Nat} (hm:i+m≤l.length) (k:Nat) (hk:k<((l.drop i).take m).length):l.toArray[i+k]? = ((l.drop i).take m)[k]?:=by
 have hk':k<m:=by simp at hk;omega
 simp [hk',sQ]
theorem aeG {ops:Array Oper} (h:backward ops=true) (i:Nat):Fz ops (pre ops.size i):=by
 intro j o ho hj e he hb;have hlt:j<ops.size:=(lF.1 ho).1;have h1:=nk.1 h j (List.mem_range.2 hlt);simp only [ho] at h1;have h2:=Array.all_eq_true_iff_forall_mem.1 h1 e he;simp only [hb,Bv,Lt] at h2;have h3:=rV.1 h2
 have hji:j<i:=by
  rcases ur j i with h' | h'
  ·exact h'
  ·have:=ajz h' hlt
   rw [uo] at this hj
   cases hx:(pre ops.size i)[j]? with
   | none=>rw [hx] at this;cases this
   | some b=>rw [hx] at this hj;simp at this hj;rw [this] at hj;cases hj
 exact AP om om false
theorem Qk {R:Type} (hX:X.Ok) {o:Oper} {k:TS E→Option R} {r:R} (h:SP X st o k=some r) {w0 w:World} {G0 G:au} {a:Act} (hr:Rel E w0 G0 st a w G) :
  ∃v st',(∀w',Di o w w'→(execOp a.eval o).run X.P w'=.ok (.value v) w')∧Rel E w0 G0 st' (a.put o.dst v) w G∧k st'=some r∧Fr (eH o.dst) true st st':=by
 unfold SP at h;split at h
 ·rename_i pc pd hp
  obtain⟨h1,h2⟩:=BS h;obtain⟨v,hv,hrun⟩:=M7 (P:=X.P) hX.E hr hp h1;exact⟨v,_,hrun,hr.put hv o.dst,h2,Fr.put _ _ _⟩
 ·split at h<;>try (cases h;done)
  rename_i c x y ho;split at h<;>try (cases h;done)
  rename_i b hb;have hv:=hr.ev c;rw [hb] at hv;have hv:=hv.iG
  have hrun:∀w',(execOp a.eval o).run X.P w'=.ok (.value (if b then a.eval x else a.eval y)) w':=fun w'=>by
   simp [execOp,ho,hv,asBool]
  cases b<;>simp only [cond_true,cond_false] at h
  ·exact⟨a.eval y,_,fun w' _=>hrun w',hr.put (hr.ev y) o.dst,h,Fr.put _ _ _⟩
  ·exact⟨a.eval x,_,fun w' _=>hrun w',hr.put (hr.ev x) o.dst,h,Fr.put _ _ _⟩
theorem aeH {R:Type} (hX:X.Ok) {o:Oper} {k:TS E→Option R} {r:R} (h:SQ X st o k=some r) {w0 w:World} {G0 G:au} {a:Act} (hr:Rel E w0 G0 st a w G) :
  ∃v st',(∀w',Di o w w'→(execOp a.eval o).run X.P w'=.ok (.value v) w')∧Rel E w0 G0 st' (a.put o.dst v) w G∧k st'=some r∧Fr (eH o.dst) true st st':=by
 unfold SQ at h;split at h
 ·rename_i pc pd hp
  obtain⟨h1,h2⟩:=BS h;cases ho:o.op<;>rw [ho] at hp<;>try (cases hp;done)
  rename_i t x;simp only [qld] at hp;split at hp<;>try (cases hp;done)
  rename_i i j ai k' ix off ht hx;split at hp<;>try (cases hp;done)
  rename_i g c hg hc;split at hp<;>try (cases hp;done)
  rename_i d hpart;cases hp;rw [aV] at h1;obtain rfl:=bt h1.1;obtain⟨v,hv,hrun⟩:=Dp hX.E hr ho ht hx hg hc (bt h1.2) hpart;exact⟨v,_,hrun,hr.put hv o.dst,h2,Fr.put _ _ _⟩
 ·exact Qk hX h hr
theorem abR {R:Type} (hX:X.Ok) {l:List Oper} {i m:Nat} {k:TS E→Option R} {r:R} {Q:TS E→Prop} (hs:(Region.noSelect l.toArray&&backward l.toArray&&takes l.toArray (i+m) i m)=true) (hm:i+m≤l.length)
  (h:pO X l.toArray ((l.drop i).take m) st k=some r) {w0 w:World} {G0 G:au} {a:Act} (cX:∀st',k st'=some r→Fr (cC l.toArray ((l.drop i).take m)) true st st'→rX w0 G0 X.P l.toArray (i+m) st' Q) (hr:Rel E w0 G0 st a w G) :
  wpAny X.P .any l.toArray (bD E w0 G0 (jM Q)) (l.toArray.size - i) (pre l.toArray.size i) a w:=by
 simp only [aV] at hs;obtain⟨⟨nK,hbk⟩,htk⟩:=hs;refine Qe (S:=fun w'=>cL w w') (lo:=i) (hi:=i+m) _ _ _ _ ?_;have hQp:∀c a w,¬ bD E w0 G0 (jM Q) (.panic c) a w:=fun c a w hp=>by have:=bD.jM hp;cases this
 have hlen:((l.drop i).take m).length=m:=by simp;omega
 have key:∀(seg:List Oper) (q:Nat) (s:TS E) (a:Act),(∀k,k<seg.length→l.toArray[q+k]? = seg[k]?)→q+seg.length=i+m→i≤q→takes l.toArray (i+m) q seg.length=true →
   Rel E w0 G0 s a w G→pO X l.toArray seg s k=some r→(∀st',k st'=some r→Fr (cC l.toArray seg) true s st'→rX w0 G0 X.P l.toArray (i+m) st' Q) →
   wpAnyS X.P l.toArray (bD E w0 G0 (jM Q)) (fun w'=>cL w w') i (i+m) (l.toArray.size - q) (pre l.toArray.size q) a w:=by
  intro seg
  induction seg with
  | nil =>
   intro q s a hsg hq hiq _ hr h cX;have hq:q=i+m:=by simpa using hq
   subst hq;refine Qf _ _ _ _ (fun k h1 h2=>AP h2 bx true) ?_
   exact cX s h (Fr.refl _ _ _) a w G hr
  | cons o seg ih =>
   intro q s a hsg hq hiq ht hr h cX;simp only [jd] at hq ht;simp only [takes,aV] at ht;obtain⟨⟨⟨hfr,hrd⟩,hwt⟩,ht'⟩:=ht;have hoq:l.toArray[q]? = some o:=by simpa using hsg 0 si
   have ak4:∀k,k<seg.length→l.toArray[(q+1)+k]? = seg[k]?:=fun k hk=>by
    have:=hsg (k+1) (by simpa using hk);rw [show q+1+k=q+(k+1) by omega];simpa using this
   rw [show l.toArray.size - q=(l.toArray.size - (q+1))+1 by simp;omega]
   have first:∀v,YieldsIf X.P l.toArray (fun w'=>Di o w w') o v a→wpAnyS X.P l.toArray (bD E w0 G0 (jM Q)) (fun w'=>cL w w') i (i+m) (l.toArray.size - (q+1)) (pre l.toArray.size (q+1)) (a.put o.dst v) w →
     wpAnyS X.P l.toArray (bD E w0 G0 (jM Q)) (fun w'=>cL w w') i (i+m) ((l.toArray.size - (q+1))+1) (pre l.toArray.size q) a w:=fun v hy hh=>by
    simp only [Ef] at hwt;rcases hwt with hnl | hwt
    ·have anH:Pu o.op=false:=by
      unfold af6 at hnl;rw [hoq] at hnl;simpa using hnl
     refine abQ (v:=v) hoq (Region.noSelect_spec nK) (fun c a w hp=>(hQp _ _ _ hp).elim) _ _ a w (Region.free_spec hoq hfr) (by simpa using hrd) ?_ ?_
     ·rcases hy with⟨h1,h2⟩ | hy
      ·exact .inl ⟨h1,fun w' _=>h2 w' (fun hl=>by rw [anH] at hl;cases hl)⟩
      ·exact .inr hy
     ·rw [N8];exact hh
    refine wpAnyS_first (v:=v) hoq (Region.noSelect_spec nK) (fun c a w hp=>(hQp _ _ _ hp).elim) (fun j h1 h2=>?_) _ _ a w (aeG hbk q) (fun k h1 h2=>AP om h2 true) (Region.free_spec hoq hfr) (by simpa using hrd) ?_ (cL.refl w) ?_
    rotate_left
    ·rcases hy with⟨h1,h2⟩ | hy
     ·exact .inl ⟨h1,fun w' hs=>h2 w' (fun _=>hs)⟩
     ·exact .inr hy
    rotate_left
    ·exact nk.1 hwt j (by rw [List.mem_range'_1];omega)
    ·rw [N8];exact hh
   have run:∀(s1:TS E),Fr (fO l.toArray o) true s s1→Rel E w0 G0 s1 a w G→Region.wanted o (yielded l.toArray a.tmps)=true→SQ X s1 o (fun st'=>pO X l.toArray seg st' k)=some r →
     wpAnyS X.P l.toArray (bD E w0 G0 (jM Q)) (fun w'=>cL w w') i (i+m) ((l.toArray.size - (q+1))+1) (pre l.toArray.size q) a w:=by
    intro s1 f0 cJ hw h1;obtain⟨v,s2,hrun,hr2,h2,f1⟩:=aeH hX h1 cJ;refine first v (.inl ⟨hw,hrun⟩) (ih (q+1) s2 _ ak4 om om ht' hr2 h2 (fun st' hk f2=>cX st' hk ?_))
    exact (f0.trans f1 (W:=eH o.dst++fO l.toArray o) (n:=true) (fun i hi=>by simp [hi]) (fun i hi=>by simp [hi]) (fun h=>⟨rfl,rfl⟩)).trans f2 (fun i hi=>by
     simp only [cC,gz] at hi ⊢;rcases hi with hi | hi<;>simp [hi]) (fun i hi=>by simp [cC,hi]) (fun h=>⟨rfl,rfl⟩)
   have skip:∀(s1:TS E),Fr (fO l.toArray o) true s s1→Rel E w0 G0 s1 a w G→Region.wanted o (yielded l.toArray a.tmps)=false→pO X l.toArray seg { s1 with t:=br s1.t o.dst (.val undef) } k=some r →
     wpAnyS X.P l.toArray (bD E w0 G0 (jM Q)) (fun w'=>cL w w') i (i+m) ((l.toArray.size - (q+1))+1) (pre l.toArray.size q) a w:=by
    intro s1 f0 cJ hw h1;have hr2:=cJ.put (v:=undef) (d:=.val undef) (by simp only [VT]) o.dst;refine first undef (.inr ⟨hw,rfl⟩) (ih (q+1) _ _ ak4 om om ht' hr2 h1 (fun st' hk f2=>cX st' hk ?_))
    exact (f0.trans (Fr.put s1 o.dst (.val undef)) (W:=eH o.dst++fO l.toArray o) (n:=true) (fun i hi=>by simp [hi]) (fun i hi=>by simp [hi]) (fun h=>⟨rfl,rfl⟩)).trans f2 (fun i hi=>by
     simp only [cC,gz] at hi ⊢;rcases hi with hi | hi<;>simp [hi]) (fun i hi=>by simp [cC,hi]) (fun h=>⟨rfl,rfl⟩)
   simp only [pO] at h;split at h
   ·rename_i hg
    exact run s (Fr.refl _ _ _) hr (by simp [Region.wanted,hg]) h
   ·rename_i j want hg
    split at h<;>try (cases h;done)
    rename_i t ZE;have hgt:fO l.toArray o=[t]:=by unfold fO;rw [hg];simp only [ZE]
    split at h<;>try (cases h;done)
    ·rename_i b hb
     obtain⟨hw,hbv⟩:=Et hr hg ZE hb;have hl:=hr.lit hbv;have hfl:Fr (fO l.toArray o) true s { s with t:=s.t.set t (.dat .bool b) }:=by rw [hgt];exact Fr.lit s t _
     cases b<;>cases want<;>simp only [cond_true,cond_false] at h
     ·exact run _ hfl hl (by rw [hw];rfl) h
     ·exact skip _ hfl hl (by rw [hw];rfl) h
     ·exact skip _ hfl hl (by rw [hw];rfl) h
     ·exact run _ hfl hl (by rw [hw];rfl) h
    ·rename_i u hnb hu
     exact skip s (Fr.refl _ _ _) hr (GO hr hg ZE hu (fun b e=>hnb b e)) h
 exact key _ i st a (acY hm) (by rw [hlen]) (bM _) (by rw [hlen];exact htk) hr h cX
theorem Ql {R:Type} (hX:X.Ok) {l:List Oper} {i m:Nat} {q:Bool} {k:TS E→Option R} {r:R} {Q:TS E→Prop} {w0:World} {G0:au} (h:ZD X l i q m st k=some r)
  (cX:∀st',k st'=some r→Fr (cC l.toArray ((l.drop i).take m)) (bz ((l.drop i).take m)) st st'→rX w0 G0 X.P l.toArray (i+m) st' Q):rX w0 G0 X.P l.toArray i st Q:=by
 intro a w G hr;unfold ZD at h;cases q<;>simp only [cond_true,cond_false] at h
 ·obtain⟨h1,h2⟩:=b9 h
  rw [aV] at h1;have hm:=ef h1.2;have hlen:((l.drop i).take m).length=m:=by simp;omega
  have key:=Vs (P:=X.P) (Q':=bD E w0 G0 (jM Q)) ((l.drop i).take m) i (l.toArray.size - (i+m)) (acY hm) (by rw [hlen];exact h1.1) a w (mc hX h2 w0 G0 a w G hr) (fun e a w hp=>?_)
  ·rw [hlen] at key
   rwa [show m+(l.toArray.size - (i+m))=l.toArray.size - i by simp;omega] at key
  ·obtain⟨x,s,G',he,hr',hk,hf⟩:=hp
   cases x with
   | normal =>
    refine⟨by cases e<;>first | rfl | exact he.elim,?_⟩;rw [hlen]
    exact cX s hk hf a w G' hr'
   | _=>cases hk
 ·obtain⟨h1,h2⟩:=b9 h
  rw [aV] at h1;exact abR hX h1.1 (ef h1.2) h2 (fun st' hk hf=>cX st' hk (hf.wide (fun _ h=>h) (fun _=>rfl))) hr
theorem rX.mono {w0:World} {G0:au} {P:Program} {ops:Array Oper} {i:Nat} {Q Q':TS E→Prop} (hq:∀s,Q s→Q' s) (h:rX w0 G0 P ops i st Q):rX w0 G0 P ops i st Q':=by
 intro a w G hr
 have key:∀(fuel:Nat) (listed:Array Bool) (a:Act) (w:World) {Q1 Q2:Exit→Act→World→Prop},(∀e a w,Q1 e a w→Q2 e a w)→wpAny P .any ops Q1 fuel listed a w→wpAny P .any ops Q2 fuel listed a w:=by
  intro fuel
  induction fuel with
  | zero=>intro listed a w Q1 Q2 hq h;exact⟨h.1,hq _ _ _ h.2⟩
  | succ fuel ih =>
   intro listed a w Q1 Q2 hq h;refine⟨fun he=>hq _ _ _ (h.1 he),fun i hi=>?_⟩;have h1:=h.2 i hi;unfold wpOp at h1 ⊢;split
   ·rename_i ho;rw [ho] at h1;exact ih _ _ _ hq h1
   ·rename_i o ho
    rw [ho] at h1;simp only at h1;split
    ·rename_i hw
     rw [if_pos hw] at h1;rcases h1 with h1 | ⟨h1,a1,w1,h2⟩
     ·exact .inl (kG (fun a w h=>ih _ a w hq h) hq h1)
     ·exact .inr ⟨h1,a1,w1,hq _ _ _ h2⟩
    ·rename_i hw
     rw [if_neg hw] at h1;exact ih _ _ _ hq h1
 exact key _ _ _ _ (fun e a w hp=>bD.mono (fun x s hh=>⟨hh.1,hq _ hh.2⟩) hp) (h a w G hr)
theorem Bn {all:Array Oper}:∀(l:List Oper) (a b:Nat) (i:Nat),i∈cC all ((l.drop a).take b)→i∈cC all l
 | [],a,b,i,h=>by simp at h;exact h
 | o::l,0,0,i,h=>by simp [cC] at h
 | o::l,0,b+1,i,h=>by
  simp only [adI,XT,cC,gz] at h ⊢;rcases h with h | h | h
  ·exact .inl h
  ·exact .inr (.inl h)
  ·exact .inr (.inr (Bn l 0 b i (by simpa using h)))
 | o::l,a+1,b,i,h=>by
  simp only [cC,gz];exact .inr (.inr (Bn l a b i (by simpa using h)))
theorem vG:∀(l:List Oper) (a b:Nat),bz l=true→bz ((l.drop a).take b)=true
 | [],a,b,h=>by simp [bz]
 | o::l,0,0,h=>by simp [bz]
 | o::l,0,b+1,h=>by
  simp only [bz,aV] at h;simp only [adI,XT,bz,aV]
  exact⟨h.1,by simpa using vG l 0 b h.2⟩
 | o::l,a+1,b,h=>by
  simp only [bz,aV] at h;simpa using vG l a b h.2
theorem Ev {R:Type} (hX:X.Ok) {l:List Oper} {k:TS E→Option R} {r:R} {w0:World} {G0:au}:∀(ss:List aeF) (i:Nat) {st:TS E},GP X l i ss st k=some r →
  rX w0 G0 X.P l.toArray i st (fun st'=>k st'=some r∧Fr (cC l.toArray l) (bz l) st st')
 | [],i,st,h=>by
  simp only [GP] at h;cases hi:Nat.beq i l.length<;>rw [hi] at h<;>simp only [cond_true,cond_false] at h
  ·cases h
  exact rX.done i (bt hi) ⟨h,Fr.refl _ _ _⟩
 | s::ss,i,st,h=>by
  simp only [GP] at h;split at h
  ·refine Ql hX h fun st' hk hf=>?_
   refine rX.mono (fun s' hh=>⟨hh.1,hf.trans hh.2 (fun j hj=>Bn l i s.m j hj) (fun j hj=>hj) (fun hn=>⟨vG l i s.m hn,hn⟩)⟩) (Ev hX ss (i+s.m) hk)
  ·rename_i c hc
   obtain⟨h1,h2⟩:=b9 h;rw [aV] at h1
   cases hs:ZD X l i s.q s.m st (fun st'=>c.pack st st') with
   | none=>rw [hs] at h2;cases h2
   | some x =>
    rw [hs] at h2;dsimp only [Option.bind] at h2;intro a w G hr;have hpre:=hr.pre;refine Ql hX hs (fun st' hk hf=>?_) a w G hr;intro a' w' G' hr';obtain⟨⟨G2,hR⟩,hF⟩:=uy hX.E hpre hr' (hf.wide (fun _ h=>h) (fun _=>vG l i s.m h1.2)) h1.1 hk;exact rX.mono (fun s' hh=>⟨hh.1,hF.trans hh.2 (fun j hj=>Bn l i s.m j hj) (fun j hj=>hj) (fun hn=>⟨rfl,hn⟩)⟩) (Ev hX ss (i+s.m) h2) a' w' G2 hR
theorem aeI {R:Type} (hX:X.Ok) {id:Nat} {ops:Array Oper} {ss:List aeF} {k:TS E→Option R} {r:R} (h:GP X ops.toList 0 ss st k=some r) :
  Dh E X.P (.region id ops true) st (fun x st'=>x=.normal∧k st'=some r∧Fr (cC ops ops.toList) (bz ops.toList) st st'):=by
 intro w0 G0 a w G hr;have hs:cL w { w with drawn:=w.drawn+1 }:=⟨bM _,fun _ _=>rfl⟩;have hr':=hr.grow (w':={ w with drawn:=w.drawn+1 }) hs rfl rfl rfl G.pr (fun _ _ h=>h) (fun _ _ _ h=>h) (fun b o hp=>eF (hr.boxes.dH b o hp).1 hs.1);have h1:=Ev hX (w0:=w0) (G0:=G0) ss 0 h a _ _ hr';simp only [gY] at h1;refine wp_region_any hX.mix ?_;rw [ahD];exact h1
theorem gU.trans {w0 w1 w2:World} {G0 G1 G2:au} (h:gU w0 G0 w1 G1) (h':gU w1 G1 w2 G2):gU w0 G0 w2 G2:=by
 have zN:∀b,b<w0.heap.size→G1.zN b→G0.zN b:=by
  intro b hb hf;rcases hf with hf | ⟨x,hd,hm,hbk⟩
  ·obtain⟨q,hq,he⟩:=gZ hf
   have J5:G1.i[q]? = some b:=by rw [←he];exact bK hq
   by_cases kR:q<G0.i.length
   ·have e1:=h.goes.i q _ (bK kR)
    rw [J5] at e1;exact .inl (by rw [gC e1];exact ei kR)
   ·have:=h.lH q b om J5;omega
  ·obtain⟨j,hj,he⟩:=gZ hm
   rcases h.cY j x hd b (by rw [←he];exact bK hj) hbk with q | ⟨x0,h0,q1,q2⟩
   ·omega
   ·exact .inr ⟨x0,h0,ek q1,q2⟩
 refine⟨h'.os.trans h.os,h'.tape.trans h.tape,h'.output.trans h.output,kj h.size h'.size,fun b hb hn=>(h'.old b (eF hb h.size) (fun hf=>hn (zN b hb hf))).trans (h.old b hb hn),h.goes.trans h'.goes,fun b o hb hp=>?_,fun r b h1 h2=>?_,fun j x hd b hj hbk=>?_⟩
 ·rcases h'.jJ b o (eF hb h.size) hp with q | ⟨x,hd,hm,hbk⟩
  ·exact h.jJ b o hb q
  ·obtain⟨j,hj,he⟩:=gZ hm
   rcases h.cY j x hd b (by rw [←he];exact bK hj) hbk with q | ⟨x0,h0,q1,q2⟩
   ·omega
   ·exact .inr ⟨x0,h0,ek q1,q2⟩
 ·by_cases hr:r<G1.i.length
  ·have e1:=h'.goes.i r _ (bK hr)
   rw [h2] at e1;exact h.lH r b h1 (by rw [gC e1];exact bK hr)
  ·exact kj h.size (h'.lH r b om h2)
 ·rcases h'.cY j x hd b hj hbk with q | ⟨x0,h0,q1,q2⟩
  ·exact .inl (kj h.size q)
  ·exact h.cY j x0 h0 b q1 q2
theorem Rel.root {w0 w:World} {G0 G:au} {a:Act} (h:Rel E w0 G0 st a w G):Rel E w G { st with d:=[] } a w G :=
 ⟨gU.refl w G,h.size,h.tmps,h.defers,h.boxes,fun _ _ _ _=>rfl,h.P9,h.dI⟩
theorem Rel.Kk {w0 w w':World} {G0 G G':au} {a a':Act} {st':TS E} (h:Rel E w0 G0 st a w G) (h':Rel E w G st' a' w' G'):Rel E w0 G0 { st' with d:=st'.d++st.d } a' w' G' :=
 ⟨h.cK.trans h'.cK,h'.size,h'.tmps,h'.defers,h'.boxes,fun r b hb hd=>by
  have hd:r∉st'.d++st.d:=hd;rw [gz,not_or] at hd;exact (h'.fix r b (h.cK.goes.i r b hb) hd.1).trans (h.fix r b hb hd.2),h.pins,h'.dI⟩
theorem Fr.Kk {W:List Nat} {nd:Bool} {st':TS E} (h:Fr W nd { st with d:=[] } st'):Fr W nd st { st' with d:=st'.d++st.d }:=by
 obtain⟨D,hD,hH⟩:=h.d;simp only [qC] at hD;exact⟨h.len,h.keep,⟨D,by rw [hD],hH⟩,h.hl,h.df⟩
def H6 (ws:World) (Gs:au) (R:List Nat) (w':World):Prop :=
 (∀r b,r∈R→Gs.i[r]? = some b→w'.heap[b]? = ws.heap[b]?)∧∀b o u,Gs.pr b o→ws.cell? ⟨b,o,none⟩=some u→w'.cell? ⟨b,o,none⟩=some u
def pinned (R:List Nat) (st:TS E):Bool:=R.all fun r=>!(st.d.elem r)
theorem Rel.pin {ws w:World} {Gs G:au} {a:Act} {R:List Nat} (h:Rel E ws Gs st a w G) (hR:pinned R st=true):H6 ws Gs R w :=
 ⟨fun r b hr hb=>h.fix r b hb (fun hm=>by
  have:=nk.1 hR r hr;rw [Sb hm] at this;cases this),h.cK.goes.cells⟩
def Qm (R:List Nat) (first:Bool) (st:TS E):Op→Bool
 | .load _ x=>match st.ev x with
  | .ptr r _=>R.elem r
  | .lV _ _ _=>first
  | _=>false
 | _=>true
def qV (P:Program) (ops:Array Oper) (Q:Exit→Act→World→Prop) (S:World→Prop) (Z:List Nat):Nat→Array Bool→Act→World→Prop
 | 0,listed,a,w=>Region.ready .any ops listed=[]∧Q .normal a w
 | fuel+1,listed,a,w =>
  (Region.ready .any ops listed=[]→Q .normal a w) ∧
  ∀i∈Region.ready .any ops listed,wpOp P ops Q i (fun a' w'=>(Z.elem i=false→S w')∧qV P ops Q S Z fuel (listed.setIfInBounds i true) a' w') a w
theorem GQ {P:Program} {ops:Array Oper} {Q:Exit→Act→World→Prop} {S:World→Prop} {Z:List Nat}:∀(fuel:Nat) (listed:Array Bool) (a:Act) (w:World),qV P ops Q S Z fuel listed a w→wpAny P .any ops Q fuel listed a w
 | 0,_,_,_,h=>h
 | fuel+1,_,_,_,h=>⟨h.1,fun i hi=>wpOp_mono (fun a' w' h'=>GQ fuel _ a' w' h'.2) (h.2 i hi)⟩
theorem ZF {P:Program} {ops:Array Oper} {Q:Exit→Act→World→Prop} {S:World→Prop} {Z:List Nat} {i:Nat} {oi:Oper} {v:Value} (BU:ops[i]? = some oi) (hsel:∀(j:Nat) (o:Oper) cs b,ops[j]? = some o→o.op≠.select cs b)
  (hQ:∀c a w,Q (.panic c) (a.put oi.dst v) w→Q (.panic c) a w) {B:List Nat} (hZ:∀j,Z.elem j=true→j∈B) (hB:∀j∈B,∃oj,ops[j]? = some oj∧∃e∈oj.after,Region.binds .any e=true∧(e.on=i∨e.on∈B)) :
  ∀(fuel:Nat) (listed:Array Bool) (a:Act) (w:World),
   (∀j oj,ops[j]? = some oj→j≠i→listed.getD j true=false→(∀e∈oj.after,Region.binds .any e=true→e.on≠i)→oi.apart ops oj=true) →
   (∀j∈B,listed.getD j true=false)→i∈Region.ready .any ops listed→YieldsIf P ops S oi v a→S w →
   qV P ops Q S Z fuel (listed.setIfInBounds i true) (a.put oi.dst v) w→qV P ops Q S Z (fuel+1) listed a w:=by
 intro fuel
 induction fuel with
 | zero =>
  intro listed a w _ _ hr hy hS H;refine⟨fun h=>(by rw [h] at hr;cases hr),fun j hj=>?_⟩;by_cases hji:j=i
  ·subst hji;exact hy.wpOp BU hS ⟨fun _=>hS,H⟩
  ·have:=ready_mono hj hji
   rw [H.1] at this
   cases this
 | succ fuel ih =>
  intro listed a w hfree hL hr hy hS H;refine⟨fun h=>(by rw [h] at hr;cases hr),fun j hj=>?_⟩;by_cases hji:j=i
  ·subst hji;exact hy.wpOp BU hS ⟨fun _=>hS,H⟩
  ·have h1:=H.2 j (ready_mono hj hji)
   obtain⟨Eu,oj,Dw,hall⟩:=mem_ready.1 hj;have hpi:listed.getD i true=false:=(mem_ready.1 hr).1
   have hnot:∀e∈oj.after,Region.binds .any e=true→e.on≠i:=fun e he hb heq=>by
    have h1:=hall e he hb;rw [heq] at h1;rcases ur i listed.size with h' | h'
    ·simp [h'] at hpi h1;rw [hpi] at h1;cases h1
    ·simp [O5 h'] at h1
   have h2:=wpOp_putIf Dw (hfree j oj Dw hji Eu hnot) (fun cs b=>hsel i oi cs b BU) (fun cs b=>hsel j oj cs b Dw) hQ hy h1
   have Kh:∀k ok,ops[k]? = some ok→k≠i→(listed.setIfInBounds j true).getD k true=false →
     (∀e∈ok.after,Region.binds .any e=true→e.on≠i)→oi.apart ops ok=true:=fun k ok hk hki hun hno=>by
    refine hfree k ok hk hki ?_ hno;by_cases hjk:j=k
    ·subst hjk;exact Eu
    ·rw [getD_set_ne true hjk] at hun;exact hun
   have hjB:j∉B:=fun hjB=>by
    obtain⟨oj',ak5,e,he,hb,hei⟩:=hB j hjB;rw [Dw] at ak5;cases ak5;rcases hei with hei | hei
    ·exact hnot e he hb hei
    ·have h1:=hall e he hb
     have h2:=hL e.on hei;rcases ur e.on listed.size with h' | h'
     ·simp [h'] at h2 h1;rw [h2] at h1;cases h1
     ·simp [O5 h'] at h1
   have hjZ:Z.elem j=false:=by
    cases hz:Z.elem j with
    | false=>rfl
    | true=>exact (hjB (hZ j hz)).elim
   have hL':∀k∈B,(listed.setIfInBounds j true).getD k true=false:=fun k hk=>by
    rw [getD_set_ne true (fun e=>hjB (by rw [e];exact hk))];exact hL k hk
   refine wpOp_mono (fun a' w' h3=>⟨h3.2.1,ih (listed.setIfInBounds j true) a' w' Kh hL' (ready_mono hr (Ne.symm hji)) h3.1 (h3.2.1 hjZ) ?_⟩) h2;rw [adH _ _ hji];exact h3.2.2
def gdT {R':Type} (all:Array Oper) (o:Oper) (st:TS E) (run skip:TS E→Option R'):Option R':=match o.guard with
 | none=>run st
 | some (j,want)=>match (all[j]?).bind (·.dst) with
  | some t=>match st.at t with
   | .dat .bool b=>cond b
     (cond want (run { st with t:=st.t.set t (.dat .bool true) }) (skip { st with t:=st.t.set t (.dat .bool true) }))
     (cond want (skip { st with t:=st.t.set t (.dat .bool false) }) (run { st with t:=st.t.set t (.dat .bool false) }))
   | .val (.bool _)=>none
   | .val _=>skip st
   | _=>none
  | none=>none
def hasDep (all:Array Oper) (i:Nat) (S:List Nat) (j:Nat):Bool:=match all[j]? with
 | some o=>o.after.any (fun e=>Region.binds .any e&&(Nat.beq e.on i||S.elem e.on))
 | none=>false
def upG (all:Array Oper) (i:Nat):List Nat→List Nat→List Nat
 | [],acc=>acc
 | j::js,acc=>upG all i js (cond (hasDep all i acc j) (j::acc) acc)
def acZ (all:Array Oper) (Z:List Nat) (L:Array Bool) (i:Nat) (B:List Nat):Bool:=Z.all (B.elem ·)&&B.all fun j=>hasDep all i B j && !(L.getD j true)
def behind (all:Array Oper) (Z:List Nat) (L:Array Bool) (i:Nat):Bool:=cond Z.isEmpty true (acZ all Z L i (upG all i (List.range all.size) []))
theorem af7 {all:Array Oper} {Z:List Nat} {L:Array Bool} {i:Nat} (h:behind all Z L i=true):∃B:List Nat,(∀j,Z.elem j=true→j∈B)∧∀j∈B,L.getD j true=false∧∃oj,all[j]? = some oj∧∃e∈oj.after,Region.binds .any e=true∧(e.on=i∨e.on∈B):=by
 unfold behind at h;cases hz:Z.isEmpty<;>rw [hz] at h<;>simp only [cond_true,cond_false] at h
 ·unfold acZ at h
  rw [aV] at h;refine⟨_,fun j hj=>Eh (nk.1 h.1 j (Eh hj)),fun j hj=>?_⟩;have h2:=nk.1 h.2 j hj;rw [aV,nq] at h2;refine⟨h2.2,?_⟩;have h3:=h2.1;unfold hasDep at h3;split at h3
  ·rename_i o ho
   obtain⟨e,he,hb⟩:=adG.1 h3;rw [aV,Ef] at hb;exact⟨o,ho,e,he,hb.1,hb.2.elim (fun h=>.inl (bt h)) (fun h=>.inr (Eh h))⟩
  ·cases h3
 ·refine⟨[],fun j hj=>?_,fun j hj=>by cases hj⟩
  rw [List.isEmpty_iff] at hz;subst hz;cases hj
noncomputable def H7 {R':Type} (X:Cx E) (R Z:List Nat) (all:Array Oper):List (Nat × Bool)→Nat→Array Bool→TS E→(Nat→TS E→Option R')→Option R'
 | [],f,_,st,k=>k f st
 | p::is,f,L,st,k=>match all[p.1]? with
  | none=>none
  | some o=>cond p.2
    (rq ((Region.free .any all L p.1&&(Region.ready .any all L).contains p.1)&&(Nat.ble f 1&&behind all Z L p.1)) (gdT all o st
     (fun st=>rq (Qm R (Nat.beq f 0) st o.op) (SP X st o (fun st'=>H7 X R Z all is f (L.setIfInBounds p.1 true) st' k)))
     (fun st=>H7 X R Z all is f (L.setIfInBounds p.1 true) { st with t:=br st.t o.dst (.val undef) } k)))
    (rq (Region.ready .any all L==[p.1]) (gdT all o st
     (fun st=>Vr X st o (eM (fun st'=>cond (Z.elem p.1) (H7 X R Z all is 2 (L.setIfInBounds p.1 true) st' k) (rq (pinned R st') (H7 X R Z all is 1 (L.setIfInBounds p.1 true) st' k))) fun _ _=>none))
     (fun st=>rq (Nat.ble f 1||Z.elem p.1) (H7 X R Z all is f (L.setIfInBounds p.1 true) { st with t:=br st.t o.dst (.val undef) } k))))
structure sW where
 l:List (Nat × Bool)
 c:Option Cut
def X9 (L:Array Bool):List (Nat × Bool)→Array Bool
 | []=>L
 | p::l=>X9 (L.setIfInBounds p.1 true) l
def kT (all:Array Oper) (l:List (Nat × Bool)):List Oper:=l.filterMap fun p=>all[p.1]?
noncomputable def LS {R':Type} (X:Cx E) (R Z:List Nat) (all:Array Oper):List sW→Nat→Array Bool→TS E→(TS E→Option R')→Option R'
 | [],_,L,st,k=>rq (Region.ready .any all L).isEmpty (k st)
 | s::ss,f,L,st,k=>match s.c with
  | none=>H7 X R Z all s.l f L st (fun f' st'=>LS X R Z all ss f' (X9 L s.l) st' k)
  | some c=>rq (c.okW (cC all (kT all s.l))&&bz all.toList) ((H7 X R Z all s.l f L st (fun _ st'=>c.pack st st')).bind fun x=>rq (pinned R (c.un (cC all (kT all s.l)) st x)) (LS X R Z all ss 1 (X9 L s.l) (c.un (cC all (kT all s.l)) st x) k))
def sW.n:List sW→Nat
 | []=>0
 | s::ss=>s.l.length+sW.n ss
def jD (ws:World) (Gs:au) (R Z:List Nat) (P:Program) (ops:Array Oper) (f:Nat) (n:Nat) (L:Array Bool) (st:TS E) (Q:TS E→Prop):Prop :=
 ∀a w G,Rel E ws Gs st a w G→(f=0→w.heap=ws.heap∧G=Gs)→(f≤1→H6 ws Gs R w)→qV P ops (bD E ws Gs (jM Q)) (H6 ws Gs R) Z n L a w
theorem jD.done {ws:World} {Gs:au} {R Z:List Nat} {P:Program} {ops:Array Oper} {f:Nat} {L:Array Bool} {Q:TS E→Prop} (hL:(Region.ready .any ops L).isEmpty=true) (h:Q st):∀n,jD ws Gs R Z P ops f n L st Q:=by
 have hL:Region.ready .any ops L=[]:=List.isEmpty_iff.1 hL;intro n a w G hr _ _;have hq:bD E ws Gs (jM Q) .normal a w:=⟨.normal,st,G,trivial,hr,rfl,h⟩
 cases n with
 | zero=>exact⟨hL,hq⟩
 | succ n=>exact⟨fun _=>hq,fun i hi=>by rw [hL] at hi;cases hi⟩
theorem aeJ {R':Type} (hX:X.Ok) {R:List Nat} {first:Bool} {o:Oper} {k:TS E→Option R'} {r:R'} (hl:Qm R first st o.op=true) (h:SP X st o k=some r) {ws w:World} {Gs G:au} {a:Act} (hr:Rel E ws Gs st a w G)
  (hf:first=true→w.heap=ws.heap∧G=Gs) (hp:H6 ws Gs R w) (vH:∀q,q∈R→q<Gs.i.length) :
  ∃v st',(∀w',H6 ws Gs R w'→(execOp a.eval o).run X.P w'=.ok (.value v) w')∧Rel E ws Gs st' (a.put o.dst v) w G∧k st'=some r∧Fr (eH o.dst) true st st':=by
 cases hld:Pu o.op with
 | false =>
  obtain⟨v,st',h1,h2,h3,h4⟩:=Qk hX h hr
  exact⟨v,st',fun w' _=>h1 w' (fun hh=>by rw [hld] at hh;cases hh),h2,h3,h4⟩
 | true =>
  obtain⟨t,x,ho⟩:∃t x,o.op=.load t x:=by cases ho:o.op<;>rw [ho] at hld<;>first | exact⟨_,_,rfl⟩ | cases hld
  unfold SP at h;split at h
  ·rename_i pc pd vl
   obtain⟨h1,h2⟩:=BS h;obtain⟨p,hpd⟩:∃p:Bool × TV E,p=(pc,pd):=⟨_,rfl⟩;rw [←hpd] at vl;have ak6:pc=p.1:=by rw [hpd]
   have ak7:pd=p.2:=by rw [hpd]
   rw [ak6] at h1;rw [ak7] at h2;clear hpd ak6 ak7
   have anI:PX X.P X.ty st o.op=some p∨PY X.P st o.op=some p:=by
    unfold PZ at vl;split at vl
    ·rename_i y0 hy0;rw [hy0];exact .inl vl
    ·exact .inr vl
   rcases anI with vl | PG
   rotate_left
   ·rw [ho] at PG hl
    simp only [PY] at PG;simp only [Qm] at hl;have hv:=hr.ev x;split at PG<;>try (cases PG;done)
    rename_i i r' off hi hd;rw [hd] at hv hl;simp only at hl;have ZG:=Eh hl;split at PG<;>try (cases PG;done)
    rename_i e cap T xs d' hb;cases PG;simp only [VT] at hv;obtain⟨b,he,hat⟩:=hv;obtain⟨cur,q1,q2,q4,q5,q6⟩:=hr.box hat hb;simp only [aV,nq] at h1;obtain⟨c1,c2,c3⟩:=h1;have c1:=bt c1;have c3:=bt c3;subst c3
    have hGs:Gs.i[r']? = some b:=by
     have hlt:=vH r' ZG;have e1:=hr.cK.goes.i r' _ (bK hlt);rw [hat] at e1;rw [gC e1];exact bK hlt
    refine⟨_,_,fun w' hP=>?_,hr.put q5 o.dst,h2,Fr.put _ _ _⟩;have hh':w'.heap[b]? = some (.cells cur e (0,0)):=by rw [hP.1 r' b ZG hGs,←hp.1 r' b ZG hGs];exact q1
    have hrun:=HZ (P:=X.P) hi c1 c2 w' (Vi hh' (by rw [q2];exact q6));simp only [execOp,ho,he,Sem.run_bind,hrun,Result.andThen_ok,Sem.run_pure]
   have BV:LG X.P X.ty st o.op=some p∨(LG X.P X.ty st o.op=none∧PO X.P X.ty st o.op=some p):=by
    unfold PX at vl;split at vl
    ·rename_i y0 hy0
     cases vl;unfold PV at hy0;split at hy0
     ·rename_i y hy
      cases hy0;unfold PR at hy;split at hy
      ·rename_i y' hy';rw [hy'];exact .inl hy
      ·rename_i hy';exact .inr ⟨hy',hy⟩
     ·rw [ho] at hy0;simp only [X0] at hy0;cases hy0
    ·rw [ho] at vl;simp only [X2] at vl;cases vl
   rw [ho] at BV hl;rcases BV with BV | ⟨-,BV⟩
   rotate_left
   ·simp only [PO] at BV;cases BV
   simp only [LG] at BV;simp only [Qm] at hl;have hv:=hr.ev x;split at BV<;>try (cases BV;done)
   ·rename_i i T y off hi hd
    rw [hd] at hv hl;simp only at hl;subst hl;obtain⟨hw,hG⟩:=hf rfl;subst hG;have hcell:∀a,w.cell? a=ws.cell? a:=fun a=>by unfold World.cell?;rw [hw]
    simp only [VT] at hv;obtain⟨b,o',c,he,q1,q2⟩:=hv;have hpart:=AJ hX.E q1 (oP BV);obtain⟨v,HQ,Qc⟩:=nG (P:=X.P) hi (fun l u hl=>(q2 l u hl).2) hpart;refine⟨v,_,fun w' hP=>?_,hr.put HQ o.dst,h2,Fr.put _ _ _⟩;have hrow:∀(l:Nat) u,c[l]? = some u→w'.cell? ⟨b,o'+l,none⟩=some u:=fun l u hl=>hP.2 _ _ _ (q2 l u hl).1 (by rw [←hcell];exact (q2 l u hl).2)
    have hrun:(Instr.loadAt t (.pointer (some ⟨b,o'+off,none⟩))).run X.P w'=.ok v w':=by
     have e0:=Qc w (cL.refl w)
     have key:∀(W:World),(∀(l:Nat) u,c[l]? = some u→W.cell? ⟨b,o'+l,none⟩=some u)→∀(p1:Part E w G c i.isAgg i.size off p.2),(Instr.loadAt t (.pointer (some ⟨b,o'+off,none⟩))).run X.P W=.ok (cond i.isAgg (.agg ((c.drop off).take i.size).toArray) (c.getD off undef)) W:=by
      intro W hW p1;unfold Part at p1
      have tw:∀l,l<c.length→W.cell? ⟨b,o'+l,none⟩=some (c.getD l undef):=fun l hl=>by
       have:=bK hl;rw [getD_eq this];exact hW l _ this
      cases ha:i.isAgg<;>rw [ha] at p1<;>simp only [cond_true,cond_false] at p1 ⊢
      ·obtain⟨u,hu,-⟩:=p1
       have hl:=(bS.1 hu).1;rw [iQ hi b o' c.length (fun l=>c.getD l undef) tw off (by rw [ha];exact hl) W (cL.refl W),ha];rfl
      ·obtain⟨hl,-⟩:=p1
       rw [iQ hi b o' c.length (fun l=>c.getD l undef) tw off (by rw [ha];exact hl) W (cL.refl W),ha];simp only [cond_true];congr 3;apply zE
       ·simp;omega
       ·intro n h1 h2
        simp at h1 h2;simp [List.getD,show off+n<c.length by omega]
     rw [key w (fun l u hl=>(q2 l u hl).2) hpart] at e0;rw [key w' hrow hpart];simp only [Result.ok.injEq,and_true] at e0 ⊢;exact e0
    simp only [execOp,ho,he,Sem.run_bind,hrun,Result.andThen_ok,Sem.run_pure]
   ·rename_i i r' off hi hd
    rw [hd] at hv hl;simp only at hl;have ZG:=Eh hl;split at BV<;>try (cases BV;done)
    rename_i t' cs hb;simp only [VT] at hv;obtain⟨b,he,hat⟩:=hv;obtain⟨vs,hh,q1,q2⟩:=hr.box hat hb
    have hGs:Gs.i[r']? = some b:=by
     have hlt:=vH r' ZG;have e1:=hr.cK.goes.i r' _ (bK hlt);rw [hat] at e1;rw [gC e1];exact bK hlt
    have hpart:=yB hX.E q2 (fun u hu=>q1 u (by simpa using hu)) (oP BV)
    obtain⟨v,HQ,Qc⟩:=nG (P:=X.P) (w:=w) (b:=b) (o':=0) hi (fun l u hl=>by
     rw [cell_of_row w b (0+l) vs t' (0,0) hh];simpa using hl) hpart
    refine⟨v,_,fun w' hP=>?_,hr.put HQ o.dst,h2,Fr.put _ _ _⟩;have hh':w'.heap[b]? = some (.cells vs t' (0,0)):=by rw [hP.1 r' b ZG hGs,←hp.1 r' b ZG hGs];exact hh
    have hrun:(Instr.loadAt t (.pointer (some ⟨b,0+off,none⟩))).run X.P w'=.ok v w':=by
     have e0:=Qc w (cL.refl w)
     have key:∀(W:World),W.heap[b]? = some (.cells vs t' (0,0))→(Instr.loadAt t (.pointer (some ⟨b,0+off,none⟩))).run X.P W=.ok (cond i.isAgg (.agg ((vs.toList.drop off).take i.size).toArray) (vs.toList.getD off undef)) W:=by
      intro W hW
      have tw:∀l,l<vs.toList.length→W.cell? ⟨b,0+l,none⟩=some (vs.toList.getD l undef):=fun l hl=>by
       rw [cell_of_row W b (0+l) vs t' (0,0) hW];have:l<vs.size:=by simpa using hl
       simp [List.getD,this]
      have p1:=hpart;unfold Part at p1;cases ha:i.isAgg<;>rw [ha] at p1<;>simp only [cond_true,cond_false] at p1 ⊢
      ·obtain⟨u,hu,-⟩:=p1
       have hl:=(bS.1 hu).1;rw [iQ hi b 0 vs.toList.length (fun l=>vs.toList.getD l undef) tw off (by rw [ha];exact hl) W (cL.refl W),ha];rfl
      ·obtain⟨hl,-⟩:=p1
       rw [iQ hi b 0 vs.toList.length (fun l=>vs.toList.getD l undef) tw off (by rw [ha];exact hl) W (cL.refl W),ha];simp only [cond_true];congr 3;have hvl:vs.toList.length=vs.size:=mz;apply zE
       ·simp;simp at hl;omega
       ·intro n h1 h2
        simp at h1 h2;simp [List.getD,show off+n<vs.size by simp at hl;omega]
     rw [key w hh] at e0;rw [key w' hh'];simp only [Result.ok.injEq,and_true] at e0 ⊢;exact e0
    rw [fC] at hrun;simp only [execOp,ho,he,Sem.run_bind,hrun,Result.andThen_ok,Sem.run_pure]
  ·rw [ho] at h;cases h
theorem N9 {R':Type} {all:Array Oper} {o:Oper} {run skip:TS E→Option R'} {r:R'} (h:gdT all o st run skip=some r) {w0 w:World} {G0 G:au} {a:Act} (hr:Rel E w0 G0 st a w G) :
  ∃s1,Fr (fO all o) true st s1∧Rel E w0 G0 s1 a w G∧((Region.wanted o (yielded all a.tmps)=true∧run s1=some r)∨(Region.wanted o (yielded all a.tmps)=false∧skip s1=some r)):=by
 unfold gdT at h;split at h
 ·rename_i hg
  exact⟨st,Fr.refl _ _ _,hr,.inl ⟨by simp [Region.wanted,hg],h⟩⟩
 ·rename_i j want hg
  split at h<;>try (cases h;done)
  rename_i t ZE;have hgt:fO all o=[t]:=by unfold fO;rw [hg];simp only [ZE]
  split at h<;>try (cases h;done)
  ·rename_i b hb
   obtain⟨hw,hbv⟩:=Et hr hg ZE hb;have hl:=hr.lit hbv;have hfl:Fr (fO all o) true st { st with t:=st.t.set t (.dat .bool b) }:=by rw [hgt];exact Fr.lit st t _
   cases b<;>cases want<;>simp only [cond_true,cond_false] at h
   ·exact⟨_,hfl,hl,.inl ⟨by rw [hw];rfl,h⟩⟩
   ·exact⟨_,hfl,hl,.inr ⟨by rw [hw];rfl,h⟩⟩
   ·exact⟨_,hfl,hl,.inr ⟨by rw [hw];rfl,h⟩⟩
   ·exact⟨_,hfl,hl,.inl ⟨by rw [hw];rfl,h⟩⟩
  ·rename_i u hnb hu
   exact⟨st,Fr.refl _ _ _,hr,.inr ⟨GO hr hg ZE hu (fun b e=>hnb b e),h⟩⟩
theorem qW {R':Type} (hX:X.Ok) {R Z:List Nat} {all:Array Oper} (nK:Region.noSelect all=true) {ws:World} {Gs:au} (vH:∀q,q∈R→q<Gs.i.length) {Q:TS E→Prop} {n:Nat} {k:Nat→TS E→Option R'} {r:R'} :
  ∀(is:List (Nat × Bool)) (f:Nat) (L:Array Bool) {st:TS E},H7 X R Z all is f L st k=some r →
   (∀f' st',k f' st'=some r→Fr (cC all (kT all is)) (bz (kT all is)) st st'→jD ws Gs R Z X.P all f' n (X9 L is) st' Q)→jD ws Gs R Z X.P all f (is.length+n) L st Q
 | [],f,L,st,h,cX=>by
  simp only [kg,fC]
  exact cX f st h (Fr.refl _ _ _)
 | (i,q)::is,f,L,st,h,cX=>by
  intro a w G hr hf hp;simp only [H7] at h;split at h<;>try (cases h;done)
  rename_i o ho;have hQp:∀c a w,¬ bD E ws Gs (jM Q) (.panic c) a w:=fun c a w hp=>by have:=bD.jM hp;cases this
  have mI:kT all ((i,q)::is)=o::kT all is:=by simp [kT,ho]
  have hfr:∀ {s1 s2 s3:TS E} {nd:Bool},(nd=!(uc o.op)∨nd=true)→Fr (fO all o) true st s1→Fr (eH o.dst) nd s1 s2→Fr (cC all (kT all is)) (bz (kT all is)) s2 s3→Fr (cC all (kT all ((i,q)::is))) (bz (kT all ((i,q)::is))) st s3:=by
   intro s1 s2 s3 nd hnd f0 f1 f2;rw [mI]
   refine (f0.trans f1 (W:=eH o.dst++fO all o) (n:=nd) (fun i hi=>by simp [hi]) (fun i hi=>by simp [hi]) (fun h=>⟨rfl,h⟩)).trans f2 (fun i hi=>by
     simp only [cC,gz] at hi ⊢;rcases hi with hi | hi<;>simp [hi]) (fun i hi=>by simp [cC,hi]) (fun h=>by
     simp only [bz,aV] at h;exact⟨by rcases hnd with rfl | rfl;exact h.1;rfl,h.2⟩)
  rw [show ((i,q)::is).length+n=(is.length+n)+1 by simp;omega]
  have aiS:∀(s1:TS E),Fr (fO all o) true st s1→Rel E ws Gs s1 a w G→H7 X R Z all is f (L.setIfInBounds i true) { s1 with t:=br s1.t o.dst (.val undef) } k=some r →
    qV X.P all (bD E ws Gs (jM Q)) (H6 ws Gs R) Z (is.length+n) (L.setIfInBounds i true) (a.put o.dst undef) w:=by
   intro s1 f0 cJ h1;have hr2:=cJ.put (v:=undef) (d:=.val undef) (by simp only [VT]) o.dst;exact qW hX nK vH is f _ h1 (fun f' st' hk f2=>cX f' st' hk (hfr (.inr rfl) f0 (Fr.put s1 o.dst (.val undef)) f2)) _ w G hr2 hf hp
  cases q<;>simp only [cond_true,cond_false] at h
  ·obtain⟨h1,h⟩:=b9 h
   have h1:Region.ready .any all L=[i]:=by simpa using h1
   refine⟨fun he=>(by rw [he] at h1;cases h1),fun j hj=>?_⟩;have hji:j=i:=by rw [h1] at hj;simpa using hj
   subst hji;obtain⟨s1,f0,cJ,hc⟩:=N9 h hr;unfold wpOp;simp only [ho];rcases hc with⟨hw,h2⟩ | ⟨hw,h2⟩
   ·rw [if_pos hw]
    have hop:=Kf hX h2 ws Gs a w G cJ;refine .inl (kG (fun a' w' hn=>?_) (fun e a' w' vl=>?_) hop)
    ·obtain⟨s2,G2,hr2,hk,f1⟩:=hn
     simp only [eM] at hk;cases hz:Z.elem j<;>rw [hz] at hk<;>simp only [cond_true,cond_false] at hk
     ·obtain⟨ZH,hk⟩:=b9 hk
      have hp2:=hr2.pin ZH;exact⟨fun _=>hp2,qW hX nK vH is 1 _ hk (fun f' st' hk' f2=>cX f' st' hk' (hfr (.inl rfl) f0 f1 f2)) a' w' G2 hr2 (fun e=>by cases e) (fun _=>hp2)⟩
     ·exact⟨fun e=>(by cases e),qW hX nK vH is 2 _ hk (fun f' st' hk' f2=>cX f' st' hk' (hfr (.inl rfl) f0 f1 f2)) a' w' G2 hr2 (fun e=>by cases e) (fun e=>om)⟩
    ·obtain⟨x,s2,G2,he,hr2,hn,hk,f1⟩:=vl
     cases x<;>first | exact (hn rfl).elim | cases hk
   ·rw [if_neg (by rw [hw];simp)]
    obtain⟨h3,h2⟩:=b9 h2;refine⟨fun hz=>hp ?_,aiS s1 f0 cJ h2⟩;rw [hz,Bool.or_false] at h3;exact ef h3
  ·obtain⟨h1,h⟩:=b9 h
   simp only [aV] at h1;obtain⟨h1,hf1,hbe⟩:=h1;have hp:=hp (ef hf1);obtain⟨B,hZ,hB⟩:=af7 hbe
   have first:∀v,YieldsIf X.P all (H6 ws Gs R) o v a→qV X.P all (bD E ws Gs (jM Q)) (H6 ws Gs R) Z (is.length+n) (L.setIfInBounds i true) (a.put o.dst v) w →
     qV X.P all (bD E ws Gs (jM Q)) (H6 ws Gs R) Z ((is.length+n)+1) L a w:=fun v hy hh =>
    ZF (v:=v) ho (Region.noSelect_spec nK) (fun c a w hp=>(hQp _ _ _ hp).elim) hZ (fun j hj=>(hB j hj).2) _ _ a w (Region.free_spec ho h1.1) (fun j hj=>(hB j hj).1) (by simpa using h1.2) hy hp hh
   obtain⟨s1,f0,cJ,hc⟩:=N9 h hr;rcases hc with⟨hw,h2⟩ | ⟨hw,h2⟩
   ·obtain⟨hl,h2⟩:=b9 h2
    obtain⟨v,s2,hrun,hr2,hk,f1⟩:=aeJ hX hl h2 cJ (fun e=>hf (bt e)) hp vH;exact first v (.inl ⟨hw,hrun⟩) (qW hX nK vH is f _ hk (fun f' st' hk' f2=>cX f' st' hk' (hfr (.inr rfl) f0 f1 f2)) _ w G hr2 hf (fun _=>hp))
   ·exact first undef (.inr ⟨hw,rfl⟩) (aiS s1 f0 cJ h2)
theorem SR {all:Array Oper} {o:Oper}:∀ {l:List Oper},o∈l→∀i,i∈eH o.dst++fO all o→i∈cC all l
 | [],h,_,_=>by cases h
 | o'::l,h,i,hi=>by
  simp only [cC,gz];rcases fK.1 h with rfl | h
  ·simp only [gz] at hi
   rcases hi with hi | hi
   ·exact .inl hi
   ·exact .inr (.inl hi)
  ·exact .inr (.inr (SR h i hi))
theorem GR {all:Array Oper} {l:List (Nat × Bool)} {o:Oper} (h:o∈kT all l):o∈all.toList:=by
 obtain⟨p,_,hp⟩:=List.mem_filterMap.1 h;exact ek (by simpa using hp)
theorem Oa {all:Array Oper}:∀ {l:List Oper},(∀o,o∈l→o∈all.toList)→∀i,i∈cC all l→i∈cC all all.toList
 | [],_,i,h=>by cases h
 | o::l,hm,i,h=>by
  simp only [cC,gz] at h;rcases h with h | h | h
  ·exact SR (hm o si) i (by simp [h])
  ·exact SR (hm o si) i (by simp [h])
  ·exact Oa (fun o h=>hm o (by simp [h])) i h
theorem Qn {l m:List Oper} (hm:∀o,o∈l→o∈m) (h:bz m=true):bz l=true:=by
 have key:∀(l:List Oper),bz l=true↔∀o,o∈l→(!(uc o.op))=true:=by
  intro l
  induction l with
  | nil=>simp [bz]
  | cons o l ih=>simp only [bz,aV,ih,fK,forall_eq_or_imp]
 rw [key] at h ⊢;exact fun o ho=>h o (hm o ho)
theorem jD.mono {ws:World} {Gs:au} {R Z:List Nat} {P:Program} {ops:Array Oper} {f:Nat} {n:Nat} {L:Array Bool} {Q Q':TS E→Prop} (hq:∀s,Q s→Q' s) (h:jD ws Gs R Z P ops f n L st Q):jD ws Gs R Z P ops f n L st Q':=by
 intro a w G hr hf hp
 have key:∀(fuel:Nat) (listed:Array Bool) (a:Act) (w:World) {Q1 Q2:Exit→Act→World→Prop} {S:World→Prop},(∀e a w,Q1 e a w→Q2 e a w)→qV P ops Q1 S Z fuel listed a w→qV P ops Q2 S Z fuel listed a w:=by
  intro fuel
  induction fuel with
  | zero=>intro listed a w Q1 Q2 S hq h;exact⟨h.1,hq _ _ _ h.2⟩
  | succ fuel ih =>
   intro listed a w Q1 Q2 S hq h;refine⟨fun he=>hq _ _ _ (h.1 he),fun i hi=>?_⟩;have h1:=h.2 i hi;unfold wpOp at h1 ⊢;split
   ·rename_i ho;rw [ho] at h1;exact⟨h1.1,ih _ _ _ hq h1.2⟩
   ·rename_i o ho
    rw [ho] at h1;simp only at h1;split
    ·rename_i hw
     rw [if_pos hw] at h1;rcases h1 with h1 | ⟨h1,a1,w1,h2⟩
     ·exact .inl (kG (fun a w h=>⟨h.1,ih _ a w hq h.2⟩) hq h1)
     ·exact .inr ⟨h1,a1,w1,hq _ _ _ h2⟩
    ·rename_i hw
     rw [if_neg hw] at h1;exact⟨h1.1,ih _ _ _ hq h1.2⟩
 exact key _ _ _ _ (fun e a w hp=>bD.mono (fun x s hh=>⟨hh.1,hq _ hh.2⟩) hp) (h a w G hr hf hp)
theorem Ew {R':Type} (hX:X.Ok) {R Z:List Nat} {all:Array Oper} (nK:Region.noSelect all=true) {ws:World} {Gs:au} (vH:∀q,q∈R→q<Gs.i.length) {n:Nat} {k:TS E→Option R'} {r:R'} :
  ∀(ss:List sW) (f:Nat) (L:Array Bool) {st:TS E},LS X R Z all ss f L st k=some r→jD ws Gs R Z X.P all f (sW.n ss+n) L st (fun st'=>k st'=some r∧Fr (cC all all.toList) (bz all.toList) st st')
 | [],f,L,st,h=>by
  simp only [LS] at h;obtain⟨h1,h2⟩:=b9 h
  exact jD.done h1 ⟨h2,Fr.refl _ _ _⟩ _
 | s::ss,f,L,st,h=>by
  have hW:∀j,j∈cC all (kT all s.l)→j∈cC all all.toList:=Oa (fun o ho=>GR ho);have hN:bz all.toList=true→bz (kT all s.l)=true:=Qn (fun o ho=>GR ho);simp only [LS] at h;rw [show sW.n (s::ss)+n=s.l.length+(sW.n ss+n) by simp only [sW.n];omega];split at h
  ·refine qW hX nK vH s.l f L h fun f' st' hk hf=>?_
   exact jD.mono (fun s' hh=>⟨hh.1,hf.trans hh.2 hW (fun j hj=>hj) (fun hn=>⟨hN hn,hn⟩)⟩) (Ew hX nK vH ss f' _ hk)
  ·rename_i c hc
   obtain⟨h1,h2⟩:=b9 h;rw [aV] at h1
   cases hs:H7 X R Z all s.l f L st (fun _ st'=>c.pack st st') with
   | none=>rw [hs] at h2;cases h2
   | some x =>
    rw [hs] at h2;dsimp only [Option.bind] at h2;obtain⟨h3,h2⟩:=b9 h2;intro a w G hr;have hpre:=hr.pre;refine qW hX nK vH s.l f L hs (fun f' st' hk hf=>?_) a w G hr;intro a' w' G' hr' _ _;obtain⟨⟨G2,hR⟩,hF⟩:=uy hX.E hpre hr' (hf.wide (fun _ h=>h) (fun _=>hN h1.2)) h1.1 hk;exact jD.mono (fun s' hh=>⟨hh.1,hF.trans hh.2 hW (fun j hj=>hj) (fun hn=>⟨rfl,hn⟩)⟩) (Ew hX nK vH ss 1 _ h2) a' w' G2 hR (fun e=>by cases e) (fun _=>hR.pin h3)
noncomputable def di {R':Type} (X:Cx E) (R Z:List Nat) (ops:Array Oper) (ss:List sW) (st:TS E) (k:TS E→Option R'):Option R' :=
 rq ((Region.noSelect ops&&Nat.ble (sW.n ss) ops.size)&&R.all (fun q=>Nat.blt q st.H.length)) (LS X R Z ops ss 0 (Array.replicate ops.size false) { st with d:=[] } (fun st'=>k { st' with d:=st'.d++st.d }))
theorem abS {R':Type} (hX:X.Ok) {id:Nat} {R Z:List Nat} {ops:Array Oper} {ss:List sW} {k:TS E→Option R'} {r:R'} (h:di X R Z ops ss st k=some r) :
  Dh E X.P (.region id ops true) st (fun x st'=>x=.normal∧k st'=some r∧Fr (cC ops ops.toList) (bz ops.toList) st st'):=by
 intro w0 G0 a w G hr;have hs:cL w { w with drawn:=w.drawn+1 }:=⟨bM _,fun _ _=>rfl⟩;have hr':=hr.grow (w':={ w with drawn:=w.drawn+1 }) hs rfl rfl rfl G.pr (fun _ _ h=>h) (fun _ _ _ h=>h) (fun b o hp=>eF (hr.boxes.dH b o hp).1 hs.1);obtain⟨h1,h2⟩:=b9 h;simp only [aV] at h1;obtain⟨⟨nK,hn⟩,hR⟩:=h1;have hn:=ef hn
 have vH:∀q,q∈R→q<G.i.length:=fun q hq=>by
  have:=rV.1 (nk.1 hR q hq);rw [hr.boxes.len];exact this
 have hroot:=hr'.root;have h3:=Ew hX nK (ws:={ w with drawn:=w.drawn+1 }) (Gs:=G) vH (n:=ops.size - sW.n ss) ss 0 _ h2 a _ G hroot (fun _=>⟨rfl,rfl⟩) (fun _=>⟨fun _ _ _ _=>rfl,fun _ _ _ _ h=>h⟩);rw [show sW.n ss+(ops.size - sW.n ss)=ops.size by omega] at h3;refine wp_region_any hX.mix ?_;have h4:=GQ _ _ _ _ h3
 have key:∀(fuel:Nat) (listed:Array Bool) (a:Act) (w:World) {Q1 Q2:Exit→Act→World→Prop},(∀e a w,Q1 e a w→Q2 e a w)→wpAny X.P .any ops Q1 fuel listed a w→wpAny X.P .any ops Q2 fuel listed a w:=by
  intro fuel
  induction fuel with
  | zero=>intro listed a w Q1 Q2 hq h;exact⟨h.1,hq _ _ _ h.2⟩
  | succ fuel ih =>
   intro listed a w Q1 Q2 hq h;refine⟨fun he=>hq _ _ _ (h.1 he),fun i hi=>?_⟩;have h1:=h.2 i hi;unfold wpOp at h1 ⊢;split
   ·rename_i ho;rw [ho] at h1;exact ih _ _ _ hq h1
   ·rename_i o ho
    rw [ho] at h1;simp only at h1;split
    ·rename_i hw
     rw [if_pos hw] at h1;rcases h1 with h1 | ⟨h1,a1,w1,h2⟩
     ·exact .inl (kG (fun a w h=>ih _ a w hq h) hq h1)
     ·exact .inr ⟨h1,a1,w1,hq _ _ _ h2⟩
    ·rename_i hw
     rw [if_neg hw] at h1;exact ih _ _ _ hq h1
 refine key _ _ _ _ (fun e a' w' hp=>?_) h4;obtain⟨x,s,G',he,hrr,rfl,hk,hF⟩:=hp;exact⟨.normal,_,G',he,hr'.Kk hrr,rfl,hk,hF.Kk⟩
inductive FT where
 | done
 | step (i:Nat) (q:Bool) (t:FT)
 | fork (i:Nat) (t:FT) (j:Nat) (u:FT)
def FT.n:FT→Nat
 | .done=>0
 | .step _ _ t=>t.n+1
 | .fork _ t _ u=>Nat.max t.n u.n+1
noncomputable def Ya {R':Type} (X:Cx E) (R:List Nat) (all:Array Oper) (i:Nat) (f:Nat) (st:TS E) (k:Nat→TS E→Option R'):Option R':=match all[i]? with
 | none=>none
 | some o=>gdT all o st
   (fun st=>Vr X st o (eM (fun st'=>rq (pinned R st') (k 1 st')) fun _ _=>none))
   (fun st=>rq (Nat.ble f 1) (k f { st with t:=br st.t o.dst (.val undef) }))
noncomputable def Qo {R':Type} (X:Cx E) (R:List Nat) (all:Array Oper):FT→Nat→Array Bool→TS E→(TS E→Option R')→Option R'
 | .done,_,L,st,k=>rq (Region.ready .any all L).isEmpty (k st)
 | .step i q t,f,L,st,k=>H7 X R [] all [(i,q)] f L st (fun f' st'=>Qo X R all t f' (L.setIfInBounds i true) st' k)
 | .fork i t j u,f,L,st,k=>rq (Region.ready .any all L==[i,j]) (agree
   (Ya X R all i f st (fun f' st'=>Qo X R all t f' (L.setIfInBounds i true) st' k))
   (Ya X R all j f st (fun f' st'=>Qo X R all u f' (L.setIfInBounds j true) st' k)))
theorem ahE {all:Array Oper} {i:Nat} {o:Oper} (h:all[i]? = some o) {q:Bool}:kT all [(i,q)]=[o]:=by simp [kT,h]
theorem Na {R':Type} (hX:X.Ok) {R:List Nat} {all:Array Oper} {ws:World} {Gs:au} {Q:TS E→Prop} {n i f:Nat} {L:Array Bool} {k:Nat→TS E→Option R'} {r:R'} (h:Ya X R all i f st k=some r)
  (cX:∀f' st',k f' st'=some r→Fr (cC all (kT all [(i,false)])) (bz (kT all [(i,false)])) st st'→jD ws Gs R [] X.P all f' n (L.setIfInBounds i true) st' Q) {a:Act} {w:World} {G:au} (hr:Rel E ws Gs st a w G) (hf:f=0→w.heap=ws.heap∧G=Gs) (hp:f≤1→H6 ws Gs R w) :
  wpOp X.P all (bD E ws Gs (jM Q)) i (fun a' w'=>(([]:List Nat).elem i=false→H6 ws Gs R w')∧qV X.P all (bD E ws Gs (jM Q)) (H6 ws Gs R) [] n (L.setIfInBounds i true) a' w') a w:=by
 unfold Ya at h;split at h<;>try (cases h;done)
 rename_i o ho
 have hfr:∀ {s1 s2:TS E} {nd:Bool},(nd=!(uc o.op)∨nd=true)→Fr (fO all o) true st s1→Fr (eH o.dst) nd s1 s2→Fr (cC all (kT all [(i,false)])) (bz (kT all [(i,false)])) st s2:=by
  intro s1 s2 nd hnd f0 f1;rw [ahE ho]
  exact f0.trans f1 (fun i hi=>by simp [cC,hi]) (fun i hi=>by simp [cC,hi]) (fun h=>by
    simp only [bz,aV] at h;exact⟨rfl,by rcases hnd with rfl | rfl;exact h.1;rfl⟩)
 obtain⟨s1,f0,cJ,hc⟩:=N9 h hr;unfold wpOp;simp only [ho];rcases hc with⟨hw,h2⟩ | ⟨hw,h2⟩
 ·rw [if_pos hw]
  have hop:=Kf hX h2 ws Gs a w G cJ;refine .inl (kG (fun a' w' hn=>?_) (fun e a' w' vl=>?_) hop)
  ·obtain⟨s2,G2,hr2,hk,f1⟩:=hn
   simp only [eM] at hk;obtain⟨ZH,hk⟩:=b9 hk;have hp2:=hr2.pin ZH;exact⟨fun _=>hp2,cX 1 _ hk (hfr (.inl rfl) f0 f1) a' w' G2 hr2 (fun e=>by cases e) (fun _=>hp2)⟩
  ·obtain⟨x,s2,G2,he,hr2,hn,hk,f1⟩:=vl
   cases x<;>first | exact (hn rfl).elim | cases hk
 ·rw [if_neg (by rw [hw];simp)]
  obtain⟨h3,h2⟩:=b9 h2;have hp2:=hp (ef h3);exact⟨fun _=>hp2,cX f _ h2 (hfr (.inr rfl) f0 (Fr.put s1 o.dst (.val undef))) _ w G (cJ.put (v:=undef) (d:=.val undef) (by simp only [VT]) o.dst) hf hp⟩
theorem af8 {R':Type} (hX:X.Ok) {R:List Nat} {all:Array Oper} (nK:Region.noSelect all=true) {ws:World} {Gs:au} (vH:∀q,q∈R→q<Gs.i.length) {k:TS E→Option R'} {r:R'} :
  ∀(t:FT) (n f:Nat) (L:Array Bool) {st:TS E},t.n≤n→Qo X R all t f L st k=some r→jD ws Gs R [] X.P all f n L st (fun st'=>k st'=some r∧Fr (cC all all.toList) (bz all.toList) st st'):=by
 have hW:∀l,∀j,j∈cC all (kT all l)→j∈cC all all.toList:=fun l=>Oa (fun o ho=>GR ho);have hN:∀l,bz all.toList=true→bz (kT all l)=true:=fun l=>Qn (fun o ho=>GR ho);intro t
 induction t with
 | done =>
  intro n f L st hn h;simp only [Qo] at h;obtain⟨h1,h2⟩:=b9 h
  exact jD.done h1 ⟨h2,Fr.refl _ _ _⟩ _
 | step i q t ih =>
  intro n f L st hn h;simp only [FT.n] at hn;simp only [Qo] at h;obtain⟨m,rfl⟩:∃m,n=[(i,q)].length+m:=⟨n - 1,bx⟩;refine qW hX nK vH [(i,q)] f L h fun f' st' hk hf=>?_
  exact jD.mono (fun s' hh=>⟨hh.1,hf.trans hh.2 (hW _) (fun j hj=>hj) (fun hn=>⟨hN _ hn,hn⟩)⟩) (ih m f' _ (by simp at hn;omega) hk)
 | fork i t j u iht ihu =>
  intro n f L st hn h;simp only [FT.n] at hn;simp only [Qo] at h;obtain⟨h1,h2⟩:=b9 h;have h1:Region.ready .any all L=[i,j]:=by simpa using h1
  obtain⟨ha,hb⟩:=vF h2;obtain⟨m,rfl⟩:∃m,n=m+1:=⟨n - 1,om⟩;have hmt:t.n≤m:=kj (Nat.le_max_left t.n u.n) (Nat.le_of_succ_le_succ hn);have hmu:u.n≤m:=kj (Nat.le_max_right t.n u.n) (Nat.le_of_succ_le_succ hn);intro a w G hr hf hp;refine⟨fun he=>(by rw [he] at h1;cases h1),fun q hq=>?_⟩;have U6:q=i∨q=j:=by rw [h1] at hq;simpa using hq
  rcases U6 with rfl | rfl
  ·exact Na hX ha (fun f' st' hk hf=>jD.mono (fun s' hh=>⟨hh.1,hf.trans hh.2 (hW _) (fun j hj=>hj) (fun hn=>⟨hN _ hn,hn⟩)⟩) (iht m f' _ hmt hk)) hr hf hp
  ·exact Na hX hb (fun f' st' hk hf=>jD.mono (fun s' hh=>⟨hh.1,hf.trans hh.2 (hW _) (fun j hj=>hj) (fun hn=>⟨hN _ hn,hn⟩)⟩) (ihu m f' _ hmu hk)) hr hf hp
noncomputable def GU {R':Type} (X:Cx E) (R:List Nat) (ops:Array Oper) (c:Cut) (t:FT) (st:TS E) (k:TS E→Option R'):Option R' :=
 rq (((Region.noSelect ops&&Nat.ble t.n ops.size)&&R.all (fun q=>Nat.blt q st.H.length))&&(c.okW (cC ops ops.toList)&&bz ops.toList))
  ((Qo X R ops t 0 (Array.replicate ops.size false) { st with d:=[] } (fun st'=>c.pack { st with d:=[] } st')).bind fun x =>
    k { c.un (cC ops ops.toList) { st with d:=[] } x with d:=(c.un (cC ops ops.toList) { st with d:=[] } x).d++st.d })
theorem abT {R':Type} (hX:X.Ok) {id:Nat} {R:List Nat} {ops:Array Oper} {c:Cut} {t:FT} {k:TS E→Option R'} {r:R'} (h:GU X R ops c t st k=some r) :
  Dh E X.P (.region id ops true) st (fun x st'=>x=.normal∧k st'=some r∧Fr (cC ops ops.toList) (bz ops.toList) st st'):=by
 intro w0 G0 a w G hr;have hs:cL w { w with drawn:=w.drawn+1 }:=⟨bM _,fun _ _=>rfl⟩;have hr':=hr.grow (w':={ w with drawn:=w.drawn+1 }) hs rfl rfl rfl G.pr (fun _ _ h=>h) (fun _ _ _ h=>h) (fun b o hp=>eF (hr.boxes.dH b o hp).1 hs.1);obtain⟨h1,h2⟩:=b9 h;simp only [aV] at h1;obtain⟨⟨⟨nK,hn⟩,hR⟩,hcW,hnd⟩:=h1;have hn:=ef hn
 have vH:∀q,q∈R→q<G.i.length:=fun q hq=>by
  have:=rV.1 (nk.1 hR q hq);rw [hr.boxes.len];exact this
 have hroot:=hr'.root
 cases hg:Qo X R ops t 0 (Array.replicate ops.size false) { st with d:=[] } (fun st'=>c.pack { st with d:=[] } st') with
 | none=>rw [hg] at h2;cases h2
 | some x =>
 rw [hg] at h2;dsimp only [Option.bind] at h2;have h3:=af8 hX nK (ws:={ w with drawn:=w.drawn+1 }) (Gs:=G) vH t ops.size 0 _ hn hg a _ G hroot (fun _=>⟨rfl,rfl⟩) (fun _=>⟨fun _ _ _ _=>rfl,fun _ _ _ _ h=>h⟩);refine wp_region_any hX.mix ?_;have h4:=GQ _ _ _ _ h3
 have key:∀(fuel:Nat) (listed:Array Bool) (a:Act) (w:World) {Q1 Q2:Exit→Act→World→Prop},(∀e a w,Q1 e a w→Q2 e a w)→wpAny X.P .any ops Q1 fuel listed a w→wpAny X.P .any ops Q2 fuel listed a w:=by
  intro fuel
  induction fuel with
  | zero=>intro listed a w Q1 Q2 hq h;exact⟨h.1,hq _ _ _ h.2⟩
  | succ fuel ih =>
   intro listed a w Q1 Q2 hq h;refine⟨fun he=>hq _ _ _ (h.1 he),fun i hi=>?_⟩;have h1:=h.2 i hi;unfold wpOp at h1 ⊢;split
   ·rename_i ho;rw [ho] at h1;exact ih _ _ _ hq h1
   ·rename_i o ho
    rw [ho] at h1;simp only at h1;split
    ·rename_i hw
     rw [if_pos hw] at h1;rcases h1 with h1 | ⟨h1,a1,w1,h2⟩
     ·exact .inl (kG (fun a w h=>ih _ a w hq h) hq h1)
     ·exact .inr ⟨h1,a1,w1,hq _ _ _ h2⟩
    ·rename_i hw
     rw [if_neg hw] at h1;exact ih _ _ _ hq h1
 refine key _ _ _ _ (fun e a' w' hp=>?_) h4;obtain⟨x',s,G',he,hrr,rfl,hk,hF⟩:=hp;obtain⟨⟨G2,hR2⟩,tq⟩:=uy hX.E hroot.pre hrr (hF.wide (fun _ h=>h) (fun _=>hnd)) hcW hk;refine⟨.normal,_,G2,by cases e<;>first | exact he.elim | trivial,hr'.Kk hR2,rfl,h2,?_⟩;exact (tq.wide (fun _ h=>h) (fun _=>rfl)).Kk
end
end Go.RT
namespace Go.RT
variable {E : TEnv}
def nO (st:TS E) (dst:Option Nat) (d:TV E):TS E:={ st with t:=br st.t dst d }
structure oV where
 m1:Oper
 cv:Oper
 as:Oper
 m2:Oper
 cl:Oper
 q1:Oper
 q2:Oper
 q3:Oper
 q4:Oper
 x1:Operand
 sT:TypeId
 bT:TypeId
 f:FuncId
 call:Call
 x5:Operand
 x6:Operand
 rest:List Oper
def Ob (A B C:List Oper):Option oV:=match A,B,C with
 | [m1,cv,as],[m2,cl],q1::q2::q3::q4::rest=>match m1.op,cv.op,cl.op with
  | .move x1,.convert sT bT _,.call c=>match c.callee,q1.op,q2.op with
   | .value (.func f),.move x5,.move x6=>some ⟨m1,cv,as,m2,cl,q1,q2,q3,q4,x1,sT,bT,f,c,x5,x6,rest⟩
   | _,_,_=>none
  | _,_,_=>none
 | _,_,_=>none
def LU (x:Operand) (d:Option Nat) (n:Nat):Bool:=match x,d with
 | .tmp i,some j=>Nat.beq i j&&Nat.blt i n
 | _,_=>false
theorem xO {x:Operand} {d:Option Nat} {n:Nat} (h:LU x d n=true):∃i,x=.tmp i∧d=some i∧i<n:=by
 unfold LU at h;split at h
 ·rename_i i j
  rw [aV] at h;exact⟨i,rfl,by rw [bt h.1],rV.1 h.2⟩
 ·cases h
def FA (d e:Option Nat):Bool:=match d,e with
 | some i,some j=>!(Nat.beq i j)
 | _,_=>true
def opAs (o:Oper) (d:Option Nat) (n:Nat):Bool:=match o.op with
 | .assign x=>LU x d n
 | _=>false
def aeK (o:Oper) (d:Option Nat) (n:Nat):Bool:=match o.op with
 | .move x=>LU x d n
 | _=>false
def aeL (o:Oper) (s t:TypeId) (d:Option Nat) (n:Nat):Bool:=match o.op with
 | .convert s' t' x=>Nat.beq s' s&&(Nat.beq t' t&&LU x d n)
 | _=>false
def FB (o:Oper):Bool:=match o.guard with
 | none=>true
 | some _=>false
def oV.tys (P:Program) (s:oV):Bool:=match aB P s.sT,aB P s.bT with
 | some ⟨.string,_,_,_⟩,some ⟨.slice e,_,_,_⟩=>match aB P e with
  | some ⟨.int .u8,_,_,_⟩=>true
  | _=>false
 | _,_=>false
def oV.ok (X:Cx E) (n:Nat) (s:oV):Bool :=
 ((FB s.m1&&(FB s.cv&&(FB s.as&&(FB s.m2&&FB s.cl))))&&(FB s.q1&&(FB s.q2&&(FB s.q3&&FB s.q4)))) &&
 ((aeL s.cv s.sT s.bT s.m1.dst n&&(opAs s.as s.cv.dst n&&aeK s.m2 s.as.dst n))&&(aeK s.q3 s.as.dst n&&aeL s.q4 s.bT s.sT s.q3.dst n)) &&
 ((match s.call.args.toList with | [x]=>LU x s.m2.dst n | _=>false)&&(FA s.as.dst s.m2.dst&&(FA s.as.dst s.cl.dst&&(FA s.as.dst s.q1.dst&&FA s.as.dst s.q2.dst)))) &&
 (s.tys X.P&&(match X.rv with | some g=>Nat.beq g s.f | none=>false))
def oV.s5 (s:oV) (st:TS E) (l:List UInt8):TS E:=nO (nO (nO (nO (nO st s.m1.dst (.dat .str l)) s.cv.dst .any) s.as.dst .any) s.m2.dst .any) s.cl.dst .any
def oV.s6 (s:oV) (st:TS E) (l:List UInt8):TS E:=nO (s.s5 st l) s.q1.dst ((s.s5 st l).ev s.x5)
def oV.s9 (s:oV) (st:TS E) (l:List UInt8):TS E:=nO (nO (nO (s.s6 st l) s.q2.dst ((s.s6 st l).ev s.x6)) s.q3.dst .any) s.q4.dst (.dat .str l.reverse)
noncomputable def ahF {R:Type} (X:Cx E) (A B C:Array Oper) (st:TS E) (k:Ex E→TS E→Option R):Option R:=match Ob A.toList B.toList C.toList with
 | none=>none
 | some s=>match st.ev s.x1 with
  | .dat .str l=>cond (s.ok X st.t.length&&(bz A.toList&&(bz B.toList&&bz C.toList))) (rq (decide (l.length≤9223372036854775807)) (nN X C s.rest (s.s9 st l) k)) none
  | _=>none
section
variable {P : Program} {ops : Array Oper} {Q : Exit → Act → World → Prop} {a : Act} {w w' : World} {o : Oper} {rest : List Oper}
theorem mg {v:Value} (hg:FB o=true) (h:(execOp a.eval o).run P w=.ok (.value v) w') (hk:wpList P ops Q rest (a.put o.dst v) w'):wpList P ops Q (o::rest) a w:=by
 unfold wpList;have:o.guard=none:=by unfold FB at hg;split at hg<;>first | assumption | cases hg
 rw [if_pos (by simp [Region.wanted,this])];refine .inl ?_;unfold Oper.wp;rw [h];exact hk
theorem abU {f:FuncId} {args:Array Value} (hg:FB o=true) (h:(execOp a.eval o).run P w=.ok (.enter f args) w) (hk:Calls P f args w fun e w'=>∃v,e=.returned v∧wpList P ops Q rest (a.put o.dst v) w'):wpList P ops Q (o::rest) a w:=by
 unfold wpList;have:o.guard=none:=by unfold FB at hg;split at hg<;>first | assumption | cases hg
 rw [if_pos (by simp [Region.wanted,this])];refine .inl ?_;unfold Oper.wp;rw [h];refine Calls.mono hk fun e w'' he=>?_;obtain⟨v,rfl,hk⟩:=he;exact hk
theorem Kl {x:Operand} (ho:o.op=.move x):(execOp a.eval o).run P w=.ok (.value (a.eval x)) w:=by simp [execOp,ho]
theorem ak8 {x:Operand} (ho:o.op=.assign x):(execOp a.eval o).run P w=.ok (.value (a.eval x)) w:=by simp [execOp,ho]
theorem eval_put {i:Nat} {d:Option Nat} {v:Value} (hd:d=some i) (hi:i<a.tmps.size):(a.put d v).eval (.tmp i)=v:=by
 have:=xF a d v i;rw [if_pos ⟨hd,hi⟩] at this;exact this
theorem AQ {i:Nat} {d:Option Nat} {v:Value} (hd:d≠some i):(a.put d v).eval (.tmp i)=a.eval (.tmp i):=by
 have:=xF a d v i;rw [if_neg (fun h=>hd h.1)] at this;exact this
theorem Dy {i:Nat} {e:Option Nat} (h:FA (some i) e=true):e≠some i:=by
 intro he;subst he;simp [FA] at h
end
theorem Nb (w:World) (e:TypeId) (l:List UInt8):Sort.Holds (Value.int .u8) (Lib.bytesWorld w e ⟨⟨l⟩⟩) w.heap.size 0 (bI l).toArray:=by
 intro j hj;have hj':j<l.length:=by simpa [bI] using hj
 have e1:(bI l).toArray[j]! = ((l.getD j 0).toNat:Int):=by simp [bI,hj',List.getD]
 rw [fC,e1];refine⟨Lib.bytesWorld_cell w e ⟨⟨l⟩⟩ j hj',?_⟩;unfold World.frozen?
 have hsz:j<(Lib.bytesCells w e ⟨⟨l⟩⟩).size:=by
  unfold Lib.bytesCells;rw [XE,Array.size_map];exact eF hj' (XK l.length _)
 simp only [Lib.bytesWorld_at_new];simp;omega
theorem aeM {X:Cx E} (hX:X.Ok) {st:TS E} {A B C:List Oper} {s:oV} (hs:Ob A B C=some s) {l:List UInt8} (hx:st.ev s.x1=.dat .str l) (hok:s.ok X st.t.length=true) (hl:l.length≤9223372036854775807)
  {w0 w:World} {G0 G:au} {a:Act} (hr:Rel E w0 G0 st a w G) :
  ∃a3 w1,(∀ops Q,Q .normal a3 w1→wpList X.P ops Q A a w)∧∃W2:Act→World→Prop,(∀ops Q,(∀a5 w2,W2 a5 w2→Q .normal a5 w2)→wpList X.P ops Q B a3 w1) ∧
   ∀a5 w2,W2 a5 w2→∃a9,(∃G',Rel E w0 G0 (s.s9 st l) a9 w2 G')∧∀ops Q,wpList X.P ops Q s.rest a9 w2→wpList X.P ops Q C a5 w2:=by
 have hsz:=hr.size;unfold Ob at hs;split at hs<;>try (cases hs;done)
 rename_i m1 cv as m2 cl q1 q2 q3 q4 rest;split at hs<;>try (cases hs;done)
 rename_i x1 sT bT xc c hm1 BL hcl;split at hs<;>try (cases hs;done)
 rename_i f x5 x6 ahG hq1 M0;cases hs;simp only [oV.ok,aV] at hok;obtain⟨⟨⟨⟨⟨g1,g2,g3,g4,g5⟩,g6,g7,g8,g9⟩,⟨k1,k2,k3⟩,k4,k5⟩,k6,n1,n2,n3,n4⟩,hty,hrv⟩:=hok;dsimp only at hx;unfold aeL at k1;rw [BL] at k1;simp only [aV] at k1;obtain⟨y1,rfl,d1,l1⟩:=xO k1.2.2;unfold opAs at k2;split at k2<;>try (cases k2;done)
 rename_i xa has;obtain⟨y2,rfl,d2,l2⟩:=xO k2;unfold aeK at k3;split at k3<;>try (cases k3;done)
 rename_i xm hm2;obtain⟨y3,rfl,d3,l3⟩:=xO k3;unfold aeK at k4;split at k4<;>try (cases k4;done)
 rename_i xq hq3;obtain⟨y3',rfl,d3',l3'⟩:=xO k4;have:y3'=y3:=by rw [d3] at d3';exact (gC d3').symm
 subst this;unfold aeL at k5;split at k5<;>try (cases k5;done)
 rename_i bT' sT' xz hq4;simp only [aV] at k5;have e1:=bt k5.1;have e2:=bt k5.2.1;subst e1 e2;obtain⟨y8,rfl,d8,l8⟩:=xO k5.2.2;split at k6<;>try (cases k6;done)
 rename_i xk hargs;obtain⟨y4,rfl,d4,l4⟩:=xO k6;rw [d3] at n1 n2 n3 n4;have n1:=Dy n1;have n2:=Dy n2;have n3:=Dy n3;have n4:=Dy n4;unfold oV.tys at hty;split at hty<;>try (cases hty;done)
 rename_i i1 i2 z1 e i3 i4 z2 hts htb;split at hty<;>try (cases hty;done)
 rename_i i5 i6 z3 hte;obtain⟨_,_,wX,-⟩:=aq hts;obtain⟨_,_,hub,-⟩:=aq htb;obtain⟨_,_,jA,-⟩:=aq hte;split at hrv<;>try (cases hrv;done)
 rename_i g hg;have hf:=bt hrv;subst hf;have hR:=hX.rv g hg;have pF:=hr.ev x1;rw [hx] at pF;have anJ:=pF.ep;obtain⟨V,hV⟩:∃V:Value,V=.slice (some ⟨w.heap.size,0,none⟩) l.length (grownCap w l.length 0 e):=⟨_,rfl⟩;obtain⟨w1,hw1⟩:∃w1,w1=Lib.bytesWorld w e ⟨⟨l⟩⟩:=⟨_,rfl⟩;have r1:=hr.put (v:=a.eval x1) (d:=.dat .str l) (by rw [←hx];exact hr.ev x1) m1.dst;have r2:=r1.put (v:=V) (d:=.any) (by simp only [VT]) cv.dst;have r3:=r2.put (v:=V) (d:=.any) (by simp only [VT]) as.dst;have r4:=r3.put (v:=V) (d:=.any) (by simp only [VT]) m2.dst;have r5:=r4.put (v:=.tuple #[]) (d:=.any) (by simp only [VT]) cl.dst;have sz:∀(b:Act) (d:Option Nat) (v:Value),(b.put d v).tmps.size=b.tmps.size:=BG;refine⟨((a.put m1.dst (a.eval x1)).put cv.dst V).put as.dst V,w1,fun ops Q hQ=>?_,fun a5 w2=>a5=((((a.put m1.dst (a.eval x1)).put cv.dst V).put as.dst V).put m2.dst V).put cl.dst (.tuple #[])∧∃n,w2=Sort.putRow (Value.int .u8) (Sort.ahead w1 n) w.heap.size 0 (bI l).reverse.toArray,fun ops Q hQ=>?_,?_⟩
 ·refine mg g1 (Kl hm1) (mg (v:=V) (w':=w1) g2 ?_ (mg (v:=V) (w':=w1) g3 ?_ hQ))
  ·have hrun:(convert sT' bT' ((a.put m1.dst (a.eval x1)).eval (.tmp y1))).run X.P w=.ok V w1:=by
    rw [eval_put d1 (by rw [hsz];exact l1),anJ,hV,hw1];exact Lib.run_convert_string_bytes w sT' bT' e ⟨⟨l⟩⟩ wX hub jA
   simp only [execOp,BL,Sem.run_bind,hrun,Result.andThen_ok,Sem.run_pure]
  ·rw [ak8 has,eval_put d2 (by rw [sz,hsz];exact l2)]
 ·refine mg (v:=V) (w':=w1) g4 ?_ (abU (f:=g) (args:=#[V]) g5 ?_ ?_)
  ·rw [Kl hm2,eval_put d3 (by rw [sz,sz,hsz];exact l3)]
  ·have Dq:=r4.ev (.func g)
   simp only [TS.ev,VT] at Dq;obtain⟨vs,hfe,hvs⟩:=Dq;have hvs:vs.toList=[]:=by simpa only [aP] using hvs
   have hvs:vs=#[]:=by apply nj;exact hvs
   subst hvs;have ha:c.args=#[.tmp y4]:=by apply nj;exact hargs
   have anK:((((a.put m1.dst (a.eval x1)).put cv.dst V).put as.dst V).put m2.dst V).eval (.tmp y4)=V:=eval_put d4 (by rw [sz,sz,sz,hsz];exact l4)
   have:(execOp ((((a.put m1.dst (a.eval x1)).put cv.dst V).put as.dst V).put m2.dst V).eval cl).run X.P w1=(callFunc g #[V]).run X.P w1:=by
    simp only [execOp,hcl,resolve,ahG,hfe,Deferred.ofValue,Sem.run_bind,Sem.run_pure,Result.andThen_ok,invoke,ha];simp [anK]
   rw [this,hR.enters]
  ·have hlen:(bI l).length=l.length:=by simp [bI]
   have hH:Sort.Holds (Value.int .u8) w1 w.heap.size 0 (bI l).toArray:=by rw [hw1];exact Nb w e l
   have hc:=hR.call w.heap.size (grownCap w l.length 0 e) (bI l) w1 hH (by rw [hlen];exact hl);rw [hlen,←hV] at hc;refine hc.mono fun e' w' he=>?_;obtain⟨rfl,n,hn⟩:=he;exact⟨_,rfl,hQ _ _ ⟨rfl,n,hn⟩⟩
 ·rintro a5 w2 ⟨rfl,n,HU⟩
  have hV3:∀(b:Act),b.eval (.tmp y3')=V→b.tmps.size=a.tmps.size→True:=fun _ _ _=>trivial;have e3:(((a.put m1.dst (a.eval x1)).put cv.dst V).put as.dst V).eval (.tmp y3')=V:=eval_put d3 (by rw [sz,sz,hsz];exact l3);have e4:((((a.put m1.dst (a.eval x1)).put cv.dst V).put as.dst V).put m2.dst V).eval (.tmp y3')=V:=by rw [AQ n1];exact e3
  have e5:(((((a.put m1.dst (a.eval x1)).put cv.dst V).put as.dst V).put m2.dst V).put cl.dst (.tuple #[])).eval (.tmp y3')=V:=by rw [AQ n2];exact e4
  have s5:(((((a.put m1.dst (a.eval x1)).put cv.dst V).put as.dst V).put m2.dst V).put cl.dst (.tuple #[])).tmps.size=a.tmps.size:=by rw [sz,sz,sz,sz,sz]
  generalize (((((a.put m1.dst (a.eval x1)).put cv.dst V).put as.dst V).put m2.dst V).put cl.dst (.tuple #[]))=a5 at r5 e5 s5 ⊢;have r6:=r5.put (r5.ev x5) q1.dst;have r7:=r6.put (r6.ev x6) q2.dst;have r8:=r7.put (v:=V) (d:=.any) (by simp only [VT]) q3.dst;have r9:=r8.put (v:=mkStr l.reverse) (d:=.dat .str l.reverse) (.str _ _ _) q4.dst;have e7:((a5.put q1.dst (a5.eval x5)).put q2.dst ((a5.put q1.dst (a5.eval x5)).eval x6)).eval (.tmp y3')=V:=by rw [AQ n4,AQ n3];exact e5
  have hold:∀j,j<w.heap.size→w2.heap[j]? = w.heap[j]?:=fun j hj=>by
   rw [HU]
   have h1:(Sort.putRow (Value.int .u8) (Sort.ahead w1 n) w.heap.size 0 (bI l).reverse.toArray).heap[j]? = w1.heap[j]?:=by
    simp only [Sort.putRow,Sort.mapBlock,Sort.ahead,adB];rw [if_neg om]
   rw [h1,hw1];exact Lib.bytesWorld_at_old w e _ j hj
  have hsize:w.heap.size≤w2.heap.size:=by
   rw [HU,Sort.size_putRow];show w.heap.size≤w1.heap.size;rw [hw1,Lib.bytesWorld_size];omega
  refine⟨_,⟨_,r9.grow (w':=w2) ⟨hsize,hold⟩ (by rw [HU,hw1];rfl) (by rw [HU,hw1];rfl) (by rw [HU,hw1];rfl) G.pr (fun _ _ h=>h) (fun _ _ _ h=>h) (fun b o hp=>eF (r9.boxes.dH b o hp).1 hsize)⟩,fun ops Q hQ=>?_⟩;refine mg g6 (Kl hq1) (mg g7 (Kl M0) (mg (v:=V) (w':=w2) g8 ?_ (mg (v:=mkStr l.reverse) (w':=w2) g9 ?_ hQ)))
  ·rw [Kl hq3,e7]
  ·have e8:(((a5.put q1.dst (a5.eval x5)).put q2.dst ((a5.put q1.dst (a5.eval x5)).eval x6)).put q3.dst V).eval (.tmp y8)=V:=eval_put d8 (by rw [sz,sz,s5,hsz];exact l8)
   have hH:=Sort.holds_putRow (Value.int .u8) (Sort.ahead w1 n) w.heap.size 0 (bI l).toArray (bI l).reverse.toArray (by
    have:=Nb w e l;rw [←hw1] at this;intro j hj;exact this j hj) si
   rw [←HU] at hH;have hlen:(bI l).reverse.length=l.length:=by simp [bI]
   have hcell:∀(j:Nat) m,(bI l).reverse[j]? = some m→w2.cell? ((⟨w.heap.size,0,none⟩:Addr).add j)=some (.int .u8 m):=fun j m hj=>by
    have hjl:j<(bI l).reverse.length:=(bS.1 hj).1;have:=(hH j (by simpa using hjl)).1;rw [add_lit];rw [this];congr 2;have:(bI l).reverse[j]=m:=(bS.1 hj).2;rw [←this];simp at hjl;simp [hjl]
   have hb:=qQ (P:=X.P) (w:=w2) ⟨w.heap.size,0,none⟩ (grownCap w l.length 0 e) (bI l).reverse hcell;rw [hlen,←hV] at hb
   have Zp:bh (bI l).reverse=l.reverse:=by
    unfold bh bI;rw [List.map_reverse,qE];congr 1
    conv=>rhs;rw [←NH l]
    apply XP;intro b _;simp
   rw [Zp] at hb
   have hrun:(convert bT' sT' V).run X.P w2=.ok (mkStr l.reverse) w2:=by
    rw [hV] at hb ⊢;unfold convert;simp only [Sem.run_bind,ak wX,ak hub,Result.andThen_ok,ak jA,hb]
   simp only [execOp,hq4,e8,Sem.run_bind,hrun,Result.andThen_ok,Sem.run_pure]
theorem Fr.nO {W:List Nat} {st s1:TS E} (h:Fr W true st s1) {dst:Option Nat} (d:TV E) (hd:∀i,i∈eH dst→i∈W):Fr W true st (nO s1 dst d) :=
 h.trans (Fr.put s1 dst d) (fun _ h=>h) hd (fun _=>⟨rfl,rfl⟩)
theorem ak9 {A B C:List Oper} {s:oV} (hs:Ob A B C=some s) (st:TS E) (l:List UInt8) {W:List Nat} (hW:∀o,o∈A++B++C→∀i,i∈eH o.dst→i∈W):Fr W true st (s.s9 st l):=by
 unfold Ob at hs;split at hs<;>try (cases hs;done)
 split at hs<;>try (cases hs;done)
 split at hs<;>try (cases hs;done)
 cases hs;unfold oV.s9 oV.s6 oV.s5;refine Fr.nO (Fr.nO (Fr.nO (Fr.nO (Fr.nO (Fr.nO (Fr.nO (Fr.nO (Fr.nO (Fr.refl _ _ _) _ ?_) _ ?_) _ ?_) _ ?_) _ ?_) _ ?_) _ ?_) _ ?_) _ ?_
 all_goals exact fun i hi=>hW _ si i hi
theorem ahH {A B C:List Oper} {s:oV} (hs:Ob A B C=some s):∃l,C=l++s.rest:=by
 unfold Ob at hs;split at hs<;>try (cases hs;done)
 rename_i m1 cv as m2 cl q1 q2 q3 q4 rest;split at hs<;>try (cases hs;done)
 split at hs<;>try (cases hs;done)
 cases hs;exact⟨[q1,q2,q3,q4],rfl⟩
end Go.RT
namespace Go.RT
variable {E : TEnv}
def jj {σ R:Type} (x:Option (σ ⊕ R)) (k:σ→Option R):Option R:=x.bind (sm k some)
def aF {σ R:Type} (body:(σ→Option R)→σ→Option R):Nat→σ→Option R
 | 0,_=>none
 | n+1,s=>body (aF body n) s
inductive Own where
 | slot (i:Nat) (e:TypeId) (t:Ty)
 | cell (r c:Nat) (e:TypeId) (t:Ty)
 | soft (i:Nat) (e:TypeId) (t:Ty)
 | Qp (r c:Nat) (e:TypeId) (t:Ty)
def nP (W:List Nat):List Own→TS E→Option (TS E)
 | [],st=>some st
 | .slot i e T::os,st=>match st.t[i]? with
  | some (.val (.slice none 0 0))=>cond (W.elem i) (nP W os { st with t:=st.t.set i (.bn st.g.length 0 T []),g:=st.g++[⟨0,e,T.size E⟩] }) none
  | _=>none
 | .cell r c e T::os,st=>match st.H[r]? with
  | some (.cells t cs)=>match cs[c]? with
   | some (.val (.slice none 0 0))=>nP W os { st with H:=st.H.set r (.cells t (cs.set c (.bn st.g.length 0 T []))),g:=st.g++[⟨0,e,T.size E⟩],d:=r::st.d }
   | _=>none
  | _=>none
 | .soft i e T::os,st=>match st.t[i]? with
  | some (.val (.slice none 0 0))=>cond (W.elem i&&Nat.blt 0 (T.size E)) (nP W os { st with t:=st.t.set i (.cw st.g.length 0),g:=st.g++[⟨0,e,T.size E⟩],c:=(st.g.length,⟨T,[]⟩)::st.c }) none
  | _=>none
 | .Qp r c e T::os,st=>match st.H[r]? with
  | some (.cells t cs)=>match cs[c]? with
   | some (.val (.slice none 0 0))=>cond (Nat.blt 0 (T.size E)) (nP W os { st with H:=st.H.set r (.cells t (cs.set c (.cw st.g.length 0))),g:=st.g++[⟨0,e,T.size E⟩],d:=r::st.d,c:=(st.g.length,⟨T,[]⟩)::st.c }) none
   | _=>none
  | _=>none
def ZI {R:Type} (X:Cx E) (st:TS E) (o:Oper) (k:TS E→Option R):Option R :=
 match o.guard,o.op with
 | none,.call c=>match c.callee with
  | .value x=>match st.ev x with
   | .pL r=>match st.H[r]? with
    | some (.loop y ds)=>match E.ydn y with
     | some n=>cond (Nat.beq c.args.size n) (lZ st o.dst y (c.args.toList.map st.ev++ds) (eM k fun _ _=>none) X.Y) none
     | none=>none
    | _=>none
   | _=>none
  | _=>none
 | _,_=>none
noncomputable def ahI {R:Type} (X:Cx E) (ops:Array Oper) (i:Nat) (st:TS E) (k:Ex E→TS E→Option R):Option R :=
 match ops.toList.drop i with
 | o::rest=>rq (bz (ops.toList.take i)&&bz rest) (nN X ops (ops.toList.take i) st (eM (fun fM=>ZI X fM o fun FC=>nN X ops rest FC k) k))
 | []=>none
inductive dc where
 | leaf
 | yat (i:Nat)
 | region (l:List (Nat × Cut × Bool))
 | draw (l:List aeF)
 | di (R Z:List Nat) (l:List sW)
 | GU (R:List Nat) (c:Cut) (t:FT)
 | rev
 | seq (ow:List Own) (c:Option (Cut × Bool)) (p q:dc)
 | cond (p q:dc)
 | loop (ow:List Own) (c:Cut) (p:dc)
 | Ey (ow:List Own) (p q:dc)
 | ZJ (p:dc)
 | range (ow:List Own) (y f:FuncId) (keep:List Nat)
def dc.l:dc→dc
 | .cond p _=>p
 | _=>.leaf
def dc.r:dc→dc
 | .cond _ q=>q
 | _=>.leaf
def wr:Code→List Nat
 | .region _ ops _=>cC ops ops.toList
 | .seq a b=>wr a++wr b
 | .cond _ a b=>wr a++wr b
 | .block _ a=>wr a
 | .scope a=>wr a
 | .loop a=>wr a
 | _=>[]
def fQ:Code→Bool
 | .region _ ops _=>bz ops.toList
 | .seq a b=>fQ a&&fQ b
 | .cond _ a b=>fQ a&&fQ b
 | .block _ a=>fQ a
 | .scope a=>fQ a
 | .loop a=>fQ a
 | _=>true
def Vv {σ R:Type} (x:Option σ):Option (σ ⊕ R):=x.bind fun s=>some (.inl s)
def uz {σ R:Type} (x:Option R):Option (σ ⊕ R):=x.bind fun r=>some (.inr r)
noncomputable def ZK {R:Type} (X:Cx E) (all:Array Oper):List (Nat × Cut × Bool)→List Oper→TS E→(Ex E→TS E→Option R)→Option R
 | [],l,st,k=>nN X all l st k
 | s::cs,l,st,k=>rq (s.2.1.okW (cC all (l.take s.1))&&bz (l.take s.1)) (cond s.2.2
   (jj (nN X all (l.take s.1) st (eM (fun st'=>Vv (s.2.1.pack st st')) fun e st'=>uz (k e st'))) fun x=>ZK X all cs (l.drop s.1) (s.2.1.un (cC all (l.take s.1)) st x) k)
   ((nN X all (l.take s.1) st (eM (fun st'=>s.2.1.pack st st') fun _ _=>none)).bind fun x=>ZK X all cs (l.drop s.1) (s.2.1.un (cC all (l.take s.1)) st x) k))
abbrev Qq {R:Type} (i:Nat) (k:Ex E→TS E→Option R):Ex E→TS E→Option R
 | .exit j,st=>cond (Nat.beq j i) (k .normal st) (k (.exit j) st)
 | e,st=>k e st
abbrev ala {R:Type} (k:Ex E→TS E→Option R):Ex E→TS E→Option R
 | .goto _,_=>none
 | e,st=>k e st
noncomputable def runT (X:Cx E) (F:Nat):Code→dc→{R:Type}→TS E→(Ex E→TS E→Option R)→Option R
 | .skip,_,_,st,k=>k .normal st
 | .label _,_,_,st,k=>k .normal st
 | .exit i,_,_,st,k=>k (.exit i) st
 | .ret,_,_,st,k=>k .ret st
 | .region _ ops dr,p,_,st,k=>X7 dr (match p with
   | .draw ss=>GP X ops.toList 0 ss st (k .normal)
   | .di R Z ss=>di X R Z ops ss st (k .normal)
   | .GU R c t=>GU X R ops c t st (k .normal)
   | _=>none) (match p with
   | .region cs=>ZK X ops cs ops.toList st k
   | .yat i=>ahI X ops i st k
   | _=>nN X ops ops.toList st k)
 | .seq a b,p,_,st,k=>match p with
  | .seq ow c p q=>match nP (wr a++wr b) ow st with
   | none=>none
   | some st=>match c with
    | none=>runT X F a p st (eM (fun st'=>runT X F b q st' k) k)
    | some (c,j)=>rq (c.okW (wr a)&&fQ a) (_root_.cond j
     (jj (runT X F a p st (eM (fun st'=>Vv (c.pack st st')) fun e st'=>uz (k e st'))) fun x=>runT X F b q (c.un (wr a) st x) k)
     ((runT X F a p st (eM (fun st'=>c.pack st st') fun _ _=>none)).bind fun x=>runT X F b q (c.un (wr a) st x) k))
  | .rev=>match a,b with
   | .region _ A false,.seq (.region _ B false) (.region _ C false)=>ahF X A B C st k
   | _,_=>none
  | _=>runT X F a .leaf st (eM (fun st'=>runT X F b .leaf st' k) k)
 | .cond c a b,p,_,st,k=>match st.ev c with
  | .dat .bool v=>_root_.cond v (runT X F a p.l st k) (runT X F b p.r st k)
  | _=>none
 | .block i a,p,_,st,k=>runT X F a p st (Qq i k)
 | .scope a,p,_,st,k=>runT X F a p st (ala k)
 | .loop a,p,_,st,k=>match p with
  | .loop ow c p=>match nP (wr a) ow st with
   | none=>none
   | some st=>rq (c.okW (wr a)&&fQ a) ((c.pack st st).bind fun s=>aF (fun rc s=>runT X F a p (c.un (wr a) st s) (eM (fun st'=>(c.pack st st').bind rc) k)) F s)
  | _=>none
 | _,_,_,_,_=>none
section
variable {X : Cx E} {st : TS E}
theorem Dh.mono {P:Program} {c:Code} {Q Q':Ex E→TS E→Prop} (h:Dh E P c st Q) (hq:∀x s,Q x s→Q' x s):Dh E P c st Q':=fun w0 G0 a w G hr =>
 wp_mono (h w0 G0 a w G hr) fun _ _ _ hp=>bD.mono hq hp
theorem jE {W:List Nat} {w0 w:World} {G0:au} {a:Act}:∀ {os:List Own} {st st':TS E} {G:au},nP W os st=some st'→Rel E w0 G0 st a w G→(∃G',Rel E w0 G0 st' a w G')∧Fr W true st st'
 | [],st,st',G,h,hr=>by cases h;exact⟨⟨G,hr⟩,Fr.refl _ _ _⟩
 | .slot i e T::os,st,st',G,h,hr=>by
  simp only [nP] at h;split at h<;>try (cases h;done)
  rename_i hi;cases hw:W.elem i<;>rw [hw] at h<;>simp only [cond_true,cond_false] at h
  ·cases h
  obtain⟨G1,cJ⟩:=hr.amy hi e T;obtain⟨h1,h2⟩:=jE h cJ
  have f1:Fr [i] true st { st with t:=st.t.set i (.bn st.g.length 0 T []),g:=st.g++[⟨0,e,T.size E⟩] }:=⟨si,fun j hj=>by
   show (st.t.set i _)[j]? = _;rw [iB (fun e=>hj (by simp [e]))],⟨[],rfl,fun _ _ _=>rfl⟩,bM _,fun _=>rfl⟩
  exact⟨h1,f1.trans h2 (fun j hj=>by simp at hj;subst hj;exact Eh hw) (fun _ h=>h) (fun _=>⟨rfl,rfl⟩)⟩
 | .cell r c e T::os,st,st',G,h,hr=>by
  simp only [nP] at h;split at h<;>try (cases h;done)
  rename_i t cs hH;split at h<;>try (cases h;done)
  rename_i hc;obtain⟨G1,cJ⟩:=hr.afU hH hc e T;obtain⟨h1,h2⟩:=jE h cJ;have f1:Fr [] true st { st with H:=st.H.set r (.cells t (cs.set c (.bn st.g.length 0 T []))),g:=st.g++[⟨0,e,T.size E⟩],d:=r::st.d }:=⟨rfl,fun _ _=>rfl,⟨[r],rfl,xM _ _ _⟩,si,fun _=>rfl⟩
  exact⟨h1,f1.trans h2 (fun j hj=>by cases hj) (fun _ h=>h) (fun _=>⟨rfl,rfl⟩)⟩
 | .soft i e T::os,st,st',G,h,hr=>by
  simp only [nP] at h;split at h<;>try (cases h;done)
  rename_i hi;cases hw:(W.elem i&&Nat.blt 0 (T.size E))<;>rw [hw] at h<;>simp only [cond_true,cond_false] at h
  ·cases h
  rw [aV] at hw;obtain⟨G1,cJ⟩:=hr.af3 hi e T (ef hw.2);obtain⟨h1,h2⟩:=jE h cJ
  have f1:Fr [i] true st { st with t:=st.t.set i (.cw st.g.length 0),g:=st.g++[⟨0,e,T.size E⟩],c:=(st.g.length,⟨T,[]⟩)::st.c }:=⟨si,fun j hj=>by
   show (st.t.set i _)[j]? = _;rw [iB (fun e=>hj (by simp [e]))],⟨[],rfl,fun _ _ _=>rfl⟩,bM _,fun _=>rfl⟩
  exact⟨h1,f1.trans h2 (fun j hj=>by simp at hj;subst hj;exact Eh hw.1) (fun _ h=>h) (fun _=>⟨rfl,rfl⟩)⟩
 | .Qp r c e T::os,st,st',G,h,hr=>by
  simp only [nP] at h;split at h<;>try (cases h;done)
  rename_i t cs hH;split at h<;>try (cases h;done)
  rename_i hc;cases hw:Nat.blt 0 (T.size E)<;>rw [hw] at h<;>simp only [cond_true,cond_false] at h
  ·cases h
  obtain⟨G1,cJ⟩:=hr.aez hH hc e T (ef hw);obtain⟨h1,h2⟩:=jE h cJ;have f1:Fr [] true st { st with H:=st.H.set r (.cells t (cs.set c (.cw st.g.length 0))),g:=st.g++[⟨0,e,T.size E⟩],d:=r::st.d,c:=(st.g.length,⟨T,[]⟩)::st.c }:=⟨rfl,fun _ _=>rfl,⟨[r],rfl,xM _ _ _⟩,si,fun _=>rfl⟩;exact⟨h1,f1.trans h2 (fun j hj=>by cases hj) (fun _ h=>h) (fun _=>⟨rfl,rfl⟩)⟩
theorem zT {P:Program} {ops:Array Oper} {Q:Exit→Act→World→Prop}:∀(l1 l2:List Oper) (a:Act) (w:World),wpList P ops (Exit.then (wpList P ops Q l2) Q) l1 a w→wpList P ops Q (l1++l2) a w
 | [],l2,a,w,h=>h
 | o::l1,l2,a,w,h=>by
  rw [je];unfold wpList at h ⊢;split
  ·rename_i hw
   rw [if_pos hw] at h;rcases h with h | ⟨h,a1,w1,h2⟩
   ·exact .inl (Oper.Zy (fun a w h=>zT l1 l2 a w h) (fun e a w hne hq=>by cases e<;>first | exact (hne rfl).elim | exact hq) h)
   ·exact .inr ⟨h,a1,w1,h2⟩
  ·rename_i hw
   rw [if_neg hw] at h;exact zT l1 l2 _ w h
theorem mJ {P:Program} {ops:Array Oper}:∀(l:List Oper) (a:Act) (w:World) {Q1 Q2:Exit→Act→World→Prop},(∀e a w,Q1 e a w→Q2 e a w)→wpList P ops Q1 l a w→wpList P ops Q2 l a w
 | [],a,w,Q1,Q2,hq,h=>hq _ _ _ h
 | o::l,a,w,Q1,Q2,hq,h=>by
  unfold wpList at h ⊢;split
  ·rename_i hw
   rw [if_pos hw] at h;rcases h with h | ⟨h,a1,w1,h2⟩
   ·exact .inl (kG (fun a w h=>mJ l a w hq h) hq h)
   ·exact .inr ⟨h,a1,w1,hq _ _ _ h2⟩
  ·rename_i hw
   rw [if_neg hw] at h;exact mJ l _ _ hq h
def FW (ro:Option Nat):Fence:={ Fence.wide with round:=ro }
def pP:Code→Bool
 | .region _ ops dr=>!dr&&bz ops.toList
 | .seq a b=>pP a&&pP b
 | .cond _ a b=>pP a&&pP b
 | .block _ a=>pP a
 | .scope _=>false
 | .loop a=>pP a
 | .rangeFunc _ _ _ _=>false
 | _=>true
def FD (P:Program) (c:Code) (st:TS E) (Q:Ex E→TS E→Prop):Prop :=
 ∀ro,(ro.isSome=true→pP c=true)→∀w0 G0 a w G,Rel E w0 G0 st a w G→c.wpIn (FW ro) 0 P (bD E w0 G0 Q) a w
theorem ajA {P:Program} {ro:Option Nat} {o:Oper} {a:Act} {w:World} {n1 n2:Act→World→Prop} {Q:Exit→Act→World→Prop} (hd:ro.isSome=true→uc o.op=false) (hQ:¬ LetsOut Q) (hn:∀a w,n1 a w→n2 a w) (h:o.wp P a w n1 Q) :
  o.wpIn (FW ro) 0 P a w n2 Q:=by
 have anL:o.semAt ro a.eval=execOp a.eval o:=by
  cases ro with
  | none=>rfl
  | some l=>exact Oper.semAt_eq _ _ _ fun c e=>by have:=hd rfl;rw [e] at this;cases this
 refine⟨fun _ _=>trivial,?_⟩;show o.uponIn (FW ro) 0 P a n2 Q ((o.semAt ro a.eval).run P w);rw [anL];unfold Oper.wp at h;generalize (execOp a.eval o).run P w=r at *
 cases r with
 | ok n w' =>
  cases n<;>simp only [Oper.upon] at h
  case value u=>exact hn _ _ h
  case skip=>exact hn _ _ h
  case defer d=>exact hn _ _ h
  case enter f args =>
   refine⟨(fun h=>nomatch h),?_⟩;refine (callsIn_wide (n:=0)).2 (Calls.mono h fun e w'' he=>?_)
   cases e with
   | returned u=>exact hn _ _ he
   | panicked c=>exact he
   | outgrown=>exact he
  case row row args=>exact⟨(fun h=>nomatch h),fun c cs _=>by
   obtain⟨v,w2,r,s⟩:=h c cs
   exact⟨v,w2,hn _ _ r,stepsIn_wide.2 s⟩⟩
 | halt x w' =>
  cases x<;>simp only [Oper.upon] at h
  case panic u=>exact h
theorem bD.LV {w0:World} {G0:au} {Q:Ex E→TS E→Prop}:¬ LetsOut (bD E w0 G0 Q):=fun⟨_,_,x,_,_,h,_⟩=>by cases x<;>exact h
theorem Oper.Qr {F:Fence} {n:Nat} {P:Program} {o:Oper} {a:Act} {w:World} {K K':Act→World→Prop} {Q Q':Exit→Act→World→Prop} (h:∀a w,K a w→K' a w) (hq:∀e a w,e≠.normal→Q e a w→Q' e a w)
  (hh:o.wpIn F n P a w K Q):o.wpIn F n P a w K' Q':=by
 have hout:LetsOut Q→LetsOut Q':=fun⟨a,w,h⟩=>⟨a,w,hq _ _ _ si h⟩;refine⟨hh.1,?_⟩;have hh:=hh.2;generalize (o.semAt F.round a.eval).run P w=r at *
 cases r with
 | ok m w' =>
  cases m<;>simp only [Oper.uponIn] at hh ⊢
  case value u=>exact h _ _ hh
  case skip=>exact h _ _ hh
  case defer d=>exact h _ _ hh
  case enter f args =>
   refine⟨hh.1,hh.2.1,fun cs hroom=>?_⟩;obtain⟨e,w'',fr,he,hs⟩:=hh.2.2 cs hroom;refine⟨e,w'',fr,?_,hs⟩
   cases e with
   | returned u=>exact h _ _ he
   | panicked c=>exact hq _ _ _ si he
   | outgrown=>exact hout he
  case row row args=>exact⟨hh.1,RowsIn.mono hh.2 fun u w'' he=>h _ _ he⟩
  case round l f tmps assign body =>
   refine⟨hh.1,RoundIn.mono hh.2 fun e w'' he=>?_⟩
   cases e with
   | returned u=>exact h _ _ he
   | panicked c=>exact hq _ _ _ si he
   | outgrown=>exact hout he
 | halt x w' =>
  cases x<;>simp only [Oper.uponIn] at hh ⊢
  case panic u=>exact hq _ _ _ si hh
theorem rY {P:Program} {ro:Option Nat} {ops:Array Oper} {Q:Exit→Act→World→Prop} (hQ:¬ LetsOut Q):∀(l:List Oper) (a:Act) (w:World),(ro.isSome=true→bz l=true)→wpList P ops Q l a w→wpListIn (FW ro) 0 P ops Q l a w
 | [],_,_,_,h=>h
 | o::l,a,w,hd,h=>by
  have hd1:ro.isSome=true→uc o.op=false:=fun hr=>by
   have:=hd hr;simp only [bz,aV,nq] at this;exact this.1
  have hd2:ro.isSome=true→bz l=true:=fun hr=>by
   have:=hd hr;simp only [bz,aV] at this;exact this.2
  unfold wpList at h;unfold wpListIn;split
  ·rename_i hw
   rw [if_pos hw] at h;rcases h with h | ⟨_,a1,w1,h2⟩
   ·exact ajA hd1 hQ (fun a w h=>rY hQ l a w hd2 h) h
   ·exact (hQ ⟨a1,w1,h2⟩).elim
  ·rename_i hw
   rw [if_neg hw] at h;exact⟨fun _ _=>trivial,rY hQ l _ w hd2 h⟩
theorem zU {F:Fence} {n:Nat} {P:Program} {ops:Array Oper} {Q:Exit→Act→World→Prop}:∀(l1 l2:List Oper) (a:Act) (w:World),wpListIn F n P ops (Exit.then (wpListIn F n P ops Q l2) Q) l1 a w→wpListIn F n P ops Q (l1++l2) a w
 | [],l2,a,w,h=>h
 | o::l1,l2,a,w,h=>by
  rw [je];unfold wpListIn at h ⊢;split
  ·rename_i hw
   rw [if_pos hw] at h;exact Oper.Qr (fun a w h=>zU l1 l2 a w h) (fun e a w hne hq=>by cases e<;>first | exact (hne rfl).elim | exact hq) h
  ·rename_i hw
   rw [if_neg hw] at h;exact⟨h.1,zU l1 l2 _ w h.2⟩
theorem ZL (hX:X.Ok) {R:Type} {o:Oper} {k:TS E→Option R} {r:R} (h:ZI X st o k=some r) {ro:Option Nat} {Q:Exit→Act→World→Prop}:∀w0 G0 a w G,Rel E w0 G0 st a w G →
  (o.guard=none∧uc o.op=false)∧o.wpIn (FW ro) 0 X.P a w (fun a' w'=>∃st' G',Rel E w0 G0 st' a' w' G'∧k st'=some r∧Fr (eH o.dst) true st st') Q:=by
 unfold ZI at h;split at h<;>try (cases h;done)
 rename_i c hg ho;split at h<;>try (cases h;done)
 rename_i x hc;split at h<;>try (cases h;done)
 rename_i q hx;split at h<;>try (cases h;done)
 rename_i y ds hb;split at h<;>try (cases h;done)
 rename_i n hY;cases hsz:Nat.beq c.args.size n<;>rw [hsz] at h<;>simp only [cond_true,cond_false] at h
 ·cases h
 have hsz:=bt hsz;intro w0 G0 a w G hr;refine⟨⟨hg,by rw [ho];rfl⟩,fun _ _=>trivial,?_⟩;have hv:=hr.ev x;rw [hx] at hv;simp only [VT] at hv;obtain⟨b,BV,hat⟩:=hv;obtain⟨Y,fn,tmps,D,ZM,hheap,hds⟩:=hr.box hat hb;have hsz:c.args.size=Y.params.size:=hsz.trans (hX.E.ydn y Y n ZM hY).symm
 have hargs:aP E w G (c.args.toList.map st.ev++ds) (c.args.map a.eval++tmps).toList:=by
  have:=(J7 hr c.args.toList).append hds;simpa using this
 have hI:=za hX.E (SM.mono X.P) hX.Y h w0 G0 a w G (c.args.map a.eval++tmps) hr hargs;have hR:=hI Y fn b D (c.args.map a.eval) tmps ZM rfl (by simpa using hsz) hheap;show o.uponIn (FW ro) 0 X.P a _ Q ((o.semAt ro a.eval).run X.P w);rw [Oper.semAt_eq _ _ _ fun c' e=>by rw [ho] at e;cases e]
 have hrun:(execOp a.eval o).run X.P w=.ok (.round b fn ((Y.params.zip (c.args.map a.eval)).foldl (fun t (p,v)=>t.setIfInBounds p v) tmps) Y.assign Y.body) w:=by
  have hy:=run_yield (P:=X.P) (args:=c.args.map a.eval) hheap (by simpa using hsz);simp only [execOp,ho,resolve,hc,BV,Deferred.ofValue,Sem.run_bind,Sem.run_pure,Result.andThen_ok,invoke];simpa using hy
 rw [hrun];refine⟨(fun h=>nomatch h),RoundIn.mono hR fun e w' he=>?_⟩;rcases he with⟨v,st',G',rfl,hR',hk,hF⟩ | ⟨x,st',hne,hk⟩
 ·exact⟨st',G',hR',hk,hF⟩
 ·cases x<;>first | exact (hne rfl).elim | cases hk
theorem GW {σ R:Type} {x:Option σ} {j:σ ⊕ R} (h:Vv x=some j):∃s,x=some s∧j=.inl s:=by
 unfold Vv at h
 cases x with
 | none=>cases h
 | some s=>cases h;exact⟨s,rfl,rfl⟩
theorem Km {σ R:Type} {x:Option R} {j:σ ⊕ R} (h:uz x=some j):∃r,x=some r∧j=.inr r:=by
 unfold uz at h
 cases x with
 | none=>cases h
 | some s=>cases h;exact⟨s,rfl,rfl⟩
theorem ajB {σ R:Type} {x:Option (σ ⊕ R)} {k:σ→Option R} {r:R} (h:jj x k=some r):∃j,x=some j∧(∀s,j=.inl s→k s=some r)∧∀r',j=.inr r'→r'=r:=by
 unfold jj at h
 cases x with
 | none=>cases h
 | some j =>
  refine⟨j,rfl,fun s hs=>?_,fun r' hr=>?_⟩
  ·subst hs;exact h
  ·subst hr;exact gC h
theorem Vw {σ R:Type} {j:Bool} {A:{R':Type}→(Ex E→TS E→Option R')→Option R'} {pk:TS E→Option σ} {B:σ→Option R} {k:Ex E→TS E→Option R} {r:R}
  (h:cond j (jj (A (eM (fun st'=>Vv (pk st')) fun e st'=>uz (k e st'))) B) ((A (eM pk fun _ _=>none)).bind B)=some r) {C:(Ex E→TS E→Prop)→Prop} (hA:∀ {R':Type} {k':Ex E→TS E→Option R'} {r':R'},A k'=some r'→C (fun x s=>k' x s=some r')) :
  ∃Q:Ex E→TS E→Prop,C Q∧(∀s,Q .normal s→∃x,pk s=some x∧B x=some r)∧∀x s,x≠.normal→Q x s→k x s=some r:=by
 cases j<;>simp only [cond_true,cond_false] at h
 ·cases hx:A (eM pk fun _ _=>none) with
  | none=>rw [hx] at h;cases h
  | some x =>
   rw [hx] at h;refine⟨_,hA hx,fun s hs=>⟨x,hs,h⟩,fun e s hne hs=>?_⟩;cases e<;>first | exact (hne rfl).elim | cases hs
 ·obtain⟨jv,hx,h1,h2⟩:=ajB h
  refine⟨_,hA hx,fun s hs=>?_,fun e s hne hs=>?_⟩
  ·obtain⟨x,hp,rfl⟩:=GW hs
   exact⟨x,hp,h1 x rfl⟩
  ·have:uz (k e s)=some jv:=by cases e<;>first | exact (hne rfl).elim | exact hs
   obtain⟨r',hk,rfl⟩:=Km this;rw [hk,h2 r' rfl]
theorem Qs {R:Type} (hX:X.Ok) {all:Array Oper} {k:Ex E→TS E→Option R} {r:R}:∀(cs:List (Nat × Cut × Bool)) {l:List Oper} {st:TS E},ZK X all cs l st k=some r →
  adY E X.P all l st (fun x st'=>k x st'=some r∧Fr (cC all l) (bz l) st st')
 | [],l,st,h=>mc hX h
 | s::cs,l,st,h=>by
  simp only [ZK] at h;obtain⟨hc,h⟩:=b9 h;rw [aV] at hc;intro w0 G0 a w G hr;have hpre:=hr.pre;obtain⟨Q,hC,hN,hX'⟩:=Vw (A:=fun {R'} k'=>nN (R:=R') X all (l.take s.1) st k') h (C:=fun Q=>adY E X.P all (l.take s.1) st (fun x st'=>Q x st'∧Fr (cC all (l.take s.1)) (bz (l.take s.1)) st st')) (fun h'=>mc hX h');rw [←um s.1 l];refine zT _ _ a w (mJ _ a w (fun e a' w' hp=>?_) (hC w0 G0 a w G hr));obtain⟨x,s',G',he,hr',hq,hf⟩:=hp
  have aiT:∀i,i∈cC all (l.take s.1)→i∈cC all (l.take s.1++l.drop s.1):=fun i hi=>by
   rw [um];exact Bn l 0 s.1 i (by simpa using hi)
  have amE:∀i,i∈cC all (l.drop s.1)→i∈cC all (l.take s.1++l.drop s.1):=fun i hi=>by
   rw [um];exact Bn l s.1 l.length i (by rw [mw si];exact hi)
  have ahz:bz (l.take s.1++l.drop s.1)=true→bz (l.drop s.1)=true:=fun hn=>by
   rw [um] at hn;have:=vG l s.1 l.length hn;rwa [mw si] at this
  cases x with
  | normal =>
   cases e<;>try (exact he.elim)
   obtain⟨y,hp,hB⟩:=hN s' hq;obtain⟨⟨G2,hR⟩,hF⟩:=uy hX.E hpre hr' (hf.wide (fun _ h=>h) (fun _=>hc.2)) hc.1 hp;show wpList _ _ _ _ _ _
   exact mJ _ _ _ (fun e a w hp=>bD.mono (fun x s'' hh=>⟨hh.1,hF.trans hh.2 aiT amE (fun hn=>⟨rfl,ahz hn⟩)⟩) hp) (Qs hX cs hB w0 G0 a' w' G2 hR)
  | _ =>
   have hk:=hX' _ s' (by intro h;cases h) hq;have jB:bD E w0 G0 (fun x st'=>k x st'=some r∧Fr (cC all (l.take s.1++l.drop s.1)) (bz (l.take s.1++l.drop s.1)) st st') e a' w':=⟨_,s',G',he,hr',hk,hf.wide aiT (fun _=>hc.2)⟩;cases e<;>first | exact he.elim | exact jB
theorem Kn {ι:Type} {F:Fence} {n:Nat} {P:Program} {c:Code} {a:Act} {w:World} {Q:Exit→Act→World→Prop} (I:ι→Act→World→Prop) (μ:ι→Nat) (x0:ι) (h₀:I x0 a w)
  (round:∀x a w,I x a w→c.wpIn F n P (Exit.then (fun a' w'=>∃y,I y a' w'∧μ y<μ x) Q) a w):(Code.loop c).wpIn F n P Q a w:=by
 intro b k cs hro hb hr
 have key:∀j x a w,μ x=j→I x a w →
   ∃e a' w',Q e a' w'∧ArrivesIn (Machine.fenced P F) P (lone (b.atR a (.code c :: .inLoop c::k)) cs w) b k cs e a' w':=by
  intro j
  induction j using Nat.strongRecOn with
  | _ j ih =>
   intro x a w hn hI;obtain⟨e,a₁,w₁,hq,Ko⟩:=round x a w hI b (.inLoop c::k) cs hro hb hr
   cases e with
   | normal =>
    obtain⟨y,hI₁,hlt⟩:=hq;obtain⟨e₂,a₂,w₂,hq₂,amF⟩:=ih (μ y) (hn▸hlt) y a₁ w₁ rfl hI₁
    exact⟨e₂,a₂,w₂,hq₂,.of_steps (StepsIn.trans Ko (.one (fenced_calm hb hr rfl) stepR_inLoop)) amF⟩
   | exit id=>exact⟨_,a₁,w₁,hq,.pass (x:=.inLoop c) rfl (fun _ _=>.inl si) Ko⟩
   | goto l=>exact⟨_,a₁,w₁,hq,.pass (x:=.inLoop c) rfl (fun _ _=>.inl si) Ko⟩
   | ret=>exact⟨_,a₁,w₁,hq,.pass (x:=.inLoop c) rfl (fun _ _=>.inl si) Ko⟩
   | panic ch=>exact⟨_,a₁,w₁,hq,.pass (x:=.inLoop c) rfl (fun _ _=>.inl si) Ko⟩
   | outgrown=>exact⟨_,a₁,w₁,hq,.pass (x:=.inLoop c) rfl (fun _ _=>.inl si) Ko⟩
 obtain⟨e,a',w',hq,Ko⟩:=key _ x0 a w rfl h₀;exact⟨e,a',w',hq,.of_steps (.one (fenced_calm hb hr rfl) stepR_loop) Ko⟩
theorem FD.of_wp {P:Program} {c:Code} {Q:Ex E→TS E→Prop} (hc:pP c=false) (h:Dh E P c st Q):FD P c st Q:=fun ro hro w0 G0 a w G hr=>by
 cases ro with
 | some l=>have:=hro rfl;rw [hc] at this;cases this
 | none=>exact (wpIn_wide (n:=0)).2 (h w0 G0 a w G hr)
theorem FD.wp {P:Program} {c:Code} {Q:Ex E→TS E→Prop} (h:FD P c st Q) {w0 w:World} {G0 G:au} {a:Act} (hr:Rel E w0 G0 st a w G):c.wp P (bD E w0 G0 Q) a w :=
 (wpIn_wide (n:=0)).1 (h none (fun h=>nomatch h) w0 G0 a w G hr)
theorem af9 {P:Program} {a b:Code} {ro:Option Nat} (hro:ro.isSome=true→pP a=true) {w0 w:World} {G0 G:au} {ac:Act} {Q1 Q:Ex E→TS E→Prop} (hr:Rel E w0 G0 st ac w G) (h:FD P a st Q1) (hN:∀s a' w' G',Q1 .normal s→Rel E w0 G0 s a' w' G'→b.wpIn (FW ro) 0 P (bD E w0 G0 Q) a' w')
  (hX:∀x s,x≠.normal→Q1 x s→Q x s):(Code.seq a b).wpIn (FW ro) 0 P (bD E w0 G0 Q) ac w:=by
 refine wpIn_seq (wpIn_mono (h ro hro w0 G0 ac w G hr) fun e a' w' hp=>?_);obtain⟨x,s,G',he,hr',hq⟩:=hp
 cases x with
 | normal =>
  cases e<;>try (exact he.elim)
  exact hN s a' w' G' hq hr'
 | _ =>
  have jB:bD E w0 G0 Q e a' w':=⟨_,s,G',he,hr',hX _ s (by intro h;cases h) hq⟩;cases e<;>first | exact he.elim | exact jB
theorem GX {all:Array Oper}:∀l1 l2:List Oper,cC all (l1++l2)=cC all l1++cC all l2
 | [],l2=>rfl
 | o::l1,l2=>by simp only [je,cC,GX l1 l2,iu]
theorem aeN (hX:X.Ok) {R:Type} (id:Nat) {ops:Array Oper} {i:Nat} {k:Ex E→TS E→Option R} {r:R} (h:ahI X ops i st k=some r):FD X.P (.region id ops false) st (fun x st'=>k x st'=some r∧Fr (wr (.region id ops false)) (fQ (.region id ops false)) st st'):=by
 unfold ahI at h;split at h<;>try (cases h;done)
 rename_i o rest hd;obtain⟨hnd,h⟩:=b9 h;rw [aV] at hnd;intro ro hro w0 G0 a w G hr;refine wpIn_region_list ?_;have hl:ops.toList=ops.toList.take i++o::rest:=by rw [←hd,um]
 have hwr:∀j,j∈cC ops (ops.toList.take i)∨j∈eH o.dst∨j∈cC ops rest→j∈wr (.region id ops false):=fun j hj=>by
  show j∈cC ops ops.toList;rw [hl,GX];rcases hj with h | h | h<;>simp [cC,h]
 rw [hl]
 have hF:∀ {s1 s2 s3:TS E},Fr (cC ops (ops.toList.take i)) (bz (ops.toList.take i)) st s1→Fr (eH o.dst) true s1 s2→Fr (cC ops rest) (bz rest) s2 s3→Fr (wr (.region id ops false)) (fQ (.region id ops false)) st s3:=fun f1 f2 f3 =>
  (f1.trans f2 (W:=wr (.region id ops false)) (n:=true) (fun j hj=>hwr j (.inl hj)) (fun j hj=>hwr j (.inr (.inl hj))) (fun _=>⟨hnd.1,rfl⟩)).trans f3 (fun j hj=>hj) (fun j hj=>hwr j (.inr (.inr hj))) (fun _=>⟨rfl,hnd.2⟩)
 have hout:∀ {K:Act→World→Prop} {Q:Ex E→TS E→Prop},¬ LetsOut (Exit.then K (bD E w0 G0 Q)):=fun⟨a,w,h⟩=>bD.LV ⟨a,w,h⟩;refine zU _ _ a w (rY hout _ a w (fun _=>hnd.1) (mJ _ a w (fun e a' w' hp=>?_) (mc hX h w0 G0 a w G hr)));obtain⟨x,s',G',he,hr',hq,hf⟩:=hp
 cases x with
 | normal =>
  cases e<;>try (exact he.elim)
  simp only [eM] at hq;obtain⟨⟨hg,-⟩,hw⟩:=ZL hX hq (ro:=ro) (Q:=bD E w0 G0 (fun x st'=>k x st'=some r∧Fr (wr (.region id ops false)) (fQ (.region id ops false)) st st')) w0 G0 a' w' G' hr';show wpListIn _ _ _ _ _ (o::rest) _ _;unfold wpListIn;rw [if_pos (by simp [Region.wanted,hg])];refine Oper.Qr (fun a2 w2 hh=>?_) (fun e a w hne hq=>hq) hw;obtain⟨s2,G2,hr2,hk,f2⟩:=hh
  exact rY bD.LV rest a2 w2 (fun _=>hnd.2) (mJ rest a2 w2 (fun e a w hp=>bD.mono (fun x s hh=>⟨hh.1,hF hf f2 hh.2⟩) hp) (mc hX hk w0 G0 a2 w2 G2 hr2))
 | _ =>
  have jB:bD E w0 G0 (fun x st'=>k x st'=some r∧Fr (wr (.region id ops false)) (fQ (.region id ops false)) st st') e a' w':=⟨_,s',G',he,hr',hq,hF hf (Fr.refl _ _ _) (Fr.refl _ _ _)⟩;cases e<;>first | exact he.elim | exact jB
theorem LW {all:Array Oper}:∀ {l:List Oper} {o:Oper},o∈l→∀i,i∈eH o.dst→i∈cC all l
 | [],_,h,_,_=>by cases h
 | o'::l,o,h,i,hi=>by
  simp only [cC,gz];rcases fK.1 h with rfl | h
  ·exact .inl hi
  ·exact .inr (.inr (LW h i hi))
theorem aeO (hX:X.Ok) {R:Type} {i1 i2 i3:Nat} {A B C:Array Oper} {k:Ex E→TS E→Option R} {r:R} (h:ahF X A B C st k=some r) :
  FD X.P (.seq (.region i1 A false) (.seq (.region i2 B false) (.region i3 C false))) st (fun x st'=>k x st'=some r∧Fr (wr (.seq (.region i1 A false) (.seq (.region i2 B false) (.region i3 C false)))) (fQ (.seq (.region i1 A false) (.seq (.region i2 B false) (.region i3 C false)))) st st'):=by
 unfold ahF at h;split at h<;>try (cases h;done)
 rename_i s hs;split at h<;>try (cases h;done)
 rename_i l hx;cases hc:(s.ok X st.t.length&&(bz A.toList&&(bz B.toList&&bz C.toList)))<;>rw [hc] at h<;>simp only [cond_true,cond_false] at h
 ·cases h
 simp only [aV] at hc;obtain⟨hok,nA,nB,nC⟩:=hc;obtain⟨hl,h⟩:=b9 h;have hl:=of_decide_eq_true hl;intro ro hro w0 G0 a w G hr;obtain⟨a3,w1,hA,W2,hB,hC⟩:=aeM hX hs hx hok hl hr;obtain⟨C0,hC0⟩:=ahH hs
 have nR:bz s.rest=true:=by
  have:∀(l1 l2:List Oper),bz (l1++l2)=true→bz l2=true:=by
   intro l1
   induction l1 with
   | nil=>intro l2 h;exact h
   | cons o l1 ih=>intro l2 h;simp only [je,bz,aV] at h;exact ih l2 h.2
  exact this C0 _ (by rw [←hC0];exact nC)
 have hF:Fr (cC A A.toList++(cC B B.toList++cC C C.toList)) true st (s.s9 st l):=ak9 hs st l (fun o ho i hi=>by
  simp only [gz] at ho ⊢;rcases ho with (ho | ho) | ho
  ·exact .inl (LW ho i hi)
  ·exact .inr (.inl (LW ho i hi))
  ·exact .inr (.inr (LW ho i hi)))
 have hout:∀ {K:Act→World→Prop} {Q:Ex E→TS E→Prop},¬ LetsOut (Exit.then K (bD E w0 G0 Q)):=fun⟨a,w,h⟩=>bD.LV ⟨a,w,h⟩;refine wpIn_seq (wpIn_region_list (rY hout _ a w (fun _=>nA) (hA _ _ ?_)));refine wpIn_seq (wpIn_region_list (rY hout _ a3 w1 (fun _=>nB) (hB _ _ fun a5 w2 hW=>?_)));obtain⟨a9,⟨G',hr9⟩,cX⟩:=hC a5 w2 hW;refine wpIn_region_list (rY bD.LV _ a5 w2 (fun _=>nC) (cX _ _ ?_));refine mJ s.rest a9 w2 (fun e a w hp=>bD.mono (fun x s' hh=>⟨hh.1,?_⟩) hp) (mc hX h w0 G0 a9 w2 G' hr9);refine hF.trans hh.2 (fun i hi=>?_) (fun i hi=>?_) (fun _=>⟨rfl,nR⟩)
 ·simp only [wr,gz] at hi ⊢
  exact hi
 ·simp only [wr,gz]
  refine .inr (.inr ?_);rw [hC0,GX];simp [hi]
theorem oW (hX:X.Ok) {F:Nat}:∀(c:Code) (p:dc) {R:Type} {st:TS E} {k:Ex E→TS E→Option R} {r:R},runT X F c p st k=some r→FD X.P c st (fun x st'=>k x st'=some r∧Fr (wr c) (fQ c) st st'):=by
 intro c
 induction c with
 | skip=>intro p R st k r h ro hro w0 G0 a w G hr;exact wpIn_skip ⟨.normal,st,G,trivial,hr,h,Fr.refl _ _ _⟩
 | label l=>intro p R st k r h ro hro w0 G0 a w G hr;exact wpIn_label ⟨.normal,st,G,trivial,hr,h,Fr.refl _ _ _⟩
 | exit i=>intro p R st k r h ro hro w0 G0 a w G hr;exact wpIn_exit ⟨.exit i,st,G,rfl,hr,h,Fr.refl _ _ _⟩
 | ret=>intro p R st k r h ro hro w0 G0 a w G hr;exact wpIn_ret ⟨.ret,st,G,trivial,hr,h,Fr.refl _ _ _⟩
 | goto l=>intro p R st k r h;cases h
 | refuse s=>intro p R st k r h;cases h
 | scope c ih =>
  intro p R st k r h;simp only [runT] at h;have h1:=ih p h;intro ro hro w0 G0 ac w G hr
  cases ro with
  | some l=>cases hro rfl
  | none =>
  refine (wpIn_wide (n:=0)).2 ?_;refine wp_scope_straight (wp_mono ((wpIn_wide (n:=0)).1 (h1 none (fun h=>nomatch h) w0 G0 ac w G hr)) fun e a' w' hp=>?_);obtain⟨x,s,G',he,hr',hq,hf⟩:=hp;have jB:∀ {x},akM E w' G' e x→k x s=some r→bD E w0 G0 (fun x st'=>k x st'=some r∧Fr (wr (.scope c)) (fQ (.scope c)) st st') e a' w':=fun h1 h2=>⟨_,s,G',h1,hr',h2,hf⟩
  cases x<;>cases e<;>first | exact he.elim | (cases hq;done) | exact jB he hq
 | rangeFunc f ps a b _ _=>intro p R st k r h;cases h
 | region id ops dr =>
  intro p R st k r h;simp only [runT] at h;rw [Zx] at h;cases dr<;>simp only [cond_true,cond_false] at h
  ·split at h
   ·intro ro hro w0 G0 a w G hr
    exact wpIn_region_list (rY bD.LV _ a w (fun h=>by have:=hro h;simp only [pP,aV] at this;exact this.2) (Qs hX _ h w0 G0 a w G hr))
   ·rename_i i
    exact aeN hX id h
   ·intro ro hro w0 G0 a w G hr
    exact wpIn_region_list (rY bD.LV _ a w (fun h=>by have:=hro h;simp only [pP,aV] at this;exact this.2) (mc hX h w0 G0 a w G hr))
  ·split at h<;>try (cases h;done)
   ·exact FD.of_wp (by rfl) (Dh.mono (aeI hX h) fun x s hh=>by rw [hh.1];exact hh.2)
   ·exact FD.of_wp (by rfl) (Dh.mono (abS hX h) fun x s hh=>by rw [hh.1];exact hh.2)
   ·exact FD.of_wp (by rfl) (Dh.mono (abT hX h) fun x s hh=>by rw [hh.1];exact hh.2)
 | block i a ih =>
  intro p R st k r h;simp only [runT] at h;have h1:=ih p h;intro ro hro w0 G0 ac w G hr;refine wpIn_block (wpIn_mono (h1 ro hro w0 G0 ac w G hr) fun e a' w' hp=>?_);obtain⟨x,s,G',he,hr',hq,hf⟩:=hp
  cases x with
  | exit j =>
   cases e<;>try (exact he.elim)
   rename_i i';have he:i'=j:=he;subst he;simp only [Qq] at hq;simp only [Exit.inBlock];cases hb:Nat.beq i' i<;>rw [hb] at hq<;>simp only [cond_true,cond_false] at hq
   ·have:i'≠i:=fun e=>by subst e;rw [uY] at hb;cases hb
    rw [if_neg this];exact⟨.exit i',s,G',rfl,hr',hq,hf⟩
   ·rw [if_pos (bt hb)]
    exact⟨.normal,s,G',trivial,hr',hq,hf⟩
  | _ =>
   have jB:bD E w0 G0 (fun x st'=>k x st'=some r∧Fr (wr (.block i a)) (fQ (.block i a)) st st') e a' w':=⟨_,s,G',he,hr',hq,hf⟩
   cases e<;>first | exact he.elim | exact jB
 | cond c a b wV wW =>
  intro p R st k r h;simp only [runT] at h;split at h<;>try (cases h;done)
  rename_i v hv;intro ro hro w0 G0 ac w G hr;have ZN:ro.isSome=true→pP a=true:=fun h=>by have:=hro h;simp only [pP,aV] at this;exact this.1
  have ZO:ro.isSome=true→pP b=true:=fun h=>by have:=hro h;simp only [pP,aV] at this;exact this.2
  have HQ:=hr.ev c;rw [hv] at HQ;have HQ:=HQ.iG;cases v<;>simp only [cond_true,cond_false] at h
  ·exact wpIn_cond_false HQ (wpIn_mono (wW p.r h ro ZO w0 G0 ac w G hr) fun _ _ _ hp=>bD.mono (fun x s hh=>⟨hh.1,hh.2.wide (fun i hi=>by simp [wr,hi]) (fun hn=>by simp only [fQ,aV] at hn;exact hn.2)⟩) hp)
  ·exact wpIn_cond_true HQ (wpIn_mono (wV p.l h ro ZN w0 G0 ac w G hr) fun _ _ _ hp=>bD.mono (fun x s hh=>⟨hh.1,hh.2.wide (fun i hi=>by simp [wr,hi]) (fun hn=>by simp only [fQ,aV] at hn;exact hn.1)⟩) hp)
 | seq a b wV wW =>
  have plain:∀(p q:dc) {R:Type} {st:TS E} {k:Ex E→TS E→Option R} {r:R},runT X F a p st (eM (fun st'=>runT X F b q st' k) k)=some r→FD X.P (.seq a b) st (fun x st'=>k x st'=some r∧Fr (wr (.seq a b)) (fQ (.seq a b)) st st'):=by
   intro p q R st k r h ro hro w0 G0 ac w G hr;have ZN:ro.isSome=true→pP a=true:=fun h=>by have:=hro h;simp only [pP,aV] at this;exact this.1
   have ZO:ro.isSome=true→pP b=true:=fun h=>by have:=hro h;simp only [pP,aV] at this;exact this.2
   refine af9 ZN hr (wV p h) (fun s a' w' G' hq hr'=>?_) (fun x s hne hq=>?_)
   ·exact wpIn_mono (wW q hq.1 ro ZO w0 G0 a' w' G' hr') fun _ _ _ hp=>bD.mono (fun x s' hh=>⟨hh.1,hq.2.trans hh.2 (fun i hi=>by simp [wr,hi]) (fun i hi=>by simp [wr,hi]) (fun hn=>by simp only [fQ,aV] at hn;exact hn)⟩) hp
   ·refine⟨by cases x<;>first | exact (hne rfl).elim | exact hq.1,hq.2.wide (fun i hi=>by simp [wr,hi]) (fun hn=>by simp only [fQ,aV] at hn;exact hn.1)⟩
  intro p R st k r h;simp only [runT] at h;split at h
  ·rename_i ow c p q
   split at h<;>try (cases h;done)
   rename_i fM had;intro ro hro w0 G0 ac w G hr;have ZN:ro.isSome=true→pP a=true:=fun h=>by have:=hro h;simp only [pP,aV] at this;exact this.1
   have ZO:ro.isSome=true→pP b=true:=fun h=>by have:=hro h;simp only [pP,aV] at this;exact this.2
   obtain⟨⟨G1,cJ⟩,Qd⟩:=jE had hr;split at h
   ·exact wpIn_mono (plain p q h ro hro w0 G0 ac w G1 cJ) fun _ _ _ hp=>bD.mono (fun x s' hh=>⟨hh.1,Qd.trans hh.2 (fun i hi=>hi) (fun i hi=>hi) (fun hn=>⟨rfl,hn⟩)⟩) hp
   ·rename_i c j
    obtain⟨hc,h⟩:=b9 h;rw [aV] at hc;have hpre:=cJ.pre;obtain⟨Q,hC,hN,hXn⟩:=Vw (A:=fun {R'} k'=>runT X F a p (R:=R') fM k') h (C:=fun Q=>FD X.P a fM (fun x st'=>Q x st'∧Fr (wr a) (fQ a) fM st')) (fun h'=>wV p h');refine af9 ZN cJ hC (fun s a' w' G' hq hr'=>?_) (fun x s hne hq=>?_)
    ·obtain⟨y,hp,hB⟩:=hN s hq.1
     obtain⟨⟨G2,hR⟩,hF⟩:=uy hX.E hpre hr' (hq.2.wide (fun _ h=>h) (fun _=>hc.2)) hc.1 hp
     exact wpIn_mono (wW q hB ro ZO w0 G0 a' w' G2 hR) fun _ _ _ hp=>bD.mono (fun x s' hh=>⟨hh.1,Qd.trans (hF.trans hh.2 (W:=wr a++wr b) (n:=fQ b) (fun i hi=>by simp [hi]) (fun i hi=>by simp [hi]) (fun hn=>⟨rfl,hn⟩)) (fun i hi=>hi) (fun i hi=>hi) (fun hn=>by
      simp only [fQ,aV] at hn;exact⟨rfl,hn.2⟩)⟩) hp
    ·exact⟨hXn x s hne hq.1,Qd.trans hq.2 (fun i hi=>hi) (fun i hi=>by simp [wr,hi]) (fun hn=>⟨rfl,hc.2⟩)⟩
  ·split at h<;>try (cases h;done)
   exact aeO hX h
  ·exact plain .leaf .leaf h
 | loop a ih =>
  intro p R st k r h;simp only [runT] at h;split at h<;>try (cases h;done)
  rename_i ow c p;split at h<;>try (cases h;done)
  rename_i fM had;obtain⟨hc,h⟩:=b9 h;rw [aV] at hc;intro ro hro w0 G0 ac w G hr;obtain⟨⟨G1,cJ⟩,Qd⟩:=jE had hr;have hpre:=cJ.pre
  cases hs:c.pack fM fM with
  | none=>rw [hs] at h;cases h
  | some s0 =>
   rw [hs] at h;dsimp only [Option.bind] at h;obtain⟨hR0,hFu⟩:=uy hX.E (W:=wr a) hpre cJ (Fr.refl _ _ _) hc.1 hs;refine Kn (ι:=Nat × dens E c.tys) (fun x a' w'=>aF (fun rc s=>runT X F a p (c.un (wr a) fM s) (eM (fun st'=>(c.pack fM st').bind rc) k)) x.1 x.2=some r∧∃G',Rel E w0 G0 (c.un (wr a) fM x.2) a' w' G') (fun x=>x.1) (F,s0) ⟨h,hR0⟩ ?_;rintro⟨n,s⟩ a' w' ⟨hl,G',hr'⟩
   cases n with
   | zero=>cases hl
   | succ n =>
    simp only [aF] at hl
    have hFs:Fr (wr a) true fM (c.un (wr a) fM s):=by
     unfold Cut.pack at hs;split at hs<;>try (cases hs;done)
     rename_i ls hls;exact Cut.Vu hc.1 hls
    refine wpIn_mono (ih p hl ro hro w0 G0 a' w' G' hr') fun e a2 w2 hp=>?_;obtain⟨x,s2,G2,he,hr2,hq,hf⟩:=hp;have tq:Fr (wr a) true fM s2:=hFs.trans hf (fun _ h=>h) (fun _ h=>h) (fun _=>⟨rfl,hc.2⟩)
    cases x with
    | normal =>
     cases e<;>try (exact he.elim)
     simp only [eM] at hq
     cases hp2:c.pack fM s2 with
     | none=>rw [hp2] at hq;cases hq
     | some y =>
      rw [hp2] at hq;obtain⟨hR2,-⟩:=uy hX.E hpre hr2 tq hc.1 hp2
      exact⟨(n,y),⟨hq,hR2⟩,zF n⟩
    | _ =>
     have jB:bD E w0 G0 (fun x st'=>k x st'=some r∧Fr (wr (.loop a)) (fQ (.loop a)) st st') e a2 w2:=⟨_,s2,G2,he,hr2,hq,Qd.trans tq (fun _ h=>h) (fun _ h=>h) (fun _=>⟨rfl,rfl⟩)⟩;cases e<;>first | exact he.elim | exact jB
end
end Go.RT
namespace Go.RT
variable {E : TEnv}
def Qt (X:Cx E) (st:TS E):ResultVar→Option (TV E)
 | .tmp t=>some (st.at t)
 | .cell p t=>match aB X.P t,st.at p with
  | some i,.ptr r off=>match st.H[r]? with
   | some (.cells _ cs)=>LC E (X.ty t) cs i.isAgg i.size off
   | _=>none
  | _,_=>none
def kU (X:Cx E) (st:TS E):List ResultVar→Option (List (TV E))
 | []=>some []
 | r::rs=>match Qt X st r,kU X st rs with
  | some d,some ds=>some (d::ds)
  | _,_=>none
def lM:List (TV E)→TV E
 | [d]=>d
 | ds=>.tuple ds
def LX (tmps:Array Value):ResultVar→Sem Value
 | .tmp t=>pure (tmps.getD t undef)
 | .cell a t=>do loadVar t (←asAddr (tmps.getD a undef))
theorem aeP (fn:Func) (tmps:Array Value):results fn tmps=(do
  let vs ←fn.results.mapM (LX tmps)
  pure (if h:vs.size=1 then vs[0] else .tuple vs)):=by
 unfold results;congr 2
def LY:List Value→Value
 | [v]=>v
 | vs=>.tuple vs.toArray
theorem ahJ (vs:List Value):(if h:vs.toArray.size=1 then vs.toArray[0] else .tuple vs.toArray)=LY vs:=by
 match vs with
 | []=>rfl
 | [v]=>rfl
 | v::u::r=>simp [LY]
section
variable {X : Cx E} {w0 w : World} {G0 G : au} {st : TS E} {a : Act}
theorem aga (hX:X.Ok) (hr:Rel E w0 G0 st a w G) {rv:ResultVar} {d:TV E} (h:Qt X st rv=some d):∃v,VT E w G d v∧(LX a.tmps rv).run X.P w=.ok v w:=by
 cases rv with
 | tmp t =>
  simp only [Qt] at h;cases h
  exact⟨_,hr.at t,rfl⟩
 | cell p t =>
  simp only [Qt] at h;split at h<;>try (cases h;done)
  rename_i i r off hi hd;split at h<;>try (cases h;done)
  rename_i t' cs hb;have hv:=hr.at p;rw [hd] at hv;simp only [VT] at hv;obtain⟨b,he,hat⟩:=hv;obtain⟨vs,hh,h1,h2⟩:=hr.box hat hb
  obtain⟨v,hv,hrun⟩:=nG (P:=X.P) (b:=b) (o':=0) hi (fun l u hl=>by
   rw [cell_of_row w b (0+l) vs t' (0,0) hh];simpa using hl) (yB hX.E h2 (fun u hu=>h1 u (by simpa using hu)) h)
  refine⟨v,hv,?_⟩;have:=hrun w (cL.refl w);rw [fC] at this;simp only [LX];rw [he];simpa [Instr.loadAt,Instr.sureAddr,asAddr] using this
theorem Vx (hX:X.Ok) (hr:Rel E w0 G0 st a w G):∀ {rs:List ResultVar} {ds:List (TV E)},kU X st rs=some ds→∃vs,aP E w G ds vs∧(rs.mapM (LX a.tmps)).run X.P w=.ok vs w
 | [],ds,h=>by cases h;exact⟨[],.nil,rfl⟩
 | r::rs,ds,h=>by
  simp only [kU] at h;split at h<;>try (cases h;done)
  rename_i d ds' h1 h2;cases h;obtain⟨v,hv,hrun⟩:=aga hX hr h1;obtain⟨vs,hvs,amG⟩:=Vx hX hr h2;exact⟨v::vs,.cons hv hvs,by simp only [adA,Sem.run_bind,hrun,Result.andThen_ok,amG,Sem.run_pure]⟩
theorem aeQ:∀ {ds:List (TV E)} {vs:List Value},aP E w G ds vs→VT E w G (lM ds) (LY vs)
 | [],vs,h=>by simp only [aP] at h;subst h;simp only [lM,LY,VT];exact⟨_,rfl,.nil⟩
 | [d],vs,h=>by
  obtain⟨u,us,rfl,h1,h2⟩:=h.cons_inv;simp only [aP] at h2;subst h2
  exact h1
 | d1::d2::ds,vs,h=>by
  obtain⟨u,us,rfl,h1,h2⟩:=h.cons_inv;obtain⟨u2,Dc,rfl,h3,h4⟩:=h2.cons_inv;simp only [lM,LY,VT];exact⟨_,rfl,.cons h1 (.cons h3 h4)⟩
theorem vc (hX:X.Ok) (hr:Rel E w0 G0 st a w G) {fn:Func} {ds:List (TV E)} (h:kU X st fn.results.toList=some ds):∃v,VT E w G (lM ds) v∧(results fn a.tmps).run X.P w=.ok v w:=by
 obtain⟨vs,hv,hrun⟩:=Vx hX hr h;refine⟨LY vs,aeQ hv,?_⟩;rw [aeP,Array.mapM_eq_mapM_toList];simp only [Sem.run_bind,Sem.run_map,hrun,Result.andThen_ok,Sem.run_pure,ahJ]
end
def Outs.cut (o:Outs):Cut:=⟨[],o.boxes,o.rows,o.soft⟩
def Outs.get (o:Outs) (aQ st:TS E) (d:TV E):Option (dens E o.tys) :=
 match AO o.res d st with
 | (d,st)=>match o.res.get ⟨List.range o.boxes.length,List.range o.rows.length,st.g.map (·.ai)⟩ d,o.cut.leaves aQ st with
  | some a,some b=>getAll o.tys (a++b)
  | _,_=>none
def uA (n:Nat) (l:List (TV E)):List (TV E):=l++List.replicate (n - l.length) .any
def bL.aQ (s:bL) (n:Nat) (ls:List (Lf E)):TS E:=⟨uA n (s.ds ls),s.H ls,s.g0,[],[],s.c ls⟩
def BW (s:bL) (fn:Func) (aQ st:TS E):TS E:=match fn.results.toList,s.out.res with
 | [.tmp t],.one (.bn j T)=>Qh s.out.cut aQ.g.length t (.one (.bn j T)) st
 | _,_=>st
theorem ajC {s:bL} {fn:Func} {w0 w:World} {G0 G:au} {aQ st:TS E} {a:Act} {W:List Nat} {nd:Bool} (hp:Pre G0 aQ) (hr:Rel E w0 G0 st a w G) (hF:Fr W nd aQ st) :
  ∃G' W',Rel E w0 G0 (BW s fn aQ st) a w G'∧Fr W' nd aQ (BW s fn aQ st)∧(BW s fn aQ st).df=st.df:=by
 unfold BW;split
 ·rename_i t j T h1 h2
  have hn0:G0.g.length≤aQ.g.length:=by
   rcases ur aQ.g.length G0.g.length with hlt | hge
   ·obtain⟨x,hx,-⟩:=hp.rows aQ.g.length _ _ (bK hlt)
    rw [uX (bM _)] at hx;cases hx
   ·exact hge
  obtain⟨⟨G1,cJ⟩,f1⟩:=ZA s.out.cut aQ.g.length t (.one (.bn j T)) hn0 hr;exact⟨G1,t::W,cJ,Fr.trans hF f1 (fun i hi=>jS _ hi) (fun i hi=>by obtain rfl:=iw.1 hi;exact nr ..) (fun h=>⟨h,rfl⟩),f1.df rfl⟩
 ·exact⟨G,W,hr,hF,rfl⟩
def Yb (q c:Nat) (p:CT) (st:TS E):TS E:=match p,st.H[q]? with
 | .bn j T,some (.cells t cs)=>match cs[c]?,st.g[j]? with
  | some (.val (.slice none 0 0)),some g=>cond (Ki j st.c) { st with H:=st.H.set q (.cells t (cs.set c (.bn j (g.ai+1) T []))),g:=st.g.set j { g with ai:=g.ai+1 },d:=q::st.d } st
  | _,_=>st
 | _,_=>st
def Qu (q:Nat):Nat→List CT→TS E→TS E
 | _,[],st=>st
 | c,p::ps,st=>Qu q (c+1) ps (Yb q c p st)
def qX:Nat→List (Option BT)→TS E→TS E
 | _,[],st=>st
 | q,some (.cells _ ps)::bs,st=>qX (q+1) bs (Qu q 0 ps st)
 | q,_::bs,st=>qX (q+1) bs st
theorem ahK (q c:Nat) (p:CT) {w0 w:World} {G0 G:au} {st:TS E} {a:Act} (hr:Rel E w0 G0 st a w G):(∃G',Rel E w0 G0 (Yb q c p st) a w G')∧Fr [] true st (Yb q c p st):=by
 have oR:(∃G',Rel E w0 G0 st a w G')∧Fr [] true st st:=⟨⟨G,hr⟩,Fr.refl _ _ _⟩;unfold Yb;split
 ·rename_i j T t cs hq
  split
  ·rename_i g hc hg
   generalize hb:Ki j st.c=b;cases b
   ·exact oR
   obtain⟨hd,hj⟩:=hr.tC hg;have hjl:j<G.g.length:=(bS.1 hj).1;have hN:=hr.LR (x':={ g with ai:=g.ai+1 }) (hd':=.slice none 0 0) hj (zF _) (rW _) (Kj hb) (fun b hb=>nomatch hb) (fun _ _ _ _ _ _ _ hb=>nomatch hb);have hlr:q<G.i.length:=by rw [hr.boxes.len];exact (bS.1 hq).1
   have hat:G.i[q]? = some G.i[q]:=bK hlr;refine⟨⟨_,hN.tA (w':=w) (r:=q) (b:=G.i[q]) hat rfl rfl rfl rfl (fun _ _=>rfl) (x:=.cells t (cs.set c (.bn j (g.ai+1) T []))) (fun _=>?_)⟩,rfl,fun _ _=>rfl,⟨[q],rfl,fun r _ hr=>?_⟩,si,fun _=>rfl⟩
   ·obtain⟨vs,h1,h2,h3⟩:=hN.boxes.box q _ _ hat hq
    refine⟨vs,h1,h2,?_⟩;obtain⟨u,hu,hv⟩:=h3.get c hc;simp only [VT] at hv;subst hv
    have key:∀(w1:World) (G1:au) (cs:List (TV E)) (vs:List Value) (c:Nat) (d:TV E),aP E w1 G1 cs vs→vs[c]? = some (.slice none 0 0)→VT E w1 G1 d (.slice none 0 0)→aP E w1 G1 (cs.set c d) vs:=by
     intro w1 G1 cs
     induction cs with
     | nil=>intro vs c d h1 h2 h3;exact h1
     | cons x cs ih =>
      intro vs c d h1 h2 h3;obtain⟨u,us,rfl,q1,q2⟩:=h1.cons_inv
      cases c with
      | zero=>simp at h2;subst h2;exact .cons h3 q2
      | succ c=>exact .cons q1 (ih us c d q2 (by simpa using h2) h3)
    refine key _ _ cs vs.toList c _ h3 hu ?_;simp only [VT];exact⟨.oN _ _,{ g with ai:=g.ai+1 },.slice none 0 0,by simp [hjl],bM _,fun _=>rfl⟩
   ·show (st.H.set q _)[r]? = _
    rw [iB (fun e=>hr (by simp [e]))]
  ·exact oR
 ·exact oR
theorem Vy (q:Nat) {w0 w:World} {G0:au} {a:Act}:∀(ps:List CT) (c:Nat) {st:TS E} {G:au},Rel E w0 G0 st a w G→(∃G',Rel E w0 G0 (Qu q c ps st) a w G')∧Fr [] true st (Qu q c ps st)
 | [],_,_,G,hr=>⟨⟨G,hr⟩,Fr.refl _ _ _⟩
 | p::ps,c,st,G,hr=>by
  obtain⟨⟨G1,cJ⟩,f1⟩:=ahK q c p hr;obtain⟨h2,f2⟩:=Vy q ps (c+1) cJ;exact⟨h2,Fr.trans f1 f2 (fun _ h=>h) (fun _ h=>h) (fun _=>⟨rfl,rfl⟩)⟩
theorem uH {w0 w:World} {G0:au} {a:Act}:∀(bs:List (Option BT)) (q:Nat) {st:TS E} {G:au},Rel E w0 G0 st a w G→(∃G',Rel E w0 G0 (qX q bs st) a w G')∧Fr [] true st (qX q bs st)
 | [],_,_,G,hr=>⟨⟨G,hr⟩,Fr.refl _ _ _⟩
 | some (.cells _ ps)::bs,q,st,G,hr=>by
  obtain⟨⟨G1,cJ⟩,f1⟩:=Vy q ps 0 hr;obtain⟨h2,f2⟩:=uH bs (q+1) cJ
  exact⟨h2,Fr.trans f1 f2 (fun _ h=>h) (fun _ h=>h) (fun _=>⟨rfl,rfl⟩)⟩
 | none::bs,q,st,G,hr=>uH bs (q+1) hr
 | some (.map _ _)::bs,q,st,G,hr=>uH bs (q+1) hr
 | some .iter::bs,q,st,G,hr=>uH bs (q+1) hr
 | some (.loop _ _)::bs,q,st,G,hr=>uH bs (q+1) hr
theorem ac0 {s:bL} {fn:Func} {w0 w:World} {G0 G:au} {aQ st:TS E} {a:Act} {W:List Nat} {nd:Bool} (hp:Pre G0 aQ) (hr:Rel E w0 G0 st a w G) (hF:Fr W nd aQ st) :
  ∃G' W',Rel E w0 G0 (BW s fn aQ (qX 0 s.out.boxes st)) a w G'∧Fr W' nd aQ (BW s fn aQ (qX 0 s.out.boxes st))∧(BW s fn aQ (qX 0 s.out.boxes st)).df=st.df:=by
 obtain⟨⟨G1,cJ⟩,f1⟩:=uH s.out.boxes 0 hr;obtain⟨G2,W2,h1,h2,h3⟩:=ajC (s:=s) (fn:=fn) hp cJ (Fr.trans (W:=W) hF f1 (fun _ h=>h) (fun _ h=>nomatch h) (fun h=>⟨h,rfl⟩));exact⟨G2,W2,h1,h2,h3.trans (f1.df rfl)⟩
def Kp (X:Cx E) (s:bL) (fn:Func) (aQ st:TS E):Option (dens E s.out.tys):=(kU X (BW s fn aQ (qX 0 s.out.boxes st)) fn.results.toList).bind fun ds=>s.out.get aQ (BW s fn aQ (qX 0 s.out.boxes st)) (lM ds)
def aeR (X:Cx E) (s:bL) (fn:Func) (aQ:TS E):(p:Option Outs)→Ex E→TS E→Option (OutP E s.out p)
 | none,.ret,st=>Kp X s fn aQ st
 | none,.normal,st=>Kp X s fn aQ st
 | some q,.ret,st=>Vv (Kp X s fn aQ st)
 | some q,.normal,st=>Vv (Kp X s fn aQ st)
 | some q,.panic d,st=>uz (q.get aQ st d)
 | _,_,_=>none
noncomputable def aeS (X:Cx E) (F:Nat) (s:bL) (fn:Func) (pl:dc) (x:dens E s.tys):Option (OutP E s.out s.gw) :=
 match fn.body with
 | some c=>rq (fQ c) (runT X F c pl (s.aQ fn.ntmps (az s.tys x)) (aeR X s fn (s.aQ fn.ntmps (az s.tys x)) s.gw))
 | none=>none
section
variable {X : Cx E}
theorem Rel.init {w:World} {G:au} {args:Array Value} {s:bL} {ls:List (Lf E)} {n:Nat} (hP:kK E w G) (hB:iq E w G (s.H ls) s.g0) (hS:gD E w G (s.c ls)) (hV:aP E w G (s.ds ls) args.toList) :
  Rel E w G (s.aQ n ls) { tmps:=args++Array.replicate (n - args.size) undef,defers:=[] } w G:=by
 have hl:args.size=(s.ds ls).length:=by simpa using hV.length
 refine⟨gU.refl w G,?_,fun j d hj=>?_,trivial,hB,fun _ _ _ _=>rfl,hP,hS⟩
 ·simp [bL.aQ,uA,hl]
 ·have hj:(uA n (s.ds ls))[j]? = some d:=hj
  unfold uA at hj;by_cases hlt:j<(s.ds ls).length
  ·rw [fU hlt] at hj
   obtain⟨u,hu,hv⟩:=hV.get j hj
   have:(args++Array.replicate (n - args.size) undef).getD j undef=u:=by
    have h1:j<args.size:=om;have h2:args[j]=u:=by simpa [h1] using hu
    rw [uo,adE h1,OZ h1,h2];rfl
   rw [this];exact hv
  ·rw [lG om] at hj
   have:=ek hj;simp at this;rw [this.2];simp only [VT]
theorem Outs.BX (hE:E.Ok) {o:Outs} {ok:Bool} {w w':World} {G G':au} {aQ st:TS E} {a:Act} {W:List Nat} {nd:Bool} {d:TV E} {v:Value} {y:dens E o.tys} (hp:Pre G aQ) (hd0:aQ.d=[]) (hdf:st.df=aQ.df) (hr:Rel E w G st a w' G') (hF:Fr W nd aQ st) (hv:VT E w' G' d v) (h:o.get aQ st d=some y) :
  ∃G2,gU w G w' G2∧iq E w' G2 (o.eZ ok aQ.H aQ.g (az o.tys y)).H (o.eZ ok aQ.H aQ.g (az o.tys y)).g∧gD E w' G2 (o.eZ ok aQ.H aQ.g (az o.tys y)).c∧VT E w' G2 (o.eZ ok aQ.H aQ.g (az o.tys y)).d v ∧
   ∀(q b:Nat),G.i[q]? = some b→q∉(o.eZ ok aQ.H aQ.g (az o.tys y)).D→w'.heap[b]? = w.heap[b]?:=by
 unfold Outs.get at h;obtain⟨d1,fM,hh⟩:∃d1 fM,AO o.res d st=(d1,fM):=⟨_,_,rfl⟩;rw [hh] at h;dsimp only at h;split at h<;>try (cases h;done)
 rename_i la lb hla hlb;obtain⟨o1,G1,cJ,-,pF⟩:=Zs o.res d hr;have hv:=pF v hv;rw [hh] at o1 cJ hv;have hr:=cJ
 have hF:Fr W nd aQ fM:=by
  obtain⟨c,rfl⟩:=o1;exact⟨hF.len,hF.keep,hF.d,hF.hl,hF.df⟩
 have hdf:fM.df=aQ.df:=by
  obtain⟨c,rfl⟩:=o1;exact hdf
 obtain⟨D,hD,hH⟩:=hF.d;obtain⟨G2,hR,hL⟩:=Rel.cut hE (W:=W) hp hr hF.len hF.keep hD hH hdf hlb;have hput:=y9 _ h;obtain⟨e1,e2⟩:=PT.sound hE hL (rest:=lb) hla hv;rw [hput];simp only [Outs.eZ];have e3:(o.res.put (o.n1 aQ.g) (la++lb)).2=lb:=e1;refine⟨G2,hR.cK,?_,?_,e2,fun q b hq hd=>hR.fix q b hq ?_⟩
 ·rw [e3]
  exact hR.boxes
 ·rw [e3]
  exact hR.dI
 ·show q∉wZ 0 o.boxes++aQ.d
  rw [hd0,qC];exact hd
theorem oF {P:Program} {f:FuncId} {fn:Func} {c:Code} {args:Array Value} {w:World} {R:Ending→World→Prop} (hf:P.funcs[f]? = some fn) (hb:fn.body=some c) (hn:(fn.name == "runtime.NumGoroutine")=false) (h:Calls P f args w R):gE P f args w R:=by
 have:(callFunc f args).run P w=.ok (.enter f args) w:=by
  simp only [callFunc,Sem.run_bind,run_program,Result.andThen_ok,hf,hn,hb];simp
 unfold gE;rw [this];exact h
theorem aeT (hX:X.Ok) {F:Nat} {s:bL} {fn:Func} {pl:dc} {x:dens E s.tys} {y:OutP E s.out s.gw} (hf:X.P.funcs[s.f]? = some fn) (hn:(fn.name == "runtime.NumGoroutine")=false) (h:aeS X F s fn pl x=some y) :
  ia X.P s.f (s.ds (az s.tys x)) (s.H (az s.tys x)) s.g0 (s.c (az s.tys x)) (fG s (s.H (az s.tys x)) s.gw y):=by
 unfold aeS at h;split at h<;>try (cases h;done)
 rename_i c hb;obtain⟨hnd,h⟩:=b9 h;intro w G args hP hB hS hV;have BB:=Rel.init (n:=fn.ntmps) hP hB hS hV;have hpre:=BB.pre;refine oF hf hb hn (calls_of_wp hf hb (wp_mono ((oW hX c pl h).wp BB) fun e a' w' hp=>?_));obtain⟨ex,st,G',he,hr,hk,hF⟩:=hp;have hdf:st.df=[]:=hF.df hnd
 have Ej:a'.defers=[]:=by
  have:=hr.defers;rw [hdf] at this
  cases hd:a'.defers with
  | nil=>rfl
  | cons d ds=>rw [hd] at this;exact this.elim
 have ZP:∀ {y:dens E s.out.tys},Kp X s fn (s.aQ fn.ntmps (az s.tys x)) st=some y →
   ∃v,(results fn a'.tmps).run X.P w'=.ok v w'∧∃v1 G2,Ending.returned v=ql (s.out.eZ true (s.H (az s.tys x)) s.g0 (az s.out.tys y)).ok v1∧gU w G w' G2 ∧
    iq E w' G2 (s.out.eZ true (s.H (az s.tys x)) s.g0 (az s.out.tys y)).H (s.out.eZ true (s.H (az s.tys x)) s.g0 (az s.out.tys y)).g∧gD E w' G2 (s.out.eZ true (s.H (az s.tys x)) s.g0 (az s.out.tys y)).c∧VT E w' G2 (s.out.eZ true (s.H (az s.tys x)) s.g0 (az s.out.tys y)).d v1 ∧
    ∀(q b:Nat),G.i[q]? = some b→q∉(s.out.eZ true (s.H (az s.tys x)) s.g0 (az s.out.tys y)).D→w'.heap[b]? = w.heap[b]?:=by
  intro y hy;unfold Kp at hy;obtain⟨G3,W3,hr,hF,ahL⟩:=ac0 (s:=s) (fn:=fn) hpre hr hF;generalize BW s fn (s.aQ fn.ntmps (az s.tys x)) (qX 0 s.out.boxes st)=st3 at *
  cases hds:kU X st3 fn.results.toList with
  | none=>rw [hds] at hy;cases hy
  | some ds =>
   rw [hds] at hy;dsimp only [Option.bind] at hy;obtain⟨v,hv,hrun⟩:=vc hX hr hds;obtain⟨G2,q1,q2,q3,q4,q5⟩:=Outs.BX hX.E (ok:=true) hpre rfl (ahL.trans hdf) hr hF hv hy;exact⟨v,hrun,v,G2,rfl,q1,q2,q3,q4,q5⟩
 have fin:∀(p:Option Outs) (y:OutP E s.out p),aeR X s fn (s.aQ fn.ntmps (az s.tys x)) p ex st=some y→bodyPost X.P fn (fun e w'=>∃v G',e=ql (fG s (s.H (az s.tys x)) p y).ok v∧gU w G w' G'∧iq E w' G' (fG s (s.H (az s.tys x)) p y).H (fG s (s.H (az s.tys x)) p y).g∧gD E w' G' (fG s (s.H (az s.tys x)) p y).c ∧
   VT E w' G' (fG s (s.H (az s.tys x)) p y).d v∧∀(q b:Nat),G.i[q]? = some b→q∉(fG s (s.H (az s.tys x)) p y).D→w'.heap[b]? = w.heap[b]?) e a' w':=by
  intro p y hk
  cases p with
  | none =>
   cases ex<;>cases e<;>try (exact he.elim)
   ·obtain⟨v,hrun,h2⟩:=ZP hk;exact⟨Ej,v,hrun,h2⟩
   ·cases hk
   ·cases hk
   ·obtain⟨v,hrun,h2⟩:=ZP hk;exact⟨Ej,v,hrun,h2⟩
   ·cases hk
  | some q =>
   cases ex<;>cases e<;>try (exact he.elim)
   ·obtain⟨y',hy,rfl⟩:=GW hk;obtain⟨v,hrun,h2⟩:=ZP hy;exact⟨Ej,v,hrun,h2⟩
   ·cases hk
   ·cases hk
   ·obtain⟨y',hy,rfl⟩:=GW hk;obtain⟨v,hrun,h2⟩:=ZP hy;exact⟨Ej,v,hrun,h2⟩
   ·obtain⟨y',hy,rfl⟩:=Km hk
    obtain⟨v,rfl,hv⟩:=he;obtain⟨G2,q1,q2,q3,q4,q5⟩:=Outs.BX hX.E (ok:=false) hpre rfl hdf hr hF hv hy;exact⟨Ej,v,G2,rfl,q1,q2,q3,q4,q5⟩
 exact fin s.gw y hk
end
end Go.RT
namespace Go.RT
variable {E : TEnv}
theorem Al {w:World} {l o:Nat} {r:Loop} (h:w.heap[l]? = some (.loop r)):w.cell? ⟨l,o,none⟩=none:=by
 simp [World.cell?,h]
theorem Kq {w:World} {G:au} {l:Nat} {r:Loop} (o:Obj) (h:w.heap[l]? = some (.loop r)):ez w G (w.putObj l o) G:=by
 refine⟨fun _ _ h=>h,fun b c v _ hv=>?_,fun _ _ h=>h,fun j x y hj=>⟨x,y,hj,bM _,fun _=>rfl⟩⟩;by_cases hb:b=l
 ·subst hb;rw [Al h] at hv;cases hv
 ·rw [World.cell?_of_block (World.putObj_heap_other hb)];exact hv
section
variable {st : TS E}
theorem iq.turn {w:World} {G:au} {H:List (cV E)} {gs:List aZ} {l:Nat} {r:Loop} (o:Obj) (h:w.heap[l]? = some (.loop r)) (hl:l∉G.i) (hB:iq E w G H gs):iq E (w.putObj l o) G H gs:=by
 have hg:=Kq (G:=G) o h;refine⟨hB.len,hB.gs,fun q b x hq hx=>(hB.box q b x hq hx).mono hg (World.putObj_heap_other fun e=>hl (by subst e;exact ek hq)),fun b hb=>by simpa using hB.lt b hb,hB.nodup,fun b o' hp=>by simpa using hB.dH b o' hp,fun j x y hj=>?_,hB.apart,kE hg hB.sU⟩;obtain⟨n,xs,ho,hz,hb⟩:=hB.grow j x y hj;refine⟨n,xs,⟨ho.1,?_⟩,hz,fun b wU=>by simpa using hb b wU⟩;rcases ho.2 with h2 | ⟨g,cap,cur,h2,h3,h4,h5⟩
 ·exact .inl h2
 ·refine .inr ⟨g,cap,cur,h2,h3,?_,h5⟩
  rw [World.putObj_heap_other (fun e=>by subst e;rw [h] at h4;cases h4)];exact h4
theorem gD.turn {w:World} {G:au} {cs:List (Nat × Cn E)} {l:Nat} {r:Loop} (o:Obj) (h:w.heap[l]? = some (.loop r)) (hS:gD E w G cs):gD E (w.putObj l o) G cs:=by
 have hg:=Kq (G:=G) o h;intro j c hj;obtain⟨x,hd,h1,h2,h3,⟨vals,ho,hf⟩,hp⟩:=hS j c hj;refine⟨x,hd,h1,h2,h3,⟨vals,⟨ho.1,?_⟩,hf.mono hg.pr hg.cells⟩,hp⟩;rcases ho.2 with q | ⟨g,cap,cur,q1,q2,q3,q4⟩
 ·exact .inl q
 ·refine .inr ⟨g,cap,cur,q1,q2,?_,q4⟩
  rw [World.putObj_heap_other (fun e=>by subst e;rw [h] at q3;cases q3)];exact q3
theorem kK.turn {w:World} {G:au} {l:Nat} {r:Loop} (o:Obj) (h:w.heap[l]? = some (.loop r)) (hP:kK E w G):kK E (w.putObj l o) G:=by
 intro b p hb;obtain⟨⟨cs,t,m,h1,hp⟩,h2⟩:=hP b p hb;exact⟨⟨cs,t,m,by rw [World.putObj_heap_other (fun e=>by subst e;rw [h] at h1;cases h1)];exact h1,hp⟩,h2⟩
theorem gU.turn {w0 w:World} {G0 G:au} {l:Nat} {r:Loop} (o:Loop) (h0:l<w0.heap.size) (h:w.heap[l]? = some (.loop r)) (hE:gU w0 G0 w G):gU (w0.putObj l (.loop o)) G0 (w.putObj l (.loop o)) G:=by
 have hlt:l<w.heap.size:=(lF.1 h).1;refine⟨hE.os,hE.tape,hE.output,by simpa using hE.size,fun b hb hf=>?_,⟨hE.goes.pr,fun b c v hp hv=>?_,hE.goes.i,hE.goes.g⟩,fun b c hb hp=>hE.jJ b c (by simpa using hb) hp,fun q b hq hb=>by simpa using hE.lH q b hq hb,fun j x y b hj hb=>by simpa using hE.cY j x y b hj hb⟩
 ·by_cases e:b=l
  ·subst e;rw [World.putObj_heap_same hlt,World.putObj_heap_same h0]
  ·rw [World.putObj_heap_other e,World.putObj_heap_other e];exact hE.old b (by simpa using hb) hf
 ·by_cases e:b=l
  ·subst e;rw [Al (World.putObj_heap_same h0)] at hv;cases hv
  ·rw [World.cell?_of_block (World.putObj_heap_other e)] at hv ⊢
   exact hE.goes.cells b c v hp hv
theorem agb {w0 w:World} {G0 G:au} {l:Nat} (hE:gU w0 G0 w G) (h0:l<w0.heap.size) (hf:¬ G0.zN l):¬ G.zN l:=by
 intro hf';refine hf ?_;rcases hf' with hf | ⟨x,hd,hm,hbk⟩
 ·obtain⟨q,hq,he⟩:=gZ hf
  have J5:G.i[q]? = some l:=by rw [←he];exact bK hq
  by_cases kR:q<G0.i.length
  ·have e1:=hE.goes.i q _ (bK kR)
   rw [J5] at e1;exact .inl (by rw [gC e1];exact ei kR)
  ·have:=hE.lH q l om J5;omega
 ·obtain⟨j,hj,he⟩:=gZ hm
  rcases hE.cY j x hd l (by rw [←he];exact bK hj) hbk with q | ⟨x0,h0',q1,q2⟩
  ·omega
  ·exact .inr ⟨x0,h0',ek q1,q2⟩
theorem Rel.turn {w0 w:World} {G0 G:au} {a:Act} {l:Nat} {r:Loop} (o:Loop) (hr:Rel E w0 G0 st a w G) (h0:w0.heap[l]? = some (.loop r)) (hf:¬ G0.zN l):w.heap[l]? = some (.loop r)∧Rel E (w0.putObj l (.loop o)) G0 st a (w.putObj l (.loop o)) G:=by
 have hl0:l<w0.heap.size:=(lF.1 h0).1;have h:w.heap[l]? = some (.loop r):=by rw [hr.cK.old l hl0 hf];exact h0
 have hg:=Kq (G:=G) (.loop o) h;have hfG:=agb hr.cK hl0 hf;refine⟨h,hr.cK.turn o hl0 h,hr.size,fun j d hj=>(hr.tmps j d hj).mono hg,hr.defers.mono hg,hr.boxes.turn _ h (fun hm=>hfG (.inl hm)),fun q b hq hd=>?_,hr.pins.turn _ h0,hr.dI.turn _ h⟩;have hne:b≠l:=fun e=>hf (.inl (by subst e;exact ek hq));rw [World.putObj_heap_other hne,World.putObj_heap_other hne];exact hr.fix q b hq hd
def Qv:List Tmp→List (TV E)→List (TV E)→List (TV E)
 | p::ps,x::xs,t=>Qv ps xs (t.set p x)
 | _,_,t=>t
theorem ZQ {w:World} {G:au}:∀(ps:List Tmp) (xT:List (TV E)) (xV:List Value) (t:List (TV E)) (tmps:Array Value),aP E w G xT xV→xT.length=ps.length→tmps.size=t.length→(∀j d,t[j]? = some d→VT E w G d (tmps.getD j undef)) →
  ((ps.zip xV).foldl (fun t (p,v)=>t.setIfInBounds p v) tmps).size=(Qv ps xT t).length∧∀j d,(Qv ps xT t)[j]? = some d→VT E w G d (((ps.zip xV).foldl (fun t (p,v)=>t.setIfInBounds p v) tmps).getD j undef)
 | [],xT,xV,t,tmps,hv,hl,hs,ht=>by
  cases xT with
  | nil=>exact⟨hs,ht⟩
  | cons _ _=>cases hl
 | p::ps,[],xV,t,tmps,hv,hl,hs,ht=>by cases hl
 | p::ps,x::xs,xV,t,tmps,hv,hl,hs,ht=>by
  obtain⟨u,us,rfl,h1,h2⟩:=hv.cons_inv;simp only [O1,NI,Qv];refine ZQ ps xs us (t.set p x) (tmps.setIfInBounds p u) h2 (by simpa using hl) (by simpa using hs) fun j d hj=>?_;by_cases hjp:p=j
  ·subst hjp
   by_cases hlt:p<t.length
   ·rw [Sd hlt] at hj
    cases hj
    have:(tmps.setIfInBounds p u).getD p undef=u:=by
     have:p<tmps.size:=Nat.lt_of_lt_of_eq hlt hs.symm;simp [Array.getD,this]
    rw [this];exact h1
   ·rw [uX (by simpa using O3 hlt)] at hj
    cases hj
  ·rw [iB hjp] at hj
   have:(tmps.setIfInBounds p u).getD j undef=tmps.getD j undef:=by
    rw [uo,uo,adJ hjp]
   rw [this];exact ht j d hj
def SU (s:bL) (Y:YD) (ls:List (Lf E)):TS E:=⟨Qv Y.params.toList ((s.ds ls).take Y.params.size) ((s.ds ls).drop Y.params.size),s.H ls,s.g0,[],[],s.c ls⟩
def okH:List (cV E)→Bool
 | []=>true
 | x::xs=>(match x with | .cells _ _=>true | .iter _ _=>true | .map _ _ _=>true | _=>false)&&okH xs
def alb (s:bL) (aQ:TS E):(p:Option Outs)→Ex E→TS E→Option (OutP E s.out p)
 | none,.normal,st=>s.out.get aQ st (.dat .bool true)
 | _,_,_=>none
noncomputable def ahM (X:Cx E) (F:Nat) (s:bL) (Y:YD) (pl:dc) (x:dens E s.tys):Option (OutP E s.out s.gw) :=
 rq (pP Y.assign&&fQ Y.assign&&(pP Y.body&&fQ Y.body)&&okH (s.H (az s.tys x))) (runT X F Y.assign .leaf (SU s Y (az s.tys x)) (eM (fun fM=>runT X F Y.body pl fM (alb s (SU s Y (az s.tys x)) s.gw)) fun _ _=>none))
theorem aP.agc {w:World} {G:au}:∀ {ds:List (TV E)} {vs us:List Value},aP E w G ds (vs++us)→aP E w G (ds.take vs.length) vs∧aP E w G (ds.drop vs.length) us
 | ds,[],us,h=>⟨by simpa using aP.nil,by simpa using h⟩
 | [],v::vs,us,h=>by simp only [aP] at h;cases h
 | d::ds,v::vs,us,h=>by
  obtain⟨u,us',e,h1,h2⟩:=h.cons_inv;rw [je] at e;cases e;obtain⟨q1,q2⟩:=aP.agc h2;exact⟨by simpa using aP.cons h1 q1,by simpa using q2⟩
theorem agd {w:World} {G:au} {l:Nat} {r:Loop} (h:w.heap[l]? = some (.loop r)):∀ {H:List (cV E)} {q:Nat} {x:cV E},okH H=true→H[q]? = some x→¬ gq E w G l x
 | [],_,_,_,hx=>by cases hx
 | y::H,0,x,ho,hx=>by
  cases hx;intro hb;simp only [okH,aV] at ho
  cases y with
  | cells ty cs=>obtain⟨vs,h1,-⟩:=hb;rw [h] at h1;cases h1
  | iter s p=>have h1:w.heap[l]? = _:=hb;rw [h] at h1;cases h1
  | map kt vt m=>obtain⟨es,clock,h1,-⟩:=hb;rw [h] at h1;cases h1
  | _=>cases ho.1
 | y::H,q+1,x,ho,hx=>by
  simp only [okH,aV] at ho;exact agd h ho.2 (by simpa using hx)
theorem Rel.amH {w:World} {G:au} {s:bL} {Y:YD} {ls:List (Lf E)} {xs tmps:Array Value} (hn:xs.size=Y.params.size) (hP:kK E w G) (hB:iq E w G (s.H ls) s.g0) (hS:gD E w G (s.c ls)) (hV:aP E w G (s.ds ls) (xs++tmps).toList) :
  Rel E w G (SU s Y ls) { tmps:=(Y.params.zip xs).foldl (fun t (p,v)=>t.setIfInBounds p v) tmps,defers:=[] } w G:=by
 rw [Array.toList_append] at hV;obtain⟨h1,h2⟩:=aP.agc hV;have hx:xs.toList.length=Y.params.size:=by simpa using hn
 rw [hx] at h1 h2
 have hf:(Y.params.zip xs).foldl (fun t (p,v)=>t.setIfInBounds p v) tmps=(Y.params.toList.zip xs.toList).foldl (fun t (p,v)=>t.setIfInBounds p v) tmps:=by
  rw [←Array.foldl_toList,Array.toList_zip]
 obtain⟨q1,q2⟩:=ZQ (w:=w) (G:=G) Y.params.toList ((s.ds ls).take Y.params.size) xs.toList ((s.ds ls).drop Y.params.size) tmps h1 (by have:=h1.length;simp at this ⊢;omega) (by simpa using h2.length) (fun j d hj=>by
  obtain⟨u,hu,hv⟩:=h2.get j hj
  have:tmps.getD j undef=u:=by
   rw [uo,←XS,hu];rfl
  rw [this];exact hv)
 refine⟨gU.refl w G,?_,fun j d hj=>?_,trivial,hB,fun _ _ _ _=>rfl,hP,hS⟩
 ·show (_:Array Value).size=_;rw [hf];exact q1
 ·show VT E w G d (Array.getD _ j undef);rw [hf];exact q2 j d hj
theorem abV {w:World} {l:Nat} {o o':Obj} (h:w.heap[l]? = some o):(w.putObj l o').putObj l o=w:=by
 have hlt:l<w.heap.size:=(lF.1 h).1
 have:(w.heap.setIfInBounds l o').setIfInBounds l o=w.heap:=by
  apply Array.ext_getElem?;intro i;by_cases e:l=i
  ·subst e
   rw [Array.getElem?_setIfInBounds_self_of_lt (by simpa using hlt)];exact h.symm
  ·rw [adJ e,adJ e]
 unfold World.putObj;simp only [this]
theorem an.alc {X:Cx E} (hX:X.Ok) {C:an E} {F:Nat} {Y:YD} {pl:dc} (hY:∀Y',E.yd C.s.f Y'→Y'=Y) (h:∀x,ahM X F C.s Y pl x=C.m x):C.BR (SM E X.P):=by
 intro x y hy;have h1:ahM X F C.s Y pl x=some y:=by rw [h x];exact hy
 intro w G args hP hB hS hV Y' fn l D xs tmps ZM hargs hsz hheap;have ZM:=(hY Y' ZM).symm;subst ZM;subst hargs;unfold ahM at h1;obtain⟨hc,h1⟩:=b9 h1;simp only [aV] at hc;obtain⟨⟨⟨ha1,th⟩,sE,iz⟩,hok⟩:=hc
 have hf:¬ G.zN l:=by
  rintro (hm | ⟨z,hd,hm,hbk⟩)
  ·obtain⟨q,hq,he⟩:=gZ hm
   have M0:q<(C.s.H (az C.s.tys x)).length:=by rw [←hB.len];exact hq
   exact agd hheap hok (bK M0) (hB.box q l _ (by rw [←he];exact bK hq) (bK M0))
  ·obtain⟨j,hj,he⟩:=gZ hm
   obtain⟨n,xs',ho,-,-⟩:=hB.grow j z hd (by rw [←he];exact bK hj);rcases ho.2 with⟨h2,-⟩ | ⟨g,cap,cur,h2,h3,h4,h5⟩
   ·rw [h2] at hbk;cases hbk
   ·rw [h2] at hbk
    cases hbk;rw [hheap] at h4;cases h4
 have BB:=Rel.amH (Y:=Y) hsz hP hB hS hV;have hpre:=BB.pre;refine roundIn_of_wpIn trivial ?_;refine wpIn_mono ((oW hX Y.assign .leaf h1) (some l) (fun _=>ha1) w G _ w G BB) fun e a1 w1 hp=>?_;obtain⟨x1,fM,G1,he,cJ,hq,hF1⟩:=hp;cases x1<;>try (cases hq;done)
 cases e<;>try (exact he.elim)
 obtain⟨hl1,hrt⟩:=cJ.turn ⟨.busy,none,fn,tmps,Y.params,Y.assign,Y.body,D⟩ hheap hf;refine⟨_,run_beginRound hl1 rfl,?_⟩;simp only [eM] at hq;refine wpIn_mono ((oW hX Y.body pl hq) (some l) (fun _=>sE) _ G a1 _ G1 hrt) fun e a2 w2 hp=>?_;obtain⟨x2,FC,G2,UU,hr2,M0,tq⟩:=hp
 have fin:∀(p:Option Outs) (y:OutP E C.s.out p),alb C.s (SU C.s Y (az C.s.tys x)) p x2 FC=some y→x2=.normal∧∃v w',(Instr.endRound l none).run X.P w2=.ok v w'∧ua E w G (fG C.s (C.s.H (az C.s.tys x)) p y) (.returned v) w':=by
  intro p y hk
  cases p with
  | some q=>cases hk
  | none =>
   cases x2<;>try (cases hk;done)
   refine⟨rfl,?_⟩;have hk:C.s.out.get (SU C.s Y (az C.s.tys x)) FC (.dat .bool true)=some y:=hk;obtain⟨hl2,hr3⟩:=hr2.turn ⟨.ready,none,fn,tmps,Y.params,Y.assign,Y.body,D⟩ (World.putObj_heap_same (lF.1 hheap).1) hf;rw [abV hheap] at hr3;refine⟨_,_,run_endRound none hl2,?_⟩;have hF:Fr (wr Y.assign++wr Y.body) true (SU C.s Y (az C.s.tys x)) FC:=hF1.trans tq (fun j hj=>by simp [hj]) (fun j hj=>by simp [hj]) (fun _=>⟨th,iz⟩)
   have hv:VT E (w2.putObj l (.loop ⟨.ready,none,fn,tmps,Y.params,Y.assign,Y.body,D⟩)) G2 (.dat .bool true) (.bool true):=by
    simp only [VT];exact⟨VD.bool true,trivial⟩
   obtain⟨G3,q1,q2,q3,q4,q5⟩:=Outs.BX hX.E (ok:=true) hpre rfl (hF.df rfl) hr3 hF hv hk;exact⟨.bool true,G3,rfl,q1,q2,q3,q4,q5⟩
 obtain⟨rfl,v,w',hend,hres⟩:=fin C.s.gw y M0;cases e<;>try (exact UU.elim)
 exact⟨v,w',hend,hres⟩
end
end Go.RT
namespace Go.RT
variable {E : TEnv}
def SV (P:Program):Inv:=fun f args w R=>gE P f args w R
theorem SV.mono (P:Program):(SV P).Zw:=fun f args w R R' h hi=>by
 unfold SV gE at *;split at hi
 ·exact Calls.mono hi h
 ·exact h _ _ hi
 ·exact hi.elim
theorem an.Ok.gok {P:Program} {C:an E} (h:C.Ok P):C.BR (SV P):=fun x y hy=>h x y hy
def GY (keep:List Nat) (t:List (TV E)):List (TV E):=t.zipIdx.map fun p=>cond (keep.elem p.2) p.1 .any
noncomputable def runM (X:Cx E) (F:Nat):Code→dc→{R:Type}→TS E→(Ex E→TS E→Option R)→Option R
 | .seq a b,p,_,st,k=>match p with
  | .Ey ow p q=>match nP (wr a++wr b) ow st with
   | none=>none
   | some st=>runM X F a p st (eM (fun st'=>runM X F b q st' k) k)
  | p=>runT X F (.seq a b) p st k
 | .block i a,p,_,st,k=>match p with
  | .ZJ p=>runM X F a p st (Qq i k)
  | p=>runT X F (.block i a) p st k
 | .rangeFunc g ps a b,p,_,st,k=>match p with
  | .range ow y f keep=>match nP [] ow st with
   | none=>none
   | some st=>match st.ev g with
    | .func (.func f') caps=>cond (Nat.beq f f')
     (lZ { st with H:=(st.H++[.MW])++[.loop y (GY keep st.t)],df:=(sV,[.pL st.H.length])::st.df } none f (.pL (st.H.length+1)::caps) (eM (fun st'=>match st'.H[st.H.length+1]? with
      | some (.loop _ _)=>k .normal { st' with H:=st'.H.set (st.H.length+1) .gone,d:=(st.H.length+1)::st'.d }
      | _=>none) fun _ _=>none) X.Γ) none
    | _=>none
  | _=>none
 | c,p,_,st,k=>runT X F c p st k
def BZ (E:TEnv) (P:Program):Code→dc→Prop
 | .seq a b,.Ey _ p q=>BZ E P a p∧BZ E P b q
 | .block _ a,.ZJ p=>BZ E P a p
 | .rangeFunc _ ps a b,.range _ y f _=>E.yd y ⟨ps,a,b⟩∧∀args w,(callFunc f args).run P w=.ok (.enter f args) w
 | _,_=>True
def Dz:Code→dc→List (Nat × FuncId × YD)
 | .seq a b,.Ey _ p q=>Dz a p++Dz b q
 | .block _ a,.ZJ p=>Dz a p
 | .rangeFunc _ ps a b,.range _ y f _=>[(y,f,⟨ps,a,b⟩)]
 | _,_=>[]
def zb:Code→List Bool→Option YD
 | .rangeFunc _ ps a b,_=>some ⟨ps,a,b⟩
 | .seq a _,false::p=>zb a p
 | .seq _ b,true::p=>zb b p
 | .cond _ a _,false::p=>zb a p
 | .cond _ _ b,true::p=>zb b p
 | .block _ a,p=>zb a p
 | .scope a,p=>zb a p
 | .loop a,p=>zb a p
 | _,_=>none
def Qw:Nat→Func→List Bool→YD
 | 0,f,p=>match f.body with
  | some c=>match zb c p with
   | some y=>y
   | none=>⟨#[],.skip,.skip⟩
  | none=>⟨#[],.skip,.skip⟩
 | n+1,f,p=>Qw n f p
def ZR (E:TEnv) (P:Program) (t:Nat × FuncId × YD):Prop:=E.yd t.1 t.2.2∧∀args w,(callFunc t.2.1 args).run P w=.ok (.enter t.2.1 args) w
theorem ajD {P:Program}:∀(c:Code) (p:dc),(∀t∈Dz c p,ZR E P t)→BZ E P c p:=by
 intro c
 induction c with
 | seq a b wV wW =>
  intro p h;cases p<;>try (simp only [BZ];done)
  simp only [Dz,gz] at h
  exact⟨wV _ fun t ht=>h t (.inl ht),wW _ fun t ht=>h t (.inr ht)⟩
 | block i a ih =>
  intro p h;cases p<;>try (simp only [BZ];done)
  simp only [Dz] at h
  exact ih _ h
 | rangeFunc g ps a b _ _ =>
  intro p h;cases p<;>try (simp only [BZ];done)
  simp only [Dz,iw] at h
  exact h _ rfl
 | _=>intro p h;cases p<;>simp only [BZ]
theorem ydC {P:Program} {t:Nat × FuncId × YD} {l:List (Nat × FuncId × YD)} (h:ZR E P t) (hs:∀t∈l,ZR E P t):∀t'∈t::l,ZR E P t':=fun t' ht=>by
 rcases fK.1 ht with rfl | ht
 ·exact h
 ·exact hs t' ht
section
variable {X : Cx E} {st : TS E}
theorem ahN {w:World} {G:au} {keep:List Nat} {t:List (TV E)} {tmps:Array Value} (hs:tmps.size=t.length) (h:∀j d,t[j]? = some d→VT E w G d (tmps.getD j undef)):aP E w G (GY keep t) tmps.toList:=by
 have key:∀(t:List (TV E)) (vs:List Value) (n:Nat),vs.length=t.length→(∀j d,t[j]? = some d→VT E w G d (vs.getD j undef))→aP E w G ((t.zipIdx n).map fun p=>cond (keep.elem p.2) p.1 .any) vs:=by
  intro t
  induction t with
  | nil=>intro vs n hl _;cases vs with | nil=>exact .nil | cons _ _=>cases hl
  | cons d t ih =>
   intro vs n hl h
   cases vs with
   | nil=>cases hl
   | cons v vs =>
    rw [List.zipIdx_cons,eV];refine .cons ?_ (ih vs (n+1) (by simpa using hl) fun j d' hj=>by simpa using h (j+1) d' (by simpa using hj));cases keep.elem n
    ·simp only [cond_false,VT]
    ·simpa using h 0 d rfl
 refine key t tmps.toList 0 (by simpa using hs) fun j d hj=>?_;have:=h j d hj;rw [uo,←XS] at this;rw [ais];exact this
theorem Rel.ald {w0 w:World} {G0 G:au} {a:Act} (hr:Rel E w0 G0 st a w G):Rel E w G st a w G :=
 ⟨gU.refl w G,hr.size,hr.tmps,hr.defers,hr.boxes,fun _ _ _ _=>rfl,hr.P9,hr.dI⟩
theorem Rel.over {w0 w1 w2:World} {G0 G1 G2:au} {a1 a2:Act} {fM FC:TS E} (h1:Rel E w0 G0 fM a1 w1 G1) (h2:Rel E w1 G1 FC a2 w2 G2) (hd:∀q,q∈fM.d→q∈FC.d):Rel E w0 G0 FC a2 w2 G2 :=
 ⟨h1.cK.trans h2.cK,h2.size,h2.tmps,h2.defers,h2.boxes,fun q b hq hn=>(h2.fix q b (h1.cK.goes.i q b hq) hn).trans (h1.fix q b hq fun hm=>hn (hd q hm)),h1.pins,h2.dI⟩
theorem aeU (hX:X.Ok) {F:Nat} {g:Operand} {ps:Array Tmp} {ca cb:Code} {y f:FuncId} {keep:List Nat} {R:Type} {k:Ex E→TS E→Option R} {r:R} {ow:List Own} (h:runM X F (.rangeFunc g ps ca cb) (.range ow y f keep) st k=some r)
  (hy:BZ E X.P (.rangeFunc g ps ca cb) (.range ow y f keep)):Dh E X.P (.rangeFunc g ps ca cb) st (fun x st'=>k x st'=some r∧Fr [] false st st'):=by
 obtain⟨hyd,hent⟩:=hy;simp only [runM] at h;split at h<;>try (cases h;done)
 rename_i stA Kr
 suffices hmain:Dh E X.P (.rangeFunc g ps ca cb) stA (fun x st'=>k x st'=some r∧Fr [] false stA st') by
  intro w0 G0 a w G hr;obtain⟨⟨GA,hrA⟩,hfA⟩:=jE Kr hr;exact wp_mono (hmain w0 G0 a w GA hrA) fun _ _ _ hp=>bD.mono (fun x s' hh=>⟨hh.1,hfA.trans hh.2 (fun _ h=>h) (fun _ h=>h) (fun h=>nomatch h)⟩) hp
 clear Kr;revert h;generalize stA=st;intro h;split at h<;>try (cases h;done)
 rename_i f' caps hg;cases hf:Nat.beq f f'<;>rw [hf] at h<;>simp only [cond_true,cond_false] at h
 ·cases h
 obtain rfl:=bt hf;intro w0 G0 a w G hr;refine (wpIn_wide (n:=0)).1 (wpIn_rangeFunc fun fn _=>?_);have hv:=hr.ev g;rw [hg] at hv;simp only [VT] at hv;obtain⟨cv,BL,LP⟩:=hv;have Vp:=hr.Fm (.deferred (some [])) .MW (heap_alloc_new w _)
 have ou:ez (w.alloc (.deferred (some []))) { G with i:=G.i++[w.heap.size] } ((w.alloc (.deferred (some []))).alloc (.loop ⟨.ready,none,fn,a.tmps,ps,ca,cb,w.heap.size⟩)) { G with i:=G.i++[w.heap.size] } :=
  ⟨fun _ _ h=>h,fun b o v hp hv=>(World.cell?_of_block ((cL.alloc _ _).2 b (Vp.boxes.dH b o hp).1)).trans hv,fun _ _ h=>h,fun j x h hj=>⟨x,h,hj,bM _,fun _=>rfl⟩⟩
 have amI:aP E ((w.alloc (.deferred (some []))).alloc (.loop ⟨.ready,none,fn,a.tmps,ps,ca,cb,w.heap.size⟩)) { G with i:=G.i++[w.heap.size] } (GY keep st.t) a.tmps.toList :=
  ahN hr.size fun j d hj=>(Vp.tmps j d hj).mono ou
 have hn2:=Vp.Fm (.loop ⟨.ready,none,fn,a.tmps,ps,ca,cb,w.heap.size⟩) (.loop y (GY keep st.t)) ⟨⟨ps,ca,cb⟩,fn,a.tmps,w.heap.size,hyd,heap_alloc_new _ _,amI⟩;have hlen:=hr.boxes.len;obtain⟨G2,hG2⟩:∃G2:au,{ G with i:=(G.i++[w.heap.size])++[(w.alloc (.deferred (some []))).heap.size] } = G2:=⟨_,rfl⟩;obtain⟨W1,hW1⟩:∃W1,(w.alloc (.deferred (some []))).alloc (.loop ⟨.ready,none,fn,a.tmps,ps,ca,cb,w.heap.size⟩)=W1:=⟨_,rfl⟩;have hn2:Rel E w0 G0 { st with H:=(st.H++[.MW])++[.loop y (GY keep st.t)] } a W1 G2:=by rw [←hG2,←hW1];exact hn2
 have hi0:G2.i[st.H.length]? = some w.heap.size:=by
  rw [←hG2];show ((G.i++[w.heap.size])++[(w.alloc (.deferred (some []))).heap.size])[st.H.length]? = _;rw [fU (by simp [hlen]),lG om,hlen];simp
 have hi1:G2.i[st.H.length+1]? = some (w.heap.size+1):=by
  rw [←hG2];show ((G.i++[w.heap.size])++[(w.alloc (.deferred (some []))).heap.size])[st.H.length+1]? = _;rw [lG (by simp [hlen])];simp [hlen]
 have hn3:Rel E w0 G0 { st with H:=(st.H++[.MW])++[.loop y (GY keep st.t)],df:=(sV,[.pL st.H.length])::st.df } { a with defers:={ target:=.collected w.heap.size,args:=#[] } :: a.defers } W1 G2 :=
  ⟨hn2.cK,hn2.size,hn2.tmps,⟨.inr ⟨rfl,w.heap.size,rfl,.cons (by simp only [VT];exact⟨_,rfl,hi0⟩) .nil⟩,hn2.defers⟩,hn2.boxes,hn2.fix,hn2.pins,hn2.dI⟩
 have hargs:aP E W1 G2 (.pL (st.H.length+1)::caps) ((#[.func (.yield (w.heap.size+1)) #[] #[]]:Array Value)++cv).toList:=by
  have kA:=hn3.ev g;have e1:TS.ev { st with H:=(st.H++[.MW])++[.loop y (GY keep st.t)],df:=(sV,[.pL st.H.length])::st.df } g=.func (.func f) caps:=hg;rw [e1] at kA;simp only [VT] at kA;obtain⟨cv2,ale,alf⟩:=kA;have e2:Act.eval { a with defers:={ target:=.collected w.heap.size,args:=#[] } :: a.defers } g=a.eval g:=rfl;rw [e2,BL] at ale;cases ale;have:((#[.func (.yield (w.heap.size+1)) #[] #[]]:Array Value)++cv).toList=.func (.yield (w.heap.size+1)) #[] #[]::cv.toList:=by simp
  rw [this];exact .cons (by simp only [VT];exact⟨_,rfl,hi1⟩) alf
 have hI:=za hX.E (SV.mono X.P) (fun C hC=>(hX.Γ C hC).gok) h _ _ _ _ _ _ hn3.ald hargs;unfold SV gE at hI;rw [hent] at hI;have hC:=hI;refine⟨w.heap.size+1,[{ target:=.collected w.heap.size,args:=#[] }],W1,{ target:=.fn (.func f) cv,args:=#[.func (.yield (w.heap.size+1)) #[] #[]] },W1,f,#[.func (.yield (w.heap.size+1)) #[] #[]]++cv,W1,(by rw [←hW1];exact run_enterLoop_outer _ _ _ _ _),?_,fun _ _=>trivial,?_,(fun h=>nomatch h),(callsIn_wide (n:=0)).2 (Calls.mono hC fun e w3 he=>?_)⟩
 ·simp only [resolve,BL]
  simp [go_sem]
 ·simp [invoke,go_sem,hent]
 rcases he with⟨v,st',G',rfl,hR,hk,hF⟩ | ⟨x,st',hne,hk⟩
 rotate_left
 ·cases x<;>first | exact (hne rfl).elim | cases hk
 simp only [eM] at hk;split at hk<;>try (cases hk;done)
 rename_i y' ds' amJ;have hat:G'.i[st.H.length+1]? = some (w.heap.size+1):=hR.cK.goes.i _ _ hi1;obtain⟨Y',fn',tmps',D',ZM,hheap,-⟩:=hR.box hat amJ;have hlt:w.heap.size+1<w3.heap.size:=(lF.1 hheap).1
 have hS:=hR.tA (w':=w3.putObj (w.heap.size+1) (.loop ⟨.exhausted,none,fn',tmps',Y'.params,Y'.assign,Y'.body,D'⟩)) hat si rfl rfl rfl (fun b' hb=>World.putObj_heap_other hb) (x:=.gone)
  (fun _=>⟨_,World.putObj_heap_same hlt,fun cs t m e=>by cases e⟩)
 obtain⟨D2,hD2,hH2⟩:=hF.d
 have hO:=Rel.over hn3 hS (fun q hq=>by
  show q∈(st.H.length+1)::st'.d;rw [hD2];simp [hq])
 refine⟨none,_,run_endLoop hheap (fun e=>nomatch e),?_⟩;refine⟨.normal,_,G',trivial,hO,hk,?_⟩;refine⟨hF.len,fun i hi=>hF.keep i (fun h=>by cases h),⟨(st.H.length+1)::D2,by show (st.H.length+1)::st'.d=_;rw [hD2];rfl,fun q hq hd=>?_⟩,?_,fun h=>nomatch h⟩
 ·simp only [fK,not_or] at hd
  show (st'.H.set (st.H.length+1) .gone)[q]? = _;rw [iB (Ne.symm hd.1),hH2 q bx hd.2];rw [fU bx,fU hq]
 ·have:=hF.hl
  simp at this ⊢;omega
theorem aeV (hX:X.Ok) {F:Nat}:∀(c:Code) (p:dc) {R:Type} {st:TS E} {k:Ex E→TS E→Option R} {r:R},runM X F c p st k=some r→BZ E X.P c p→Dh E X.P c st (fun x st'=>k x st'=some r∧Fr (wr c) false st st'):=by
 have base:∀(c:Code) (p:dc) {R:Type} {st:TS E} {k:Ex E→TS E→Option R} {r:R},runT X F c p st k=some r→Dh E X.P c st (fun x st'=>k x st'=some r∧Fr (wr c) false st st') :=
  fun c p R st k r h w0 G0 a w G hr=>wp_mono ((oW hX c p h).wp hr) fun _ _ _ hp=>bD.mono (fun x s hh=>⟨hh.1,hh.2.wide (fun _ h=>h) (fun h=>nomatch h)⟩) hp
 intro c
 induction c with
 | seq a b wV wW =>
  intro p R st k r h hy
  cases p with
  | Ey ow p q =>
   simp only [runM] at h;split at h<;>try (cases h;done)
   rename_i stA Kr;intro w0 G0 ac w G hr;obtain⟨⟨GA,hrA⟩,hfA⟩:=jE Kr hr;refine wp_mono (Q:=bD E w0 G0 (fun x st'=>k x st'=some r∧Fr (wr (.seq a b)) false stA st')) ?_ fun _ _ _ hp=>bD.mono (fun x s' hh=>⟨hh.1,hfA.trans hh.2 (fun _ h=>h) (fun _ h=>h) (fun h=>nomatch h)⟩) hp;clear Kr hfA hr;revert GA h;generalize stA=st;intro h G hr;refine wp_seq (wp_mono (wV p h hy.1 w0 G0 ac w G hr) fun e a' w' hp=>?_);obtain⟨x,s,G',he,hr',hq,hf⟩:=hp
   cases x with
   | normal =>
    cases e<;>try (exact he.elim)
    exact wp_mono (wW q hq hy.2 w0 G0 a' w' G' hr') fun _ _ _ hp=>bD.mono (fun x s' hh=>⟨hh.1,hf.trans hh.2 (fun i hi=>by simp [wr,hi]) (fun i hi=>by simp [wr,hi]) (fun h=>nomatch h)⟩) hp
   | _ =>
    have jB:bD E w0 G0 (fun x st'=>k x st'=some r∧Fr (wr (.seq a b)) false st st') e a' w':=⟨_,s,G',he,hr',hq,hf.wide (fun i hi=>by simp [wr,hi]) (fun h=>h)⟩
    cases e<;>first | exact he.elim | exact jB
  | _=>simp only [runM] at h;exact base _ _ h
 | block i a ih =>
  intro p R st k r h hy
  cases p with
  | ZJ p =>
   simp only [runM] at h;intro w0 G0 ac w G hr;refine wp_block (wp_mono (ih p h hy w0 G0 ac w G hr) fun e a' w' hp=>?_);obtain⟨x,s,G',he,hr',hq,hf⟩:=hp
   cases x with
   | exit j =>
    cases e<;>try (exact he.elim)
    rename_i i';have he:i'=j:=he;subst he;simp only [Qq] at hq;simp only [Exit.inBlock];cases hb:Nat.beq i' i<;>rw [hb] at hq<;>simp only [cond_true,cond_false] at hq
    ·have:i'≠i:=fun e=>by subst e;rw [uY] at hb;cases hb
     rw [if_neg this];exact⟨.exit i',s,G',rfl,hr',hq,hf⟩
    ·rw [if_pos (bt hb)]
     exact⟨.normal,s,G',trivial,hr',hq,hf⟩
   | _ =>
    have jB:bD E w0 G0 (fun x st'=>k x st'=some r∧Fr (wr (.block i a)) false st st') e a' w':=⟨_,s,G',he,hr',hq,hf⟩
    cases e<;>first | exact he.elim | exact jB
  | _=>simp only [runM] at h;exact base _ _ h
 | rangeFunc g ps a b _ _ =>
  intro p R st k r h hy
  cases p with
  | range ow y f keep=>exact aeU hX h hy
  | _=>simp only [runM] at h;cases h
 | _=>intro p R st k r h hy;simp only [runM] at h;exact base _ _ h
def LZ {R:Type} (k:TS E→Option R):List (FuncId × List (TV E))→TS E→Option R
 | [],st=>k { st with df:=[] }
 | (f,[.pL q])::df,st=>cond (Nat.beq f sV) (match st.H[q]? with
   | some .MW=>LZ k df { st with H:=st.H.set q .gone,d:=q::st.d }
   | _=>none) none
 | _,_=>none
def alg (X:Cx E) (s:bL) (fn:Func) (aQ:TS E):(p:Option Outs)→Ex E→TS E→Option (OutP E s.out p)
 | none,.ret,st=>LZ (fun st=>(kU X st fn.results.toList).bind fun ds=>s.out.get aQ st (lM ds)) st.df st
 | none,.normal,st=>LZ (fun st=>(kU X st fn.results.toList).bind fun ds=>s.out.get aQ st (lM ds)) st.df st
 | _,_,_=>none
noncomputable def aeW (X:Cx E) (F:Nat) (s:bL) (fn:Func) (pl:dc) (x:dens E s.tys):Option (OutP E s.out s.gw) :=
 match fn.body with
 | some c=>runM X F c pl (s.aQ fn.ntmps (az s.tys x)) (alg X s fn (s.aQ fn.ntmps (az s.tys x)) s.gw)
 | none=>none
theorem Nc {P:Program} {fn:Func} {R:Type} {k:TS E→Option R} {r:R} {w0:World} {G0:au} {tmps:Array Value} {RR:Ending→World→Prop}:∀(df:List (FuncId × List (TV E))) (st:TS E) (ds:List Deferred) (w:World) (G:au),LZ k df st=some r →
  Rel E w0 G0 { st with df:=df } { tmps:=tmps,defers:=ds } w G →
  (∀(st':TS E) (w':World) (G':au),k { st' with df:=[] } = some r→Rel E w0 G0 { st' with df:=[] } { tmps:=tmps,defers:=[] } w' G'→Fr [] false st st'→∃v,(results fn tmps).run P w'=.ok v w'∧RR (.returned v) w') →
  LeavesInM Fence.wide 0 P fn tmps RR ds .returning w
 | [],st,ds,w,G,h,hr,hk=>by
  have:ds=[]:=by
   have:=hr.defers
   cases ds with
   | nil=>rfl
   | cons _ _=>exact this.elim
  subst this
  exact hk st w G h hr (Fr.refl _ _ _)
 | (f,dv)::df,st,ds,w,G,h,hr,hk=>by
  cases ds with
  | nil=>exact hr.defers.elim
  | cons d0 ds =>
  obtain⟨hd,cX⟩:=hr.defers
  obtain⟨q,hdv,h'⟩:∃q,dv=[.pL q]∧cond (Nat.beq f sV) (match st.H[q]? with
   | some .MW=>LZ k df { st with H:=st.H.set q .gone,d:=q::st.d }
   | _=>none) none=some r:=by
   cases dv with
   | nil=>cases h
   | cons z zs =>
    cases zs with
    | cons _ _=>cases z<;>cases h
    | nil=>cases z<;>first | (cases h;done) | exact⟨_,rfl,h⟩
  subst hdv;clear h;cases hc:Nat.beq f sV<;>rw [hc] at h'<;>simp only [cond_true,cond_false] at h'
  ·cases h'
  split at h'<;>try (cases h';done)
  rename_i hq
  obtain⟨-,b,rfl,hv⟩:=hd.resolve_left (fun hh=>by
   have e:Nat.beq f sV=false:=hh.1;rw [hc] at e;cases e)
  obtain⟨u,us,he,h1,-⟩:=hv.cons_inv;cases he;simp only [VT] at h1;obtain⟨b',he,hat⟩:=h1;cases he;have JR:w.heap[b]? = some (.deferred (some [])):=hr.box hat hq;have hlt:b<w.heap.size:=(lF.1 JR).1;have hS:=hr.tA (w':=w.putObj b (.deferred none)) hat si rfl rfl rfl (fun b' hb=>World.putObj_heap_other hb) (x:=.gone) (fun _=>⟨_,World.putObj_heap_same hlt,fun cs t m e=>by cases e⟩);refine⟨(fun e=>nomatch e),.inl ⟨b,_,rfl,run_takeDeferred JR,?_⟩⟩;refine Nc df { st with H:=st.H.set q .gone,d:=q::st.d } ds _ G h' ⟨hS.cK,hS.size,hS.tmps,hS.defers.2,hS.boxes,hS.fix,hS.pins,hS.dI⟩ fun st' w' G' h1 h2 h3=>hk st' w' G' h1 h2 ?_;have f1:Fr [] false st { st with H:=st.H.set q .gone,d:=q::st.d }:=⟨rfl,fun _ _=>rfl,⟨[q],rfl,fun j hj hd=>iB (fun e=>hd (by simp [e]))⟩,si,fun h=>nomatch h⟩;exact f1.trans h3 (fun _ h=>h) (fun _ h=>h) (fun h=>nomatch h)
theorem abW (hX:X.Ok) {F:Nat} {s:bL} {fn:Func} {pl:dc} {x:dens E s.tys} {y:OutP E s.out s.gw} (hf:X.P.funcs[s.f]? = some fn) (hn:(fn.name == "runtime.NumGoroutine")=false) (hy:∀c,fn.body=some c→BZ E X.P c pl) (h:aeW X F s fn pl x=some y) :
  ia X.P s.f (s.ds (az s.tys x)) (s.H (az s.tys x)) s.g0 (s.c (az s.tys x)) (fG s (s.H (az s.tys x)) s.gw y):=by
 unfold aeW at h;split at h<;>try (cases h;done)
 rename_i c hb;intro w G args hP hB hS hV;have BB:=Rel.init (n:=fn.ntmps) hP hB hS hV;have hpre:=BB.pre;refine oF hf hb hn ((callsIn_wide (n:=0)).1 (callsIn_of_wp_marks hf hb trivial ((wpIn_wide (n:=0)).2 (wp_mono (aeV hX c pl h (hy c hb) w G _ w G BB) fun e a' w' hp=>?_))));obtain⟨ex,st,G',he,hr,hk,hF⟩:=hp
 have fin:∀(p:Option Outs) (y:OutP E s.out p),alg X s fn (s.aQ fn.ntmps (az s.tys x)) p ex st=some y→(ex=.ret∨ex=.normal)∧LeavesInM Fence.wide 0 X.P fn a'.tmps (ua E w G (fG s (s.H (az s.tys x)) p y)) a'.defers .returning w':=by
  intro p y hk
  cases p with
  | some q=>cases ex<;>cases hk
  | none =>
   have main:LZ (fun st=>(kU X st fn.results.toList).bind fun ds=>s.out.get (s.aQ fn.ntmps (az s.tys x)) st (lM ds)) st.df st=some y→LeavesInM Fence.wide 0 X.P fn a'.tmps (ua E w G (fG s (s.H (az s.tys x)) none y)) a'.defers .returning w':=fun hk =>
    Nc st.df st a'.defers w' G' hk hr fun st' w2 G2 h1 h2 h3=>by
     have hF3:Fr (wr c) false (s.aQ fn.ntmps (az s.tys x)) st':=hF.trans h3 (fun _ h=>h) (fun _ h=>by cases h) (fun h=>nomatch h)
     cases hds:kU X { st' with df:=[] } fn.results.toList with
     | none=>rw [hds] at h1;cases h1
     | some ds =>
      rw [hds] at h1;obtain⟨v,hv,hrun⟩:=vc hX h2 hds;have hF4:Fr (wr c) false (s.aQ fn.ntmps (az s.tys x)) { st' with df:=[] }:=⟨hF3.len,hF3.keep,hF3.d,hF3.hl,fun h=>nomatch h⟩;obtain⟨G3,q1,q2,q3,q4,q5⟩:=Outs.BX hX.E (ok:=true) (aQ:=s.aQ fn.ntmps (az s.tys x)) (st:={ st' with df:=[] }) hpre rfl rfl h2 hF4 hv h1;exact⟨v,hrun,v,G3,rfl,q1,q2,q3,q4,q5⟩
   cases ex<;>try (cases hk;done)
   ·exact⟨.inr rfl,main hk⟩
   ·exact⟨.inl rfl,main hk⟩
 obtain⟨hex,hl⟩:=fin s.gw y hk;rcases hex with rfl | rfl<;>cases e<;>first | exact he.elim | exact hl
theorem an.alh (hX:X.Ok) {C:an E} {F:Nat} {fn:Func} {pl:dc} (hf:X.P.funcs[C.s.f]? = some fn) (hn:(fn.name == "runtime.NumGoroutine")=false) {c:Code} (hc:fn.body=some c) {l:List (Nat × FuncId × YD)} (hl:Dz c pl=l) (hy:∀t∈l,ZR E X.P t)
  (h:∀x,aeW X F C.s fn pl x=C.m x):C.Ok X.P :=
 fun x y hyy=>abW hX hf hn (fun c' tw=>by rw [hc] at tw;cases tw;exact ajD c pl (by rw [hl];exact hy)) (by rw [h x];exact hyy)
end
end Go.RT
namespace Go.RT
variable {E : TEnv}
def ag (n:Int):Int:=IntKind.wrap .i64 n
def sl {α:Type} (l:List α) (p q:Int):List α:=(l.take q.toNat).drop p.toNat
def fI {α:Type} [BEq α] (a b:α):Bool:=a==b
theorem an.aiU {X:Cx E} (hX:X.Ok) {C:an E} {F:Nat} {fn:Func} {pl:dc} (hf:X.P.funcs[C.s.f]? = some fn) (hn:(fn.name == "runtime.NumGoroutine")=false) (h:∀x,aeS X F C.s fn pl x=C.m x):C.Ok X.P :=
 fun x y hy=>aeT hX hf hn (by rw [h x];exact hy)
theorem aA {P:Program}:∀C∈([]:List (an E)),C.Ok P:=fun _ h=>nomatch h
theorem aj {P:Program} {C:an E} {Γ:List (an E)} (h:C.Ok P) (hs:∀C∈Γ,C.Ok P):∀C'∈C::Γ,C'.Ok P:=fun C' hC=>by
 rcases fK.1 hC with rfl | hC
 ·exact h
 ·exact hs C' hC
end Go.RT
namespace Go.RT
variable {E : TEnv}
def ibF (F:Nat) (s:List UInt8) (c:Int):Option Int:=some (Lib.indexByte s c.toNat.toUInt8)
def ibS (f:FuncId):bL:=⟨f,[.one (.dat .str),.one (.dat (.int .u8))],[],[],⟨.one (.dat (.int .i64)),[],[],[]⟩,none,[]⟩
def ibC (E:TEnv) (f:FuncId) (F:Nat):an E:=⟨ibS f,fun (x:List UInt8 × Int)=>ibF F x.1 x.2⟩
theorem al0 {P:Program} {f:FuncId} (h:∀args w,(callFunc f args).run P w=((Extern.BytealgIndexByte.indexByte args).run P w).andThen fun v w'=>.ok (.value v) w') (F:Nat):(ibC E f F).Ok P:=by
 have key:∀(s:List UInt8) (c:Int),ia (E:=E) P f [.dat .str s,.dat (.int .u8) c] [] [] [] ⟨true,.dat (.int .i64) (Lib.indexByte s c.toNat.toUInt8),[],[],[],[]⟩:=by
  intro s c w G args hP hB hS hv;obtain⟨u,us,he,h1,h2⟩:=hv.cons_inv;obtain⟨u2,Dc,UU,h3,h4⟩:=h2.cons_inv;have h4:Dc=[]:=by simpa only [aP] using h4
  have e1:=h1.ep;have e2:=h3.dw;subst e1 e2 h4 UU;have ha:args=#[mkStr s,.int .u8 c]:=by apply nj;exact he
  subst ha
  have hrun:(callFunc f #[mkStr s,.int .u8 c]).run P w=.ok (.value (.int .i64 (Lib.indexByte s c.toNat.toUInt8))) w:=by
   rw [h,mkStr,Lib.run_indexByteString];rfl
  unfold gE;rw [hrun];exact⟨.int .i64 (Lib.indexByte s c.toNat.toUInt8),G,rfl,gU.refl w G,hB,hS,.int _ _ _ _,fun _ _ _ _=>rfl⟩
 intro x y hy;obtain⟨s,c⟩:=x;have hy:some (Lib.indexByte s (Int.toNat c).toUInt8)=some y:=hy;cases hy;exact key s c
def neF (F:Nat):Option Unit:=some ()
def neS (f:FuncId) (b:BT) (rows:List (TypeId × Nat)):bL:=⟨f,[.one (.ptr 0 0)],[b],rows,⟨.one (.ptr 0 0),[none],rows.map fun _=>none,[]⟩,none,[]⟩
def neC (E:TEnv) (f:FuncId) (b:BT) (rows:List (TypeId × Nat)):an E:=⟨neS f b rows,fun _=>some ()⟩
theorem Ks:∀(rows:List (TypeId × Nat)) (g:List aZ),g.length=rows.length→cg (rows.map fun _=>none) g=g
 | [],[],_=>rfl
 | _::rows,x::g,h=>by
  have:=Ks rows g (by simpa using h);simp only [eV,cg,this]
theorem amK {P:Program} {f:FuncId} {b:BT} {rows:List (TypeId × Nat)} (h:∀v w,(callFunc f #[v]).run P w=.ok (.value v) w):(neC E f b rows).Ok P:=by
 intro x y _;intro w G args hP hB hS hv;have hv:aP E w G [.ptr 0 0] args.toList:=hv;obtain⟨u,us,he,h1,h2⟩:=hv.cons_inv;have h2:us=[]:=by simpa only [aP] using h2
 subst h2;have ha:args=#[u]:=by apply nj;exact he
 subst ha;show gE P f #[u] w _;unfold gE;rw [h];refine⟨u,G,rfl,gU.refl w G,?_,hS,h1,fun _ _ _ _=>rfl⟩;have e:cg (rows.map fun _=>none) (neS f b rows).g0=(neS f b rows).g0:=Ks rows _ (by simp [bL.g0,neS]);show iq E w G _ (cg (rows.map fun _=>none) (neS f b rows).g0);rw [e];exact hB
end Go.RT
namespace Go.RT
variable {E : TEnv}
section
variable {st : TS E}
def Qx (P:Program):Inv:=fun f args w R=>(∀args w,(callFunc f args).run P w=.ok (.enter f args) w)∧∀u,CallsD P f args u w (fun e u' w'=>u'=u∧R e w')
def age (u:FrameMode) (v:Value):Prop:=(u=.returning∧v=.nilIface)∨u=.panicking [{ v:=v,recovered:=false }]
def ze (P:Program):Inv:=fun f aiV w R=>(∀args w,(callFunc f args).run P w=.ok (.enter f args) w) ∧
 ∀(v:Value) (args:Array Value) (u:FrameMode),aiV.toList=v::args.toList→age u v→CallsD P f args u w (fun e u' w'=>settle u'=.returning∧R e w')
theorem Qx.mono (P:Program):(Qx P).Zw:=fun f args w R R' h hi=>⟨hi.1,fun u=>(hi.2 u).mono fun e u' w' hh=>⟨hh.1,h _ _ hh.2⟩⟩
theorem ze.mono (P:Program):(ze P).Zw:=fun f args w R R' h hi=>⟨hi.1,fun v args u h1 h2=>(hi.2 v args u h1 h2).mono fun e u' w' hh=>⟨hh.1,h _ _ hh.2⟩⟩
structure Dx (E:TEnv) where
 o:List (an E)
 r:List (an E)
structure Dx.Ok (P:Program) (D:Dx E):Prop where
 o:∀C∈D.o,C.BR (Qx P)
 r:∀C∈D.r,C.BR (ze P)
def me:Option (TV E)→List (FuncId × List (TV E))
 | none=>[]
 | some d=>[(0,[d])]
def ahO:Option (TV E)→TV E
 | none=>.val .nilIface
 | some d=>d
def zf {R:Type} (D:Dx E) (k:Option (TV E)→TS E→Option R):List (FuncId × List (TV E))→Option (TV E)→TS E→Option R
 | [],m,st=>k m { st with df:=[] }
 | (f,ds)::df,m,st=>cond (Nat.beq f sV) none <| cond (D.r.any fun C=>Nat.beq C.s.f f)
   (lZ { st with df:=df } none f (ahO m::ds) (eM (fun st'=>zf D k df none st') fun _ _=>none) D.r)
   (lZ { st with df:=df++me m } none f ds (eM (fun st'=>zf D k df m st') fun _ _=>none) D.o)
inductive L0:Option (TV E)→List Deferred→FrameMode→Prop
 | ret:L0 none [] .returning
 | gw (d:TV E) (v:Value):L0 (some d) [{ target:=.fn (.func 0) #[],args:=#[v] }] (.panicking [{ v:=v,recovered:=false }])
theorem ZS {R:Type} {k1:TS E→Option R} {x:Ex E} {s:TS E} {r:R} (hne:x≠.normal) (h:eM k1 (fun _ _=>none) x s=some r):False:=by
 cases x<;>first | exact hne rfl | cases h
theorem gj.app {w:World} {G:au}:∀ {a b:List Deferred} {x y:List (FuncId × List (TV E))},a.length=x.length→gj E w G (a++b) (x++y)→gj E w G a x∧gj E w G b y
 | [],b,[],y,_,h=>⟨trivial,h⟩
 | d::a,b,z::x,y,hl,h=>by
  obtain⟨h1,h2⟩:=h;obtain⟨h3,h4⟩:=gj.app (by simpa using hl) h2;exact⟨⟨h1,h3⟩,h4⟩
theorem gj.len {w:World} {G:au}:∀ {a:List Deferred} {x:List (FuncId × List (TV E))},gj E w G a x→a.length=x.length
 | [],[],_=>rfl
 | _::a,_::x,h=>by simp [gj.len h.2]
 | [],_::_,h=>h.elim
 | _::_,[],h=>h.elim
theorem Fr.aeX (st:TS E) (y:List (FuncId × List (TV E))) (W:List Nat):Fr W false st { st with df:=y }:=⟨rfl,fun _ _=>rfl,⟨[],rfl,fun _ _ _=>rfl⟩,bM _,fun h=>nomatch h⟩
theorem Rel.Qy {w0 w:World} {G0 G:au} {a:Act} {y:List (FuncId × List (TV E))} {ds:List Deferred} (h:Rel E w0 G0 st a w G) (hd:gj E w G ds y):Rel E w0 G0 { st with df:=y } { a with defers:=ds } w G :=
 ⟨h.cK,h.size,h.tmps,hd,h.boxes,h.fix,h.pins,h.dI⟩
theorem B0 (hE:E.Ok) {P:Program} {fn:Func} {D:Dx E} (hD:D.Ok P) {R:Type} {k:Option (TV E)→TS E→Option R} {r:R} {w0:World} {G0:au} {tmps:Array Value} {RR:Ending→World→Prop} :
  ∀(df:List (FuncId × List (TV E))) (m:Option (TV E)) (st:TS E) (ds mv:List Deferred) (u:FrameMode) (w:World) (G:au),zf D k df m st=some r→ds.length=df.length →
   Rel E w0 G0 { st with df:=df++me m } { tmps:=tmps,defers:=ds++mv } w G→L0 m mv u →
   (∀(m':Option (TV E)) (st':TS E) (ZT:List Deferred) (u':FrameMode) (w':World) (G':au),k m' { st' with df:=[] } = some r→Rel E w0 G0 { st' with df:=me m' } { tmps:=tmps,defers:=ZT } w' G'→L0 m' ZT u'→Fr [] false st st'→Leaves P fn tmps RR [] u' w') →
   Leaves P fn tmps RR ds u w
 | [],m,st,ds,mv,u,w,G,h,hl,hr,hm,hk=>by
  have:ds=[]:=by cases ds with | nil=>rfl | cons _ _=>cases hl
  subst this
  exact hk m st mv u w G h hr hm (Fr.refl _ _ _)
 | (f,dv)::df,m,st,ds,mv,u,w,G,h,hl,hr,hm,hk=>by
  cases ds with
  | nil=>cases hl
  | cons d0 ds =>
  have hl':ds.length=df.length:=by simpa using hl
  have cI:gj E w G (d0::(ds++mv)) ((f,dv)::(df++me m)):=hr.defers;obtain⟨hdo,ali⟩:=cI;simp only [zf] at h;cases SN:Nat.beq f sV<;>rw [SN] at h<;>simp only [cond_true,cond_false] at h
  rotate_left
  ·cases h
  obtain⟨-,cap,ahP,hargs⟩:=hdo.resolve_right (fun hh=>by
   have e:f=sV:=hh.1;rw [e,uY] at SN;cases SN)
  have hu:u≠.run:=by cases hm<;>(intro e;cases e)
  have hinv:(∀args w,(callFunc f args).run P w=.ok (.enter f args) w)→(invoke d0.target d0.args).run P w=.ok (.enter f (d0.args++cap)) w:=fun he=>by
   rw [ahP];have:=he (d0.args++cap) w;simpa [invoke] using this
  cases hc:(D.r.any fun C=>Nat.beq C.s.f f)<;>rw [hc] at h<;>simp only [cond_true,cond_false] at h
  ·have cJ:Rel E w0 G0 { st with df:=df++me m } { tmps:=tmps,defers:=ds++mv } w G:=hr.Qy (y:=df++me m) (ds:=ds++mv) ali
   have hI:=za hE (Qx.mono P) hD.o h w0 G0 _ w G (d0.args++cap) cJ hargs;refine⟨hu,.func f,cap,f,d0.args++cap,ahP,hinv hI.1,(hI.2 u).mono fun e u' w' hh=>?_⟩;obtain⟨rfl,hh⟩:=hh;rcases hh with⟨v,st',G',rfl,hR,hkk,hF⟩ | ⟨x,st',hne,hkk⟩
   ·have lI:settle u'=u':=by cases hm<;>rfl
    show Leaves P fn tmps RR ds (settle u') w';rw [lI];have hdf:st'.df=df++me m:=hF.df rfl;have hR':Rel E w0 G0 { st' with df:=df++me m } { tmps:=tmps,defers:=ds++mv } w' G':=by rw [←hdf];exact hR
    refine B0 hE hD df m st' ds mv u' w' G' hkk hl' hR' hm fun m' FC ZT u2 w2 G2 h1 h2 h3 tq=>hk m' FC ZT u2 w2 G2 h1 h2 h3 ?_;exact ((Fr.aeX st (df++me m) []).trans hF (W:=[]) (n:=false) (fun _ h=>h) (fun _ h=>h) (fun h=>nomatch h)).trans tq (fun _ h=>h) (fun _ h=>h) (fun h=>nomatch h)
   ·exact (ZS hne hkk).elim
  ·obtain⟨hd1,hd2⟩:=gj.app hl' ali
   have cJ:Rel E w0 G0 { st with df:=df } { tmps:=tmps,defers:=ds } w G:=hr.Qy (y:=df) (ds:=ds) hd1
   have hv:∃v,age u v∧VT E w G (ahO m) v:=by
    cases hm with
    | ret=>exact⟨.nilIface,.inl ⟨rfl,rfl⟩,by simp only [ahO,VT]⟩
    | gw d v =>
     refine⟨v,.inr rfl,?_⟩;obtain⟨ahQ,-⟩:=hd2;obtain⟨-,cap',ht',cx⟩:=ahQ.resolve_right (fun hh=>absurd (show (0:Nat)=sV from hh.1) de);simp only [Target.fn.injEq] at ht';obtain⟨-,rfl⟩:=ht';obtain⟨u1,us,he,h1,-⟩:=cx.cons_inv;simp at he;obtain⟨rfl,-⟩:=he;exact h1
   obtain⟨v,hmo,hvt⟩:=hv
   have hI:=za hE (ze.mono P) hD.r h w0 G0 _ w G (#[v]++(d0.args++cap)) cJ (by
    have:(#[v]++(d0.args++cap)).toList=v::(d0.args++cap).toList:=by simp
    rw [this];exact .cons hvt hargs)
   refine⟨hu,.func f,cap,f,d0.args++cap,ahP,hinv hI.1,(hI.2 v (d0.args++cap) u si hmo).mono fun e u' w' hh=>?_⟩;obtain⟨lI,hh⟩:=hh;rcases hh with⟨v,st',G',rfl,hR,hkk,hF⟩ | ⟨x,st',hne,hkk⟩
   ·show Leaves P fn tmps RR ds (settle u') w'
    rw [lI];have hdf:st'.df=df:=hF.df rfl
    have hR':Rel E w0 G0 { st' with df:=df++me none } { tmps:=tmps,defers:=ds++[] } w' G':=by
     simp only [me,qC];rw [←hdf];exact hR
    refine B0 hE hD df none st' ds [] .returning w' G' hkk hl' hR' .ret fun m' FC ZT u2 w2 G2 h1 h2 h3 tq=>hk m' FC ZT u2 w2 G2 h1 h2 h3 ?_;exact ((Fr.aeX st df []).trans hF (W:=[]) (n:=false) (fun _ h=>h) (fun _ h=>h) (fun h=>nomatch h)).trans tq (fun _ h=>h) (fun _ h=>h) (fun h=>nomatch h)
   ·exact (ZS hne hkk).elim
end
end Go.RT
