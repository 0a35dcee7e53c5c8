import Derived.Test.YteagcbkkonabbaaGreatDoorRf
import Derived.Lib.Builder
import Derived.Sort.Row
import Derived.OrdersHeld
import Derived.Lib.ConvBytes
import Derived.Scope
set_option linter.all false
namespace Go.RT
set_option linter.unusedVariables false
variable {E : TEnv}
def ResOk (E:TEnv) (w:World) (G:Ghost) (r:ARes E) (e:Ending) (w':World):Prop :=
 ∃v G',e=endOf r.ok v∧Evol w G w' G'∧Boxes E w' G' r.H r.g∧Softs E w' G' r.c∧VT E w' G' r.d v∧∀(q b:Nat),G.i[q]? = some b→q∉r.D→w'.heap[b]? = w.heap[b]?
def Inv:=FuncId→Array Value→World→(Ending→World→Prop)→Prop
def Inv.Mono (I:Inv):Prop:=∀f args w (R R':Ending→World→Prop),(∀e w',R e w'→R' e w')→I f args w R→I f args w R'
def AGC (E:TEnv) (I:Inv) (f:FuncId) (ds:List (TV E)) (H:List (TBox E)) (gs:List TGrow) (cs:List (Nat × Cn E)) (r:ARes E):Prop :=
 ∀(w:World) (G:Ghost) (args:Array Value),Pins E w G→Boxes E w G H gs→Softs E w G cs→VTs E w G ds args.toList→I f args w (ResOk E w G r)
def Ctr.GOk (I:Inv) (C:Ctr E):Prop :=
 ∀x y,C.m x=some y→AGC E I C.s.f (C.s.ds (putAll C.s.tys x)) (C.s.H (putAll C.s.tys x)) C.s.g0 (C.s.c (putAll C.s.tys x)) (outP C.s (C.s.H (putAll C.s.tys x)) C.s.pan y)
section
variable {st : TS E}
theorem callK_gen (hE:E.Ok) {I:Inv} (hI:I.Mono) {R:Type} {f:FuncId} {ds:List (TV E)} {dst:Option Nat} {k:Ex E→TS E→Option R} {r:R} :
  ∀ {Γ:List (Ctr E)},(∀C∈Γ,C.GOk I)→callK st dst f ds k Γ=some r→∀(w0:World) (G0:Ghost) (a:Act) (w:World) (G:Ghost) (args:Array Value),Rel E w0 G0 st a w G→VTs E w G ds args.toList →
   I f args w (fun e w'=>(∃v st' G',e=.returned v∧Rel E w0 G0 st' (a.put dst v) w' G'∧k .normal st'=some r∧Fr (dstL dst) true st st')∨∃x st',x≠.normal∧k x st'=some r)
 | [],_,h=>by cases h
 | C::Γ,hΓ,h=>by
  have hrest:callK st dst f ds k Γ=some r→_:=callK_gen hE hI (fun C' hC=>hΓ C' (by simp [hC]))
  simp only [callK] at h
  cases hf:Nat.beq C.s.f f<;>rw [hf] at h<;>simp only [cond_true,cond_false] at h
  ·exact hrest h
  have hf:=Nat.eq_of_beq_eq_true hf
  obtain⟨ds1,st1,hhs⟩:∃ds1 st1,hardPs C.s.args ds st=(ds1,st1):=⟨_,_,rfl⟩
  rw [hhs] at h
  dsimp only at h
  split at h
  ·rename_i ls hls
   split at h
   ·rename_i xx hxx
    generalize hbs:allSome (C.s.sel st1 ds1).b=bs at *
    generalize hgs:allSome (C.s.sel st1 ds1).g=gs at *
    obtain⟨hwf,h⟩:=rq_some h
    cases hm:C.m xx with
    | none=>rw [hm] at h;cases h
    | some y =>
     rw [hm] at h
     dsimp only [Option.bind] at h
     intro w0 G0 a w G0' args hr hargs0
     obtain⟨honly,G,hr1,hgo,hvs⟩:=hardPs_ok C.s.args ds hr
     have hargs:=hvs _ hargs0
     rw [hhs] at hr1 hargs honly
     clear hr
     have hr:=hr1
     have hnd:bs.Nodup∧gs.Nodup∧bs.length=C.s.boxes.length∧C.s.rows.length=gs.length:=by
      unfold Shp.enter at hls
      split at hls<;>try (cases hls;done)
      rename_i H g hH hg
      cases hcc:(nodupN bs&&(nodupN gs&&(Nat.beq bs.length C.s.boxes.length&&rowsSame C.s.rows g)))<;>rw [hcc] at hls<;>simp only [cond_true,cond_false] at hls
      ·cases hls
      simp only [Bool.and_eq_true] at hcc
      exact⟨nodupN_ok hcc.1,nodupN_ok hcc.2.1,Nat.eq_of_beq_eq_true hcc.2.2.1,by rw [(rowsSame_ok hcc.2.2.2).1,(pick_get hg).1]⟩
     obtain⟨is,gg,hi,hgk,hB,hS,hV⟩:=hr.enter hE hls hargs
     have hput:=getAll_ok _ hxx
     have hok:=hΓ C (by simp) xx y hm w (G.sel is gg) args (hr.pinsAt.sel hi hgk) (by rw [hput];exact hB) (by rw [hput];exact hS) (by rw [hput];exact hV)
     rw [hf] at hok
     have hg0:(G.sel is gg).g.map (·.1)=C.s.g0:=hB.gs
     have hwf':∀(q:Outs),q.wf bs.length gs.length=true→someFrom bs.length q.boxes=true∧gs.length≤q.rows.length:=fun q hq=>by
      unfold Outs.wf at hq
      rw [Bool.and_eq_true] at hq
      exact⟨hq.1,Nat.le_of_ble_eq_true hq.2⟩
     unfold Shp.wf at hwf
     rw [Bool.and_eq_true] at hwf
     have okcase:∀(y:dens E C.s.out.tys) (e:Ending) (w':World),okK C.s.out bs gs st1 dst k y=some r →
       ResOk E w (G.sel is gg) (C.s.out.ares true (C.s.H (putAll C.s.tys xx)) C.s.g0 (putAll C.s.out.tys y)) e w' →
       ∃v st' G',e=.returned v∧Rel E w0 G0 st' (a.put dst v) w' G'∧k .normal st'=some r∧Fr (dstL dst) true st st':=by
      rintro y e w' hk ⟨v1,G',he,hE,hB',hS',hV',hfix⟩
      simp only [Outs.ares,endOf,cond_true] at he
      subst he
      obtain⟨hs1,hs2⟩:=hwf' _ hwf.1
      simp only [Outs.ares] at hB' hS' hV' hfix
      rw [←hg0] at hB' hS' hV'
      obtain⟨Gn,hR,hval⟩:=hr.leave hi hgk hnd.1 hnd.2.1 C.s.out hs1 hs2 hE hB' hS' hV' hfix
      exact⟨v1,_,Gn,rfl,hR.put hval dst,hk,(C.s.out.after_fr bs gs st1 _ dst _).ofC honly⟩
     have fin:∀(p:Option Outs) (hp:C.s.pan=p) (y:OutP E C.s.out p),leaveK C.s bs gs st1 dst k p y=some r→I f args w (ResOk E w (G.sel is gg) (outP C.s (C.s.H (putAll C.s.tys xx)) p y)) →
       I f args w (fun e w'=>(∃v st' G',e=.returned v∧Rel E w0 G0 st' (a.put dst v) w' G'∧k .normal st'=some r∧Fr (dstL dst) true st st')∨∃x st',x≠.normal∧k x st'=some r):=by
      intro p hp y hk hi
      refine hI _ _ _ _ _ (fun e w' hR=>?_) hi
      cases p with
      | none=>exact .inl (okcase y e w' hk hR)
      | some q =>
       cases y with
       | inl y=>exact .inl (okcase y e w' hk hR)
       | inr y=>exact .inr ⟨.panic (q.val bs gs st1 (putAll q.tys y)),_,(fun h=>nomatch h),hk⟩
     exact fin C.s.pan rfl y h hok
   ·exact hrest h
  ·exact hrest h
end
def YInv (E:TEnv) (P:Program):Inv:=fun f args w R=>∀(Y:YD) (fn l D:Nat) (xs tmps:Array Value),E.yd f Y→args=xs++tmps→xs.size=Y.params.size →
 w.heap[l]? = some (.loop ⟨.ready,none,fn,tmps,Y.params,Y.assign,Y.body,D⟩)→RoundIn Fence.wide 0 P l fn ((Y.params.zip xs).foldl (fun t (p,v)=>t.setIfInBounds p v) tmps) Y.assign Y.body w R
theorem YInv.mono (P:Program):(YInv E P).Mono:=fun f args w R R' h hi Y fn l D xs tmps h1 h2 h3 h4=>(hi Y fn l D xs tmps h1 h2 h3 h4).mono h
def YsOk {E:TEnv} (P:Program) (Y:List (Ctr E)):Prop:=∀C∈Y,C.GOk (YInv E P)
end Go.RT
namespace Go.RT
set_option linter.unusedVariables false
variable {E : TEnv}
structure RevAt (P:Program) (f:FuncId):Prop where
 enters:∀args w,(callFunc f args).run P w=.ok (.enter f args) w
 call:∀(blk cap:Nat) (zs:List Int) (w:World),Sort.Holds (Value.int .u8) w blk 0 zs.toArray→zs.length≤9223372036854775807→Calls P f #[.slice (some ⟨blk,0,none⟩) zs.length cap] w fun e w' =>
  e=.returned (.tuple #[])∧∃n,w'=Sort.putRow (Value.int .u8) (Sort.ahead w n) blk 0 zs.reverse.toArray
structure Cx (E:TEnv) where
 P:Program
 ty:TypeId→Option Ty
 Γ:List (Ctr E)
 Y:List (Ctr E):=[]
 rv:Option FuncId:=none
structure Cx.Ok (X:Cx E):Prop where
 E:E.Ok
 Γ:∀C∈X.Γ,C.Ok X.P
 mix:X.P.follows .mixedOrders=true
 Y:YsOk X.P X.Y:=by exact fun _ h=>nomatch h
 rv:∀f,X.rv=some f→RevAt X.P f:=by exact fun _ h=>nomatch h
theorem rvN {P:Program}:∀f,(none:Option FuncId)=some f→RevAt P f:=fun _ h=>nomatch h
theorem rvS {P:Program} {g:FuncId} (h:RevAt P g):∀f,some g=some f→RevAt P f:=fun _ e=>by cases e;exact h
def dec (l:List UInt8) (p:Nat):Nat × Nat:=Utf8.decode ⟨⟨l⟩⟩ p
def convP (P:Program) (src dst t:TypeId) (n:Nat):Bool:=match P.underlying src,P.underlying dst with
 | some (.pointer e),some .unsafePointer=>(match P.info? e with | some j=>!(Nat.beq j.size 0) | none=>false)&&Nat.blt 0 n
 | some .unsafePointer,some (.pointer u)=>(match P.info? u with | some _=>true | none=>false)&&liesAt P P.depth t (n / P.cellsOf t) 0 u 1
 | _,_=>false
def plainOp (st:TS E):Op→Bool
 | .move _=>true
 | .assign _=>true
 | .unOp _ _ _=>true
 | .field _ _ _=>true
 | .fieldAddr _ _ _=>true
 | .load _ _=>true
 | .nilCheck _=>true
 | .extract _ _=>true
 | .alloc _=>true
 | .binOp op _ x y _=>match op with
  | .quo=>isConst y
  | .rem=>isConst y
  | .shl=>isConst y
  | .shr=>isConst y
  | .add=>match st.ev x with
   | .dat (.int _) _=>true
   | _=>false
  | _=>true
 | .convert _ _ x=>match st.ev x with
  | .dat (.int _) _=>true
  | _=>false
 | _=>false
abbrev scond {α:Type} (b:Bool) (x y:α):α:=match b with
 | true=>x
 | false=>y
theorem scond_eq {α:Type} (b:Bool) (x y:α):scond b x y=cond b x y:=by cases b<;>rfl
abbrev rqP {R:Type} (pl c:Bool) (k:Option R):Option R:=match pl with
 | true=>match c with
  | true=>k
  | false=>none
 | false=>rq c k
theorem rqP_some {R:Type} {pl c:Bool} {k:Option R} {r:R} (h:rqP pl c k=some r):c=true∧k=some r:=by
 cases pl
 ·exact rq_some h
 ·cases c
  ·cases h
  ·exact⟨rfl,h⟩
noncomputable def agree {R:Type} (a b:Option R):Option R:=@ite _ (a=b) (Classical.propDecidable _) a none
theorem agree_some {R:Type} {a b:Option R} {r:R} (h:agree a b=some r):a=some r∧b=some r:=by
 unfold agree at h
 by_cases e:a=b
 ·rw [if_pos e] at h
  exact⟨h,e▸h⟩
 ·rw [if_neg e] at h
  cases h
theorem agree_self {R:Type} (a:Option R):agree a a=a:=by unfold agree;rw [if_pos rfl]
theorem run_eqNil {P:Program} {t e:TypeId} (hut:P.underlying t=some (.slice e)) (ad:Option Addr) (n c:Nat) (hn:ad=none→n=0∧c=0) (x y:Operand) (op:BinOp) (hop:op=.eql∨op=.neq) (w:World) :
  (do eqGuard op t x y (.slice ad n c) (.slice none 0 0);binOp op t (.slice ad n c) (.slice none 0 0)).run P w=.ok (.bool (eqRes op ad.isNone)) w:=by
 have h1:(eqGuard op t x y (.slice ad n c) (.slice none 0 0)).run P w=.ok () w:=by rcases hop with rfl | rfl<;>rfl
 have h3:binOp op t (.slice ad n c) (.slice none 0 0)=(do let r ←Op.equal t (.slice ad n c) (.slice none 0 0);pure (.bool (eqRes op r))):=by rcases hop with rfl | rfl<;>rfl
 have h2:∀d,(Op.equalIn (d+1) t (.slice ad n c) (.slice none 0 0)).run P w=.ok ad.isNone w:=by
  intro d
  cases ad with
  | none =>
   obtain⟨rfl,rfl⟩:=hn rfl
   simp [Op.equalIn,run_underlying' hut]
  | some a=>simp [Op.equalIn,run_underlying' hut]
 simp only [Sem.run_bind,h1,Result.andThen_ok,h3,Op.equal,Op.maxDepth,h2 9999,Sem.run_pure]
def idxB {R:Type} (i:Int) (n:Nat) (k:Nat→Option R):Nat→Option R
 | 0=>none
 | m+1=>cond (decide (i=((n - (m+1):Nat):Int))) (k (n - (m+1))) (idxB i n k m)
theorem idxB_some {R:Type} {i:Int} {n:Nat} {k:Nat→Option R} {r:R}:∀ {m:Nat},m≤n→idxB i n k m=some r→∃q:Nat,i=(q:Int)∧q<n∧k q=some r
 | 0,_,h=>by cases h
 | m+1,hm,h=>by
  unfold idxB at h
  cases hd:decide (i=((n - (m+1):Nat):Int))<;>rw [hd] at h<;>simp only [cond_true,cond_false] at h
  ·exact idxB_some (by omega) h
  ·exact⟨_,of_decide_eq_true hd,by omega,h⟩
noncomputable def opT {R:Type} (X:Cx E) (st:TS E) (o:Oper) (k:Ex E→TS E→Option R):Option R :=
 match evalA X.P X.ty st o.op with
 | some (c,d)=>rqP (plainOp st o.op) c (k .normal { st with t:=setT st.t o.dst d })
 | none=>match memT X.P X.ty st o.dst o.op with
  | some (c,st')=>rqP (plainOp st o.op) c (k .normal st')
  | none=>match o.op with
   | .pick c x y=>match st.ev c with
    | .dat .bool b=>cond b (k .normal { st with t:=setT st.t o.dst (st.ev x) }) (k .normal { st with t:=setT st.t o.dst (st.ev y) })
    | _=>none
   | .call c=>match c.callee with
    | .value x=>match st.ev x with
     | .func (.func f) caps=>callK st o.dst f (c.args.toList.map st.ev++caps) k X.Γ
     | _=>none
    | _=>none
   | .defer c=>match c.callee with
    | .value x=>match st.ev x with
     | .func (.func f) caps=>cond (Nat.beq f colF) none (k .normal { st with t:=setT st.t o.dst .any,df:=(f,c.args.toList.map st.ev++caps)::st.df })
     | _=>none
    | _=>none
   | .panic x=>match st.ev x with
    | .iface t d=>k (.panic (.iface t d)) st
    | _=>none
   | .range t x=>match tinfo X.P t,st.ev x with
    | some ⟨.string,_,_,_⟩,.dat .str l=>k .normal { st with t:=setT st.t o.dst (.ptr st.H.length 0),H:=st.H++[.iter l 0] }
    | _,_=>none
   | .next x s=>cond s (match st.ev x with
    | .ptr r 0=>match st.H[r]? with
     | some (.iter l p)=>cond (Nat.blt p l.length)
       (k .normal { st with t:=setT st.t o.dst (.tuple [.dat .bool true,.dat (.int .i64) (p:Int),.dat (.int .i32) ((dec l p).1:Int)]),H:=st.H.set r (.iter l (p+(dec l p).2)),d:=r::st.d })
       (k .normal { st with t:=setT st.t o.dst (.tuple [.dat .bool false]) })
     | _=>none
    | _=>none) none
   | .convert src dst x=>match st.ev x with
    | .ptr r 0=>match st.H[r]? with
     | some (.cells t cs)=>rq (convP X.P src dst t cs.length) (k .normal { st with t:=setT st.t o.dst (.ptr r 0) })
     | _=>none
    | _=>none
   | .indexAddr t x ix=>match tinfo X.P t,st.ev x,st.ev ix with
    | some ⟨.array n e,_,_,_⟩,.ptr r off,.dat (.int _) m=>match tinfo X.P e with
     | some i=>idxB m n (fun q=>k .normal { st with t:=setT st.t o.dst (.ptr r (off+q * i.size)) }) n
     | none=>none
    | _,_,_=>none
   | .binOp op t x y _=>match tinfo X.P t,st.ev x,st.ev y with
    | some ⟨.slice _,_,_,_⟩,.dat (.lst T) xs,.val (.slice none 0 0)=>rq (Nat.blt 0 (T.size E)) (match op with
     | .eql=>cond xs.isEmpty (agree (k .normal { st with t:=setT st.t o.dst (.dat .bool true) }) (k .normal { st with t:=setT st.t o.dst (.dat .bool false) })) (k .normal { st with t:=setT st.t o.dst (.dat .bool false) })
     | .neq=>cond xs.isEmpty (agree (k .normal { st with t:=setT st.t o.dst (.dat .bool false) }) (k .normal { st with t:=setT st.t o.dst (.dat .bool true) })) (k .normal { st with t:=setT st.t o.dst (.dat .bool true) })
     | _=>none)
    | _,_,_=>none
   | _=>none
def isDef:Op→Bool
 | .defer _=>true
 | _=>false
section
variable {X : Cx E} {st : TS E} {o : Oper}
theorem opT_sound {R:Type} (hX:X.Ok) {k:Ex E→TS E→Option R} {r:R} (h:opT X st o k=some r):OpOk X.P o (dstL o.dst) (!(isDef o.op)) st (fun x st'=>k x st'=some r):=by
 unfold opT at h
 split at h
 ·rename_i pc pd hp
  obtain⟨h1,h2⟩:=rqP_some h
  exact OpOk.of_does (fun w0 G0 a w G hr=>(evalA_sound hX.E hr hp h1).does hr) h2 ((Fr.put st o.dst pd).wide (fun i h=>h) (fun _=>rfl))
 ·split at h
  ·rename_i pc pd hp
   obtain⟨h1,h2⟩:=rqP_some h
   exact OpOk.of_does (fun w0 G0 a w G hr=>memT_sound hX.E hr hp h1) h2 ((memT_fr hp).wide (fun i h=>h) (fun _=>rfl))
  ·split at h<;>try (cases h;done)
   ·rename_i c x y ho
    split at h<;>try (cases h;done)
    rename_i b hb
    intro w0 G0 a w G hr
    have hv:=hr.ev c
    rw [hb] at hv
    have hv:=hv.bool_inv
    have hrun:(execOp a.eval o).run X.P w=.ok (.value (if b then a.eval x else a.eval y)) w:=by
     simp [execOp,ho,hv,asBool]
    unfold Oper.wp
    rw [hrun]
    cases b<;>simp only [cond_true,cond_false] at h
    ·exact⟨_,G,hr.put (hr.ev y) o.dst,h,(Fr.put st o.dst _).wide (fun i h=>h) (fun _=>rfl)⟩
    ·exact⟨_,G,hr.put (hr.ev x) o.dst,h,(Fr.put st o.dst _).wide (fun i h=>h) (fun _=>rfl)⟩
   ·rename_i c ho
    split at h<;>try (cases h;done)
    rename_i x hc
    split at h<;>try (cases h;done)
    rename_i f caps hx
    have:=callK_sound hX.E (P:=X.P) ho hc hx hX.Γ h
    rw [ho]
    exact this
   ·rename_i c ho
    split at h<;>try (cases h;done)
    rename_i x hc
    split at h<;>try (cases h;done)
    rename_i f caps hx
    cases hcol:Nat.beq f colF<;>rw [hcol] at h<;>simp only [cond_true,cond_false] at h
    rotate_left
    ·cases h
    intro w0 G0 a w G hr
    have hv:=hr.ev x
    rw [hx] at hv
    simp only [VT] at hv
    obtain⟨cv,hcv,hcaps⟩:=hv
    have hrun:(execOp a.eval o).run X.P w=.ok (.defer { target:=.fn (.func f) cv,args:=c.args.map a.eval }) w:=by
     simp [execOp,ho,resolve,hc,hcv,Deferred.ofValue]
    unfold Oper.wp
    rw [hrun]
    have hargs:VTs E w G (c.args.toList.map st.ev++caps) (c.args.map a.eval++cv).toList:=by
     have:=(evs_ok hr c.args.toList).append hcaps
     simpa using this
    have hr1:Rel E w0 G0 { st with df:=(f,c.args.toList.map st.ev++caps)::st.df } { a with defers:={ target:=.fn (.func f) cv,args:=c.args.map a.eval } :: a.defers } w G :=
     ⟨hr.evol,hr.size,hr.tmps,⟨.inl ⟨hcol,cv,rfl,hargs⟩,hr.defers⟩,hr.boxes,hr.fix,hr.pins,hr.softs⟩
    refine⟨_,G,hr1.put (d:=.any) (by simp only [VT]) o.dst,h,?_⟩
    exact⟨setT_len _ _ _,fun i hi=>setT_keep _ _ _ _ hi,⟨[],rfl,fun _ _ _=>rfl⟩,Nat.le_refl _,fun hh=>by rw [ho] at hh;cases hh⟩
   ·rename_i x ho
    split at h<;>try (cases h;done)
    rename_i t d hx
    intro w0 G0 a w G hr
    have hv:=hr.ev x
    rw [hx] at hv
    have hv0:=hv
    simp only [VT] at hv
    obtain⟨u,hu,-⟩:=hv
    have hrun:(execOp a.eval o).run X.P w=.halt (.panic (a.eval x)) w:=by
     simp [execOp,ho,Instr.panic,hu,goPanic]
    unfold Oper.wp
    rw [hrun]
    exact⟨.panic (.iface t d),st,G,⟨a.eval x,rfl,hv0⟩,hr,(fun h=>nomatch h),h,Fr.refl _ _ _⟩
   ·rename_i t x ho
    split at h<;>try (cases h;done)
    rename_i j1 j2 z l ht hd
    refine OpOk.of_does (fun w0 G0 a w G hr=>?_) h ?_
    ·have hv:=hr.ev x
     rw [hd] at hv
     obtain⟨xt,hxt,hut,-⟩:=tinfo_some ht
     refine does_newBox hr (ob:=.stringIter ⟨⟨l⟩⟩ 0) (x:=.iter l 0) (heap_alloc_new w _) ?_
     simp only [execOp,ho,hv.str_inv,Instr.range,mkStr,Sem.run_bind,run_underlying' hut,Result.andThen_ok,Sem.run_pure]
     rfl
    ·exact (Fr.mem st o.dst _ _ st.g [] (app_same _ _) (by simp)).wide (fun i h=>h) (fun _=>rfl)
   ·rename_i x s ho
    cases s<;>simp only [cond_true,cond_false] at h
    ·cases h
    split at h<;>try (cases h;done)
    rename_i r hd
    split at h<;>try (cases h;done)
    rename_i l p hb
    cases hlt:Nat.blt p l.length<;>rw [hlt] at h<;>simp only [cond_true,cond_false] at h
    ·refine OpOk.of_does (fun w0 G0 a w G hr=>?_) h ((Fr.put st o.dst _).wide (fun i h=>h) (fun _=>rfl))
     have hv:=hr.ev x
     rw [hd] at hv
     simp only [VT] at hv
     obtain⟨b,he,hat⟩:=hv
     have hheap:w.heap[b]? = some (.stringIter ⟨⟨l⟩⟩ p):=hr.box hat hb
     have hlt':¬ p<(ByteArray.mk ⟨l⟩).size:=fun hh=>by
      have:Nat.blt p l.length=true:=by rw [Nat.blt,Nat.ble_eq];exact hh
      rw [hlt] at this;cases this
     have hrun:(execOp a.eval o).run X.P w=.ok (.value (.tuple #[.bool false])) w:=by
      have hgo:(getObj b).run X.P w=.ok (.stringIter ⟨⟨l⟩⟩ p) w:=by simp only [getObj,Sem.run,hheap]
      simp only [execOp,ho,Instr.next,he,Sem.run_bind,hgo,Result.andThen_ok,hlt',if_false,Sem.run_pure]
     refine⟨_,_,w,G,hrun,.inl rfl,hr.put ?_ o.dst⟩
     simp only [VT]
     exact⟨_,rfl,.cons (.bool _ _ _) (by simp only [VTs])⟩
    ·refine OpOk.of_does (fun w0 G0 a w G hr=>?_) h ((Fr.mem st o.dst _ _ st.g [r] (set_same _ _ _) (by simp)).wide (fun i h=>h) (fun _=>rfl))
     have hv:=hr.ev x
     rw [hd] at hv
     simp only [VT] at hv
     obtain⟨b,he,hat⟩:=hv
     have hheap:w.heap[b]? = some (.stringIter ⟨⟨l⟩⟩ p):=hr.box hat hb
     have hlt':p<(ByteArray.mk ⟨l⟩).size:=by rw [Nat.blt,Nat.ble_eq] at hlt;exact hlt
     have hbl:b<w.heap.size:=(Array.getElem?_eq_some_iff.1 hheap).1
     let w':World:={ w with heap:=w.heap.setIfInBounds b (.stringIter ⟨⟨l⟩⟩ (p+(dec l p).2)) }
     have hoth:∀b',b'≠b→w'.heap[b']? = w.heap[b']?:=fun b' hb'=>by
      show (w.heap.setIfInBounds b _)[b']? = _
      rw [Array.getElem?_setIfInBounds,if_neg (fun e=>hb' e.symm)]
     have hnew:w'.heap[b]? = some (.stringIter ⟨⟨l⟩⟩ (p+(dec l p).2)):=by
      show (w.heap.setIfInBounds b _)[b]? = _
      rw [Array.getElem?_setIfInBounds,if_pos rfl,if_pos hbl]
     have hrun:(execOp a.eval o).run X.P w=.ok (.value (.tuple #[.bool true,.int .i64 p,.int .i32 (dec l p).1])) w':=by
      have hgo:(getObj b).run X.P w=.ok (.stringIter ⟨⟨l⟩⟩ p) w:=by simp only [getObj,Sem.run,hheap]
      have hso:(setObj b (.stringIter ⟨⟨l⟩⟩ (p+(Utf8.decode ⟨⟨l⟩⟩ p).2))).run X.P w=.ok () w':=by
       simp only [setObj,Sem.run,hheap]
       rfl
      simp only [execOp,ho,Instr.next,he,Sem.run_bind,hgo,Result.andThen_ok,hlt',if_true,hso,Sem.run_pure,goInt,dec]
     have hR:=hr.setBox (w':=w') hat (by simp [w']) rfl rfl rfl hoth (x:=.iter l (p+(dec l p).2)) (fun _=>hnew)
     refine⟨_,_,w',G,hrun,.inl rfl,hR.put (d:=.tuple [.dat .bool true,.dat (.int .i64) (p:Int),.dat (.int .i32) ((dec l p).1:Int)]) ?_ o.dst⟩
     simp only [VT]
     exact⟨_,rfl,.cons (.bool _ _ _) (.cons (.int _ _ _ _) (.cons (.int _ _ _ _) (by simp only [VTs])))⟩
   ·rename_i src dst x ho
    split at h<;>try (cases h;done)
    rename_i r hd
    split at h<;>try (cases h;done)
    rename_i t cs hb
    obtain⟨hc,h⟩:=rq_some h
    refine OpOk.of_does (fun w0 G0 a w G hr=>?_) h ((Fr.put st o.dst _).wide (fun i h=>h) (fun _=>rfl))
    have hv:=hr.ev x
    rw [hd] at hv
    have hv0:=hv
    simp only [VT] at hv
    obtain⟨b,he,hat⟩:=hv
    obtain⟨vs,hh,hone,hvs⟩:=hr.box hat hb
    have hsz:vs.size=cs.length:=by simpa using hvs.length
    have hsh:w.shape? b=some (t,cs.length):=by simp [World.shape?,hh,hsz]
    have hrun:(convert src dst (.pointer (some ⟨b,0,none⟩))).run X.P w=.ok (.pointer (some ⟨b,0,none⟩)) w:=by
     unfold convP at hc
     split at hc
     ·rename_i e hs hdd
      rw [Bool.and_eq_true] at hc
      obtain⟨h1,h2⟩:=hc
      split at h1
      ·rename_i j hj
       refine Lib.run_to_unsafe (j:=j) w ⟨b,0,none⟩ hs hdd hj (fun h0=>?_) hsh ?_
       ·rw [h0] at h1;cases h1
       ·rw [Nat.blt,Nat.ble_eq] at h2;exact h2
      ·cases h1
     ·rename_i u hs hdd
      rw [Bool.and_eq_true] at hc
      obtain⟨h1,h2⟩:=hc
      split at h1
      ·rename_i j hj
       exact Lib.run_from_unsafe (j:=j) w ⟨b,0,none⟩ hs hdd hj hsh h2
      ·cases h1
     ·cases hc
    refine⟨.value (.pointer (some ⟨b,0,none⟩)),_,w,G,?_,.inl rfl,hr.put (v:=.pointer (some ⟨b,0,none⟩)) (d:=.ptr r 0) ?_ o.dst⟩
    ·simp only [execOp,ho,he,Sem.run_bind,hrun,Result.andThen_ok,Sem.run_pure]
    ·simp only [VT];exact⟨b,rfl,hat⟩
   ·rename_i t x ix ho
    split at h<;>try (cases h;done)
    rename_i n e j1 j2 z r off kd m ht hx hix
    split at h<;>try (cases h;done)
    rename_i i hi
    obtain⟨q,hmq,hqn,h⟩:=idxB_some (Nat.le_refl n) h
    refine OpOk.of_does (fun w0 G0 a w G hr=>?_) h ((Fr.put st o.dst _).wide (fun i h=>h) (fun _=>rfl))
    obtain⟨xt,hxt,hut,-⟩:=tinfo_some ht
    obtain⟨xe,hxe,hue,hsz,-⟩:=tinfo_some hi
    have hv:=hr.ev x
    rw [hx] at hv
    simp only [VT] at hv
    obtain⟨b,he,hat⟩:=hv
    have hvi:=hr.ev ix
    rw [hix] at hvi
    have hie:=hvi.int_inv
    refine (gives_v (f:=fun ρ=>Instr.indexAt t (ρ x) (ρ ix)) (by simp [execOp,ho]) ⟨.pointer (some ⟨b,off+q * i.size,none⟩),by simp only [VT];exact⟨b,rfl,hat⟩,fun w' hs=>?_⟩).does hr
    rw [he,hie,hmq]
    unfold Instr.indexAt asIntOf Instr.sureAddr
    have h3:((0:Int)≤(q:Int)∧(q:Int)<(n:Int)):=⟨by omega,by omega⟩
    simp only [Sem.run_bind,Sem.run_pure,Result.andThen_ok,run_underlying' hut,h3,and_self,if_true,run_sizeOf' hxe,add_lit,hsz,Int.toNat_natCast]
   ·rename_i op t x y yt ho
    split at h<;>try (cases h;done)
    rename_i e j1 j2 z T xs ht hx hy
    obtain⟨hk0,h⟩:=rq_some h
    have hk0:0<T.size E:=by rw [Nat.blt,Nat.ble_eq] at hk0;exact hk0
    obtain⟨xt,hxt,hut,-⟩:=tinfo_some ht
    have hop:op=.eql∨op=.neq:=by cases op<;>first | exact .inl rfl | exact .inr rfl | (cases h;done)
    have key:(xs=[]→k .normal { st with t:=setT st.t o.dst (.dat .bool (eqRes op true)) } = some r)∧k .normal { st with t:=setT st.t o.dst (.dat .bool (eqRes op false)) } = some r:=by
     rcases hop with rfl | rfl<;>cases xs<;>simp only [List.isEmpty_nil,List.isEmpty_cons,cond_true,cond_false] at h
     ·exact⟨fun _=>(agree_some h).1,(agree_some h).2⟩
     ·exact⟨(fun e=>by cases e),h⟩
     ·exact⟨fun _=>(agree_some h).1,(agree_some h).2⟩
     ·exact⟨(fun e=>by cases e),h⟩
    clear h
    intro w0 G0 a w G hr
    have hv:=hr.ev x
    rw [hx] at hv
    have hvy:=hr.ev y
    rw [hy] at hvy
    simp only [VT] at hvy
    have hd:=(hv.atom rfl).of_single
    obtain⟨cs,hfl,hcase⟩:=VD.flat hk0 hd
    have hsh:∃ad n c,a.eval x=.slice ad n c∧(ad=none→n=0∧c=0∧xs=[]):=by
     rcases hcase with⟨ad,he,hn⟩ | ⟨b,off,cap,he,hcap,hcells⟩
     ·exact⟨ad,0,0,he,fun _=>⟨rfl,rfl,by simpa using hn⟩⟩
     ·exact⟨_,_,_,he,fun e=>by cases e⟩
    obtain⟨ad,n,c,he,hn⟩:=hsh
    have hrun:(execOp a.eval o).run X.P w=.ok (.value (.bool (eqRes op ad.isNone))) w:=by
     have hq:=run_eqNil (P:=X.P) hut ad n c (fun e=>⟨(hn e).1,(hn e).2.1⟩) x y op hop w
     have hx:execOp a.eval o=(do let z ← (do eqGuard op t x y (a.eval x) (a.eval y);binOp op t (a.eval x) (a.eval y));pure (.value z)):=by simp [execOp,ho]
     rw [hx,he,hvy,Sem.run_bind,hq]
     rfl
    unfold Oper.wp
    rw [hrun]
    refine⟨_,G,hr.put (d:=.dat .bool (eqRes op ad.isNone)) (.bool _ _ _) o.dst,?_,(Fr.put st o.dst _).wide (fun i h=>h) (fun _=>rfl)⟩
    cases ad with
    | none=>exact key.1 (hn rfl).2.2
    | some _=>exact key.2
def guardT (all:Array Oper) (o:Oper):List Nat:=match o.guard with
 | some (j,_)=>match (all[j]?).bind (·.dst) with
  | some t=>[t]
  | none=>[]
 | none=>[]
def wrL (all:Array Oper):List Oper→List Nat
 | []=>[]
 | o::os=>dstL o.dst++(guardT all o++wrL all os)
def noDefL:List Oper→Bool
 | []=>true
 | o::os=>!(isDef o.op)&&noDefL os
abbrev thenK {R:Type} (k1:TS E→Option R) (k:Ex E→TS E→Option R):Ex E→TS E→Option R
 | .normal,st=>k1 st
 | e,st=>k e st
noncomputable def opsT {R:Type} (X:Cx E) (all:Array Oper):List Oper→TS E→(Ex E→TS E→Option R)→Option R
 | [],st,k=>k .normal st
 | o::rest,st,k=>match o.guard with
  | none=>opT X st o (thenK (fun st'=>opsT X all rest st' k) k)
  | some (j,want)=>match (all[j]?).bind (·.dst) with
   | some t=>match st.at t with
    | .dat .bool b=>cond b
      (scond want (opT X { st with t:=st.t.set t (.dat .bool true) } o (thenK (fun st'=>opsT X all rest st' k) k))
       (opsT X all rest { st with t:=setT (st.t.set t (.dat .bool true)) o.dst (.val undef) } k))
      (scond want (opsT X all rest { st with t:=setT (st.t.set t (.dat .bool false)) o.dst (.val undef) } k)
       (opT X { st with t:=st.t.set t (.dat .bool false) } o (thenK (fun st'=>opsT X all rest st' k) k)))
    | .val (.bool _)=>none
    | .val _=>opsT X all rest { st with t:=setT st.t o.dst (.val undef) } k
    | _=>none
   | none=>none
theorem CPost.mono {w0:World} {G0:Ghost} {Q Q':Ex E→TS E→Prop} (h:∀x s,Q x s→Q' x s) {e:Exit} {a:Act} {w:World} (hp:CPost E w0 G0 Q e a w):CPost E w0 G0 Q' e a w:=by
 obtain⟨x,s,G,h1,h2,h3⟩:=hp
 exact⟨x,s,G,h1,h2,h _ _ h3⟩
theorem upon_mono {P:Program} {o:Oper} {a:Act} {w:World} {n1 n2:Act→World→Prop} {Q1 Q2:Exit→Act→World→Prop} (hn:∀a w,n1 a w→n2 a w) (hq:∀e a w,Q1 e a w→Q2 e a w) (h:o.wp P a w n1 Q1):o.wp P a w n2 Q2:=by
 have hout:LetsOut Q1→LetsOut Q2:=fun⟨a,w,h⟩=>⟨a,w,hq _ _ _ h⟩
 unfold Oper.wp at *
 generalize (execOp a.eval o).run P w=r at *
 cases r with
 | ok n w' =>
  cases n<;>simp only [Oper.upon] at h ⊢
  case value u=>exact hn _ _ h
  case skip=>exact hn _ _ h
  case defer d=>exact hn _ _ h
  case enter f args =>
   refine Calls.mono h fun e w'' he=>?_
   cases e with
   | returned u=>exact hn _ _ he
   | panicked c=>exact hq _ _ _ he
   | outgrown=>exact hout he
  case row row args=>exact Rows.mono h fun u w'' he=>hn _ _ he
 | halt x w' =>
  cases x<;>simp only [Oper.upon] at h ⊢
  case panic u=>exact hq _ _ _ h
theorem wanted_bool {w0 w:World} {G0 G:Ghost} {a:Act} (hr:Rel E w0 G0 st a w G) {all:Array Oper} {j t:Nat} {want b:Bool} (hg:o.guard=some (j,want)) (ht:(all[j]?).bind (·.dst)=some t) (hb:st.at t=.dat .bool b) :
  Region.wanted o (yielded all a.tmps)=(b==want)∧a.tmps[t]? = some (.bool b):=by
 have hv:=hr.at t
 rw [hb] at hv
 have hv:=hv.bool_inv
 have hlt:t<st.t.length:=by
  rcases Nat.lt_or_ge t st.t.length with h | h
  ·exact h
  ·simp [TS.at,List.getD,List.getElem?_eq_none h] at hb
 have h2:a.tmps[t]? = some (.bool b):=by
  have:t<a.tmps.size:=by rw [hr.size];exact hlt
  rw [←hv]
  simp [Array.getD,this]
 refine⟨?_,h2⟩
 unfold Region.wanted yielded
 rw [hg]
 simp only [ht,Option.bind_some,h2]
 cases b<;>cases want<;>rfl
theorem wanted_val {w0 w:World} {G0 G:Ghost} {a:Act} (hr:Rel E w0 G0 st a w G) {all:Array Oper} {j t:Nat} {want:Bool} {u:Value} (hg:o.guard=some (j,want)) (ht:(all[j]?).bind (·.dst)=some t) (hb:st.at t=.val u) (hu:∀b,u≠.bool b) :
  Region.wanted o (yielded all a.tmps)=false:=by
 have hv:=hr.at t
 rw [hb] at hv
 simp only [VT] at hv
 have hlt:t<st.t.length:=by
  rcases Nat.lt_or_ge t st.t.length with h | h
  ·exact h
  ·simp [TS.at,List.getD,List.getElem?_eq_none h] at hb
 have h2:a.tmps[t]? = some u:=by
  have:t<a.tmps.size:=by rw [hr.size];exact hlt
  rw [←hv]
  simp [Array.getD,this]
 unfold Region.wanted yielded
 rw [hg]
 simp only [ht,Option.bind_some,h2]
 cases u<;>first | rfl | (rename_i b;exact (hu b rfl).elim)
theorem Rel.lit {w0 w:World} {G0 G:Ghost} {a:Act} (hr:Rel E w0 G0 st a w G) {t:Nat} {b:Bool} (h:a.tmps[t]? = some (.bool b)):Rel E w0 G0 { st with t:=st.t.set t (.dat .bool b) } a w G:=by
 refine⟨hr.evol,by simpa using hr.size,fun j d hj=>?_,hr.defers,hr.boxes,hr.fix,hr.pins,hr.softs⟩
 simp only [List.getElem?_set] at hj
 by_cases hij:t=j
 ·subst hij
  have hlt:t<st.t.length:=by rw [←hr.size];exact (Array.getElem?_eq_some_iff.1 h).1
  simp [hlt] at hj
  subst hj
  have:a.tmps.getD t undef=.bool b:=by simp [Array.getD_eq_getD_getElem?,h]
  rw [this]
  exact .bool _ _ _
 ·rw [if_neg hij] at hj
  exact hr.tmps j d hj
theorem Fr.lit (st:TS E) (t:Nat) (d:TV E):Fr [t] true st { st with t:=st.t.set t d } :=
 ⟨by simp,fun i hi=>by
  show (st.t.set t d)[i]? = _
  rw [List.getElem?_set_ne (fun e=>hi (by simp [e]))],⟨[],rfl,fun _ _ _=>rfl⟩,Nat.le_refl _,fun _=>rfl⟩
theorem opsT_sound {R:Type} (hX:X.Ok) {all:Array Oper} {k:Ex E→TS E→Option R} {r:R}:∀ {l:List Oper} {st:TS E},opsT X all l st k=some r→AOps E X.P all l st (fun x st'=>k x st'=some r∧Fr (wrL all l) (noDefL l) st st')
 | [],st,h=>fun w0 G0 a w G hr=>⟨.normal,st,G,trivial,hr,h,Fr.refl _ _ _⟩
 | o::rest,st,h=>by
  have ih:∀ {st:TS E},opsT X all rest st k=some r→AOps E X.P all rest st (fun x st'=>k x st'=some r∧Fr (wrL all rest) (noDefL rest) st st'):=fun h=>opsT_sound hX h
  have step:∀(s0 s1:TS E),Fr (guardT all o) true s0 s1→opT X s1 o (thenK (fun st'=>opsT X all rest st' k) k)=some r→∀w0 G0 a w G,Rel E w0 G0 s1 a w G →
    o.wp X.P a w (wpList X.P all (CPost E w0 G0 fun x st'=>k x st'=some r∧Fr (wrL all (o::rest)) (noDefL (o::rest)) s0 st') rest) (CPost E w0 G0 fun x st'=>k x st'=some r∧Fr (wrL all (o::rest)) (noDefL (o::rest)) s0 st'):=by
   intro s0 s1 hF0 h w0 G0 a w G hr
   have h1:=opT_sound hX h w0 G0 a w G hr
   have hF:∀ {s2 s3:TS E},Fr (dstL o.dst) (!(isDef o.op)) s1 s2→Fr (wrL all rest) (noDefL rest) s2 s3→Fr (wrL all (o::rest)) (noDefL (o::rest)) s0 s3:=fun f1 f2 =>
    (hF0.trans f1 (W:=dstL o.dst++guardT all o) (n:=!(isDef o.op)) (fun i hi=>by simp [hi]) (fun i hi=>by simp [hi]) (fun h=>⟨rfl,h⟩)).trans f2 (fun i hi=>by
     simp only [wrL,List.mem_append] at hi ⊢;rcases hi with hi | hi<;>simp [hi]) (fun i hi=>by simp [wrL,hi]) (fun h=>by
     simp only [noDefL,Bool.and_eq_true] at h;exact h)
   refine upon_mono (fun a' w' hn=>?_) (fun e a' w' hp=>?_) h1
   ·obtain⟨s2,G2,hr2,hk,f1⟩:=hn
    simp only [thenK] at hk
    have hA:=ih hk w0 G0 a' w' G2 hr2
    have key:∀(l:List Oper) (a:Act) (w:World) {Q1 Q2:Exit→Act→World→Prop},(∀e a w,Q1 e a w→Q2 e a w)→wpList X.P all Q1 l a w→wpList X.P all Q2 l a w:=by
     intro l
     induction l with
     | nil=>intro a w Q1 Q2 hq h;exact hq _ _ _ h
     | cons o l ihl =>
      intro a w Q1 Q2 hq h
      unfold wpList at h ⊢
      split
      ·rename_i hw
       rw [if_pos hw] at h
       rcases h with h | ⟨h,a1,w1,h2⟩
       ·exact .inl (upon_mono (fun a w h=>ihl a w hq h) hq h)
       ·exact .inr ⟨h,a1,w1,hq _ _ _ h2⟩
      ·rename_i hw
       rw [if_neg hw] at h
       exact ihl _ _ hq h
    exact key rest a' w' (fun e a w hp=>CPost.mono (fun x s hh=>⟨hh.1,hF f1 hh.2⟩) hp) hA
   ·obtain⟨x,s2,G2,he,hr2,hn,hk,f1⟩:=hp
    cases x with
    | normal=>exact (hn rfl).elim
    | _=>exact⟨_,s2,G2,he,hr2,hk,hF f1 (Fr.refl _ _ _)⟩
  simp only [opsT,scond_eq] at h
  intro w0 G0 a w G hr
  split at h
  ·rename_i hg
   unfold wpList
   rw [if_pos (by simp [Region.wanted,hg])]
   exact .inl (step st st (by unfold guardT;rw [hg];exact Fr.refl _ _ _) h w0 G0 a w G hr)
  ·rename_i j want hg
   split at h<;>try (cases h;done)
   rename_i t ht
   have hgt:guardT all o=[t]:=by unfold guardT;rw [hg];simp only [ht]
   have skip:∀(s1:TS E),Fr (guardT all o) true st s1→Rel E w0 G0 s1 a w G→opsT X all rest { s1 with t:=setT s1.t o.dst (.val undef) } k=some r →
     wpList X.P all (CPost E w0 G0 fun x st'=>k x st'=some r∧Fr (wrL all (o::rest)) (noDefL (o::rest)) st st') rest (a.put o.dst undef) w:=by
    intro s1 f0 hr1 hk
    have hr2:=hr1.put (v:=undef) (d:=.val undef) (by simp only [VT]) o.dst
    have hA:=ih hk w0 G0 _ w G hr2
    have key:∀(l:List Oper) (a:Act) (w:World) {Q1 Q2:Exit→Act→World→Prop},(∀e a w,Q1 e a w→Q2 e a w)→wpList X.P all Q1 l a w→wpList X.P all Q2 l a w:=by
     intro l
     induction l with
     | nil=>intro a w Q1 Q2 hq h;exact hq _ _ _ h
     | cons o l ihl =>
      intro a w Q1 Q2 hq h
      unfold wpList at h ⊢
      split
      ·rename_i hw
       rw [if_pos hw] at h
       rcases h with h | ⟨h,a1,w1,h2⟩
       ·exact .inl (upon_mono (fun a w h=>ihl a w hq h) hq h)
       ·exact .inr ⟨h,a1,w1,hq _ _ _ h2⟩
      ·rename_i hw
       rw [if_neg hw] at h
       exact ihl _ _ hq h
    refine key rest _ w (fun e a w hp=>CPost.mono (fun x s hh=>⟨hh.1,?_⟩) hp) hA
    have f1:Fr (dstL o.dst) (!(isDef o.op)) s1 { s1 with t:=setT s1.t o.dst (.val undef) }:=(Fr.put s1 o.dst (.val undef)).wide (fun i h=>h) (fun _=>rfl)
    exact (f0.trans f1 (W:=dstL o.dst++guardT all o) (n:=!(isDef o.op)) (fun i hi=>by simp [hi]) (fun i hi=>by simp [hi]) (fun h=>⟨rfl,h⟩)).trans hh.2 (fun i hi=>by
     simp only [wrL,List.mem_append] at hi ⊢;rcases hi with hi | hi<;>simp [hi]) (fun i hi=>by simp [wrL,hi]) (fun h=>by
     simp only [noDefL,Bool.and_eq_true] at h;exact h)
   split at h<;>try (cases h;done)
   ·rename_i b hb
    obtain⟨hw,hbv⟩:=wanted_bool hr hg ht hb
    have hl:=hr.lit hbv
    have hfl:Fr (guardT all o) true st { st with t:=st.t.set t (.dat .bool b) }:=by rw [hgt];exact Fr.lit st t _
    unfold wpList
    cases b<;>cases want<;>simp only [cond_true,cond_false] at h
    ·rw [if_pos (by rw [hw];rfl)]
     exact .inl (step _ _ hfl h w0 G0 a w G hl)
    ·rw [if_neg (by rw [hw];simp)]
     exact skip _ hfl hl h
    ·rw [if_neg (by rw [hw];simp)]
     exact skip _ hfl hl h
    ·rw [if_pos (by rw [hw];rfl)]
     exact .inl (step _ _ hfl h w0 G0 a w G hl)
   ·rename_i u hnb hu
    have hw:=wanted_val hr hg ht hu (fun b e=>hnb b e)
    unfold wpList
    rw [if_neg (by rw [hw];simp)]
    exact skip st (Fr.refl _ _ _) hr h
end
end Go.RT
namespace Go.RT
set_option linter.unusedVariables false
section
variable {P : Program} {ops : Array Oper} {Q : Exit → Act → World → Prop} {S : World → Prop} {lo hi : Nat}
def pre (n i:Nat):Array Bool:=((List.range n).map fun k=>Nat.blt k i).toArray
theorem blt_iff {a b:Nat}:Nat.blt a b=true↔a<b:=by
 rw [Nat.blt,Nat.ble_eq];exact Nat.succ_le_iff
theorem blt_not {a b:Nat} (h:b≤a):Nat.blt a b=false:=by
 apply Bool.eq_false_iff.2
 rw [Ne,blt_iff];omega
theorem pre_zero (n:Nat):Array.replicate n false=pre n 0:=by
 apply Array.ext'
 apply List.ext_getElem
 ·simp [pre]
 ·intro k h1 h2
  simp [pre,blt_not]
theorem pre_succ {n i:Nat}:(pre n i).setIfInBounds i true=pre n (i+1):=by
 apply Array.ext'
 apply List.ext_getElem
 ·simp [pre]
 ·intro k h1 h2
  simp only [pre,List.setIfInBounds_toArray,List.getElem_set,List.getElem_map,List.getElem_range]
  by_cases hk:i=k
  ·subst hk;rw [if_pos rfl];exact (blt_iff.2 (by omega)).symm
  ·rw [if_neg hk]
   rw [Bool.eq_iff_iff,blt_iff,blt_iff]
   omega
theorem pre_get {n i k:Nat} (h:i≤k) (hk:k<n):(pre n i).getD k true=false:=by
 simp [pre,hk,blt_not h]
theorem pre_get_lt {n i k:Nat} (h:k<i) (hk:k<n) (d:Bool):(pre n i).getD k d=true:=by
 simp [pre,hk,blt_iff.2 h]
def waits (ops:Array Oper):Nat→Nat→Nat→Bool
 | 0,_,_=>false
 | fuel+1,j,i=>match ops[j]? with
  | none=>false
  | some o=>o.after.any (fun e=>Region.binds .any e&&e.on==i)||o.after.any (fun e=>Region.binds .any e&&(Nat.blt i e.on&&waits ops fuel e.on i))
def Closed (ops:Array Oper) (listed:Array Bool):Prop:=∀(j:Nat) (o:Oper),ops[j]? = some o→listed.getD j false=true→∀e∈o.after,Region.binds .any e=true→listed.getD e.on false=true
theorem waits_listed {listed:Array Bool} (hc:Closed ops listed) {i:Nat}:∀(fuel j:Nat),waits ops fuel j i=true →
  (∀o,ops[j]? = some o→∀e∈o.after,Region.binds .any e=true→listed.getD e.on false=true)→listed.getD i false=true
 | 0,_,h,_=>by cases h
 | fuel+1,j,h,hj=>by
  unfold waits at h
  cases ho:ops[j]? with
  | none=>rw [ho] at h;cases h
  | some o =>
   rw [ho] at h
   simp only [Bool.or_eq_true] at h
   rcases h with h | h
   ·obtain⟨e,he,hb⟩:=Array.any_eq_true'.1 h
    simp only [Bool.and_eq_true,beq_iff_eq] at hb
    rw [←hb.2]
    exact hj o ho e he hb.1
   ·obtain⟨e,he,hb⟩:=Array.any_eq_true'.1 h
    simp only [Bool.and_eq_true] at hb
    refine waits_listed hc fuel e.on hb.2.2 fun o' ho'=>hc e.on o' ho' (hj o ho e he hb.1)
theorem getD_set_cases {listed:Array Bool} {i k:Nat} (h:(listed.setIfInBounds i true).getD k false=true):k=i∨listed.getD k false=true:=by
 by_cases hik:i=k
 ·exact .inl hik.symm
 ·rw [getD_set_ne false hik] at h;exact .inr h
theorem Closed.step {listed:Array Bool} (hc:Closed ops listed) {i:Nat} (hr:i∈Region.ready .any ops listed):Closed ops (listed.setIfInBounds i true):=by
 intro j o ho hj e he hb
 obtain⟨_,oi,hoi,hall⟩:=mem_ready.1 hr
 rcases getD_set_cases hj with rfl | hj
 ·rw [hoi] at ho;cases ho
  exact getD_set_true (hall e he hb)
 ·exact getD_set_true (hc j o ho hj e he hb)
def wpAnyS (P:Program) (ops:Array Oper) (Q:Exit→Act→World→Prop) (S:World→Prop) (lo hi:Nat):Nat→Array Bool→Act→World→Prop
 | 0,listed,a,w=>Region.ready .any ops listed=[]∧Q .normal a w
 | fuel+1,listed,a,w =>
  (Region.ready .any ops listed=[]→Q .normal a w) ∧
  ∀i∈Region.ready .any ops listed,wpOp P ops Q i (fun a' w'=>(lo≤i∧i<hi→S w→S w')∧wpAnyS P ops Q S lo hi fuel (listed.setIfInBounds i true) a' w') a w
theorem wpAny_of_S:∀(fuel:Nat) (listed:Array Bool) (a:Act) (w:World),wpAnyS P ops Q S lo hi fuel listed a w→wpAny P .any ops Q fuel listed a w
 | 0,_,_,_,h=>h
 | fuel+1,_,_,_,h=>⟨h.1,fun i hi=>wpOp_mono (fun a' w' h'=>wpAny_of_S fuel _ a' w' h'.2) (h.2 i hi)⟩
theorem S_of_wpAny:∀(fuel:Nat) (listed:Array Bool) (a:Act) (w:World),(∀k,lo≤k→k<hi→listed.getD k true=true)→wpAny P .any ops Q fuel listed a w→wpAnyS P ops Q S lo hi fuel listed a w
 | 0,_,_,_,_,h=>h
 | fuel+1,listed,_,_,hp,h=>⟨h.1,fun i hm=>wpOp_mono (fun a' w' h'=>by
   have hun:=(mem_ready.1 hm).1
   refine⟨fun hx _=>?_,S_of_wpAny fuel _ a' w' (fun k h1 h2=>?_) h'⟩
   ·rw [hp i hx.1 hx.2] at hun;cases hun
   ·by_cases hik:i=k
    ·subst hik;rw [hp i h1 h2] at hun;cases hun
    ·rw [getD_set_ne true hik];exact hp k h1 h2) (h.2 i hm)⟩
theorem wpAnyS_first {i:Nat} {oi:Oper} {v:Value} (hoi:ops[i]? = some oi) (hsel:∀(j:Nat) (o:Oper) cs b,ops[j]? = some o→o.op≠.select cs b)
  (hQ:∀c a w,Q (.panic c) (a.put oi.dst v) w→Q (.panic c) a w) (hW:∀j,hi≤j→j<ops.size→waits ops ops.size j i=true) :
  ∀(fuel:Nat) (listed:Array Bool) (a:Act) (w:World),Closed ops listed→(∀k,k<lo→k<ops.size→listed.getD k true=true) →
   (∀j oj,ops[j]? = some oj→j≠i→listed.getD j true=false→(∀e∈oj.after,Region.binds .any e=true→e.on≠i)→oi.apart ops oj=true) →
   i∈Region.ready .any ops listed→YieldsIf P ops S oi v a→S w →
   wpAnyS P ops Q S lo hi fuel (listed.setIfInBounds i true) (a.put oi.dst v) w→wpAnyS P ops Q S lo hi (fuel+1) listed a w:=by
 intro fuel
 induction fuel with
 | zero =>
  intro listed a w _ _ _ hr hy hS H
  refine⟨fun h=>(by rw [h] at hr;cases hr),fun j hj=>?_⟩
  by_cases hji:j=i
  ·subst hji;exact hy.wpOp hoi hS ⟨fun _ h=>h,H⟩
  ·have:=ready_mono hj hji
   rw [H.1] at this
   cases this
 | succ fuel ih =>
  intro listed a w hcl hlo hfree hr hy hS H
  refine⟨fun h=>(by rw [h] at hr;cases hr),fun j hj=>?_⟩
  by_cases hji:j=i
  ·subst hji;exact hy.wpOp hoi hS ⟨fun _ h=>h,H⟩
  ·have h1:=H.2 j (ready_mono hj hji)
   obtain⟨hjun,oj,hoj,hall⟩:=mem_ready.1 hj
   have hpi:listed.getD i true=false:=(mem_ready.1 hr).1
   have hnot:∀e∈oj.after,Region.binds .any e=true→e.on≠i:=fun e he hb heq=>by
    have h1:=hall e he hb
    rw [heq] at h1
    rcases Nat.lt_or_ge i listed.size with h' | h'
    ·simp [h'] at hpi h1;rw [hpi] at h1;cases h1
    ·simp [Array.getElem?_eq_none h'] at h1
   have hjl:j<ops.size:=(Array.getElem?_eq_some_iff.1 hoj).1
   have hrange:lo≤j∧j<hi:=by
    refine⟨?_,?_⟩
    ·rcases Nat.lt_or_ge j lo with h' | h'
     ·rw [hlo j h' hjl] at hjun;cases hjun
     ·exact h'
    ·rcases Nat.lt_or_ge j hi with h' | h'
     ·exact h'
     ·have:=waits_listed hcl ops.size j (hW j h' hjl) (fun o ho e he hb=>by rw [hoj] at ho;cases ho;exact hall e he hb)
      rcases Nat.lt_or_ge i listed.size with h'' | h''
      ·simp [h''] at hpi this;rw [hpi] at this;cases this
      ·simp [Array.getElem?_eq_none h''] at this
   have h2:=wpOp_putIf hoj (hfree j oj hoj hji hjun hnot) (fun cs b=>hsel i oi cs b hoi) (fun cs b=>hsel j oj cs b hoj) hQ hy h1
   have hfree':∀k ok,ops[k]? = some ok→k≠i→(listed.setIfInBounds j true).getD k true=false →
     (∀e∈ok.after,Region.binds .any e=true→e.on≠i)→oi.apart ops ok=true:=fun k ok hk hki hun hno=>by
    refine hfree k ok hk hki ?_ hno
    by_cases hjk:j=k
    ·subst hjk;exact hjun
    ·rw [getD_set_ne true hjk] at hun;exact hun
   have hlo':∀k,k<lo→k<ops.size→(listed.setIfInBounds j true).getD k true=true:=fun k h1 h2=>by
    by_cases hjk:j=k
    ·subst hjk;omega
    ·rw [getD_set_ne true hjk];exact hlo k h1 h2
   refine wpOp_mono (fun a' w' h3=>⟨fun _ _=>h3.2.1 hrange hS,ih (listed.setIfInBounds j true) a' w' (hcl.step hj) hlo' hfree' (ready_mono hr (Ne.symm hji)) h3.1 (h3.2.1 hrange hS) ?_⟩) h2
   rw [Array.setIfInBounds_comm _ _ hji]
   exact h3.2.2
theorem wpAnyS_free {i:Nat} {oi:Oper} {v:Value} (hoi:ops[i]? = some oi) (hsel:∀(j:Nat) (o:Oper) cs b,ops[j]? = some o→o.op≠.select cs b)
  (hQ:∀c a w,Q (.panic c) (a.put oi.dst v) w→Q (.panic c) a w) :
  ∀(fuel:Nat) (listed:Array Bool) (a:Act) (w:World),
   (∀j oj,ops[j]? = some oj→j≠i→listed.getD j true=false→(∀e∈oj.after,Region.binds .any e=true→e.on≠i)→oi.apart ops oj=true) →
   i∈Region.ready .any ops listed→YieldsIf P ops (fun _=>True) oi v a →
   wpAnyS P ops Q S lo hi fuel (listed.setIfInBounds i true) (a.put oi.dst v) w→wpAnyS P ops Q S lo hi (fuel+1) listed a w:=by
 intro fuel
 induction fuel with
 | zero =>
  intro listed a w _ hr hy H
  refine⟨fun h=>(by rw [h] at hr;cases hr),fun j hj=>?_⟩
  by_cases hji:j=i
  ·subst hji;exact hy.wpOp hoi trivial ⟨fun _ h=>h,H⟩
  ·have:=ready_mono hj hji
   rw [H.1] at this
   cases this
 | succ fuel ih =>
  intro listed a w hfree hr hy H
  refine⟨fun h=>(by rw [h] at hr;cases hr),fun j hj=>?_⟩
  by_cases hji:j=i
  ·subst hji;exact hy.wpOp hoi trivial ⟨fun _ h=>h,H⟩
  ·have h1:=H.2 j (ready_mono hj hji)
   obtain⟨hjun,oj,hoj,hall⟩:=mem_ready.1 hj
   have hpi:listed.getD i true=false:=(mem_ready.1 hr).1
   have hnot:∀e∈oj.after,Region.binds .any e=true→e.on≠i:=fun e he hb heq=>by
    have h1:=hall e he hb
    rw [heq] at h1
    rcases Nat.lt_or_ge i listed.size with h' | h'
    ·simp [h'] at hpi h1;rw [hpi] at h1;cases h1
    ·simp [Array.getElem?_eq_none h'] at h1
   have h2:=wpOp_putIf hoj (hfree j oj hoj hji hjun hnot) (fun cs b=>hsel i oi cs b hoi) (fun cs b=>hsel j oj cs b hoj) hQ hy h1
   have hfree':∀k ok,ops[k]? = some ok→k≠i→(listed.setIfInBounds j true).getD k true=false →
     (∀e∈ok.after,Region.binds .any e=true→e.on≠i)→oi.apart ops ok=true:=fun k ok hk hki hun hno=>by
    refine hfree k ok hk hki ?_ hno
    by_cases hjk:j=k
    ·subst hjk;exact hjun
    ·rw [getD_set_ne true hjk] at hun;exact hun
   refine wpOp_mono (fun a' w' h3=>⟨h3.2.1,ih (listed.setIfInBounds j true) a' w' hfree' (ready_mono hr (Ne.symm hji)) h3.1 ?_⟩) h2
   rw [Array.setIfInBounds_comm _ _ hji]
   exact h3.2.2
theorem Oper.wp_mono2 {o:Oper} {a:Act} {w:World} {K K':Act→World→Prop} {Q':Exit→Act→World→Prop} (h:∀a w,K a w→K' a w) (hq:∀e a w,e≠.normal→Q e a w→Q' e a w)
  (hh:o.wp P a w K Q):o.wp P a w K' Q':=by
 have hout:LetsOut Q→LetsOut Q':=fun⟨a,w,h⟩=>⟨a,w,hq _ _ _ (by simp) h⟩
 unfold Oper.wp at *
 generalize (execOp a.eval o).run P w=r at *
 cases r with
 | ok n w' =>
  cases n<;>simp only [Oper.upon] at hh ⊢
  case value u=>exact h _ _ hh
  case skip=>exact h _ _ hh
  case defer d=>exact h _ _ hh
  case enter f args =>
   refine Calls.mono hh fun e w'' he=>?_
   cases e with
   | returned u=>exact h _ _ he
   | panicked c=>exact hq _ _ _ (by simp) he
   | outgrown=>exact hout he
  case row row args=>exact Rows.mono hh fun u w'' he=>h _ _ he
 | halt x w' =>
  cases x<;>simp only [Oper.upon] at hh ⊢
  case panic u=>exact hq _ _ _ (by simp) hh
def forced (ops:Array Oper) (i:Nat):Nat→Bool
 | 0=>true
 | m+1=>(Region.ready .any ops (pre ops.size i)==[i])&&forced ops (i+1) m
theorem wpAny_seg {R Q':Exit→Act→World→Prop}:∀(seg:List Oper) (i fuel:Nat),(∀k,k<seg.length→ops[i+k]? = seg[k]?)→forced ops i seg.length=true→∀a w,wpList P ops R seg a w →
  (∀e a w,R e a w→e=.normal∧wpAny P .any ops Q' fuel (pre ops.size (i+seg.length)) a w)→wpAny P .any ops Q' (seg.length+fuel) (pre ops.size i) a w
 | [],i,fuel,_,_,a,w,h,hR=>by
  have:=(hR _ a w h).2
  simpa using this
 | o::seg,i,fuel,hs,hf,a,w,h,hR=>by
  simp only [List.length_cons,forced,Bool.and_eq_true,beq_iff_eq] at hf
  have hoi:ops[i]? = some o:=by simpa using hs 0 (by simp)
  rw [show (o::seg).length+fuel=(seg.length+fuel)+1 by simp;omega]
  refine wpAny_all hf.1 (by simp) fun j hj=>?_
  have:j=i:=by simpa using hj
  subst this
  have ih:∀a w,wpList P ops R seg a w→wpAny P .any ops Q' (seg.length+fuel) ((pre ops.size j).setIfInBounds j true) a w:=fun a w hw=>by
   rw [pre_succ]
   refine wpAny_seg seg (j+1) fuel (fun k hk=>?_) hf.2 a w hw (fun e a w hr=>?_)
   ·have:=hs (k+1) (by simpa using hk)
    rw [show j+1+k=j+(k+1) by omega]
    simpa using this
   ·have:=hR e a w hr
    rw [show j+1+seg.length=j+(o::seg).length by simp;omega]
    exact this
  have hq:∀e a w,e≠.normal→R e a w→Q' e a w:=fun e a w hne hr=>absurd (hR e a w hr).1 hne
  unfold wpOp
  simp only [hoi]
  have h':(if Region.wanted o (yielded ops a.tmps) then o.wp P a w (wpList P ops R seg) R∨(o.asks P a w∧LetsOut R) else wpList P ops R seg (a.put o.dst undef) w):=h
  split
  ·rename_i hw
   rw [if_pos hw] at h'
   rcases h' with h' | ⟨_,a1,w1,h1⟩
   ·exact .inl (Oper.wp_mono2 ih hq h')
   ·exact absurd (hR _ _ _ h1).1 (by simp)
  ·rename_i hw
   rw [if_neg hw] at h'
   exact ih _ _ h'
end
end Go.RT
namespace Go.RT
set_option linter.unusedVariables false
variable {E : TEnv}
def softTy (j:Nat):List (Nat × Ty)→Option Ty
 | []=>none
 | (q,t)::ps=>cond (Nat.beq q j) (some t) (softTy j ps)
def noC (j:Nat):List (Nat × Cn E)→Bool
 | []=>true
 | p::cs=>!(Nat.beq p.1 j)&&noC j cs
theorem noC_ok {j:Nat}:∀ {cs:List (Nat × Cn E)},noC j cs=true→∀c,(j,c)∉cs
 | [],_,_,h=>nomatch h
 | p::cs,h,c,hm=>by
  simp only [noC,Bool.and_eq_true,Bool.not_eq_true'] at h
  rcases List.mem_cons.1 hm with e | hm
  ·rw [←e,Nat.beq_refl] at h;exact nomatch h.1
  ·exact noC_ok h.2 c hm
def mvC (j j':Nat):List (Nat × Cn E)→List (Nat × Cn E)
 | []=>[]
 | p::cs=>cond (Nat.beq p.1 j) (mvC j j' cs) (cond (Nat.beq p.1 j') ((j,p.2)::mvC j j' cs) (p::mvC j j' cs))
theorem mvC_mem {j j':Nat}:∀ {cs:List (Nat × Cn E)} {q:Nat} {x:Cn E},(q,x)∈mvC j j' cs→(q=j∧(j',x)∈cs)∨(q≠j∧q≠j'∧(q,x)∈cs)
 | p::cs,q,x,h=>by
  rw [mvC] at h
  have next:(q,x)∈mvC j j' cs→(q=j∧(j',x)∈p::cs)∨(q≠j∧q≠j'∧(q,x)∈p::cs):=fun h=>(mvC_mem h).imp (fun⟨a,b⟩=>⟨a,List.mem_cons_of_mem _ b⟩) fun⟨a,b,c⟩=>⟨a,b,List.mem_cons_of_mem _ c⟩
  cases h1:Nat.beq p.1 j<;>rw [h1] at h
  ·cases h2:Nat.beq p.1 j'<;>rw [h2] at h
   ·rcases List.mem_cons.1 h with e | h
    ·rw [←e] at h1 h2
     exact .inr ⟨fun e=>(by rw [e,Nat.beq_refl] at h1;cases h1),fun e=>(by rw [e,Nat.beq_refl] at h2;cases h2),by rw [e];exact List.mem_cons_self ..⟩
    ·exact next h
   ·rcases List.mem_cons.1 h with e | h
    ·cases e
     exact .inl ⟨rfl,by rw [←Nat.eq_of_beq_eq_true h2];exact List.mem_cons_self ..⟩
    ·exact next h
  ·exact next h
 | [],_,_,h=>nomatch h
def prepV (c:Cut) (n0:Nat) (i:Nat) (p:PT) (st:TS E):TS E:=match p,st.t[i]? with
 | .one (.gsl j _),some (.gsl j' v T xs)=>match st.g[j]?,st.g[j']? with
  | some g,some g'=>cond (!(Nat.beq j' j)&&(Nat.ble n0 j'&&(Nat.beq g'.ver v&&(Nat.beq g.e g'.e&&(Nat.beq g.k g'.k&&(noC j st.c&&noC j' st.c))))))
    { st with t:=st.t.set i (.gsl j (g.ver+1) T xs),g:=(st.g.set j' { g' with ver:=g'.ver+1 }).set j { g with ver:=g.ver+1 } } st
  | _,_=>st
 | .one (.gsl j T),some (.val (.slice none 0 0))=>match st.g[j]? with
  | some g=>cond (noC j st.c) { st with t:=st.t.set i (.gsl j (g.ver+1) T []),g:=st.g.set j { g with ver:=g.ver+1 } } st
  | none=>st
 | .one (.gso j),some (.gso j' v)=>match st.g[j]?,st.g[j']? with
  | some g,some g'=>cond (!(Nat.beq j' j)&&(Nat.ble n0 j'&&(Nat.beq g'.ver v&&(Nat.beq g.e g'.e&&Nat.beq g.k g'.k))))
    { st with t:=st.t.set i (.gso j (g.ver+1)),g:=(st.g.set j' { g' with ver:=g'.ver+1 }).set j { g with ver:=g.ver+1 },c:=mvC j j' st.c } st
  | _,_=>st
 | .one (.gso j),some (.val (.slice none 0 0))=>match c.rows[j]?,softTy j c.soft with
  | some (some (e,_)),some T=>cond (Nat.beq st.g.length j&&Nat.blt 0 (T.size E)) { st with t:=st.t.set i (.gso st.g.length 0),g:=st.g++[⟨0,e,T.size E⟩],c:=(st.g.length,⟨T,[]⟩)::st.c } st
  | _,_=>st
 | .one (.dat t),some (.gso j v)=>{ (hardV (.dat t) (.gso j v) st).2 with t:=st.t.set i (hardV (.dat t) (.gso j v) st).1 }
 | .one (.dat t),some (.gsb j v k lo n)=>{ (hardV (.dat t) (.gsb j v k lo n) st).2 with t:=st.t.set i (hardV (.dat t) (.gsb j v k lo n) st).1 }
 | _,_=>st
def prepL (c:Cut) (n0:Nat):List (Nat × PT)→TS E→TS E
 | [],st=>st
 | (i,p)::vs,st=>prepL c n0 vs (prepV c n0 i p st)
def Cut.pack (c:Cut) (st0 st:TS E):Option (dens E c.tys):=match c.leaves st0 (prepL c st0.g.length c.vars st) with
 | some ls=>getAll c.tys ls
 | none=>none
def Cut.un (c:Cut) (W:List Nat) (st0:TS E) (x:dens E c.tys):TS E:=c.unpack W st0 (putAll c.tys x)
def Cut.okW (c:Cut) (W:List Nat):Bool:=c.vars.all fun p=>W.elem p.1
theorem boxesPut_none (n:Rn):∀(bs:List (Option BT)) (r0:Nat) (H:List (TBox E)) (ls:List (Lf E)) (r:Nat),r<bs.length→r0+r∉chg r0 bs→r<H.length→(boxesPut n bs H ls)[r]? = H[r]?
 | [],_,_,_,_,h,_,_=>by simp at h
 | none::bs,r0,H,ls,0,_,_,h=>by cases H with | nil=>simp at h | cons x H=>simp [boxesPut]
 | none::bs,r0,H,ls,r+1,h1,h2,h3=>by
  cases H with
  | nil=>simp at h3
  | cons x H =>
   have:=boxesPut_none n bs (r0+1) H ls r (by simpa using h1) (by rw [show r0+1+r=r0+(r+1) by omega];exact h2) (by simpa using h3)
   simpa [boxesPut] using this
 | some t::bs,r0,H,ls,0,_,h2,_=>(h2 (by simp [chg])).elim
 | some t::bs,r0,H,ls,r+1,h1,h2,h3=>by
  cases H with
  | nil=>simp at h3
  | cons x H =>
   have:=boxesPut_none n bs (r0+1) H (t.put n ls).2 r (by simpa using h1) (by rw [show r0+1+r=r0+(r+1) by omega];exact fun hm=>h2 (by simp [chg,hm])) (by simpa using h3)
   simpa [boxesPut] using this
theorem placeV_keep (n:Rn):∀(vs:List (Nat × PT)) (t:List (TV E)) (ls:List (Lf E)) (i:Nat),i∉vs.map (·.1)→(placeV n vs t ls).1[i]? = t[i]?
 | [],t,ls,i,_=>rfl
 | (j,p)::vs,t,ls,i,h=>by
  simp only [List.map_cons,List.mem_cons,not_or] at h
  rw [placeV,placeV_keep n vs _ _ i h.2,List.getElem?_set_ne (fun e=>h.1 e.symm)]
theorem placeV_len (n:Rn):∀(vs:List (Nat × PT)) (t:List (TV E)) (ls:List (Lf E)),(placeV n vs t ls).1.length=t.length
 | [],t,ls=>rfl
 | (j,p)::vs,t,ls=>by rw [placeV,placeV_len n vs];simp
theorem dropT_keep (W:List Nat):∀(i:Nat) (l:List (TV E)) (j:Nat),(i+j)∉W→(dropT W i l)[j]? = l[j]?
 | _,[],j,_=>rfl
 | i,d::ds,0,h=>by
  rw [Nat.add_zero] at h
  have:W.elem i=false:=by
   cases hh:W.elem i with
   | false=>rfl
   | true=>exact (h (List.mem_of_elem_eq_true hh)).elim
  show (cond (W.elem i) TV.any d::dropT W (i+1) ds)[0]? = _
  rw [this]
  rfl
 | i,d::ds,j+1,h=>by
  have:=dropT_keep W (i+1) ds j (by rw [show i+1+j=i+(j+1) by omega];exact h)
  simpa [dropT] using this
theorem Cut.leaves_len {c:Cut} {st0 st:TS E} {ls:List (Lf E)} (h:c.leaves st0 st=some ls):st0.H.length≤c.boxes.length:=by
 unfold Cut.leaves at h
 cases hc:(below c.rows.length c.soft&&(Nat.ble st0.H.length c.boxes.length&&(Nat.ble st0.g.length c.rows.length&&rowsOk c.rows st0.g st.g)))<;>rw [hc] at h<;>simp only [cond_true,cond_false] at h
 ·cases h
 simp only [Bool.and_eq_true] at hc
 exact Nat.le_of_ble_eq_true hc.2.1
theorem Cut.unpack_fr {c:Cut} {W:List Nat} {st0 st:TS E} {ls ls':List (Lf E)} (hW:c.okW W=true) (h:c.leaves st0 st=some ls):Fr W true st0 (c.unpack W st0 ls'):=by
 have hl:=Cut.leaves_len h
 refine⟨?_,fun i hi=>?_,⟨chg 0 c.boxes,rfl,fun r hr hd=>?_⟩,?_,fun _=>rfl⟩
 ·show ((placeV _ c.vars (dropT W 0 st0.t) ls').1).length=_
  rw [placeV_len,dropT_length]
 ·show ((placeV _ c.vars (dropT W 0 st0.t) ls').1)[i]? = _
  rw [placeV_keep _ _ _ _ i (fun hm=>?_),dropT_keep W 0 st0.t i (by rw [Nat.zero_add];exact hi)]
  obtain⟨p,hp,rfl⟩:=List.mem_map.1 hm
  exact hi (List.mem_of_elem_eq_true (List.all_eq_true.1 hW p hp))
 ·exact boxesPut_none _ c.boxes 0 st0.H _ r (by omega) (by rw [Nat.zero_add];exact hd) hr
 ·show st0.H.length≤(boxesPut _ c.boxes st0.H _).length
  rw [boxesPut_length];exact hl
theorem Rel.retV {w0 w:World} {G0 G G1:Ghost} {st st1:TS E} {a:Act} (hr:Rel E w0 G0 st a w G) (hc:OnlyC st st1) (hr1:Rel E w0 G0 st1 a w G1) {i:Nat} {d d1:TV E} (hi:st.t[i]? = some d) (hv:∀v,VT E w G d v→VT E w G1 d1 v) :
  Rel E w0 G0 { st1 with t:=st.t.set i d1 } a w G1:=by
 obtain⟨c',rfl⟩:=hc
 refine⟨hr1.evol,by simpa using hr1.size,fun j d' hj=>?_,hr1.defers,hr1.boxes,hr1.fix,hr1.pins,hr1.softs⟩
 simp only [List.getElem?_set] at hj
 by_cases hij:i=j
 ·subst hij
  have hlt:i<st.t.length:=(List.getElem?_eq_some_iff.1 hi).1
  simp [hlt] at hj
  subst hj
  exact hv _ (hr.tmps i _ hi)
 ·rw [if_neg hij] at hj
  exact hr1.tmps j d' hj
theorem Rel.rerowC {w0 w:World} {G0 G:Ghost} {st:TS E} {a:Act} (h:Rel E w0 G0 st a w G) {j:Nat} {x x':TGrow} {hd hd':Value} (c':List (Nat × Cn E)) (hj:G.g[j]? = some (x,hd)) (hlt:x.ver<x'.ver) (hok:GrowOk E w G x' hd') (hsoft:∀i c,(i,c)∈c'→∃y z,(G.g.set j (x',hd'))[i]? = some (y,z)∧SoftOk E w G y z c)
  (hnew:∀b,hd'.ownBlock=some b→w0.heap.size≤b) (hap:∀(m:Nat) y z b,m≠j→G.g[m]? = some (y,z)→z.ownBlock=some b→hd'.ownBlock≠some b) :
  Rel E w0 G0 { st with g:=st.g.set j x',c:=c' } a w { G with g:=G.g.set j (x',hd') }:=by
 have hjl:j<G.g.length:=(List.getElem?_eq_some_iff.1 hj).1
 have at':∀(m:Nat) y z,(G.g.set j (x',hd'))[m]? = some (y,z)→(m=j∧y=x'∧z=hd')∨(m≠j∧G.g[m]? = some (y,z)):=by
  intro m y z hm
  by_cases e:m=j
  ·subst e
   simp [hjl] at hm
   exact .inl ⟨rfl,hm.1.symm,hm.2.symm⟩
  ·rw [List.getElem?_set_ne (fun q=>e q.symm)] at hm
   exact .inr ⟨e,hm⟩
 have hg:Goes w G w { G with g:=G.g.set j (x',hd') }:=by
  refine⟨fun _ _ h=>h,fun _ _ _ _ h=>h,fun _ _ h=>h,fun m y z hm=>?_⟩
  by_cases e:m=j
  ·subst e
   rw [hj] at hm
   cases hm
   exact⟨x',hd',by simp [hjl],Nat.le_of_lt hlt,fun e=>by omega⟩
  ·exact⟨y,z,by
    show (G.g.set j _)[m]? = _
    rw [List.getElem?_set_ne (fun q=>e q.symm)];exact hm,Nat.le_refl _,fun _=>rfl⟩
 have ev:=h.evol
 refine⟨⟨ev.os,ev.tape,ev.output,ev.size,ev.old,ev.goes.trans hg,ev.prold,ev.newB,fun m y z b hm hb=>?_⟩,h.size,fun m d hm=>(h.tmps m d hm).mono hg,h.defers.mono hg,?_,h.fix,h.pins,?_⟩
 ·rcases at' m y z hm with⟨-,-,rfl⟩ | ⟨-,hm⟩
  ·exact .inl (hnew b hb)
  ·exact ev.newG m y z b hm hb
 ·refine⟨h.boxes.len,?_,fun r b y hb hy=>(h.boxes.box r b y hb hy).mono hg rfl,h.boxes.lt,h.boxes.nodup,h.boxes.prok,fun m y z hm=>?_,fun m m' y z y' z' b hm hm' hb hb'=>?_,glob_mono hg h.boxes.glob⟩
  ·show (G.g.set j (x',hd')).map (·.1)=st.g.set j x'
   rw [List.map_set,h.boxes.gs]
  ·rcases at' m y z hm with⟨-,rfl,rfl⟩ | ⟨-,hm⟩
   ·exact hok
   ·exact h.boxes.grow m y z hm
  ·rcases at' m y z hm with⟨q1,-,q3⟩ | ⟨q1,q⟩<;>rcases at' m' y' z' hm' with⟨q1',-,q3'⟩ | ⟨q1',q'⟩
   ·rw [q1,q1']
   ·rw [q3] at hb
    exact (hap m' y' z' b q1' q' hb' hb).elim
   ·rw [q3'] at hb'
    exact (hap m y z b q1 q hb hb').elim
   ·exact h.boxes.apart m m' y z y' z' b q q' hb hb'
 ·exact fun i c hm=>hsoft i c hm
theorem Rel.rerow {w0 w:World} {G0 G:Ghost} {st:TS E} {a:Act} (h:Rel E w0 G0 st a w G) {j:Nat} {x x':TGrow} {hd hd':Value} (hj:G.g[j]? = some (x,hd)) (hlt:x.ver<x'.ver) (hok:GrowOk E w G x' hd') (hsoft:∀c,(j,c)∉st.c)
  (hnew:∀b,hd'.ownBlock=some b→w0.heap.size≤b) (hap:∀(m:Nat) y z b,m≠j→G.g[m]? = some (y,z)→z.ownBlock=some b→hd'.ownBlock≠some b) :
  Rel E w0 G0 { st with g:=st.g.set j x' } a w { G with g:=G.g.set j (x',hd') } :=
 h.rerowC st.c hj hlt hok (fun i c hm=>by
  obtain⟨y,z,q1,q2⟩:=h.softs i c hm
  have hne:i≠j:=fun e=>hsoft c (by subst e;exact hm)
  exact⟨y,z,by rw [List.getElem?_set_ne (fun q=>hne q.symm)];exact q1,q2⟩) hnew hap
theorem growOk_nil {w:World} {G:Ghost} (x:TGrow):GrowOk E w G x (.slice none 0 0) :=
 ⟨0,[],⟨by simp,.inl ⟨rfl,rfl⟩⟩,(fun a m e=>nomatch e),(fun b hb=>nomatch hb)⟩
theorem Rel.setT' {w0 w:World} {G0 G:Ghost} {st:TS E} {a:Act} (h:Rel E w0 G0 st a w G) {i:Nat} {d1:TV E} (hv:VT E w G d1 (a.tmps.getD i undef)):Rel E w0 G0 { st with t:=st.t.set i d1 } a w G:=by
 refine⟨h.evol,by simpa using h.size,fun j d' hj=>?_,h.defers,h.boxes,h.fix,h.pins,h.softs⟩
 simp only [List.getElem?_set] at hj
 by_cases hij:i=j
 ·subst hij
  rw [if_pos rfl] at hj
  split at hj
  ·cases hj;exact hv
  ·cases hj
 ·rw [if_neg hij] at hj
  exact h.tmps j d' hj
theorem prepV_ok (c:Cut) (n0:Nat) (i:Nat) (p:PT) {w0 w:World} {G0 G:Ghost} {st:TS E} {a:Act} (hn0:G0.g.length≤n0) (hr:Rel E w0 G0 st a w G):(∃G',Rel E w0 G0 (prepV c n0 i p st) a w G')∧Fr [i] true st (prepV c n0 i p st):=by
 have triv:(∃G',Rel E w0 G0 st a w G')∧Fr [i] true st st:=⟨⟨G,hr⟩,Fr.refl _ _ _⟩
 have hset:∀(d:TV E) (j:Nat),j∉[i]→(st.t.set i d)[j]? = st.t[j]?:=fun d j hj=>List.getElem?_set_ne (fun e=>hj (by simp [e]))
 have hard:∀(t:Ty) (d:TV E),st.t[i]? = some d→(∃G',Rel E w0 G0 { (hardV (.dat t) d st).2 with t:=st.t.set i (hardV (.dat t) d st).1 } a w G')∧Fr [i] true st { (hardV (.dat t) d st).2 with t:=st.t.set i (hardV (.dat t) d st).1 }:=by
  intro t d hi
  obtain⟨o1,G1,hr1,g1,v1⟩:=hardV_ok (.dat t) d hr
  refine⟨⟨G1,hr.retV o1 hr1 hi v1⟩,?_⟩
  obtain⟨c',hc'⟩:=o1
  rw [hc']
  exact⟨by simp,fun j hj=>hset _ j hj,⟨[],rfl,fun _ _ _=>rfl⟩,Nat.le_refl _,fun _=>rfl⟩
 unfold prepV
 split
 ·rename_i j T0 j' v T xs hi
  split
  ·rename_i g g' hg hg'
   generalize hb:(!(Nat.beq j' j)&&(Nat.ble n0 j'&&(Nat.beq g'.ver v&&(Nat.beq g.e g'.e&&(Nat.beq g.k g'.k&&(noC j st.c&&noC j' st.c))))))=b
   cases b
   ·exact triv
   simp only [Bool.and_eq_true,Bool.not_eq_true'] at hb
   obtain⟨b1,b2,b3,b4,b5,b6,b7⟩:=hb
   have b1:j'≠j:=fun e=>by subst e;rw [Nat.beq_refl] at b1;cases b1
   have b2:=Nat.le_of_ble_eq_true b2
   have b3:=Nat.eq_of_beq_eq_true b3
   have b4:=Nat.eq_of_beq_eq_true b4
   have b5:=Nat.eq_of_beq_eq_true b5
   obtain⟨hd,hj⟩:=hr.row_at hg
   obtain⟨hd',hj'⟩:=hr.row_at hg'
   have hv:=hr.tmps i _ hi
   have hgrow':=hr.boxes.grow j' g' hd' hj'
   have hjl:j<G.g.length:=(List.getElem?_eq_some_iff.1 hj).1
   have r1:=hr.rerow (x':={ g' with ver:=g'.ver+1 }) (hd':=.slice none 0 0) hj' (Nat.lt_succ_self _) (growOk_nil _) (noC_ok b7) (fun b hb=>nomatch hb) (fun _ _ _ _ _ _ _ hb=>nomatch hb)
   have r2:=r1.rerow (j:=j) (x:=g) (hd:=hd) (x':={ g with ver:=g.ver+1 }) (hd':=hd') (by
     show (G.g.set j' _)[j]? = _
     rw [List.getElem?_set_ne b1];exact hj) (Nat.lt_succ_self _) (by
     obtain⟨n,xs',g1,g2,g3⟩:=hgrow'
     exact⟨n,xs',by dsimp only;rw [b4,b5];exact g1,fun a m h=>by dsimp only;rw [b4];exact g2 a m h,fun b hb=>by dsimp only;rw [b5];exact g3 b hb⟩) (noC_ok b6) (fun b hb=>by
     rcases hr.evol.newG j' g' hd' b hj' hb with q | ⟨x0,h0,q,-⟩
     ·exact q
     ·have:=(List.getElem?_eq_some_iff.1 q).1;omega) (fun m y z b hm hmz hb hb'=>by
     have hmz:(G.g.set j' ({ g' with ver:=g'.ver+1 },Value.slice none 0 0))[m]? = some (y,z):=hmz
     by_cases e:m=j'
     ·subst e
      rw [List.getElem?_set_self (List.getElem?_eq_some_iff.1 hj').1] at hmz
      cases hmz
      cases hb
     ·rw [List.getElem?_set_ne (fun q=>e q.symm)] at hmz
      exact e (hr.boxes.apart m j' y z g' hd' b hmz hj' hb hb'))
   refine⟨⟨_,r2.setT' (d1:=.gsl j (g.ver+1) T xs) ?_⟩,by simp,fun q hq=>hset _ q hq,⟨[],rfl,fun _ _ _=>rfl⟩,Nat.le_refl _,fun _=>rfl⟩
   simp only [VT] at hv ⊢
   obtain⟨h1,x,h,hx,hle,heq⟩:=hv
   rw [hj'] at hx
   cases hx
   exact⟨h1,{ g with ver:=g.ver+1 },hd',by simp [hjl],Nat.le_refl _,fun _=>heq b3.symm⟩
  ·exact triv
 ·rename_i j T hi
  split
  ·rename_i g hg
   cases hb:noC j st.c
   ·exact triv
   obtain⟨hd,hj⟩:=hr.row_at hg
   have hjl:j<G.g.length:=(List.getElem?_eq_some_iff.1 hj).1
   have hv:=hr.tmps i _ hi
   simp only [VT] at hv
   have r1:=hr.rerow (x':={ g with ver:=g.ver+1 }) (hd':=.slice none 0 0) hj (Nat.lt_succ_self _) (growOk_nil _) (noC_ok hb) (fun b hb=>nomatch hb) (fun _ _ _ _ _ _ _ hb=>nomatch hb)
   refine⟨⟨_,r1.setT' (d1:=.gsl j (g.ver+1) T []) ?_⟩,by simp,fun q hq=>hset _ q hq,⟨[],rfl,fun _ _ _=>rfl⟩,Nat.le_refl _,fun _=>rfl⟩
   rw [hv]
   simp only [VT]
   exact⟨.nils _ _,{ g with ver:=g.ver+1 },.slice none 0 0,by simp [hjl],Nat.le_refl _,fun _=>rfl⟩
  ·exact triv
 ·rename_i j j' v hi
  split
  ·rename_i g g' hg hg'
   generalize hb:(!(Nat.beq j' j)&&(Nat.ble n0 j'&&(Nat.beq g'.ver v&&(Nat.beq g.e g'.e&&Nat.beq g.k g'.k))))=b
   cases b
   ·exact triv
   simp only [Bool.and_eq_true,Bool.not_eq_true'] at hb
   obtain⟨b1,b2,b3,b4,b5⟩:=hb
   have b1:j'≠j:=fun e=>by subst e;rw [Nat.beq_refl] at b1;cases b1
   have b2:=Nat.le_of_ble_eq_true b2
   have b3:=Nat.eq_of_beq_eq_true b3
   have b4:=Nat.eq_of_beq_eq_true b4
   have b5:=Nat.eq_of_beq_eq_true b5
   obtain⟨hd,hj⟩:=hr.row_at hg
   obtain⟨hd',hj'⟩:=hr.row_at hg'
   have hv:=hr.tmps i _ hi
   have hgrow':=hr.boxes.grow j' g' hd' hj'
   have hjl:j<G.g.length:=(List.getElem?_eq_some_iff.1 hj).1
   have r1:=hr.rerowC (x':={ g' with ver:=g'.ver+1 }) (hd':=.slice none 0 0) [] hj' (Nat.lt_succ_self _) (growOk_nil _) (fun _ _ h=>nomatch h) (fun b hb=>nomatch hb) (fun _ _ _ _ _ _ _ hb=>nomatch hb)
   have r2:=r1.rerowC (j:=j) (x:=g) (hd:=hd) (x':={ g with ver:=g.ver+1 }) (hd':=hd') (mvC j j' st.c) (by
     show (G.g.set j' _)[j]? = _
     rw [List.getElem?_set_ne b1];exact hj) (Nat.lt_succ_self _) (by
     obtain⟨n,xs',g1,g2,g3⟩:=hgrow'
     exact⟨n,xs',by dsimp only;rw [b4,b5];exact g1,fun a m h=>by dsimp only;rw [b4];exact g2 a m h,fun b hb=>by dsimp only;rw [b5];exact g3 b hb⟩) (fun q x hm=>by
     show ∃y z,((G.g.set j' _).set j _)[q]? = some (y,z)∧SoftOk E w G y z x
     rcases mvC_mem hm with⟨rfl,hm2⟩ | ⟨h1,h2,hm2⟩
     ·obtain⟨y,z,q1,q2⟩:=hr.softs j' x hm2
      rw [hj'] at q1
      cases q1
      refine⟨_,_,by rw [List.getElem?_set_self (by simpa using hjl)],?_⟩
      unfold SoftOk at q2 ⊢
      dsimp only
      rw [b4,b5]
      exact q2
     ·obtain⟨y,z,q1,q2⟩:=hr.softs q x hm2
      exact⟨y,z,by rw [List.getElem?_set_ne (fun e=>h1 e.symm),List.getElem?_set_ne (fun e=>h2 e.symm)];exact q1,q2⟩) (fun b hb=>by
     rcases hr.evol.newG j' g' hd' b hj' hb with q | ⟨x0,h0,q,-⟩
     ·exact q
     ·have:=(List.getElem?_eq_some_iff.1 q).1;omega) (fun m y z b hm hmz hb hb'=>by
     have hmz:(G.g.set j' ({ g' with ver:=g'.ver+1 },Value.slice none 0 0))[m]? = some (y,z):=hmz
     by_cases e:m=j'
     ·subst e
      rw [List.getElem?_set_self (List.getElem?_eq_some_iff.1 hj').1] at hmz
      cases hmz
      cases hb
     ·rw [List.getElem?_set_ne (fun q=>e q.symm)] at hmz
      exact e (hr.boxes.apart m j' y z g' hd' b hmz hj' hb hb'))
   refine⟨⟨_,r2.setT' (d1:=.gso j (g.ver+1)) ?_⟩,by simp,fun q hq=>hset _ q hq,⟨[],rfl,fun _ _ _=>rfl⟩,Nat.le_refl _,fun _=>rfl⟩
   simp only [VT] at hv ⊢
   obtain⟨x,h,hx,hle,h1,heq⟩:=hv
   rw [hj'] at hx
   cases hx
   exact⟨{ g with ver:=g.ver+1 },hd',by simp [hjl],Nat.le_refl _,h1,fun _=>heq b3.symm⟩
  ·exact triv
 ·rename_i j hi
  split
  ·rename_i e k T h1 h2
   cases hb:(Nat.beq st.g.length j&&Nat.blt 0 (T.size E))
   ·exact triv
   ·rw [Bool.and_eq_true] at hb
    exact⟨hr.adoptS hi e T (Nat.le_of_ble_eq_true hb.2),⟨by simp,fun j hj=>hset _ j hj,⟨[],rfl,fun _ _ _=>rfl⟩,Nat.le_refl _,fun _=>rfl⟩⟩
  ·exact triv
 ·rename_i hi
  exact hard _ _ hi
 ·rename_i hi
  exact hard _ _ hi
 ·exact triv
theorem prepL_ok (c:Cut) (n0:Nat) {W:List Nat} {w0 w:World} {G0:Ghost} {a:Act} (hn0:G0.g.length≤n0):∀(vs:List (Nat × PT)),(∀p∈vs,p.1∈W)→∀ {st:TS E} {G:Ghost},Rel E w0 G0 st a w G→(∃G',Rel E w0 G0 (prepL c n0 vs st) a w G')∧Fr W true st (prepL c n0 vs st)
 | [],_,st,G,hr=>⟨⟨G,hr⟩,Fr.refl _ _ _⟩
 | (i,p)::vs,hW,st,G,hr=>by
  obtain⟨⟨G1,hr1⟩,f1⟩:=prepV_ok c n0 i p hn0 hr
  obtain⟨h2,f2⟩:=prepL_ok c n0 hn0 vs (fun q hq=>hW q (by simp [hq])) hr1
  exact⟨h2,Fr.trans f1 f2 (fun j hj=>by simp at hj;subst hj;exact hW (j,p) (by simp)) (fun j hj=>hj) (fun h=>⟨rfl,h⟩)⟩
theorem cut_step (hE:E.Ok) {c:Cut} {W:List Nat} {w0 w:World} {G0 G:Ghost} {st0 st:TS E} {a:Act} {x:dens E c.tys} (hp:Pre G0 st0) (hr:Rel E w0 G0 st a w G) (hF:Fr W true st0 st) (hW:c.okW W=true) (h:c.pack st0 st=some x) :
  (∃G2,Rel E w0 G0 (c.un W st0 x) a w G2)∧Fr W true st0 (c.un W st0 x):=by
 unfold Cut.pack at h
 split at h<;>try (cases h;done)
 rename_i ls hls
 obtain⟨⟨G1,hr⟩,hF1⟩:=prepL_ok (W:=W) c st0.g.length (by
  rcases Nat.lt_or_ge st0.g.length G0.g.length with hlt | hge
  ·obtain⟨x,hx,-⟩:=hp.rows st0.g.length _ _ (List.getElem?_eq_getElem hlt)
   rw [List.getElem?_eq_none (Nat.le_refl _)] at hx;cases hx
  ·exact hge) c.vars (fun p hp=>List.mem_of_elem_eq_true (List.all_eq_true.1 hW p hp)) hr
 have hF:=Fr.trans (W:=W) (n:=true) hF hF1 (fun _ h=>h) (fun _ h=>h) (fun h=>⟨h,h⟩)
 obtain⟨D,hD,hH⟩:=hF.d
 obtain⟨G2,hR,-⟩:=Rel.cut hE (W:=W) hp hr hF.len hF.keep hD hH (hF.df rfl) hls
 have hput:=getAll_ok _ h
 unfold Cut.un
 rw [hput]
 exact⟨⟨G2,hR⟩,Cut.unpack_fr hW hls⟩
def qopT {R:Type} (X:Cx E) (st:TS E) (o:Oper) (k:TS E→Option R):Option R :=
 match evalA X.P X.ty st o.op with
 | some (c,d)=>rqP (plainOp st o.op) c (k { st with t:=setT st.t o.dst d })
 | none=>match o.op with
  | .pick c x y=>match st.ev c with
   | .dat .bool b=>cond b (k { st with t:=setT st.t o.dst (st.ev x) }) (k { st with t:=setT st.t o.dst (st.ev y) })
   | _=>none
  | _=>none
def qld (P:Program) (st:TS E):Op→Option (Bool × TV E)
 | .load t x=>match tinfo P t,st.ev x with
  | some i,.rptr j ver k ix off=>match st.g[j]?,cGet st.c j with
   | some g,some c=>match TV.part c.1 (c.2.getD ix (c.1.dflt E)) i.isAgg i.size off with
    | some d=>some (Nat.beq g.ver ver&&Nat.beq k (c.1.size E),d)
    | none=>none
   | _,_=>none
  | _,_=>none
 | _=>none
def qopU {R:Type} (X:Cx E) (st:TS E) (o:Oper) (k:TS E→Option R):Option R :=
 match qld X.P st o.op with
 | some (c,d)=>rqP (plainOp st o.op) c (k { st with t:=setT st.t o.dst d })
 | none=>qopT X st o k
def quietT {R:Type} (X:Cx E) (all:Array Oper):List Oper→TS E→(TS E→Option R)→Option R
 | [],st,k=>k st
 | o::rest,st,k=>match o.guard with
  | none=>qopU X st o (fun st'=>quietT X all rest st' k)
  | some (j,want)=>match (all[j]?).bind (·.dst) with
   | some t=>match st.at t with
    | .dat .bool b=>cond b
      (cond want (qopU X { st with t:=st.t.set t (.dat .bool true) } o (fun st'=>quietT X all rest st' k))
       (quietT X all rest { st with t:=setT (st.t.set t (.dat .bool true)) o.dst (.val undef) } k))
      (cond want (quietT X all rest { st with t:=setT (st.t.set t (.dat .bool false)) o.dst (.val undef) } k)
       (qopU X { st with t:=st.t.set t (.dat .bool false) } o (fun st'=>quietT X all rest st' k)))
    | .val (.bool _)=>none
    | .val _=>quietT X all rest { st with t:=setT st.t o.dst (.val undef) } k
    | _=>none
   | none=>none
def noLoad (ops:Array Oper) (i:Nat):Bool:=match ops[i]? with
 | some o=>!(isLoad o.op)
 | none=>false
def takes (ops:Array Oper) (hi:Nat):Nat→Nat→Bool
 | _,0=>true
 | i,m+1=>(Region.free .any ops (pre ops.size i) i&&(Region.ready .any ops (pre ops.size i)).contains i&&(noLoad ops i||(List.range' hi (ops.size - hi)).all (fun j=>waits ops ops.size j i)))&&takes ops hi (i+1) m
def backward (ops:Array Oper):Bool:=(List.range ops.size).all fun j=>match ops[j]? with
 | some o=>o.after.all fun e=>!(Region.binds .any e)||Nat.blt e.on j
 | none=>true
structure DSeg where
 q:Bool
 m:Nat
 c:Option Cut
noncomputable def segD {R:Type} (X:Cx E) (l:List Oper) (i:Nat) (q:Bool) (m:Nat) (st:TS E) (k:TS E→Option R):Option R :=
 cond q (rq ((Region.noSelect l.toArray&&backward l.toArray&&takes l.toArray (i+m) i m)&&Nat.ble (i+m) l.length) (quietT X l.toArray ((l.drop i).take m) st k))
  (rq (forced l.toArray i m&&Nat.ble (i+m) l.length) (opsT X l.toArray ((l.drop i).take m) st (thenK k fun _ _=>none)))
noncomputable def drawT {R:Type} (X:Cx E) (l:List Oper):Nat→List DSeg→TS E→(TS E→Option R)→Option R
 | i,[],st,k=>cond (Nat.beq i l.length) (k st) none
 | i,s::ss,st,k=>match s.c with
  | none=>segD X l i s.q s.m st (fun st'=>drawT X l (i+s.m) ss st' k)
  | some c=>rq (c.okW (wrL l.toArray ((l.drop i).take s.m))&&noDefL l) ((segD X l i s.q s.m st (fun st'=>c.pack st st')).bind fun x=>drawT X l (i+s.m) ss (c.un (wrL l.toArray ((l.drop i).take s.m)) st x) k)
section
variable {X : Cx E} {st : TS E}
def onlyN (Q:TS E→Prop):Ex E→TS E→Prop:=fun x s=>x=.normal∧Q s
theorem CPost.onlyN {w0:World} {G0:Ghost} {e:Exit} {a:Act} {w:World} {R:TS E→Prop} (h:CPost E w0 G0 (fun x s=>x=.normal∧R s) e a w):e=.normal:=by
 obtain⟨x,s,G,he,_,rfl,_⟩:=h
 cases e<;>first | rfl | exact he.elim
def ADraw (w0:World) (G0:Ghost) (P:Program) (ops:Array Oper) (i:Nat) (st:TS E) (Q:TS E→Prop):Prop :=
 ∀a w G,Rel E w0 G0 st a w G→wpAny P .any ops (CPost E w0 G0 (onlyN Q)) (ops.size - i) (pre ops.size i) a w
theorem ADraw.done {w0:World} {G0:Ghost} {P:Program} {l:List Oper} {Q:TS E→Prop} (i:Nat) (hi:i=l.length) (h:Q st):ADraw w0 G0 P l.toArray i st Q:=by
 subst hi
 intro a w G hr
 have:l.toArray.size - l.length=0:=by simp
 rw [this]
 refine⟨?_,.normal,st,G,trivial,hr,rfl,h⟩
 apply List.eq_nil_iff_forall_not_mem.2
 intro j hj
 obtain⟨h1,o,ho,_⟩:=mem_ready.1 hj
 have hlt:j<l.length:=by simpa using (Array.getElem?_eq_some_iff.1 ho).1
 rw [pre_get_lt hlt (by simpa using hlt)] at h1
 cases h1
theorem seg_get {l:List Oper} {i m:Nat} (hm:i+m≤l.length) (k:Nat) (hk:k<((l.drop i).take m).length):l.toArray[i+k]? = ((l.drop i).take m)[k]?:=by
 have hk':k<m:=by simp at hk;omega
 simp [hk',List.getElem?_drop]
theorem closed_pre {ops:Array Oper} (h:backward ops=true) (i:Nat):Closed ops (pre ops.size i):=by
 intro j o ho hj e he hb
 have hlt:j<ops.size:=(Array.getElem?_eq_some_iff.1 ho).1
 have h1:=List.all_eq_true.1 h j (List.mem_range.2 hlt)
 simp only [ho] at h1
 have h2:=Array.all_eq_true_iff_forall_mem.1 h1 e he
 simp only [hb,Bool.not_true,Bool.false_or] at h2
 have h3:=blt_iff.1 h2
 have hji:j<i:=by
  rcases Nat.lt_or_ge j i with h' | h'
  ·exact h'
  ·have:=pre_get h' hlt
   rw [Array.getD_eq_getD_getElem?] at this hj
   cases hx:(pre ops.size i)[j]? with
   | none=>rw [hx] at this;cases this
   | some b=>rw [hx] at this hj;simp at this hj;rw [this] at hj;cases hj
 exact pre_get_lt (by omega) (by omega) false
theorem qopT_sound {R:Type} (hX:X.Ok) {o:Oper} {k:TS E→Option R} {r:R} (h:qopT X st o k=some r) {w0 w:World} {G0 G:Ghost} {a:Act} (hr:Rel E w0 G0 st a w G) :
  ∃v st',(∀w',SameL o w w'→(execOp a.eval o).run X.P w'=.ok (.value v) w')∧Rel E w0 G0 st' (a.put o.dst v) w G∧k st'=some r∧Fr (dstL o.dst) true st st':=by
 unfold qopT at h
 split at h
 ·rename_i pc pd hp
  obtain⟨h1,h2⟩:=rqP_some h
  obtain⟨v,hv,hrun⟩:=evalA_sound (P:=X.P) hX.E hr hp h1
  exact⟨v,_,hrun,hr.put hv o.dst,h2,Fr.put _ _ _⟩
 ·split at h<;>try (cases h;done)
  rename_i c x y ho
  split at h<;>try (cases h;done)
  rename_i b hb
  have hv:=hr.ev c
  rw [hb] at hv
  have hv:=hv.bool_inv
  have hrun:∀w',(execOp a.eval o).run X.P w'=.ok (.value (if b then a.eval x else a.eval y)) w':=fun w'=>by
   simp [execOp,ho,hv,asBool]
  cases b<;>simp only [cond_true,cond_false] at h
  ·exact⟨a.eval y,_,fun w' _=>hrun w',hr.put (hr.ev y) o.dst,h,Fr.put _ _ _⟩
  ·exact⟨a.eval x,_,fun w' _=>hrun w',hr.put (hr.ev x) o.dst,h,Fr.put _ _ _⟩
theorem qopU_sound {R:Type} (hX:X.Ok) {o:Oper} {k:TS E→Option R} {r:R} (h:qopU X st o k=some r) {w0 w:World} {G0 G:Ghost} {a:Act} (hr:Rel E w0 G0 st a w G) :
  ∃v st',(∀w',SameL o w w'→(execOp a.eval o).run X.P w'=.ok (.value v) w')∧Rel E w0 G0 st' (a.put o.dst v) w G∧k st'=some r∧Fr (dstL o.dst) true st st':=by
 unfold qopU at h
 split at h
 ·rename_i pc pd hp
  obtain⟨h1,h2⟩:=rqP_some h
  cases ho:o.op<;>rw [ho] at hp<;>try (cases hp;done)
  rename_i t x
  simp only [qld] at hp
  split at hp<;>try (cases hp;done)
  rename_i i j ver k' ix off ht hx
  split at hp<;>try (cases hp;done)
  rename_i g c hg hc
  split at hp<;>try (cases hp;done)
  rename_i d hpart
  cases hp
  rw [Bool.and_eq_true] at h1
  obtain rfl:=Nat.eq_of_beq_eq_true h1.1
  obtain⟨v,hv,hrun⟩:=gives_load_rptr hX.E hr ho ht hx hg hc (Nat.eq_of_beq_eq_true h1.2) hpart
  exact⟨v,_,hrun,hr.put hv o.dst,h2,Fr.put _ _ _⟩
 ·exact qopT_sound hX h hr
theorem quiet_sound {R:Type} (hX:X.Ok) {l:List Oper} {i m:Nat} {k:TS E→Option R} {r:R} {Q:TS E→Prop} (hs:(Region.noSelect l.toArray&&backward l.toArray&&takes l.toArray (i+m) i m)=true) (hm:i+m≤l.length)
  (h:quietT X l.toArray ((l.drop i).take m) st k=some r) {w0 w:World} {G0 G:Ghost} {a:Act} (hrest:∀st',k st'=some r→Fr (wrL l.toArray ((l.drop i).take m)) true st st'→ADraw w0 G0 X.P l.toArray (i+m) st' Q) (hr:Rel E w0 G0 st a w G) :
  wpAny X.P .any l.toArray (CPost E w0 G0 (onlyN Q)) (l.toArray.size - i) (pre l.toArray.size i) a w:=by
 simp only [Bool.and_eq_true] at hs
 obtain⟨⟨hns,hbk⟩,htk⟩:=hs
 refine wpAny_of_S (S:=fun w'=>Same w w') (lo:=i) (hi:=i+m) _ _ _ _ ?_
 have hQp:∀c a w,¬ CPost E w0 G0 (onlyN Q) (.panic c) a w:=fun c a w hp=>by have:=CPost.onlyN hp;cases this
 have hlen:((l.drop i).take m).length=m:=by simp;omega
 have key:∀(seg:List Oper) (q:Nat) (s:TS E) (a:Act),(∀k,k<seg.length→l.toArray[q+k]? = seg[k]?)→q+seg.length=i+m→i≤q→takes l.toArray (i+m) q seg.length=true →
   Rel E w0 G0 s a w G→quietT X l.toArray seg s k=some r→(∀st',k st'=some r→Fr (wrL l.toArray seg) true s st'→ADraw w0 G0 X.P l.toArray (i+m) st' Q) →
   wpAnyS X.P l.toArray (CPost E w0 G0 (onlyN Q)) (fun w'=>Same w w') i (i+m) (l.toArray.size - q) (pre l.toArray.size q) a w:=by
  intro seg
  induction seg with
  | nil =>
   intro q s a hsg hq hiq _ hr h hrest
   have hq:q=i+m:=by simpa using hq
   subst hq
   refine S_of_wpAny _ _ _ _ (fun k h1 h2=>pre_get_lt h2 (by simp;omega) true) ?_
   exact hrest s h (Fr.refl _ _ _) a w G hr
  | cons o seg ih =>
   intro q s a hsg hq hiq ht hr h hrest
   simp only [List.length_cons] at hq ht
   simp only [takes,Bool.and_eq_true] at ht
   obtain⟨⟨⟨hfr,hrd⟩,hwt⟩,ht'⟩:=ht
   have hoq:l.toArray[q]? = some o:=by simpa using hsg 0 (by simp)
   have hsg':∀k,k<seg.length→l.toArray[(q+1)+k]? = seg[k]?:=fun k hk=>by
    have:=hsg (k+1) (by simpa using hk)
    rw [show q+1+k=q+(k+1) by omega]
    simpa using this
   rw [show l.toArray.size - q=(l.toArray.size - (q+1))+1 by simp;omega]
   have first:∀v,YieldsIf X.P l.toArray (fun w'=>SameL o w w') o v a→wpAnyS X.P l.toArray (CPost E w0 G0 (onlyN Q)) (fun w'=>Same w w') i (i+m) (l.toArray.size - (q+1)) (pre l.toArray.size (q+1)) (a.put o.dst v) w →
     wpAnyS X.P l.toArray (CPost E w0 G0 (onlyN Q)) (fun w'=>Same w w') i (i+m) ((l.toArray.size - (q+1))+1) (pre l.toArray.size q) a w:=fun v hy hh=>by
    simp only [Bool.or_eq_true] at hwt
    rcases hwt with hnl | hwt
    ·have hnl':isLoad o.op=false:=by
      unfold noLoad at hnl
      rw [hoq] at hnl
      simpa using hnl
     refine wpAnyS_free (v:=v) hoq (Region.noSelect_spec hns) (fun c a w hp=>(hQp _ _ _ hp).elim) _ _ a w (Region.free_spec hoq hfr) (by simpa using hrd) ?_ ?_
     ·rcases hy with⟨h1,h2⟩ | hy
      ·exact .inl ⟨h1,fun w' _=>h2 w' (fun hl=>by rw [hnl'] at hl;cases hl)⟩
      ·exact .inr hy
     ·rw [pre_succ];exact hh
    refine wpAnyS_first (v:=v) hoq (Region.noSelect_spec hns) (fun c a w hp=>(hQp _ _ _ hp).elim) (fun j h1 h2=>?_) _ _ a w (closed_pre hbk q) (fun k h1 h2=>pre_get_lt (by omega) h2 true) (Region.free_spec hoq hfr) (by simpa using hrd) ?_ (Same.refl w) ?_
    rotate_left
    ·rcases hy with⟨h1,h2⟩ | hy
     ·exact .inl ⟨h1,fun w' hs=>h2 w' (fun _=>hs)⟩
     ·exact .inr hy
    rotate_left
    ·exact List.all_eq_true.1 hwt j (by rw [List.mem_range'_1];omega)
    ·rw [pre_succ];exact hh
   have run:∀(s1:TS E),Fr (guardT l.toArray o) true s s1→Rel E w0 G0 s1 a w G→Region.wanted o (yielded l.toArray a.tmps)=true→qopU X s1 o (fun st'=>quietT X l.toArray seg st' k)=some r →
     wpAnyS X.P l.toArray (CPost E w0 G0 (onlyN Q)) (fun w'=>Same w w') i (i+m) ((l.toArray.size - (q+1))+1) (pre l.toArray.size q) a w:=by
    intro s1 f0 hr1 hw h1
    obtain⟨v,s2,hrun,hr2,h2,f1⟩:=qopU_sound hX h1 hr1
    refine first v (.inl ⟨hw,hrun⟩) (ih (q+1) s2 _ hsg' (by omega) (by omega) ht' hr2 h2 (fun st' hk f2=>hrest st' hk ?_))
    exact (f0.trans f1 (W:=dstL o.dst++guardT l.toArray o) (n:=true) (fun i hi=>by simp [hi]) (fun i hi=>by simp [hi]) (fun h=>⟨rfl,rfl⟩)).trans f2 (fun i hi=>by
     simp only [wrL,List.mem_append] at hi ⊢;rcases hi with hi | hi<;>simp [hi]) (fun i hi=>by simp [wrL,hi]) (fun h=>⟨rfl,rfl⟩)
   have skip:∀(s1:TS E),Fr (guardT l.toArray o) true s s1→Rel E w0 G0 s1 a w G→Region.wanted o (yielded l.toArray a.tmps)=false→quietT X l.toArray seg { s1 with t:=setT s1.t o.dst (.val undef) } k=some r →
     wpAnyS X.P l.toArray (CPost E w0 G0 (onlyN Q)) (fun w'=>Same w w') i (i+m) ((l.toArray.size - (q+1))+1) (pre l.toArray.size q) a w:=by
    intro s1 f0 hr1 hw h1
    have hr2:=hr1.put (v:=undef) (d:=.val undef) (by simp only [VT]) o.dst
    refine first undef (.inr ⟨hw,rfl⟩) (ih (q+1) _ _ hsg' (by omega) (by omega) ht' hr2 h1 (fun st' hk f2=>hrest st' hk ?_))
    exact (f0.trans (Fr.put s1 o.dst (.val undef)) (W:=dstL o.dst++guardT l.toArray o) (n:=true) (fun i hi=>by simp [hi]) (fun i hi=>by simp [hi]) (fun h=>⟨rfl,rfl⟩)).trans f2 (fun i hi=>by
     simp only [wrL,List.mem_append] at hi ⊢;rcases hi with hi | hi<;>simp [hi]) (fun i hi=>by simp [wrL,hi]) (fun h=>⟨rfl,rfl⟩)
   simp only [quietT] at h
   split at h
   ·rename_i hg
    exact run s (Fr.refl _ _ _) hr (by simp [Region.wanted,hg]) h
   ·rename_i j want hg
    split at h<;>try (cases h;done)
    rename_i t htt
    have hgt:guardT l.toArray o=[t]:=by unfold guardT;rw [hg];simp only [htt]
    split at h<;>try (cases h;done)
    ·rename_i b hb
     obtain⟨hw,hbv⟩:=wanted_bool hr hg htt hb
     have hl:=hr.lit hbv
     have hfl:Fr (guardT l.toArray o) true s { s with t:=s.t.set t (.dat .bool b) }:=by rw [hgt];exact Fr.lit s t _
     cases b<;>cases want<;>simp only [cond_true,cond_false] at h
     ·exact run _ hfl hl (by rw [hw];rfl) h
     ·exact skip _ hfl hl (by rw [hw];rfl) h
     ·exact skip _ hfl hl (by rw [hw];rfl) h
     ·exact run _ hfl hl (by rw [hw];rfl) h
    ·rename_i u hnb hu
     exact skip s (Fr.refl _ _ _) hr (wanted_val hr hg htt hu (fun b e=>hnb b e)) h
 exact key _ i st a (seg_get hm) (by rw [hlen]) (Nat.le_refl _) (by rw [hlen];exact htk) hr h hrest
theorem segD_sound {R:Type} (hX:X.Ok) {l:List Oper} {i m:Nat} {q:Bool} {k:TS E→Option R} {r:R} {Q:TS E→Prop} {w0:World} {G0:Ghost} (h:segD X l i q m st k=some r)
  (hrest:∀st',k st'=some r→Fr (wrL l.toArray ((l.drop i).take m)) (noDefL ((l.drop i).take m)) st st'→ADraw w0 G0 X.P l.toArray (i+m) st' Q):ADraw w0 G0 X.P l.toArray i st Q:=by
 intro a w G hr
 unfold segD at h
 cases q<;>simp only [cond_true,cond_false] at h
 ·obtain⟨h1,h2⟩:=rq_some h
  rw [Bool.and_eq_true] at h1
  have hm:=Nat.le_of_ble_eq_true h1.2
  have hlen:((l.drop i).take m).length=m:=by simp;omega
  have key:=wpAny_seg (P:=X.P) (Q':=CPost E w0 G0 (onlyN Q)) ((l.drop i).take m) i (l.toArray.size - (i+m)) (seg_get hm) (by rw [hlen];exact h1.1) a w (opsT_sound hX h2 w0 G0 a w G hr) (fun e a w hp=>?_)
  ·rw [hlen] at key
   rwa [show m+(l.toArray.size - (i+m))=l.toArray.size - i by simp;omega] at key
  ·obtain⟨x,s,G',he,hr',hk,hf⟩:=hp
   cases x with
   | normal =>
    refine⟨by cases e<;>first | rfl | exact he.elim,?_⟩
    rw [hlen]
    exact hrest s hk hf a w G' hr'
   | _=>cases hk
 ·obtain⟨h1,h2⟩:=rq_some h
  rw [Bool.and_eq_true] at h1
  exact quiet_sound hX h1.1 (Nat.le_of_ble_eq_true h1.2) h2 (fun st' hk hf=>hrest st' hk (hf.wide (fun _ h=>h) (fun _=>rfl))) hr
theorem ADraw.mono {w0:World} {G0:Ghost} {P:Program} {ops:Array Oper} {i:Nat} {Q Q':TS E→Prop} (hq:∀s,Q s→Q' s) (h:ADraw w0 G0 P ops i st Q):ADraw w0 G0 P ops i st Q':=by
 intro a w G hr
 have key:∀(fuel:Nat) (listed:Array Bool) (a:Act) (w:World) {Q1 Q2:Exit→Act→World→Prop},(∀e a w,Q1 e a w→Q2 e a w)→wpAny P .any ops Q1 fuel listed a w→wpAny P .any ops Q2 fuel listed a w:=by
  intro fuel
  induction fuel with
  | zero=>intro listed a w Q1 Q2 hq h;exact⟨h.1,hq _ _ _ h.2⟩
  | succ fuel ih =>
   intro listed a w Q1 Q2 hq h
   refine⟨fun he=>hq _ _ _ (h.1 he),fun i hi=>?_⟩
   have h1:=h.2 i hi
   unfold wpOp at h1 ⊢
   split
   ·rename_i ho;rw [ho] at h1;exact ih _ _ _ hq h1
   ·rename_i o ho
    rw [ho] at h1
    simp only at h1
    split
    ·rename_i hw
     rw [if_pos hw] at h1
     rcases h1 with h1 | ⟨h1,a1,w1,h2⟩
     ·exact .inl (upon_mono (fun a w h=>ih _ a w hq h) hq h1)
     ·exact .inr ⟨h1,a1,w1,hq _ _ _ h2⟩
    ·rename_i hw
     rw [if_neg hw] at h1
     exact ih _ _ _ hq h1
 exact key _ _ _ _ (fun e a w hp=>CPost.mono (fun x s hh=>⟨hh.1,hq _ hh.2⟩) hp) (h a w G hr)
theorem wrL_sub {all:Array Oper}:∀(l:List Oper) (a b:Nat) (i:Nat),i∈wrL all ((l.drop a).take b)→i∈wrL all l
 | [],a,b,i,h=>by simp at h;exact h
 | o::l,0,0,i,h=>by simp [wrL] at h
 | o::l,0,b+1,i,h=>by
  simp only [List.drop_zero,List.take_succ_cons,wrL,List.mem_append] at h ⊢
  rcases h with h | h | h
  ·exact .inl h
  ·exact .inr (.inl h)
  ·exact .inr (.inr (wrL_sub l 0 b i (by simpa using h)))
 | o::l,a+1,b,i,h=>by
  simp only [wrL,List.mem_append]
  exact .inr (.inr (wrL_sub l a b i (by simpa using h)))
theorem noDefL_sub:∀(l:List Oper) (a b:Nat),noDefL l=true→noDefL ((l.drop a).take b)=true
 | [],a,b,h=>by simp [noDefL]
 | o::l,0,0,h=>by simp [noDefL]
 | o::l,0,b+1,h=>by
  simp only [noDefL,Bool.and_eq_true] at h
  simp only [List.drop_zero,List.take_succ_cons,noDefL,Bool.and_eq_true]
  exact⟨h.1,by simpa using noDefL_sub l 0 b h.2⟩
 | o::l,a+1,b,h=>by
  simp only [noDefL,Bool.and_eq_true] at h
  simpa using noDefL_sub l a b h.2
theorem drawT_sound {R:Type} (hX:X.Ok) {l:List Oper} {k:TS E→Option R} {r:R} {w0:World} {G0:Ghost}:∀(ss:List DSeg) (i:Nat) {st:TS E},drawT X l i ss st k=some r →
  ADraw w0 G0 X.P l.toArray i st (fun st'=>k st'=some r∧Fr (wrL l.toArray l) (noDefL l) st st')
 | [],i,st,h=>by
  simp only [drawT] at h
  cases hi:Nat.beq i l.length<;>rw [hi] at h<;>simp only [cond_true,cond_false] at h
  ·cases h
  exact ADraw.done i (Nat.eq_of_beq_eq_true hi) ⟨h,Fr.refl _ _ _⟩
 | s::ss,i,st,h=>by
  simp only [drawT] at h
  split at h
  ·refine segD_sound hX h fun st' hk hf=>?_
   refine ADraw.mono (fun s' hh=>⟨hh.1,hf.trans hh.2 (fun j hj=>wrL_sub l i s.m j hj) (fun j hj=>hj) (fun hn=>⟨noDefL_sub l i s.m hn,hn⟩)⟩) (drawT_sound hX ss (i+s.m) hk)
  ·rename_i c hc
   obtain⟨h1,h2⟩:=rq_some h
   rw [Bool.and_eq_true] at h1
   cases hs:segD X l i s.q s.m st (fun st'=>c.pack st st') with
   | none=>rw [hs] at h2;cases h2
   | some x =>
    rw [hs] at h2
    dsimp only [Option.bind] at h2
    intro a w G hr
    have hpre:=hr.pre
    refine segD_sound hX hs (fun st' hk hf=>?_) a w G hr
    intro a' w' G' hr'
    obtain⟨⟨G2,hR⟩,hF⟩:=cut_step hX.E hpre hr' (hf.wide (fun _ h=>h) (fun _=>noDefL_sub l i s.m h1.2)) h1.1 hk
    exact ADraw.mono (fun s' hh=>⟨hh.1,hF.trans hh.2 (fun j hj=>wrL_sub l i s.m j hj) (fun j hj=>hj) (fun hn=>⟨rfl,hn⟩)⟩) (drawT_sound hX ss (i+s.m) h2) a' w' G2 hR
theorem draw_sound {R:Type} (hX:X.Ok) {id:Nat} {ops:Array Oper} {ss:List DSeg} {k:TS E→Option R} {r:R} (h:drawT X ops.toList 0 ss st k=some r) :
  AWp E X.P (.region id ops true) st (fun x st'=>x=.normal∧k st'=some r∧Fr (wrL ops ops.toList) (noDefL ops.toList) st st'):=by
 intro w0 G0 a w G hr
 have hs:Same w { w with drawn:=w.drawn+1 }:=⟨Nat.le_refl _,fun _ _=>rfl⟩
 have hr':=hr.grow (w':={ w with drawn:=w.drawn+1 }) hs rfl rfl rfl G.pr (fun _ _ h=>h) (fun _ _ _ h=>h) (fun b o hp=>Nat.lt_of_lt_of_le (hr.boxes.prok b o hp).1 hs.1)
 have h1:=drawT_sound hX (w0:=w0) (G0:=G0) ss 0 h a _ _ hr'
 simp only [Array.toArray_toList] at h1
 refine wp_region_any hX.mix ?_
 rw [pre_zero]
 exact h1
theorem Evol.trans {w0 w1 w2:World} {G0 G1 G2:Ghost} (h:Evol w0 G0 w1 G1) (h':Evol w1 G1 w2 G2):Evol w0 G0 w2 G2:=by
 have foot:∀b,b<w0.heap.size→G1.foot b→G0.foot b:=by
  intro b hb hf
  rcases hf with hf | ⟨x,hd,hm,hbk⟩
  ·obtain⟨q,hq,he⟩:=List.getElem_of_mem hf
   have hqb:G1.i[q]? = some b:=by rw [←he];exact List.getElem?_eq_getElem hq
   by_cases hql:q<G0.i.length
   ·have e1:=h.goes.i q _ (List.getElem?_eq_getElem hql)
    rw [hqb] at e1
    exact .inl (by rw [Option.some.inj e1];exact List.getElem_mem hql)
   ·have:=h.newB q b (by omega) hqb;omega
  ·obtain⟨j,hj,he⟩:=List.getElem_of_mem hm
   rcases h.newG j x hd b (by rw [←he];exact List.getElem?_eq_getElem hj) hbk with q | ⟨x0,h0,q1,q2⟩
   ·omega
   ·exact .inr ⟨x0,h0,List.mem_of_getElem? q1,q2⟩
 refine⟨h'.os.trans h.os,h'.tape.trans h.tape,h'.output.trans h.output,Nat.le_trans h.size h'.size,fun b hb hn=>(h'.old b (Nat.lt_of_lt_of_le hb h.size) (fun hf=>hn (foot b hb hf))).trans (h.old b hb hn),h.goes.trans h'.goes,fun b o hb hp=>?_,fun r b h1 h2=>?_,fun j x hd b hj hbk=>?_⟩
 ·rcases h'.prold b o (Nat.lt_of_lt_of_le hb h.size) hp with q | ⟨x,hd,hm,hbk⟩
  ·exact h.prold b o hb q
  ·obtain⟨j,hj,he⟩:=List.getElem_of_mem hm
   rcases h.newG j x hd b (by rw [←he];exact List.getElem?_eq_getElem hj) hbk with q | ⟨x0,h0,q1,q2⟩
   ·omega
   ·exact .inr ⟨x0,h0,List.mem_of_getElem? q1,q2⟩
 ·by_cases hr:r<G1.i.length
  ·have e1:=h'.goes.i r _ (List.getElem?_eq_getElem hr)
   rw [h2] at e1
   exact h.newB r b h1 (by rw [Option.some.inj e1];exact List.getElem?_eq_getElem hr)
  ·exact Nat.le_trans h.size (h'.newB r b (by omega) h2)
 ·rcases h'.newG j x hd b hj hbk with q | ⟨x0,h0,q1,q2⟩
  ·exact .inl (Nat.le_trans h.size q)
  ·exact h.newG j x0 h0 b q1 q2
theorem Rel.root {w0 w:World} {G0 G:Ghost} {a:Act} (h:Rel E w0 G0 st a w G):Rel E w G { st with d:=[] } a w G :=
 ⟨Evol.refl w G,h.size,h.tmps,h.defers,h.boxes,fun _ _ _ _=>rfl,h.pinsAt,h.softs⟩
theorem Rel.unroot {w0 w w':World} {G0 G G':Ghost} {a a':Act} {st':TS E} (h:Rel E w0 G0 st a w G) (h':Rel E w G st' a' w' G'):Rel E w0 G0 { st' with d:=st'.d++st.d } a' w' G' :=
 ⟨h.evol.trans h'.evol,h'.size,h'.tmps,h'.defers,h'.boxes,fun r b hb hd=>by
  have hd:r∉st'.d++st.d:=hd
  rw [List.mem_append,not_or] at hd
  exact (h'.fix r b (h.evol.goes.i r b hb) hd.1).trans (h.fix r b hb hd.2),h.pins,h'.softs⟩
theorem Fr.unroot {W:List Nat} {nd:Bool} {st':TS E} (h:Fr W nd { st with d:=[] } st'):Fr W nd st { st' with d:=st'.d++st.d }:=by
 obtain⟨D,hD,hH⟩:=h.d
 simp only [List.append_nil] at hD
 exact⟨h.len,h.keep,⟨D,by rw [hD],hH⟩,h.hl,h.df⟩
def Pin (ws:World) (Gs:Ghost) (R:List Nat) (w':World):Prop :=
 (∀r b,r∈R→Gs.i[r]? = some b→w'.heap[b]? = ws.heap[b]?)∧∀b o u,Gs.pr b o→ws.cell? ⟨b,o,none⟩=some u→w'.cell? ⟨b,o,none⟩=some u
def pinned (R:List Nat) (st:TS E):Bool:=R.all fun r=>!(st.d.elem r)
theorem Rel.pin {ws w:World} {Gs G:Ghost} {a:Act} {R:List Nat} (h:Rel E ws Gs st a w G) (hR:pinned R st=true):Pin ws Gs R w :=
 ⟨fun r b hr hb=>h.fix r b hb (fun hm=>by
  have:=List.all_eq_true.1 hR r hr
  rw [List.elem_eq_true_of_mem hm] at this;cases this),h.evol.goes.cells⟩
def loadOk (R:List Nat) (first:Bool) (st:TS E):Op→Bool
 | .load _ x=>match st.ev x with
  | .ptr r _=>R.elem r
  | .cel _ _ _=>first
  | _=>false
 | _=>true
def wpAnyP (P:Program) (ops:Array Oper) (Q:Exit→Act→World→Prop) (S:World→Prop) (Z:List Nat):Nat→Array Bool→Act→World→Prop
 | 0,listed,a,w=>Region.ready .any ops listed=[]∧Q .normal a w
 | fuel+1,listed,a,w =>
  (Region.ready .any ops listed=[]→Q .normal a w) ∧
  ∀i∈Region.ready .any ops listed,wpOp P ops Q i (fun a' w'=>(Z.elem i=false→S w')∧wpAnyP P ops Q S Z fuel (listed.setIfInBounds i true) a' w') a w
theorem wpAny_of_P {P:Program} {ops:Array Oper} {Q:Exit→Act→World→Prop} {S:World→Prop} {Z:List Nat}:∀(fuel:Nat) (listed:Array Bool) (a:Act) (w:World),wpAnyP P ops Q S Z fuel listed a w→wpAny P .any ops Q fuel listed a w
 | 0,_,_,_,h=>h
 | fuel+1,_,_,_,h=>⟨h.1,fun i hi=>wpOp_mono (fun a' w' h'=>wpAny_of_P fuel _ a' w' h'.2) (h.2 i hi)⟩
theorem wpAnyP_first {P:Program} {ops:Array Oper} {Q:Exit→Act→World→Prop} {S:World→Prop} {Z:List Nat} {i:Nat} {oi:Oper} {v:Value} (hoi:ops[i]? = some oi) (hsel:∀(j:Nat) (o:Oper) cs b,ops[j]? = some o→o.op≠.select cs b)
  (hQ:∀c a w,Q (.panic c) (a.put oi.dst v) w→Q (.panic c) a w) {B:List Nat} (hZ:∀j,Z.elem j=true→j∈B) (hB:∀j∈B,∃oj,ops[j]? = some oj∧∃e∈oj.after,Region.binds .any e=true∧(e.on=i∨e.on∈B)) :
  ∀(fuel:Nat) (listed:Array Bool) (a:Act) (w:World),
   (∀j oj,ops[j]? = some oj→j≠i→listed.getD j true=false→(∀e∈oj.after,Region.binds .any e=true→e.on≠i)→oi.apart ops oj=true) →
   (∀j∈B,listed.getD j true=false)→i∈Region.ready .any ops listed→YieldsIf P ops S oi v a→S w →
   wpAnyP P ops Q S Z fuel (listed.setIfInBounds i true) (a.put oi.dst v) w→wpAnyP P ops Q S Z (fuel+1) listed a w:=by
 intro fuel
 induction fuel with
 | zero =>
  intro listed a w _ _ hr hy hS H
  refine⟨fun h=>(by rw [h] at hr;cases hr),fun j hj=>?_⟩
  by_cases hji:j=i
  ·subst hji;exact hy.wpOp hoi hS ⟨fun _=>hS,H⟩
  ·have:=ready_mono hj hji
   rw [H.1] at this
   cases this
 | succ fuel ih =>
  intro listed a w hfree hL hr hy hS H
  refine⟨fun h=>(by rw [h] at hr;cases hr),fun j hj=>?_⟩
  by_cases hji:j=i
  ·subst hji;exact hy.wpOp hoi hS ⟨fun _=>hS,H⟩
  ·have h1:=H.2 j (ready_mono hj hji)
   obtain⟨hjun,oj,hoj,hall⟩:=mem_ready.1 hj
   have hpi:listed.getD i true=false:=(mem_ready.1 hr).1
   have hnot:∀e∈oj.after,Region.binds .any e=true→e.on≠i:=fun e he hb heq=>by
    have h1:=hall e he hb
    rw [heq] at h1
    rcases Nat.lt_or_ge i listed.size with h' | h'
    ·simp [h'] at hpi h1;rw [hpi] at h1;cases h1
    ·simp [Array.getElem?_eq_none h'] at h1
   have h2:=wpOp_putIf hoj (hfree j oj hoj hji hjun hnot) (fun cs b=>hsel i oi cs b hoi) (fun cs b=>hsel j oj cs b hoj) hQ hy h1
   have hfree':∀k ok,ops[k]? = some ok→k≠i→(listed.setIfInBounds j true).getD k true=false →
     (∀e∈ok.after,Region.binds .any e=true→e.on≠i)→oi.apart ops ok=true:=fun k ok hk hki hun hno=>by
    refine hfree k ok hk hki ?_ hno
    by_cases hjk:j=k
    ·subst hjk;exact hjun
    ·rw [getD_set_ne true hjk] at hun;exact hun
   have hjB:j∉B:=fun hjB=>by
    obtain⟨oj',hoj',e,he,hb,hei⟩:=hB j hjB
    rw [hoj] at hoj'
    cases hoj'
    rcases hei with hei | hei
    ·exact hnot e he hb hei
    ·have h1:=hall e he hb
     have h2:=hL e.on hei
     rcases Nat.lt_or_ge e.on listed.size with h' | h'
     ·simp [h'] at h2 h1;rw [h2] at h1;cases h1
     ·simp [Array.getElem?_eq_none h'] at h1
   have hjZ:Z.elem j=false:=by
    cases hz:Z.elem j with
    | false=>rfl
    | true=>exact (hjB (hZ j hz)).elim
   have hL':∀k∈B,(listed.setIfInBounds j true).getD k true=false:=fun k hk=>by
    rw [getD_set_ne true (fun e=>hjB (by rw [e];exact hk))]
    exact hL k hk
   refine wpOp_mono (fun a' w' h3=>⟨h3.2.1,ih (listed.setIfInBounds j true) a' w' hfree' hL' (ready_mono hr (Ne.symm hji)) h3.1 (h3.2.1 hjZ) ?_⟩) h2
   rw [Array.setIfInBounds_comm _ _ hji]
   exact h3.2.2
def gdT {R':Type} (all:Array Oper) (o:Oper) (st:TS E) (run skip:TS E→Option R'):Option R':=match o.guard with
 | none=>run st
 | some (j,want)=>match (all[j]?).bind (·.dst) with
  | some t=>match st.at t with
   | .dat .bool b=>cond b
     (cond want (run { st with t:=st.t.set t (.dat .bool true) }) (skip { st with t:=st.t.set t (.dat .bool true) }))
     (cond want (skip { st with t:=st.t.set t (.dat .bool false) }) (run { st with t:=st.t.set t (.dat .bool false) }))
   | .val (.bool _)=>none
   | .val _=>skip st
   | _=>none
  | none=>none
def hasDep (all:Array Oper) (i:Nat) (S:List Nat) (j:Nat):Bool:=match all[j]? with
 | some o=>o.after.any (fun e=>Region.binds .any e&&(Nat.beq e.on i||S.elem e.on))
 | none=>false
def upG (all:Array Oper) (i:Nat):List Nat→List Nat→List Nat
 | [],acc=>acc
 | j::js,acc=>upG all i js (cond (hasDep all i acc j) (j::acc) acc)
def behindB (all:Array Oper) (Z:List Nat) (L:Array Bool) (i:Nat) (B:List Nat):Bool:=Z.all (B.elem ·)&&B.all fun j=>hasDep all i B j && !(L.getD j true)
def behind (all:Array Oper) (Z:List Nat) (L:Array Bool) (i:Nat):Bool:=cond Z.isEmpty true (behindB all Z L i (upG all i (List.range all.size) []))
theorem behind_ok {all:Array Oper} {Z:List Nat} {L:Array Bool} {i:Nat} (h:behind all Z L i=true):∃B:List Nat,(∀j,Z.elem j=true→j∈B)∧∀j∈B,L.getD j true=false∧∃oj,all[j]? = some oj∧∃e∈oj.after,Region.binds .any e=true∧(e.on=i∨e.on∈B):=by
 unfold behind at h
 cases hz:Z.isEmpty<;>rw [hz] at h<;>simp only [cond_true,cond_false] at h
 ·unfold behindB at h
  rw [Bool.and_eq_true] at h
  refine⟨_,fun j hj=>List.mem_of_elem_eq_true (List.all_eq_true.1 h.1 j (List.mem_of_elem_eq_true hj)),fun j hj=>?_⟩
  have h2:=List.all_eq_true.1 h.2 j hj
  rw [Bool.and_eq_true,Bool.not_eq_true'] at h2
  refine⟨h2.2,?_⟩
  have h3:=h2.1
  unfold hasDep at h3
  split at h3
  ·rename_i o ho
   obtain⟨e,he,hb⟩:=Array.any_eq_true'.1 h3
   rw [Bool.and_eq_true,Bool.or_eq_true] at hb
   exact⟨o,ho,e,he,hb.1,hb.2.elim (fun h=>.inl (Nat.eq_of_beq_eq_true h)) (fun h=>.inr (List.mem_of_elem_eq_true h))⟩
  ·cases h3
 ·refine⟨[],fun j hj=>?_,fun j hj=>by cases hj⟩
  rw [List.isEmpty_iff] at hz
  subst hz
  cases hj
noncomputable def goS {R':Type} (X:Cx E) (R Z:List Nat) (all:Array Oper):List (Nat × Bool)→Nat→Array Bool→TS E→(Nat→TS E→Option R')→Option R'
 | [],f,_,st,k=>k f st
 | p::is,f,L,st,k=>match all[p.1]? with
  | none=>none
  | some o=>cond p.2
    (rq ((Region.free .any all L p.1&&(Region.ready .any all L).contains p.1)&&(Nat.ble f 1&&behind all Z L p.1)) (gdT all o st
     (fun st=>rq (loadOk R (Nat.beq f 0) st o.op) (qopT X st o (fun st'=>goS X R Z all is f (L.setIfInBounds p.1 true) st' k)))
     (fun st=>goS X R Z all is f (L.setIfInBounds p.1 true) { st with t:=setT st.t o.dst (.val undef) } k)))
    (rq (Region.ready .any all L==[p.1]) (gdT all o st
     (fun st=>opT X st o (thenK (fun st'=>cond (Z.elem p.1) (goS X R Z all is 2 (L.setIfInBounds p.1 true) st' k) (rq (pinned R st') (goS X R Z all is 1 (L.setIfInBounds p.1 true) st' k))) fun _ _=>none))
     (fun st=>rq (Nat.ble f 1||Z.elem p.1) (goS X R Z all is f (L.setIfInBounds p.1 true) { st with t:=setT st.t o.dst (.val undef) } k))))
structure SSeg where
 l:List (Nat × Bool)
 c:Option Cut
def markL (L:Array Bool):List (Nat × Bool)→Array Bool
 | []=>L
 | p::l=>markL (L.setIfInBounds p.1 true) l
def opsI (all:Array Oper) (l:List (Nat × Bool)):List Oper:=l.filterMap fun p=>all[p.1]?
noncomputable def drawS {R':Type} (X:Cx E) (R Z:List Nat) (all:Array Oper):List SSeg→Nat→Array Bool→TS E→(TS E→Option R')→Option R'
 | [],_,L,st,k=>rq (Region.ready .any all L).isEmpty (k st)
 | s::ss,f,L,st,k=>match s.c with
  | none=>goS X R Z all s.l f L st (fun f' st'=>drawS X R Z all ss f' (markL L s.l) st' k)
  | some c=>rq (c.okW (wrL all (opsI all s.l))&&noDefL all.toList) ((goS X R Z all s.l f L st (fun _ st'=>c.pack st st')).bind fun x=>rq (pinned R (c.un (wrL all (opsI all s.l)) st x)) (drawS X R Z all ss 1 (markL L s.l) (c.un (wrL all (opsI all s.l)) st x) k))
def SSeg.n:List SSeg→Nat
 | []=>0
 | s::ss=>s.l.length+SSeg.n ss
def ADrawS (ws:World) (Gs:Ghost) (R Z:List Nat) (P:Program) (ops:Array Oper) (f:Nat) (n:Nat) (L:Array Bool) (st:TS E) (Q:TS E→Prop):Prop :=
 ∀a w G,Rel E ws Gs st a w G→(f=0→w.heap=ws.heap∧G=Gs)→(f≤1→Pin ws Gs R w)→wpAnyP P ops (CPost E ws Gs (onlyN Q)) (Pin ws Gs R) Z n L a w
theorem ADrawS.done {ws:World} {Gs:Ghost} {R Z:List Nat} {P:Program} {ops:Array Oper} {f:Nat} {L:Array Bool} {Q:TS E→Prop} (hL:(Region.ready .any ops L).isEmpty=true) (h:Q st):∀n,ADrawS ws Gs R Z P ops f n L st Q:=by
 have hL:Region.ready .any ops L=[]:=List.isEmpty_iff.1 hL
 intro n a w G hr _ _
 have hq:CPost E ws Gs (onlyN Q) .normal a w:=⟨.normal,st,G,trivial,hr,rfl,h⟩
 cases n with
 | zero=>exact⟨hL,hq⟩
 | succ n=>exact⟨fun _=>hq,fun i hi=>by rw [hL] at hi;cases hi⟩
theorem qopS_sound {R':Type} (hX:X.Ok) {R:List Nat} {first:Bool} {o:Oper} {k:TS E→Option R'} {r:R'} (hl:loadOk R first st o.op=true) (h:qopT X st o k=some r) {ws w:World} {Gs G:Ghost} {a:Act} (hr:Rel E ws Gs st a w G)
  (hf:first=true→w.heap=ws.heap∧G=Gs) (hp:Pin ws Gs R w) (hRl:∀q,q∈R→q<Gs.i.length) :
  ∃v st',(∀w',Pin ws Gs R w'→(execOp a.eval o).run X.P w'=.ok (.value v) w')∧Rel E ws Gs st' (a.put o.dst v) w G∧k st'=some r∧Fr (dstL o.dst) true st st':=by
 cases hld:isLoad o.op with
 | false =>
  obtain⟨v,st',h1,h2,h3,h4⟩:=qopT_sound hX h hr
  exact⟨v,st',fun w' _=>h1 w' (fun hh=>by rw [hld] at hh;cases hh),h2,h3,h4⟩
 | true =>
  obtain⟨t,x,ho⟩:∃t x,o.op=.load t x:=by cases ho:o.op<;>rw [ho] at hld<;>first | exact⟨_,_,rfl⟩ | cases hld
  unfold qopT at h
  split at h
  ·rename_i pc pd hpp
   obtain⟨h1,h2⟩:=rqP_some h
   obtain⟨p,hpd⟩:∃p:Bool × TV E,p=(pc,pd):=⟨_,rfl⟩
   rw [←hpd] at hpp
   have hpd1:pc=p.1:=by rw [hpd]
   have hpd2:pd=p.2:=by rw [hpd]
   rw [hpd1] at h1
   rw [hpd2] at h2
   clear hpd hpd1 hpd2
   have hev0:evalB X.P X.ty st o.op=some p∨evalN X.P st o.op=some p:=by
    unfold evalA at hpp
    split at hpp
    ·rename_i y0 hy0;rw [hy0];exact .inl hpp
    ·exact .inr hpp
   rcases hev0 with hpp | hpn
   rotate_left
   ·rw [ho] at hpn hl
    simp only [evalN] at hpn
    simp only [loadOk] at hl
    have hv:=hr.ev x
    split at hpn<;>try (cases hpn;done)
    rename_i i r' off hi hd
    rw [hd] at hv hl
    simp only at hl
    have hrR:=List.mem_of_elem_eq_true hl
    split at hpn<;>try (cases hpn;done)
    rename_i e cap T xs d' hb
    cases hpn
    simp only [VT] at hv
    obtain⟨b,he,hat⟩:=hv
    obtain⟨cur,q1,q2,q4,q5,q6⟩:=hr.box hat hb
    simp only [Bool.and_eq_true,Bool.not_eq_true'] at h1
    obtain⟨c1,c2,c3⟩:=h1
    have c1:=Nat.eq_of_beq_eq_true c1
    have c3:=Nat.eq_of_beq_eq_true c3
    subst c3
    have hGs:Gs.i[r']? = some b:=by
     have hlt:=hRl r' hrR
     have e1:=hr.evol.goes.i r' _ (List.getElem?_eq_getElem hlt)
     rw [hat] at e1
     rw [Option.some.inj e1];exact List.getElem?_eq_getElem hlt
    refine⟨_,_,fun w' hP=>?_,hr.put q5 o.dst,h2,Fr.put _ _ _⟩
    have hh':w'.heap[b]? = some (.cells cur e (0,0)):=by rw [hP.1 r' b hrR hGs,←hp.1 r' b hrR hGs];exact q1
    have hrun:=run_load_cell (P:=X.P) hi c1 c2 w' (cell_nrow hh' (by rw [q2];exact q6))
    simp only [execOp,ho,he,Sem.run_bind,hrun,Result.andThen_ok,Sem.run_pure]
   have hev:evalT X.P X.ty st o.op=some p∨(evalT X.P X.ty st o.op=none∧evalX X.P X.ty st o.op=some p):=by
    unfold evalB at hpp
    split at hpp
    ·rename_i y0 hy0
     cases hpp
     unfold evalA1 at hy0
     split at hy0
     ·rename_i y hy
      cases hy0
      unfold evalA0 at hy
      split at hy
      ·rename_i y' hy';rw [hy'];exact .inl hy
      ·rename_i hy';exact .inr ⟨hy',hy⟩
     ·rw [ho] at hy0;simp only [evalS] at hy0;cases hy0
    ·rw [ho] at hpp;simp only [evalR] at hpp;cases hpp
   rw [ho] at hev hl
   rcases hev with hev | ⟨-,hev⟩
   rotate_left
   ·simp only [evalX] at hev;cases hev
   simp only [evalT] at hev
   simp only [loadOk] at hl
   have hv:=hr.ev x
   split at hev<;>try (cases hev;done)
   ·rename_i i T y off hi hd
    rw [hd] at hv hl
    simp only at hl
    subst hl
    obtain⟨hw,hG⟩:=hf rfl
    subst hG
    have hcell:∀a,w.cell? a=ws.cell? a:=fun a=>by unfold World.cell?;rw [hw]
    simp only [VT] at hv
    obtain⟨b,o',c,he,q1,q2⟩:=hv
    have hpart:=part_sound hX.E q1 (okT_some hev)
    obtain⟨v,hvv,hrun0⟩:=run_load_row (P:=X.P) hi (fun l u hl=>(q2 l u hl).2) hpart
    refine⟨v,_,fun w' hP=>?_,hr.put hvv o.dst,h2,Fr.put _ _ _⟩
    have hrow:∀(l:Nat) u,c[l]? = some u→w'.cell? ⟨b,o'+l,none⟩=some u:=fun l u hl=>hP.2 _ _ _ (q2 l u hl).1 (by rw [←hcell];exact (q2 l u hl).2)
    have hrun:(Instr.loadAt t (.pointer (some ⟨b,o'+off,none⟩))).run X.P w'=.ok v w':=by
     have e0:=hrun0 w (Same.refl w)
     have key:∀(W:World),(∀(l:Nat) u,c[l]? = some u→W.cell? ⟨b,o'+l,none⟩=some u)→∀(p1:Part E w G c i.isAgg i.size off p.2),(Instr.loadAt t (.pointer (some ⟨b,o'+off,none⟩))).run X.P W=.ok (cond i.isAgg (.agg ((c.drop off).take i.size).toArray) (c.getD off undef)) W:=by
      intro W hW p1
      unfold Part at p1
      have hc':∀l,l<c.length→W.cell? ⟨b,o'+l,none⟩=some (c.getD l undef):=fun l hl=>by
       have:=List.getElem?_eq_getElem hl
       rw [getD_eq this];exact hW l _ this
      cases ha:i.isAgg<;>rw [ha] at p1<;>simp only [cond_true,cond_false] at p1 ⊢
      ·obtain⟨u,hu,-⟩:=p1
       have hl:=(List.getElem?_eq_some_iff.1 hu).1
       rw [run_load_part hi b o' c.length (fun l=>c.getD l undef) hc' off (by rw [ha];exact hl) W (Same.refl W),ha]
       rfl
      ·obtain⟨hl,-⟩:=p1
       rw [run_load_part hi b o' c.length (fun l=>c.getD l undef) hc' off (by rw [ha];exact hl) W (Same.refl W),ha]
       simp only [cond_true]
       congr 3
       apply List.ext_getElem
       ·simp;omega
       ·intro n h1 h2
        simp at h1 h2
        simp [List.getD,show off+n<c.length by omega]
     rw [key w (fun l u hl=>(q2 l u hl).2) hpart] at e0
     rw [key w' hrow hpart]
     simp only [Result.ok.injEq,and_true] at e0 ⊢
     exact e0
    simp only [execOp,ho,he,Sem.run_bind,hrun,Result.andThen_ok,Sem.run_pure]
   ·rename_i i r' off hi hd
    rw [hd] at hv hl
    simp only at hl
    have hrR:=List.mem_of_elem_eq_true hl
    split at hev<;>try (cases hev;done)
    rename_i t' cs hb
    simp only [VT] at hv
    obtain⟨b,he,hat⟩:=hv
    obtain⟨vs,hh,q1,q2⟩:=hr.box hat hb
    have hGs:Gs.i[r']? = some b:=by
     have hlt:=hRl r' hrR
     have e1:=hr.evol.goes.i r' _ (List.getElem?_eq_getElem hlt)
     rw [hat] at e1
     rw [Option.some.inj e1];exact List.getElem?_eq_getElem hlt
    have hpart:=partC_sound hX.E q2 (fun u hu=>q1 u (by simpa using hu)) (okT_some hev)
    obtain⟨v,hvv,hrun0⟩:=run_load_row (P:=X.P) (w:=w) (b:=b) (o':=0) hi (fun l u hl=>by
     rw [cell_of_row w b (0+l) vs t' (0,0) hh];simpa using hl) hpart
    refine⟨v,_,fun w' hP=>?_,hr.put hvv o.dst,h2,Fr.put _ _ _⟩
    have hh':w'.heap[b]? = some (.cells vs t' (0,0)):=by rw [hP.1 r' b hrR hGs,←hp.1 r' b hrR hGs];exact hh
    have hrun:(Instr.loadAt t (.pointer (some ⟨b,0+off,none⟩))).run X.P w'=.ok v w':=by
     have e0:=hrun0 w (Same.refl w)
     have key:∀(W:World),W.heap[b]? = some (.cells vs t' (0,0))→(Instr.loadAt t (.pointer (some ⟨b,0+off,none⟩))).run X.P W=.ok (cond i.isAgg (.agg ((vs.toList.drop off).take i.size).toArray) (vs.toList.getD off undef)) W:=by
      intro W hW
      have hc':∀l,l<vs.toList.length→W.cell? ⟨b,0+l,none⟩=some (vs.toList.getD l undef):=fun l hl=>by
       rw [cell_of_row W b (0+l) vs t' (0,0) hW]
       have:l<vs.size:=by simpa using hl
       simp [List.getD,this]
      have p1:=hpart
      unfold Part at p1
      cases ha:i.isAgg<;>rw [ha] at p1<;>simp only [cond_true,cond_false] at p1 ⊢
      ·obtain⟨u,hu,-⟩:=p1
       have hl:=(List.getElem?_eq_some_iff.1 hu).1
       rw [run_load_part hi b 0 vs.toList.length (fun l=>vs.toList.getD l undef) hc' off (by rw [ha];exact hl) W (Same.refl W),ha]
       rfl
      ·obtain⟨hl,-⟩:=p1
       rw [run_load_part hi b 0 vs.toList.length (fun l=>vs.toList.getD l undef) hc' off (by rw [ha];exact hl) W (Same.refl W),ha]
       simp only [cond_true]
       congr 3
       have hvl:vs.toList.length=vs.size:=Array.length_toList
       apply List.ext_getElem
       ·simp;simp at hl;omega
       ·intro n h1 h2
        simp at h1 h2
        simp [List.getD,show off+n<vs.size by simp at hl;omega]
     rw [key w hh] at e0
     rw [key w' hh']
     simp only [Result.ok.injEq,and_true] at e0 ⊢
     exact e0
    rw [Nat.zero_add] at hrun
    simp only [execOp,ho,he,Sem.run_bind,hrun,Result.andThen_ok,Sem.run_pure]
  ·rw [ho] at h;cases h
theorem gdT_some {R':Type} {all:Array Oper} {o:Oper} {run skip:TS E→Option R'} {r:R'} (h:gdT all o st run skip=some r) {w0 w:World} {G0 G:Ghost} {a:Act} (hr:Rel E w0 G0 st a w G) :
  ∃s1,Fr (guardT all o) true st s1∧Rel E w0 G0 s1 a w G∧((Region.wanted o (yielded all a.tmps)=true∧run s1=some r)∨(Region.wanted o (yielded all a.tmps)=false∧skip s1=some r)):=by
 unfold gdT at h
 split at h
 ·rename_i hg
  exact⟨st,Fr.refl _ _ _,hr,.inl ⟨by simp [Region.wanted,hg],h⟩⟩
 ·rename_i j want hg
  split at h<;>try (cases h;done)
  rename_i t htt
  have hgt:guardT all o=[t]:=by unfold guardT;rw [hg];simp only [htt]
  split at h<;>try (cases h;done)
  ·rename_i b hb
   obtain⟨hw,hbv⟩:=wanted_bool hr hg htt hb
   have hl:=hr.lit hbv
   have hfl:Fr (guardT all o) true st { st with t:=st.t.set t (.dat .bool b) }:=by rw [hgt];exact Fr.lit st t _
   cases b<;>cases want<;>simp only [cond_true,cond_false] at h
   ·exact⟨_,hfl,hl,.inl ⟨by rw [hw];rfl,h⟩⟩
   ·exact⟨_,hfl,hl,.inr ⟨by rw [hw];rfl,h⟩⟩
   ·exact⟨_,hfl,hl,.inr ⟨by rw [hw];rfl,h⟩⟩
   ·exact⟨_,hfl,hl,.inl ⟨by rw [hw];rfl,h⟩⟩
  ·rename_i u hnb hu
   exact⟨st,Fr.refl _ _ _,hr,.inr ⟨wanted_val hr hg htt hu (fun b e=>hnb b e),h⟩⟩
theorem goS_sound {R':Type} (hX:X.Ok) {R Z:List Nat} {all:Array Oper} (hns:Region.noSelect all=true) {ws:World} {Gs:Ghost} (hRl:∀q,q∈R→q<Gs.i.length) {Q:TS E→Prop} {n:Nat} {k:Nat→TS E→Option R'} {r:R'} :
  ∀(is:List (Nat × Bool)) (f:Nat) (L:Array Bool) {st:TS E},goS X R Z all is f L st k=some r →
   (∀f' st',k f' st'=some r→Fr (wrL all (opsI all is)) (noDefL (opsI all is)) st st'→ADrawS ws Gs R Z X.P all f' n (markL L is) st' Q)→ADrawS ws Gs R Z X.P all f (is.length+n) L st Q
 | [],f,L,st,h,hrest=>by
  simp only [List.length_nil,Nat.zero_add]
  exact hrest f st h (Fr.refl _ _ _)
 | (i,q)::is,f,L,st,h,hrest=>by
  intro a w G hr hf hp
  simp only [goS] at h
  split at h<;>try (cases h;done)
  rename_i o ho
  have hQp:∀c a w,¬ CPost E ws Gs (onlyN Q) (.panic c) a w:=fun c a w hp=>by have:=CPost.onlyN hp;cases this
  have hops:opsI all ((i,q)::is)=o::opsI all is:=by simp [opsI,ho]
  have hfr:∀ {s1 s2 s3:TS E} {nd:Bool},(nd=!(isDef o.op)∨nd=true)→Fr (guardT all o) true st s1→Fr (dstL o.dst) nd s1 s2→Fr (wrL all (opsI all is)) (noDefL (opsI all is)) s2 s3→Fr (wrL all (opsI all ((i,q)::is))) (noDefL (opsI all ((i,q)::is))) st s3:=by
   intro s1 s2 s3 nd hnd f0 f1 f2
   rw [hops]
   refine (f0.trans f1 (W:=dstL o.dst++guardT all o) (n:=nd) (fun i hi=>by simp [hi]) (fun i hi=>by simp [hi]) (fun h=>⟨rfl,h⟩)).trans f2 (fun i hi=>by
     simp only [wrL,List.mem_append] at hi ⊢;rcases hi with hi | hi<;>simp [hi]) (fun i hi=>by simp [wrL,hi]) (fun h=>by
     simp only [noDefL,Bool.and_eq_true] at h;exact⟨by rcases hnd with rfl | rfl;exact h.1;rfl,h.2⟩)
  rw [show ((i,q)::is).length+n=(is.length+n)+1 by simp;omega]
  have hskip:∀(s1:TS E),Fr (guardT all o) true st s1→Rel E ws Gs s1 a w G→goS X R Z all is f (L.setIfInBounds i true) { s1 with t:=setT s1.t o.dst (.val undef) } k=some r →
    wpAnyP X.P all (CPost E ws Gs (onlyN Q)) (Pin ws Gs R) Z (is.length+n) (L.setIfInBounds i true) (a.put o.dst undef) w:=by
   intro s1 f0 hr1 h1
   have hr2:=hr1.put (v:=undef) (d:=.val undef) (by simp only [VT]) o.dst
   exact goS_sound hX hns hRl is f _ h1 (fun f' st' hk f2=>hrest f' st' hk (hfr (.inr rfl) f0 (Fr.put s1 o.dst (.val undef)) f2)) _ w G hr2 hf hp
  cases q<;>simp only [cond_true,cond_false] at h
  ·obtain⟨h1,h⟩:=rq_some h
   have h1:Region.ready .any all L=[i]:=by simpa using h1
   refine⟨fun he=>(by rw [he] at h1;cases h1),fun j hj=>?_⟩
   have hji:j=i:=by rw [h1] at hj;simpa using hj
   subst hji
   obtain⟨s1,f0,hr1,hc⟩:=gdT_some h hr
   unfold wpOp
   simp only [ho]
   rcases hc with⟨hw,h2⟩ | ⟨hw,h2⟩
   ·rw [if_pos hw]
    have hop:=opT_sound hX h2 ws Gs a w G hr1
    refine .inl (upon_mono (fun a' w' hn=>?_) (fun e a' w' hpp=>?_) hop)
    ·obtain⟨s2,G2,hr2,hk,f1⟩:=hn
     simp only [thenK] at hk
     cases hz:Z.elem j<;>rw [hz] at hk<;>simp only [cond_true,cond_false] at hk
     ·obtain⟨hpin,hk⟩:=rq_some hk
      have hp2:=hr2.pin hpin
      exact⟨fun _=>hp2,goS_sound hX hns hRl is 1 _ hk (fun f' st' hk' f2=>hrest f' st' hk' (hfr (.inl rfl) f0 f1 f2)) a' w' G2 hr2 (fun e=>by cases e) (fun _=>hp2)⟩
     ·exact⟨fun e=>(by cases e),goS_sound hX hns hRl is 2 _ hk (fun f' st' hk' f2=>hrest f' st' hk' (hfr (.inl rfl) f0 f1 f2)) a' w' G2 hr2 (fun e=>by cases e) (fun e=>by omega)⟩
    ·obtain⟨x,s2,G2,he,hr2,hn,hk,f1⟩:=hpp
     cases x<;>first | exact (hn rfl).elim | cases hk
   ·rw [if_neg (by rw [hw];simp)]
    obtain⟨h3,h2⟩:=rq_some h2
    refine⟨fun hz=>hp ?_,hskip s1 f0 hr1 h2⟩
    rw [hz,Bool.or_false] at h3
    exact Nat.le_of_ble_eq_true h3
  ·obtain⟨h1,h⟩:=rq_some h
   simp only [Bool.and_eq_true] at h1
   obtain⟨h1,hf1,hbe⟩:=h1
   have hp:=hp (Nat.le_of_ble_eq_true hf1)
   obtain⟨B,hZ,hB⟩:=behind_ok hbe
   have first:∀v,YieldsIf X.P all (Pin ws Gs R) o v a→wpAnyP X.P all (CPost E ws Gs (onlyN Q)) (Pin ws Gs R) Z (is.length+n) (L.setIfInBounds i true) (a.put o.dst v) w →
     wpAnyP X.P all (CPost E ws Gs (onlyN Q)) (Pin ws Gs R) Z ((is.length+n)+1) L a w:=fun v hy hh =>
    wpAnyP_first (v:=v) ho (Region.noSelect_spec hns) (fun c a w hp=>(hQp _ _ _ hp).elim) hZ (fun j hj=>(hB j hj).2) _ _ a w (Region.free_spec ho h1.1) (fun j hj=>(hB j hj).1) (by simpa using h1.2) hy hp hh
   obtain⟨s1,f0,hr1,hc⟩:=gdT_some h hr
   rcases hc with⟨hw,h2⟩ | ⟨hw,h2⟩
   ·obtain⟨hl,h2⟩:=rq_some h2
    obtain⟨v,s2,hrun,hr2,hk,f1⟩:=qopS_sound hX hl h2 hr1 (fun e=>hf (Nat.eq_of_beq_eq_true e)) hp hRl
    exact first v (.inl ⟨hw,hrun⟩) (goS_sound hX hns hRl is f _ hk (fun f' st' hk' f2=>hrest f' st' hk' (hfr (.inr rfl) f0 f1 f2)) _ w G hr2 hf (fun _=>hp))
   ·exact first undef (.inr ⟨hw,rfl⟩) (hskip s1 f0 hr1 h2)
theorem wrL_mem {all:Array Oper} {o:Oper}:∀ {l:List Oper},o∈l→∀i,i∈dstL o.dst++guardT all o→i∈wrL all l
 | [],h,_,_=>by cases h
 | o'::l,h,i,hi=>by
  simp only [wrL,List.mem_append]
  rcases List.mem_cons.1 h with rfl | h
  ·simp only [List.mem_append] at hi
   rcases hi with hi | hi
   ·exact .inl hi
   ·exact .inr (.inl hi)
  ·exact .inr (.inr (wrL_mem h i hi))
theorem opsI_mem {all:Array Oper} {l:List (Nat × Bool)} {o:Oper} (h:o∈opsI all l):o∈all.toList:=by
 obtain⟨p,_,hp⟩:=List.mem_filterMap.1 h
 exact List.mem_of_getElem? (by simpa using hp)
theorem wrL_opsI {all:Array Oper}:∀ {l:List Oper},(∀o,o∈l→o∈all.toList)→∀i,i∈wrL all l→i∈wrL all all.toList
 | [],_,i,h=>by cases h
 | o::l,hm,i,h=>by
  simp only [wrL,List.mem_append] at h
  rcases h with h | h | h
  ·exact wrL_mem (hm o (by simp)) i (by simp [h])
  ·exact wrL_mem (hm o (by simp)) i (by simp [h])
  ·exact wrL_opsI (fun o h=>hm o (by simp [h])) i h
theorem noDefL_all {l m:List Oper} (hm:∀o,o∈l→o∈m) (h:noDefL m=true):noDefL l=true:=by
 have key:∀(l:List Oper),noDefL l=true↔∀o,o∈l→(!(isDef o.op))=true:=by
  intro l
  induction l with
  | nil=>simp [noDefL]
  | cons o l ih=>simp only [noDefL,Bool.and_eq_true,ih,List.mem_cons,forall_eq_or_imp]
 rw [key] at h ⊢
 exact fun o ho=>h o (hm o ho)
theorem ADrawS.mono {ws:World} {Gs:Ghost} {R Z:List Nat} {P:Program} {ops:Array Oper} {f:Nat} {n:Nat} {L:Array Bool} {Q Q':TS E→Prop} (hq:∀s,Q s→Q' s) (h:ADrawS ws Gs R Z P ops f n L st Q):ADrawS ws Gs R Z P ops f n L st Q':=by
 intro a w G hr hf hp
 have key:∀(fuel:Nat) (listed:Array Bool) (a:Act) (w:World) {Q1 Q2:Exit→Act→World→Prop} {S:World→Prop},(∀e a w,Q1 e a w→Q2 e a w)→wpAnyP P ops Q1 S Z fuel listed a w→wpAnyP P ops Q2 S Z fuel listed a w:=by
  intro fuel
  induction fuel with
  | zero=>intro listed a w Q1 Q2 S hq h;exact⟨h.1,hq _ _ _ h.2⟩
  | succ fuel ih =>
   intro listed a w Q1 Q2 S hq h
   refine⟨fun he=>hq _ _ _ (h.1 he),fun i hi=>?_⟩
   have h1:=h.2 i hi
   unfold wpOp at h1 ⊢
   split
   ·rename_i ho;rw [ho] at h1;exact⟨h1.1,ih _ _ _ hq h1.2⟩
   ·rename_i o ho
    rw [ho] at h1
    simp only at h1
    split
    ·rename_i hw
     rw [if_pos hw] at h1
     rcases h1 with h1 | ⟨h1,a1,w1,h2⟩
     ·exact .inl (upon_mono (fun a w h=>⟨h.1,ih _ a w hq h.2⟩) hq h1)
     ·exact .inr ⟨h1,a1,w1,hq _ _ _ h2⟩
    ·rename_i hw
     rw [if_neg hw] at h1
     exact⟨h1.1,ih _ _ _ hq h1.2⟩
 exact key _ _ _ _ (fun e a w hp=>CPost.mono (fun x s hh=>⟨hh.1,hq _ hh.2⟩) hp) (h a w G hr hf hp)
theorem drawS_sound {R':Type} (hX:X.Ok) {R Z:List Nat} {all:Array Oper} (hns:Region.noSelect all=true) {ws:World} {Gs:Ghost} (hRl:∀q,q∈R→q<Gs.i.length) {n:Nat} {k:TS E→Option R'} {r:R'} :
  ∀(ss:List SSeg) (f:Nat) (L:Array Bool) {st:TS E},drawS X R Z all ss f L st k=some r→ADrawS ws Gs R Z X.P all f (SSeg.n ss+n) L st (fun st'=>k st'=some r∧Fr (wrL all all.toList) (noDefL all.toList) st st')
 | [],f,L,st,h=>by
  simp only [drawS] at h
  obtain⟨h1,h2⟩:=rq_some h
  exact ADrawS.done h1 ⟨h2,Fr.refl _ _ _⟩ _
 | s::ss,f,L,st,h=>by
  have hW:∀j,j∈wrL all (opsI all s.l)→j∈wrL all all.toList:=wrL_opsI (fun o ho=>opsI_mem ho)
  have hN:noDefL all.toList=true→noDefL (opsI all s.l)=true:=noDefL_all (fun o ho=>opsI_mem ho)
  simp only [drawS] at h
  rw [show SSeg.n (s::ss)+n=s.l.length+(SSeg.n ss+n) by simp only [SSeg.n];omega]
  split at h
  ·refine goS_sound hX hns hRl s.l f L h fun f' st' hk hf=>?_
   exact ADrawS.mono (fun s' hh=>⟨hh.1,hf.trans hh.2 hW (fun j hj=>hj) (fun hn=>⟨hN hn,hn⟩)⟩) (drawS_sound hX hns hRl ss f' _ hk)
  ·rename_i c hc
   obtain⟨h1,h2⟩:=rq_some h
   rw [Bool.and_eq_true] at h1
   cases hs:goS X R Z all s.l f L st (fun _ st'=>c.pack st st') with
   | none=>rw [hs] at h2;cases h2
   | some x =>
    rw [hs] at h2
    dsimp only [Option.bind] at h2
    obtain⟨h3,h2⟩:=rq_some h2
    intro a w G hr
    have hpre:=hr.pre
    refine goS_sound hX hns hRl s.l f L hs (fun f' st' hk hf=>?_) a w G hr
    intro a' w' G' hr' _ _
    obtain⟨⟨G2,hR⟩,hF⟩:=cut_step hX.E hpre hr' (hf.wide (fun _ h=>h) (fun _=>hN h1.2)) h1.1 hk
    exact ADrawS.mono (fun s' hh=>⟨hh.1,hF.trans hh.2 hW (fun j hj=>hj) (fun hn=>⟨rfl,hn⟩)⟩) (drawS_sound hX hns hRl ss 1 _ h2) a' w' G2 hR (fun e=>by cases e) (fun _=>hR.pin h3)
noncomputable def drawP {R':Type} (X:Cx E) (R Z:List Nat) (ops:Array Oper) (ss:List SSeg) (st:TS E) (k:TS E→Option R'):Option R' :=
 rq ((Region.noSelect ops&&Nat.ble (SSeg.n ss) ops.size)&&R.all (fun q=>Nat.blt q st.H.length)) (drawS X R Z ops ss 0 (Array.replicate ops.size false) { st with d:=[] } (fun st'=>k { st' with d:=st'.d++st.d }))
theorem drawP_sound {R':Type} (hX:X.Ok) {id:Nat} {R Z:List Nat} {ops:Array Oper} {ss:List SSeg} {k:TS E→Option R'} {r:R'} (h:drawP X R Z ops ss st k=some r) :
  AWp E X.P (.region id ops true) st (fun x st'=>x=.normal∧k st'=some r∧Fr (wrL ops ops.toList) (noDefL ops.toList) st st'):=by
 intro w0 G0 a w G hr
 have hs:Same w { w with drawn:=w.drawn+1 }:=⟨Nat.le_refl _,fun _ _=>rfl⟩
 have hr':=hr.grow (w':={ w with drawn:=w.drawn+1 }) hs rfl rfl rfl G.pr (fun _ _ h=>h) (fun _ _ _ h=>h) (fun b o hp=>Nat.lt_of_lt_of_le (hr.boxes.prok b o hp).1 hs.1)
 obtain⟨h1,h2⟩:=rq_some h
 simp only [Bool.and_eq_true] at h1
 obtain⟨⟨hns,hn⟩,hR⟩:=h1
 have hn:=Nat.le_of_ble_eq_true hn
 have hRl:∀q,q∈R→q<G.i.length:=fun q hq=>by
  have:=blt_iff.1 (List.all_eq_true.1 hR q hq)
  rw [hr.boxes.len];exact this
 have hroot:=hr'.root
 have h3:=drawS_sound hX hns (ws:={ w with drawn:=w.drawn+1 }) (Gs:=G) hRl (n:=ops.size - SSeg.n ss) ss 0 _ h2 a _ G hroot (fun _=>⟨rfl,rfl⟩) (fun _=>⟨fun _ _ _ _=>rfl,fun _ _ _ _ h=>h⟩)
 rw [show SSeg.n ss+(ops.size - SSeg.n ss)=ops.size by omega] at h3
 refine wp_region_any hX.mix ?_
 have h4:=wpAny_of_P _ _ _ _ h3
 have key:∀(fuel:Nat) (listed:Array Bool) (a:Act) (w:World) {Q1 Q2:Exit→Act→World→Prop},(∀e a w,Q1 e a w→Q2 e a w)→wpAny X.P .any ops Q1 fuel listed a w→wpAny X.P .any ops Q2 fuel listed a w:=by
  intro fuel
  induction fuel with
  | zero=>intro listed a w Q1 Q2 hq h;exact⟨h.1,hq _ _ _ h.2⟩
  | succ fuel ih =>
   intro listed a w Q1 Q2 hq h
   refine⟨fun he=>hq _ _ _ (h.1 he),fun i hi=>?_⟩
   have h1:=h.2 i hi
   unfold wpOp at h1 ⊢
   split
   ·rename_i ho;rw [ho] at h1;exact ih _ _ _ hq h1
   ·rename_i o ho
    rw [ho] at h1
    simp only at h1
    split
    ·rename_i hw
     rw [if_pos hw] at h1
     rcases h1 with h1 | ⟨h1,a1,w1,h2⟩
     ·exact .inl (upon_mono (fun a w h=>ih _ a w hq h) hq h1)
     ·exact .inr ⟨h1,a1,w1,hq _ _ _ h2⟩
    ·rename_i hw
     rw [if_neg hw] at h1
     exact ih _ _ _ hq h1
 refine key _ _ _ _ (fun e a' w' hp=>?_) h4
 obtain⟨x,s,G',he,hrr,rfl,hk,hF⟩:=hp
 exact⟨.normal,_,G',he,hr'.unroot hrr,rfl,hk,hF.unroot⟩
inductive FT where
 | done
 | step (i:Nat) (q:Bool) (t:FT)
 | fork (i:Nat) (t:FT) (j:Nat) (u:FT)
def FT.n:FT→Nat
 | .done=>0
 | .step _ _ t=>t.n+1
 | .fork _ t _ u=>Nat.max t.n u.n+1
noncomputable def stepN {R':Type} (X:Cx E) (R:List Nat) (all:Array Oper) (i:Nat) (f:Nat) (st:TS E) (k:Nat→TS E→Option R'):Option R':=match all[i]? with
 | none=>none
 | some o=>gdT all o st
   (fun st=>opT X st o (thenK (fun st'=>rq (pinned R st') (k 1 st')) fun _ _=>none))
   (fun st=>rq (Nat.ble f 1) (k f { st with t:=setT st.t o.dst (.val undef) }))
noncomputable def goF {R':Type} (X:Cx E) (R:List Nat) (all:Array Oper):FT→Nat→Array Bool→TS E→(TS E→Option R')→Option R'
 | .done,_,L,st,k=>rq (Region.ready .any all L).isEmpty (k st)
 | .step i q t,f,L,st,k=>goS X R [] all [(i,q)] f L st (fun f' st'=>goF X R all t f' (L.setIfInBounds i true) st' k)
 | .fork i t j u,f,L,st,k=>rq (Region.ready .any all L==[i,j]) (agree
   (stepN X R all i f st (fun f' st'=>goF X R all t f' (L.setIfInBounds i true) st' k))
   (stepN X R all j f st (fun f' st'=>goF X R all u f' (L.setIfInBounds j true) st' k)))
theorem opsI_one {all:Array Oper} {i:Nat} {o:Oper} (h:all[i]? = some o) {q:Bool}:opsI all [(i,q)]=[o]:=by simp [opsI,h]
theorem stepN_sound {R':Type} (hX:X.Ok) {R:List Nat} {all:Array Oper} {ws:World} {Gs:Ghost} {Q:TS E→Prop} {n i f:Nat} {L:Array Bool} {k:Nat→TS E→Option R'} {r:R'} (h:stepN X R all i f st k=some r)
  (hrest:∀f' st',k f' st'=some r→Fr (wrL all (opsI all [(i,false)])) (noDefL (opsI all [(i,false)])) st st'→ADrawS ws Gs R [] X.P all f' n (L.setIfInBounds i true) st' Q) {a:Act} {w:World} {G:Ghost} (hr:Rel E ws Gs st a w G) (hf:f=0→w.heap=ws.heap∧G=Gs) (hp:f≤1→Pin ws Gs R w) :
  wpOp X.P all (CPost E ws Gs (onlyN Q)) i (fun a' w'=>(([]:List Nat).elem i=false→Pin ws Gs R w')∧wpAnyP X.P all (CPost E ws Gs (onlyN Q)) (Pin ws Gs R) [] n (L.setIfInBounds i true) a' w') a w:=by
 unfold stepN at h
 split at h<;>try (cases h;done)
 rename_i o ho
 have hfr:∀ {s1 s2:TS E} {nd:Bool},(nd=!(isDef o.op)∨nd=true)→Fr (guardT all o) true st s1→Fr (dstL o.dst) nd s1 s2→Fr (wrL all (opsI all [(i,false)])) (noDefL (opsI all [(i,false)])) st s2:=by
  intro s1 s2 nd hnd f0 f1
  rw [opsI_one ho]
  exact f0.trans f1 (fun i hi=>by simp [wrL,hi]) (fun i hi=>by simp [wrL,hi]) (fun h=>by
    simp only [noDefL,Bool.and_eq_true] at h;exact⟨rfl,by rcases hnd with rfl | rfl;exact h.1;rfl⟩)
 obtain⟨s1,f0,hr1,hc⟩:=gdT_some h hr
 unfold wpOp
 simp only [ho]
 rcases hc with⟨hw,h2⟩ | ⟨hw,h2⟩
 ·rw [if_pos hw]
  have hop:=opT_sound hX h2 ws Gs a w G hr1
  refine .inl (upon_mono (fun a' w' hn=>?_) (fun e a' w' hpp=>?_) hop)
  ·obtain⟨s2,G2,hr2,hk,f1⟩:=hn
   simp only [thenK] at hk
   obtain⟨hpin,hk⟩:=rq_some hk
   have hp2:=hr2.pin hpin
   exact⟨fun _=>hp2,hrest 1 _ hk (hfr (.inl rfl) f0 f1) a' w' G2 hr2 (fun e=>by cases e) (fun _=>hp2)⟩
  ·obtain⟨x,s2,G2,he,hr2,hn,hk,f1⟩:=hpp
   cases x<;>first | exact (hn rfl).elim | cases hk
 ·rw [if_neg (by rw [hw];simp)]
  obtain⟨h3,h2⟩:=rq_some h2
  have hp2:=hp (Nat.le_of_ble_eq_true h3)
  exact⟨fun _=>hp2,hrest f _ h2 (hfr (.inr rfl) f0 (Fr.put s1 o.dst (.val undef))) _ w G (hr1.put (v:=undef) (d:=.val undef) (by simp only [VT]) o.dst) hf hp⟩
theorem goF_sound {R':Type} (hX:X.Ok) {R:List Nat} {all:Array Oper} (hns:Region.noSelect all=true) {ws:World} {Gs:Ghost} (hRl:∀q,q∈R→q<Gs.i.length) {k:TS E→Option R'} {r:R'} :
  ∀(t:FT) (n f:Nat) (L:Array Bool) {st:TS E},t.n≤n→goF X R all t f L st k=some r→ADrawS ws Gs R [] X.P all f n L st (fun st'=>k st'=some r∧Fr (wrL all all.toList) (noDefL all.toList) st st'):=by
 have hW:∀l,∀j,j∈wrL all (opsI all l)→j∈wrL all all.toList:=fun l=>wrL_opsI (fun o ho=>opsI_mem ho)
 have hN:∀l,noDefL all.toList=true→noDefL (opsI all l)=true:=fun l=>noDefL_all (fun o ho=>opsI_mem ho)
 intro t
 induction t with
 | done =>
  intro n f L st hn h
  simp only [goF] at h
  obtain⟨h1,h2⟩:=rq_some h
  exact ADrawS.done h1 ⟨h2,Fr.refl _ _ _⟩ _
 | step i q t ih =>
  intro n f L st hn h
  simp only [FT.n] at hn
  simp only [goF] at h
  obtain⟨m,rfl⟩:∃m,n=[(i,q)].length+m:=⟨n - 1,by simp;omega⟩
  refine goS_sound hX hns hRl [(i,q)] f L h fun f' st' hk hf=>?_
  exact ADrawS.mono (fun s' hh=>⟨hh.1,hf.trans hh.2 (hW _) (fun j hj=>hj) (fun hn=>⟨hN _ hn,hn⟩)⟩) (ih m f' _ (by simp at hn;omega) hk)
 | fork i t j u iht ihu =>
  intro n f L st hn h
  simp only [FT.n] at hn
  simp only [goF] at h
  obtain⟨h1,h2⟩:=rq_some h
  have h1:Region.ready .any all L=[i,j]:=by simpa using h1
  obtain⟨ha,hb⟩:=agree_some h2
  obtain⟨m,rfl⟩:∃m,n=m+1:=⟨n - 1,by omega⟩
  have hmt:t.n≤m:=Nat.le_trans (Nat.le_max_left t.n u.n) (Nat.le_of_succ_le_succ hn)
  have hmu:u.n≤m:=Nat.le_trans (Nat.le_max_right t.n u.n) (Nat.le_of_succ_le_succ hn)
  intro a w G hr hf hp
  refine⟨fun he=>(by rw [he] at h1;cases h1),fun q hq=>?_⟩
  have hq':q=i∨q=j:=by rw [h1] at hq;simpa using hq
  rcases hq' with rfl | rfl
  ·exact stepN_sound hX ha (fun f' st' hk hf=>ADrawS.mono (fun s' hh=>⟨hh.1,hf.trans hh.2 (hW _) (fun j hj=>hj) (fun hn=>⟨hN _ hn,hn⟩)⟩) (iht m f' _ hmt hk)) hr hf hp
  ·exact stepN_sound hX hb (fun f' st' hk hf=>ADrawS.mono (fun s' hh=>⟨hh.1,hf.trans hh.2 (hW _) (fun j hj=>hj) (fun hn=>⟨hN _ hn,hn⟩)⟩) (ihu m f' _ hmu hk)) hr hf hp
noncomputable def drawF {R':Type} (X:Cx E) (R:List Nat) (ops:Array Oper) (c:Cut) (t:FT) (st:TS E) (k:TS E→Option R'):Option R' :=
 rq (((Region.noSelect ops&&Nat.ble t.n ops.size)&&R.all (fun q=>Nat.blt q st.H.length))&&(c.okW (wrL ops ops.toList)&&noDefL ops.toList))
  ((goF X R ops t 0 (Array.replicate ops.size false) { st with d:=[] } (fun st'=>c.pack { st with d:=[] } st')).bind fun x =>
    k { c.un (wrL ops ops.toList) { st with d:=[] } x with d:=(c.un (wrL ops ops.toList) { st with d:=[] } x).d++st.d })
theorem drawF_sound {R':Type} (hX:X.Ok) {id:Nat} {R:List Nat} {ops:Array Oper} {c:Cut} {t:FT} {k:TS E→Option R'} {r:R'} (h:drawF X R ops c t st k=some r) :
  AWp E X.P (.region id ops true) st (fun x st'=>x=.normal∧k st'=some r∧Fr (wrL ops ops.toList) (noDefL ops.toList) st st'):=by
 intro w0 G0 a w G hr
 have hs:Same w { w with drawn:=w.drawn+1 }:=⟨Nat.le_refl _,fun _ _=>rfl⟩
 have hr':=hr.grow (w':={ w with drawn:=w.drawn+1 }) hs rfl rfl rfl G.pr (fun _ _ h=>h) (fun _ _ _ h=>h) (fun b o hp=>Nat.lt_of_lt_of_le (hr.boxes.prok b o hp).1 hs.1)
 obtain⟨h1,h2⟩:=rq_some h
 simp only [Bool.and_eq_true] at h1
 obtain⟨⟨⟨hns,hn⟩,hR⟩,hcW,hnd⟩:=h1
 have hn:=Nat.le_of_ble_eq_true hn
 have hRl:∀q,q∈R→q<G.i.length:=fun q hq=>by
  have:=blt_iff.1 (List.all_eq_true.1 hR q hq)
  rw [hr.boxes.len];exact this
 have hroot:=hr'.root
 cases hg:goF X R ops t 0 (Array.replicate ops.size false) { st with d:=[] } (fun st'=>c.pack { st with d:=[] } st') with
 | none=>rw [hg] at h2;cases h2
 | some x =>
 rw [hg] at h2
 dsimp only [Option.bind] at h2
 have h3:=goF_sound hX hns (ws:={ w with drawn:=w.drawn+1 }) (Gs:=G) hRl t ops.size 0 _ hn hg a _ G hroot (fun _=>⟨rfl,rfl⟩) (fun _=>⟨fun _ _ _ _=>rfl,fun _ _ _ _ h=>h⟩)
 refine wp_region_any hX.mix ?_
 have h4:=wpAny_of_P _ _ _ _ h3
 have key:∀(fuel:Nat) (listed:Array Bool) (a:Act) (w:World) {Q1 Q2:Exit→Act→World→Prop},(∀e a w,Q1 e a w→Q2 e a w)→wpAny X.P .any ops Q1 fuel listed a w→wpAny X.P .any ops Q2 fuel listed a w:=by
  intro fuel
  induction fuel with
  | zero=>intro listed a w Q1 Q2 hq h;exact⟨h.1,hq _ _ _ h.2⟩
  | succ fuel ih =>
   intro listed a w Q1 Q2 hq h
   refine⟨fun he=>hq _ _ _ (h.1 he),fun i hi=>?_⟩
   have h1:=h.2 i hi
   unfold wpOp at h1 ⊢
   split
   ·rename_i ho;rw [ho] at h1;exact ih _ _ _ hq h1
   ·rename_i o ho
    rw [ho] at h1
    simp only at h1
    split
    ·rename_i hw
     rw [if_pos hw] at h1
     rcases h1 with h1 | ⟨h1,a1,w1,h2⟩
     ·exact .inl (upon_mono (fun a w h=>ih _ a w hq h) hq h1)
     ·exact .inr ⟨h1,a1,w1,hq _ _ _ h2⟩
    ·rename_i hw
     rw [if_neg hw] at h1
     exact ih _ _ _ hq h1
 refine key _ _ _ _ (fun e a' w' hp=>?_) h4
 obtain⟨x',s,G',he,hrr,rfl,hk,hF⟩:=hp
 obtain⟨⟨G2,hR2⟩,hF2⟩:=cut_step hX.E hroot.pre hrr (hF.wide (fun _ h=>h) (fun _=>hnd)) hcW hk
 refine⟨.normal,_,G2,by cases e<;>first | exact he.elim | trivial,hr'.unroot hR2,rfl,h2,?_⟩
 exact (hF2.wide (fun _ h=>h) (fun _=>rfl)).unroot
end
end Go.RT
namespace Go.RT
set_option linter.unusedVariables false
variable {E : TEnv}
def putO (st:TS E) (dst:Option Nat) (d:TV E):TS E:={ st with t:=setT st.t dst d }
structure RevS where
 m1:Oper
 cv:Oper
 as:Oper
 m2:Oper
 cl:Oper
 q1:Oper
 q2:Oper
 q3:Oper
 q4:Oper
 x1:Operand
 sT:TypeId
 bT:TypeId
 f:FuncId
 call:Call
 x5:Operand
 x6:Operand
 rest:List Oper
def revS (A B C:List Oper):Option RevS:=match A,B,C with
 | [m1,cv,as],[m2,cl],q1::q2::q3::q4::rest=>match m1.op,cv.op,cl.op with
  | .move x1,.convert sT bT _,.call c=>match c.callee,q1.op,q2.op with
   | .value (.func f),.move x5,.move x6=>some ⟨m1,cv,as,m2,cl,q1,q2,q3,q4,x1,sT,bT,f,c,x5,x6,rest⟩
   | _,_,_=>none
  | _,_,_=>none
 | _,_,_=>none
def isTmp (x:Operand) (d:Option Nat) (n:Nat):Bool:=match x,d with
 | .tmp i,some j=>Nat.beq i j&&Nat.blt i n
 | _,_=>false
theorem isTmp_ok {x:Operand} {d:Option Nat} {n:Nat} (h:isTmp x d n=true):∃i,x=.tmp i∧d=some i∧i<n:=by
 unfold isTmp at h
 split at h
 ·rename_i i j
  rw [Bool.and_eq_true] at h
  exact⟨i,rfl,by rw [Nat.eq_of_beq_eq_true h.1],blt_iff.1 h.2⟩
 ·cases h
def notDst (d e:Option Nat):Bool:=match d,e with
 | some i,some j=>!(Nat.beq i j)
 | _,_=>true
def opAs (o:Oper) (d:Option Nat) (n:Nat):Bool:=match o.op with
 | .assign x=>isTmp x d n
 | _=>false
def opMv (o:Oper) (d:Option Nat) (n:Nat):Bool:=match o.op with
 | .move x=>isTmp x d n
 | _=>false
def opCv (o:Oper) (s t:TypeId) (d:Option Nat) (n:Nat):Bool:=match o.op with
 | .convert s' t' x=>Nat.beq s' s&&(Nat.beq t' t&&isTmp x d n)
 | _=>false
def noG (o:Oper):Bool:=match o.guard with
 | none=>true
 | some _=>false
def RevS.tys (P:Program) (s:RevS):Bool:=match tinfo P s.sT,tinfo P s.bT with
 | some ⟨.string,_,_,_⟩,some ⟨.slice e,_,_,_⟩=>match tinfo P e with
  | some ⟨.int .u8,_,_,_⟩=>true
  | _=>false
 | _,_=>false
def RevS.ok (X:Cx E) (n:Nat) (s:RevS):Bool :=
 ((noG s.m1&&(noG s.cv&&(noG s.as&&(noG s.m2&&noG s.cl))))&&(noG s.q1&&(noG s.q2&&(noG s.q3&&noG s.q4)))) &&
 ((opCv s.cv s.sT s.bT s.m1.dst n&&(opAs s.as s.cv.dst n&&opMv s.m2 s.as.dst n))&&(opMv s.q3 s.as.dst n&&opCv s.q4 s.bT s.sT s.q3.dst n)) &&
 ((match s.call.args.toList with | [x]=>isTmp x s.m2.dst n | _=>false)&&(notDst s.as.dst s.m2.dst&&(notDst s.as.dst s.cl.dst&&(notDst s.as.dst s.q1.dst&&notDst s.as.dst s.q2.dst)))) &&
 (s.tys X.P&&(match X.rv with | some g=>Nat.beq g s.f | none=>false))
def RevS.s5 (s:RevS) (st:TS E) (l:List UInt8):TS E:=putO (putO (putO (putO (putO st s.m1.dst (.dat .str l)) s.cv.dst .any) s.as.dst .any) s.m2.dst .any) s.cl.dst .any
def RevS.s6 (s:RevS) (st:TS E) (l:List UInt8):TS E:=putO (s.s5 st l) s.q1.dst ((s.s5 st l).ev s.x5)
def RevS.s9 (s:RevS) (st:TS E) (l:List UInt8):TS E:=putO (putO (putO (s.s6 st l) s.q2.dst ((s.s6 st l).ev s.x6)) s.q3.dst .any) s.q4.dst (.dat .str l.reverse)
noncomputable def revT {R:Type} (X:Cx E) (A B C:Array Oper) (st:TS E) (k:Ex E→TS E→Option R):Option R:=match revS A.toList B.toList C.toList with
 | none=>none
 | some s=>match st.ev s.x1 with
  | .dat .str l=>cond (s.ok X st.t.length&&(noDefL A.toList&&(noDefL B.toList&&noDefL C.toList))) (rq (decide (l.length≤9223372036854775807)) (opsT X C s.rest (s.s9 st l) k)) none
  | _=>none
section
variable {P : Program} {ops : Array Oper} {Q : Exit → Act → World → Prop} {a : Act} {w w' : World} {o : Oper} {rest : List Oper}
theorem wpList_val {v:Value} (hg:noG o=true) (h:(execOp a.eval o).run P w=.ok (.value v) w') (hk:wpList P ops Q rest (a.put o.dst v) w'):wpList P ops Q (o::rest) a w:=by
 unfold wpList
 have:o.guard=none:=by unfold noG at hg;split at hg<;>first | assumption | cases hg
 rw [if_pos (by simp [Region.wanted,this])]
 refine .inl ?_
 unfold Oper.wp
 rw [h]
 exact hk
theorem wpList_call {f:FuncId} {args:Array Value} (hg:noG o=true) (h:(execOp a.eval o).run P w=.ok (.enter f args) w) (hk:Calls P f args w fun e w'=>∃v,e=.returned v∧wpList P ops Q rest (a.put o.dst v) w'):wpList P ops Q (o::rest) a w:=by
 unfold wpList
 have:o.guard=none:=by unfold noG at hg;split at hg<;>first | assumption | cases hg
 rw [if_pos (by simp [Region.wanted,this])]
 refine .inl ?_
 unfold Oper.wp
 rw [h]
 refine Calls.mono hk fun e w'' he=>?_
 obtain⟨v,rfl,hk⟩:=he
 exact hk
theorem run_mv {x:Operand} (ho:o.op=.move x):(execOp a.eval o).run P w=.ok (.value (a.eval x)) w:=by simp [execOp,ho]
theorem run_as {x:Operand} (ho:o.op=.assign x):(execOp a.eval o).run P w=.ok (.value (a.eval x)) w:=by simp [execOp,ho]
theorem eval_put {i:Nat} {d:Option Nat} {v:Value} (hd:d=some i) (hi:i<a.tmps.size):(a.put d v).eval (.tmp i)=v:=by
 have:=put_getD a d v i
 rw [if_pos ⟨hd,hi⟩] at this
 exact this
theorem eval_other {i:Nat} {d:Option Nat} {v:Value} (hd:d≠some i):(a.put d v).eval (.tmp i)=a.eval (.tmp i):=by
 have:=put_getD a d v i
 rw [if_neg (fun h=>hd h.1)] at this
 exact this
theorem notDst_ok {i:Nat} {e:Option Nat} (h:notDst (some i) e=true):e≠some i:=by
 intro he
 subst he
 simp [notDst] at h
end
theorem holds_bytes (w:World) (e:TypeId) (l:List UInt8):Sort.Holds (Value.int .u8) (Lib.bytesWorld w e ⟨⟨l⟩⟩) w.heap.size 0 (toInts l).toArray:=by
 intro j hj
 have hj':j<l.length:=by simpa [toInts] using hj
 have e1:(toInts l).toArray[j]! = ((l.getD j 0).toNat:Int):=by simp [toInts,hj',List.getD]
 rw [Nat.zero_add,e1]
 refine⟨Lib.bytesWorld_cell w e ⟨⟨l⟩⟩ j hj',?_⟩
 unfold World.frozen?
 have hsz:j<(Lib.bytesCells w e ⟨⟨l⟩⟩).size:=by
  unfold Lib.bytesCells
  rw [Array.size_append,Array.size_map]
  exact Nat.lt_of_lt_of_le hj' (Nat.le_add_right l.length _)
 simp only [Lib.bytesWorld_at_new]
 simp
 omega
theorem revP_sound {X:Cx E} (hX:X.Ok) {st:TS E} {A B C:List Oper} {s:RevS} (hs:revS A B C=some s) {l:List UInt8} (hx:st.ev s.x1=.dat .str l) (hok:s.ok X st.t.length=true) (hl:l.length≤9223372036854775807)
  {w0 w:World} {G0 G:Ghost} {a:Act} (hr:Rel E w0 G0 st a w G) :
  ∃a3 w1,(∀ops Q,Q .normal a3 w1→wpList X.P ops Q A a w)∧∃W2:Act→World→Prop,(∀ops Q,(∀a5 w2,W2 a5 w2→Q .normal a5 w2)→wpList X.P ops Q B a3 w1) ∧
   ∀a5 w2,W2 a5 w2→∃a9,(∃G',Rel E w0 G0 (s.s9 st l) a9 w2 G')∧∀ops Q,wpList X.P ops Q s.rest a9 w2→wpList X.P ops Q C a5 w2:=by
 have hsz:=hr.size
 unfold revS at hs
 split at hs<;>try (cases hs;done)
 rename_i m1 cv as m2 cl q1 q2 q3 q4 rest
 split at hs<;>try (cases hs;done)
 rename_i x1 sT bT xc c hm1 hcv hcl
 split at hs<;>try (cases hs;done)
 rename_i f x5 x6 hcal hq1 hq2
 cases hs
 simp only [RevS.ok,Bool.and_eq_true] at hok
 obtain⟨⟨⟨⟨⟨g1,g2,g3,g4,g5⟩,g6,g7,g8,g9⟩,⟨k1,k2,k3⟩,k4,k5⟩,k6,n1,n2,n3,n4⟩,hty,hrv⟩:=hok
 dsimp only at hx
 unfold opCv at k1
 rw [hcv] at k1
 simp only [Bool.and_eq_true] at k1
 obtain⟨y1,rfl,d1,l1⟩:=isTmp_ok k1.2.2
 unfold opAs at k2
 split at k2<;>try (cases k2;done)
 rename_i xa has
 obtain⟨y2,rfl,d2,l2⟩:=isTmp_ok k2
 unfold opMv at k3
 split at k3<;>try (cases k3;done)
 rename_i xm hm2
 obtain⟨y3,rfl,d3,l3⟩:=isTmp_ok k3
 unfold opMv at k4
 split at k4<;>try (cases k4;done)
 rename_i xq hq3
 obtain⟨y3',rfl,d3',l3'⟩:=isTmp_ok k4
 have:y3'=y3:=by rw [d3] at d3';exact (Option.some.inj d3').symm
 subst this
 unfold opCv at k5
 split at k5<;>try (cases k5;done)
 rename_i bT' sT' xz hq4
 simp only [Bool.and_eq_true] at k5
 have e1:=Nat.eq_of_beq_eq_true k5.1
 have e2:=Nat.eq_of_beq_eq_true k5.2.1
 subst e1 e2
 obtain⟨y8,rfl,d8,l8⟩:=isTmp_ok k5.2.2
 split at k6<;>try (cases k6;done)
 rename_i xk hargs
 obtain⟨y4,rfl,d4,l4⟩:=isTmp_ok k6
 rw [d3] at n1 n2 n3 n4
 have n1:=notDst_ok n1
 have n2:=notDst_ok n2
 have n3:=notDst_ok n3
 have n4:=notDst_ok n4
 unfold RevS.tys at hty
 split at hty<;>try (cases hty;done)
 rename_i i1 i2 z1 e i3 i4 z2 hts htb
 split at hty<;>try (cases hty;done)
 rename_i i5 i6 z3 hte
 obtain⟨_,_,hus,-⟩:=tinfo_some hts
 obtain⟨_,_,hub,-⟩:=tinfo_some htb
 obtain⟨_,_,hue,-⟩:=tinfo_some hte
 split at hrv<;>try (cases hrv;done)
 rename_i g hg
 have hf:=Nat.eq_of_beq_eq_true hrv
 subst hf
 have hR:=hX.rv g hg
 have hv1:=hr.ev x1
 rw [hx] at hv1
 have hev1:=hv1.str_inv
 obtain⟨V,hV⟩:∃V:Value,V=.slice (some ⟨w.heap.size,0,none⟩) l.length (grownCap w l.length 0 e):=⟨_,rfl⟩
 obtain⟨w1,hw1⟩:∃w1,w1=Lib.bytesWorld w e ⟨⟨l⟩⟩:=⟨_,rfl⟩
 have r1:=hr.put (v:=a.eval x1) (d:=.dat .str l) (by rw [←hx];exact hr.ev x1) m1.dst
 have r2:=r1.put (v:=V) (d:=.any) (by simp only [VT]) cv.dst
 have r3:=r2.put (v:=V) (d:=.any) (by simp only [VT]) as.dst
 have r4:=r3.put (v:=V) (d:=.any) (by simp only [VT]) m2.dst
 have r5:=r4.put (v:=.tuple #[]) (d:=.any) (by simp only [VT]) cl.dst
 have sz:∀(b:Act) (d:Option Nat) (v:Value),(b.put d v).tmps.size=b.tmps.size:=put_size
 refine⟨((a.put m1.dst (a.eval x1)).put cv.dst V).put as.dst V,w1,fun ops Q hQ=>?_,fun a5 w2=>a5=((((a.put m1.dst (a.eval x1)).put cv.dst V).put as.dst V).put m2.dst V).put cl.dst (.tuple #[])∧∃n,w2=Sort.putRow (Value.int .u8) (Sort.ahead w1 n) w.heap.size 0 (toInts l).reverse.toArray,fun ops Q hQ=>?_,?_⟩
 ·refine wpList_val g1 (run_mv hm1) (wpList_val (v:=V) (w':=w1) g2 ?_ (wpList_val (v:=V) (w':=w1) g3 ?_ hQ))
  ·have hrun:(convert sT' bT' ((a.put m1.dst (a.eval x1)).eval (.tmp y1))).run X.P w=.ok V w1:=by
    rw [eval_put d1 (by rw [hsz];exact l1),hev1,hV,hw1]
    exact Lib.run_convert_string_bytes w sT' bT' e ⟨⟨l⟩⟩ hus hub hue
   simp only [execOp,hcv,Sem.run_bind,hrun,Result.andThen_ok,Sem.run_pure]
  ·rw [run_as has,eval_put d2 (by rw [sz,hsz];exact l2)]
 ·refine wpList_val (v:=V) (w':=w1) g4 ?_ (wpList_call (f:=g) (args:=#[V]) g5 ?_ ?_)
  ·rw [run_mv hm2,eval_put d3 (by rw [sz,sz,hsz];exact l3)]
  ·have hfv:=r4.ev (.func g)
   simp only [TS.ev,VT] at hfv
   obtain⟨vs,hfe,hvs⟩:=hfv
   have hvs:vs.toList=[]:=by simpa only [VTs] using hvs
   have hvs:vs=#[]:=by apply Array.ext';exact hvs
   subst hvs
   have ha:c.args=#[.tmp y4]:=by apply Array.ext';exact hargs
   have hev4:((((a.put m1.dst (a.eval x1)).put cv.dst V).put as.dst V).put m2.dst V).eval (.tmp y4)=V:=eval_put d4 (by rw [sz,sz,sz,hsz];exact l4)
   have:(execOp ((((a.put m1.dst (a.eval x1)).put cv.dst V).put as.dst V).put m2.dst V).eval cl).run X.P w1=(callFunc g #[V]).run X.P w1:=by
    simp only [execOp,hcl,resolve,hcal,hfe,Deferred.ofValue,Sem.run_bind,Sem.run_pure,Result.andThen_ok,invoke,ha]
    simp [hev4]
   rw [this,hR.enters]
  ·have hlen:(toInts l).length=l.length:=by simp [toInts]
   have hH:Sort.Holds (Value.int .u8) w1 w.heap.size 0 (toInts l).toArray:=by rw [hw1];exact holds_bytes w e l
   have hc:=hR.call w.heap.size (grownCap w l.length 0 e) (toInts l) w1 hH (by rw [hlen];exact hl)
   rw [hlen,←hV] at hc
   refine hc.mono fun e' w' he=>?_
   obtain⟨rfl,n,hn⟩:=he
   exact⟨_,rfl,hQ _ _ ⟨rfl,n,hn⟩⟩
 ·rintro a5 w2 ⟨rfl,n,hw2⟩
  have hV3:∀(b:Act),b.eval (.tmp y3')=V→b.tmps.size=a.tmps.size→True:=fun _ _ _=>trivial
  have e3:(((a.put m1.dst (a.eval x1)).put cv.dst V).put as.dst V).eval (.tmp y3')=V:=eval_put d3 (by rw [sz,sz,hsz];exact l3)
  have e4:((((a.put m1.dst (a.eval x1)).put cv.dst V).put as.dst V).put m2.dst V).eval (.tmp y3')=V:=by rw [eval_other n1];exact e3
  have e5:(((((a.put m1.dst (a.eval x1)).put cv.dst V).put as.dst V).put m2.dst V).put cl.dst (.tuple #[])).eval (.tmp y3')=V:=by rw [eval_other n2];exact e4
  have s5:(((((a.put m1.dst (a.eval x1)).put cv.dst V).put as.dst V).put m2.dst V).put cl.dst (.tuple #[])).tmps.size=a.tmps.size:=by rw [sz,sz,sz,sz,sz]
  generalize (((((a.put m1.dst (a.eval x1)).put cv.dst V).put as.dst V).put m2.dst V).put cl.dst (.tuple #[]))=a5 at r5 e5 s5 ⊢
  have r6:=r5.put (r5.ev x5) q1.dst
  have r7:=r6.put (r6.ev x6) q2.dst
  have r8:=r7.put (v:=V) (d:=.any) (by simp only [VT]) q3.dst
  have r9:=r8.put (v:=mkStr l.reverse) (d:=.dat .str l.reverse) (.str _ _ _) q4.dst
  have e7:((a5.put q1.dst (a5.eval x5)).put q2.dst ((a5.put q1.dst (a5.eval x5)).eval x6)).eval (.tmp y3')=V:=by rw [eval_other n4,eval_other n3];exact e5
  have hold:∀j,j<w.heap.size→w2.heap[j]? = w.heap[j]?:=fun j hj=>by
   rw [hw2]
   have h1:(Sort.putRow (Value.int .u8) (Sort.ahead w1 n) w.heap.size 0 (toInts l).reverse.toArray).heap[j]? = w1.heap[j]?:=by
    simp only [Sort.putRow,Sort.mapBlock,Sort.ahead,Array.getElem?_modify]
    rw [if_neg (by omega)]
   rw [h1,hw1]
   exact Lib.bytesWorld_at_old w e _ j hj
  have hsize:w.heap.size≤w2.heap.size:=by
   rw [hw2,Sort.size_putRow]
   show w.heap.size≤w1.heap.size
   rw [hw1,Lib.bytesWorld_size]
   omega
  refine⟨_,⟨_,r9.grow (w':=w2) ⟨hsize,hold⟩ (by rw [hw2,hw1];rfl) (by rw [hw2,hw1];rfl) (by rw [hw2,hw1];rfl) G.pr (fun _ _ h=>h) (fun _ _ _ h=>h) (fun b o hp=>Nat.lt_of_lt_of_le (r9.boxes.prok b o hp).1 hsize)⟩,fun ops Q hQ=>?_⟩
  refine wpList_val g6 (run_mv hq1) (wpList_val g7 (run_mv hq2) (wpList_val (v:=V) (w':=w2) g8 ?_ (wpList_val (v:=mkStr l.reverse) (w':=w2) g9 ?_ hQ)))
  ·rw [run_mv hq3,e7]
  ·have e8:(((a5.put q1.dst (a5.eval x5)).put q2.dst ((a5.put q1.dst (a5.eval x5)).eval x6)).put q3.dst V).eval (.tmp y8)=V:=eval_put d8 (by rw [sz,sz,s5,hsz];exact l8)
   have hH:=Sort.holds_putRow (Value.int .u8) (Sort.ahead w1 n) w.heap.size 0 (toInts l).toArray (toInts l).reverse.toArray (by
    have:=holds_bytes w e l
    rw [←hw1] at this
    intro j hj
    exact this j hj) (by simp)
   rw [←hw2] at hH
   have hlen:(toInts l).reverse.length=l.length:=by simp [toInts]
   have hcell:∀(j:Nat) m,(toInts l).reverse[j]? = some m→w2.cell? ((⟨w.heap.size,0,none⟩:Addr).add j)=some (.int .u8 m):=fun j m hj=>by
    have hjl:j<(toInts l).reverse.length:=(List.getElem?_eq_some_iff.1 hj).1
    have:=(hH j (by simpa using hjl)).1
    rw [add_lit]
    rw [this]
    congr 2
    have:(toInts l).reverse[j]=m:=(List.getElem?_eq_some_iff.1 hj).2
    rw [←this]
    simp at hjl
    simp [hjl]
   have hb:=run_bytesStr (P:=X.P) (w:=w2) ⟨w.heap.size,0,none⟩ (grownCap w l.length 0 e) (toInts l).reverse hcell
   rw [hlen,←hV] at hb
   have hbr:toBytes (toInts l).reverse=l.reverse:=by
    unfold toBytes toInts
    rw [List.map_reverse,List.map_map]
    congr 1
    conv=>rhs;rw [←List.map_id l]
    apply List.map_congr_left
    intro b _
    simp
   rw [hbr] at hb
   have hrun:(convert bT' sT' V).run X.P w2=.ok (mkStr l.reverse) w2:=by
    rw [hV] at hb ⊢
    unfold convert
    simp only [Sem.run_bind,run_underlying' hus,run_underlying' hub,Result.andThen_ok,run_underlying' hue,hb]
   simp only [execOp,hq4,e8,Sem.run_bind,hrun,Result.andThen_ok,Sem.run_pure]
theorem Fr.putO {W:List Nat} {st s1:TS E} (h:Fr W true st s1) {dst:Option Nat} (d:TV E) (hd:∀i,i∈dstL dst→i∈W):Fr W true st (putO s1 dst d) :=
 h.trans (Fr.put s1 dst d) (fun _ h=>h) hd (fun _=>⟨rfl,rfl⟩)
theorem rev_fr {A B C:List Oper} {s:RevS} (hs:revS A B C=some s) (st:TS E) (l:List UInt8) {W:List Nat} (hW:∀o,o∈A++B++C→∀i,i∈dstL o.dst→i∈W):Fr W true st (s.s9 st l):=by
 unfold revS at hs
 split at hs<;>try (cases hs;done)
 split at hs<;>try (cases hs;done)
 split at hs<;>try (cases hs;done)
 cases hs
 unfold RevS.s9 RevS.s6 RevS.s5
 refine Fr.putO (Fr.putO (Fr.putO (Fr.putO (Fr.putO (Fr.putO (Fr.putO (Fr.putO (Fr.putO (Fr.refl _ _ _) _ ?_) _ ?_) _ ?_) _ ?_) _ ?_) _ ?_) _ ?_) _ ?_) _ ?_
 all_goals exact fun i hi=>hW _ (by simp) i hi
theorem rev_rest {A B C:List Oper} {s:RevS} (hs:revS A B C=some s):∃l,C=l++s.rest:=by
 unfold revS at hs
 split at hs<;>try (cases hs;done)
 rename_i m1 cv as m2 cl q1 q2 q3 q4 rest
 split at hs<;>try (cases hs;done)
 split at hs<;>try (cases hs;done)
 cases hs
 exact⟨[q1,q2,q3,q4],rfl⟩
end Go.RT
namespace Go.RT
set_option linter.unusedVariables false
variable {E : TEnv}
def jj {σ R:Type} (x:Option (σ ⊕ R)) (k:σ→Option R):Option R:=x.bind (sm k some)
def loopF {σ R:Type} (body:(σ→Option R)→σ→Option R):Nat→σ→Option R
 | 0,_=>none
 | n+1,s=>body (loopF body n) s
inductive Own where
 | slot (i:Nat) (e:TypeId) (t:Ty)
 | cell (r c:Nat) (e:TypeId) (t:Ty)
 | soft (i:Nat) (e:TypeId) (t:Ty)
 | csoft (r c:Nat) (e:TypeId) (t:Ty)
def adoptT (W:List Nat):List Own→TS E→Option (TS E)
 | [],st=>some st
 | .slot i e T::os,st=>match st.t[i]? with
  | some (.val (.slice none 0 0))=>cond (W.elem i) (adoptT W os { st with t:=st.t.set i (.gsl st.g.length 0 T []),g:=st.g++[⟨0,e,T.size E⟩] }) none
  | _=>none
 | .cell r c e T::os,st=>match st.H[r]? with
  | some (.cells t cs)=>match cs[c]? with
   | some (.val (.slice none 0 0))=>adoptT W os { st with H:=st.H.set r (.cells t (cs.set c (.gsl st.g.length 0 T []))),g:=st.g++[⟨0,e,T.size E⟩],d:=r::st.d }
   | _=>none
  | _=>none
 | .soft i e T::os,st=>match st.t[i]? with
  | some (.val (.slice none 0 0))=>cond (W.elem i&&Nat.blt 0 (T.size E)) (adoptT W os { st with t:=st.t.set i (.gso st.g.length 0),g:=st.g++[⟨0,e,T.size E⟩],c:=(st.g.length,⟨T,[]⟩)::st.c }) none
  | _=>none
 | .csoft r c e T::os,st=>match st.H[r]? with
  | some (.cells t cs)=>match cs[c]? with
   | some (.val (.slice none 0 0))=>cond (Nat.blt 0 (T.size E)) (adoptT W os { st with H:=st.H.set r (.cells t (cs.set c (.gso st.g.length 0))),g:=st.g++[⟨0,e,T.size E⟩],d:=r::st.d,c:=(st.g.length,⟨T,[]⟩)::st.c }) none
   | _=>none
  | _=>none
def yieldT {R:Type} (X:Cx E) (st:TS E) (o:Oper) (k:TS E→Option R):Option R :=
 match o.guard,o.op with
 | none,.call c=>match c.callee with
  | .value x=>match st.ev x with
   | .yld r=>match st.H[r]? with
    | some (.loop y ds)=>match E.ydn y with
     | some n=>cond (Nat.beq c.args.size n) (callK st o.dst y (c.args.toList.map st.ev++ds) (thenK k fun _ _=>none) X.Y) none
     | none=>none
    | _=>none
   | _=>none
  | _=>none
 | _,_=>none
noncomputable def yrun {R:Type} (X:Cx E) (ops:Array Oper) (i:Nat) (st:TS E) (k:Ex E→TS E→Option R):Option R :=
 match ops.toList.drop i with
 | o::rest=>rq (noDefL (ops.toList.take i)&&noDefL rest) (opsT X ops (ops.toList.take i) st (thenK (fun st1=>yieldT X st1 o fun st2=>opsT X ops rest st2 k) k))
 | []=>none
inductive Plan where
 | leaf
 | yat (i:Nat)
 | region (l:List (Nat × Cut × Bool))
 | draw (l:List DSeg)
 | drawP (R Z:List Nat) (l:List SSeg)
 | drawF (R:List Nat) (c:Cut) (t:FT)
 | rev
 | seq (ow:List Own) (c:Option (Cut × Bool)) (p q:Plan)
 | cond (p q:Plan)
 | loop (ow:List Own) (c:Cut) (p:Plan)
 | rseq (ow:List Own) (p q:Plan)
 | rblk (p:Plan)
 | range (ow:List Own) (y f:FuncId) (keep:List Nat)
def Plan.l:Plan→Plan
 | .cond p _=>p
 | _=>.leaf
def Plan.r:Plan→Plan
 | .cond _ q=>q
 | _=>.leaf
def wr:Code→List Nat
 | .region _ ops _=>wrL ops ops.toList
 | .seq a b=>wr a++wr b
 | .cond _ a b=>wr a++wr b
 | .block _ a=>wr a
 | .scope a=>wr a
 | .loop a=>wr a
 | _=>[]
def noDef:Code→Bool
 | .region _ ops _=>noDefL ops.toList
 | .seq a b=>noDef a&&noDef b
 | .cond _ a b=>noDef a&&noDef b
 | .block _ a=>noDef a
 | .scope a=>noDef a
 | .loop a=>noDef a
 | _=>true
def goK {σ R:Type} (x:Option σ):Option (σ ⊕ R):=x.bind fun s=>some (.inl s)
def retK {σ R:Type} (x:Option R):Option (σ ⊕ R):=x.bind fun r=>some (.inr r)
noncomputable def segs {R:Type} (X:Cx E) (all:Array Oper):List (Nat × Cut × Bool)→List Oper→TS E→(Ex E→TS E→Option R)→Option R
 | [],l,st,k=>opsT X all l st k
 | s::cs,l,st,k=>rq (s.2.1.okW (wrL all (l.take s.1))&&noDefL (l.take s.1)) (cond s.2.2
   (jj (opsT X all (l.take s.1) st (thenK (fun st'=>goK (s.2.1.pack st st')) fun e st'=>retK (k e st'))) fun x=>segs X all cs (l.drop s.1) (s.2.1.un (wrL all (l.take s.1)) st x) k)
   ((opsT X all (l.take s.1) st (thenK (fun st'=>s.2.1.pack st st') fun _ _=>none)).bind fun x=>segs X all cs (l.drop s.1) (s.2.1.un (wrL all (l.take s.1)) st x) k))
abbrev blockK {R:Type} (i:Nat) (k:Ex E→TS E→Option R):Ex E→TS E→Option R
 | .exit j,st=>cond (Nat.beq j i) (k .normal st) (k (.exit j) st)
 | e,st=>k e st
abbrev scopeK {R:Type} (k:Ex E→TS E→Option R):Ex E→TS E→Option R
 | .goto _,_=>none
 | e,st=>k e st
noncomputable def runT (X:Cx E) (F:Nat):Code→Plan→{R:Type}→TS E→(Ex E→TS E→Option R)→Option R
 | .skip,_,_,st,k=>k .normal st
 | .label _,_,_,st,k=>k .normal st
 | .exit i,_,_,st,k=>k (.exit i) st
 | .ret,_,_,st,k=>k .ret st
 | .region _ ops dr,p,_,st,k=>scond dr (match p with
   | .draw ss=>drawT X ops.toList 0 ss st (k .normal)
   | .drawP R Z ss=>drawP X R Z ops ss st (k .normal)
   | .drawF R c t=>drawF X R ops c t st (k .normal)
   | _=>none) (match p with
   | .region cs=>segs X ops cs ops.toList st k
   | .yat i=>yrun X ops i st k
   | _=>opsT X ops ops.toList st k)
 | .seq a b,p,_,st,k=>match p with
  | .seq ow c p q=>match adoptT (wr a++wr b) ow st with
   | none=>none
   | some st=>match c with
    | none=>runT X F a p st (thenK (fun st'=>runT X F b q st' k) k)
    | some (c,j)=>rq (c.okW (wr a)&&noDef a) (_root_.cond j
     (jj (runT X F a p st (thenK (fun st'=>goK (c.pack st st')) fun e st'=>retK (k e st'))) fun x=>runT X F b q (c.un (wr a) st x) k)
     ((runT X F a p st (thenK (fun st'=>c.pack st st') fun _ _=>none)).bind fun x=>runT X F b q (c.un (wr a) st x) k))
  | .rev=>match a,b with
   | .region _ A false,.seq (.region _ B false) (.region _ C false)=>revT X A B C st k
   | _,_=>none
  | _=>runT X F a .leaf st (thenK (fun st'=>runT X F b .leaf st' k) k)
 | .cond c a b,p,_,st,k=>match st.ev c with
  | .dat .bool v=>_root_.cond v (runT X F a p.l st k) (runT X F b p.r st k)
  | _=>none
 | .block i a,p,_,st,k=>runT X F a p st (blockK i k)
 | .scope a,p,_,st,k=>runT X F a p st (scopeK k)
 | .loop a,p,_,st,k=>match p with
  | .loop ow c p=>match adoptT (wr a) ow st with
   | none=>none
   | some st=>rq (c.okW (wr a)&&noDef a) ((c.pack st st).bind fun s=>loopF (fun rc s=>runT X F a p (c.un (wr a) st s) (thenK (fun st'=>(c.pack st st').bind rc) k)) F s)
  | _=>none
 | _,_,_,_,_=>none
section
variable {X : Cx E} {st : TS E}
theorem AWp.mono {P:Program} {c:Code} {Q Q':Ex E→TS E→Prop} (h:AWp E P c st Q) (hq:∀x s,Q x s→Q' x s):AWp E P c st Q':=fun w0 G0 a w G hr =>
 wp_mono (h w0 G0 a w G hr) fun _ _ _ hp=>CPost.mono hq hp
theorem adoptT_sound {W:List Nat} {w0 w:World} {G0:Ghost} {a:Act}:∀ {os:List Own} {st st':TS E} {G:Ghost},adoptT W os st=some st'→Rel E w0 G0 st a w G→(∃G',Rel E w0 G0 st' a w G')∧Fr W true st st'
 | [],st,st',G,h,hr=>by cases h;exact⟨⟨G,hr⟩,Fr.refl _ _ _⟩
 | .slot i e T::os,st,st',G,h,hr=>by
  simp only [adoptT] at h
  split at h<;>try (cases h;done)
  rename_i hi
  cases hw:W.elem i<;>rw [hw] at h<;>simp only [cond_true,cond_false] at h
  ·cases h
  obtain⟨G1,hr1⟩:=hr.adopt hi e T
  obtain⟨h1,h2⟩:=adoptT_sound h hr1
  have f1:Fr [i] true st { st with t:=st.t.set i (.gsl st.g.length 0 T []),g:=st.g++[⟨0,e,T.size E⟩] }:=⟨by simp,fun j hj=>by
   show (st.t.set i _)[j]? = _
   rw [List.getElem?_set_ne (fun e=>hj (by simp [e]))],⟨[],rfl,fun _ _ _=>rfl⟩,Nat.le_refl _,fun _=>rfl⟩
  exact⟨h1,f1.trans h2 (fun j hj=>by simp at hj;subst hj;exact List.mem_of_elem_eq_true hw) (fun _ h=>h) (fun _=>⟨rfl,rfl⟩)⟩
 | .cell r c e T::os,st,st',G,h,hr=>by
  simp only [adoptT] at h
  split at h<;>try (cases h;done)
  rename_i t cs hH
  split at h<;>try (cases h;done)
  rename_i hc
  obtain⟨G1,hr1⟩:=hr.adoptCell hH hc e T
  obtain⟨h1,h2⟩:=adoptT_sound h hr1
  have f1:Fr [] true st { st with H:=st.H.set r (.cells t (cs.set c (.gsl st.g.length 0 T []))),g:=st.g++[⟨0,e,T.size E⟩],d:=r::st.d }:=⟨rfl,fun _ _=>rfl,⟨[r],rfl,set_same _ _ _⟩,by simp,fun _=>rfl⟩
  exact⟨h1,f1.trans h2 (fun j hj=>by cases hj) (fun _ h=>h) (fun _=>⟨rfl,rfl⟩)⟩
 | .soft i e T::os,st,st',G,h,hr=>by
  simp only [adoptT] at h
  split at h<;>try (cases h;done)
  rename_i hi
  cases hw:(W.elem i&&Nat.blt 0 (T.size E))<;>rw [hw] at h<;>simp only [cond_true,cond_false] at h
  ·cases h
  rw [Bool.and_eq_true] at hw
  obtain⟨G1,hr1⟩:=hr.adoptS hi e T (Nat.le_of_ble_eq_true hw.2)
  obtain⟨h1,h2⟩:=adoptT_sound h hr1
  have f1:Fr [i] true st { st with t:=st.t.set i (.gso st.g.length 0),g:=st.g++[⟨0,e,T.size E⟩],c:=(st.g.length,⟨T,[]⟩)::st.c }:=⟨by simp,fun j hj=>by
   show (st.t.set i _)[j]? = _
   rw [List.getElem?_set_ne (fun e=>hj (by simp [e]))],⟨[],rfl,fun _ _ _=>rfl⟩,Nat.le_refl _,fun _=>rfl⟩
  exact⟨h1,f1.trans h2 (fun j hj=>by simp at hj;subst hj;exact List.mem_of_elem_eq_true hw.1) (fun _ h=>h) (fun _=>⟨rfl,rfl⟩)⟩
 | .csoft r c e T::os,st,st',G,h,hr=>by
  simp only [adoptT] at h
  split at h<;>try (cases h;done)
  rename_i t cs hH
  split at h<;>try (cases h;done)
  rename_i hc
  cases hw:Nat.blt 0 (T.size E)<;>rw [hw] at h<;>simp only [cond_true,cond_false] at h
  ·cases h
  obtain⟨G1,hr1⟩:=hr.adoptCellS hH hc e T (Nat.le_of_ble_eq_true hw)
  obtain⟨h1,h2⟩:=adoptT_sound h hr1
  have f1:Fr [] true st { st with H:=st.H.set r (.cells t (cs.set c (.gso st.g.length 0))),g:=st.g++[⟨0,e,T.size E⟩],d:=r::st.d,c:=(st.g.length,⟨T,[]⟩)::st.c }:=⟨rfl,fun _ _=>rfl,⟨[r],rfl,set_same _ _ _⟩,by simp,fun _=>rfl⟩
  exact⟨h1,f1.trans h2 (fun j hj=>by cases hj) (fun _ h=>h) (fun _=>⟨rfl,rfl⟩)⟩
theorem wpList_append {P:Program} {ops:Array Oper} {Q:Exit→Act→World→Prop}:∀(l1 l2:List Oper) (a:Act) (w:World),wpList P ops (Exit.then (wpList P ops Q l2) Q) l1 a w→wpList P ops Q (l1++l2) a w
 | [],l2,a,w,h=>h
 | o::l1,l2,a,w,h=>by
  rw [List.cons_append]
  unfold wpList at h ⊢
  split
  ·rename_i hw
   rw [if_pos hw] at h
   rcases h with h | ⟨h,a1,w1,h2⟩
   ·exact .inl (Oper.wp_mono2 (fun a w h=>wpList_append l1 l2 a w h) (fun e a w hne hq=>by cases e<;>first | exact (hne rfl).elim | exact hq) h)
   ·exact .inr ⟨h,a1,w1,h2⟩
  ·rename_i hw
   rw [if_neg hw] at h
   exact wpList_append l1 l2 _ w h
theorem wpList_mono {P:Program} {ops:Array Oper}:∀(l:List Oper) (a:Act) (w:World) {Q1 Q2:Exit→Act→World→Prop},(∀e a w,Q1 e a w→Q2 e a w)→wpList P ops Q1 l a w→wpList P ops Q2 l a w
 | [],a,w,Q1,Q2,hq,h=>hq _ _ _ h
 | o::l,a,w,Q1,Q2,hq,h=>by
  unfold wpList at h ⊢
  split
  ·rename_i hw
   rw [if_pos hw] at h
   rcases h with h | ⟨h,a1,w1,h2⟩
   ·exact .inl (upon_mono (fun a w h=>wpList_mono l a w hq h) hq h)
   ·exact .inr ⟨h,a1,w1,hq _ _ _ h2⟩
  ·rename_i hw
   rw [if_neg hw] at h
   exact wpList_mono l _ _ hq h
def FW (ro:Option Nat):Fence:={ Fence.wide with round:=ro }
def inR:Code→Bool
 | .region _ ops dr=>!dr&&noDefL ops.toList
 | .seq a b=>inR a&&inR b
 | .cond _ a b=>inR a&&inR b
 | .block _ a=>inR a
 | .scope _=>false
 | .loop a=>inR a
 | .rangeFunc _ _ _ _=>false
 | _=>true
def AWr (P:Program) (c:Code) (st:TS E) (Q:Ex E→TS E→Prop):Prop :=
 ∀ro,(ro.isSome=true→inR c=true)→∀w0 G0 a w G,Rel E w0 G0 st a w G→c.wpIn (FW ro) 0 P (CPost E w0 G0 Q) a w
theorem upon_in {P:Program} {ro:Option Nat} {o:Oper} {a:Act} {w:World} {n1 n2:Act→World→Prop} {Q:Exit→Act→World→Prop} (hd:ro.isSome=true→isDef o.op=false) (hQ:¬ LetsOut Q) (hn:∀a w,n1 a w→n2 a w) (h:o.wp P a w n1 Q) :
  o.wpIn (FW ro) 0 P a w n2 Q:=by
 have hsem:o.semAt ro a.eval=execOp a.eval o:=by
  cases ro with
  | none=>rfl
  | some l=>exact Oper.semAt_eq _ _ _ fun c e=>by have:=hd rfl;rw [e] at this;cases this
 refine⟨fun _ _=>trivial,?_⟩
 show o.uponIn (FW ro) 0 P a n2 Q ((o.semAt ro a.eval).run P w)
 rw [hsem]
 unfold Oper.wp at h
 generalize (execOp a.eval o).run P w=r at *
 cases r with
 | ok n w' =>
  cases n<;>simp only [Oper.upon] at h
  case value u=>exact hn _ _ h
  case skip=>exact hn _ _ h
  case defer d=>exact hn _ _ h
  case enter f args =>
   refine⟨(fun h=>nomatch h),?_⟩
   refine (callsIn_wide (n:=0)).2 (Calls.mono h fun e w'' he=>?_)
   cases e with
   | returned u=>exact hn _ _ he
   | panicked c=>exact he
   | outgrown=>exact he
  case row row args=>exact⟨(fun h=>nomatch h),fun c cs _=>by
   obtain⟨v,w2,r,s⟩:=h c cs
   exact⟨v,w2,hn _ _ r,stepsIn_wide.2 s⟩⟩
 | halt x w' =>
  cases x<;>simp only [Oper.upon] at h
  case panic u=>exact h
theorem CPost.noOut {w0:World} {G0:Ghost} {Q:Ex E→TS E→Prop}:¬ LetsOut (CPost E w0 G0 Q):=fun⟨_,_,x,_,_,h,_⟩=>by cases x<;>exact h
theorem Oper.wpIn_mono2 {F:Fence} {n:Nat} {P:Program} {o:Oper} {a:Act} {w:World} {K K':Act→World→Prop} {Q Q':Exit→Act→World→Prop} (h:∀a w,K a w→K' a w) (hq:∀e a w,e≠.normal→Q e a w→Q' e a w)
  (hh:o.wpIn F n P a w K Q):o.wpIn F n P a w K' Q':=by
 have hout:LetsOut Q→LetsOut Q':=fun⟨a,w,h⟩=>⟨a,w,hq _ _ _ (by simp) h⟩
 refine⟨hh.1,?_⟩
 have hh:=hh.2
 generalize (o.semAt F.round a.eval).run P w=r at *
 cases r with
 | ok m w' =>
  cases m<;>simp only [Oper.uponIn] at hh ⊢
  case value u=>exact h _ _ hh
  case skip=>exact h _ _ hh
  case defer d=>exact h _ _ hh
  case enter f args =>
   refine⟨hh.1,hh.2.1,fun cs hroom=>?_⟩
   obtain⟨e,w'',fr,he,hs⟩:=hh.2.2 cs hroom
   refine⟨e,w'',fr,?_,hs⟩
   cases e with
   | returned u=>exact h _ _ he
   | panicked c=>exact hq _ _ _ (by simp) he
   | outgrown=>exact hout he
  case row row args=>exact⟨hh.1,RowsIn.mono hh.2 fun u w'' he=>h _ _ he⟩
  case round l f tmps assign body =>
   refine⟨hh.1,RoundIn.mono hh.2 fun e w'' he=>?_⟩
   cases e with
   | returned u=>exact h _ _ he
   | panicked c=>exact hq _ _ _ (by simp) he
   | outgrown=>exact hout he
 | halt x w' =>
  cases x<;>simp only [Oper.uponIn] at hh ⊢
  case panic u=>exact hq _ _ _ (by simp) hh
theorem list_in {P:Program} {ro:Option Nat} {ops:Array Oper} {Q:Exit→Act→World→Prop} (hQ:¬ LetsOut Q):∀(l:List Oper) (a:Act) (w:World),(ro.isSome=true→noDefL l=true)→wpList P ops Q l a w→wpListIn (FW ro) 0 P ops Q l a w
 | [],_,_,_,h=>h
 | o::l,a,w,hd,h=>by
  have hd1:ro.isSome=true→isDef o.op=false:=fun hr=>by
   have:=hd hr;simp only [noDefL,Bool.and_eq_true,Bool.not_eq_true'] at this;exact this.1
  have hd2:ro.isSome=true→noDefL l=true:=fun hr=>by
   have:=hd hr;simp only [noDefL,Bool.and_eq_true] at this;exact this.2
  unfold wpList at h
  unfold wpListIn
  split
  ·rename_i hw
   rw [if_pos hw] at h
   rcases h with h | ⟨_,a1,w1,h2⟩
   ·exact upon_in hd1 hQ (fun a w h=>list_in hQ l a w hd2 h) h
   ·exact (hQ ⟨a1,w1,h2⟩).elim
  ·rename_i hw
   rw [if_neg hw] at h
   exact⟨fun _ _=>trivial,list_in hQ l _ w hd2 h⟩
theorem listIn_append {F:Fence} {n:Nat} {P:Program} {ops:Array Oper} {Q:Exit→Act→World→Prop}:∀(l1 l2:List Oper) (a:Act) (w:World),wpListIn F n P ops (Exit.then (wpListIn F n P ops Q l2) Q) l1 a w→wpListIn F n P ops Q (l1++l2) a w
 | [],l2,a,w,h=>h
 | o::l1,l2,a,w,h=>by
  rw [List.cons_append]
  unfold wpListIn at h ⊢
  split
  ·rename_i hw
   rw [if_pos hw] at h
   exact Oper.wpIn_mono2 (fun a w h=>listIn_append l1 l2 a w h) (fun e a w hne hq=>by cases e<;>first | exact (hne rfl).elim | exact hq) h
  ·rename_i hw
   rw [if_neg hw] at h
   exact⟨h.1,listIn_append l1 l2 _ w h.2⟩
theorem yieldT_sound (hX:X.Ok) {R:Type} {o:Oper} {k:TS E→Option R} {r:R} (h:yieldT X st o k=some r) {ro:Option Nat} {Q:Exit→Act→World→Prop}:∀w0 G0 a w G,Rel E w0 G0 st a w G →
  (o.guard=none∧isDef o.op=false)∧o.wpIn (FW ro) 0 X.P a w (fun a' w'=>∃st' G',Rel E w0 G0 st' a' w' G'∧k st'=some r∧Fr (dstL o.dst) true st st') Q:=by
 unfold yieldT at h
 split at h<;>try (cases h;done)
 rename_i c hg ho
 split at h<;>try (cases h;done)
 rename_i x hc
 split at h<;>try (cases h;done)
 rename_i q hx
 split at h<;>try (cases h;done)
 rename_i y ds hb
 split at h<;>try (cases h;done)
 rename_i n hY
 cases hsz:Nat.beq c.args.size n<;>rw [hsz] at h<;>simp only [cond_true,cond_false] at h
 ·cases h
 have hsz:=Nat.eq_of_beq_eq_true hsz
 intro w0 G0 a w G hr
 refine⟨⟨hg,by rw [ho];rfl⟩,fun _ _=>trivial,?_⟩
 have hv:=hr.ev x
 rw [hx] at hv
 simp only [VT] at hv
 obtain⟨b,hev,hat⟩:=hv
 obtain⟨Y,fn,tmps,D,hY',hheap,hds⟩:=hr.box hat hb
 have hsz:c.args.size=Y.params.size:=hsz.trans (hX.E.ydn y Y n hY' hY).symm
 have hargs:VTs E w G (c.args.toList.map st.ev++ds) (c.args.map a.eval++tmps).toList:=by
  have:=(evs_ok hr c.args.toList).append hds
  simpa using this
 have hI:=callK_gen hX.E (YInv.mono X.P) hX.Y h w0 G0 a w G (c.args.map a.eval++tmps) hr hargs
 have hR:=hI Y fn b D (c.args.map a.eval) tmps hY' rfl (by simpa using hsz) hheap
 show o.uponIn (FW ro) 0 X.P a _ Q ((o.semAt ro a.eval).run X.P w)
 rw [Oper.semAt_eq _ _ _ fun c' e=>by rw [ho] at e;cases e]
 have hrun:(execOp a.eval o).run X.P w=.ok (.round b fn ((Y.params.zip (c.args.map a.eval)).foldl (fun t (p,v)=>t.setIfInBounds p v) tmps) Y.assign Y.body) w:=by
  have hy:=run_yield (P:=X.P) (args:=c.args.map a.eval) hheap (by simpa using hsz)
  simp only [execOp,ho,resolve,hc,hev,Deferred.ofValue,Sem.run_bind,Sem.run_pure,Result.andThen_ok,invoke]
  simpa using hy
 rw [hrun]
 refine⟨(fun h=>nomatch h),RoundIn.mono hR fun e w' he=>?_⟩
 rcases he with⟨v,st',G',rfl,hR',hk,hF⟩ | ⟨x,st',hne,hk⟩
 ·exact⟨st',G',hR',hk,hF⟩
 ·cases x<;>first | exact (hne rfl).elim | cases hk
theorem goK_some {σ R:Type} {x:Option σ} {j:σ ⊕ R} (h:goK x=some j):∃s,x=some s∧j=.inl s:=by
 unfold goK at h
 cases x with
 | none=>cases h
 | some s=>cases h;exact⟨s,rfl,rfl⟩
theorem retK_some {σ R:Type} {x:Option R} {j:σ ⊕ R} (h:retK x=some j):∃r,x=some r∧j=.inr r:=by
 unfold retK at h
 cases x with
 | none=>cases h
 | some s=>cases h;exact⟨s,rfl,rfl⟩
theorem jj_some {σ R:Type} {x:Option (σ ⊕ R)} {k:σ→Option R} {r:R} (h:jj x k=some r):∃j,x=some j∧(∀s,j=.inl s→k s=some r)∧∀r',j=.inr r'→r'=r:=by
 unfold jj at h
 cases x with
 | none=>cases h
 | some j =>
  refine⟨j,rfl,fun s hs=>?_,fun r' hr=>?_⟩
  ·subst hs;exact h
  ·subst hr;exact Option.some.inj h
theorem cut_cases {σ R:Type} {j:Bool} {A:{R':Type}→(Ex E→TS E→Option R')→Option R'} {pk:TS E→Option σ} {B:σ→Option R} {k:Ex E→TS E→Option R} {r:R}
  (h:cond j (jj (A (thenK (fun st'=>goK (pk st')) fun e st'=>retK (k e st'))) B) ((A (thenK pk fun _ _=>none)).bind B)=some r) {C:(Ex E→TS E→Prop)→Prop} (hA:∀ {R':Type} {k':Ex E→TS E→Option R'} {r':R'},A k'=some r'→C (fun x s=>k' x s=some r')) :
  ∃Q:Ex E→TS E→Prop,C Q∧(∀s,Q .normal s→∃x,pk s=some x∧B x=some r)∧∀x s,x≠.normal→Q x s→k x s=some r:=by
 cases j<;>simp only [cond_true,cond_false] at h
 ·cases hx:A (thenK pk fun _ _=>none) with
  | none=>rw [hx] at h;cases h
  | some x =>
   rw [hx] at h
   refine⟨_,hA hx,fun s hs=>⟨x,hs,h⟩,fun e s hne hs=>?_⟩
   cases e<;>first | exact (hne rfl).elim | cases hs
 ·obtain⟨jv,hx,h1,h2⟩:=jj_some h
  refine⟨_,hA hx,fun s hs=>?_,fun e s hne hs=>?_⟩
  ·obtain⟨x,hp,rfl⟩:=goK_some hs
   exact⟨x,hp,h1 x rfl⟩
  ·have:retK (k e s)=some jv:=by cases e<;>first | exact (hne rfl).elim | exact hs
   obtain⟨r',hk,rfl⟩:=retK_some this
   rw [hk,h2 r' rfl]
theorem segs_sound {R:Type} (hX:X.Ok) {all:Array Oper} {k:Ex E→TS E→Option R} {r:R}:∀(cs:List (Nat × Cut × Bool)) {l:List Oper} {st:TS E},segs X all cs l st k=some r →
  AOps E X.P all l st (fun x st'=>k x st'=some r∧Fr (wrL all l) (noDefL l) st st')
 | [],l,st,h=>opsT_sound hX h
 | s::cs,l,st,h=>by
  simp only [segs] at h
  obtain⟨hc,h⟩:=rq_some h
  rw [Bool.and_eq_true] at hc
  intro w0 G0 a w G hr
  have hpre:=hr.pre
  obtain⟨Q,hC,hN,hX'⟩:=cut_cases (A:=fun {R'} k'=>opsT (R:=R') X all (l.take s.1) st k') h (C:=fun Q=>AOps E X.P all (l.take s.1) st (fun x st'=>Q x st'∧Fr (wrL all (l.take s.1)) (noDefL (l.take s.1)) st st')) (fun h'=>opsT_sound hX h')
  rw [←List.take_append_drop s.1 l]
  refine wpList_append _ _ a w (wpList_mono _ a w (fun e a' w' hp=>?_) (hC w0 G0 a w G hr))
  obtain⟨x,s',G',he,hr',hq,hf⟩:=hp
  have hsub1:∀i,i∈wrL all (l.take s.1)→i∈wrL all (l.take s.1++l.drop s.1):=fun i hi=>by
   rw [List.take_append_drop];exact wrL_sub l 0 s.1 i (by simpa using hi)
  have hsub2:∀i,i∈wrL all (l.drop s.1)→i∈wrL all (l.take s.1++l.drop s.1):=fun i hi=>by
   rw [List.take_append_drop];exact wrL_sub l s.1 l.length i (by rw [List.take_of_length_le (by simp)];exact hi)
  have hnd2:noDefL (l.take s.1++l.drop s.1)=true→noDefL (l.drop s.1)=true:=fun hn=>by
   rw [List.take_append_drop] at hn
   have:=noDefL_sub l s.1 l.length hn
   rwa [List.take_of_length_le (by simp)] at this
  cases x with
  | normal =>
   cases e<;>try (exact he.elim)
   obtain⟨y,hp,hB⟩:=hN s' hq
   obtain⟨⟨G2,hR⟩,hF⟩:=cut_step hX.E hpre hr' (hf.wide (fun _ h=>h) (fun _=>hc.2)) hc.1 hp
   show wpList _ _ _ _ _ _
   exact wpList_mono _ _ _ (fun e a w hp=>CPost.mono (fun x s'' hh=>⟨hh.1,hF.trans hh.2 hsub1 hsub2 (fun hn=>⟨rfl,hnd2 hn⟩)⟩) hp) (segs_sound hX cs hB w0 G0 a' w' G2 hR)
  | _ =>
   have hk:=hX' _ s' (by intro h;cases h) hq
   have hcp:CPost E w0 G0 (fun x st'=>k x st'=some r∧Fr (wrL all (l.take s.1++l.drop s.1)) (noDefL (l.take s.1++l.drop s.1)) st st') e a' w':=⟨_,s',G',he,hr',hk,hf.wide hsub1 (fun _=>hc.2)⟩
   cases e<;>first | exact he.elim | exact hcp
theorem wpIn_loop_ix {ι:Type} {F:Fence} {n:Nat} {P:Program} {c:Code} {a:Act} {w:World} {Q:Exit→Act→World→Prop} (I:ι→Act→World→Prop) (μ:ι→Nat) (x0:ι) (h₀:I x0 a w)
  (round:∀x a w,I x a w→c.wpIn F n P (Exit.then (fun a' w'=>∃y,I y a' w'∧μ y<μ x) Q) a w):(Code.loop c).wpIn F n P Q a w:=by
 intro b k cs hro hb hr
 have key:∀j x a w,μ x=j→I x a w →
   ∃e a' w',Q e a' w'∧ArrivesIn (Machine.fenced P F) P (lone (b.atR a (.code c :: .inLoop c::k)) cs w) b k cs e a' w':=by
  intro j
  induction j using Nat.strongRecOn with
  | _ j ih =>
   intro x a w hn hI
   obtain⟨e,a₁,w₁,hq,harr⟩:=round x a w hI b (.inLoop c::k) cs hro hb hr
   cases e with
   | normal =>
    obtain⟨y,hI₁,hlt⟩:=hq
    obtain⟨e₂,a₂,w₂,hq₂,harr₂⟩:=ih (μ y) (hn▸hlt) y a₁ w₁ rfl hI₁
    exact⟨e₂,a₂,w₂,hq₂,.of_steps (StepsIn.trans harr (.one (fenced_calm hb hr rfl) stepR_inLoop)) harr₂⟩
   | exit id=>exact⟨_,a₁,w₁,hq,.pass (x:=.inLoop c) rfl (fun _ _=>.inl (by simp)) harr⟩
   | goto l=>exact⟨_,a₁,w₁,hq,.pass (x:=.inLoop c) rfl (fun _ _=>.inl (by simp)) harr⟩
   | ret=>exact⟨_,a₁,w₁,hq,.pass (x:=.inLoop c) rfl (fun _ _=>.inl (by simp)) harr⟩
   | panic ch=>exact⟨_,a₁,w₁,hq,.pass (x:=.inLoop c) rfl (fun _ _=>.inl (by simp)) harr⟩
   | outgrown=>exact⟨_,a₁,w₁,hq,.pass (x:=.inLoop c) rfl (fun _ _=>.inl (by simp)) harr⟩
 obtain⟨e,a',w',hq,harr⟩:=key _ x0 a w rfl h₀
 exact⟨e,a',w',hq,.of_steps (.one (fenced_calm hb hr rfl) stepR_loop) harr⟩
theorem AWr.of_wp {P:Program} {c:Code} {Q:Ex E→TS E→Prop} (hc:inR c=false) (h:AWp E P c st Q):AWr P c st Q:=fun ro hro w0 G0 a w G hr=>by
 cases ro with
 | some l=>have:=hro rfl;rw [hc] at this;cases this
 | none=>exact (wpIn_wide (n:=0)).2 (h w0 G0 a w G hr)
theorem AWr.wp {P:Program} {c:Code} {Q:Ex E→TS E→Prop} (h:AWr P c st Q) {w0 w:World} {G0 G:Ghost} {a:Act} (hr:Rel E w0 G0 st a w G):c.wp P (CPost E w0 G0 Q) a w :=
 (wpIn_wide (n:=0)).1 (h none (fun h=>nomatch h) w0 G0 a w G hr)
theorem seq_ok {P:Program} {a b:Code} {ro:Option Nat} (hro:ro.isSome=true→inR a=true) {w0 w:World} {G0 G:Ghost} {ac:Act} {Q1 Q:Ex E→TS E→Prop} (hr:Rel E w0 G0 st ac w G) (h:AWr P a st Q1) (hN:∀s a' w' G',Q1 .normal s→Rel E w0 G0 s a' w' G'→b.wpIn (FW ro) 0 P (CPost E w0 G0 Q) a' w')
  (hX:∀x s,x≠.normal→Q1 x s→Q x s):(Code.seq a b).wpIn (FW ro) 0 P (CPost E w0 G0 Q) ac w:=by
 refine wpIn_seq (wpIn_mono (h ro hro w0 G0 ac w G hr) fun e a' w' hp=>?_)
 obtain⟨x,s,G',he,hr',hq⟩:=hp
 cases x with
 | normal =>
  cases e<;>try (exact he.elim)
  exact hN s a' w' G' hq hr'
 | _ =>
  have hcp:CPost E w0 G0 Q e a' w':=⟨_,s,G',he,hr',hX _ s (by intro h;cases h) hq⟩
  cases e<;>first | exact he.elim | exact hcp
theorem wrL_append {all:Array Oper}:∀l1 l2:List Oper,wrL all (l1++l2)=wrL all l1++wrL all l2
 | [],l2=>rfl
 | o::l1,l2=>by simp only [List.cons_append,wrL,wrL_append l1 l2,List.append_assoc]
theorem yrun_sound (hX:X.Ok) {R:Type} (id:Nat) {ops:Array Oper} {i:Nat} {k:Ex E→TS E→Option R} {r:R} (h:yrun X ops i st k=some r):AWr X.P (.region id ops false) st (fun x st'=>k x st'=some r∧Fr (wr (.region id ops false)) (noDef (.region id ops false)) st st'):=by
 unfold yrun at h
 split at h<;>try (cases h;done)
 rename_i o rest hd
 obtain⟨hnd,h⟩:=rq_some h
 rw [Bool.and_eq_true] at hnd
 intro ro hro w0 G0 a w G hr
 refine wpIn_region_list ?_
 have hl:ops.toList=ops.toList.take i++o::rest:=by rw [←hd,List.take_append_drop]
 have hwr:∀j,j∈wrL ops (ops.toList.take i)∨j∈dstL o.dst∨j∈wrL ops rest→j∈wr (.region id ops false):=fun j hj=>by
  show j∈wrL ops ops.toList
  rw [hl,wrL_append]
  rcases hj with h | h | h<;>simp [wrL,h]
 rw [hl]
 have hF:∀ {s1 s2 s3:TS E},Fr (wrL ops (ops.toList.take i)) (noDefL (ops.toList.take i)) st s1→Fr (dstL o.dst) true s1 s2→Fr (wrL ops rest) (noDefL rest) s2 s3→Fr (wr (.region id ops false)) (noDef (.region id ops false)) st s3:=fun f1 f2 f3 =>
  (f1.trans f2 (W:=wr (.region id ops false)) (n:=true) (fun j hj=>hwr j (.inl hj)) (fun j hj=>hwr j (.inr (.inl hj))) (fun _=>⟨hnd.1,rfl⟩)).trans f3 (fun j hj=>hj) (fun j hj=>hwr j (.inr (.inr hj))) (fun _=>⟨rfl,hnd.2⟩)
 have hout:∀ {K:Act→World→Prop} {Q:Ex E→TS E→Prop},¬ LetsOut (Exit.then K (CPost E w0 G0 Q)):=fun⟨a,w,h⟩=>CPost.noOut ⟨a,w,h⟩
 refine listIn_append _ _ a w (list_in hout _ a w (fun _=>hnd.1) (wpList_mono _ a w (fun e a' w' hp=>?_) (opsT_sound hX h w0 G0 a w G hr)))
 obtain⟨x,s',G',he,hr',hq,hf⟩:=hp
 cases x with
 | normal =>
  cases e<;>try (exact he.elim)
  simp only [thenK] at hq
  obtain⟨⟨hg,-⟩,hw⟩:=yieldT_sound hX hq (ro:=ro) (Q:=CPost E w0 G0 (fun x st'=>k x st'=some r∧Fr (wr (.region id ops false)) (noDef (.region id ops false)) st st')) w0 G0 a' w' G' hr'
  show wpListIn _ _ _ _ _ (o::rest) _ _
  unfold wpListIn
  rw [if_pos (by simp [Region.wanted,hg])]
  refine Oper.wpIn_mono2 (fun a2 w2 hh=>?_) (fun e a w hne hq=>hq) hw
  obtain⟨s2,G2,hr2,hk,f2⟩:=hh
  exact list_in CPost.noOut rest a2 w2 (fun _=>hnd.2) (wpList_mono rest a2 w2 (fun e a w hp=>CPost.mono (fun x s hh=>⟨hh.1,hF hf f2 hh.2⟩) hp) (opsT_sound hX hk w0 G0 a2 w2 G2 hr2))
 | _ =>
  have hcp:CPost E w0 G0 (fun x st'=>k x st'=some r∧Fr (wr (.region id ops false)) (noDef (.region id ops false)) st st') e a' w':=⟨_,s',G',he,hr',hq,hF hf (Fr.refl _ _ _) (Fr.refl _ _ _)⟩
  cases e<;>first | exact he.elim | exact hcp
theorem wrL_dst {all:Array Oper}:∀ {l:List Oper} {o:Oper},o∈l→∀i,i∈dstL o.dst→i∈wrL all l
 | [],_,h,_,_=>by cases h
 | o'::l,o,h,i,hi=>by
  simp only [wrL,List.mem_append]
  rcases List.mem_cons.1 h with rfl | h
  ·exact .inl hi
  ·exact .inr (.inr (wrL_dst h i hi))
theorem revT_sound (hX:X.Ok) {R:Type} {i1 i2 i3:Nat} {A B C:Array Oper} {k:Ex E→TS E→Option R} {r:R} (h:revT X A B C st k=some r) :
  AWr X.P (.seq (.region i1 A false) (.seq (.region i2 B false) (.region i3 C false))) st (fun x st'=>k x st'=some r∧Fr (wr (.seq (.region i1 A false) (.seq (.region i2 B false) (.region i3 C false)))) (noDef (.seq (.region i1 A false) (.seq (.region i2 B false) (.region i3 C false)))) st st'):=by
 unfold revT at h
 split at h<;>try (cases h;done)
 rename_i s hs
 split at h<;>try (cases h;done)
 rename_i l hx
 cases hc:(s.ok X st.t.length&&(noDefL A.toList&&(noDefL B.toList&&noDefL C.toList)))<;>rw [hc] at h<;>simp only [cond_true,cond_false] at h
 ·cases h
 simp only [Bool.and_eq_true] at hc
 obtain⟨hok,nA,nB,nC⟩:=hc
 obtain⟨hl,h⟩:=rq_some h
 have hl:=of_decide_eq_true hl
 intro ro hro w0 G0 a w G hr
 obtain⟨a3,w1,hA,W2,hB,hC⟩:=revP_sound hX hs hx hok hl hr
 obtain⟨C0,hC0⟩:=rev_rest hs
 have nR:noDefL s.rest=true:=by
  have:∀(l1 l2:List Oper),noDefL (l1++l2)=true→noDefL l2=true:=by
   intro l1
   induction l1 with
   | nil=>intro l2 h;exact h
   | cons o l1 ih=>intro l2 h;simp only [List.cons_append,noDefL,Bool.and_eq_true] at h;exact ih l2 h.2
  exact this C0 _ (by rw [←hC0];exact nC)
 have hF:Fr (wrL A A.toList++(wrL B B.toList++wrL C C.toList)) true st (s.s9 st l):=rev_fr hs st l (fun o ho i hi=>by
  simp only [List.mem_append] at ho ⊢
  rcases ho with (ho | ho) | ho
  ·exact .inl (wrL_dst ho i hi)
  ·exact .inr (.inl (wrL_dst ho i hi))
  ·exact .inr (.inr (wrL_dst ho i hi)))
 have hout:∀ {K:Act→World→Prop} {Q:Ex E→TS E→Prop},¬ LetsOut (Exit.then K (CPost E w0 G0 Q)):=fun⟨a,w,h⟩=>CPost.noOut ⟨a,w,h⟩
 refine wpIn_seq (wpIn_region_list (list_in hout _ a w (fun _=>nA) (hA _ _ ?_)))
 refine wpIn_seq (wpIn_region_list (list_in hout _ a3 w1 (fun _=>nB) (hB _ _ fun a5 w2 hW=>?_)))
 obtain⟨a9,⟨G',hr9⟩,hrest⟩:=hC a5 w2 hW
 refine wpIn_region_list (list_in CPost.noOut _ a5 w2 (fun _=>nC) (hrest _ _ ?_))
 refine wpList_mono s.rest a9 w2 (fun e a w hp=>CPost.mono (fun x s' hh=>⟨hh.1,?_⟩) hp) (opsT_sound hX h w0 G0 a9 w2 G' hr9)
 refine hF.trans hh.2 (fun i hi=>?_) (fun i hi=>?_) (fun _=>⟨rfl,nR⟩)
 ·simp only [wr,List.mem_append] at hi ⊢
  exact hi
 ·simp only [wr,List.mem_append]
  refine .inr (.inr ?_)
  rw [hC0,wrL_append]
  simp [hi]
theorem runT_sound (hX:X.Ok) {F:Nat}:∀(c:Code) (p:Plan) {R:Type} {st:TS E} {k:Ex E→TS E→Option R} {r:R},runT X F c p st k=some r→AWr X.P c st (fun x st'=>k x st'=some r∧Fr (wr c) (noDef c) st st'):=by
 intro c
 induction c with
 | skip=>intro p R st k r h ro hro w0 G0 a w G hr;exact wpIn_skip ⟨.normal,st,G,trivial,hr,h,Fr.refl _ _ _⟩
 | label l=>intro p R st k r h ro hro w0 G0 a w G hr;exact wpIn_label ⟨.normal,st,G,trivial,hr,h,Fr.refl _ _ _⟩
 | exit i=>intro p R st k r h ro hro w0 G0 a w G hr;exact wpIn_exit ⟨.exit i,st,G,rfl,hr,h,Fr.refl _ _ _⟩
 | ret=>intro p R st k r h ro hro w0 G0 a w G hr;exact wpIn_ret ⟨.ret,st,G,trivial,hr,h,Fr.refl _ _ _⟩
 | goto l=>intro p R st k r h;cases h
 | refuse s=>intro p R st k r h;cases h
 | scope c ih =>
  intro p R st k r h
  simp only [runT] at h
  have h1:=ih p h
  intro ro hro w0 G0 ac w G hr
  cases ro with
  | some l=>cases hro rfl
  | none =>
  refine (wpIn_wide (n:=0)).2 ?_
  refine wp_scope_straight (wp_mono ((wpIn_wide (n:=0)).1 (h1 none (fun h=>nomatch h) w0 G0 ac w G hr)) fun e a' w' hp=>?_)
  obtain⟨x,s,G',he,hr',hq,hf⟩:=hp
  have hcp:∀ {x},ERel E w' G' e x→k x s=some r→CPost E w0 G0 (fun x st'=>k x st'=some r∧Fr (wr (.scope c)) (noDef (.scope c)) st st') e a' w':=fun h1 h2=>⟨_,s,G',h1,hr',h2,hf⟩
  cases x<;>cases e<;>first | exact he.elim | (cases hq;done) | exact hcp he hq
 | rangeFunc f ps a b _ _=>intro p R st k r h;cases h
 | region id ops dr =>
  intro p R st k r h
  simp only [runT] at h
  rw [scond_eq] at h
  cases dr<;>simp only [cond_true,cond_false] at h
  ·split at h
   ·intro ro hro w0 G0 a w G hr
    exact wpIn_region_list (list_in CPost.noOut _ a w (fun h=>by have:=hro h;simp only [inR,Bool.and_eq_true] at this;exact this.2) (segs_sound hX _ h w0 G0 a w G hr))
   ·rename_i i
    exact yrun_sound hX id h
   ·intro ro hro w0 G0 a w G hr
    exact wpIn_region_list (list_in CPost.noOut _ a w (fun h=>by have:=hro h;simp only [inR,Bool.and_eq_true] at this;exact this.2) (opsT_sound hX h w0 G0 a w G hr))
  ·split at h<;>try (cases h;done)
   ·exact AWr.of_wp (by rfl) (AWp.mono (draw_sound hX h) fun x s hh=>by rw [hh.1];exact hh.2)
   ·exact AWr.of_wp (by rfl) (AWp.mono (drawP_sound hX h) fun x s hh=>by rw [hh.1];exact hh.2)
   ·exact AWr.of_wp (by rfl) (AWp.mono (drawF_sound hX h) fun x s hh=>by rw [hh.1];exact hh.2)
 | block i a ih =>
  intro p R st k r h
  simp only [runT] at h
  have h1:=ih p h
  intro ro hro w0 G0 ac w G hr
  refine wpIn_block (wpIn_mono (h1 ro hro w0 G0 ac w G hr) fun e a' w' hp=>?_)
  obtain⟨x,s,G',he,hr',hq,hf⟩:=hp
  cases x with
  | exit j =>
   cases e<;>try (exact he.elim)
   rename_i i'
   have he:i'=j:=he
   subst he
   simp only [blockK] at hq
   simp only [Exit.inBlock]
   cases hb:Nat.beq i' i<;>rw [hb] at hq<;>simp only [cond_true,cond_false] at hq
   ·have:i'≠i:=fun e=>by subst e;rw [Nat.beq_refl] at hb;cases hb
    rw [if_neg this]
    exact⟨.exit i',s,G',rfl,hr',hq,hf⟩
   ·rw [if_pos (Nat.eq_of_beq_eq_true hb)]
    exact⟨.normal,s,G',trivial,hr',hq,hf⟩
  | _ =>
   have hcp:CPost E w0 G0 (fun x st'=>k x st'=some r∧Fr (wr (.block i a)) (noDef (.block i a)) st st') e a' w':=⟨_,s,G',he,hr',hq,hf⟩
   cases e<;>first | exact he.elim | exact hcp
 | cond c a b iha ihb =>
  intro p R st k r h
  simp only [runT] at h
  split at h<;>try (cases h;done)
  rename_i v hv
  intro ro hro w0 G0 ac w G hr
  have hro1:ro.isSome=true→inR a=true:=fun h=>by have:=hro h;simp only [inR,Bool.and_eq_true] at this;exact this.1
  have hro2:ro.isSome=true→inR b=true:=fun h=>by have:=hro h;simp only [inR,Bool.and_eq_true] at this;exact this.2
  have hvv:=hr.ev c
  rw [hv] at hvv
  have hvv:=hvv.bool_inv
  cases v<;>simp only [cond_true,cond_false] at h
  ·exact wpIn_cond_false hvv (wpIn_mono (ihb p.r h ro hro2 w0 G0 ac w G hr) fun _ _ _ hp=>CPost.mono (fun x s hh=>⟨hh.1,hh.2.wide (fun i hi=>by simp [wr,hi]) (fun hn=>by simp only [noDef,Bool.and_eq_true] at hn;exact hn.2)⟩) hp)
  ·exact wpIn_cond_true hvv (wpIn_mono (iha p.l h ro hro1 w0 G0 ac w G hr) fun _ _ _ hp=>CPost.mono (fun x s hh=>⟨hh.1,hh.2.wide (fun i hi=>by simp [wr,hi]) (fun hn=>by simp only [noDef,Bool.and_eq_true] at hn;exact hn.1)⟩) hp)
 | seq a b iha ihb =>
  have plain:∀(p q:Plan) {R:Type} {st:TS E} {k:Ex E→TS E→Option R} {r:R},runT X F a p st (thenK (fun st'=>runT X F b q st' k) k)=some r→AWr X.P (.seq a b) st (fun x st'=>k x st'=some r∧Fr (wr (.seq a b)) (noDef (.seq a b)) st st'):=by
   intro p q R st k r h ro hro w0 G0 ac w G hr
   have hro1:ro.isSome=true→inR a=true:=fun h=>by have:=hro h;simp only [inR,Bool.and_eq_true] at this;exact this.1
   have hro2:ro.isSome=true→inR b=true:=fun h=>by have:=hro h;simp only [inR,Bool.and_eq_true] at this;exact this.2
   refine seq_ok hro1 hr (iha p h) (fun s a' w' G' hq hr'=>?_) (fun x s hne hq=>?_)
   ·exact wpIn_mono (ihb q hq.1 ro hro2 w0 G0 a' w' G' hr') fun _ _ _ hp=>CPost.mono (fun x s' hh=>⟨hh.1,hq.2.trans hh.2 (fun i hi=>by simp [wr,hi]) (fun i hi=>by simp [wr,hi]) (fun hn=>by simp only [noDef,Bool.and_eq_true] at hn;exact hn)⟩) hp
   ·refine⟨by cases x<;>first | exact (hne rfl).elim | exact hq.1,hq.2.wide (fun i hi=>by simp [wr,hi]) (fun hn=>by simp only [noDef,Bool.and_eq_true] at hn;exact hn.1)⟩
  intro p R st k r h
  simp only [runT] at h
  split at h
  ·rename_i ow c p q
   split at h<;>try (cases h;done)
   rename_i st1 had
   intro ro hro w0 G0 ac w G hr
   have hro1:ro.isSome=true→inR a=true:=fun h=>by have:=hro h;simp only [inR,Bool.and_eq_true] at this;exact this.1
   have hro2:ro.isSome=true→inR b=true:=fun h=>by have:=hro h;simp only [inR,Bool.and_eq_true] at this;exact this.2
   obtain⟨⟨G1,hr1⟩,hF0⟩:=adoptT_sound had hr
   split at h
   ·exact wpIn_mono (plain p q h ro hro w0 G0 ac w G1 hr1) fun _ _ _ hp=>CPost.mono (fun x s' hh=>⟨hh.1,hF0.trans hh.2 (fun i hi=>hi) (fun i hi=>hi) (fun hn=>⟨rfl,hn⟩)⟩) hp
   ·rename_i c j
    obtain⟨hc,h⟩:=rq_some h
    rw [Bool.and_eq_true] at hc
    have hpre:=hr1.pre
    obtain⟨Q,hC,hN,hXn⟩:=cut_cases (A:=fun {R'} k'=>runT X F a p (R:=R') st1 k') h (C:=fun Q=>AWr X.P a st1 (fun x st'=>Q x st'∧Fr (wr a) (noDef a) st1 st')) (fun h'=>iha p h')
    refine seq_ok hro1 hr1 hC (fun s a' w' G' hq hr'=>?_) (fun x s hne hq=>?_)
    ·obtain⟨y,hp,hB⟩:=hN s hq.1
     obtain⟨⟨G2,hR⟩,hF⟩:=cut_step hX.E hpre hr' (hq.2.wide (fun _ h=>h) (fun _=>hc.2)) hc.1 hp
     exact wpIn_mono (ihb q hB ro hro2 w0 G0 a' w' G2 hR) fun _ _ _ hp=>CPost.mono (fun x s' hh=>⟨hh.1,hF0.trans (hF.trans hh.2 (W:=wr a++wr b) (n:=noDef b) (fun i hi=>by simp [hi]) (fun i hi=>by simp [hi]) (fun hn=>⟨rfl,hn⟩)) (fun i hi=>hi) (fun i hi=>hi) (fun hn=>by
      simp only [noDef,Bool.and_eq_true] at hn;exact⟨rfl,hn.2⟩)⟩) hp
    ·exact⟨hXn x s hne hq.1,hF0.trans hq.2 (fun i hi=>hi) (fun i hi=>by simp [wr,hi]) (fun hn=>⟨rfl,hc.2⟩)⟩
  ·split at h<;>try (cases h;done)
   exact revT_sound hX h
  ·exact plain .leaf .leaf h
 | loop a ih =>
  intro p R st k r h
  simp only [runT] at h
  split at h<;>try (cases h;done)
  rename_i ow c p
  split at h<;>try (cases h;done)
  rename_i st1 had
  obtain⟨hc,h⟩:=rq_some h
  rw [Bool.and_eq_true] at hc
  intro ro hro w0 G0 ac w G hr
  obtain⟨⟨G1,hr1⟩,hF0⟩:=adoptT_sound had hr
  have hpre:=hr1.pre
  cases hs:c.pack st1 st1 with
  | none=>rw [hs] at h;cases h
  | some s0 =>
   rw [hs] at h
   dsimp only [Option.bind] at h
   obtain⟨hR0,hFu⟩:=cut_step hX.E (W:=wr a) hpre hr1 (Fr.refl _ _ _) hc.1 hs
   refine wpIn_loop_ix (ι:=Nat × dens E c.tys) (fun x a' w'=>loopF (fun rc s=>runT X F a p (c.un (wr a) st1 s) (thenK (fun st'=>(c.pack st1 st').bind rc) k)) x.1 x.2=some r∧∃G',Rel E w0 G0 (c.un (wr a) st1 x.2) a' w' G') (fun x=>x.1) (F,s0) ⟨h,hR0⟩ ?_
   rintro⟨n,s⟩ a' w' ⟨hl,G',hr'⟩
   cases n with
   | zero=>cases hl
   | succ n =>
    simp only [loopF] at hl
    have hFs:Fr (wr a) true st1 (c.un (wr a) st1 s):=by
     unfold Cut.pack at hs
     split at hs<;>try (cases hs;done)
     rename_i ls hls
     exact Cut.unpack_fr hc.1 hls
    refine wpIn_mono (ih p hl ro hro w0 G0 a' w' G' hr') fun e a2 w2 hp=>?_
    obtain⟨x,s2,G2,he,hr2,hq,hf⟩:=hp
    have hF2:Fr (wr a) true st1 s2:=hFs.trans hf (fun _ h=>h) (fun _ h=>h) (fun _=>⟨rfl,hc.2⟩)
    cases x with
    | normal =>
     cases e<;>try (exact he.elim)
     simp only [thenK] at hq
     cases hp2:c.pack st1 s2 with
     | none=>rw [hp2] at hq;cases hq
     | some y =>
      rw [hp2] at hq
      obtain⟨hR2,-⟩:=cut_step hX.E hpre hr2 hF2 hc.1 hp2
      exact⟨(n,y),⟨hq,hR2⟩,Nat.lt_succ_self n⟩
    | _ =>
     have hcp:CPost E w0 G0 (fun x st'=>k x st'=some r∧Fr (wr (.loop a)) (noDef (.loop a)) st st') e a2 w2:=⟨_,s2,G2,he,hr2,hq,hF0.trans hF2 (fun _ h=>h) (fun _ h=>h) (fun _=>⟨rfl,rfl⟩)⟩
     cases e<;>first | exact he.elim | exact hcp
end
end Go.RT
