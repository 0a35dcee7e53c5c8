import Derived.Test.YtjfbblgjjdgjdaaGreatDoorRh
import Derived.Shelf.Strconv.Itoa3
import Derived.OpenShut
import Derived.Sort.KeysCollected
import Derived.Sort.OwnSorted
import Derived.Lib.Join
import Derived.Lib.LastIndexByte
import Derived.Lib.IndexAny
import Derived.Lib.Repeat
open Go.Region renaming wanted->pC
open Option renaming some->iN,none->iF
open Bool renaming true->hJ,false->eQ
open Decidable renaming decide->eK
open Nat renaming beq->eI
open List renaming range->bY,replicate->aT,length->Ts
open Go renaming Value->T1,execOp->R0,undef->M2,FuncId->H5,callFunc->H4,Oper->H3,wpList->H2
set_option linter.all false
namespace Go.RT
variable {E : TEnv}
variable{X:Cx E}{w:U}{P:bx}{f:H5}{fn:Func}{G:bB}{ds:J (TV E)}{F:Nat}{pl:fu}{C:bQ E}{args:aK T1}{n:Nat}
theorem enters_of{c:Code}(hf:P.funcs[f]? = iN fn)(hb:fn.body=iN c)(hn:(fn.name == "runtime.NumGoroutine")=eQ):∀args w,(H4 f args).run P w=.ok (.enter f args) w:=λargs w=>by simp only[H4,jJ,run_program,kn,hf,hn,hb];simp
def Qh(X:Cx E)(s:dm)(fn:Func)(bG:TS E):(p:O Outs)->O (TV E)->TS E->O (OutP E s.out p)|none,iF,st=>(ry X st fn.results.toList).bind λds=>s.out.get bG st (sr ds)|some q,iF,st=>ZJ ((ry X st fn.results.toList).bind λds=>s.out.get bG st (sr ds))|some q,iN d,st=>Aw (q.get bG st d)|none,iN _,_=>iF
def avn(X:Cx E)(D:Dx E)(s:dm)(fn:Func)(bG:TS E)(p:O Outs):Ex E->TS E->O (OutP E s.out p)|.ret,st=>EY D (Qh X s fn bG p) st.df iF st|.normal,st=>EY D (Qh X s fn bG p) st.df iF st|.panic d,st=>EY D (Qh X s fn bG p) st.df (iN d) st|_,_=>iF
noncomputable def aiK(X:Cx E)(D:Dx E)(F:Nat)(s:dm)(fn:Func)(pl:fu)(x:dens E s.tys):O (OutP E s.out s.nj):=match fn.body with|some c=>runT X F c pl (s.bG fn.ntmps (aV s.tys x)) (avn X D s fn (s.bG fn.ntmps (aV s.tys x)) s.nj)|none=>iF
theorem kW.apS{ds:J Deferred}(h:kW E w G ds []):ds=[]:=by cases ds with|nil=>rfl|cons _ _=>exact h.elim
theorem apT(hX:X.Ok){s:dm}{w0:World}{G0:bB}{bG st kg:TS E}{W:J Nat}{tmps:Array T1}{mv:J Deferred}{u:FrameMode}{m:Option (TV E)}(hpre:Pre G0 bG)(Tm:bG.d=[])(adq:bG.df=[])
  (hr:Rel E w0 G0 {st with df:=me m} {tmps:=tmps,defers:=mv} w G) (hm:Sd m mv u) (hF:Fr W eQ bG st):∀(p:Option Outs)(y:OutP E s.out p),Qh X s fn bG p m {st with df:=[]} = iN y ->
   Leaves X.P fn tmps (Ah E w0 G0 (match p,y with|none,y=>s.out.oa hJ bG.H bG.g (aV s.out.tys y)|some q,.inl y=>s.out.oa hJ bG.H bG.g (aV s.out.tys y)|some q,.inr y=>q.oa eQ bG.H bG.g (aV q.tys y))) [] u w:=by
 have hr':=hr.Wx (y:=[]) (ds:=[]) trivial;have hF':Fr W eQ bG {st with df:=[]}:=hF.trans (Fr.aiJ st [] W) (λ_ h=>h) (λ_ h=>h) (λh=>nomatch h);have hok:∀ {y:dens E s.out.tys},((ry X {st with df:=[]} fn.results.toList).bind λds=>s.out.get bG {st with df:=[]} (sr ds))=iN y ->
   ∃v,(results fn tmps).run X.P w=.ok v w/\Ah E w0 G0 (s.out.oa hJ bG.H bG.g (aV s.out.tys y)) (.returned v) w:=by
  intro y hy;cases hds:ry X {st with df:=[]} fn.results.toList with
  | none=>rw[hds]at hy;cases hy
  | some ds=>rw[hds]at hy;obtain⟨v,hv,hrun⟩:=Br hX hr' hds;obtain⟨G2,q1,q2,q3,q4,q5⟩:=Outs.Ie hX.E hpre Tm adq.symm hr' hF' hv hy;exact⟨v,hrun,v,G2,rfl,q1,q2,q3,q4,q5⟩
 intro p y hk;cases hm with
 | ret=>
  cases p with
  | none=>exact hok hk|some q=>obtain⟨y',hy,rfl⟩:=M4 hk;exact hok hy
 | nj d v=>
  cases p with
  | none=>cases hk
  | some q=>
   obtain⟨y',hy,rfl⟩:=Qb hk;have hv:VT E w G d v:=by obtain⟨am5,-⟩:=hr.defers;obtain⟨-,cap',ht',jT⟩:=am5.resolve_right (λhh=>absurd (show(0:Nat)=BR from hh.1) de);obtain⟨u1,us,he,h1,-⟩:=jT.cons_inv;simp_all
   obtain⟨G2,q1,q2,q3,q4,q5⟩:=Outs.Ie hX.E hpre Tm adq.symm hr' hF' hv hy;exact⟨v,G2,rfl,q1,q2,q3,q4,q5⟩
theorem afr(hX:X.Ok){D:Dx E}(hD:D.Ok X.P){s:dm}{x:dens E s.tys}{y:OutP E s.out s.nj}(hf:X.P.funcs[s.f]? = iN fn)(hn:(fn.name == "runtime.NumGoroutine")=eQ)(h:aiK X D F s fn pl x=iN y):
  mL X.P s.f (s.ds (aV s.tys x)) (s.H (aV s.tys x)) s.g0 (s.c (aV s.tys x)) (kY s (s.H (aV s.tys x)) s.nj y):=by
 unfold aiK at h;split at h<;>try trivial
 rename_i c hb;intro w G args hP hB hS hV;have HG:=Rel.init (n:=fn.ntmps) hP hB hS hV;have hpre:=HG.pre;refine uM hf hb hn (calls_of_wp_defers hf hb (wp_mono ((ve hX c pl h).wp HG) λe a' w' hp=>?_));obtain⟨ex,st,G',he,hr,hk,hF⟩:=hp;have hlen:=kW.len hr.defers;have Wa:Fr (wr c) eQ (s.bG fn.ntmps (aV s.tys x)) st:=hF.wide (λ_ h=>h) (λh=>nomatch h);have main:∀(m:Option (TV E))(mv:J Deferred)(u:FrameMode),Sd m mv u->kW E w' G' mv (me m)->EY D (Qh X s fn (s.bG fn.ntmps (aV s.tys x)) s.nj) st.df m st=iN y ->
   Leaves X.P fn a'.tmps (λe w'=>∃v G',e=Eg (kY s (s.H (aV s.tys x)) s.nj y).ok v/\mm w G w' G'/\mY E w' G' (kY s (s.H (aV s.tys x)) s.nj y).H (kY s (s.H (aV s.tys x)) s.nj y).g/\lS E w' G' (kY s (s.H (aV s.tys x)) s.nj y).c /\
   VT E w' G' (kY s (s.H (aV s.tys x)) s.nj y).d v/\∀(q b:Nat),G.i[q]? = iN b->q∉(kY s (s.H (aV s.tys x)) s.nj y).D->w'.heap[b]? = w.heap[b]?) a'.defers u w':=by
  intro m mv u hm VM hk;have adr:kW E w' G' (a'.defers++mv) (st.df++me m):=by
   have key:∀(a:J Deferred)(x:J (H5×J (TV E))),kW E w' G' a x->kW E w' G' (a++mv) (x++me m):=by
    intro a
    induction a with
    | nil=>intro x h;cases x with
     | nil=>exact VM|cons _ _=>exact h.elim
    | cons d a ih=>intro x h;cases x with
     | nil=>exact h.elim|cons z x=>exact⟨h.1,ih x h.2⟩
   exact key _ _ hr.defers
  refine Ih hX.E hD st.df m st a'.defers mv u w' G' hk hlen (hr.Wx adr) hm λm' st' mv' u' w2 G2 h1 h2 h3 qT=>?_;have hF3:Fr (wr c) eQ (s.bG fn.ntmps (aV s.tys x)) st':=Wa.trans qT (λ_ h=>h) (λ_ h=>by cases h) (λh=>nomatch h);have:=apT hX (kg:=st) hpre rfl rfl h2 h3 hF3 s.nj y h1;exact this
 cases ex<;>cases e<;>try (exact he.elim)
 ·exact main iF [] .returning .ret trivial hk
 ·cases hk
 ·cases hk
 ·exact main iF [] .returning .ret trivial hk
 ·rename_i d ch;obtain⟨v,rfl,hv⟩:=he;exact main (iN d) _ _ (.nj d v) ⟨.inl ⟨rfl,#[],rfl,.cons hv .nil⟩,trivial⟩ hk
theorem bQ.asd(hX:X.Ok){D:Dx E}(hD:D.Ok X.P)(hf:X.P.funcs[C.s.f]? = iN fn)(hn:(fn.name == "runtime.NumGoroutine")=eQ)(h:∀x,aiK X D F C.s fn pl x=C.m x):C.Ok X.P:=λx y hy=>afr hX hD hf hn (by rw[h x];exact hy)
def goN{I:Inv}:∀C∈([]:J (bQ E)),C.H9 I:=λ_ h=>nomatch h
theorem goC{I:Inv}{C:bQ E}{Γ:J (bQ E)}(h:C.H9 I)(hs:∀C∈Γ,C.H9 I):∀C'∈C::Γ,C'.H9 I:=λC' hC=>by grind
def ads:J H3->O (Nat×Nat)
 | [o1,o2]=>match o1.op,o1.dst,o1.guard,o2.op,o2.dst,o2.guard with
  | .call c,iN i,iF,.assign (.tmp i'),iN j,iF=>match c.callee with
   | .builtin .recover=>cond (eI i i'&&eI c.args.size 0) (iN (i,j)) iF|_=>iF
  | _,_,_,_,_,_=>iF
 | _=>iF
def dm.N0(s:dm)(n i j:Nat)(ls:J (Lf E)):TS E:=match s.ds ls with
 | m::ds=>{(⟨(Cd n ds).set i m,s.H ls,s.g0,[],[],s.c ls⟩:TS E)with t:=cG ((Cd n ds).set i m) (iN j) ((⟨(Cd n ds).set i m,s.H ls,s.g0,[],[],s.c ls⟩:TS E).ev (.tmp i))}
 | []=>s.bG n ls
noncomputable def am6(X:Cx E)(F:Nat)(s:dm)(fn:Func)(pl:fu)(x:dens E s.tys):O (OutP E s.out s.nj):=
 match fn.body with
 | some (.seq (.region _ ops eQ) rest)=>match ads ops.toList with
  | some (i,j)=>rq (jN rest&&s.nj.isNone) (runT X F rest pl (s.N0 fn.ntmps i j (aV s.tys x)) (pY X s fn (s.N0 fn.ntmps i j (aV s.tys x)) s.nj))|none=>iF
 | _=>iF
theorem afs{ops:aK H3}{i j:Nat}(h:ads ops.toList=iN (i,j)):∃o1 o2 c,ops=#[o1,o2]/\o1.op=.call c/\c.callee=.builtin .recover/\c.args=#[]/\o1.dst=iN i/\o1.guard=iF/\o2.op=.assign (.tmp i)/\o2.dst=iN j/\o2.guard=iF:=by
 unfold ads at h;split at h<;>try trivial
 split at h<;>try trivial
 rename_i c i0 i1 j0 h1 h2 h3 h4 h5 h6;split at h<;>try trivial
 cases hh:(eI i0 i1&&eI c.args.size 0)<;>rw[hh]at h<;>simp only[aU,aJ]at h
 ·cases h
 grind[Nat.eq_of_beq_eq_true]
theorem Rel.Mn{H:J (gf E)}{g:J cV}{cs:J (Nat×Cn E)}(hP:qR E w G)(hB:mY E w G H g)(hS:lS E w G cs)(hV:bO E w G ds args.toList):
  Rel E w G ⟨Cd n ds,H,g,[],[],cs⟩ {tmps:=args++Array.replicate (n-args.size) M2,defers:=[]} w G:=by
 have hl:args.size=Ts ds:=by simpa using hV.length
 refine⟨mm.refl w G,?_,λj d hj=>?_,trivial,hB,λ_ _ _ _=>rfl,hP,hS⟩
 ·simp[Cd,hl]
 ·unfold Cd at hj;by_cases hlt:j<Ts ds
  ·rw[wQ hlt]at hj;obtain⟨u,hu,hv⟩:=hV.get j hj;simp_all[aol]
  grind[List.mem_of_getElem?,VT]
theorem bQ.adt(hX:X.Ok)(hf:X.P.funcs[C.s.f]? = iN fn)(hn:(fn.name == "runtime.NumGoroutine")=eQ)(h:∀x,am6 X F C.s fn pl x=C.m x):C.H9 (EW X.P):=by
 intro x y hy;have h1:am6 X F C.s fn pl x=iN y:=by rw[h x];exact hy
 unfold am6 at h1;split at h1<;>try trivial
 rename_i id ops rest hb;split at h1<;>try trivial
 rename_i i j avo;obtain⟨hnp,h1⟩:=dX h1;rw[cK]at hnp;obtain⟨hnd,awj⟩:=hnp;obtain⟨o1,o2,c,rfl,ho1,amW,PO,ZK,hg1,ho2,ZL,Vk⟩:=afs avo;intro w G aoN hP hB hS hV;refine⟨enters_of hf hb hn,λv args u hva hmo=>?_⟩;rw[hva]at hV;generalize hds:C.s.ds (aV C.s.tys x)=dd at hV h1;cases dd with|nil=>simp_all[bO]|cons m ds=>
 obtain⟨v',us,he,hvm,hvs⟩:=hV.cons_inv;cases he;have hst:C.s.N0 fn.ntmps i j (aV C.s.tys x)={(⟨(Cd fn.ntmps ds).set i m,C.s.H (aV C.s.tys x),C.s.g0,[],[],C.s.c (aV C.s.tys x)⟩:TS E)with t:=cG ((Cd fn.ntmps ds).set i m) (iN j) ((⟨(Cd fn.ntmps ds).set i m,C.s.H (aV C.s.tys x),C.s.g0,[],[],C.s.c (aV C.s.tys x)⟩:TS E).ev (.tmp i))}:=by unfold dm.N0;rw[hds]
 have HG:=Rel.Mn (n:=fn.ntmps) hP hB hS hvs;have fB:Rel E w G ⟨(Cd fn.ntmps ds).set i m,C.s.H (aV C.s.tys x),C.s.g0,[],[],C.s.c (aV C.s.tys x)⟩ _ w G:=HG.put hvm (iN i);have hr2:=fB.put (fB.ev (.tmp i)) (iN j);have ase:Rel E w G (C.s.N0 fn.ntmps i j (aV C.s.tys x)) ((({tmps:=args++Array.replicate (fn.ntmps-args.size) M2,defers:=[]}:Act).put (iN i) v).put (iN j) ((({tmps:=args++Array.replicate (fn.ntmps-args.size) M2,defers:=[]}:Act).put (iN i) v).eval (.tmp i))) w G:=by rw[hst];exact hr2
 have hpre:=ase.pre;refine callsD_of_wpS hf hb λc₀ cs hu=>?_;apply wpS_seq;apply wpS_region;have Wd:bY (#[o1,o2]:aK H3).size=[0,1]:=rfl;rw[Wd];have go:∀(u':FrameMode),settle u'=.returning->wpOpsS X.P #[o1,o2] (Exit.thenS (rest.wpS X.P (bodyPostS X.P fn c₀ cs λe u' w'=>settle u'=.returning/\Ah E w G (kY C.s (C.s.H (aV C.s.tys x)) C.s.nj y) e w')) (bodyPostS X.P fn c₀ cs λe u' w'=>settle u'=.returning/\Ah E w G (kY C.s (C.s.H (aV C.s.tys x)) C.s.nj y) e w')) [1]
   (({tmps:=args++Array.replicate (fn.ntmps-args.size) M2,defers:=[]}:Act).put o1.dst v) ({c₀ with mode:=u'} :: cs) w:=by
  intro u' nZ;rw[ZK];have xu:pC o2 (yielded #[o1,o2] (({tmps:=args++Array.replicate (fn.ntmps-args.size) M2,defers:=[]}:Act).put (iN i) v).tmps)=hJ:=by simp[pC,Vk]
  have atX:(R0 (({tmps:=args++Array.replicate (fn.ntmps-args.size) M2,defers:=[]}:Act).put (iN i) v).eval o2).run X.P w=.ok (.value ((({tmps:=args++Array.replicate (fn.ntmps-args.size) M2,defers:=[]}:Act).put (iN i) v).eval (.tmp i))) w:=by simp[R0,ho2]
  have e1:(#[o1,o2]:aK H3)[1]? = iN o2:=rfl;simp only[wpOpsS,e1,xu,if_true,atX,Oper.upon,Exit.thenS];rw[ZL];refine wpS_of_wp (wp_mono ((ve hX rest pl h1).wp ase) λe a' w' hp=>?_);obtain⟨ex,st,G',he,hr,hk,hF⟩:=hp;have Tm:(C.s.N0 fn.ntmps i j (aV C.s.tys x)).d=[]:=by rw[hst]
  have adq:(C.s.N0 fn.ntmps i j (aV C.s.tys x)).df=[]:=by rw[hst]
  have hH0:(C.s.N0 fn.ntmps i j (aV C.s.tys x)).H=C.s.H (aV C.s.tys x):=by rw[hst]
  have hg0:(C.s.N0 fn.ntmps i j (aV C.s.tys x)).g=C.s.g0:=by rw[hst]
  have hdf:st.df=[]:=(hF.df hnd).trans adq;have Kq:a'.defers=[]:=by have:=hr.defers;grind[kW.apS]
  have fin:∀(p:O Outs)(y:OutP E C.s.out p),p.isNone=hJ->pY X C.s fn (C.s.N0 fn.ntmps i j (aV C.s.tys x)) p ex st=iN y ->
    bodyPostS X.P fn c₀ cs (λe u' w'=>settle u'=.returning/\Ah E w G (kY C.s (C.s.H (aV C.s.tys x)) p y) e w') e a' ({c₀ with mode:=u'} :: cs) w':=by
   intro p y hp hk;cases p with
   | some q=>cases hp
   | none=>
    have okc:Qe X C.s fn (C.s.N0 fn.ntmps i j (aV C.s.tys x)) st=iN y ->
      ∃v,(results fn a'.tmps).run X.P w'=.ok v w'/\Ah E w G (kY C.s (C.s.H (aV C.s.tys x)) iF y) (.returned v) w':=by
     intro hy;unfold Qe at hy;obtain⟨G3,W3,hr,hF,am1⟩:=agj (s:=C.s) (fn:=fn) hpre hr hF;generalize Ic C.s fn (C.s.N0 fn.ntmps i j (aV C.s.tys x)) (xJ 0 C.s.out.boxes st)=st3 at *;cases hds:ry X st3 fn.results.toList with
     | none=>rw[hds]at hy;cases hy
     | some ds=>rw[hds]at hy;obtain⟨v,hv,hrun⟩:=Br hX hr hds;obtain⟨G2,q1,q2,q3,q4,q5⟩:=Outs.Ie hX.E (ok:=hJ) hpre Tm ((am1.trans hdf).trans adq.symm) hr hF hv hy;rw[hH0,hg0]at q2 q3 q4;exact⟨v,hrun,v,G2,rfl,q1,q2,q3,q4,q5⟩
    cases ex<;>cases e<;>try (exact he.elim)
    ·obtain⟨v,hrun,h2⟩:=okc hk;exact⟨Kq,u',rfl,v,hrun,nZ,h2⟩
    ·cases hk
    ·cases hk
    ·obtain⟨v,hrun,h2⟩:=okc hk;exact⟨Kq,u',rfl,v,hrun,nZ,h2⟩
    ·cases hk
  simp_all
 have hw1:pC o1 (yielded #[o1,o2] ({tmps:=args++Array.replicate (fn.ntmps-args.size) M2,defers:=[]}:Act).tmps)=hJ:=by simp[pC,hg1]
 have atY:(R0 ({tmps:=args++Array.replicate (fn.ntmps-args.size) M2,defers:=[]}:Act).eval o1).run X.P w=.ok .recover w:=by simp[R0,ho1,resolve,amW,PO,invoke,go_sem]
 have e0:(#[o1,o2]:aK H3)[0]? = iN o1:=rfl;rw[wpOpsS];simp only[e0,hw1,if_true,atY];rcases hmo with⟨rfl,rfl⟩|rfl
 ·have hrd:recoverD (c₀::cs)=iF:=by simp[recoverD,hu]
  rw[hrd];have hc0:({c₀ with mode:=.returning}:Frame)=c₀:=by rw[<-hu]
  have:=go .returning rfl;simp_all
 ·have hrd:recoverD (c₀::cs)=iN (v,{c₀ with mode:=.panicking [{v:=v,recovered:=hJ}]} :: cs):=by simp[recoverD,hu]
  rw[hrd];exact go _ rfl
theorem mY.grown{w':U}{H:J (gf E)}{gs:J cV}{cs:J (Nat×Cn E)}(hP:qR E w G)(hB:mY E w G H gs)(hS:lS E w G cs)(hs:fG w w')(h1:w'.os=w.os)(h2:w'.tape=w.tape)(h3:w'.output=w.output):
  mm w G w' G/\mY E w' G H gs/\lS E w' G cs/\∀(q b:Nat),G.i[q]? = iN b->w'.heap[b]? = w.heap[b]?:=by
 have hr:=Rel.Mn (n:=0) hP hB hS .nil;have hr':=hr.grow hs h1 h2 h3 G.pr (λ_ _ h=>h) (λ_ _ _ h=>h) (λb o hp=>kD (hB.gN b o hp).1 hs.1);exact⟨hr'.fF,hr'.boxes,hr'.gO,λq b hq=>hr'.fix q b hq si⟩
theorem qQ(hf:P.funcs[f]? = iN fn)(hb:fn.body.isSome=hJ)(hn:(fn.name == "runtime.NumGoroutine")=eQ):∀args w,(H4 f args).run P w=.ok (.enter f args) w:=by grind[Option.isSome_iff_exists,Go.RT.enters_of]
def qy(F:Nat)(n:Int):O (J UInt8):=rq (eK (-9223372036854775808<=n)&&eK (n<=9223372036854775807)) (iN (Lib.itoa n))
def atZ(f:H5):dm:=⟨f,[.one (.dat (.int .i64))],[],[],⟨.one (.dat .str),[],[],[]⟩,iF,[]⟩
def aoO(E:TEnv)(f:H5)(F:Nat):bQ E:=⟨atZ f,λ(x:Int)=>qy F x⟩
theorem aap{name:String}{k:eU}{zs:J Int}{g:Nat}(hP:qR E w G)(hg:P.globalNamed name=iN g)
  (he:E.gb g=iN (λcs=>cs=(zs.map λz=>Value.int k z).toArray)):Lib.TabIs P w name k zs:=by
 obtain⟨cs,t,m,this,rfl⟩:=(hP g _ he).1;simp[Lib.TabIs,World.var?,hg,this]
theorem apU(he:∀args w,(H4 f args).run P w=.ok (.enter f args) w)(hT:∀w G,qR E w G->Lib.TabIs P w "internal/strconv.uint64pow10" .u64 Lib.pow10Tab)
  (hC:∀(n:Int),-9223372036854775808<=n->n<=9223372036854775807->∀(w:U),Lib.TabIs P w "internal/strconv.uint64pow10" .u64 Lib.pow10Tab ->
   Calls P f #[.int .i64 n] w λe w'=>e=.returned (.string ⟨(Lib.itoa n).toArray⟩)/\∃k os,w'=Go.Sort.grow (w.drewN k) os) (F:Nat):(aoO E f F).Ok P:=by
 have key:∀(n:Int),-9223372036854775808<=n->n<=9223372036854775807->mL (E:=E) P f [.dat (.int .i64) n] [] [] [] ⟨hJ,.dat .str (Lib.itoa n),[],[],[],[]⟩:=by
  intro n h0 h1 w G args hP hB hS hv;obtain⟨u,us,ha,wk,sE⟩:=hv.cons_inv;have e1:=wk.gq;subst e1 sE;have ha:args=#[.int .i64 n]:=by grind
  subst ha;unfold kX;rw[he];refine HC (hC n h0 h1 w (hT w G hP)) λe w' hh=>?_;obtain⟨rfl,k,os,rfl⟩:=hh
  have hs:fG w (Go.Sort.grow (w.drewN k) os):=⟨by simp_all,λb hb=>by
   show(w.heap++os)[b]? = _
   grind⟩
  obtain⟨q1,q2,q4,q3⟩:=hB.grown hP hS hs rfl rfl rfl;exact⟨_,G,rfl,q1,q2,q4,.str _ _ _,λq b hq _=>q3 q b hq⟩
 have am7:∀(n:Int)(y:J UInt8),qy F n=iN y->mL (E:=E) P f [.dat (.int .i64) n] [] [] [] ⟨hJ,.dat .str y,[],[],[],[]⟩:=by intro n y hy;obtain⟨h1,h2⟩:=dX hy;grind
 intro x y hy;exact am7 x y hy
variable{pr:Nat -> Nat -> Prop}{cs:J T1}{k:Nat}
theorem LD.getD:∀ {cs:J T1}{ds:J DV},LD w pr cs ds->∀ {l:Nat},l<Ts ds->VD w pr (cs.getD l M2) (ds.getD l default)|[],[],_,l,h=>by simp at h|c::cs,d::ds,h,0,_=>h.1|c::cs,d::ds,h,l+1,hl=>by simpa using LD.getD h.2 (by simpa using hl)|[],_::_,h,_,_=>h.elim|_::_,[],h,_,_=>h.elim
theorem LD.app:∀ {cs cs':J T1}{ds ds':J DV},LD w pr cs ds->LD w pr cs' ds'->LD w pr (cs++cs') (ds++ds')|[],cs',[],ds',_,h=>h|c::cs,cs',d::ds,ds',h,h'=>⟨h.1,LD.app h.2 h'⟩|[],_,_::_,_,h,_=>h.elim|_::_,_,[],_,h,_=>h.elim
theorem LD.cat{o:Nat}{a b:J DV}(h1:LD w pr ((cs.drop o).take k) a)(h2:LD w pr (cs.drop (o+k)) b):LD w pr (cs.drop o) (a++b):=by have:=h1.app h2;grind[List.drop_drop,List.take_append_drop]
theorem LD.fin(h:Ts cs=n):LD w pr (cs.drop n) []:=by rw[UZ om];exact trivial
variable{v:T1}
def block_lt_of_cell{a:Addr}(h:w.cell? a=iN v):a.block<w.heap.size:=agI w a h
def Jk{H:Type}(P:bx)(t:aL)(d:DataW H):Prop:=∀n∈d.weights P t,n<=reachBytes
theorem Uo{H:Type}{P:bx}{e:aL}{d:DataW H}{n:Nat}(hn:n∈d.weights P e):∀ {l:J (DataW H)},d∈l->n∈DataW.weightsAll P e l
 | x::l,h=>by
  rcases hU.1 h with rfl|h
  ·exact List.mem_append_left _ hn
  ·exact List.mem_append_right _ (Uo hn h)
theorem Qi{H:Type}{P:bx}{t:aL}{d:DataW H}{n:Nat}(hn:n∈d.weights P t):∀ {ts:J aL}{ds:J (DataW H)}(j:Nat),ts[j]? = iN t->ds[j]? = iN d->n∈DataW.weightsEach P ts ds|t'::ts,d'::ds,0,h1,h2=>by unfold DataW.weightsEach;simp_all|t'::ts,d'::ds,j+1,h1,h2=>by exact List.mem_append_right _ (Qi hn j (by simpa using h1) (by simpa using h2))|[],_,j,h1,_=>by simp at h1|_::_,[],j,_,h2=>by simp at h2
variable{H:Type}{d:DataW H}{t:aL}
def wAt{ts:J aL}{ds:J (DataW H)}(h:(DataW.weightsEach P ts ds).all (·<=reachBytes)=hJ)(j:Nat)(h1:ts[j]? = iN t)(h2:ds[j]? = iN d):Jk P t d:=λn hn=>zi (pP.1 h n (Qi hn j h1 h2))
def ez{H:Type}(fD:aL×T1->H)(P:bx)(W:U)(fuel:Nat)(t:aL){α:Type}(enc:α->J DV)(ok:α->Prop):Prop:=∀cs d ps,DataW.trod fD P W 0 (λ_=>hJ) hJ fuel t cs=iN (d,ps)->Jk P t d->∃x,ok x/\LD W (λb _=>b<W.heap.size) cs (enc x)
variable{fD:aL × T1 -> H}{W:U}{e:aL}{α:Type}{fuel:Nat}{enc:α->J DV}{ok:α->Prop}{fs:aK Field}{ps:J MemPlace}
theorem ahr(ht:P.underlying t=iN .bool)(fuel:Nat):ez fD P W fuel t (λb=>[.bool b]) (λ_=>True):=by
 intro cs d ps h _;cases fuel with
 | zero=>cases h
 | succ n=>
  simp[DataW.trod]at h;split at h<;>try (simp_all;done)
  rename_i b h1;exact⟨b,trivial,⟨.bool _,trivial⟩⟩
theorem Y3{k:eU}(ht:P.underlying t=iN (.int k))(fuel:Nat):ez fD P W fuel t (λn=>[.int k n]) (λn=>(Lit.int k n).wf=hJ):=by
 intro cs d ps h _;cases fuel with
 | zero=>cases h
 | succ n=>
  simp[DataW.trod,ht]at h;split at h<;>try (simp_all;done)
  rename_i k2 k' m h1;cases h1;split at h<;>try trivial
  rename_i hc;obtain⟨rfl,hw⟩:=hc;exact⟨m,hw,⟨.int _ _,trivial⟩⟩
theorem O3(ht:P.underlying t=iN .string)(fuel:Nat):ez fD P W fuel t (λl=>[.str l]) (λl=>Ts l<=140737488351232):=by
 intro cs d ps h hw;cases fuel with
 | zero=>cases h
 | succ n=>
  simp[DataW.trod]at h;split at h<;>try (simp_all;done)
  rename_i s h1;split at h<;>try trivial
  cases h;exact⟨s.data.toList,hw _ (by simp[DataW.weights]),⟨.str s.data.toList,trivial⟩⟩
theorem Ii{α β:Type}{f:α->O β}:∀ {l:J α}{r:J β},l.mapM f=iN r->Ts r=Ts l/\∀(j:Nat) a,l[j]? = iN a->∃b,r[j]? = iN b/\f a=iN b
 | [],r,h=>by simp_all|x::l,r,h=>by
  cases hx:f x with
  | none=>simp[hx]at h|some y=>
   cases hl:l.mapM f with
   | none=>simp[hl]at h|some r'=>simp[hx,hl]at h;subst h;obtain⟨h1,h2⟩:=Ii hl;refine⟨by simp[h1],λj a hj=>?_⟩;cases j with|zero=>simp at hj;subst hj;exact⟨y,si,hx⟩|succ j=>simp at hj⊢;exact h2 j a hj
theorem aiL{base:Nat}{a:Addr}(h:w.cells? base a n=iN cs):Ts cs=n/\∀j,j<n->w.cell? (a.add j)=iN (cs.getD j M2):=by
 unfold World.cells? at h;split at h<;>try trivial
 obtain⟨h1,h2⟩:=Ii h;have hl:Ts cs=n:=by simpa using h1
 refine⟨hl,λj hj=>?_⟩;obtain⟨b,hb,hc⟩:=h2 j j (by simp[hj]);simp_all
theorem SV{α:Type}[Inhabited α]{enc:α->J DV}{ok:α->Prop}(ht:P.underlying t=iN (.slice e))(hk:P.cellsOf e=k)(hkp:0<k)(hlen:∀x,(enc x).length=k)(he:ez fD P W fuel e enc ok):
  ez fD P W (fuel+1) t (λvs:J α=>[.slice k (vs.map enc)]) (λvs=>Ts vs<=maxLen/\∀x,x∈vs->ok x):=by
 intro cs d ps h hW;simp only[DataW.trod,ht]at h;split at h<;>try (simp_all;done)
 ·rename_i h1;exact⟨[],⟨si,λx hx=>by simp at hx⟩,⟨.v8 _ _,trivial⟩⟩
 ·rename_i e' a len cap h1;cases h1;split at h<;>try trivial
  rename_i hc;simp only[U3,Rh]at h;obtain⟨elems,hel,rest,eS,hd⟩:=h;have hwe:(∀y∈elems,Jk P e y.1)/\∀y∈rest,Jk P e y.1:=by
   obtain⟨rfl,-⟩:=Prod.mk.inj hd
   have hW':∀n,n∈DataW.weightsAll P e (elems.map (·.1))\/n∈DataW.weightsAll P e (rest.map (·.1))->n<=reachBytes:=λn hn=>hW n (by
    simp only[DataW.weights,ht]
    simp_all)
   exact⟨λy hy n hn=>hW' n (.inl (Uo hn (List.mem_map_of_mem hy))),λy hy n hn=>hW' n (.inr (Uo hn (List.mem_map_of_mem hy)))⟩
  obtain⟨hl,hg⟩:=Ii hel;have hlen':elems.length=len:=by simpa using hl
  have rd:∀j,(∃y:DataW H×J MemPlace,(W.cells? 0 (a.add (j*P.cellsOf e)) (P.cellsOf e)).bind (DataW.trod fD P W 0 (λ_=>hJ) hJ fuel e)=iN y/\Jk P e y.1) ->
    ∃x:α,ok x/\∃cs:J T1,Ts cs=k/\(∀l,l<k->W.cell? ((a.add (j*k)).add l)=iN (cs.getD l M2))/\LD W (λb _=>b<W.heap.size) cs (enc x):=by
   rintro j ⟨y,hy,hyw⟩;simp only[U3]at hy;obtain⟨cs,hcs,hy⟩:=hy;obtain⟨x,hx,hv⟩:=he cs y.1 y.2 hy hyw;grind[aiL]
  have key:∀j,j<len->∃x:α,ok x/\∃cs:J T1,Ts cs=k/\(∀l,l<k->W.cell? ((a.add (j*k)).add l)=iN (cs.getD l M2))/\LD W (λb _=>b<W.heap.size) cs (enc x):=by intro j hj;obtain⟨y,hm,hy⟩:=hg j j (by simp[hj]);exact rd j ⟨y,hy,hwe.1 y (jR hm)⟩
  by_cases hz:cap=0
  ·have hl0:len=0:=om;subst hz;subst hl0;exact⟨[],⟨si,λx hx=>by simp at hx⟩,⟨.v8 _ _,trivial⟩⟩
  have aoP:a.spot=iF:=by
   have h0:∃x:α,ok x/\∃cs:J T1,Ts cs=k/\(∀l,l<k->W.cell? ((a.add (0*k)).add l)=iN (cs.getD l M2))/\LD W (λb _=>b<W.heap.size) cs (enc x):=by
    by_cases hl1:0<len
    ·exact key 0 hl1
    ·have hl0:len=0:=om;subst hl0;obtain⟨hl2,Vk⟩:=Ii eS;obtain⟨y,hm,hy⟩:=Vk 0 0 (by grind);exact rd 0 ⟨y,by simpa using hy,hwe.2 y (jR hm)⟩
   obtain⟨x,-,cs,-,hcell,-⟩:=h0;have h1:=hcell 0 hkp;simp only[Nat.zero_mul]at h1;have e:(a.add 0).add 0=a:=by simp[Addr.add]
   rw[e]at h1;unfold World.cell? at h1;split at h1<;>try trivial
   simp_all
  obtain⟨b,off,spot⟩:=a;simp only at aoP;subst aoP;simp only[add_lit]at key;have hch:∃vs:J α,Ts vs=len/\∀j,j<len->ok (vs.getD j default)/\∃cs:J T1,Ts cs=k/\(∀l,l<k->W.cell? ⟨b,off+j*k+l,iF⟩=iN (cs.getD l M2))/\LD W (λb _=>b<W.heap.size) cs (enc (vs.getD j default)):=by
   clear hg hel eS rd hlen' hl hc
   induction len with
   | zero=>simp_all|succ n ih=>
    obtain⟨vs,h1,h2⟩:=ih (λj hj=>key j om);obtain⟨x,hx⟩:=key n om;refine⟨vs++[x],by simp[h1],λj hj=>?_⟩;by_cases hjn:j<n
    ·simp_all
    ·have hje:j=n:=om;simp_all
  obtain⟨vs,hvl,hvs⟩:=hch;refine⟨vs,⟨by rw[hvl];omega,λx hx=>?_⟩,?_⟩
  ·grind[List.getElem_of_mem]
  ·refine⟨?_,trivial⟩;have hml:(vs.map enc).length=len:=by simp[hvl]
   rw[<-hml];refine .slice b off cap k _ (λj l=>(W.cell? ⟨b,off+j*k+l,iF⟩).getD M2) (by rw[hml];omega) (λj hj=>?_) (λj l hj hl=>?_) (λj l hj hl=>?_)
   all_goals rw[hml]at hj
   ·simp_all
   ·obtain⟨-,cs,q1,q2,q3⟩:=hvs j hj;have:=q2 l hl;exact⟨block_lt_of_cell (a:=⟨b,off+j*k+l,iF⟩) this,by rw[this];rfl⟩
   grind[LD.getD]
theorem O2(ht:P.underlying t=iN (.struct fs))(h:DataW.trod fD P W 0 (λ_=>hJ) hJ (fuel+1) t cs=iN (d,ps))(hW:Jk P t d):
  cs.length=P.cellsOf t/\∀f,f∈fs.toList->∃y,DataW.trod fD P W 0 (λ_=>hJ) hJ fuel f.type ((cs.drop f.offset).take (P.cellsOf f.type))=iN y/\Jk P f.type y.1:=by
 simp only[DataW.trod,ht]at h;split at h<;>try trivial
 rename_i hl;obtain⟨xs,hxs,hd⟩:=Rh.1 h;obtain⟨rfl,-⟩:=Prod.mk.inj hd;refine⟨hl,λf hf=>?_⟩;obtain⟨j,hj,rfl⟩:=lH hf;obtain⟨b,hm,hb⟩:=(Ii hxs).2 j _ (ga hj);refine⟨b,hb,λn hn=>hW n ?_⟩;simp[DataW.weights,ht];exact Qi hn j (by grind) (by simp_all)
theorem aiM{t:aL}{f:Field}(hf:f∈fs.toList)(hk:P.cellsOf f.type=k)
  (ho:ez fD P W fuel f.type enc ok) (h:∀f,f∈fs.toList->∃y,DataW.trod fD P W 0 (λ_=>hJ) hJ fuel f.type ((cs.drop f.offset).take (P.cellsOf f.type))=iN y/\Jk P f.type y.1) :
  ∃x,ok x/\LD W (λb _=>b<W.heap.size) ((cs.drop f.offset).take k) (enc x):=by
 obtain⟨y,hy,hw⟩:=h f hf;rw[hk]at hy;exact ho _ y.1 y.2 hy hw
theorem aop.arg(ho:∀fuel,ez fD P W fuel t enc ok)(h:DataW.Trod fD P W 0 (λ_=>hJ) hJ t v d ps)(hw:Jk P t d):
  ∃x,ok x/\LD W (λb _=>b<W.heap.size) v.cells.toList (enc x):=by
 obtain⟨fuel,hf⟩:=h;exact ho fuel _ _ _ hf hw
theorem gA(j:Nat){f:Field}(hf:fs[j]? = iN f)(hk:P.cellsOf f.type=k)
  (ho:ez fD P W fuel f.type enc ok) (h:∀f,f∈fs.toList->∃y,DataW.trod fD P W 0 (λ_=>hJ) hJ fuel f.type ((cs.drop f.offset).take (P.cellsOf f.type))=iN y/\Jk P f.type y.1) :
  ∃x,ok x/\LD W (λb _=>b<W.heap.size) ((cs.drop f.offset).take k) (enc x):=
 aiM (t:=0) (by grind) hk ho h
theorem ajx{E:TEnv}{ds:J (TV E)}{args:aK T1}(h:mL P f ds [] [] [] ⟨hJ,.dat .bool hJ,[],[],[],[]⟩)(he:∀args w,(H4 f args).run P w=.ok (.enter f args) w)(adf:∀b p,E.gb b=iN p->∃cs t m,W.heap[b]? = iN (.cells cs t m)/\p cs)
  (hv:bO E W ⟨[],[],λb _=>b<W.heap.size⟩ ds args.toList):Calls P f args W λe w'=>e=.returned (.bool hJ)/\RowKit.Below W.heap.size W w':=by
 have hf:∀b,¬ (⟨[],[],λb _=>b<W.heap.size⟩:bB).Fw b:=λb hb=>by rcases hb with hb|⟨x,y,hb,-⟩<;>cases hb
 have hI:=h W ⟨[],[],λb _=>b<W.heap.size⟩ args (λb cs hb=>⟨adf b cs hb,hf b⟩)
  ⟨rfl,rfl,λr b x hb=>(by simp at hb),λb hb=>(by cases hb),zj,λb o hp=>⟨hp,si⟩,λj x y hj=>(by simp at hj),λj j' x h x' h' b hj=>(by simp at hj)⟩ (λj c hm=>by cases hm) hv
 unfold kX at hI;rw[he]at hI;refine HC hI λe w' hp=>?_;obtain⟨v,G',rfl,hE,hR,-,hV,-⟩:=hp;refine⟨?_,hE.os,hE.tape,hE.output,hE.size,λk hk=>hE.old k hk (hf k)⟩;have:=hV.nv;rw[this];rfl
open Go.MapKept Go.Maps Go.RowKit
open Go.WideElems (Fit rd rg pl)
open Go.Proofs (encStr)
def Up(x:J UInt8):J (J UInt8)->J (J UInt8)|[]=>[x]|y::l=>cond (eK (x<=y)) (x::y::l) (y::Up x l)
def rS:J (J UInt8)->J (J UInt8)|[]=>[]|x::l=>Up x (rS l)
theorem Qj(x:J UInt8):∀l,(Up x l).Perm (x::l)
 | []=>.refl _|y::l=>by
  simp[Up];cases eK (x<=y)
  ·exact((Qj x l).cons y).trans (List.Perm.swap x y l)
  ·exact .refl _
theorem Ej:∀l,(rS l).Perm l|[]=>.refl _|x::l=>(Qj x (rS l)).trans ((Ej l).cons x)
theorem adu(x:J UInt8):∀ {l:J (J UInt8)},l.Pairwise (λa b=>eK (a<=b)=hJ)->(Up x l).Pairwise (λa b=>eK (a<=b)=hJ)
 | [],_=>by simp[Up]|y::l,h=>by
  simp only[Up];cases hxy:eK (x<=y)with
  | true=>
   refine .cons (λc hc=>?_) h;rcases hU.1 hc with rfl|hc
   ·exact hxy
   ·have h2:=List.rel_of_pairwise_cons h hc;grind
  | false=>
   refine .cons (λc hc=>?_) (adu x h.of_cons);rcases hU.1 ((Qj x l).mem_iff.1 hc)with rfl|hc
   ·grind
   simp_all
theorem M8:∀l,(rS l).Pairwise (λa b=>eK (a<=b)=hJ)|[]=>.nil|x::l=>adu x (M8 l)
def adv(l:J (J UInt8)):l.mergeSort (λx y=>eK (x<=y))=rS l:=(mergeSort_of_perm (Ej l).symm).trans (List.mergeSort_of_pairwise (M8 l))
def skF{β:Type}(F:Nat)(m:J (J UInt8×β)):O (J (J UInt8)):=rq ((m.all λp=>eK (p.1.length<=9223372036854775807))&&eK (m.length*16<=140737488355328)) (iN (rS (m.map λp=>p.1)))
def skS(f fk ty:Nat)(vt:Ty):dm:=⟨f,[.one (.func fk [(0,0)])],[.cells ty [.jS 1],.map .str vt],[],⟨.one (.dat (.bz .str)),[iF,iF],[],[]⟩,iF,[]⟩
def skC(E:TEnv)(f fk ty:Nat)(vt:Ty)(F:Nat):bQ E:=⟨skS f fk ty vt,λ(x:J (J UInt8×vt.den E.D))=>skF F x⟩
def adw(P:bx)(fS fk ty kt:Nat):Prop:=
 ∀(w:U)(b0 b n:Nat)(D0:DataW Unit)(R:T1->O (DataW Unit×J MemPlace)),w.heap[b0]? = iN (.cells #[.map (iN b)] ty (0,0))->w.ownsMap P kt R b n D0->Maps.size D0<=maxLen->Maps.size D0*16<=140737488355328 ->
  Calls P fS #[.func (.func fk) #[] #[.pointer (iN ⟨b0,0,iF⟩)]] w λe w2=>∃(u:T1)(ss:J (J UInt8)),e=.returned u/\ss.Perm (strKeys D0) /\
   w2.ownsRow w.heap.size kt 1 u ss.length ((ss.mergeSort (λx y=>eK (x<=y))).map encStr)/\Below w.heap.size w w2
theorem To{w:U}{G:bB}{vt:Ty}:∀ {es:J MapEntry}{m:J (J UInt8×vt.den E.D)},gK E w G .str vt es m->es.map (λe=>e.key)=m.map λp=>mkStr p.1|[],[],_=>rfl|e::es,p::ps,h=>by have h1:=h.1.iS;simp[h1,To h.2.2]|[],_::_,h=>h.elim|_::_,[],h=>h.elim
theorem adx{kt:TypeId}{b:Nat}{es:Array MapEntry}{clock:Nat}(ks:J (J UInt8))(hk:P.underlying kt=iN .string)(hb:w.heap[b]? = iN (.map es clock))(hs:Stamped es clock)(hm:es.toList.map (λe=>e.key)=ks.map mkStr)
  (hl:∀p∈ks,p.length<=maxLen) (hlen:Ts ks<=maxLen):∃D0:DataW Unit,w.ownsMap P kt (λ_=>iN (.lit (.bool hJ),[])) b ks.length D0/\Maps.size D0=Ts ks/\(strKeys D0).Perm ks:=by
 have hsz:es.size=Ts ks:=by have:=congrArg Ts hm;simpa using this
 have hrd:∀x∈es.toList,∃p∈ks,x.key=mkStr p/\rd P kt (λ_=>iN ((.lit (.bool hJ):DataW Unit),[])) x=iN (.string p,.lit (.bool hJ)):=by
  intro x hx;have hmem:x.key∈ks.map mkStr:=by grind
  obtain⟨p,hp,Tf⟩:=lI.1 hmem;refine⟨p,hp,Tf.symm,?_⟩;have hko:keyOf P kt x.key=iN (.string p):=by rw[<-Tf];exact WideMaps.keyOf_string_mk hk (hl p hp)
  simp[rd,hko]
 have hF:Fit P kt (λ_=>iN ((.lit (.bool hJ):DataW Unit),[])) es clock:=⟨om,hs,λx hx=>by grind⟩;refine⟨_,⟨es,clock,hb,hF,om,rfl⟩,?_,?_⟩
 ·show((es.toList.map (rg P kt _)).foldr DataW.insert []).length=_;simp_all[length_sorted]
 ·refine((WideShapes.sorted_perm _).map _).trans ?_;have:(es.toList.map (rg P kt (λ_=>iN ((.lit (.bool hJ):DataW Unit),[])))).map (λp=>strOf p.1)=ks:=by
   have h2:(es.toList.map (rg P kt (λ_=>iN ((.lit (.bool hJ):DataW Unit),[])))).map (λp=>strOf p.1)=(es.toList.map (λe=>e.key)).map (λv=>match v with | .string s=>s.data.toList|_=>[]):=by rw[Av,Av];refine ag6 λx hx=>?_;obtain⟨p,-,Tf,hr⟩:=hrd x hx;simp[rg,hr,Tf,strOf,mkStr]
   rw[h2,hm,Av];have:((λv=>match v with|Value.string s=>s.data.toList|_=>[]) ∘ mkStr)=id:=by funext l;simp[mkStr]
   rw[this,Rq]
  rw[this]
variable{l:J (J UInt8)}
theorem am8{base:Nat}{kt:aL}{u:T1}(hn:n=Ts l)(h:w.ownsRow base kt 1 u n (l.map encStr))(hp:∀g,u.ownBlock=iN g->∀o,o<n->pr g o):
  VD w pr u (.slice 1 (l.map λx=>[.str x])):=by
 subst hn;rcases h.2 with⟨rfl,hz⟩|⟨g,cap,cur,rfl,hbase,hg,h1,h2,h3,h4⟩
 ·have:=HA hz;subst this;exact .v8 _ _
 ·have hlen:(l.map λx=>[DV.str x]).length=Ts l:=by simp
  have av4:∀q,q<Ts l->w.cell? ⟨g,q,iF⟩=iN (mkStr (l.getD q [])):=by intro q hq;rw[cell_of_row w g q cur kt (0,0) hg];have h5:=congrArg (λt=>t[q]?) h4;simp at h5;rw[abc]at h5;simp_all[OU,Array.getElem?_toList,mkStr]
  have:=VD.slice (w:=w) g 0 cap 1 (l.map λx=>[DV.str x]) (λj _=>mkStr (l.getD j [])) (by rw[hlen];simpa using h1) (λj hj=>by
    simp_all) (λj q hj hq=>by
    refine⟨hp g rfl _ om,?_⟩;simp_all) (λj q hj hq=>by
    have hj':j<Ts l:=by simpa using hj
    obtain rfl:q=0:=om;have e2:((l.map λx=>[DV.str x]).getD j []).getD 0 default=.str (l.getD j []):=by simp[hj']
    rw[e2];exact .str _)
  simp_all
theorem at0{f fk ty kt:Nat}{vt:Ty}(he:∀args w,(H4 f args).run P w=.ok (.enter f args) w)(hS:adw P f fk ty kt)(hkt:P.underlying kt=iN .string)(F:Nat):(skC E f fk ty vt F).Ok P:=by
 have key:∀(m:J (J UInt8×vt.den E.D)),(∀p∈m.map (λp=>p.1),p.length<=maxLen)->m.length*16<=140737488355328 ->
   mL P f [.func (.func fk) [.ptr 0 0]] [.cells ty [.jS 1],.map .str vt m] [] [] ⟨hJ,.dat (.bz .str) (rS (m.map λp=>p.1)),[.cells ty [.jS 1],.map .str vt m],[],[],[]⟩:=by
  intro m hm hlen w G args hP hB hSf hv;obtain⟨u,us,ha,wk,sE⟩:=hv.cons_inv;subst sE;obtain⟨vs,rfl,u0,us0,hvs,⟨b0,rfl,hb0⟩,rfl⟩:=wk;have awk:vs=#[.pointer (iN ⟨b0,0,iF⟩)]:=by grind
  have ha:args=#[.func (.func fk) #[] #[.pointer (iN ⟨b0,0,iF⟩)]]:=by grind
  subst ha;obtain⟨cs,hc1,Lh,hc3⟩:=hB.box 0 b0 _ hb0 rfl;obtain⟨u1,us1,hcs,⟨b1,rfl,wY⟩,rfl⟩:=hc3;have avp:cs=#[.map (iN b1)]:=by grind
  subst avp;obtain⟨es,clock,Y7,hm2,hm3⟩:=hB.box 1 b1 _ wY rfl;have hks:es.toList.map (λe=>e.key)=(m.map λp=>p.1).map mkStr:=by rw[To hm3,Av];rfl
  have hml:(m.map λp=>p.1).length<=maxLen:=by
   have:(8796093022208:Nat)<=maxLen:=by decide
   grind
  obtain⟨D0,hown,hsz,at1⟩:=adx (m.map λp=>p.1) hkt Y7 hm2 hks hm hml;unfold kX;rw[he];refine HC (hS w b0 b1 _ D0 _ hc1 hown (by rw[hsz];exact hml) (by simp_all)) λe w2 hh=>?_;obtain⟨u,ss,rfl,hss,hrow,Yk⟩:=hh;have hsort:=(mergeSort_of_perm (hss.trans at1)).trans (adv _);have at2:ss.length=(rS (m.map λp=>p.1)).length:=by grind[List.length_mergeSort]
  rw[hsort]at hrow;have hs:fG w w2:=⟨Yk.size,λk hk=>Yk.block k hk⟩
  let mO:Nat->Nat->Prop:=λg o=>G.pr g o\/(u.ownBlock=iN g/\o<ss.length)
  have hr:=Rel.Mn (n:=0) hP hB hSf .nil
  have hr':=hr.grow hs Yk.os Yk.tape Yk.output mO (λb o h=>.inl h) (λb o hb h=>by
    rcases h with h|⟨h,-⟩
    ·exact h
    ·have:=(hrow.lt b h).1;omega) (λb o h=>by
    rcases h with h|⟨h,-⟩
    ·exact kD (hB.gN b o h).1 Yk.size
    ·exact(hrow.lt b h).2)
  refine⟨u,{G with pr:=mO},rfl,hr'.fF,hr'.boxes,hr'.gO,?_,λq b hq _=>hr'.fix q b hq si⟩;exact⟨am8 at2 hrow (λg hg o ho=>.inr ⟨hg,ho⟩),trivial⟩
 have am7:∀(m:J (J UInt8×vt.den E.D))(y:J (J UInt8)),skF F m=iN y ->
   mL P f [.func (.func fk) [.ptr 0 0]] [.cells ty [.jS 1],.map .str vt m] [] [] ⟨hJ,.dat (.bz .str) y,[.cells ty [.jS 1],.map .str vt m],[],[],[]⟩:=by
  intro m y hy;obtain⟨h1,h2⟩:=dX hy;rw[cK,fW,pP]at h1;cases h2;refine key m (λp hp=>?_) h1.2;obtain⟨q,hq,rfl⟩:=lI.1 hp;have:=h1.1 q hq;simpa[maxLen]using this
 intro x y hy;exact am7 x y hy
open Go.RowKit
theorem D5{d:TV E}(he:∀args w,(H4 f args).run P w=.ok (.enter f args) w)
  (h:∀w G args,qR E w G->bO E w G ds args.toList->∃v,(∀w G,VT E w G d v)/\Calls P f args w λe w'=>e=.returned v/\Below w.heap.size w w'):mL P f ds [] [] [] ⟨hJ,d,[],[],[],[]⟩:=by
 intro w G args hP hB hS hv;obtain⟨v,hV,hC⟩:=h w G args hP hv;unfold kX;rw[he];refine HC hC λe w' hh=>?_;obtain⟨rfl,HD⟩:=hh;obtain⟨q1,q2,q4,q3⟩:=hB.grown hP hS ⟨HD.size,λk hk=>HD.block k hk⟩ HD.os HD.tape HD.output;exact⟨v,G,rfl,q1,q2,q4,hV _ _,λq b hq _=>q3 q b hq⟩
theorem VT.strs(h:VT E w G (.dat (.bz .str) l) v):
  (∃a,v=.slice a 0 0/\l=[])\/∃b off cap,v=.slice (iN ⟨b,off,iF⟩) l.length cap/\l.length<=cap/\∀(j:Nat) x,l[j]? = iN x->w.cell? ⟨b,off+j,iF⟩=iN (mkStr x):=by
 obtain⟨cs,hf,hc⟩:=(h.atom rfl).uC.flat (show 0<Ty.size E .str from Nat.one_pos);rcases hc with⟨a,he,hn⟩|⟨b,off,cap,he,hcap,hcells⟩
 ·simp_all
 ·refine .inr ⟨b,off,cap,by simpa using he,by simpa using hcap,λj x hx=>?_⟩;have hj:=(fC.1 hx).1;have h1:=(hcells j (by simpa[Ty.size]using hj)).2;have h2:=hf.2.2 j 0 (by simpa using hj) Nat.one_pos;have hd:((l.map (Ty.cells E .str)).getD j []).getD 0 default=.str x:=by simp_all[Ty.cells]
  rw[hd]at h2;rw[show Ty.size E .str=1 from rfl,Rc,OR]at h2;rw[h1,h2.iS]
def Ad(F:Nat)(l:J (J UInt8))(sep:J UInt8):O (J UInt8):=rq (eK (Ts l<=140737488355328)&&eK ((Lib.join l sep).length<=140737488355328)) (iN (Lib.join l sep))
def aoQ(E:TEnv)(f:H5)(F:Nat):bQ E:=⟨⟨f,[.one (.dat (.bz .str)),.one (.dat .str)],[],[],⟨.one (.dat .str),[],[],[]⟩,iF,[]⟩,λ(x:J (J UInt8)×J UInt8)=>Ad F x.1 x.2⟩
structure abI(P:Program)(f:H5):Prop where
 enters:∀args w,(H4 f args).run P w=.ok (.enter f args) w
 some:∀(bk o c:Nat)(xs:List ByteArray)(sep:ByteArray)(w:World),(∀(j:Nat) x,xs[j]? = iN x->w.cell? ⟨bk,o+j,iF⟩=iN (.string x))->bk<w.heap.size->Ts xs<=140737488355328->Ts xs<=c ->
  (Lib.join (xs.map (·.data.toList)) sep.data.toList).length<=140737488355328 ->
  Calls P f #[.slice (iN ⟨bk,o,iF⟩) xs.length c,.string sep] w λe w'=>e=.returned (.string ⟨(Lib.join (xs.map (·.data.toList)) sep.data.toList).toArray⟩)/\Below w.heap.size w w'
 none:∀(a:Option Addr)(c:Nat)(sep:ByteArray)(w:World),Calls P f #[.slice a 0 c,.string sep] w λe w'=>e=.returned (.string ⟨#[]⟩)/\w'=w
theorem apV(h:abI P f)(F:Nat):(aoQ E f F).Ok P:=by
 have key:∀(l:J (J UInt8))(sep y:J UInt8),Ad F l sep=iN y->mL (E:=E) P f [.dat (.bz .str) l,.dat .str sep] [] [] [] ⟨hJ,.dat .str y,[],[],[],[]⟩:=by
  intro l sep y hy;obtain⟨h1,h2⟩:=dX hy;rw[cK,fW,fW]at h1;cases h2;refine D5 h.enters λw G args hP hv=>⟨_,λw G=>.str w G (Lib.join l sep),?_⟩;obtain⟨u,us,ha,wk,sE⟩:=hv.cons_inv;obtain⟨u2,U5,tL,FQ,K5⟩:=sE.cons_inv;have e2:=FQ.iS;subst e2 K5 tL;have ha:args=#[u,mkStr sep]:=by grind
  subst ha;have zero:∀a c,l=[]->u=.slice a 0 c->Calls P f #[u,mkStr sep] w λe w'=>e=.returned (mkStr (Lib.join l sep))/\Below w.heap.size w w':=by intro a c hl hu;subst hl hu;exact(h.none a c ⟨⟨sep⟩⟩ w).mono λe w' ⟨q1,q2⟩=>⟨by rw[q1];rfl,q2▸Below.refl _ _⟩
  rcases wk.strs with⟨a,hu,hl⟩|⟨b,off,cap,hu,hcap,hc⟩
  ·exact zero a 0 hl hu
  ·rcases Nat.eq_zero_or_pos l.length with hl|hl
   ·simp_all
   ·have hx:(l.map λs=>(⟨⟨s⟩⟩:ByteArray)).map (·.data.toList)=l:=by rw[Av];exact Rq l
    have:=h.some b off cap (l.map λs=>⟨⟨s⟩⟩) ⟨⟨sep⟩⟩ w (λj x hjx=>by
     rw[OU]at hjx;obtain⟨s,hs,rfl⟩:=Rh.1 hjx;exact hc j s hs) (by
     have h0:=hc 0 l[0] (ga hl);exact agI w _ h0) (by simpa using h1.1) (by simpa using hcap) (by rw[hx];exact h1.2)
    rw[hx,jh]at this;rw[hu];exact this
 intro x y hy;exact key x.1 x.2 y hy
structure av5(P:Program)(f:H5):Prop where
 enters:∀args w,(H4 f args).run P w=.ok (.enter f args) w
 call:∀(s:ByteArray)(c:Nat)(w:World),c<=9223372036854775807->s.size*c<=140737488355328->Calls P f #[.string s,.int .i64 c] w λe w'=>e=.returned (.string ⟨(Lib.repeatL s.data.toList c).toArray⟩)/\Below w.heap.size w w'
def TW(F:Nat)(s:J UInt8)(c:Int):O Int:=rq (eK (Ts s<4611686018427387904)) (iN (Lib.lastIndexByte ⟨⟨s⟩⟩ c))
def asf(E:TEnv)(f:H5)(F:Nat):bQ E:=⟨⟨f,[.one (.dat .str),.one (.dat (.int .u8))],[],[],⟨.one (.dat (.int .i64)),[],[],[]⟩,iF,[]⟩,λ(x:J UInt8×Int)=>TW F x.1 x.2⟩
structure aor(P:Program)(f:H5):Prop where
 enters:∀args w,(H4 f args).run P w=.ok (.enter f args) w
 call:∀(s:ByteArray)(c:Int)(w:World),s.size<4611686018427387904->Calls P f #[.string s,.int .u8 c] w λe w'=>e=.returned (.int .i64 (Lib.lastIndexByte s c))/\w'=w
theorem ash(h:aor P f)(F:Nat):(asf E f F).Ok P:=by
 have key:∀(s:J UInt8)(n y:Int),TW F s n=iN y->mL (E:=E) P f [.dat .str s,.dat (.int .u8) n] [] [] [] ⟨hJ,.dat (.int .i64) y,[],[],[],[]⟩:=by
  intro s n y hy;obtain⟨h1,h2⟩:=dX hy;rw[fW]at h1;cases h2;refine D5 h.enters λw G args hP hv=>⟨_,λw G=>.int w G .i64 (Lib.lastIndexByte ⟨⟨s⟩⟩ n),?_⟩;obtain⟨u,us,ha,wk,sE⟩:=hv.cons_inv;obtain⟨u2,U5,tL,FQ,K5⟩:=sE.cons_inv;have e1:=wk.iS;have e2:=FQ.gq;subst e1 e2 K5 tL;have ha:args=#[mkStr s,.int .u8 n]:=by grind
  subst ha;exact(h.call ⟨⟨s⟩⟩ n w h1).mono λe w' ⟨q1,q2⟩=>⟨q1,q2▸Below.refl _ _⟩
 intro x y hy;exact key x.1 x.2 y hy
structure awl(P:Program)(f:H5):Prop where
 enters:∀args w,(H4 f args).run P w=.ok (.enter f args) w
 call:∀(s cs:ByteArray)(w:World),s.size<4294967281->cs.size<4294967281->(∀(j:Nat) b,cs.data.toList[j]? = iN b->b.toNat<128) ->
  Calls P f #[.string s,.string cs] w λe w'=>e=.returned (.bool (Lib.containsAny s.data.toList cs.data.toList))/\Below w.heap.size w w'
def HL(F:Nat)(s sep:J UInt8):O (J (J UInt8)):=rq (eK (Ts s<4294967281)&&eK (1<=sep.length)) (iN ((Lib.splitB ⟨⟨sep⟩⟩ 0 (Lib.countB ⟨⟨s⟩⟩ ⟨⟨sep⟩⟩) ⟨⟨s⟩⟩).map (·.data.toList)))
def akF(E:TEnv)(f:H5)(e:aL)(F:Nat):bQ E:=⟨⟨f,[.one (.dat .str),.one (.dat .str)],[],[],⟨.one (.eF 0),[],[iN (e,1)],[(0,.str)]⟩,iF,[]⟩,λ(x:J UInt8×J UInt8)=>HL F x.1 x.2⟩
structure afL(E:TEnv)(P:Program)(f:H5)(e:TypeId):Prop where
 enters:∀args w,(H4 f args).run P w=.ok (.enter f args) w
 call:∀(s sep:ByteArray)(w:World)(G:bB),qR E w G->s.size<4294967281->1<=sep.size->Calls P f #[.string s,.string sep] w λe' w'=>e'=.returned (.slice (iN ⟨w.heap.size,0,iF⟩) (Lib.countB s sep+1) (Lib.countB s sep+1))/\w'=w.alloc (.cells ((Lib.splitB sep 0 (Lib.countB s sep) s).map Value.string).toArray e)
 len:∀(s sep:ByteArray),1<=sep.size->(Lib.splitB sep 0 (Lib.countB s sep) s).length=Lib.countB s sep+1
 le:∀(s sep:ByteArray),1<=sep.size->Lib.countB s sep<=s.size
theorem akG(l:J ByteArray):Flat w pr 1 (l.map Value.string) ((l.map (·.data.toList)).map (Ty.cells E .str)):=by
 refine⟨si,λj hj=>?_,λj k hj hk=>?_⟩
 ·simp_all[Ty.cells]
 ·simp at hj;obtain rfl:k=0:=om;have e1:(l.map Value.string).getD (j*1+0) M2=.string l[j]:=by simp[hj]
  have e2:(((l.map (·.data.toList)).map (Ty.cells E .str)).getD j []).getD 0 default=.str l[j].data.toList:=by simp_all[Ty.cells]
  rw[e1,e2];exact .str _
theorem am9(h:afL E P f e)(F:Nat):(akF E f e F).Ok P:=by
 have key:∀(s sep:J UInt8)(y:J (J UInt8)),HL F s sep=iN y->mL (E:=E) P f [.dat .str s,.dat .str sep] [] [] [] ⟨hJ,.eF 0 0,[],[⟨0,e,1⟩],[],[(0,⟨.str,y⟩)]⟩:=by
  intro s sep y hy;obtain⟨h1,h2⟩:=dX hy;rw[cK,fW,fW]at h1;obtain⟨c1,c2⟩:=h1;cases h2;intro w G args hP hB hS hv;obtain⟨u,us,ha,wk,sE⟩:=hv.cons_inv;obtain⟨u2,U5,tL,FQ,K5⟩:=sE.cons_inv;have e1:=wk.iS;have e2:=FQ.iS;subst e1 e2 K5 tL;have ha:args=#[mkStr s,mkStr sep]:=by grind
  subst ha;unfold kX;rw[h.enters];have hlen:=h.len ⟨⟨s⟩⟩ ⟨⟨sep⟩⟩ c2;have hle:=h.le ⟨⟨s⟩⟩ ⟨⟨sep⟩⟩ c2;have hsz:(⟨⟨s⟩⟩:ByteArray).size=Ts s:=rfl;generalize hpl:Lib.splitB ⟨⟨sep⟩⟩ 0 (Lib.countB ⟨⟨s⟩⟩ ⟨⟨sep⟩⟩) ⟨⟨s⟩⟩=pl at hlen;generalize hcn:Lib.countB ⟨⟨s⟩⟩ ⟨⟨sep⟩⟩=cn at hlen hle;have hC:=h.call ⟨⟨s⟩⟩ ⟨⟨sep⟩⟩ w G hP c1 c2;rw[hcn]at hC hpl;rw[hpl]at hC;refine HC hC λe' w' hh=>?_;obtain⟨rfl,rfl⟩:=hh;have hr:=Rel.Mn (n:=0) hP hB hS .nil
  let cur:=(pl.map Value.string).toArray
  have hcs:cur.size=(cn+1)*1:=by simp[cur,hlen]
  have hG:=hr.grow (fG.alloc w (.cells cur e)) rfl rfl rfl G.pr (λ_ _ h=>h) (λ_ _ _ h=>h) (λb o hp=>kD (hr.boxes.gN b o hp).1 si);have hnp:∀o,¬ G.pr w.heap.size o:=λo hp=>absurd (hr.boxes.gN _ _ hp).1 (As _);have hheap:(w.alloc (.cells cur e)).heap[w.heap.size]? = iN (.cells cur e):=heap_alloc_new w _;have hmax:maxLen=9223372036854775807:=rfl;have hown:(w.alloc (.cells cur e)).ownsRow 0 e 1 (.slice (iN ⟨w.heap.size,0,iF⟩) (cn+1) (cn+1)) (cn+1) (cur.toList.take ((cn+1)*1)):=by refine⟨by simp[cur,hlen],.inr ⟨w.heap.size,cn+1,cur,rfl,fq _,hheap,eo _,?_,hcs,rfl⟩⟩;rw[hmax];omega
  have hA:=hG.DA ⟨0,e,1⟩ (.slice (iN ⟨w.heap.size,0,iF⟩) (cn+1) (cn+1)) ⟨cn+1,_,hown,λa q h=>by simp at h,λb hb=>by
    cases hb;exact⟨si,λhm=>absurd (hr.boxes.lt _ hm) (As _),λo _ hp=>hnp o hp⟩⟩ (λb hb=>by cases hb;exact hr.fF.size) (λj y z b hj hzb hb=>by
    cases hb;obtain⟨n',xs',-,-,hb'⟩:=hr.boxes.grow j y z hj
    simp_all)
  have hg0:G.g=[]:=by have:=hB.gs;simpa using this
  have lC:(G.g++[(⟨0,e,1⟩,Value.slice (iN ⟨w.heap.size,0,iF⟩) (cn+1) (cn+1))])[0]? = iN (⟨0,e,1⟩,.slice (iN ⟨w.heap.size,0,iF⟩) (cn+1) (cn+1)):=by rw[hg0];rfl
  have hC2:=hA.Yb (c:=⟨.str,pl.map (·.data.toList)⟩) ⟨⟨0,e,1⟩,_,lC,rfl,Nat.one_pos,⟨_,by simpa[hlen]using hown,by
    grind[List.take_of_length_le,akG]⟩,λb hb o hp=>by cases hb;exact hnp o hp⟩
  refine⟨_,_,rfl,hC2.fF,hC2.boxes,hC2.gO,?_,λq b hq _=>hC2.fix q b hq si⟩;exact⟨⟨0,e,1⟩,_,lC,eo _,rfl,λ_=>rfl⟩
 intro x y hy;exact key x.1 x.2 y hy
theorem Rel.apW{w0 w':U}{G0:bB}{st:TS E}{a:Act}(hr:Rel E w0 G0 st a w G){j:Nat}{g:cV}{c:Cn E}(hg:st.g[j]? = iN g)(hc:pW st.c j=iN c)(hj:G.g[j]? = iN (g,v))(wG:w.grownBy w' v.ownBlock){ys:J (c.1.den E.D)}{vals:J T1}
  (hown:w'.ownsRow 0 g.e g.k v ys.length vals) (hf:Flat w G.pr g.k vals (ys.map (c.1.cells E))) :
  Rel E w0 G0 {st with c:=(j,⟨c.1,ys⟩)::oO j st.c} a w' G:=by
 obtain⟨h,hj',hs,-⟩:=hr.soft hg hc;rw[hj]at hj';cases hj';obtain⟨n0,xs0,Vb,Py,hb0⟩:=hr.boxes.grow j g v hj;have hnp:=hs.2.2.2;have hcells:∀b o u,G.pr b o->w.cell? ⟨b,o,iF⟩=iN u->w'.cell? ⟨b,o,iF⟩=iN u:=λb o u hp hu=>wG.cell hu (λe=>hnp b e.symm o hp);have nZ:=ML hj;have key:=hr.setRow (cs:=(j,⟨c.1,ys⟩)::oO j st.c) hj (eo _) (λ_=>rfl) wG.size wG.os wG.tape wG.output
  (λb hb hne=>wG.block b hb (λe=>hne e.symm)) hcells G.pr (λ_ _ h=>h) (λ_ _ h=>.inl h)
  ⟨Ts ys,vals,hown,Py,λb hb=>⟨(hown.lt b hb).2,(hb0 b hb).2.1,λo _ hp=>hnp b hb o hp⟩⟩ (λb hb=>.inr hb) (λhg'=>?_)
 ·simp_all[ML]
 ·intro i c' hm;rcases hU.1 hm with e|hm
  ·cases e;exact⟨g,v,by rw[nZ];exact hj,hs.1,hs.2.1,⟨vals,hown,hf.mono hg'.pr hg'.cells⟩,hnp⟩
  ·obtain⟨hm,hne⟩:=uD hm;obtain⟨x,hd,q1,q2⟩:=hr.gO i c' hm;obtain⟨n1,xs1,-,-,wY⟩:=hr.boxes.grow i x hd q1;refine⟨x,hd,by rw[nZ];exact q1,q2.keep rfl rfl hg'.pr hg'.cells λb hb=>⟨wG.block b (wY b hb).1 (λe=>hne (hr.boxes.apart i j x hd g v b q1 hj hb e.symm)),λo hp=>hp⟩⟩
theorem aiN(l:J (J UInt8)):Flat w pr 1 (l.map Go.Proofs.encStr) (l.map (Ty.cells E .str)):=by
 refine⟨si,λj hj=>?_,λj k hj hk=>?_⟩
 ·simp_all[Ty.cells]
 ·simp at hj;obtain rfl:k=0:=om;have e1:(l.map Go.Proofs.encStr).getD (j*1+0) M2=mkStr l[j]:=by simp[hj];rfl
  have e2:((l.map (Ty.cells E .str)).getD j []).getD 0 default=.str l[j]:=by simp_all[Ty.cells]
  rw[e1,e2];exact .str _
theorem ZP{xs:J T1}(h:Flat w pr 1 xs (l.map (Ty.cells E .str))):xs=l.map Go.Proofs.encStr:=by
 have hl:Ts xs=Ts l:=by simpa using h.1
 refine Bo (by simpa using hl) λj h1 h2=>?_;have hj:j<Ts l:=om;have h3:=h.2.2 j 0 (by simpa using hj) Nat.one_pos;have e2:((l.map (Ty.cells E .str)).getD j []).getD 0 default=.str l[j]:=by simp_all[Ty.cells]
 have e1:xs.getD (j*1+0) M2=xs[j]:=by simp[h1]
 rw[e1,e2]at h3;rw[h3.iS,Md];rfl
def RG(F:Nat)(l:J (J UInt8)):O (J (J UInt8)):=rq (eK (Ts l<4611686018427387904)) (iN (rS l))
def aoR(E:TEnv)(f:H5)(e:aL)(F:Nat):bQ E:=⟨⟨f,[.one (.eF 0)],[],[(e,1)],⟨.one .any,[],[iF],[(0,.str)]⟩,iF,[(0,.str)]⟩,λ(x:J (J UInt8))=>RG F x⟩
structure ajA(P:Program)(f:H5):Prop where
 enters:∀args w,(H4 f args).run P w=.ok (.enter f args) w
 some:∀(blk cap:Nat)(ss:List (List UInt8))(w:World),Sort.Holds Go.Proofs.encStr w blk 0 ss.toArray->blk<w.heap.size->ss.length<4611686018427387904->Calls P f #[.slice (iN ⟨blk,0,iF⟩) ss.length cap] w λe w'=>e=.returned (.tuple #[])/\∃n os,w'=Sort.grow (Sort.putRow Go.Proofs.encStr (Sort.ahead w n) blk 0 (ss.mergeSort λx y=>eK (x<=y)).toArray) os
 none:∀(p:Option Addr)(cap:Nat)(w:World),Calls P f #[.slice p 0 cap] w λe w'=>e=.returned (.tuple #[])/\w'=w
theorem apX(h:ajA P f)(F:Nat):(aoR E f e F).Ok P:=by
 have key:∀(l y:J (J UInt8)),RG F l=iN y->mL (E:=E) P f [.eF 0 0] [] [⟨0,e,1⟩] [(0,⟨.str,l⟩)] ⟨hJ,.any,[],[⟨0,e,1⟩],[],[(0,⟨.str,y⟩)]⟩:=by
  intro l y hy;obtain⟨h1,h2⟩:=dX hy;rw[fW]at h1;cases h2;intro w G args hP hB hS hv;obtain⟨u,us,ha,wk,sE⟩:=hv.cons_inv;subst sE;have ha:args=#[u]:=by grind
  subst ha;unfold kX;rw[h.enters];have hr:=Rel.Mn (n:=0) hP hB hS .nil;obtain⟨v,hj,hs,hval⟩:=hr.soft (j:=0) rfl rfl;have mQ:=hval u wk;subst mQ;rcases hs.block with⟨q1,q2⟩|⟨b,cap,cur,q1,hheap,hcap,hcm,hcs,NV,hnp⟩
  ·have q2:l=[]:=q2;subst q2 q1;refine(h.none iF 0 w).mono λe' w' hh=>?_;obtain⟨rfl,rfl⟩:=hh;exact⟨_,G,rfl,mm.refl _ G,hB,hS,by simp[VT],λ_ _ _ _=>rfl⟩
  ·subst q1;have hft:=ZP NV;have hft:cur.toList.take l.length=l.map Go.Proofs.encStr:=by simp_all
   have hH:=Go.holds_of_block hheap hft;refine(h.some b cap l w hH (Bp.1 hheap).1 h1).mono λe' w' hh=>?_;obtain⟨rfl,n,os,rfl⟩:=hh;rw[adv];have NL:=(Ej l).length_eq;have hown:=Go.ownsRow_sorted (n:=n) (os:=os) NL (fq _) hheap hcap hcm hcs;have hR:=hr.apW rfl rfl hj (Go.grownBy_sorted _) (by rw[NL];exact hown) (aiN (rS l));exact⟨_,G,rfl,hR.fF,hR.boxes,hR.gO,by simp[VT],λq b hq _=>hR.fix q b hq si⟩
 intro x y hy;exact key x y hy
def zD(F:Nat)(sep:J UInt8)(l:J (J UInt8)):O (J UInt8×J (J UInt8)):=(Ad F l sep).bind λy=>iN (y,l)
def akH(E:TEnv)(f:H5)(e:aL)(F:Nat):bQ E:=⟨⟨f,[.one (.eF 0),.one (.dat .str)],[],[(e,1)],⟨.one (.dat .str),[],[iF],[(0,.str)]⟩,iF,[(0,.str)]⟩,λ(x:J UInt8×J (J UInt8))=>zD F x.1 x.2⟩
theorem ana(h:abI P f)(F:Nat):(akH E f e F).Ok P:=by
 have key:∀(sep y:J UInt8)(l z:J (J UInt8)),zD F sep l=iN (y,z)->mL (E:=E) P f [.eF 0 0,.dat .str sep] [] [⟨0,e,1⟩] [(0,⟨.str,l⟩)] ⟨hJ,.dat .str y,[],[⟨0,e,1⟩],[],[(0,⟨.str,z⟩)]⟩:=by
  intro sep y l z hy;unfold zD at hy;cases hj:Ad F l sep with
  | none=>rw[hj]at hy;cases hy
  | some y'=>
  rw[hj]at hy;cases hy;obtain⟨h1,h2⟩:=dX hj;rw[cK,fW,fW]at h1;cases h2;intro w G args hP hB hS hv;obtain⟨u,us,ha,wk,sE⟩:=hv.cons_inv;obtain⟨u2,U5,tL,FQ,K5⟩:=sE.cons_inv;have e2:=FQ.iS;subst e2 K5 tL;have ha:args=#[u,mkStr sep]:=by grind
  subst ha;unfold kX;rw[h.enters];have hr:=Rel.Mn (n:=0) hP hB hS .nil;obtain⟨v,hj,hs,hval⟩:=hr.soft (j:=0) rfl rfl;have mQ:=hval u wk;subst mQ;rcases hs.block with⟨q1,q2⟩|⟨b,cap,cur,q1,hheap,hcap,hcm,hcs,NV,hnp⟩
  ·have q2:l=[]:=q2;subst q2 q1;refine(h.none iF 0 ⟨⟨sep⟩⟩ w).mono λe' w' hh=>?_;obtain⟨rfl,rfl⟩:=hh;exact⟨_,G,rfl,mm.refl _ G,hB,hS,.str _ _ _,λ_ _ _ _=>rfl⟩
  ·subst q1;have hft:=ZP NV;have hx:(l.map λs=>(⟨⟨s⟩⟩:ByteArray)).map (·.data.toList)=l:=by rw[Av];exact Rq l
   have V6:=h.some b 0 cap (l.map λs=>⟨⟨s⟩⟩) ⟨⟨sep⟩⟩ w (λj x hjx=>by
     rw[OU]at hjx;obtain⟨s,hs',rfl⟩:=Rh.1 hjx;have hjl:=(fC.1 hs').1;have h3:(cur.toList.take l.length)[j]? = iN (Go.Proofs.encStr s):=by simp_all
     rw[List.getElem?_take_of_lt hjl]at h3;have h4:cur[j]? = iN (Go.Proofs.encStr s):=by simpa using h3
     simp[World.cell?,hheap,h4]) (Bp.1 hheap).1 (by simpa using h1.1) (by
     simp_all) (by rw[hx];exact h1.2)
   rw[hx,jh]at V6;refine V6.mono λe' w' hh=>?_;obtain⟨rfl,HD⟩:=hh;obtain⟨q1,q2,q4,q3⟩:=hB.grown hP hS ⟨HD.size,λk hk=>HD.block k hk⟩ HD.os HD.tape HD.output;exact⟨_,G,rfl,q1,q2,q4,.str _ _ _,λq b hq _=>q3 q b hq⟩
 intro x y hy;exact key x.1 y.1 x.2 y.2 hy
def XI(F:Nat)(s sep:J UInt8):O (J UInt8×J UInt8×Bool):=rq (eK (Ts s<4294967281)) (iN (Lib.cut s sep))
def asi(E:TEnv)(f:H5)(F:Nat):bQ E:=⟨⟨f,[.one (.dat .str),.one (.dat .str)],[],[],⟨.dI [.dat .str,.dat .str,.dat .bool],[],[],[]⟩,iF,[]⟩,λ(x:J UInt8×J UInt8)=>XI F x.1 x.2⟩
structure aos(E:TEnv)(P:Program)(f:H5):Prop where
 enters:∀args w,(H4 f args).run P w=.ok (.enter f args) w
 call:∀(s sep:ByteArray)(w:World)(G:bB),qR E w G->s.size<4294967281->Calls P f #[.string s,.string sep] w λe w'=>e=.returned (.tuple #[.string ⟨(Lib.cut s.data.toList sep.data.toList).1.toArray⟩,.string ⟨(Lib.cut s.data.toList sep.data.toList).2.1.toArray⟩,.bool (Lib.cut s.data.toList sep.data.toList).2.2])/\∃n,w'=w.drewN n
theorem asj(h:aos E P f)(F:Nat):(asi E f F).Ok P:=by
 have key:∀(s sep a b:J UInt8)(c:Bool),XI F s sep=iN (a,b,c)->mL (E:=E) P f [.dat .str s,.dat .str sep] [] [] [] ⟨hJ,.tuple [.dat .str a,.dat .str b,.dat .bool c],[],[],[],[]⟩:=by
  intro s sep a b c hy;obtain⟨h1,h2⟩:=dX hy;rw[fW]at h1;have h2:=pO h2;refine D5 h.enters λw G args hP hv=>⟨.tuple #[mkStr a,mkStr b,.bool c],λw G=>?_,?_⟩
  ·exact⟨_,rfl,.cons (.str _ _ _) (.cons (.str _ _ _) (.cons (.bool _ _ _) .nil))⟩
  obtain⟨u,us,ha,wk,sE⟩:=hv.cons_inv;obtain⟨u2,U5,tL,FQ,K5⟩:=sE.cons_inv;have e1:=wk.iS;have e2:=FQ.iS;subst e1 e2 K5 tL;have ha:args=#[mkStr s,mkStr sep]:=by grind
  subst ha;have:=h.call ⟨⟨s⟩⟩ ⟨⟨sep⟩⟩ w G hP h1;refine this.mono λe' w' hh=>?_;obtain⟨rfl,n,rfl⟩:=hh;refine⟨?_,?_⟩
  ·rw[h2];rfl
  ·exact⟨rfl,rfl,rfl,eo _,λ_ _=>rfl⟩
 intro x y hy;exact key x.1 x.2 y.1 y.2.1 y.2.2 hy
end Go.RT
namespace Go.RT
open Go.RowKit
variable {E : TEnv}
def xK(n:Nat)(m:J (Nat×TV E)):J (TV E):=m.foldl (λt p=>t.set p.1 p.2) (aT n .any)
def SS(n:Nat)(m:J (Nat×TV E))(H:J (gf E))(g:J cV):TS E:=⟨xK n m,H,g,[],[],[]⟩
theorem Uq:∀(m:J (Nat×TV E))(t:J (TV E)),(m.foldl (λt p=>t.set p.1 p.2) t).length=t.length/\∀j d,(m.foldl (λt p=>t.set p.1 p.2) t)[j]? = iN d->t[j]? = iN d\/(j,d)∈m
 | [],t=>⟨rfl,λj d h=>.inl h⟩|p::m,t=>by
  obtain⟨h1,h2⟩:=Uq m (t.set p.1 p.2);refine⟨by simpa using h1,λj d h=>?_⟩;rcases h2 j d h with h|h
  ·by_cases e:p.1=j
   ·subst e;have hl:p.1<t.length:=by have:=(fC.1 h).1;simpa using this
    rw[abf hl]at h;cases h;exact .inr si
   ·rw[Mb e]at h;exact .inl h
  ·exact .inr (by simp[h])
theorem vR(n:Nat)(m:J (Nat×TV E)):(xK n m).length=n:=by simp_all[xK,Uq]
variable{n:Nat}{m:J (Nat×TV E)}{j:Nat}
theorem yG{d:TV E}(h:(xK n m)[j]? = iN d):d=.any\/(j,d)∈m:=by
 rcases(Uq m _).2 j d h with h|h
 ·grind
 ·exact .inr h
variable{P:bx}{w0 w w':U}{G0 G G':bB}{st:TS E}{a:Act}{Q Q':Ex E -> TS E -> Prop}{c c':Code}{o:H3}{H:J (gf E)}{g:J cV}{t:aL}{ops:aK H3}{e:aL}{j1 j2:Nat}{z:T1}{ie:TI}{e2:aL}{j3 cap aG:Nat}
theorem Rel.weak(hr:Rel E w0 G0 st a w G)(hi:G0.i=[]){t':J (TV E)}(hl:t'.length=st.t.length)(ht:∀(j:Nat) d,t'[j]? = iN d->d=.any\/st.t[j]? = iN d)(d':J Nat):
  Rel E w0 G0 {st with t:=t',d:=d'} a w G:=by
 refine⟨hr.fF,hr.size.trans hl.symm,λj d hj=>?_,hr.defers,hr.boxes,λr b hb=>?_,hr.pins,hr.gO⟩
 ·rcases ht j d hj with rfl|h
  ·simp[VT]
  ·exact hr.tmps j d h
 simp_all
def AW(P:bx)(w0:U)(G0:bB)(c:Code)(st:TS E)(Q:Ex E->TS E->Prop):Prop:=∀a w G,Rel E w0 G0 st a w G->c.wp P (cQ E w0 G0 Q) a w
theorem AW.mono(h:AW P w0 G0 c st Q)(hq:∀x s,Q x s->Q' x s):AW P w0 G0 c st Q':=λa w G hr=>wp_mono (h a w G hr) λ_ _ _ hp=>cQ.mono hq hp
theorem AW.seq(h:AW P w0 G0 c st (λx s=>(x=.normal/\AW P w0 G0 c' s Q)\/(x≠.normal/\Q x s))):AW P w0 G0 (.seq c c') st Q:=λa w G hr=>by
 refine wp_seq (wp_mono (h a w G hr) λe a' w' hp=>?_);obtain⟨x,s,G',he,hr',hq⟩:=hp;rcases hq with⟨rfl,hq⟩|⟨hne,hq⟩
 ·cases e<;>try (exact he.elim)
  exact hq a' w' G' hr'
 ·have sO:cQ E w0 G0 Q e a' w':=⟨x,s,G',he,hr',hq⟩;cases x with
  | normal=>exact(hne rfl).elim|_=>cases e<;>first|exact he.elim|exact sO
def AW.Fs(h:AW P w0 G0 c st (λx s=>x=.normal/\Q' x s))(h':∀s,Q' .normal s->AW P w0 G0 c' s Q):AW P w0 G0 (.seq c c') st Q:=AW.seq (h.mono λx s hq=>.inl ⟨hq.1,h' s (hq.1▸hq.2)⟩)
theorem AW.block{i:Nat}(h:AW P w0 G0 c st (λx s=>(x=.exit i/\Q .normal s)\/(x≠.exit i/\Q x s))):AW P w0 G0 (.block i c) st Q:=λa w G hr=>by
 refine wp_block (wp_mono (h a w G hr) λe a' w' hp=>?_);obtain⟨x,s,G',he,hr',hq⟩:=hp;cases x with
 | exit j=>
  cases e<;>try (exact he.elim)
  rename_i i';subst he;simp[Exit.inBlock];rcases hq with⟨hx,hq⟩|⟨hx,hq⟩
  ·cases hx;rw[if_pos rfl];exact⟨.normal,s,G',trivial,hr',hq⟩
  ·rw[if_neg (λe=>hx (by rw[e]))];exact⟨.exit i',s,G',rfl,hr',hq⟩
 | _=>
  rcases hq with⟨hx,-⟩|⟨-,hq⟩
  ·cases hx
  ·have sO:cQ E w0 G0 Q e a' w':=⟨_,s,G',he,hr',hq⟩;cases e<;>first|exact he.elim|exact sO
theorem AW.cond{o:dH}{b:Bool}(ho:st.ev o=.dat .bool b)(h:AW P w0 G0 (if b then c else c') st Q):AW P w0 G0 (.cond o c c') st Q:=λa w G hr=>by have hv:=hr.ev o;rw[ho]at hv;exact wp_cond hv.nv (h a w G hr)
theorem AW.skip(h:Q .normal st):AW P w0 G0 .skip st Q:=λa w G hr=>wp_skip ⟨.normal,st,G,trivial,hr,h⟩
theorem AW.ret(h:Q .ret st):AW P w0 G0 .ret st Q:=λa w G hr=>wp_ret ⟨.ret,st,G,trivial,hr,h⟩
theorem AW.exit{i:Nat}(h:Q (.exit i) st):AW P w0 G0 (.exit i) st Q:=λa w G hr=>wp_exit ⟨.exit i,st,G,rfl,hr,h⟩
theorem AW.loop{ι:Type}(S:ι->TS E)(I:ι->Prop)(μ:ι->Nat)(x0:ι)(h0:I x0)(hS:st=S x0)
  (hs:∀x,I x->AW P w0 G0 c (S x) (λe s=>(e=.normal/\∃y,I y/\μ y<μ x/\s=S y)\/(e≠.normal/\Q e s))):AW P w0 G0 (.loop c) st Q:=λa w G hr=>by
 subst hS;refine(wpIn_wide (n:=0)).1 (Qc (ι:=ι) (λx a' w'=>I x/\∃G',Rel E w0 G0 (S x) a' w' G') μ x0 ⟨h0,G,hr⟩ ?_);rintro x a' w' ⟨hx,G',hr'⟩;refine(wpIn_wide).2 (wp_mono (hs x hx a' w' G' hr') λe a2 w2 hp=>?_);obtain⟨e',s,G2,he,hr2,hq⟩:=hp;rcases hq with⟨rfl,y,hy,hlt,rfl⟩|⟨hne,hq⟩
 ·cases e<;>try (exact he.elim)
  exact⟨y,⟨hy,G2,hr2⟩,hlt⟩
 ·have sO:cQ E w0 G0 Q e a2 w2:=⟨e',s,G2,he,hr2,hq⟩;cases e' with
  | normal=>exact(hne rfl).elim|_=>cases e<;>first|exact he.elim|exact sO
def proj(js:J Nat):Ex E->TS E->O (J (O (TV E))×J (gf E)×J cV×J (Nat×Cn E)×J (H5×J (TV E)))|.normal,s=>iN (js.map λj=>s.t[j]?,s.H,s.g,s.c,s.df)|_,_=>iF
theorem AW.rt{X:Cx E}(hX:X.Ok)(hi:G0.i=[]){pl:fu}{n:Nat}{m m':J (Nat×TV E)}{H H':J (gf E)}{g g':J cV}
  (h:runT X 0 c pl (SS n m H g) (proj (m'.map (·.1)))=iN (m'.map (λp=>iN p.2),H',g',[],[])) :
  AW X.P w0 G0 c (SS n m H g) (λx s=>x=.normal/\s=SS n m' H' g'):=λa w G hr=>by
 refine wp_mono ((ve hX c pl h).wp hr) λe a' w' hp=>?_;obtain⟨x,s,G',he,hr',hk,hF⟩:=hp;cases x with
 | normal=>
  simp only[proj,agN,ag1]at hk;obtain⟨k1,k2,k3,k4,k5⟩:=hk;obtain⟨t,H1,g1,d1,df1,c1⟩:=s;subst k2 k3 k4 k5;have hlen:t.length=n:=by rw[show t.length=_ from hF.len];exact vR n m
  refine⟨.normal,SS n m' H1 g1,G',he,?_,rfl,rfl⟩;refine hr'.weak hi (by simp_all[vR]) (λj d hj=>?_) [];rcases yG hj with h|h
  ·exact .inl h
  ·obtain⟨q,hq,he'⟩:=lH h;have:=congrArg (λl=>l[q]?) k1;simp_all
 | _=>cases hk
def anb(m:J (Nat×TV E)):Prop:=∀p∈m,∃t x,p.2=.dat t x
theorem Rel.ady(hr:Rel E w0 G0 (SS n m H g) a w G):kW E w' G' a.defers []:=by have h:=hr.defers;cases hd:a.defers with|nil=>trivial|cons d ds=>rw[hd]at h;exact h.elim
theorem Rel.akI(hr:Rel E w0 G0 (SS n m H g) a w G)(hi:G0.i=[])(hm:anb m):Rel E w0 G0 (SS n m [] g) a w {G with i:=[]}:=by
 have ev:=hr.fF;refine⟨⟨ev.os,ev.tape,ev.output,ev.size,ev.old,⟨ev.goes.pr,ev.goes.cells,λr b h=>(by rw[hi]at h;cases h),ev.goes.g⟩,ev.pE,λr b _ h=>(by cases h),ev.iz⟩,hr.size,λj d hj=>?_,hr.ady,?_,λr b hb=>(by rw[hi]at hb;cases hb),hr.pins,λj c h=>(by cases h)⟩
 ·have hv:=hr.tmps j d hj;rcases yG hj with rfl|h
  ·simp[VT]
  ·obtain⟨t,x,e⟩:=hm _ h;subst e;exact hv.ua (λ_ _ h=>h)
 ·refine⟨rfl,hr.boxes.gs,λr b x h=>(by cases h),λb h=>(by cases h),zj,λb o hp=>⟨(hr.boxes.gN b o hp).1,λh=>by cases h⟩,λj x h hj=>?_,hr.boxes.apart⟩;obtain⟨n',xs,h1,h2,h3⟩:=hr.boxes.grow j x h hj;exact⟨n',xs,h1,h2,λb hb=>⟨(h3 b hb).1,(λh=>by cases h),(h3 b hb).2.2⟩⟩
def VT.aoS{t:Ty}{x:t.den E.D}{v:T1}(h:VT E w G (.dat t x) v)(hp:∀b o,G.pr b o->G'.pr b o)(hc:∀b o u,G.pr b o->w.cell? ⟨b,o,iF⟩=iN u->w'.cell? ⟨b,o,iF⟩=iN u):VT E w' G' (.dat t x) v:=(h.mono (show jc w G w' {G with pr:=G'.pr}from⟨hp,hc,λ_ _ h=>h,λj x y hj=>⟨x,y,hj,eo _,λ_=>rfl⟩⟩)).ua (λ_ _ h=>h)
theorem wpList_step{Q:Exit->Act->U->Prop}{l:J H3}{v:T1}(hg:o.guard=iF)(hrun:(R0 a.eval o).run P w=.ok (.value v) w')(h:H2 P ops Q l (a.put o.dst v) w'):H2 P ops Q (o::l) a w:=by unfold H2;rw[if_pos (by simp[pC,hg])];left;unfold Oper.wp;rw[hrun];exact h
theorem Qk(ho:o.op=.buildSlice t 1 #[(0,.const (.slice iF 0 0))])(ht:aY P t=iN ⟨.slice e,j1,j2,z⟩)(hi:aY P e=iN ie)(hs:ie.size=1)(a:Act)(w:U):
  (R0 a.eval o).run P w=.ok (.value (.slice (iN ⟨w.heap.size,0,iF⟩) 1 1)) (w.alloc (.cells #[.slice iF 0 0] e)):=by
 obtain⟨xt,kG,eG,-⟩:=aQ ht;obtain⟨xe,rW,BV,hsz,-⟩:=aQ hi;have aoH:∀base:aK T1,base.size=1->Instr.fill (λi=>iN (i*1,1)) base [(0,(.slice iF 0 0:T1))]=iN #[.slice iF 0 0]:=by intro base hb;have h:=PA (k:=1) [(.slice iF 0 0:T1)] 0 base (by intro v hv;simp at hv;subst hv;rfl) (by simp[hb]);have hd:base.toList.drop 1=[]:=UZ (by simp[hb]);simp only[qi,Dc]at h;rw[hd]at h;exact h
 simp only[R0,ho,Instr.buildSlice,jJ,aW eG,kn,fK rW,hsz,hs];rw[if_neg de,if_neg de];have hf:=aoH ((Array.range (1*1)).map (ie.zero.cells[· % ie.zero.cells.size]!)) si;simp only[jJ,qj,oy hi,kn];have he:(#[(0,Operand.const (.slice iF 0 0))].map λx=>(x.1,a.eval x.2)).toList=[(0,(.slice iF 0 0:T1))]:=by simp[Act.eval]
 rw[he,hf];rfl
theorem Lx(n:Nat)(m m2:J (Nat×TV E)):xK n (m++m2)=m2.foldl (λt p=>t.set p.1 p.2) (xK n m):=by simp_all[xK,Mg]
theorem adz(a:Act)(v:T1)(h:j<a.tmps.size):(a.put (iN j) v).eval (.tmp j)=v:=by show(a.put (iN j) v).tmps.getD j M2=v;rw[Dy,if_pos ⟨rfl,h⟩]
theorem run_assign{x:dH}(ho:o.op=.assign x)(a:Act)(w:U):(R0 a.eval o).run P w=.ok (.value (a.eval x)) w:=by simp[R0,ho]
theorem run_move{x:dH}(ho:o.op=.move x)(a:Act)(w:U):(R0 a.eval o).run P w=.ok (.value (a.eval x)) w:=by simp[R0,ho]
theorem AW.at3{id:Nat}{o0 o1:H3}(oC:ops.toList=[o0,o1]){j6:Nat}(h0:o0.op=.buildSlice t 1 #[(0,.const (.slice iF 0 0))])(g0:o0.guard=iF)(d0:o0.dst=iN j6)
  (h1:o1.op=.assign (.tmp j6)) (g1:o1.guard=iF) (d1:o1.dst=iN j3) (ht:aY P t=iN ⟨.slice e,j1,j2,z⟩) (hi:aY P e=iN ie) (hs:ie.size=1) (tR:Ty) {m':J (Nat×TV E)} (hn:j6<n) (N1:G0.i=[])
  (hsub:∀p∈m',(xK n (m++[(j6,.any),(j3,.iW 0 1 1)]))[p.1]? = iN p.2) :
  AW P w0 G0 (.region id ops eQ) (SS n m [] []) (λx s=>x=.normal/\s=SS n m' [.mI e 1 (.bz tR) [] (.cH 0 0 tR [])] [⟨0,e2,tR.size E⟩]):=by
 intro a w G hr;refine wp_region_list ?_;rw[oC];have hsz:=hr.size.trans (vR n m);have hGi:=HA hr.boxes.len;refine wpList_step g0 (Qk h0 ht hi hs a w) ?_;refine wpList_step g1 (run_assign h1 _ _) ?_;rw[d0,adz _ _ (by rw[hsz];exact hn)];have r1:=hr.Lq e2 (tR.size E);have hgl:=hr.qZ
 have r2:=r1.Ln (.cells #[.slice iF 0 0] e) (.mI e 1 (.bz tR) [] (.cH 0 0 tR [])) (by
  refine⟨#[.slice iF 0 0],heap_alloc_new w _,rfl,λi x hx=>(by cases hx),?_,Nat.one_pos⟩
  ·exact PC hgl e2 tR)
 have r3:=r2.put (v:=.slice (iN ⟨w.heap.size,0,iF⟩) 1 1) (d:=.any) (by simp[VT]) (iN j6)
 have r4:=r3.put (v:=.slice (iN ⟨w.heap.size,0,iF⟩) 1 1) (d:=.iW 0 1 1) (by
  simp_all[VT]) (iN j3)
 rw[d1];refine⟨.normal,_,_,trivial,r4.weak N1 (by simp[SS,cG,vR]) (λj d hj=>?_) [],rfl,rfl⟩;rcases yG hj with h|h
 ·exact .inl h
 ·right;have:=hsub _ h;rw[Lx]at this;exact this
theorem AW.apY(hE:E.Ok){id:Nat}{o0 o1 o2 o3:H3}(oC:ops.toList=[o0,o1,o2,o3]){j3 FR HF O1:Nat}(h0:o0.op=.move (.tmp j3))(g0:o0.guard=iF)(d0:o0.dst=iN FR)
  (h1:o1.op=.buildSlice t 1 #[(0,.const (.slice iF 0 0))]) (g1:o1.guard=iF) (d1:o1.dst=iN HF) {cl:Call} (h2:o2.op=.call cl) (hcl:cl.callee=.builtin .append) (ha:cl.args=#[.tmp FR,.tmp HF]) (hat:cl.argTypes=#[t,t]) (g2:o2.guard=iF) (d2:o2.dst=iN O1)
  (h3:o3.op=.assign (.tmp O1)) (g3:o3.guard=iF) (d3:o3.dst=iN j3) (ht:aY P t=iN ⟨.slice e,j1,j2,z⟩) (hi:aY P e=iN ie) (hs:ie.size=1) (hzs:ie.zero.cells.size=ie.size) (tR:Ty)
  {m0:J (Nat×TV E)} (hm0:anb m0) (hn:FR<n/\HF<n/\O1<n/\FR≠HF) (N1:G0.i=[])  {xs:J (J (tR.den E.D))} {last:J (tR.den E.D)}
  (hj3:(xK n (m0++[(j3,.iW 0 (Ts xs+1) cap)]))[j3]? = iN (.iW 0 (Ts xs+1) cap)) (hlen:(Ts xs+2)*ie.bytes<=140737488355328) (asl:Ts xs+2<=9223372036854775807)
  (hsub:∀c':Nat,∀p∈m0++[(j3,.iW 0 (Ts xs+2) c')],(xK n ((((m0++[(FR,.any)])++[(HF,.any)])++[(O1,.any)])++[(j3,.iW 0 (Ts xs+2) c')]))[p.1]? = iN p.2) (hmd:∀p∈m0,(xK n (m0++[(j3,.iW 0 (Ts xs+1) cap)]))[p.1]? = iN p.2) :
  AW P w0 G0 (.region id ops eQ) (SS n (m0++[(j3,.iW 0 (Ts xs+1) cap)]) [.mI e cap (.bz tR) xs (.cH 0 aG tR last)] [⟨aG,e2,tR.size E⟩])
   (λx s=>x=.normal/\∃c',s=SS n (m0++[(j3,.iW 0 (Ts xs+2) c')]) [.mI e c' (.bz tR) (xs++[last]) (.cH 0 (aG+1) tR [])] [⟨aG+1,e2,tR.size E⟩]):=by
 intro a w G hr;refine wp_region_list ?_;rw[oC];have hsz:a.tmps.size=n:=hr.size.trans (vR n _);obtain⟨xt,kG,eG,-⟩:=aQ ht;obtain⟨xe,rW,BV,hsize,hby,hz⟩:=aQ hi;have FQ:=hr.tmps j3 _ hj3;simp only[VT]at FQ;obtain⟨b,FQ,anc⟩:=FQ;have hGi:G.i=[b]:=by
  have hl:G.i.length=1:=hr.boxes.len
  match hq:G.i,hl with|[b'],_=>simp_all
 obtain⟨cur,c1,c2,c4,c5,c6⟩:=hr.box (x:=.mI e cap (.bz tR) xs (.cH 0 aG tR last)) anc rfl;have ane:b<w.heap.size:=(Bp.1 c1).1;obtain⟨hd,hrow⟩:=hr.B4 (j:=0) (g:=⟨aG,e2,tR.size E⟩) rfl;have asm:VT E w G (.dat (.bz tR) last) (cur.getD xs.length M2):=by have h5:=c5;simp only[VT]at h5;exact .list h5.1
 have at4:Rel E w0 G0 (SS n m0 [] [⟨aG,e2,tR.size E⟩]) a w {G with i:=[]}:=by
  have h:=hr.weak N1 (t':=xK n m0) (by simp[SS,vR]) (λj d hj=>by
   rcases yG hj with h|h
   ·exact .inl h
   ·exact .inr (hmd _ h)) []
  exact h.akI N1 hm0
 have hpb:∀o,¬ G.pr b o:=λo hp=>(hr.boxes.gN b o hp).2 (by rw[hGi];simp);refine wpList_step g0 (run_move h0 a w) ?_;refine wpList_step g1 (Qk h1 ht hi hs _ w) ?_;obtain⟨a2,tL⟩:∃a2,((a.put o0.dst (a.eval (.tmp j3))).put o1.dst (.slice (iN ⟨w.heap.size,0,iF⟩) 1 1))=a2:=⟨_,rfl⟩;rw[tL];have avq:a2.tmps.size=n:=by grind[MG]
 have e54:a2.eval (.tmp HF)=.slice (iN ⟨w.heap.size,0,iF⟩) 1 1:=by rw[<-tL,d1];exact adz _ _ (by simp_all[MG])
 have e53:a2.eval (.tmp FR)=.slice (iN ⟨b,0,iF⟩) (Ts xs+1) cap:=by rw[<-tL,d1,d0];show((a.put (iN FR) (a.eval (.tmp j3))).put (iN HF) _).tmps.getD FR M2=_;rw[Dy,if_neg (λh=>hn.2.2.2 (pO h.1).symm),Dy,if_pos ⟨rfl,by rw[hsz];exact hn.1⟩];exact FQ
 obtain⟨W,hW⟩:∃W,w.alloc (.cells #[.slice iF 0 0] e)=W:=⟨_,rfl⟩;rw[hW];have hbW:W.heap[b]? = iN (.cells cur e (0,0)):=by rw[<-hW,(fG.alloc w _).2 b ane];exact c1
 have hcW:W.cell? ⟨w.heap.size,0,iF⟩=iN (.slice iF 0 0):=by rw[<-hW,cell_of_row _ w.heap.size 0 _ e (0,0) (heap_alloc_new w _)];rfl
 have hsrc:Src P xe.size t (.slice (iN ⟨w.heap.size,0,iF⟩) 1 1) 1 [.slice iF 0 0] W:=Src.ofSlice W eG _ 1 1 _ (by rw[hsize,hs];rfl) (λj u hj=>by
  match j,hj with|0,hj=>simp at hj;subst hj;exact hcW|j+1,hj=>simp at hj) (λu hu=>by simp at hu;subst hu;rfl)
 have ahW:cur.toList.length=cap:=by rw[<-c2];simp
 have key:∀(c':Nat)(W':World)(cur':Array T1)(b':Nat),(Builtin.append_ #[t,t] o2.type #[.slice (iN ⟨b,0,iF⟩) (Ts xs+1) cap,.slice (iN ⟨w.heap.size,0,iF⟩) 1 1]).run P W=.ok (.slice (iN ⟨b',0,iF⟩) (Ts xs+2) c') W' ->
   (∃G',Rel E w0 G0 (SS n m0 [.mI e c' (.bz tR) (xs++[last]) (.cH 0 (aG+1) tR [])] [⟨aG+1,e2,tR.size E⟩]) a W' G'/\G'.i=[b']) ->
   H2 P ops (cQ E w0 G0 (λx s=>x=.normal/\∃c',s=SS n (m0++[(j3,.iW 0 (Ts xs+2) c')]) [.mI e c' (.bz tR) (xs++[last]) (.cH 0 (aG+1) tR [])] [⟨aG+1,e2,tR.size E⟩])) [o2,o3] a2 W:=by
  intro c' W' cur' b' hrun hG';obtain⟨G',hR,hi'⟩:=hG';refine wpList_step g2 (v:=.slice (iN ⟨b',0,iF⟩) (Ts xs+2) c') (w':=W') ?_ ?_
  ·unfold R0;simp only[h2,resolve,hcl,jJ,qj,kn,invoke,builtin,ha,hat,List.map_toArray,jI,Km];simp_all
  refine wpList_step g3 (run_assign h3 _ _) ?_;rw[d2,adz _ _ (by rw[avq];exact hn.2.2.1),d3,<-tL,d0,d1];have r1:=hR.put (v:=a.eval (.tmp j3)) (d:=.any) (by simp only[VT]) (iN FR);have r2:=r1.put (v:=.slice (iN ⟨w.heap.size,0,iF⟩) 1 1) (d:=.any) (by simp only[VT]) (iN HF);have r3:=r2.put (v:=.slice (iN ⟨b',0,iF⟩) (Ts xs+2) c') (d:=.any) (by simp only[VT]) (iN O1)
  have r4:=r3.put (v:=.slice (iN ⟨b',0,iF⟩) (Ts xs+2) c') (d:=.iW 0 (Ts xs+2) c') (by
   simp_all[VT]) (iN j3)
  refine⟨.normal,_,_,trivial,r4.weak N1 (t':=xK n (m0++[(j3,.iW 0 (Ts xs+2) c')])) (by simp[SS,cG,vR]) (λj d hj=>?_) [],rfl,c',rfl⟩;rcases yG hj with h|h
  ·exact .inl h
  ·right;have:=hsub c' _ h;rw[Lx,Lx,Lx,Lx]at this;exact this
 by_cases hroom:Ts xs+1+1<=cap
 ·have VN:(Ts xs+1)*xe.size+1<=cur.size:=by rw[hsize,hs,c2];omega
  have hr':=run_append_room_src (P:=P) W t t o2.type e xe eG rW b 0 (Ts xs+1) cap _ 1 _ hsrc hroom
   (λj hj=>by
    have hj:j<1:=hj;rw[cell_of_row W b _ cur e (0,0) hbW]
    grind)
   (λj hj=>frozen_of_row W b _ cur e hbW)
  rw[rX,B1 b e [.slice iF 0 0] ((Ts xs+1)*xe.size) cur W hbW (by simpa using VN)]at hr';obtain⟨new,hnew⟩:∃new,(cur.toList.take ((Ts xs+1)*xe.size)++[(.slice iF 0 0:T1)]++cur.toList.drop ((Ts xs+1)*xe.size+[(.slice iF 0 0:T1)].length)).toArray=new:=⟨_,rfl⟩;rw[hnew]at hr';refine key cap (W.setRow b new) new b hr' ?_;have PF:∀q,q<=Ts xs+1->new.getD q M2=if q=Ts xs+1 then .slice iF 0 0 else cur.getD q M2:=by
   intro q hq;rw[Rl,Rl,<-hnew,List.getElem?_toArray,hsize,hs,Rc];have htl:(cur.toList.take (Ts xs+1)).length=Ts xs+1:=by grind
   by_cases h1:q=Ts xs+1
   ·simp_all
   grind
  have rV:new.size=cap:=by grind
  have hGr:=hr.grow (fG.alloc w (.cells #[.slice iF 0 0] e)) rfl rfl rfl G.pr (λ_ _ h=>h) (λ_ _ _ h=>h) (λb o hp=>kD (hr.boxes.gN b o hp).1 si);rw[hW]at hGr;have r1:=hGr.R7 (x':=⟨aG+1,e2,tR.size E⟩) (hd':=.slice iF 0 0) hrow (Ko _) (yD _) (λc h=>by cases h) (λb hb=>nomatch hb) (λ_ _ _ _ _ _ _ hb=>nomatch hb)
  have r2:=r1.weak N1 (t':=xK n m0) (by simp[SS,vR]) (λj d hj=>by
   rcases yG hj with h|h
   ·exact .inl h
   ·exact .inr (hmd _ h)) []
  obtain⟨awm,x1,x2,x4,x5,x6⟩:=r2.box (x:=.mI e cap (.bz tR) xs (.cH 0 aG tR last)) anc rfl;rw[hbW]at x1;cases x1;have hgl:0<G.g.length:=(fC.1 hrow).1
  have r3:=r2.zI (w':=W.setRow b new) (r:=0) anc si rfl rfl rfl (λb' hb'=>setRow_other W b b' _ hb') (x:=.mI e cap (.bz tR) (xs++[last]) (.cH 0 (aG+1) tR [])) (λhg=>by
   refine⟨new,setRow_heap W b cur _ e _ hbW,rV,λq x hx=>?_,?_,aR⟩
   ·have hq:q<Ts xs+1:=by grind
    rw[PF q om,if_neg om];by_cases h1:q<Ts xs
    ·rw[wQ h1]at hx;exact(x4 q x hx).mono hg
    ·obtain rfl:q=Ts xs:=om;simp at hx;subst hx;simp only[VT]at x5;exact(VT.list x5.1).mono hg
   ·simp only[nX,qi,Dc,rX]
    rw[PF _ (eo _),if_pos rfl];simp only[VT];exact⟨.v8 _ _,⟨aG+1,e2,tR.size E⟩,.slice iF 0 0,by simp[hgl],eo _,λ_=>rfl⟩)
  exact⟨_,r3.weak N1 (t':=xK n m0) rfl (λj d hj=>.inr hj) [],hGi⟩
 ·have hlt:cap<Ts xs+1+1:=om;have av6:cap=Ts xs+1:=om;have hfit:=growslice_fits (need:=Ts xs+1+1) (old:=cap) (bytes:=xe.bytes) hlt (by rw[hby];exact hlen);have Zn:(Builtin.firstCells xe.size (Ts xs+1) (.slice (iN ⟨b,0,iF⟩) (Ts xs+1) cap)).run P W.drew=.ok cur.toList.toArray W.drew:=
   run_firstCells_some W.drew xe.size (Ts xs+1) ⟨b,0,iF⟩ (Ts xs+1) cap cur.toList (by simp_all) (λj v hj=>by
    have e1:(W.drew).cell? (Addr.add ⟨b,0,iF⟩ j)=W.cell? ⟨b,j,iF⟩:=by rw[add_lit,rX];rfl
    rw[e1,cell_of_row W b j cur e (0,0) hbW];simpa using hj)
  have hr':=run_append_grow_src (P:=P) W t t o2.type e xe ie.zero eG rW hz (iN ⟨b,0,iF⟩) (Ts xs+1) cap cur.toList Zn _ 1 _ hsrc hlt om hfit;have ah7:=grownCap_ge W (Ts xs+1+1) cap e;generalize grownCap W (Ts xs+1+1) cap e=cap' at hr' ah7;obtain⟨cs,hcs⟩:∃cs,(cur.toList++[(.slice iF 0 0:T1)]).toArray++Builtin.zeroCells ie.zero.cells (cap'-(Ts xs+1+1))=cs:=⟨_,rfl⟩;rw[hcs]at hr';refine key cap' (W.drew.alloc (.cells cs e)) cs W.heap.size hr' ?_;have hcl:cs.toList=(cur.toList++[(.slice iF 0 0:T1)])++(Builtin.zeroCells ie.zero.cells (cap'-(Ts xs+1+1))).toList:=by rw[<-hcs];simp
  have rV:cs.size=cap':=by rw[<-hcs,agL,size_zeroCells,hzs,hs,agM,nX,ahW];simp_all
  have PF:∀q,q<=Ts xs+1->cs.getD q M2=if q=Ts xs+1 then .slice iF 0 0 else cur.getD q M2:=by intro q hq;rw[Rl,Rl,<-Array.getElem?_toList,hcl];grind
  have d1':=at4.grow (fG.alloc w (.cells #[.slice iF 0 0] e)) rfl rfl rfl G.pr (λ_ _ h=>h) (λ_ _ _ h=>h) (λb o hp=>kD (hr.boxes.gN b o hp).1 si);rw[hW]at d1';have d2':=d1'.R7 (x':=⟨aG+1,e2,tR.size E⟩) (hd':=.slice iF 0 0) hrow (Ko _) (yD _) (λc h=>by cases h) (λb hb=>nomatch hb) (λ_ _ _ _ _ _ _ hb=>nomatch hb);have d3':=d2'.grow (w':=W.drew) ⟨eo _,λ_ _=>rfl⟩ rfl rfl rfl G.pr (λ_ _ h=>h) (λ_ _ _ h=>h) (λb o hp=>(d2'.boxes.gN b o hp).1);have hgl:0<G.g.length:=(fC.1 hrow).1;have hsame:∀b o u,G.pr b o->w.cell? ⟨b,o,iF⟩=iN u->(W.drew.alloc (.cells cs e)).cell? ⟨b,o,iF⟩=iN u:=λb o u hp hu=>by
   have q1:W.cell? ⟨b,o,iF⟩=iN u:=by rw[<-hW];exact(fG.alloc w _).cell hu
   have q2:(W.drew).cell? ⟨b,o,iF⟩=iN u:=q1;exact(fG.alloc W.drew _).cell q2
  have d4':=d3'.Ln (.cells cs e) (.mI e cap' (.bz tR) (xs++[last]) (.cH 0 (aG+1) tR [])) (by
   refine⟨cs,heap_alloc_new _ _,rV,λq x hx=>?_,?_,aR⟩
   ·have hq:q<Ts xs+1:=by grind
    rw[PF q om,if_neg om];by_cases h1:q<Ts xs
    ·rw[wQ h1]at hx;exact(c4 q x hx).aoS (λ_ _ h=>h) hsame
    ·obtain rfl:q=Ts xs:=om;simp at hx;subst hx;exact asm.aoS (λ_ _ h=>h) hsame
   ·simp only[nX,qi,Dc,rX]
    rw[PF _ (eo _),if_pos rfl];simp only[VT];exact⟨.v8 _ _,⟨aG+1,e2,tR.size E⟩,.slice iF 0 0,by simp[hgl],eo _,λ_=>rfl⟩)
  exact⟨_,d4'.weak N1 (t':=xK n m0) rfl (λj d hj=>.inr hj) [],rfl⟩
theorem apf{k2:Nat}{tR:Ty}{xs:J (J (tR.den E.D))}{last:J (tR.den E.D)}(hr:Rel E w0 G0 (SS n m [.mI e cap (.bz tR) xs (.cH 0 aG tR last)] [⟨aG,e2,k2⟩]) a w G)
  (hi:G0.i=[]) (hg:G0.g=[]) (hj:(xK n m)[j]? = iN (.iW 0 (Ts xs+1) cap)) :
  ∃G',mm w0 G0 w G'/\mY E w G' [] []/\lS E w G' []/\VT E w G' (.dat (.bz (.bz tR)) (xs++[last])) (a.tmps.getD j M2):=by
 have hv:=hr.tmps j _ hj;obtain⟨b,hv,hat⟩:=hv;obtain⟨cur,c1,c2,c4,c5,c6⟩:=hr.box hat rfl;have ane:=(Bp.1 c1).1;have ev:=hr.fF;have hnew:=ev.r7 0 b (by simp_all) hat;refine⟨⟨[],[],λb' o=>G.pr b' o\/(b'=b/\o<Ts xs+1)⟩,?_,?_,λj c h=>(by cases h),?_⟩
 ·refine⟨ev.os,ev.tape,ev.output,ev.size,ev.old,⟨λb o h=>.inl (ev.goes.pr b o h),ev.goes.cells,λr b h=>(by rw[hi]at h;cases h),λj x h hj=>(by rw[hg]at hj;cases hj)⟩,λb' o hb hp=>?_,λr b _ h=>(by cases h),λj x h b hj=>(by cases hj)⟩;rcases hp with hp|⟨rfl,-⟩
  ·exact ev.pE b' o hb hp
  ·omega
 ·refine⟨rfl,rfl,λr b x h=>(by cases h),λb h=>(by cases h),zj,λb' o hp=>⟨?_,λh=>by cases h⟩,λj x h hj=>(by cases hj),λj j' x h x' h' b hj=>(by cases hj)⟩;rcases hp with hp|⟨rfl,-⟩
  ·exact(hr.boxes.gN b' o hp).1
  ·exact ane
 ·rw[hv];refine .list ?_;have hl:((xs++[last]).map (Ty.cells E (.bz tR))).length=Ts xs+1:=by simp
  have hD:∀q,q<Ts xs+1->VT E w G (.dat (.bz tR) ((xs++[last]).getD q [])) (cur.getD q M2):=by
   intro q hq;by_cases h1:q<Ts xs
   ·simp_all
   ·obtain rfl:q=Ts xs:=om;rw[show(xs++[last]).getD xs.length []=last by simp];exact .list c5.1
  have:=Pw (w:=w) (pr:=λb' o=>G.pr b' o\/(b'=b/\o<Ts xs+1)) (b:=b) (cap:=cap) (k:=1) (xs:=cur.toList.take (Ts xs+1)) (by rw[hl];omega)
   (λq hq=>by
    grind[cell_of_row])
   ⟨by grind,λq hq=>by
    have:q<(xs++[last]).length:=by simpa using hq
    simp only[List.getD,OU,ga this];rfl,λq l hq hl'=>by
    rw[hl]at hq;obtain rfl:l=0:=om;have h2:q<(xs++[last]).length:=by simpa using hq
    have h3:=((hD q hq).atom rfl).uC;have e1:(cur.toList.take (Ts xs+1)).getD (q*1+0) M2=cur.getD q M2:=by simp_all
    have e2:((((xs++[last]).map (Ty.cells E (.bz tR))).getD q []).getD 0 default)=.slice (tR.size E) (((xs++[last]).getD q []).map (tR.cells E)):=by simp only[List.getD,OU,ga h2];rfl
    rw[e1,e2];exact h3.mono (λ_ _ h=>.inl h) (λ_ _ _ _ h=>h)⟩
  rw[hl]at this;exact this
def opsOf:Code->aK H3|.region _ ops _=>ops|_=>#[]
def asn:Code->Nat|.region i _ _=>i|_=>0
theorem AW.aq6(e2:aL){j6:Nat}(hc:c=.region (asn c) (opsOf c) eQ)
  (oC:(opsOf c).toList.map (λo=>(o.dst,o.op,o.guard))=[(iN j6,.buildSlice t 1 #[(0,.const (.slice iF 0 0))],iF),(iN j3,.assign (.tmp j6),iF)]) (ht:aY P t=iN ⟨.slice e,j1,j2,z⟩) (hi:aY P e=iN ie) (hs:ie.size=1) (tR:Ty) {m':J (Nat×TV E)} (hn:j6<n) (N1:G0.i=[])
  (hsub:∀p∈m',(xK n (m++[(j6,.any),(j3,.iW 0 1 1)]))[p.1]? = iN p.2) :
  AW P w0 G0 c (SS n m [] []) (λx s=>x=.normal/\s=SS n m' [.mI e 1 (.bz tR) [] (.cH 0 0 tR [])] [⟨0,e2,tR.size E⟩]):=by
 obtain⟨o0,l1,h0,f0,oC⟩:=Ru.1 oC;obtain⟨o1,l2,h1,f1,oC⟩:=Ru.1 oC;have h2:=List.map_eq_nil_iff.1 oC;subst h2 h1;simp at f0 f1;rw[hc];exact AW.at3 h0 f0.2.1 f0.2.2 f0.1 f1.2.1 f1.2.2 f1.1 ht hi hs tR hn N1 hsub
theorem AW.alY(hE:E.Ok){j3 FR HF O1:Nat}{cl:Call}(hc:c=.region (asn c) (opsOf c) eQ)
  (oC:(opsOf c).toList.map (λo=>(o.dst,o.op,o.guard))=[(iN FR,.move (.tmp j3),iF),(iN HF,.buildSlice t 1 #[(0,.const (.slice iF 0 0))],iF),(iN O1,.call cl,iF),(iN j3,.assign (.tmp O1),iF)])
  (hcl:cl.callee=.builtin .append) (ha:cl.args=#[.tmp FR,.tmp HF]) (hat:cl.argTypes=#[t,t]) (ht:aY P t=iN ⟨.slice e,j1,j2,z⟩) (hi:aY P e=iN ie) (hs:ie.size=1) (hzs:ie.zero.cells.size=ie.size) (tR:Ty)
  {m0:J (Nat×TV E)} (hm0:anb m0) (hn:FR<n/\HF<n/\O1<n/\FR≠HF) (N1:G0.i=[])  {xs:J (J (tR.den E.D))} {last:J (tR.den E.D)}
  (hj3:(xK n (m0++[(j3,.iW 0 (Ts xs+1) cap)]))[j3]? = iN (.iW 0 (Ts xs+1) cap)) (hlen:(Ts xs+2)*ie.bytes<=140737488355328) (asl:Ts xs+2<=9223372036854775807)
  (hsub:∀c':Nat,∀p∈m0++[(j3,.iW 0 (Ts xs+2) c')],(xK n ((((m0++[(FR,.any)])++[(HF,.any)])++[(O1,.any)])++[(j3,.iW 0 (Ts xs+2) c')]))[p.1]? = iN p.2) (hmd:∀p∈m0,(xK n (m0++[(j3,.iW 0 (Ts xs+1) cap)]))[p.1]? = iN p.2) :
  AW P w0 G0 c (SS n (m0++[(j3,.iW 0 (Ts xs+1) cap)]) [.mI e cap (.bz tR) xs (.cH 0 aG tR last)] [⟨aG,e2,tR.size E⟩])
   (λx s=>x=.normal/\∃c',s=SS n (m0++[(j3,.iW 0 (Ts xs+2) c')]) [.mI e c' (.bz tR) (xs++[last]) (.cH 0 (aG+1) tR [])] [⟨aG+1,e2,tR.size E⟩]):=by
 obtain⟨o0,l1,h0,f0,oC⟩:=Ru.1 oC;obtain⟨o1,l2,h1,f1,oC⟩:=Ru.1 oC;obtain⟨o2,l3,h2,f2,oC⟩:=Ru.1 oC;obtain⟨o3,l4,h3,f3,oC⟩:=Ru.1 oC;have h4:=List.map_eq_nil_iff.1 oC;subst h4 h3 h2 h1;simp at f0 f1 f2 f3;rw[hc];exact AW.apY hE h0 f0.2.1 f0.2.2 f0.1 f1.2.1 f1.2.2 f1.1 f2.2.1 hcl ha hat f2.2.2 f2.1 f3.2.1 f3.2.2 f3.1 ht hi hs hzs tR hm0 hn N1 hj3 hlen asl hsub hmd
theorem AW.sub{m':J (Nat×TV E)}(hi:G0.i=[])(hs:∀p∈m',(xK n m)[p.1]? = iN p.2)(h:AW P w0 G0 c (SS n m' H g) Q):AW P w0 G0 c (SS n m H g) Q:=λa w G hr=>
 h a w G (hr.weak hi (by simp[SS,vR]) (λj d hj=>by
  rcases yG hj with h|h
  ·exact .inl h
  ·exact .inr (hs _ h)) [])
theorem Rel.auP{m':J (Nat×TV E)}(hi:G0.i=[])(hs:∀p∈m',(xK n m)[p.1]? = iN p.2)(h:Rel E w0 G0 (SS n m H g) a w G):Rel E w0 G0 (SS n m' H g) a w G:=
 h.weak hi (by simp[SS,vR]) (λj d hj=>by
  rcases yG hj with h|h
  ·exact .inl h
  ·exact .inr (hs _ h)) []
def avr(m:J (Nat×TV E)):Prop:=∀p∈m,(∃t x,p.2=.dat t x)\/∃r n cap,p.2=.iW r n cap
theorem Rel.alW{T tR:Ty}{xs:J (T.den E.D)}{last:J (tR.den E.D)}{g0:cV}{gs:J cV}(hr:Rel E w0 G0 (SS n m [.mI e cap T xs (.cH 0 aG tR last)] (g0::gs)) a w G)(hg:G0.g=[])(hm:avr m):
  Rel E w0 G0 (SS n m [.mI e cap T xs (.cH 0 aG tR last)] [g0]) a w {G with g:=G.g.take 1}:=by
 have ev:=hr.fF;have hsub:∀(j:Nat) y,(G.g.take 1)[j]? = iN y->G.g[j]? = iN y:=λj y h=>by grind
 refine⟨⟨ev.os,ev.tape,ev.output,ev.size,ev.old,⟨ev.goes.pr,ev.goes.cells,ev.goes.i,λj x h hj=>(by rw[hg]at hj;cases hj)⟩,ev.pE,ev.r7,λj x h b hj hb=>ev.iz j x h b (hsub j _ hj) hb⟩,hr.size,λj d hj=>?_,hr.ady,?_,hr.fix,hr.pins,λj c h=>(by cases h)⟩
 ·have hv:=hr.tmps j d hj;rcases yG hj with rfl|h
  ·simp[VT]
  ·rcases hm _ h with⟨t,x,e⟩|⟨r,n,cap,e⟩
   ·subst e;exact hv.ua (λ_ _ h=>h)
   simp_all[VT]
 ·refine⟨hr.boxes.len,?_,λr b x hb hx=>?_,hr.boxes.lt,hr.boxes.nodup,hr.boxes.gN,λj x h hj=>?_,λj j' x h x' h' b hj hj'=>hr.boxes.apart j j' x h x' h' b (hsub j _ hj) (hsub j' _ hj')⟩
  ·have:=hr.boxes.gs;rw[List.map_take,this];rfl
  ·have h:=hr.boxes.box r b x hb hx;cases r with
   | succ r=>simp[SS]at hx|zero=>simp[SS]at hx;subst hx;obtain⟨cur,c1,c2,c4,c5,c6⟩:=h;refine⟨cur,c1,c2,λi x hx=>(c4 i x hx).ua (λ_ _ h=>h),?_,c6⟩;simp_all[VT,abc]
  ·obtain⟨n',xs',h1,h2,h3⟩:=hr.boxes.grow j x h (hsub j _ hj);exact⟨n',xs',h1,h2,h3⟩
