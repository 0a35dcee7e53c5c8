import Derived.Test.YthkbglhnagkpcaaGreatDoorRh
import Derived.Shelf.Strconv.Itoa3
import Derived.OpenShut
import Derived.Sort.KeysCollected
import Derived.Sort.OwnSorted
import Derived.Lib.Join
import Derived.Lib.LastIndexByte
import Derived.Lib.IndexAny
import Derived.Lib.Repeat
open Go.Region renaming wanted->pC
open Option renaming some->iN,none->iF
open Bool renaming true->eQ,false->eK
open Decidable renaming decide->eJ
open Nat renaming beq->dO
open List renaming range->aT,replicate->W0,length->Sx
open Go renaming Value->R0,execOp->M2,undef->H5,FuncId->H4,callFunc->H3,Oper->H2,wpList->Ts
set_option linter.all false
namespace Go.RT
variable {E : TEnv}
variable{X:Cx E}{w:U}{P:bw}{f:H4}{fn:Func}{G:bC}{ds:J (TV E)}{F:Nat}{pl:fu}{C:bL E}{args:aJ R0}{n:Nat}
theorem enters_of{c:Code}(hf:P.funcs[f]? = iN fn)(hb:fn.body=iN c)(hn:(fn.name == "runtime.NumGoroutine")=eK):∀args w,(H3 f args).run P w=.ok (.enter f args) w:=λargs w=>by simp only[H3,jF,run_program,kn,hf,hn,hb];simp
def Rf(X:Cx E)(s:dB)(fn:Func)(b8:TS E):(p:O Outs)->O (TV E)->TS E->O (OutP E s.out p)|none,iF,st=>(rJ X st fn.results.toList).bind λds=>s.out.get b8 st (sJ ds)|some q,iF,st=>goK ((rJ X st fn.results.toList).bind λds=>s.out.get b8 st (sJ ds))|some q,iN d,st=>AL (q.get b8 st d)|none,iN _,_=>iF
def avH(X:Cx E)(D:Dx E)(s:dB)(fn:Func)(b8:TS E)(p:O Outs):Ex E->TS E->O (OutP E s.out p)|.ret,st=>Fk D (Rf X s fn b8 p) st.df iF st|.normal,st=>Fk D (Rf X s fn b8 p) st.df iF st|.panic d,st=>Fk D (Rf X s fn b8 p) st.df (iN d) st|_,_=>iF
noncomputable def ajh(X:Cx E)(D:Dx E)(F:Nat)(s:dB)(fn:Func)(pl:fu)(x:dens E s.tys):O (OutP E s.out s.nq):=match fn.body with|some c=>runT X F c pl (s.b8 fn.ntmps (aV s.tys x)) (avH X D s fn (s.b8 fn.ntmps (aV s.tys x)) s.nq)|none=>iF
theorem lu.aqk{ds:J Deferred}(h:lu E w G ds []):ds=[]:=by cases ds with|nil=>rfl|cons _ _=>exact h.elim
theorem aql(hX:X.Ok){s:dB}{w0:World}{G0:bC}{b8 st kg:TS E}{W:J Nat}{tmps:Array R0}{mv:J Deferred}{u:FrameMode}{m:Option (TV E)}(hpre:Pre G0 b8)(Uk:b8.d=[])(adW:b8.df=[])
  (hr:Rel E w0 G0 {st with df:=me m} {tmps:=tmps,defers:=mv} w G) (hm:Tj m mv u) (hF:Fr W eK b8 st):∀(p:Option Outs)(y:OutP E s.out p),Rf X s fn b8 p m {st with df:=[]} = iN y ->
   Leaves X.P fn tmps (Av E w0 G0 (match p,y with|none,y=>s.out.nY eQ b8.H b8.g (aV s.out.tys y)|some q,.inl y=>s.out.nY eQ b8.H b8.g (aV s.out.tys y)|some q,.inr y=>q.nY eK b8.H b8.g (aV q.tys y))) [] u w:=by
 have hr':=hr.Xt (y:=[]) (ds:=[]) trivial;have hF':Fr W eK b8 {st with df:=[]}:=hF.trans (Fr.ajg st [] W) (λ_ h=>h) (λ_ h=>h) (λh=>nomatch h);have hok:∀ {y:dens E s.out.tys},((rJ X {st with df:=[]} fn.results.toList).bind λds=>s.out.get b8 {st with df:=[]} (sJ ds))=iN y ->
   ∃v,(results fn tmps).run X.P w=.ok v w/\Av E w0 G0 (s.out.nY eQ b8.H b8.g (aV s.out.tys y)) (.returned v) w:=by
  intro y hy;cases hds:rJ X {st with df:=[]} fn.results.toList with
  | none=>rw[hds]at hy;cases hy
  | some ds=>rw[hds]at hy;obtain⟨v,hv,hrun⟩:=BN hX hr' hds;obtain⟨G2,q1,q2,q3,q4,q5⟩:=Outs.IK hX.E hpre Uk adW.symm hr' hF' hv hy;exact⟨v,hrun,v,G2,rfl,q1,q2,q3,q4,q5⟩
 intro p y hk;cases hm with
 | ret=>
  cases p with
  | none=>exact hok hk|some q=>obtain⟨y',hy,rfl⟩:=NQ hk;exact hok hy
 | nq d v=>
  cases p with
  | none=>cases hk
  | some q=>
   obtain⟨y',hy,rfl⟩:=Q8 hk;have hv:VT E w G d v:=by obtain⟨anB,-⟩:=hr.defers;obtain⟨-,cap',ht',jU⟩:=anB.resolve_right (λhh=>absurd (show(0:Nat)=Cf from hh.1) de);obtain⟨u1,us,he,h1,-⟩:=jU.cons_inv;simp_all
   obtain⟨G2,q1,q2,q3,q4,q5⟩:=Outs.IK hX.E hpre Uk adW.symm hr' hF' hv hy;exact⟨v,G2,rfl,q1,q2,q3,q4,q5⟩
theorem af1(hX:X.Ok){D:Dx E}(hD:D.Ok X.P){s:dB}{x:dens E s.tys}{y:OutP E s.out s.nq}(hf:X.P.funcs[s.f]? = iN fn)(hn:(fn.name == "runtime.NumGoroutine")=eK)(h:ajh X D F s fn pl x=iN y):
  mI X.P s.f (s.ds (aV s.tys x)) (s.H (aV s.tys x)) s.g0 (s.c (aV s.tys x)) (lB s (s.H (aV s.tys x)) s.nq y):=by
 unfold ajh at h;split at h<;>try trivial
 rename_i c hb;intro w G args hP hB hS hV;have Ii:=Rel.init (n:=fn.ntmps) hP hB hS hV;have hpre:=Ii.pre;refine ve hf hb hn (calls_of_wp_defers hf hb (wp_mono ((vz hX c pl h).wp Ii) λe a' w' hp=>?_));obtain⟨ex,st,G',he,hr,hk,hF⟩:=hp;have hlen:=lu.len hr.defers;have W4:Fr (wr c) eK (s.b8 fn.ntmps (aV s.tys x)) st:=hF.wide (λ_ h=>h) (λh=>nomatch h);have main:∀(m:Option (TV E))(mv:J Deferred)(u:FrameMode),Tj m mv u->lu E w' G' mv (me m)->Fk D (Rf X s fn (s.b8 fn.ntmps (aV s.tys x)) s.nq) st.df m st=iN y ->
   Leaves X.P fn a'.tmps (λe w'=>∃v G',e=EG (lB s (s.H (aV s.tys x)) s.nq y).ok v/\mj w G w' G'/\mX E w' G' (lB s (s.H (aV s.tys x)) s.nq y).H (lB s (s.H (aV s.tys x)) s.nq y).g/\lS E w' G' (lB s (s.H (aV s.tys x)) s.nq y).c /\
   VT E w' G' (lB s (s.H (aV s.tys x)) s.nq y).d v/\∀(q b:Nat),G.i[q]? = iN b->q∉(lB s (s.H (aV s.tys x)) s.nq y).D->w'.heap[b]? = w.heap[b]?) a'.defers u w':=by
  intro m mv u hm Wv hk;have avI:lu E w' G' (a'.defers++mv) (st.df++me m):=by
   have key:∀(a:J Deferred)(x:J (H4×J (TV E))),lu E w' G' a x->lu E w' G' (a++mv) (x++me m):=by
    intro a
    induction a with
    | nil=>intro x h;cases x with
     | nil=>exact Wv|cons _ _=>exact h.elim
    | cons d a ih=>intro x h;cases x with
     | nil=>exact h.elim|cons z x=>exact⟨h.1,ih x h.2⟩
   exact key _ _ hr.defers
  refine IM hX.E hD st.df m st a'.defers mv u w' G' hk hlen (hr.Xt avI) hm λm' st' mv' u' w2 G2 h1 h2 h3 oN=>?_;have hF3:Fr (wr c) eK (s.b8 fn.ntmps (aV s.tys x)) st':=W4.trans oN (λ_ h=>h) (λ_ h=>by cases h) (λh=>nomatch h);have:=aql hX (kg:=st) hpre rfl rfl h2 h3 hF3 s.nq y h1;exact this
 cases ex<;>cases e<;>try (exact he.elim)
 .exact main iF [] .returning .ret trivial hk
 .cases hk
 .cases hk
 .exact main iF [] .returning .ret trivial hk
 .rename_i d ch;obtain⟨v,rfl,hv⟩:=he;exact main (iN d) _ _ (.nq d v) ⟨.inl ⟨rfl,#[],rfl,.cons hv .nil⟩,trivial⟩ hk
theorem bL.asB(hX:X.Ok){D:Dx E}(hD:D.Ok X.P)(hf:X.P.funcs[C.s.f]? = iN fn)(hn:(fn.name == "runtime.NumGoroutine")=eK)(h:∀x,ajh X D F C.s fn pl x=C.m x):C.Ok X.P:=λx y hy=>af1 hX hD hf hn (by rw[h x];exact hy)
def goN{I:Inv}:∀C∈([]:J (bL E)),C.IE I:=λ_ h=>nomatch h
theorem goC{I:Inv}{C:bL E}{Γ:J (bL E)}(h:C.IE I)(hs:∀C∈Γ,C.IE I):∀C'∈C::Γ,C'.IE I:=λC' hC=>by grind
def adX:J H2->O (Nat×Nat)
 | [o1,o2]=>match o1.op,o1.dst,o1.guard,o2.op,o2.dst,o2.guard with
  | .call c,iN i,iF,.assign (.tmp i'),iN j,iF=>match c.callee with
   | .builtin .recover=>cond (dO i i'&&dO c.args.size 0) (iN (i,j)) iF|_=>iF
  | _,_,_,_,_,_=>iF
 | _=>iF
def dB.OR(s:dB)(n i j:Nat)(ls:J (Lf E)):TS E:=match s.ds ls with
 | m::ds=>{(⟨(CA n ds).set i m,s.H ls,s.g0,[],[],s.c ls⟩:TS E)with t:=cE ((CA n ds).set i m) (iN j) ((⟨(CA n ds).set i m,s.H ls,s.g0,[],[],s.c ls⟩:TS E).ev (.tmp i))}
 | []=>s.b8 n ls
noncomputable def anC(X:Cx E)(F:Nat)(s:dB)(fn:Func)(pl:fu)(x:dens E s.tys):O (OutP E s.out s.nq):=
 match fn.body with
 | some (.seq (.region _ ops eK) rest)=>match adX ops.toList with
  | some (i,j)=>rq (jL rest&&s.nq.isNone) (runT X F rest pl (s.OR fn.ntmps i j (aV s.tys x)) (qf X s fn (s.OR fn.ntmps i j (aV s.tys x)) s.nq))|none=>iF
 | _=>iF
theorem af2{ops:aJ H2}{i j:Nat}(h:adX ops.toList=iN (i,j)):∃o1 o2 c,ops=#[o1,o2]/\o1.op=.call c/\c.callee=.builtin .recover/\c.args=#[]/\o1.dst=iN i/\o1.guard=iF/\o2.op=.assign (.tmp i)/\o2.dst=iN j/\o2.guard=iF:=by
 unfold adX at h;split at h<;>try trivial
 split at h<;>try trivial
 rename_i c i0 i1 j0 h1 h2 h3 h4 h5 h6;split at h<;>try trivial
 cases hh:(dO i0 i1&&dO c.args.size 0)<;>rw[hh]at h<;>simp only[aQ,aI]at h
 .cases h
 grind[Nat.eq_of_beq_eq_true]
theorem Rel.M6{H:J (gu E)}{g:J cU}{cs:J (Nat×Cn E)}(hP:rj E w G)(hB:mX E w G H g)(hS:lS E w G cs)(hV:bO E w G ds args.toList):
  Rel E w G ⟨CA n ds,H,g,[],[],cs⟩ {tmps:=args++Array.replicate (n-args.size) H5,defers:=[]} w G:=by
 have hl:args.size=Sx ds:=by simpa using hV.length
 refine⟨mj.refl w G,?_,λj d hj=>?_,trivial,hB,λ_ _ _ _=>rfl,hP,hS⟩
 .simp[CA,hl]
 .unfold CA at hj;by_cases hlt:j<Sx ds
  .rw[xo hlt]at hj;obtain⟨u,hu,hv⟩:=hV.get j hj;simp_all[aoN]
  grind[List.mem_of_getElem?,VT]
theorem bL.adY(hX:X.Ok)(hf:X.P.funcs[C.s.f]? = iN fn)(hn:(fn.name == "runtime.NumGoroutine")=eK)(h:∀x,anC X F C.s fn pl x=C.m x):C.IE (Fj X.P):=by
 intro x y hy;have h1:anC X F C.s fn pl x=iN y:=by rw[h x];exact hy
 unfold anC at h1;split at h1<;>try trivial
 rename_i id ops rest hb;split at h1<;>try trivial
 rename_i i j avJ;obtain⟨hnp,h1⟩:=dX h1;rw[cH]at hnp;obtain⟨hnd,awH⟩:=hnp;obtain⟨o1,o2,c,rfl,ho1,anr,QM,hd1,hg1,ho2,hd2,V2⟩:=af2 avJ;intro w G apf hP hB hS hV;refine⟨enters_of hf hb hn,λv args u hva hmo=>?_⟩;rw[hva]at hV;generalize hds:C.s.ds (aV C.s.tys x)=dd at hV h1;cases dd with|nil=>simp_all[bO]|cons m ds=>
 obtain⟨v',us,he,hvm,hvs⟩:=hV.cons_inv;cases he;have hst:C.s.OR fn.ntmps i j (aV C.s.tys x)={(⟨(CA fn.ntmps ds).set i m,C.s.H (aV C.s.tys x),C.s.g0,[],[],C.s.c (aV C.s.tys x)⟩:TS E)with t:=cE ((CA fn.ntmps ds).set i m) (iN j) ((⟨(CA fn.ntmps ds).set i m,C.s.H (aV C.s.tys x),C.s.g0,[],[],C.s.c (aV C.s.tys x)⟩:TS E).ev (.tmp i))}:=by unfold dB.OR;rw[hds]
 have Ii:=Rel.M6 (n:=fn.ntmps) hP hB hS hvs;have fC:Rel E w G ⟨(CA fn.ntmps ds).set i m,C.s.H (aV C.s.tys x),C.s.g0,[],[],C.s.c (aV C.s.tys x)⟩ _ w G:=Ii.put hvm (iN i);have hr2:=fC.put (fC.ev (.tmp i)) (iN j);have asC:Rel E w G (C.s.OR fn.ntmps i j (aV C.s.tys x)) ((({tmps:=args++Array.replicate (fn.ntmps-args.size) H5,defers:=[]}:Act).put (iN i) v).put (iN j) ((({tmps:=args++Array.replicate (fn.ntmps-args.size) H5,defers:=[]}:Act).put (iN i) v).eval (.tmp i))) w G:=by rw[hst];exact hr2
 have hpre:=asC.pre;refine callsD_of_wpS hf hb λc₀ cs hu=>?_;apply wpS_seq;apply wpS_region;have W7:aT (#[o1,o2]:aJ H2).size=[0,1]:=rfl;rw[W7];have go:∀(u':FrameMode),settle u'=.returning->wpOpsS X.P #[o1,o2] (Exit.thenS (rest.wpS X.P (bodyPostS X.P fn c₀ cs λe u' w'=>settle u'=.returning/\Av E w G (lB C.s (C.s.H (aV C.s.tys x)) C.s.nq y) e w')) (bodyPostS X.P fn c₀ cs λe u' w'=>settle u'=.returning/\Av E w G (lB C.s (C.s.H (aV C.s.tys x)) C.s.nq y) e w')) [1]
   (({tmps:=args++Array.replicate (fn.ntmps-args.size) H5,defers:=[]}:Act).put o1.dst v) ({c₀ with mode:=u'} :: cs) w:=by
  intro u' nX;rw[hd1];have xQ:pC o2 (yielded #[o1,o2] (({tmps:=args++Array.replicate (fn.ntmps-args.size) H5,defers:=[]}:Act).put (iN i) v).tmps)=eQ:=by simp[pC,V2]
  have aum:(M2 (({tmps:=args++Array.replicate (fn.ntmps-args.size) H5,defers:=[]}:Act).put (iN i) v).eval o2).run X.P w=.ok (.value ((({tmps:=args++Array.replicate (fn.ntmps-args.size) H5,defers:=[]}:Act).put (iN i) v).eval (.tmp i))) w:=by simp[M2,ho2]
  have e1:(#[o1,o2]:aJ H2)[1]? = iN o2:=rfl;simp only[wpOpsS,e1,xQ,if_true,aum,Oper.upon,Exit.thenS];rw[hd2];refine wpS_of_wp (wp_mono ((vz hX rest pl h1).wp asC) λe a' w' hp=>?_);obtain⟨ex,st,G',he,hr,hk,hF⟩:=hp;have Uk:(C.s.OR fn.ntmps i j (aV C.s.tys x)).d=[]:=by rw[hst]
  have adW:(C.s.OR fn.ntmps i j (aV C.s.tys x)).df=[]:=by rw[hst]
  have hH0:(C.s.OR fn.ntmps i j (aV C.s.tys x)).H=C.s.H (aV C.s.tys x):=by rw[hst]
  have hg0:(C.s.OR fn.ntmps i j (aV C.s.tys x)).g=C.s.g0:=by rw[hst]
  have hdf:st.df=[]:=(hF.df hnd).trans adW;have KZ:a'.defers=[]:=by have:=hr.defers;grind[lu.aqk]
  have fin:∀(p:O Outs)(y:OutP E C.s.out p),p.isNone=eQ->qf X C.s fn (C.s.OR fn.ntmps i j (aV C.s.tys x)) p ex st=iN y ->
    bodyPostS X.P fn c₀ cs (λe u' w'=>settle u'=.returning/\Av E w G (lB C.s (C.s.H (aV C.s.tys x)) p y) e w') e a' ({c₀ with mode:=u'} :: cs) w':=by
   intro p y hp hk;cases p with
   | some q=>cases hp
   | none=>
    have okc:Rb X C.s fn (C.s.OR fn.ntmps i j (aV C.s.tys x)) st=iN y ->
      ∃v,(results fn a'.tmps).run X.P w'=.ok v w'/\Av E w G (lB C.s (C.s.H (aV C.s.tys x)) iF y) (.returned v) w':=by
     intro hy;unfold Rb at hy;obtain⟨G3,W3,hr,hF,anw⟩:=agV (s:=C.s) (fn:=fn) hpre hr hF;generalize IJ C.s fn (C.s.OR fn.ntmps i j (aV C.s.tys x)) (yg 0 C.s.out.boxes st)=st3 at *;cases hds:rJ X st3 fn.results.toList with
     | none=>rw[hds]at hy;cases hy
     | some ds=>rw[hds]at hy;obtain⟨v,hv,hrun⟩:=BN hX hr hds;obtain⟨G2,q1,q2,q3,q4,q5⟩:=Outs.IK hX.E (ok:=eQ) hpre Uk ((anw.trans hdf).trans adW.symm) hr hF hv hy;rw[hH0,hg0]at q2 q3 q4;exact⟨v,hrun,v,G2,rfl,q1,q2,q3,q4,q5⟩
    cases ex<;>cases e<;>try (exact he.elim)
    .obtain⟨v,hrun,h2⟩:=okc hk;exact⟨KZ,u',rfl,v,hrun,nX,h2⟩
    .cases hk
    .cases hk
    .obtain⟨v,hrun,h2⟩:=okc hk;exact⟨KZ,u',rfl,v,hrun,nX,h2⟩
    .cases hk
  simp_all
 have hw1:pC o1 (yielded #[o1,o2] ({tmps:=args++Array.replicate (fn.ntmps-args.size) H5,defers:=[]}:Act).tmps)=eQ:=by simp[pC,hg1]
 have aun:(M2 ({tmps:=args++Array.replicate (fn.ntmps-args.size) H5,defers:=[]}:Act).eval o1).run X.P w=.ok .recover w:=by simp[M2,ho1,resolve,anr,QM,invoke,go_sem]
 have e0:(#[o1,o2]:aJ H2)[0]? = iN o1:=rfl;rw[wpOpsS];simp only[e0,hw1,if_true,aun];rcases hmo with⟨rfl,rfl⟩|rfl
 .have hrd:recoverD (c₀::cs)=iF:=by simp[recoverD,hu]
  rw[hrd];have hc0:({c₀ with mode:=.returning}:Frame)=c₀:=by rw[<-hu]
  have:=go .returning rfl;simp_all
 .have hrd:recoverD (c₀::cs)=iN (v,{c₀ with mode:=.panicking [{v:=v,recovered:=eQ}]} :: cs):=by simp[recoverD,hu]
  rw[hrd];exact go _ rfl
theorem mX.grown{w':U}{H:J (gu E)}{gs:J cU}{cs:J (Nat×Cn E)}(hP:rj E w G)(hB:mX E w G H gs)(hS:lS E w G cs)(hs:fI w w')(h1:w'.os=w.os)(h2:w'.tape=w.tape)(h3:w'.output=w.output):
  mj w G w' G/\mX E w' G H gs/\lS E w' G cs/\∀(q b:Nat),G.i[q]? = iN b->w'.heap[b]? = w.heap[b]?:=by
 have hr:=Rel.M6 (n:=0) hP hB hS .nil;have hr':=hr.grow hs h1 h2 h3 G.pr (λ_ _ h=>h) (λ_ _ _ h=>h) (λb o hp=>kF (hB.gT b o hp).1 hs.1);exact⟨hr'.fH,hr'.boxes,hr'.gU,λq b hq=>hr'.fix q b hq si⟩
theorem ri(hf:P.funcs[f]? = iN fn)(hb:fn.body.isSome=eQ)(hn:(fn.name == "runtime.NumGoroutine")=eK):∀args w,(H3 f args).run P w=.ok (.enter f args) w:=by grind[Option.isSome_iff_exists,Go.RT.enters_of]
def qF(F:Nat)(n:Int):O (J UInt8):=rq (eJ (-9223372036854775808<=n)&&eJ (n<=9223372036854775807)) (iN (Lib.itoa n))
def auo(f:H4):dB:=⟨f,[.one (.dat (.int .i64))],[],[],⟨.one (.dat .str),[],[],[]⟩,iF,[]⟩
def apg(E:TEnv)(f:H4)(F:Nat):bL E:=⟨auo f,λ(x:Int)=>qF F x⟩
theorem aaW{name:String}{k:eW}{zs:J Int}{g:Nat}(hP:rj E w G)(hg:P.globalNamed name=iN g)
  (he:E.gb g=iN (λcs=>cs=(zs.map λz=>Value.int k z).toArray)):Lib.TabIs P w name k zs:=by
 obtain⟨cs,t,m,this,rfl⟩:=(hP g _ he).1;simp[Lib.TabIs,World.var?,hg,this]
theorem aqm(he:∀args w,(H3 f args).run P w=.ok (.enter f args) w)(hT:∀w G,rj E w G->Lib.TabIs P w "internal/strconv.uint64pow10" .u64 Lib.pow10Tab)
  (hC:∀(n:Int),-9223372036854775808<=n->n<=9223372036854775807->∀(w:U),Lib.TabIs P w "internal/strconv.uint64pow10" .u64 Lib.pow10Tab ->
   Calls P f #[.int .i64 n] w λe w'=>e=.returned (.string ⟨(Lib.itoa n).toArray⟩)/\∃k os,w'=Go.Sort.grow (w.drewN k) os) (F:Nat):(apg E f F).Ok P:=by
 have key:∀(n:Int),-9223372036854775808<=n->n<=9223372036854775807->mI (E:=E) P f [.dat (.int .i64) n] [] [] [] ⟨eQ,.dat .str (Lib.itoa n),[],[],[],[]⟩:=by
  intro n h0 h1 w G args hP hB hS hv;obtain⟨u,us,ha,wU,sS⟩:=hv.cons_inv;have e1:=wU.gD;subst e1 sS;have ha:args=#[.int .i64 n]:=by grind
  subst ha;unfold lz;rw[he];refine H7 (hC n h0 h1 w (hT w G hP)) λe w' hh=>?_;obtain⟨rfl,k,os,rfl⟩:=hh
  have hs:fI w (Go.Sort.grow (w.drewN k) os):=⟨by simp_all,λb hb=>by
   show(w.heap++os)[b]? = _
   grind⟩
  obtain⟨q1,q2,q4,q3⟩:=hB.grown hP hS hs rfl rfl rfl;exact⟨_,G,rfl,q1,q2,q4,.str _ _ _,λq b hq _=>q3 q b hq⟩
 have anD:∀(n:Int)(y:J UInt8),qF F n=iN y->mI (E:=E) P f [.dat (.int .i64) n] [] [] [] ⟨eQ,.dat .str y,[],[],[],[]⟩:=by intro n y hy;obtain⟨h1,h2⟩:=dX hy;grind
 intro x y hy;exact anD x y hy
variable{pr:Nat -> Nat -> Prop}{cs:J R0}{k:Nat}
theorem LD.getD:∀ {cs:J R0}{ds:J DV},LD w pr cs ds->∀ {l:Nat},l<Sx ds->VD w pr (cs.getD l H5) (ds.getD l default)|[],[],_,l,h=>by simp at h|c::cs,d::ds,h,0,_=>h.1|c::cs,d::ds,h,l+1,hl=>by simpa using LD.getD h.2 (by simpa using hl)|[],_::_,h,_,_=>h.elim|_::_,[],h,_,_=>h.elim
theorem LD.app:∀ {cs cs':J R0}{ds ds':J DV},LD w pr cs ds->LD w pr cs' ds'->LD w pr (cs++cs') (ds++ds')|[],cs',[],ds',_,h=>h|c::cs,cs',d::ds,ds',h,h'=>⟨h.1,LD.app h.2 h'⟩|[],_,_::_,_,h,_=>h.elim|_::_,_,[],_,h,_=>h.elim
theorem LD.cat{o:Nat}{a b:J DV}(h1:LD w pr ((cs.drop o).take k) a)(h2:LD w pr (cs.drop (o+k)) b):LD w pr (cs.drop o) (a++b):=by have:=h1.app h2;grind[List.drop_drop,List.take_append_drop]
theorem LD.fin(h:Sx cs=n):LD w pr (cs.drop n) []:=by rw[Vz om];exact trivial
variable{v:R0}
def block_lt_of_cell{a:Addr}(h:w.cell? a=iN v):a.block<w.heap.size:=ahn w a h
def JS{H:Type}(P:bw)(t:aK)(d:DataW H):Prop:=∀n∈d.weights P t,n<=reachBytes
theorem U8{H:Type}{P:bw}{e:aK}{d:DataW H}{n:Nat}(hn:n∈d.weights P e):∀ {l:J (DataW H)},d∈l->n∈DataW.weightsAll P e l
 | x::l,h=>by
  rcases gL.1 h with rfl|h
  .exact List.mem_append_left _ hn
  .exact List.mem_append_right _ (U8 hn h)
theorem Rg{H:Type}{P:bw}{t:aK}{d:DataW H}{n:Nat}(hn:n∈d.weights P t):∀ {ts:J aK}{ds:J (DataW H)}(j:Nat),ts[j]? = iN t->ds[j]? = iN d->n∈DataW.weightsEach P ts ds|t'::ts,d'::ds,0,h1,h2=>by unfold DataW.weightsEach;simp_all|t'::ts,d'::ds,j+1,h1,h2=>by exact List.mem_append_right _ (Rg hn j (by simpa using h1) (by simpa using h2))|[],_,j,h1,_=>by simp at h1|_::_,[],j,_,h2=>by simp at h2
variable{H:Type}{d:DataW H}{t:aK}
def wAt{ts:J aK}{ds:J (DataW H)}(h:(DataW.weightsEach P ts ds).all (·<=reachBytes)=eQ)(j:Nat)(h1:ts[j]? = iN t)(h2:ds[j]? = iN d):JS P t d:=λn hn=>DA (pW.1 h n (Rg hn j h1 h2))
def eB{H:Type}(fG:aK×R0->H)(P:bw)(W:U)(fuel:Nat)(t:aK){α:Type}(enc:α->J DV)(ok:α->Prop):Prop:=∀cs d ps,DataW.trod fG P W 0 (λ_=>eQ) eQ fuel t cs=iN (d,ps)->JS P t d->∃x,ok x/\LD W (λb _=>b<W.heap.size) cs (enc x)
variable{fG:aK × R0 -> H}{W:U}{e:aK}{α:Type}{fuel:Nat}{enc:α->J DV}{ok:α->Prop}{fs:aJ Field}{ps:J MemPlace}
theorem ah0(ht:P.underlying t=iN .bool)(fuel:Nat):eB fG P W fuel t (λb=>[.bool b]) (λ_=>True):=by
 intro cs d ps h _;cases fuel with
 | zero=>cases h
 | succ n=>
  simp[DataW.trod]at h;split at h<;>try (simp_all;done)
  rename_i b h1;exact⟨b,trivial,⟨.bool _,trivial⟩⟩
theorem akf{k:eW}(ht:P.underlying t=iN (.int k))(fuel:Nat):eB fG P W fuel t (λn=>[.int k n]) (λn=>(Lit.int k n).wf=eQ):=by
 intro cs d ps h _;cases fuel with
 | zero=>cases h
 | succ n=>
  simp[DataW.trod,ht]at h;split at h<;>try (simp_all;done)
  rename_i k2 k' m h1;cases h1;split at h<;>try trivial
  rename_i hc;obtain⟨rfl,hw⟩:=hc;exact⟨m,hw,⟨.int _ _,trivial⟩⟩
theorem P9(ht:P.underlying t=iN .string)(fuel:Nat):eB fG P W fuel t (λl=>[.str l]) (λl=>Sx l<=140737488351232):=by
 intro cs d ps h hw;cases fuel with
 | zero=>cases h
 | succ n=>
  simp[DataW.trod]at h;split at h<;>try (simp_all;done)
  rename_i s h1;split at h<;>try trivial
  cases h;exact⟨s.data.toList,hw _ (by simp[DataW.weights]),⟨.str s.data.toList,trivial⟩⟩
theorem IP{α β:Type}{f:α->O β}:∀ {l:J α}{r:J β},l.mapM f=iN r->Sx r=Sx l/\∀(j:Nat) a,l[j]? = iN a->∃b,r[j]? = iN b/\f a=iN b
 | [],r,h=>by simp_all|x::l,r,h=>by
  cases hx:f x with
  | none=>simp[hx]at h|some y=>
   cases hl:l.mapM f with
   | none=>simp[hl]at h|some r'=>simp[hx,hl]at h;subst h;obtain⟨h1,h2⟩:=IP hl;refine⟨by simp[h1],λj a hj=>?_⟩;cases j with|zero=>simp at hj;subst hj;exact⟨y,si,hx⟩|succ j=>simp at hj⊢;exact h2 j a hj
theorem aji{base:Nat}{a:Addr}(h:w.cells? base a n=iN cs):Sx cs=n/\∀j,j<n->w.cell? (a.add j)=iN (cs.getD j H5):=by
 unfold World.cells? at h;split at h<;>try trivial
 obtain⟨h1,h2⟩:=IP h;have hl:Sx cs=n:=by simpa using h1
 refine⟨hl,λj hj=>?_⟩;obtain⟨b,hb,hc⟩:=h2 j j (by simp[hj]);simp_all
theorem TR{α:Type}[Inhabited α]{enc:α->J DV}{ok:α->Prop}(ht:P.underlying t=iN (.slice e))(hk:P.cellsOf e=k)(hkp:0<k)(hlen:∀x,(enc x).length=k)(he:eB fG P W fuel e enc ok):
  eB fG P W (fuel+1) t (λvs:J α=>[.slice k (vs.map enc)]) (λvs=>Sx vs<=maxLen/\∀x,x∈vs->ok x):=by
 intro cs d ps h hW;simp only[DataW.trod,ht]at h;split at h<;>try (simp_all;done)
 .rename_i h1;exact⟨[],⟨si,λx hx=>by simp at hx⟩,⟨.wM _ _,trivial⟩⟩
 .rename_i e' a len cap h1;cases h1;split at h<;>try trivial
  rename_i hc;simp only[aho,Sk]at h;obtain⟨elems,hel,rest,eU,hd⟩:=h;have hwe:(∀y∈elems,JS P e y.1)/\∀y∈rest,JS P e y.1:=by
   obtain⟨rfl,-⟩:=Prod.mk.inj hd
   have hW':∀n,n∈DataW.weightsAll P e (elems.map (·.1))\/n∈DataW.weightsAll P e (rest.map (·.1))->n<=reachBytes:=λn hn=>hW n (by
    simp only[DataW.weights,ht]
    simp_all)
   exact⟨λy hy n hn=>hW' n (.inl (U8 hn (ahp hy))),λy hy n hn=>hW' n (.inr (U8 hn (ahp hy)))⟩
  obtain⟨hl,hg⟩:=IP hel;have hlen':elems.length=len:=by simpa using hl
  have rd:∀j,(∃y:DataW H×J MemPlace,(W.cells? 0 (a.add (j*P.cellsOf e)) (P.cellsOf e)).bind (DataW.trod fG P W 0 (λ_=>eQ) eQ fuel e)=iN y/\JS P e y.1) ->
    ∃x:α,ok x/\∃cs:J R0,Sx cs=k/\(∀l,l<k->W.cell? ((a.add (j*k)).add l)=iN (cs.getD l H5))/\LD W (λb _=>b<W.heap.size) cs (enc x):=by
   rintro j ⟨y,hy,hyw⟩;simp only[aho]at hy;obtain⟨cs,hcs,hy⟩:=hy;obtain⟨x,hx,hv⟩:=he cs y.1 y.2 hy hyw;grind[aji]
  have key:∀j,j<len->∃x:α,ok x/\∃cs:J R0,Sx cs=k/\(∀l,l<k->W.cell? ((a.add (j*k)).add l)=iN (cs.getD l H5))/\LD W (λb _=>b<W.heap.size) cs (enc x):=by intro j hj;obtain⟨y,hm,hy⟩:=hg j j (by simp[hj]);exact rd j ⟨y,hy,hwe.1 y (jQ hm)⟩
  by_cases hz:cap=0
  .have hl0:len=0:=om;subst hz;subst hl0;exact⟨[],⟨si,λx hx=>by simp at hx⟩,⟨.wM _ _,trivial⟩⟩
  have aph:a.spot=iF:=by
   have h0:∃x:α,ok x/\∃cs:J R0,Sx cs=k/\(∀l,l<k->W.cell? ((a.add (0*k)).add l)=iN (cs.getD l H5))/\LD W (λb _=>b<W.heap.size) cs (enc x):=by
    by_cases hl1:0<len
    .exact key 0 hl1
    .have hl0:len=0:=om;subst hl0;obtain⟨hl2,V2⟩:=IP eU;obtain⟨y,hm,hy⟩:=V2 0 0 (by grind);exact rd 0 ⟨y,by simpa using hy,hwe.2 y (jQ hm)⟩
   obtain⟨x,-,cs,-,hcell,-⟩:=h0;have h1:=hcell 0 hkp;simp only[Nat.zero_mul]at h1;have e:(a.add 0).add 0=a:=by simp[Addr.add]
   rw[e]at h1;unfold World.cell? at h1;split at h1<;>try trivial
   simp_all
  obtain⟨b,off,spot⟩:=a;simp only at aph;subst aph;simp only[add_lit]at key;have hch:∃vs:J α,Sx vs=len/\∀j,j<len->ok (vs.getD j default)/\∃cs:J R0,Sx cs=k/\(∀l,l<k->W.cell? ⟨b,off+j*k+l,iF⟩=iN (cs.getD l H5))/\LD W (λb _=>b<W.heap.size) cs (enc (vs.getD j default)):=by
   clear hg hel eU rd hlen' hl hc
   induction len with
   | zero=>simp_all|succ n ih=>
    obtain⟨vs,h1,h2⟩:=ih (λj hj=>key j om);obtain⟨x,hx⟩:=key n om;refine⟨vs++[x],by simp[h1],λj hj=>?_⟩;by_cases hjn:j<n
    .simp_all
    .have hje:j=n:=om;simp_all
  obtain⟨vs,hvl,hvs⟩:=hch;refine⟨vs,⟨by rw[hvl];omega,λx hx=>?_⟩,?_⟩
  .grind[List.getElem_of_mem]
  .refine⟨?_,trivial⟩;have hml:(vs.map enc).length=len:=by simp[hvl]
   rw[<-hml];refine .slice b off cap k _ (λj l=>(W.cell? ⟨b,off+j*k+l,iF⟩).getD H5) (by rw[hml];omega) (λj hj=>?_) (λj l hj hl=>?_) (λj l hj hl=>?_)
   all_goals rw[hml]at hj
   .simp_all
   .obtain⟨-,cs,q1,q2,q3⟩:=hvs j hj;have:=q2 l hl;exact⟨block_lt_of_cell (a:=⟨b,off+j*k+l,iF⟩) this,by rw[this];rfl⟩
   grind[LD.getD]
theorem P8(ht:P.underlying t=iN (.struct fs))(h:DataW.trod fG P W 0 (λ_=>eQ) eQ (fuel+1) t cs=iN (d,ps))(hW:JS P t d):
  cs.length=P.cellsOf t/\∀f,f∈fs.toList->∃y,DataW.trod fG P W 0 (λ_=>eQ) eQ fuel f.type ((cs.drop f.offset).take (P.cellsOf f.type))=iN y/\JS P f.type y.1:=by
 simp only[DataW.trod,ht]at h;split at h<;>try trivial
 rename_i hl;obtain⟨xs,hxs,hd⟩:=Sk.1 h;obtain⟨rfl,-⟩:=Prod.mk.inj hd;refine⟨hl,λf hf=>?_⟩;obtain⟨j,hj,rfl⟩:=ko hf;obtain⟨b,hm,hb⟩:=(IP hxs).2 j _ (fT hj);refine⟨b,hb,λn hn=>hW n ?_⟩;simp[DataW.weights,ht];exact Rg hn j (by grind) (by simp_all)
theorem ajj{t:aK}{f:Field}(hf:f∈fs.toList)(hk:P.cellsOf f.type=k)
  (ho:eB fG P W fuel f.type enc ok) (h:∀f,f∈fs.toList->∃y,DataW.trod fG P W 0 (λ_=>eQ) eQ fuel f.type ((cs.drop f.offset).take (P.cellsOf f.type))=iN y/\JS P f.type y.1) :
  ∃x,ok x/\LD W (λb _=>b<W.heap.size) ((cs.drop f.offset).take k) (enc x):=by
 obtain⟨y,hy,hw⟩:=h f hf;rw[hk]at hy;exact ho _ y.1 y.2 hy hw
theorem atr.arg(ho:∀fuel,eB fG P W fuel t enc ok)(h:DataW.Trod fG P W 0 (λ_=>eQ) eQ t v d ps)(hw:JS P t d):
  ∃x,ok x/\LD W (λb _=>b<W.heap.size) v.cells.toList (enc x):=by
 obtain⟨fuel,hf⟩:=h;exact ho fuel _ _ _ hf hw
theorem gH(j:Nat){f:Field}(hf:fs[j]? = iN f)(hk:P.cellsOf f.type=k)
  (ho:eB fG P W fuel f.type enc ok) (h:∀f,f∈fs.toList->∃y,DataW.trod fG P W 0 (λ_=>eQ) eQ fuel f.type ((cs.drop f.offset).take (P.cellsOf f.type))=iN y/\JS P f.type y.1) :
  ∃x,ok x/\LD W (λb _=>b<W.heap.size) ((cs.drop f.offset).take k) (enc x):=
 ajj (t:=0) (by grind) hk ho h
theorem aj3{E:TEnv}{ds:J (TV E)}{args:aJ R0}(h:mI P f ds [] [] [] ⟨eQ,.dat .bool eQ,[],[],[],[]⟩)(he:∀args w,(H3 f args).run P w=.ok (.enter f args) w)(adL:∀b p,E.gb b=iN p->∃cs t m,W.heap[b]? = iN (.cells cs t m)/\p cs)
  (hv:bO E W ⟨[],[],λb _=>b<W.heap.size⟩ ds args.toList):Calls P f args W λe w'=>e=.returned (.bool eQ)/\RowKit.Below W.heap.size W w':=by
 have hf:∀b,¬ (⟨[],[],λb _=>b<W.heap.size⟩:bC).FQ b:=λb hb=>by rcases hb with hb|⟨x,y,hb,-⟩<;>cases hb
 have hI:=h W ⟨[],[],λb _=>b<W.heap.size⟩ args (λb cs hb=>⟨adL b cs hb,hf b⟩)
  ⟨rfl,rfl,λr b x hb=>(by simp at hb),λb hb=>(by cases hb),zF,λb o hp=>⟨hp,si⟩,λj x y hj=>(by simp at hj),λj j' x h x' h' b hj=>(by simp at hj)⟩ (λj c hm=>by cases hm) hv
 unfold lz at hI;rw[he]at hI;refine H7 hI λe w' hp=>?_;obtain⟨v,G',rfl,hE,hR,-,hV,-⟩:=hp;refine⟨?_,hE.os,hE.tape,hE.output,hE.size,λk hk=>hE.old k hk (hf k)⟩;have:=hV.nE;rw[this];rfl
open Go.MapKept Go.Maps Go.RowKit
open Go.WideElems (Fit rd rg pl)
open Go.Proofs (encStr)
def U9(x:J UInt8):J (J UInt8)->J (J UInt8)|[]=>[x]|y::l=>cond (eJ (x<=y)) (x::y::l) (y::U9 x l)
def pK:J (J UInt8)->J (J UInt8)|[]=>[]|x::l=>U9 x (pK l)
theorem Rh(x:J UInt8):∀l,(U9 x l).Perm (x::l)
 | []=>.refl _|y::l=>by
  simp[U9];cases eJ (x<=y)
  .exact((Rh x l).cons y).trans (List.Perm.swap x y l)
  .exact .refl _
theorem EJ:∀l,(pK l).Perm l|[]=>.refl _|x::l=>(Rh x (pK l)).trans ((EJ l).cons x)
theorem adZ(x:J UInt8):∀ {l:J (J UInt8)},l.Pairwise (λa b=>eJ (a<=b)=eQ)->(U9 x l).Pairwise (λa b=>eJ (a<=b)=eQ)
 | [],_=>by simp[U9]|y::l,h=>by
  simp only[U9];cases hxy:eJ (x<=y)with
  | true=>
   refine .cons (λc hc=>?_) h;rcases gL.1 hc with rfl|hc
   .exact hxy
   .have h2:=List.rel_of_pairwise_cons h hc;grind
  | false=>
   refine .cons (λc hc=>?_) (adZ x h.of_cons);rcases gL.1 ((Rh x l).mem_iff.1 hc)with rfl|hc
   .grind
   simp_all
theorem NV:∀l,(pK l).Pairwise (λa b=>eJ (a<=b)=eQ)|[]=>.nil|x::l=>adZ x (NV l)
def ad1(l:J (J UInt8)):l.mergeSort (λx y=>eJ (x<=y))=pK l:=(mergeSort_of_perm (EJ l).symm).trans (List.mergeSort_of_pairwise (NV l))
def skF{β:Type}(F:Nat)(m:J (J UInt8×β)):O (J (J UInt8)):=rq ((m.all λp=>eJ (p.1.length<=9223372036854775807))&&eJ (m.length*16<=140737488355328)) (iN (pK (m.map λp=>p.1)))
def skS(f fk ty:Nat)(vt:Ty):dB:=⟨f,[.one (.func fk [(0,0)])],[.cells ty [.jT 1],.map .str vt],[],⟨.one (.dat (.bx .str)),[iF,iF],[],[]⟩,iF,[]⟩
def skC(E:TEnv)(f fk ty:Nat)(vt:Ty)(F:Nat):bL E:=⟨skS f fk ty vt,λ(x:J (J UInt8×vt.den E.D))=>skF F x⟩
def ad2(P:bw)(fS fk ty kt:Nat):Prop:=
 ∀(w:U)(b0 b n:Nat)(D0:DataW Unit)(R:R0->O (DataW Unit×J MemPlace)),w.heap[b0]? = iN (.cells #[.map (iN b)] ty (0,0))->w.ownsMap P kt R b n D0->Maps.size D0<=maxLen->Maps.size D0*16<=140737488355328 ->
  Calls P fS #[.func (.func fk) #[] #[.pointer (iN ⟨b0,0,iF⟩)]] w λe w2=>∃(u:R0)(ss:J (J UInt8)),e=.returned u/\ss.Perm (strKeys D0) /\
   w2.ownsRow w.heap.size kt 1 u ss.length ((ss.mergeSort (λx y=>eJ (x<=y))).map encStr)/\Below w.heap.size w w2
theorem Um{w:U}{G:bC}{vt:Ty}:∀ {es:J MapEntry}{m:J (J UInt8×vt.den E.D)},gM E w G .str vt es m->es.map (λe=>e.key)=m.map λp=>mkStr p.1|[],[],_=>rfl|e::es,p::ps,h=>by have h1:=h.1.iQ;simp[h1,Um h.2.2]|[],_::_,h=>h.elim|_::_,[],h=>h.elim
theorem ad3{kt:TypeId}{b:Nat}{es:Array MapEntry}{clock:Nat}(ks:J (J UInt8))(hk:P.underlying kt=iN .string)(hb:w.heap[b]? = iN (.map es clock))(hs:Stamped es clock)(hm:es.toList.map (λe=>e.key)=ks.map mkStr)
  (hl:∀p∈ks,p.length<=maxLen) (hlen:Sx ks<=maxLen):∃D0:DataW Unit,w.ownsMap P kt (λ_=>iN (.lit (.bool eQ),[])) b ks.length D0/\Maps.size D0=Sx ks/\(strKeys D0).Perm ks:=by
 have hsz:es.size=Sx ks:=by have:=congrArg Sx hm;simpa using this
 have hrd:∀x∈es.toList,∃p∈ks,x.key=mkStr p/\rd P kt (λ_=>iN ((.lit (.bool eQ):DataW Unit),[])) x=iN (.string p,.lit (.bool eQ)):=by
  intro x hx;have hmem:x.key∈ks.map mkStr:=by grind
  obtain⟨p,hp,WB⟩:=kq.1 hmem;refine⟨p,hp,WB.symm,?_⟩;have hko:keyOf P kt x.key=iN (.string p):=by rw[<-WB];exact WideMaps.keyOf_string_mk hk (hl p hp)
  simp[rd,hko]
 have hF:Fit P kt (λ_=>iN ((.lit (.bool eQ):DataW Unit),[])) es clock:=⟨om,hs,λx hx=>by grind⟩;refine⟨_,⟨es,clock,hb,hF,om,rfl⟩,?_,?_⟩
 .show((es.toList.map (rg P kt _)).foldr DataW.insert []).length=_;simp_all[length_sorted]
 .refine((WideShapes.sorted_perm _).map _).trans ?_;have:(es.toList.map (rg P kt (λ_=>iN ((.lit (.bool eQ):DataW Unit),[])))).map (λp=>strOf p.1)=ks:=by
   have h2:(es.toList.map (rg P kt (λ_=>iN ((.lit (.bool eQ):DataW Unit),[])))).map (λp=>strOf p.1)=(es.toList.map (λe=>e.key)).map (λv=>match v with | .string s=>s.data.toList|_=>[]):=by rw[xu,xu];refine Sm λx hx=>?_;obtain⟨p,-,WB,hr⟩:=hrd x hx;simp[rg,hr,WB,strOf,mkStr]
   rw[h2,hm,xu];have:((λv=>match v with|Value.string s=>s.data.toList|_=>[]) ∘ mkStr)=id:=by funext l;simp[mkStr]
   rw[this,Sn]
  rw[this]
variable{l:J (J UInt8)}
theorem anE{base:Nat}{kt:aK}{u:R0}(hn:n=Sx l)(h:w.ownsRow base kt 1 u n (l.map encStr))(hp:∀g,u.ownBlock=iN g->∀o,o<n->pr g o):
  VD w pr u (.slice 1 (l.map λx=>[.str x])):=by
 subst hn;rcases h.2 with⟨rfl,hz⟩|⟨g,cap,cur,rfl,hbase,hg,h1,h2,h3,h4⟩
 .have:=H8 hz;subst this;exact .wM _ _
 .have hlen:(l.map λx=>[DV.str x]).length=Sx l:=by simp
  have aws:∀q,q<Sx l->w.cell? ⟨g,q,iF⟩=iN (mkStr (l.getD q [])):=by intro q hq;rw[cell_of_row w g q cur kt (0,0) hg];have h5:=congrArg (λt=>t[q]?) h4;simp at h5;rw[abo]at h5;simp_all[MO,Array.getElem?_toList,mkStr]
  have:=VD.slice (w:=w) g 0 cap 1 (l.map λx=>[DV.str x]) (λj _=>mkStr (l.getD j [])) (by rw[hlen];simpa using h1) (λj hj=>by
    simp_all) (λj q hj hq=>by
    refine⟨hp g rfl _ om,?_⟩;simp_all) (λj q hj hq=>by
    have hj':j<Sx l:=by simpa using hj
    obtain rfl:q=0:=om;have e2:((l.map λx=>[DV.str x]).getD j []).getD 0 default=.str (l.getD j []):=by simp[hj']
    rw[e2];exact .str _)
  simp_all
theorem aup{f fk ty kt:Nat}{vt:Ty}(he:∀args w,(H3 f args).run P w=.ok (.enter f args) w)(hS:ad2 P f fk ty kt)(hkt:P.underlying kt=iN .string)(F:Nat):(skC E f fk ty vt F).Ok P:=by
 have key:∀(m:J (J UInt8×vt.den E.D)),(∀p∈m.map (λp=>p.1),p.length<=maxLen)->m.length*16<=140737488355328 ->
   mI P f [.func (.func fk) [.ptr 0 0]] [.cells ty [.jT 1],.map .str vt m] [] [] ⟨eQ,.dat (.bx .str) (pK (m.map λp=>p.1)),[.cells ty [.jT 1],.map .str vt m],[],[],[]⟩:=by
  intro m hm hlen w G args hP hB hSf hv;obtain⟨u,us,ha,wU,sS⟩:=hv.cons_inv;subst sS;obtain⟨vs,rfl,u0,us0,hvs,⟨b0,rfl,hb0⟩,rfl⟩:=wU;have awI:vs=#[.pointer (iN ⟨b0,0,iF⟩)]:=by grind
  have ha:args=#[.func (.func fk) #[] #[.pointer (iN ⟨b0,0,iF⟩)]]:=by grind
  subst ha;obtain⟨cs,hc1,Iu,hc3⟩:=hB.box 0 b0 _ hb0 rfl;obtain⟨u1,us1,hcs,⟨b1,rfl,xE⟩,rfl⟩:=hc3;have avK:cs=#[.map (iN b1)]:=by grind
  subst avK;obtain⟨es,clock,ZU,hm2,hm3⟩:=hB.box 1 b1 _ xE rfl;have hks:es.toList.map (λe=>e.key)=(m.map λp=>p.1).map mkStr:=by rw[Um hm3,xu];rfl
  have hml:(m.map λp=>p.1).length<=maxLen:=by
   have:(8796093022208:Nat)<=maxLen:=by decide
   grind
  obtain⟨D0,hown,hsz,auq⟩:=ad3 (m.map λp=>p.1) hkt ZU hm2 hks hm hml;unfold lz;rw[he];refine H7 (hS w b0 b1 _ D0 _ hc1 hown (by rw[hsz];exact hml) (by simp_all)) λe w2 hh=>?_;obtain⟨u,ss,rfl,hss,hrow,Y3⟩:=hh;have hsort:=(mergeSort_of_perm (hss.trans auq)).trans (ad1 _);have aur:ss.length=(pK (m.map λp=>p.1)).length:=by grind[List.length_mergeSort]
  rw[hsort]at hrow;have hs:fI w w2:=⟨Y3.size,λk hk=>Y3.block k hk⟩
  let mP:Nat->Nat->Prop:=λg o=>G.pr g o\/(u.ownBlock=iN g/\o<ss.length)
  have hr:=Rel.M6 (n:=0) hP hB hSf .nil
  have hr':=hr.grow hs Y3.os Y3.tape Y3.output mP (λb o h=>.inl h) (λb o hb h=>by
    rcases h with h|⟨h,-⟩
    .exact h
    .have:=(hrow.lt b h).1;omega) (λb o h=>by
    rcases h with h|⟨h,-⟩
    .exact kF (hB.gT b o h).1 Y3.size
    .exact(hrow.lt b h).2)
  refine⟨u,{G with pr:=mP},rfl,hr'.fH,hr'.boxes,hr'.gU,?_,λq b hq _=>hr'.fix q b hq si⟩;exact⟨anE aur hrow (λg hg o ho=>.inr ⟨hg,ho⟩),trivial⟩
 have anD:∀(m:J (J UInt8×vt.den E.D))(y:J (J UInt8)),skF F m=iN y ->
   mI P f [.func (.func fk) [.ptr 0 0]] [.cells ty [.jT 1],.map .str vt m] [] [] ⟨eQ,.dat (.bx .str) y,[.cells ty [.jT 1],.map .str vt m],[],[],[]⟩:=by
  intro m y hy;obtain⟨h1,h2⟩:=dX hy;rw[cH,fO,pW]at h1;cases h2;refine key m (λp hp=>?_) h1.2;obtain⟨q,hq,rfl⟩:=kq.1 hp;have:=h1.1 q hq;simpa[maxLen]using this
 intro x y hy;exact anD x y hy
open Go.RowKit
theorem Et{d:TV E}(he:∀args w,(H3 f args).run P w=.ok (.enter f args) w)
  (h:∀w G args,rj E w G->bO E w G ds args.toList->∃v,(∀w G,VT E w G d v)/\Calls P f args w λe w'=>e=.returned v/\Below w.heap.size w w'):mI P f ds [] [] [] ⟨eQ,d,[],[],[],[]⟩:=by
 intro w G args hP hB hS hv;obtain⟨v,hV,hC⟩:=h w G args hP hv;unfold lz;rw[he];refine H7 hC λe w' hh=>?_;obtain⟨rfl,JM⟩:=hh;obtain⟨q1,q2,q4,q3⟩:=hB.grown hP hS ⟨JM.size,λk hk=>JM.block k hk⟩ JM.os JM.tape JM.output;exact⟨v,G,rfl,q1,q2,q4,hV _ _,λq b hq _=>q3 q b hq⟩
theorem VT.strs(h:VT E w G (.dat (.bx .str) l) v):
  (∃a,v=.slice a 0 0/\l=[])\/∃b off cap,v=.slice (iN ⟨b,off,iF⟩) l.length cap/\l.length<=cap/\∀(j:Nat) x,l[j]? = iN x->w.cell? ⟨b,off+j,iF⟩=iN (mkStr x):=by
 obtain⟨cs,hf,hc⟩:=(h.atom rfl).uS.flat (show 0<Ty.size E .str from Nat.one_pos);rcases hc with⟨a,he,hn⟩|⟨b,off,cap,he,hcap,hcells⟩
 .simp_all
 .refine .inr ⟨b,off,cap,by simpa using he,by simpa using hcap,λj x hx=>?_⟩;have hj:=(fD.1 hx).1;have h1:=(hcells j (by simpa[Ty.size]using hj)).2;have h2:=hf.2.2 j 0 (by simpa using hj) Nat.one_pos;have hd:((l.map (Ty.cells E .str)).getD j []).getD 0 default=.str x:=by simp_all[Ty.cells]
  rw[hd]at h2;rw[show Ty.size E .str=1 from rfl,Sp,PJ]at h2;rw[h1,h2.iQ]
def Aq(F:Nat)(l:J (J UInt8))(sep:J UInt8):O (J UInt8):=rq (eJ (Sx l<=140737488355328)&&eJ ((Lib.join l sep).length<=140737488355328)) (iN (Lib.join l sep))
def api(E:TEnv)(f:H4)(F:Nat):bL E:=⟨⟨f,[.one (.dat (.bx .str)),.one (.dat .str)],[],[],⟨.one (.dat .str),[],[],[]⟩,iF,[]⟩,λ(x:J (J UInt8)×J UInt8)=>Aq F x.1 x.2⟩
structure acg(P:Program)(f:H4):Prop where
 enters:∀args w,(H3 f args).run P w=.ok (.enter f args) w
 some:∀(bk o c:Nat)(xs:List ByteArray)(sep:ByteArray)(w:World),(∀(j:Nat) x,xs[j]? = iN x->w.cell? ⟨bk,o+j,iF⟩=iN (.string x))->bk<w.heap.size->Sx xs<=140737488355328->Sx xs<=c ->
  (Lib.join (xs.map (·.data.toList)) sep.data.toList).length<=140737488355328 ->
  Calls P f #[.slice (iN ⟨bk,o,iF⟩) xs.length c,.string sep] w λe w'=>e=.returned (.string ⟨(Lib.join (xs.map (·.data.toList)) sep.data.toList).toArray⟩)/\Below w.heap.size w w'
 none:∀(a:Option Addr)(c:Nat)(sep:ByteArray)(w:World),Calls P f #[.slice a 0 c,.string sep] w λe w'=>e=.returned (.string ⟨#[]⟩)/\w'=w
theorem aqn(h:acg P f)(F:Nat):(api E f F).Ok P:=by
 have key:∀(l:J (J UInt8))(sep y:J UInt8),Aq F l sep=iN y->mI (E:=E) P f [.dat (.bx .str) l,.dat .str sep] [] [] [] ⟨eQ,.dat .str y,[],[],[],[]⟩:=by
  intro l sep y hy;obtain⟨h1,h2⟩:=dX hy;rw[cH,fO,fO]at h1;cases h2;refine Et h.enters λw G args hP hv=>⟨_,λw G=>.str w G (Lib.join l sep),?_⟩;obtain⟨u,us,ha,wU,sS⟩:=hv.cons_inv;obtain⟨u2,VN,tY,Ge,LL⟩:=sS.cons_inv;have e2:=Ge.iQ;subst e2 LL tY;have ha:args=#[u,mkStr sep]:=by grind
  subst ha;have zero:∀a c,l=[]->u=.slice a 0 c->Calls P f #[u,mkStr sep] w λe w'=>e=.returned (mkStr (Lib.join l sep))/\Below w.heap.size w w':=by intro a c hl hu;subst hl hu;exact(h.none a c ⟨⟨sep⟩⟩ w).mono λe w' ⟨q1,q2⟩=>⟨by rw[q1];rfl,q2▸Below.refl _ _⟩
  rcases wU.strs with⟨a,hu,hl⟩|⟨b,off,cap,hu,hcap,hc⟩
  .exact zero a 0 hl hu
  .rcases Nat.eq_zero_or_pos l.length with hl|hl
   .simp_all
   .have hx:(l.map λs=>(⟨⟨s⟩⟩:ByteArray)).map (·.data.toList)=l:=by rw[xu];exact Sn l
    have:=h.some b off cap (l.map λs=>⟨⟨s⟩⟩) ⟨⟨sep⟩⟩ w (λj x hjx=>by
     rw[MO]at hjx;obtain⟨s,hs,rfl⟩:=Sk.1 hjx;exact hc j s hs) (by
     have h0:=hc 0 l[0] (fT hl);exact ahn w _ h0) (by simpa using h1.1) (by simpa using hcap) (by rw[hx];exact h1.2)
    rw[hx,gP]at this;rw[hu];exact this
 intro x y hy;exact key x.1 x.2 y hy
structure awt(P:Program)(f:H4):Prop where
 enters:∀args w,(H3 f args).run P w=.ok (.enter f args) w
 call:∀(s:ByteArray)(c:Nat)(w:World),c<=9223372036854775807->s.size*c<=140737488355328->Calls P f #[.string s,.int .i64 c] w λe w'=>e=.returned (.string ⟨(Lib.repeatL s.data.toList c).toArray⟩)/\Below w.heap.size w w'
def UL(F:Nat)(s:J UInt8)(c:Int):O Int:=rq (eJ (Sx s<4611686018427387904)) (iN (Lib.lastIndexByte ⟨⟨s⟩⟩ c))
def asD(E:TEnv)(f:H4)(F:Nat):bL E:=⟨⟨f,[.one (.dat .str),.one (.dat (.int .u8))],[],[],⟨.one (.dat (.int .i64)),[],[],[]⟩,iF,[]⟩,λ(x:J UInt8×Int)=>UL F x.1 x.2⟩
structure aoU(P:Program)(f:H4):Prop where
 enters:∀args w,(H3 f args).run P w=.ok (.enter f args) w
 call:∀(s:ByteArray)(c:Int)(w:World),s.size<4611686018427387904->Calls P f #[.string s,.int .u8 c] w λe w'=>e=.returned (.int .i64 (Lib.lastIndexByte s c))/\w'=w
theorem asE(h:aoU P f)(F:Nat):(asD E f F).Ok P:=by
 have key:∀(s:J UInt8)(n y:Int),UL F s n=iN y->mI (E:=E) P f [.dat .str s,.dat (.int .u8) n] [] [] [] ⟨eQ,.dat (.int .i64) y,[],[],[],[]⟩:=by
  intro s n y hy;obtain⟨h1,h2⟩:=dX hy;rw[fO]at h1;cases h2;refine Et h.enters λw G args hP hv=>⟨_,λw G=>.int w G .i64 (Lib.lastIndexByte ⟨⟨s⟩⟩ n),?_⟩;obtain⟨u,us,ha,wU,sS⟩:=hv.cons_inv;obtain⟨u2,VN,tY,Ge,LL⟩:=sS.cons_inv;have e1:=wU.iQ;have e2:=Ge.gD;subst e1 e2 LL tY;have ha:args=#[mkStr s,.int .u8 n]:=by grind
  subst ha;exact(h.call ⟨⟨s⟩⟩ n w h1).mono λe w' ⟨q1,q2⟩=>⟨q1,q2▸Below.refl _ _⟩
 intro x y hy;exact key x.1 x.2 y hy
structure awJ(P:Program)(f:H4):Prop where
 enters:∀args w,(H3 f args).run P w=.ok (.enter f args) w
 call:∀(s cs:ByteArray)(w:World),s.size<4294967281->cs.size<4294967281->(∀(j:Nat) b,cs.data.toList[j]? = iN b->b.toNat<128) ->
  Calls P f #[.string s,.string cs] w λe w'=>e=.returned (.bool (Lib.containsAny s.data.toList cs.data.toList))/\Below w.heap.size w w'
def Im(F:Nat)(s sep:J UInt8):O (J (J UInt8)):=rq (eJ (Sx s<4294967281)&&eJ (1<=sep.length)) (iN ((Lib.splitB ⟨⟨sep⟩⟩ 0 (Lib.countB ⟨⟨s⟩⟩ ⟨⟨sep⟩⟩) ⟨⟨s⟩⟩).map (·.data.toList)))
def ala(E:TEnv)(f:H4)(e:aK)(F:Nat):bL E:=⟨⟨f,[.one (.dat .str),.one (.dat .str)],[],[],⟨.one (.eF 0),[],[iN (e,1)],[(0,.str)]⟩,iF,[]⟩,λ(x:J UInt8×J UInt8)=>Im F x.1 x.2⟩
structure agn(E:TEnv)(P:Program)(f:H4)(e:TypeId):Prop where
 enters:∀args w,(H3 f args).run P w=.ok (.enter f args) w
 call:∀(s sep:ByteArray)(w:World)(G:bC),rj E w G->s.size<4294967281->1<=sep.size->Calls P f #[.string s,.string sep] w λe' w'=>e'=.returned (.slice (iN ⟨w.heap.size,0,iF⟩) (Lib.countB s sep+1) (Lib.countB s sep+1))/\w'=w.alloc (.cells ((Lib.splitB sep 0 (Lib.countB s sep) s).map Value.string).toArray e)
 len:∀(s sep:ByteArray),1<=sep.size->(Lib.splitB sep 0 (Lib.countB s sep) s).length=Lib.countB s sep+1
 le:∀(s sep:ByteArray),1<=sep.size->Lib.countB s sep<=s.size
theorem alb(l:J ByteArray):Flat w pr 1 (l.map Value.string) ((l.map (·.data.toList)).map (Ty.cells E .str)):=by
 refine⟨si,λj hj=>?_,λj k hj hk=>?_⟩
 .simp_all[Ty.cells]
 .simp at hj;obtain rfl:k=0:=om;have e1:(l.map Value.string).getD (j*1+0) H5=.string l[j]:=by simp[hj]
  have e2:(((l.map (·.data.toList)).map (Ty.cells E .str)).getD j []).getD 0 default=.str l[j].data.toList:=by simp_all[Ty.cells]
  rw[e1,e2];exact .str _
theorem anF(h:agn E P f e)(F:Nat):(ala E f e F).Ok P:=by
 have key:∀(s sep:J UInt8)(y:J (J UInt8)),Im F s sep=iN y->mI (E:=E) P f [.dat .str s,.dat .str sep] [] [] [] ⟨eQ,.eF 0 0,[],[⟨0,e,1⟩],[],[(0,⟨.str,y⟩)]⟩:=by
  intro s sep y hy;obtain⟨h1,h2⟩:=dX hy;rw[cH,fO,fO]at h1;obtain⟨c1,c2⟩:=h1;cases h2;intro w G args hP hB hS hv;obtain⟨u,us,ha,wU,sS⟩:=hv.cons_inv;obtain⟨u2,VN,tY,Ge,LL⟩:=sS.cons_inv;have e1:=wU.iQ;have e2:=Ge.iQ;subst e1 e2 LL tY;have ha:args=#[mkStr s,mkStr sep]:=by grind
  subst ha;unfold lz;rw[h.enters];have hlen:=h.len ⟨⟨s⟩⟩ ⟨⟨sep⟩⟩ c2;have hle:=h.le ⟨⟨s⟩⟩ ⟨⟨sep⟩⟩ c2;have hsz:(⟨⟨s⟩⟩:ByteArray).size=Sx s:=rfl;generalize hpl:Lib.splitB ⟨⟨sep⟩⟩ 0 (Lib.countB ⟨⟨s⟩⟩ ⟨⟨sep⟩⟩) ⟨⟨s⟩⟩=pl at hlen;generalize hcn:Lib.countB ⟨⟨s⟩⟩ ⟨⟨sep⟩⟩=cn at hlen hle;have hC:=h.call ⟨⟨s⟩⟩ ⟨⟨sep⟩⟩ w G hP c1 c2;rw[hcn]at hC hpl;rw[hpl]at hC;refine H7 hC λe' w' hh=>?_;obtain⟨rfl,rfl⟩:=hh;have hr:=Rel.M6 (n:=0) hP hB hS .nil
  let cur:=(pl.map Value.string).toArray
  have hcs:cur.size=(cn+1)*1:=by simp[cur,hlen]
  have hG:=hr.grow (fI.alloc w (.cells cur e)) rfl rfl rfl G.pr (λ_ _ h=>h) (λ_ _ _ h=>h) (λb o hp=>kF (hr.boxes.gT b o hp).1 si);have hnp:∀o,¬ G.pr w.heap.size o:=λo hp=>absurd (hr.boxes.gT _ _ hp).1 (AH _);have hheap:(w.alloc (.cells cur e)).heap[w.heap.size]? = iN (.cells cur e):=heap_alloc_new w _;have hmax:maxLen=9223372036854775807:=rfl;have hown:(w.alloc (.cells cur e)).ownsRow 0 e 1 (.slice (iN ⟨w.heap.size,0,iF⟩) (cn+1) (cn+1)) (cn+1) (cur.toList.take ((cn+1)*1)):=by refine⟨by simp[cur,hlen],.inr ⟨w.heap.size,cn+1,cur,rfl,fF _,hheap,eE _,?_,hcs,rfl⟩⟩;rw[hmax];omega
  have hA:=hG.DZ ⟨0,e,1⟩ (.slice (iN ⟨w.heap.size,0,iF⟩) (cn+1) (cn+1)) ⟨cn+1,_,hown,λa q h=>by simp at h,λb hb=>by
    cases hb;exact⟨si,λhm=>absurd (hr.boxes.lt _ hm) (AH _),λo _ hp=>hnp o hp⟩⟩ (λb hb=>by cases hb;exact hr.fH.size) (λj y z b hj hzb hb=>by
    cases hb;obtain⟨n',xs',-,-,hb'⟩:=hr.boxes.grow j y z hj
    simp_all)
  have hg0:G.g=[]:=by have:=hB.gs;simpa using this
  have lI:(G.g++[(⟨0,e,1⟩,Value.slice (iN ⟨w.heap.size,0,iF⟩) (cn+1) (cn+1))])[0]? = iN (⟨0,e,1⟩,.slice (iN ⟨w.heap.size,0,iF⟩) (cn+1) (cn+1)):=by rw[hg0];rfl
  have hC2:=hA.YU (c:=⟨.str,pl.map (·.data.toList)⟩) ⟨⟨0,e,1⟩,_,lI,rfl,Nat.one_pos,⟨_,by simpa[hlen]using hown,by
    grind[List.take_of_length_le,alb]⟩,λb hb o hp=>by cases hb;exact hnp o hp⟩
  refine⟨_,_,rfl,hC2.fH,hC2.boxes,hC2.gU,?_,λq b hq _=>hC2.fix q b hq si⟩;exact⟨⟨0,e,1⟩,_,lI,eE _,rfl,λ_=>rfl⟩
 intro x y hy;exact key x.1 x.2 y hy
theorem Rel.aqo{w0 w':U}{G0:bC}{st:TS E}{a:Act}(hr:Rel E w0 G0 st a w G){j:Nat}{g:cU}{c:Cn E}(hg:st.g[j]? = iN g)(hc:qc st.c j=iN c)(hj:G.g[j]? = iN (g,v))(wY:w.grownBy w' v.ownBlock){ys:J (c.1.den E.D)}{vals:J R0}
  (hown:w'.ownsRow 0 g.e g.k v ys.length vals) (hf:Flat w G.pr g.k vals (ys.map (c.1.cells E))) :
  Rel E w0 G0 {st with c:=(j,⟨c.1,ys⟩)::oV j st.c} a w' G:=by
 obtain⟨h,hj',hs,-⟩:=hr.soft hg hc;rw[hj]at hj';cases hj';obtain⟨n0,xs0,VU,Qx,hb0⟩:=hr.boxes.grow j g v hj;have hnp:=hs.2.2.2;have hcells:∀b o u,G.pr b o->w.cell? ⟨b,o,iF⟩=iN u->w'.cell? ⟨b,o,iF⟩=iN u:=λb o u hp hu=>wY.cell hu (λe=>hnp b e.symm o hp);have nX:=Ny hj;have key:=hr.setRow (cs:=(j,⟨c.1,ys⟩)::oV j st.c) hj (eE _) (λ_=>rfl) wY.size wY.os wY.tape wY.output
  (λb hb hne=>wY.block b hb (λe=>hne e.symm)) hcells G.pr (λ_ _ h=>h) (λ_ _ h=>.inl h)
  ⟨Sx ys,vals,hown,Qx,λb hb=>⟨(hown.lt b hb).2,(hb0 b hb).2.1,λo _ hp=>hnp b hb o hp⟩⟩ (λb hb=>.inr hb) (λhg'=>?_)
 .simp_all[Ny]
 .intro i c' hm;rcases gL.1 hm with e|hm
  .cases e;exact⟨g,v,by rw[nX];exact hj,hs.1,hs.2.1,⟨vals,hown,hf.mono hg'.pr hg'.cells⟩,hnp⟩
  .obtain⟨hm,hne⟩:=uT hm;obtain⟨x,hd,q1,q2⟩:=hr.gU i c' hm;obtain⟨n1,xs1,-,-,xE⟩:=hr.boxes.grow i x hd q1;refine⟨x,hd,by rw[nX];exact q1,q2.keep rfl rfl hg'.pr hg'.cells λb hb=>⟨wY.block b (xE b hb).1 (λe=>hne (hr.boxes.apart i j x hd g v b q1 hj hb e.symm)),λo hp=>hp⟩⟩
theorem ajk(l:J (J UInt8)):Flat w pr 1 (l.map Go.Proofs.encStr) (l.map (Ty.cells E .str)):=by
 refine⟨si,λj hj=>?_,λj k hj hk=>?_⟩
 .simp_all[Ty.cells]
 .simp at hj;obtain rfl:k=0:=om;have e1:(l.map Go.Proofs.encStr).getD (j*1+0) H5=mkStr l[j]:=by simp[hj];rfl
  have e2:((l.map (Ty.cells E .str)).getD j []).getD 0 default=.str l[j]:=by simp_all[Ty.cells]
  rw[e1,e2];exact .str _
theorem aau{xs:J R0}(h:Flat w pr 1 xs (l.map (Ty.cells E .str))):xs=l.map Go.Proofs.encStr:=by
 have hl:Sx xs=Sx l:=by simpa using h.1
 refine BG (by simpa using hl) λj h1 h2=>?_;have hj:j<Sx l:=om;have h3:=h.2.2 j 0 (by simpa using hj) Nat.one_pos;have e2:((l.map (Ty.cells E .str)).getD j []).getD 0 default=.str l[j]:=by simp_all[Ty.cells]
 have e1:xs.getD (j*1+0) H5=xs[j]:=by simp[h1]
 rw[e1,e2]at h3;rw[h3.iQ,MP];rfl
def SP(F:Nat)(l:J (J UInt8)):O (J (J UInt8)):=rq (eJ (Sx l<4611686018427387904)) (iN (pK l))
def apj(E:TEnv)(f:H4)(e:aK)(F:Nat):bL E:=⟨⟨f,[.one (.eF 0)],[],[(e,1)],⟨.one .any,[],[iF],[(0,.str)]⟩,iF,[(0,.str)]⟩,λ(x:J (J UInt8))=>SP F x⟩
structure aj6(P:Program)(f:H4):Prop where
 enters:∀args w,(H3 f args).run P w=.ok (.enter f args) w
 some:∀(blk cap:Nat)(ss:List (List UInt8))(w:World),Sort.Holds Go.Proofs.encStr w blk 0 ss.toArray->blk<w.heap.size->ss.length<4611686018427387904->Calls P f #[.slice (iN ⟨blk,0,iF⟩) ss.length cap] w λe w'=>e=.returned (.tuple #[])/\∃n os,w'=Sort.grow (Sort.putRow Go.Proofs.encStr (Sort.ahead w n) blk 0 (ss.mergeSort λx y=>eJ (x<=y)).toArray) os
 none:∀(p:Option Addr)(cap:Nat)(w:World),Calls P f #[.slice p 0 cap] w λe w'=>e=.returned (.tuple #[])/\w'=w
theorem aqp(h:aj6 P f)(F:Nat):(apj E f e F).Ok P:=by
 have key:∀(l y:J (J UInt8)),SP F l=iN y->mI (E:=E) P f [.eF 0 0] [] [⟨0,e,1⟩] [(0,⟨.str,l⟩)] ⟨eQ,.any,[],[⟨0,e,1⟩],[],[(0,⟨.str,y⟩)]⟩:=by
  intro l y hy;obtain⟨h1,h2⟩:=dX hy;rw[fO]at h1;cases h2;intro w G args hP hB hS hv;obtain⟨u,us,ha,wU,sS⟩:=hv.cons_inv;subst sS;have ha:args=#[u]:=by grind
  subst ha;unfold lz;rw[h.enters];have hr:=Rel.M6 (n:=0) hP hB hS .nil;obtain⟨v,hj,hs,hval⟩:=hr.soft (j:=0) rfl rfl;have mR:=hval u wU;subst mR;rcases hs.block with⟨q1,q2⟩|⟨b,cap,cur,q1,hheap,hcap,hcm,hcs,OL,hnp⟩
  .have q2:l=[]:=q2;subst q2 q1;refine(h.none iF 0 w).mono λe' w' hh=>?_;obtain⟨rfl,rfl⟩:=hh;exact⟨_,G,rfl,mj.refl _ G,hB,hS,by simp[VT],λ_ _ _ _=>rfl⟩
  .subst q1;have hft:=aau OL;have hft:cur.toList.take l.length=l.map Go.Proofs.encStr:=by simp_all
   have hH:=Go.holds_of_block hheap hft;refine(h.some b cap l w hH (BH.1 hheap).1 h1).mono λe' w' hh=>?_;obtain⟨rfl,n,os,rfl⟩:=hh;rw[ad1];have OB:=(EJ l).length_eq;have hown:=Go.ownsRow_sorted (n:=n) (os:=os) OB (fF _) hheap hcap hcm hcs;have hR:=hr.aqo rfl rfl hj (Go.grownBy_sorted _) (by rw[OB];exact hown) (ajk (pK l));exact⟨_,G,rfl,hR.fH,hR.boxes,hR.gU,by simp[VT],λq b hq _=>hR.fix q b hq si⟩
 intro x y hy;exact key x y hy
def zP(F:Nat)(sep:J UInt8)(l:J (J UInt8)):O (J UInt8×J (J UInt8)):=(Aq F l sep).bind λy=>iN (y,l)
def alc(E:TEnv)(f:H4)(e:aK)(F:Nat):bL E:=⟨⟨f,[.one (.eF 0),.one (.dat .str)],[],[(e,1)],⟨.one (.dat .str),[],[iF],[(0,.str)]⟩,iF,[(0,.str)]⟩,λ(x:J UInt8×J (J UInt8))=>zP F x.1 x.2⟩
theorem anG(h:acg P f)(F:Nat):(alc E f e F).Ok P:=by
 have key:∀(sep y:J UInt8)(l z:J (J UInt8)),zP F sep l=iN (y,z)->mI (E:=E) P f [.eF 0 0,.dat .str sep] [] [⟨0,e,1⟩] [(0,⟨.str,l⟩)] ⟨eQ,.dat .str y,[],[⟨0,e,1⟩],[],[(0,⟨.str,z⟩)]⟩:=by
  intro sep y l z hy;unfold zP at hy;cases hj:Aq F l sep with
  | none=>rw[hj]at hy;cases hy
  | some y'=>
  rw[hj]at hy;cases hy;obtain⟨h1,h2⟩:=dX hj;rw[cH,fO,fO]at h1;cases h2;intro w G args hP hB hS hv;obtain⟨u,us,ha,wU,sS⟩:=hv.cons_inv;obtain⟨u2,VN,tY,Ge,LL⟩:=sS.cons_inv;have e2:=Ge.iQ;subst e2 LL tY;have ha:args=#[u,mkStr sep]:=by grind
  subst ha;unfold lz;rw[h.enters];have hr:=Rel.M6 (n:=0) hP hB hS .nil;obtain⟨v,hj,hs,hval⟩:=hr.soft (j:=0) rfl rfl;have mR:=hval u wU;subst mR;rcases hs.block with⟨q1,q2⟩|⟨b,cap,cur,q1,hheap,hcap,hcm,hcs,OL,hnp⟩
  .have q2:l=[]:=q2;subst q2 q1;refine(h.none iF 0 ⟨⟨sep⟩⟩ w).mono λe' w' hh=>?_;obtain⟨rfl,rfl⟩:=hh;exact⟨_,G,rfl,mj.refl _ G,hB,hS,.str _ _ _,λ_ _ _ _=>rfl⟩
  .subst q1;have hft:=aau OL;have hx:(l.map λs=>(⟨⟨s⟩⟩:ByteArray)).map (·.data.toList)=l:=by rw[xu];exact Sn l
   have WV:=h.some b 0 cap (l.map λs=>⟨⟨s⟩⟩) ⟨⟨sep⟩⟩ w (λj x hjx=>by
     rw[MO]at hjx;obtain⟨s,hs',rfl⟩:=Sk.1 hjx;have hjl:=(fD.1 hs').1;have h3:(cur.toList.take l.length)[j]? = iN (Go.Proofs.encStr s):=by simp_all
     rw[List.getElem?_take_of_lt hjl]at h3;have h4:cur[j]? = iN (Go.Proofs.encStr s):=by simpa using h3
     simp[World.cell?,hheap,h4]) (BH.1 hheap).1 (by simpa using h1.1) (by
     simp_all) (by rw[hx];exact h1.2)
   rw[hx,gP]at WV;refine WV.mono λe' w' hh=>?_;obtain⟨rfl,JM⟩:=hh;obtain⟨q1,q2,q4,q3⟩:=hB.grown hP hS ⟨JM.size,λk hk=>JM.block k hk⟩ JM.os JM.tape JM.output;exact⟨_,G,rfl,q1,q2,q4,.str _ _ _,λq b hq _=>q3 q b hq⟩
 intro x y hy;exact key x.1 y.1 x.2 y.2 hy
def Yv(F:Nat)(s sep:J UInt8):O (J UInt8×J UInt8×Bool):=rq (eJ (Sx s<4294967281)) (iN (Lib.cut s sep))
def asF(E:TEnv)(f:H4)(F:Nat):bL E:=⟨⟨f,[.one (.dat .str),.one (.dat .str)],[],[],⟨.dI [.dat .str,.dat .str,.dat .bool],[],[],[]⟩,iF,[]⟩,λ(x:J UInt8×J UInt8)=>Yv F x.1 x.2⟩
structure aoV(E:TEnv)(P:Program)(f:H4):Prop where
 enters:∀args w,(H3 f args).run P w=.ok (.enter f args) w
 call:∀(s sep:ByteArray)(w:World)(G:bC),rj E w G->s.size<4294967281->Calls P f #[.string s,.string sep] w λe w'=>e=.returned (.tuple #[.string ⟨(Lib.cut s.data.toList sep.data.toList).1.toArray⟩,.string ⟨(Lib.cut s.data.toList sep.data.toList).2.1.toArray⟩,.bool (Lib.cut s.data.toList sep.data.toList).2.2])/\∃n,w'=w.drewN n
theorem asG(h:aoV E P f)(F:Nat):(asF E f F).Ok P:=by
 have key:∀(s sep a b:J UInt8)(c:Bool),Yv F s sep=iN (a,b,c)->mI (E:=E) P f [.dat .str s,.dat .str sep] [] [] [] ⟨eQ,.tuple [.dat .str a,.dat .str b,.dat .bool c],[],[],[],[]⟩:=by
  intro s sep a b c hy;obtain⟨h1,h2⟩:=dX hy;rw[fO]at h1;have h2:=o4 h2;refine Et h.enters λw G args hP hv=>⟨.tuple #[mkStr a,mkStr b,.bool c],λw G=>?_,?_⟩
  .exact⟨_,rfl,.cons (.str _ _ _) (.cons (.str _ _ _) (.cons (.bool _ _ _) .nil))⟩
  obtain⟨u,us,ha,wU,sS⟩:=hv.cons_inv;obtain⟨u2,VN,tY,Ge,LL⟩:=sS.cons_inv;have e1:=wU.iQ;have e2:=Ge.iQ;subst e1 e2 LL tY;have ha:args=#[mkStr s,mkStr sep]:=by grind
  subst ha;have:=h.call ⟨⟨s⟩⟩ ⟨⟨sep⟩⟩ w G hP h1;refine this.mono λe' w' hh=>?_;obtain⟨rfl,n,rfl⟩:=hh;refine⟨?_,?_⟩
  .rw[h2];rfl
  .exact⟨rfl,rfl,rfl,eE _,λ_ _=>rfl⟩
 intro x y hy;exact key x.1 x.2 y.1 y.2.1 y.2.2 hy
end Go.RT
namespace Go.RT
open Go.RowKit
variable {E : TEnv}
def yh(n:Nat)(m:J (Nat×TV E)):J (TV E):=m.foldl (λt p=>t.set p.1 p.2) (W0 n .any)
def SS(n:Nat)(m:J (Nat×TV E))(H:J (gu E))(g:J cU):TS E:=⟨yh n m,H,g,[],[],[]⟩
theorem Va:∀(m:J (Nat×TV E))(t:J (TV E)),(m.foldl (λt p=>t.set p.1 p.2) t).length=t.length/\∀j d,(m.foldl (λt p=>t.set p.1 p.2) t)[j]? = iN d->t[j]? = iN d\/(j,d)∈m
 | [],t=>⟨rfl,λj d h=>.inl h⟩|p::m,t=>by
  obtain⟨h1,h2⟩:=Va m (t.set p.1 p.2);refine⟨by simpa using h1,λj d h=>?_⟩;rcases h2 j d h with h|h
  .by_cases e:p.1=j
   .subst e;have hl:p.1<t.length:=by have:=(fD.1 h).1;simpa using this
    rw[VA hl]at h;cases h;exact .inr si
   .rw[MQ e]at h;exact .inl h
  .exact .inr (by simp[h])
theorem wB(n:Nat)(m:J (Nat×TV E)):(yh n m).length=n:=by simp_all[yh,Va]
variable{n:Nat}{m:J (Nat×TV E)}{j:Nat}
theorem y9{d:TV E}(h:(yh n m)[j]? = iN d):d=.any\/(j,d)∈m:=by
 rcases(Va m _).2 j d h with h|h
 .grind
 .exact .inr h
variable{P:bw}{w0 w w':U}{G0 G G':bC}{st:TS E}{a:Act}{Q Q':Ex E -> TS E -> Prop}{c c':Code}{o:H2}{H:J (gu E)}{g:J cU}{t:aK}{ops:aJ H2}{e:aK}{j1 j2:Nat}{z:R0}{ie:TI}{e2:aK}{j3 cap aF:Nat}
theorem Rel.weak(hr:Rel E w0 G0 st a w G)(hi:G0.i=[]){t':J (TV E)}(hl:t'.length=st.t.length)(ht:∀(j:Nat) d,t'[j]? = iN d->d=.any\/st.t[j]? = iN d)(d':J Nat):
  Rel E w0 G0 {st with t:=t',d:=d'} a w G:=by
 refine⟨hr.fH,hr.size.trans hl.symm,λj d hj=>?_,hr.defers,hr.boxes,λr b hb=>?_,hr.pins,hr.gU⟩
 .rcases ht j d hj with rfl|h
  .simp[VT]
  .exact hr.tmps j d h
 simp_all
def AW(P:bw)(w0:U)(G0:bC)(c:Code)(st:TS E)(Q:Ex E->TS E->Prop):Prop:=∀a w G,Rel E w0 G0 st a w G->c.wp P (cQ E w0 G0 Q) a w
theorem AW.mono(h:AW P w0 G0 c st Q)(hq:∀x s,Q x s->Q' x s):AW P w0 G0 c st Q':=λa w G hr=>wp_mono (h a w G hr) λ_ _ _ hp=>cQ.mono hq hp
theorem AW.seq(h:AW P w0 G0 c st (λx s=>(x=.normal/\AW P w0 G0 c' s Q)\/(x≠.normal/\Q x s))):AW P w0 G0 (.seq c c') st Q:=λa w G hr=>by
 refine wp_seq (wp_mono (h a w G hr) λe a' w' hp=>?_);obtain⟨x,s,G',he,hr',hq⟩:=hp;rcases hq with⟨rfl,hq⟩|⟨hne,hq⟩
 .cases e<;>try (exact he.elim)
  exact hq a' w' G' hr'
 .have qP:cQ E w0 G0 Q e a' w':=⟨x,s,G',he,hr',hq⟩;cases x with
  | normal=>exact(hne rfl).elim|_=>cases e<;>first|exact he.elim|exact qP
def AW.FL(h:AW P w0 G0 c st (λx s=>x=.normal/\Q' x s))(h':∀s,Q' .normal s->AW P w0 G0 c' s Q):AW P w0 G0 (.seq c c') st Q:=AW.seq (h.mono λx s hq=>.inl ⟨hq.1,h' s (hq.1▸hq.2)⟩)
theorem AW.block{i:Nat}(h:AW P w0 G0 c st (λx s=>(x=.exit i/\Q .normal s)\/(x≠.exit i/\Q x s))):AW P w0 G0 (.block i c) st Q:=λa w G hr=>by
 refine wp_block (wp_mono (h a w G hr) λe a' w' hp=>?_);obtain⟨x,s,G',he,hr',hq⟩:=hp;cases x with
 | exit j=>
  cases e<;>try (exact he.elim)
  rename_i i';subst he;simp[Exit.inBlock];rcases hq with⟨hx,hq⟩|⟨hx,hq⟩
  .cases hx;rw[if_pos rfl];exact⟨.normal,s,G',trivial,hr',hq⟩
  .rw[if_neg (λe=>hx (by rw[e]))];exact⟨.exit i',s,G',rfl,hr',hq⟩
 | _=>
  rcases hq with⟨hx,-⟩|⟨-,hq⟩
  .cases hx
  .have qP:cQ E w0 G0 Q e a' w':=⟨_,s,G',he,hr',hq⟩;cases e<;>first|exact he.elim|exact qP
theorem AW.cond{o:dJ}{b:Bool}(ho:st.ev o=.dat .bool b)(h:AW P w0 G0 (if b then c else c') st Q):AW P w0 G0 (.cond o c c') st Q:=λa w G hr=>by have hv:=hr.ev o;rw[ho]at hv;exact wp_cond hv.nE (h a w G hr)
theorem AW.skip(h:Q .normal st):AW P w0 G0 .skip st Q:=λa w G hr=>wp_skip ⟨.normal,st,G,trivial,hr,h⟩
theorem AW.ret(h:Q .ret st):AW P w0 G0 .ret st Q:=λa w G hr=>wp_ret ⟨.ret,st,G,trivial,hr,h⟩
theorem AW.exit{i:Nat}(h:Q (.exit i) st):AW P w0 G0 (.exit i) st Q:=λa w G hr=>wp_exit ⟨.exit i,st,G,rfl,hr,h⟩
theorem AW.loop{ι:Type}(S:ι->TS E)(I:ι->Prop)(μ:ι->Nat)(x0:ι)(h0:I x0)(hS:st=S x0)
  (hs:∀x,I x->AW P w0 G0 c (S x) (λe s=>(e=.normal/\∃y,I y/\μ y<μ x/\s=S y)\/(e≠.normal/\Q e s))):AW P w0 G0 (.loop c) st Q:=λa w G hr=>by
 subst hS;refine(wpIn_wide (n:=0)).1 (Q9 (ι:=ι) (λx a' w'=>I x/\∃G',Rel E w0 G0 (S x) a' w' G') μ x0 ⟨h0,G,hr⟩ ?_);rintro x a' w' ⟨hx,G',hr'⟩;refine(wpIn_wide).2 (wp_mono (hs x hx a' w' G' hr') λe a2 w2 hp=>?_);obtain⟨e',s,G2,he,hr2,hq⟩:=hp;rcases hq with⟨rfl,y,hy,hlt,rfl⟩|⟨hne,hq⟩
 .cases e<;>try (exact he.elim)
  exact⟨y,⟨hy,G2,hr2⟩,hlt⟩
 .have qP:cQ E w0 G0 Q e a2 w2:=⟨e',s,G2,he,hr2,hq⟩;cases e' with
  | normal=>exact(hne rfl).elim|_=>cases e<;>first|exact he.elim|exact qP
def proj(js:J Nat):Ex E->TS E->O (J (O (TV E))×J (gu E)×J cU×J (Nat×Cn E)×J (H4×J (TV E)))|.normal,s=>iN (js.map λj=>s.t[j]?,s.H,s.g,s.c,s.df)|_,_=>iF
theorem AW.rt{X:Cx E}(hX:X.Ok)(hi:G0.i=[]){pl:fu}{n:Nat}{m m':J (Nat×TV E)}{H H':J (gu E)}{g g':J cU}
  (h:runT X 0 c pl (SS n m H g) (proj (m'.map (·.1)))=iN (m'.map (λp=>iN p.2),H',g',[],[])) :
  AW X.P w0 G0 c (SS n m H g) (λx s=>x=.normal/\s=SS n m' H' g'):=λa w G hr=>by
 refine wp_mono ((vz hX c pl h).wp hr) λe a' w' hp=>?_;obtain⟨x,s,G',he,hr',hk,hF⟩:=hp;cases x with
 | normal=>
  simp only[proj,ahq,ahr]at hk;obtain⟨k1,k2,k3,k4,k5⟩:=hk;obtain⟨t,H1,g1,d1,df1,c1⟩:=s;subst k2 k3 k4 k5;have hlen:t.length=n:=by rw[show t.length=_ from hF.len];exact wB n m
  refine⟨.normal,SS n m' H1 g1,G',he,?_,rfl,rfl⟩;refine hr'.weak hi (by simp_all[wB]) (λj d hj=>?_) [];rcases y9 hj with h|h
  .exact .inl h
  .obtain⟨q,hq,he'⟩:=ko h;have:=congrArg (λl=>l[q]?) k1;simp_all
 | _=>cases hk
def anH(m:J (Nat×TV E)):Prop:=∀p∈m,∃t x,p.2=.dat t x
theorem Rel.ad4(hr:Rel E w0 G0 (SS n m H g) a w G):lu E w' G' a.defers []:=by have h:=hr.defers;cases hd:a.defers with|nil=>trivial|cons d ds=>rw[hd]at h;exact h.elim
theorem Rel.ald(hr:Rel E w0 G0 (SS n m H g) a w G)(hi:G0.i=[])(hm:anH m):Rel E w0 G0 (SS n m [] g) a w {G with i:=[]}:=by
 have ev:=hr.fH;refine⟨⟨ev.os,ev.tape,ev.output,ev.size,ev.old,⟨ev.goes.pr,ev.goes.cells,λr b h=>(by rw[hi]at h;cases h),ev.goes.g⟩,ev.pN,λr b _ h=>(by cases h),ev.iB⟩,hr.size,λj d hj=>?_,hr.ad4,?_,λr b hb=>(by rw[hi]at hb;cases hb),hr.pins,λj c h=>(by cases h)⟩
 .have hv:=hr.tmps j d hj;rcases y9 hj with rfl|h
  .simp[VT]
  .obtain⟨t,x,e⟩:=hm _ h;subst e;exact hv.uw (λ_ _ h=>h)
 .refine⟨rfl,hr.boxes.gs,λr b x h=>(by cases h),λb h=>(by cases h),zF,λb o hp=>⟨(hr.boxes.gT b o hp).1,λh=>by cases h⟩,λj x h hj=>?_,hr.boxes.apart⟩;obtain⟨n',xs,h1,h2,h3⟩:=hr.boxes.grow j x h hj;exact⟨n',xs,h1,h2,λb hb=>⟨(h3 b hb).1,(λh=>by cases h),(h3 b hb).2.2⟩⟩
def VT.apk{t:Ty}{x:t.den E.D}{v:R0}(h:VT E w G (.dat t x) v)(hp:∀b o,G.pr b o->G'.pr b o)(hc:∀b o u,G.pr b o->w.cell? ⟨b,o,iF⟩=iN u->w'.cell? ⟨b,o,iF⟩=iN u):VT E w' G' (.dat t x) v:=(h.mono (show jc w G w' {G with pr:=G'.pr}from⟨hp,hc,λ_ _ h=>h,λj x y hj=>⟨x,y,hj,eE _,λ_=>rfl⟩⟩)).uw (λ_ _ h=>h)
theorem wpList_step{Q:Exit->Act->U->Prop}{l:J H2}{v:R0}(hg:o.guard=iF)(hrun:(M2 a.eval o).run P w=.ok (.value v) w')(h:Ts P ops Q l (a.put o.dst v) w'):Ts P ops Q (o::l) a w:=by unfold Ts;rw[if_pos (by simp[pC,hg])];left;unfold Oper.wp;rw[hrun];exact h
theorem Ri(ho:o.op=.buildSlice t 1 #[(0,.const (.slice iF 0 0))])(ht:aZ P t=iN ⟨.slice e,j1,j2,z⟩)(hi:aZ P e=iN ie)(hs:ie.size=1)(a:Act)(w:U):
  (M2 a.eval o).run P w=.ok (.value (.slice (iN ⟨w.heap.size,0,iF⟩) 1 1)) (w.alloc (.cells #[.slice iF 0 0] e)):=by
 obtain⟨xt,kI,eL,-⟩:=aS ht;obtain⟨xe,sw,Ci,hsz,-⟩:=aS hi;have ao9:∀base:aJ R0,base.size=1->Instr.fill (λi=>iN (i*1,1)) base [(0,(.slice iF 0 0:R0))]=iN #[.slice iF 0 0]:=by intro base hb;have h:=Qz (k:=1) [(.slice iF 0 0:R0)] 0 base (by intro v hv;simp at hv;subst hv;rfl) (by simp[hb]);have hd:base.toList.drop 1=[]:=Vz (by simp[hb]);simp only[sB,H9]at h;rw[hd]at h;exact h
 simp only[M2,ho,Instr.buildSlice,jF,aW eL,kn,fP sw,hsz,hs];rw[if_neg de,if_neg de];have hf:=ao9 ((Array.range (1*1)).map (ie.zero.cells[· % ie.zero.cells.size]!)) si;simp only[jF,qw,oC hi,kn];have he:(#[(0,Operand.const (.slice iF 0 0))].map λx=>(x.1,a.eval x.2)).toList=[(0,(.slice iF 0 0:R0))]:=by simp[Act.eval]
 rw[he,hf];rfl
theorem Me(n:Nat)(m m2:J (Nat×TV E)):yh n (m++m2)=m2.foldl (λt p=>t.set p.1 p.2) (yh n m):=by simp_all[yh,PK]
theorem ad5(a:Act)(v:R0)(h:j<a.tmps.size):(a.put (iN j) v).eval (.tmp j)=v:=by show(a.put (iN j) v).tmps.getD j H5=v;rw[DX,if_pos ⟨rfl,h⟩]
theorem run_assign{x:dJ}(ho:o.op=.assign x)(a:Act)(w:U):(M2 a.eval o).run P w=.ok (.value (a.eval x)) w:=by simp[M2,ho]
theorem run_move{x:dJ}(ho:o.op=.move x)(a:Act)(w:U):(M2 a.eval o).run P w=.ok (.value (a.eval x)) w:=by simp[M2,ho]
theorem AW.aus{id:Nat}{o0 o1:H2}(oG:ops.toList=[o0,o1]){j6:Nat}(h0:o0.op=.buildSlice t 1 #[(0,.const (.slice iF 0 0))])(g0:o0.guard=iF)(d0:o0.dst=iN j6)
  (h1:o1.op=.assign (.tmp j6)) (g1:o1.guard=iF) (d1:o1.dst=iN j3) (ht:aZ P t=iN ⟨.slice e,j1,j2,z⟩) (hi:aZ P e=iN ie) (hs:ie.size=1) (tR:Ty) {m':J (Nat×TV E)} (hn:j6<n) (OS:G0.i=[])
  (hsub:∀p∈m',(yh n (m++[(j6,.any),(j3,.iU 0 1 1)]))[p.1]? = iN p.2) :
  AW P w0 G0 (.region id ops eK) (SS n m [] []) (λx s=>x=.normal/\s=SS n m' [.mH e 1 (.bx tR) [] (.cz 0 0 tR [])] [⟨0,e2,tR.size E⟩]):=by
 intro a w G hr;refine wp_region_list ?_;rw[oG];have hsz:=hr.size.trans (wB n m);have hGi:=H8 hr.boxes.len;refine wpList_step g0 (Ri h0 ht hi hs a w) ?_;refine wpList_step g1 (run_assign h1 _ _) ?_;rw[d0,ad5 _ _ (by rw[hsz];exact hn)];have r1:=hr.L8 e2 (tR.size E);have ON:=hr.rG
 have r2:=r1.L5 (.cells #[.slice iF 0 0] e) (.mH e 1 (.bx tR) [] (.cz 0 0 tR [])) (by
  refine⟨#[.slice iF 0 0],heap_alloc_new w _,rfl,λi x hx=>(by cases hx),?_,Nat.one_pos⟩
  .exact QC ON e2 tR)
 have r3:=r2.put (v:=.slice (iN ⟨w.heap.size,0,iF⟩) 1 1) (d:=.any) (by simp[VT]) (iN j6)
 have r4:=r3.put (v:=.slice (iN ⟨w.heap.size,0,iF⟩) 1 1) (d:=.iU 0 1 1) (by
  simp_all[VT]) (iN j3)
 rw[d1];refine⟨.normal,_,_,trivial,r4.weak OS (by simp[SS,cE,wB]) (λj d hj=>?_) [],rfl,rfl⟩;rcases y9 hj with h|h
 .exact .inl h
 .right;have:=hsub _ h;rw[Me]at this;exact this
theorem AW.aqq(hE:E.Ok){id:Nat}{o0 o1 o2 o3:H2}(oG:ops.toList=[o0,o1,o2,o3]){j3 Gf Ih P7:Nat}(h0:o0.op=.move (.tmp j3))(g0:o0.guard=iF)(d0:o0.dst=iN Gf)
  (h1:o1.op=.buildSlice t 1 #[(0,.const (.slice iF 0 0))]) (g1:o1.guard=iF) (d1:o1.dst=iN Ih) {cl:Call} (h2:o2.op=.call cl) (hcl:cl.callee=.builtin .append) (ha:cl.args=#[.tmp Gf,.tmp Ih]) (hat:cl.argTypes=#[t,t]) (g2:o2.guard=iF) (d2:o2.dst=iN P7)
  (h3:o3.op=.assign (.tmp P7)) (g3:o3.guard=iF) (d3:o3.dst=iN j3) (ht:aZ P t=iN ⟨.slice e,j1,j2,z⟩) (hi:aZ P e=iN ie) (hs:ie.size=1) (hzs:ie.zero.cells.size=ie.size) (tR:Ty)
  {m0:J (Nat×TV E)} (hm0:anH m0) (hn:Gf<n/\Ih<n/\P7<n/\Gf≠Ih) (OS:G0.i=[])  {xs:J (J (tR.den E.D))} {last:J (tR.den E.D)}
  (hj3:(yh n (m0++[(j3,.iU 0 (Sx xs+1) cap)]))[j3]? = iN (.iU 0 (Sx xs+1) cap)) (hlen:(Sx xs+2)*ie.bytes<=140737488355328) (asH:Sx xs+2<=9223372036854775807)
  (hsub:∀c':Nat,∀p∈m0++[(j3,.iU 0 (Sx xs+2) c')],(yh n ((((m0++[(Gf,.any)])++[(Ih,.any)])++[(P7,.any)])++[(j3,.iU 0 (Sx xs+2) c')]))[p.1]? = iN p.2) (hmd:∀p∈m0,(yh n (m0++[(j3,.iU 0 (Sx xs+1) cap)]))[p.1]? = iN p.2) :
  AW P w0 G0 (.region id ops eK) (SS n (m0++[(j3,.iU 0 (Sx xs+1) cap)]) [.mH e cap (.bx tR) xs (.cz 0 aF tR last)] [⟨aF,e2,tR.size E⟩])
   (λx s=>x=.normal/\∃c',s=SS n (m0++[(j3,.iU 0 (Sx xs+2) c')]) [.mH e c' (.bx tR) (xs++[last]) (.cz 0 (aF+1) tR [])] [⟨aF+1,e2,tR.size E⟩]):=by
 intro a w G hr;refine wp_region_list ?_;rw[oG];have hsz:a.tmps.size=n:=hr.size.trans (wB n _);obtain⟨xt,kI,eL,-⟩:=aS ht;obtain⟨xe,sw,Ci,hsize,hby,hz⟩:=aS hi;have Ge:=hr.tmps j3 _ hj3;simp only[VT]at Ge;obtain⟨b,Ge,anI⟩:=Ge;have hGi:G.i=[b]:=by
  have hl:G.i.length=1:=hr.boxes.len
  match hq:G.i,hl with|[b'],_=>simp_all
 obtain⟨cur,c1,c2,c4,c5,c6⟩:=hr.box (x:=.mH e cap (.bx tR) xs (.cz 0 aF tR last)) anI rfl;have anJ:b<w.heap.size:=(BH.1 c1).1;obtain⟨hd,hrow⟩:=hr.Cp (j:=0) (g:=⟨aF,e2,tR.size E⟩) rfl;have asI:VT E w G (.dat (.bx tR) last) (cur.getD xs.length H5):=by have h5:=c5;simp only[VT]at h5;exact .list h5.1
 have aut:Rel E w0 G0 (SS n m0 [] [⟨aF,e2,tR.size E⟩]) a w {G with i:=[]}:=by
  have h:=hr.weak OS (t':=yh n m0) (by simp[SS,wB]) (λj d hj=>by
   rcases y9 hj with h|h
   .exact .inl h
   .exact .inr (hmd _ h)) []
  exact h.ald OS hm0
 have hpb:∀o,¬ G.pr b o:=λo hp=>(hr.boxes.gT b o hp).2 (by rw[hGi];simp);refine wpList_step g0 (run_move h0 a w) ?_;refine wpList_step g1 (Ri h1 ht hi hs _ w) ?_;obtain⟨a2,tY⟩:∃a2,((a.put o0.dst (a.eval (.tmp j3))).put o1.dst (.slice (iN ⟨w.heap.size,0,iF⟩) 1 1))=a2:=⟨_,rfl⟩;rw[tY];have avL:a2.tmps.size=n:=by grind[Nt]
 have e54:a2.eval (.tmp Ih)=.slice (iN ⟨w.heap.size,0,iF⟩) 1 1:=by rw[<-tY,d1];exact ad5 _ _ (by simp_all[Nt])
 have e53:a2.eval (.tmp Gf)=.slice (iN ⟨b,0,iF⟩) (Sx xs+1) cap:=by rw[<-tY,d1,d0];show((a.put (iN Gf) (a.eval (.tmp j3))).put (iN Ih) _).tmps.getD Gf H5=_;rw[DX,if_neg (λh=>hn.2.2.2 (o4 h.1).symm),DX,if_pos ⟨rfl,by rw[hsz];exact hn.1⟩];exact Ge
 obtain⟨W,hW⟩:∃W,w.alloc (.cells #[.slice iF 0 0] e)=W:=⟨_,rfl⟩;rw[hW];have hbW:W.heap[b]? = iN (.cells cur e (0,0)):=by rw[<-hW,(fI.alloc w _).2 b anJ];exact c1
 have hcW:W.cell? ⟨w.heap.size,0,iF⟩=iN (.slice iF 0 0):=by rw[<-hW,cell_of_row _ w.heap.size 0 _ e (0,0) (heap_alloc_new w _)];rfl
 have hsrc:Src P xe.size t (.slice (iN ⟨w.heap.size,0,iF⟩) 1 1) 1 [.slice iF 0 0] W:=Src.ofSlice W eL _ 1 1 _ (by rw[hsize,hs];rfl) (λj u hj=>by
  match j,hj with|0,hj=>simp at hj;subst hj;exact hcW|j+1,hj=>simp at hj) (λu hu=>by simp at hu;subst hu;rfl)
 have aiu:cur.toList.length=cap:=by rw[<-c2];simp
 have key:∀(c':Nat)(W':World)(cur':Array R0)(b':Nat),(Builtin.append_ #[t,t] o2.type #[.slice (iN ⟨b,0,iF⟩) (Sx xs+1) cap,.slice (iN ⟨w.heap.size,0,iF⟩) 1 1]).run P W=.ok (.slice (iN ⟨b',0,iF⟩) (Sx xs+2) c') W' ->
   (∃G',Rel E w0 G0 (SS n m0 [.mH e c' (.bx tR) (xs++[last]) (.cz 0 (aF+1) tR [])] [⟨aF+1,e2,tR.size E⟩]) a W' G'/\G'.i=[b']) ->
   Ts P ops (cQ E w0 G0 (λx s=>x=.normal/\∃c',s=SS n (m0++[(j3,.iU 0 (Sx xs+2) c')]) [.mH e c' (.bx tR) (xs++[last]) (.cz 0 (aF+1) tR [])] [⟨aF+1,e2,tR.size E⟩])) [o2,o3] a2 W:=by
  intro c' W' cur' b' hrun hG';obtain⟨G',hR,hi'⟩:=hG';refine wpList_step g2 (v:=.slice (iN ⟨b',0,iF⟩) (Sx xs+2) c') (w':=W') ?_ ?_
  .unfold M2;simp only[h2,resolve,hcl,jF,qw,kn,invoke,builtin,ha,hat,List.map_toArray,jb,BI];simp_all
  refine wpList_step g3 (run_assign h3 _ _) ?_;rw[d2,ad5 _ _ (by rw[avL];exact hn.2.2.1),d3,<-tY,d0,d1];have r1:=hR.put (v:=a.eval (.tmp j3)) (d:=.any) (by simp only[VT]) (iN Gf);have r2:=r1.put (v:=.slice (iN ⟨w.heap.size,0,iF⟩) 1 1) (d:=.any) (by simp only[VT]) (iN Ih);have r3:=r2.put (v:=.slice (iN ⟨b',0,iF⟩) (Sx xs+2) c') (d:=.any) (by simp only[VT]) (iN P7)
  have r4:=r3.put (v:=.slice (iN ⟨b',0,iF⟩) (Sx xs+2) c') (d:=.iU 0 (Sx xs+2) c') (by
   simp_all[VT]) (iN j3)
  refine⟨.normal,_,_,trivial,r4.weak OS (t':=yh n (m0++[(j3,.iU 0 (Sx xs+2) c')])) (by simp[SS,cE,wB]) (λj d hj=>?_) [],rfl,c',rfl⟩;rcases y9 hj with h|h
  .exact .inl h
  .right;have:=hsub c' _ h;rw[Me,Me,Me,Me]at this;exact this
 by_cases hroom:Sx xs+1+1<=cap
 .have Ww:(Sx xs+1)*xe.size+1<=cur.size:=by rw[hsize,hs,c2];omega
  have hr':=run_append_room_src (P:=P) W t t o2.type e xe eL sw b 0 (Sx xs+1) cap _ 1 _ hsrc hroom
   (λj hj=>by
    have hj:j<1:=hj;rw[cell_of_row W b _ cur e (0,0) hbW]
    grind)
   (λj hj=>frozen_of_row W b _ cur e hbW)
  rw[sC,Cl b e [.slice iF 0 0] ((Sx xs+1)*xe.size) cur W hbW (by simpa using Ww)]at hr';obtain⟨new,hnew⟩:∃new,(cur.toList.take ((Sx xs+1)*xe.size)++[(.slice iF 0 0:R0)]++cur.toList.drop ((Sx xs+1)*xe.size+[(.slice iF 0 0:R0)].length)).toArray=new:=⟨_,rfl⟩;rw[hnew]at hr';refine key cap (W.setRow b new) new b hr' ?_;have QF:∀q,q<=Sx xs+1->new.getD q H5=if q=Sx xs+1 then .slice iF 0 0 else cur.getD q H5:=by
   intro q hq;rw[Sq,Sq,<-hnew,List.getElem?_toArray,hsize,hs,Sp];have htl:(cur.toList.take (Sx xs+1)).length=Sx xs+1:=by grind
   by_cases h1:q=Sx xs+1
   .simp_all
   grind
  have qq:new.size=cap:=by grind
  have hGr:=hr.grow (fI.alloc w (.cells #[.slice iF 0 0] e)) rfl rfl rfl G.pr (λ_ _ h=>h) (λ_ _ _ h=>h) (λb o hp=>kF (hr.boxes.gT b o hp).1 si);rw[hW]at hGr;have r1:=hGr.Td (x':=⟨aF+1,e2,tR.size E⟩) (hd':=.slice iF 0 0) hrow (KV _) (y5 _) (λc h=>by cases h) (λb hb=>nomatch hb) (λ_ _ _ _ _ _ _ hb=>nomatch hb)
  have r2:=r1.weak OS (t':=yh n m0) (by simp[SS,wB]) (λj d hj=>by
   rcases y9 hj with h|h
   .exact .inl h
   .exact .inr (hmd _ h)) []
  obtain⟨awK,x1,x2,x4,x5,x6⟩:=r2.box (x:=.mH e cap (.bx tR) xs (.cz 0 aF tR last)) anI rfl;rw[hbW]at x1;cases x1;have ON:0<G.g.length:=(fD.1 hrow).1
  have r3:=r2.zU (w':=W.setRow b new) (r:=0) anI si rfl rfl rfl (λb' hb'=>setRow_other W b b' _ hb') (x:=.mH e cap (.bx tR) (xs++[last]) (.cz 0 (aF+1) tR [])) (λhg=>by
   refine⟨new,setRow_heap W b cur _ e _ hbW,qq,λq x hx=>?_,?_,aM⟩
   .have hq:q<Sx xs+1:=by grind
    rw[QF q om,if_neg om];by_cases h1:q<Sx xs
    .rw[xo h1]at hx;exact(x4 q x hx).mono hg
    .obtain rfl:q=Sx xs:=om;simp at hx;subst hx;simp only[VT]at x5;exact(VT.list x5.1).mono hg
   .simp only[ov,sB,H9,sC]
    rw[QF _ (eE _),if_pos rfl];simp only[VT];exact⟨.wM _ _,⟨aF+1,e2,tR.size E⟩,.slice iF 0 0,by simp[ON],eE _,λ_=>rfl⟩)
  exact⟨_,r3.weak OS (t':=yh n m0) rfl (λj d hj=>.inr hj) [],hGi⟩
 .have hlt:cap<Sx xs+1+1:=om;have awu:cap=Sx xs+1:=om;have hfit:=growslice_fits (need:=Sx xs+1+1) (old:=cap) (bytes:=xe.bytes) hlt (by rw[hby];exact hlen);have hfc:(Builtin.firstCells xe.size (Sx xs+1) (.slice (iN ⟨b,0,iF⟩) (Sx xs+1) cap)).run P W.drew=.ok cur.toList.toArray W.drew:=
   run_firstCells_some W.drew xe.size (Sx xs+1) ⟨b,0,iF⟩ (Sx xs+1) cap cur.toList (by simp_all) (λj v hj=>by
    have e1:(W.drew).cell? (Addr.add ⟨b,0,iF⟩ j)=W.cell? ⟨b,j,iF⟩:=by rw[add_lit,sC];rfl
    rw[e1,cell_of_row W b j cur e (0,0) hbW];simpa using hj)
  have hr':=run_append_grow_src (P:=P) W t t o2.type e xe ie.zero eL sw hz (iN ⟨b,0,iF⟩) (Sx xs+1) cap cur.toList hfc _ 1 _ hsrc hlt om hfit;have aiF:=grownCap_ge W (Sx xs+1+1) cap e;generalize grownCap W (Sx xs+1+1) cap e=cap' at hr' aiF;obtain⟨cs,hcs⟩:∃cs,(cur.toList++[(.slice iF 0 0:R0)]).toArray++Builtin.zeroCells ie.zero.cells (cap'-(Sx xs+1+1))=cs:=⟨_,rfl⟩;rw[hcs]at hr';refine key cap' (W.drew.alloc (.cells cs e)) cs W.heap.size hr' ?_;have hcl:cs.toList=(cur.toList++[(.slice iF 0 0:R0)])++(Builtin.zeroCells ie.zero.cells (cap'-(Sx xs+1+1))).toList:=by rw[<-hcs];simp
  have qq:cs.size=cap':=by rw[<-hcs,ahs,size_zeroCells,hzs,hs,aht,ov,aiu];simp_all
  have QF:∀q,q<=Sx xs+1->cs.getD q H5=if q=Sx xs+1 then .slice iF 0 0 else cur.getD q H5:=by intro q hq;rw[Sq,Sq,<-Array.getElem?_toList,hcl];grind
  have d1':=aut.grow (fI.alloc w (.cells #[.slice iF 0 0] e)) rfl rfl rfl G.pr (λ_ _ h=>h) (λ_ _ _ h=>h) (λb o hp=>kF (hr.boxes.gT b o hp).1 si);rw[hW]at d1';have d2':=d1'.Td (x':=⟨aF+1,e2,tR.size E⟩) (hd':=.slice iF 0 0) hrow (KV _) (y5 _) (λc h=>by cases h) (λb hb=>nomatch hb) (λ_ _ _ _ _ _ _ hb=>nomatch hb);have d3':=d2'.grow (w':=W.drew) ⟨eE _,λ_ _=>rfl⟩ rfl rfl rfl G.pr (λ_ _ h=>h) (λ_ _ _ h=>h) (λb o hp=>(d2'.boxes.gT b o hp).1);have ON:0<G.g.length:=(fD.1 hrow).1;have hsame:∀b o u,G.pr b o->w.cell? ⟨b,o,iF⟩=iN u->(W.drew.alloc (.cells cs e)).cell? ⟨b,o,iF⟩=iN u:=λb o u hp hu=>by
   have q1:W.cell? ⟨b,o,iF⟩=iN u:=by rw[<-hW];exact(fI.alloc w _).cell hu
   have q2:(W.drew).cell? ⟨b,o,iF⟩=iN u:=q1;exact(fI.alloc W.drew _).cell q2
  have d4':=d3'.L5 (.cells cs e) (.mH e cap' (.bx tR) (xs++[last]) (.cz 0 (aF+1) tR [])) (by
   refine⟨cs,heap_alloc_new _ _,qq,λq x hx=>?_,?_,aM⟩
   .have hq:q<Sx xs+1:=by grind
    rw[QF q om,if_neg om];by_cases h1:q<Sx xs
    .rw[xo h1]at hx;exact(c4 q x hx).apk (λ_ _ h=>h) hsame
    .obtain rfl:q=Sx xs:=om;simp at hx;subst hx;exact asI.apk (λ_ _ h=>h) hsame
   .simp only[ov,sB,H9,sC]
    rw[QF _ (eE _),if_pos rfl];simp only[VT];exact⟨.wM _ _,⟨aF+1,e2,tR.size E⟩,.slice iF 0 0,by simp[ON],eE _,λ_=>rfl⟩)
  exact⟨_,d4'.weak OS (t':=yh n m0) rfl (λj d hj=>.inr hj) [],rfl⟩
theorem apL{k2:Nat}{tR:Ty}{xs:J (J (tR.den E.D))}{last:J (tR.den E.D)}(hr:Rel E w0 G0 (SS n m [.mH e cap (.bx tR) xs (.cz 0 aF tR last)] [⟨aF,e2,k2⟩]) a w G)
  (hi:G0.i=[]) (hg:G0.g=[]) (hj:(yh n m)[j]? = iN (.iU 0 (Sx xs+1) cap)) :
  ∃G',mj w0 G0 w G'/\mX E w G' [] []/\lS E w G' []/\VT E w G' (.dat (.bx (.bx tR)) (xs++[last])) (a.tmps.getD j H5):=by
 have hv:=hr.tmps j _ hj;obtain⟨b,hv,hat⟩:=hv;obtain⟨cur,c1,c2,c4,c5,c6⟩:=hr.box hat rfl;have anJ:=(BH.1 c1).1;have ev:=hr.fH;have hnew:=ev.sF 0 b (by simp_all) hat;refine⟨⟨[],[],λb' o=>G.pr b' o\/(b'=b/\o<Sx xs+1)⟩,?_,?_,λj c h=>(by cases h),?_⟩
 .refine⟨ev.os,ev.tape,ev.output,ev.size,ev.old,⟨λb o h=>.inl (ev.goes.pr b o h),ev.goes.cells,λr b h=>(by rw[hi]at h;cases h),λj x h hj=>(by rw[hg]at hj;cases hj)⟩,λb' o hb hp=>?_,λr b _ h=>(by cases h),λj x h b hj=>(by cases hj)⟩;rcases hp with hp|⟨rfl,-⟩
  .exact ev.pN b' o hb hp
  .omega
 .refine⟨rfl,rfl,λr b x h=>(by cases h),λb h=>(by cases h),zF,λb' o hp=>⟨?_,λh=>by cases h⟩,λj x h hj=>(by cases hj),λj j' x h x' h' b hj=>(by cases hj)⟩;rcases hp with hp|⟨rfl,-⟩
  .exact(hr.boxes.gT b' o hp).1
  .exact anJ
 .rw[hv];refine .list ?_;have hl:((xs++[last]).map (Ty.cells E (.bx tR))).length=Sx xs+1:=by simp
  have hD:∀q,q<Sx xs+1->VT E w G (.dat (.bx tR) ((xs++[last]).getD q [])) (cur.getD q H5):=by
   intro q hq;by_cases h1:q<Sx xs
   .simp_all
   .obtain rfl:q=Sx xs:=om;rw[show(xs++[last]).getD xs.length []=last by simp];exact .list c5.1
  have:=Qv (w:=w) (pr:=λb' o=>G.pr b' o\/(b'=b/\o<Sx xs+1)) (b:=b) (cap:=cap) (k:=1) (xs:=cur.toList.take (Sx xs+1)) (by rw[hl];omega)
   (λq hq=>by
    grind[cell_of_row])
   ⟨by grind,λq hq=>by
    have:q<(xs++[last]).length:=by simpa using hq
    simp only[List.getD,MO,fT this];rfl,λq l hq hl'=>by
    rw[hl]at hq;obtain rfl:l=0:=om;have h2:q<(xs++[last]).length:=by simpa using hq
    have h3:=((hD q hq).atom rfl).uS;have e1:(cur.toList.take (Sx xs+1)).getD (q*1+0) H5=cur.getD q H5:=by simp_all
    have e2:((((xs++[last]).map (Ty.cells E (.bx tR))).getD q []).getD 0 default)=.slice (tR.size E) (((xs++[last]).getD q []).map (tR.cells E)):=by simp only[List.getD,MO,fT h2];rfl
    rw[e1,e2];exact h3.mono (λ_ _ h=>.inl h) (λ_ _ _ _ h=>h)⟩
  rw[hl]at this;exact this
def opsOf:Code->aJ H2|.region _ ops _=>ops|_=>#[]
def asJ:Code->Nat|.region i _ _=>i|_=>0
theorem AW.arw(e2:aK){j6:Nat}(hc:c=.region (asJ c) (opsOf c) eK)
  (oG:(opsOf c).toList.map (λo=>(o.dst,o.op,o.guard))=[(iN j6,.buildSlice t 1 #[(0,.const (.slice iF 0 0))],iF),(iN j3,.assign (.tmp j6),iF)]) (ht:aZ P t=iN ⟨.slice e,j1,j2,z⟩) (hi:aZ P e=iN ie) (hs:ie.size=1) (tR:Ty) {m':J (Nat×TV E)} (hn:j6<n) (OS:G0.i=[])
  (hsub:∀p∈m',(yh n (m++[(j6,.any),(j3,.iU 0 1 1)]))[p.1]? = iN p.2) :
  AW P w0 G0 c (SS n m [] []) (λx s=>x=.normal/\s=SS n m' [.mH e 1 (.bx tR) [] (.cz 0 0 tR [])] [⟨0,e2,tR.size E⟩]):=by
 obtain⟨o0,l1,h0,f0,oG⟩:=Sr.1 oG;obtain⟨o1,l2,h1,f1,oG⟩:=Sr.1 oG;have h2:=List.map_eq_nil_iff.1 oG;subst h2 h1;simp at f0 f1;rw[hc];exact AW.aus h0 f0.2.1 f0.2.2 f0.1 f1.2.1 f1.2.2 f1.1 ht hi hs tR hn OS hsub
theorem AW.amv(hE:E.Ok){j3 Gf Ih P7:Nat}{cl:Call}(hc:c=.region (asJ c) (opsOf c) eK)
  (oG:(opsOf c).toList.map (λo=>(o.dst,o.op,o.guard))=[(iN Gf,.move (.tmp j3),iF),(iN Ih,.buildSlice t 1 #[(0,.const (.slice iF 0 0))],iF),(iN P7,.call cl,iF),(iN j3,.assign (.tmp P7),iF)])
  (hcl:cl.callee=.builtin .append) (ha:cl.args=#[.tmp Gf,.tmp Ih]) (hat:cl.argTypes=#[t,t]) (ht:aZ P t=iN ⟨.slice e,j1,j2,z⟩) (hi:aZ P e=iN ie) (hs:ie.size=1) (hzs:ie.zero.cells.size=ie.size) (tR:Ty)
  {m0:J (Nat×TV E)} (hm0:anH m0) (hn:Gf<n/\Ih<n/\P7<n/\Gf≠Ih) (OS:G0.i=[])  {xs:J (J (tR.den E.D))} {last:J (tR.den E.D)}
  (hj3:(yh n (m0++[(j3,.iU 0 (Sx xs+1) cap)]))[j3]? = iN (.iU 0 (Sx xs+1) cap)) (hlen:(Sx xs+2)*ie.bytes<=140737488355328) (asH:Sx xs+2<=9223372036854775807)
  (hsub:∀c':Nat,∀p∈m0++[(j3,.iU 0 (Sx xs+2) c')],(yh n ((((m0++[(Gf,.any)])++[(Ih,.any)])++[(P7,.any)])++[(j3,.iU 0 (Sx xs+2) c')]))[p.1]? = iN p.2) (hmd:∀p∈m0,(yh n (m0++[(j3,.iU 0 (Sx xs+1) cap)]))[p.1]? = iN p.2) :
  AW P w0 G0 c (SS n (m0++[(j3,.iU 0 (Sx xs+1) cap)]) [.mH e cap (.bx tR) xs (.cz 0 aF tR last)] [⟨aF,e2,tR.size E⟩])
   (λx s=>x=.normal/\∃c',s=SS n (m0++[(j3,.iU 0 (Sx xs+2) c')]) [.mH e c' (.bx tR) (xs++[last]) (.cz 0 (aF+1) tR [])] [⟨aF+1,e2,tR.size E⟩]):=by
 obtain⟨o0,l1,h0,f0,oG⟩:=Sr.1 oG;obtain⟨o1,l2,h1,f1,oG⟩:=Sr.1 oG;obtain⟨o2,l3,h2,f2,oG⟩:=Sr.1 oG;obtain⟨o3,l4,h3,f3,oG⟩:=Sr.1 oG;have h4:=List.map_eq_nil_iff.1 oG;subst h4 h3 h2 h1;simp at f0 f1 f2 f3;rw[hc];exact AW.aqq hE h0 f0.2.1 f0.2.2 f0.1 f1.2.1 f1.2.2 f1.1 f2.2.1 hcl ha hat f2.2.2 f2.1 f3.2.1 f3.2.2 f3.1 ht hi hs hzs tR hm0 hn OS hj3 hlen asH hsub hmd
theorem AW.sub{m':J (Nat×TV E)}(hi:G0.i=[])(hs:∀p∈m',(yh n m)[p.1]? = iN p.2)(h:AW P w0 G0 c (SS n m' H g) Q):AW P w0 G0 c (SS n m H g) Q:=λa w G hr=>
 h a w G (hr.weak hi (by simp[SS,wB]) (λj d hj=>by
  rcases y9 hj with h|h
  .exact .inl h
  .exact .inr (hs _ h)) [])
theorem Rel.au9{m':J (Nat×TV E)}(hi:G0.i=[])(hs:∀p∈m',(yh n m)[p.1]? = iN p.2)(h:Rel E w0 G0 (SS n m H g) a w G):Rel E w0 G0 (SS n m' H g) a w G:=
 h.weak hi (by simp[SS,wB]) (λj d hj=>by
  rcases y9 hj with h|h
  .exact .inl h
  .exact .inr (hs _ h)) []
def avM(m:J (Nat×TV E)):Prop:=∀p∈m,(∃t x,p.2=.dat t x)\/∃r n cap,p.2=.iU r n cap
theorem Rel.amt{T tR:Ty}{xs:J (T.den E.D)}{last:J (tR.den E.D)}{g0:cU}{gs:J cU}(hr:Rel E w0 G0 (SS n m [.mH e cap T xs (.cz 0 aF tR last)] (g0::gs)) a w G)(hg:G0.g=[])(hm:avM m):
  Rel E w0 G0 (SS n m [.mH e cap T xs (.cz 0 aF tR last)] [g0]) a w {G with g:=G.g.take 1}:=by
 have ev:=hr.fH;have hsub:∀(j:Nat) y,(G.g.take 1)[j]? = iN y->G.g[j]? = iN y:=λj y h=>by grind
 refine⟨⟨ev.os,ev.tape,ev.output,ev.size,ev.old,⟨ev.goes.pr,ev.goes.cells,ev.goes.i,λj x h hj=>(by rw[hg]at hj;cases hj)⟩,ev.pN,ev.sF,λj x h b hj hb=>ev.iB j x h b (hsub j _ hj) hb⟩,hr.size,λj d hj=>?_,hr.ad4,?_,hr.fix,hr.pins,λj c h=>(by cases h)⟩
 .have hv:=hr.tmps j d hj;rcases y9 hj with rfl|h
  .simp[VT]
  .rcases hm _ h with⟨t,x,e⟩|⟨r,n,cap,e⟩
   .subst e;exact hv.uw (λ_ _ h=>h)
   simp_all[VT]
 .refine⟨hr.boxes.len,?_,λr b x hb hx=>?_,hr.boxes.lt,hr.boxes.nodup,hr.boxes.gT,λj x h hj=>?_,λj j' x h x' h' b hj hj'=>hr.boxes.apart j j' x h x' h' b (hsub j _ hj) (hsub j' _ hj')⟩
  .have:=hr.boxes.gs;rw[List.map_take,this];rfl
  .have h:=hr.boxes.box r b x hb hx;cases r with
   | succ r=>simp[SS]at hx|zero=>simp[SS]at hx;subst hx;obtain⟨cur,c1,c2,c4,c5,c6⟩:=h;refine⟨cur,c1,c2,λi x hx=>(c4 i x hx).uw (λ_ _ h=>h),?_,c6⟩;simp_all[VT,abo]
  .obtain⟨n',xs',h1,h2,h3⟩:=hr.boxes.grow j x h (hsub j _ hj);exact⟨n',xs',h1,h2,h3⟩
