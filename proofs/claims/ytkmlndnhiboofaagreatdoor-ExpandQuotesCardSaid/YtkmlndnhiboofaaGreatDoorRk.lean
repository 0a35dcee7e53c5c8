import Derived.Test.YtkmlndnhiboofaaGreatDoorRh
import Derived.Lib.LaidTab
import Derived.Shelf.Strconv.Itoa3
import Derived.OpenShut
import Derived.RowKit
import Derived.Sort.KeysCollected
import Derived.Sort.OwnSorted
import Derived.Lib.Join
import Derived.Lib.Split
import Derived.Lib.LastIndexByte
import Derived.Lib.IndexAny
import Derived.Lib.Repeat
open Option renaming some->W0,none->WP
open Bool renaming true->WF,false->UV
open Decidable renaming decide->T1
open Nat renaming beq->ST
open List renaming range->R0,replicate->RK
set_option linter.all false
namespace Go.RT
variable {E : TEnv}
variable{X:Cx E}{w:U}{P:bh}{f:FuncId}{fn:Func}{G:bx}{ds:J (TV E)}{F:Nat}{pl:dQ}{C:bJ E}{args:aJ Value}{n:Nat}
theorem enters_of{c:Code}(hf:P.funcs[f]? = W0 fn)(hb:fn.body=W0 c)(hn:(fn.name == "runtime.NumGoroutine")=UV):∀args w,(callFunc f args).run P w=.ok (.enter f args) w:=λargs w=>by
 simp only[callFunc,jm,run_program,jL,hf,hn,hb];simp
def OP(X:Cx E)(s:di)(fn:Func)(bP:TS E):(p:O Outs)->O (TV E)->TS E->O (OutP E s.out p)
 | none,WP,st=>(qp X st fn.results.toList).bind λds=>s.out.get bP st (qT ds)
 | some q,WP,st=>X4 ((qp X st fn.results.toList).bind λds=>s.out.get bP st (qT ds))
 | some q,W0 d,st=>zR (q.get bP st d)
 | none,W0 _,_=>WP
def asz(X:Cx E)(D:Dx E)(s:di)(fn:Func)(bP:TS E)(p:O Outs):Ex E->TS E->O (OutP E s.out p)
 | .ret,st=>DS D (OP X s fn bP p) st.df WP st
 | .normal,st=>DS D (OP X s fn bP p) st.df WP st
 | .panic d,st=>DS D (OP X s fn bP p) st.df (W0 d) st
 | _,_=>WP
noncomputable def agu(X:Cx E)(D:Dx E)(F:Nat)(s:di)(fn:Func)(pl:dQ)(x:dens E s.tys):O (OutP E s.out s.lY):=
 match fn.body with
 | some c=>runT X F c pl (s.bP fn.ntmps (aR s.tys x)) (asz X D s fn (s.bP fn.ntmps (aR s.tys x)) s.lY)
 | none=>WP
theorem kA.ana{ds:J Deferred}(h:kA E w G ds []):ds=[]:=by
 cases ds with
 | nil=>rfl
 | cons _ _=>exact h.elim
theorem anb(hX:X.Ok){s:di}{w0:World}{G0:bx}{bP st jK:TS E}{W:J Nat}{tmps:Array Value}{mv:J Deferred}{u:FrameMode}{m:Option (TV E)}(hpre:Pre G0 bP)(RC:bP.d=[])(abn:bP.df=[])
  (hr:Rel E w0 G0 {st with df:=me m} {tmps:=tmps,defers:=mv} w G) (hm:Qy m mv u) (hF:Fr W UV bP st):∀(p:Option Outs)(y:OutP E s.out p),OP X s fn bP p m {st with df:=[]} = W0 y ->
   Leaves X.P fn tmps (zF E w0 G0 (match p,y with|none,y=>s.out.mO WF bP.H bP.g (aR s.out.tys y)|some q,.inl y=>s.out.mO WF bP.H bP.g (aR s.out.tys y)|some q,.inr y=>q.mO UV bP.H bP.g (aR q.tys y))) [] u w:=by
 have hr':=hr.UX (y:=[]) (ds:=[]) trivial;have hF':Fr W UV bP {st with df:=[]}:=hF.trans (Fr.agt st [] W) (λ_ h=>h) (λ_ h=>h) (λh=>nomatch h)
 have hok:∀ {y:dens E s.out.tys},((qp X {st with df:=[]} fn.results.toList).bind λds=>s.out.get bP {st with df:=[]} (qT ds))=W0 y ->
   ∃v,(results fn tmps).run X.P w=.ok v w/\zF E w0 G0 (s.out.mO WF bP.H bP.g (aR s.out.tys y)) (.returned v) w:=by
  intro y hy
  cases hds:qp X {st with df:=[]} fn.results.toList with
  | none=>rw[hds]at hy;cases hy
  | some ds=>
   rw[hds]at hy;obtain⟨v,hv,hrun⟩:=AB hX hr' hds;obtain⟨G2,q1,q2,q3,q4,q5⟩:=Outs.G6 hX.E hpre RC abn.symm hr' hF' hv hy;exact⟨v,hrun,v,G2,rfl,q1,q2,q3,q4,q5⟩
 intro p y hk
 cases hm with
 | ret=>
  cases p with
  | none=>exact hok hk
  | some q=>
   obtain⟨y',hy,rfl⟩:=LI hk
   exact hok hy
 | lY d v=>
  cases p with
  | none=>cases hk
  | some q=>
   obtain⟨y',hy,rfl⟩:=OJ hk
   have hv:VT E w G d v:=by
    obtain⟨akA,-⟩:=hr.defers;obtain⟨-,cap',ht',jz⟩:=akA.resolve_right (λhh=>absurd (show(0:Nat)=AZ from hh.1) de);obtain⟨u1,us,he,h1,-⟩:=jz.cons_inv
    simp_all
   obtain⟨G2,q1,q2,q3,q4,q5⟩:=Outs.G6 hX.E hpre RC abn.symm hr' hF' hv hy;exact⟨v,G2,rfl,q1,q2,q3,q4,q5⟩
theorem adp(hX:X.Ok){D:Dx E}(hD:D.Ok X.P){s:di}{x:dens E s.tys}{y:OutP E s.out s.lY}(hf:X.P.funcs[s.f]? = W0 fn)(hn:(fn.name == "runtime.NumGoroutine")=UV)(h:agu X D F s fn pl x=W0 y):
  lK X.P s.f (s.ds (aR s.tys x)) (s.H (aR s.tys x)) s.g0 (s.c (aR s.tys x)) (gY s (s.H (aR s.tys x)) s.lY y):=by
 unfold agu at h;split at h<;>try trivial
 rename_i c hb;intro w G args hP hB hS hV;have Gw:=Rel.init (n:=fn.ntmps) hP hB hS hV;have hpre:=Gw.pre;refine ud hf hb hn (calls_of_wp_defers hf hb (wp_mono ((ur hX c pl h).wp Gw) λe a' w' hp=>?_));obtain⟨ex,st,G',he,hr,hk,hF⟩:=hp;have hlen:=kA.len hr.defers;have Uz:Fr (wr c) UV (s.bP fn.ntmps (aR s.tys x)) st:=hF.wide (λ_ h=>h) (λh=>nomatch h)
 have main:∀(m:Option (TV E))(mv:J Deferred)(u:FrameMode),Qy m mv u->kA E w' G' mv (me m)->DS D (OP X s fn (s.bP fn.ntmps (aR s.tys x)) s.lY) st.df m st=W0 y ->
   Leaves X.P fn a'.tmps (λe w'=>∃v G',e=Di (gY s (s.H (aR s.tys x)) s.lY y).ok v/\kT w G w' G'/\lW E w' G' (gY s (s.H (aR s.tys x)) s.lY y).H (gY s (s.H (aR s.tys x)) s.lY y).g/\kN E w' G' (gY s (s.H (aR s.tys x)) s.lY y).c /\
   VT E w' G' (gY s (s.H (aR s.tys x)) s.lY y).d v/\∀(q b:Nat),G.i[q]? = W0 b->q∉(gY s (s.H (aR s.tys x)) s.lY y).D->w'.heap[b]? = w.heap[b]?) a'.defers u w':=by
  intro m mv u hm T9 hk
  have asA:kA E w' G' (a'.defers++mv) (st.df++me m):=by
   have key:∀(a:J Deferred)(x:J (FuncId×J (TV E))),kA E w' G' a x->kA E w' G' (a++mv) (x++me m):=by
    intro a
    induction a with
    | nil=>intro x h;cases x with
     | nil=>exact T9
     | cons _ _=>exact h.elim
    | cons d a ih=>intro x h;cases x with
     | nil=>exact h.elim
     | cons z x=>exact⟨h.1,ih x h.2⟩
   exact key _ _ hr.defers
  refine G8 hX.E hD st.df m st a'.defers mv u w' G' hk hlen (hr.UX asA) hm λm' st' mv' u' w2 G2 h1 h2 h3 rD=>?_;have hF3:Fr (wr c) UV (s.bP fn.ntmps (aR s.tys x)) st':=Uz.trans rD (λ_ h=>h) (λ_ h=>by cases h) (λh=>nomatch h);have:=anb hX (jK:=st) hpre rfl rfl h2 h3 hF3 s.lY y h1;exact this
 cases ex<;>cases e<;>try (exact he.elim)
 ·exact main WP [] .returning .ret trivial hk
 ·cases hk
 ·cases hk
 ·exact main WP [] .returning .ret trivial hk
 ·rename_i d ch
  obtain⟨v,rfl,hv⟩:=he;exact main (W0 d) _ _ (.lY d v) ⟨.inl ⟨rfl,#[],rfl,.cons hv .nil⟩,trivial⟩ hk
theorem bJ.aps(hX:X.Ok){D:Dx E}(hD:D.Ok X.P)(hf:X.P.funcs[C.s.f]? = W0 fn)(hn:(fn.name == "runtime.NumGoroutine")=UV)(h:∀x,agu X D F C.s fn pl x=C.m x):C.Ok X.P:=
 λx y hy=>adp hX hD hf hn (by rw[h x];exact hy)
theorem goN{I:Inv}:∀C∈([]:J (bJ E)),C.GY I:=λ_ h=>nomatch h
theorem goC{I:Inv}{C:bJ E}{Γ:J (bJ E)}(h:C.GY I)(hs:∀C∈Γ,C.GY I):∀C'∈C::Γ,C'.GY I:=λC' hC=>by
 grind
def abo:J Oper->O (Nat×Nat)
 | [o1,o2]=>match o1.op,o1.dst,o1.guard,o2.op,o2.dst,o2.guard with
  | .call c,W0 i,WP,.assign (.tmp i'),W0 j,WP=>match c.callee with
   | .builtin .recover=>cond (ST i i'&&ST c.args.size 0) (W0 (i,j)) WP
   | _=>WP
  | _,_,_,_,_,_=>WP
 | _=>WP
def di.MC(s:di)(n i j:Nat)(ls:J (Lf E)):TS E:=match s.ds ls with
 | m::ds=>{(⟨(Bw n ds).set i m,s.H ls,s.g0,[],[],s.c ls⟩:TS E)with t:=cz ((Bw n ds).set i m) (W0 j) ((⟨(Bw n ds).set i m,s.H ls,s.g0,[],[],s.c ls⟩:TS E).ev (.tmp i))}
 | []=>s.bP n ls
noncomputable def akB(X:Cx E)(F:Nat)(s:di)(fn:Func)(pl:dQ)(x:dens E s.tys):O (OutP E s.out s.lY):=
 match fn.body with
 | some (.seq (.region _ ops UV) rest)=>match abo ops.toList with
  | some (i,j)=>rq (jo rest&&s.lY.isNone) (runT X F rest pl (s.MC fn.ntmps i j (aR s.tys x)) (nX X s fn (s.MC fn.ntmps i j (aR s.tys x)) s.lY))
  | none=>WP
 | _=>WP
theorem adq{ops:aJ Oper}{i j:Nat}(h:abo ops.toList=W0 (i,j)):∃o1 o2 c,ops=#[o1,o2]/\o1.op=.call c/\c.callee=.builtin .recover/\c.args=#[]/\o1.dst=W0 i/\o1.guard=WP/\o2.op=.assign (.tmp i)/\o2.dst=W0 j/\o2.guard=WP:=by
 unfold abo at h;split at h<;>try trivial
 split at h<;>try trivial
 rename_i c i0 i1 j0 h1 h2 h3 h4 h5 h6;split at h<;>try trivial
 cases hh:(ST i0 i1&&ST c.args.size 0)<;>rw[hh]at h<;>simp only[aY,aM]at h
 ·cases h
 grind[Nat.eq_of_beq_eq_true]
theorem Rel.K3{H:J (fK E)}{g:J cL}{cs:J (Nat×Cn E)}(hP:qf E w G)(hB:lW E w G H g)(hS:kN E w G cs)(hV:bI E w G ds args.toList):
  Rel E w G ⟨Bw n ds,H,g,[],[],cs⟩ {tmps:=args++Array.replicate (n-args.size) undef,defers:=[]} w G:=by
 have hl:args.size=ds.length:=by simpa using hV.length
 refine⟨kT.refl w G,?_,λj d hj=>?_,trivial,hB,λ_ _ _ _=>rfl,hP,hS⟩
 ·simp[Bw,hl]
 ·unfold Bw at hj
  by_cases hlt:j<ds.length
  ·rw[vP hlt]at hj
   obtain⟨u,hu,hv⟩:=hV.get j hj
   simp_all[alR]
  grind[List.mem_of_getElem?,VT]
theorem bJ.abp(hX:X.Ok)(hf:X.P.funcs[C.s.f]? = W0 fn)(hn:(fn.name == "runtime.NumGoroutine")=UV)(h:∀x,akB X F C.s fn pl x=C.m x):C.GY (DR X.P):=by
 intro x y hy;have h1:akB X F C.s fn pl x=W0 y:=by rw[h x];exact hy
 unfold akB at h1;split at h1<;>try trivial
 rename_i id ops rest hb;split at h1<;>try trivial
 rename_i i j asB;obtain⟨hnp,h1⟩:=dX h1;rw[cH]at hnp;obtain⟨hnd,ato⟩:=hnp;obtain⟨o1,o2,c,rfl,ho1,akr,Ov,X5,hg1,ho2,X6,hg2⟩:=adq asB;intro w G amc hP hB hS hV;refine⟨enters_of hf hb hn,λv args u hva hmo=>?_⟩;rw[hva]at hV;generalize hds:C.s.ds (aR C.s.tys x)=dd at hV h1
 cases dd with
 | nil=>simp_all[bI]
 | cons m ds=>
 obtain⟨v',us,he,hvm,hvs⟩:=hV.cons_inv;cases he
 have hst:C.s.MC fn.ntmps i j (aR C.s.tys x)={(⟨(Bw fn.ntmps ds).set i m,C.s.H (aR C.s.tys x),C.s.g0,[],[],C.s.c (aR C.s.tys x)⟩:TS E)with t:=cz ((Bw fn.ntmps ds).set i m) (W0 j) ((⟨(Bw fn.ntmps ds).set i m,C.s.H (aR C.s.tys x),C.s.g0,[],[],C.s.c (aR C.s.tys x)⟩:TS E).ev (.tmp i))}:=by
  unfold di.MC;rw[hds]
 have Gw:=Rel.K3 (n:=fn.ntmps) hP hB hS hvs;have eX:Rel E w G ⟨(Bw fn.ntmps ds).set i m,C.s.H (aR C.s.tys x),C.s.g0,[],[],C.s.c (aR C.s.tys x)⟩ _ w G:=Gw.put hvm (W0 i);have hr2:=eX.put (eX.ev (.tmp i)) (W0 j);have apt:Rel E w G (C.s.MC fn.ntmps i j (aR C.s.tys x)) ((({tmps:=args++Array.replicate (fn.ntmps-args.size) undef,defers:=[]}:Act).put (W0 i) v).put (W0 j) ((({tmps:=args++Array.replicate (fn.ntmps-args.size) undef,defers:=[]}:Act).put (W0 i) v).eval (.tmp i))) w G:=by rw[hst];exact hr2
 have hpre:=apt.pre;refine callsD_of_wpS hf hb λc₀ cs hu=>?_;apply wpS_seq;apply wpS_region;have UC:R0 (#[o1,o2]:aJ Oper).size=[0,1]:=rfl;rw[UC]
 have go:∀(u':FrameMode),settle u'=.returning->wpOpsS X.P #[o1,o2] (Exit.thenS (rest.wpS X.P (bodyPostS X.P fn c₀ cs λe u' w'=>settle u'=.returning/\zF E w G (gY C.s (C.s.H (aR C.s.tys x)) C.s.lY y) e w')) (bodyPostS X.P fn c₀ cs λe u' w'=>settle u'=.returning/\zF E w G (gY C.s (C.s.H (aR C.s.tys x)) C.s.lY y) e w')) [1]
   (({tmps:=args++Array.replicate (fn.ntmps-args.size) undef,defers:=[]}:Act).put o1.dst v) ({c₀ with mode:=u'} :: cs) w:=by
  intro u' mN;rw[X5];have AQ:Region.wanted o2 (yielded #[o1,o2] (({tmps:=args++Array.replicate (fn.ntmps-args.size) undef,defers:=[]}:Act).put (W0 i) v).tmps)=WF:=by simp[Region.wanted,hg2]
  have aqW:(execOp (({tmps:=args++Array.replicate (fn.ntmps-args.size) undef,defers:=[]}:Act).put (W0 i) v).eval o2).run X.P w=.ok (.value ((({tmps:=args++Array.replicate (fn.ntmps-args.size) undef,defers:=[]}:Act).put (W0 i) v).eval (.tmp i))) w:=by
   simp[execOp,ho2]
  have e1:(#[o1,o2]:aJ Oper)[1]? = W0 o2:=rfl;simp only[wpOpsS,e1,AQ,if_true,aqW,Oper.upon,Exit.thenS];rw[X6];refine wpS_of_wp (wp_mono ((ur hX rest pl h1).wp apt) λe a' w' hp=>?_);obtain⟨ex,st,G',he,hr,hk,hF⟩:=hp;have RC:(C.s.MC fn.ntmps i j (aR C.s.tys x)).d=[]:=by rw[hst]
  have abn:(C.s.MC fn.ntmps i j (aR C.s.tys x)).df=[]:=by rw[hst]
  have hH0:(C.s.MC fn.ntmps i j (aR C.s.tys x)).H=C.s.H (aR C.s.tys x):=by rw[hst]
  have hg0:(C.s.MC fn.ntmps i j (aR C.s.tys x)).g=C.s.g0:=by rw[hst]
  have hdf:st.df=[]:=(hF.df hnd).trans abn
  have Ju:a'.defers=[]:=by
   have:=hr.defers
   grind[kA.ana]
  have fin:∀(p:O Outs)(y:OutP E C.s.out p),p.isNone=WF->nX X C.s fn (C.s.MC fn.ntmps i j (aR C.s.tys x)) p ex st=W0 y ->
    bodyPostS X.P fn c₀ cs (λe u' w'=>settle u'=.returning/\zF E w G (gY C.s (C.s.H (aR C.s.tys x)) p y) e w') e a' ({c₀ with mode:=u'} :: cs) w':=by
   intro p y hp hk
   cases p with
   | some q=>cases hp
   | none=>
    have okc:OM X C.s fn (C.s.MC fn.ntmps i j (aR C.s.tys x)) st=W0 y ->
      ∃v,(results fn a'.tmps).run X.P w'=.ok v w'/\zF E w G (gY C.s (C.s.H (aR C.s.tys x)) WP y) (.returned v) w':=by
     intro hy;unfold OM at hy;obtain⟨G3,W3,hr,hF,akw⟩:=aef (s:=C.s) (fn:=fn) hpre hr hF;generalize G5 C.s fn (C.s.MC fn.ntmps i j (aR C.s.tys x)) (wQ 0 C.s.out.boxes st)=st3 at *
     cases hds:qp X st3 fn.results.toList with
     | none=>rw[hds]at hy;cases hy
     | some ds=>
      rw[hds]at hy;obtain⟨v,hv,hrun⟩:=AB hX hr hds;obtain⟨G2,q1,q2,q3,q4,q5⟩:=Outs.G6 hX.E (ok:=WF) hpre RC ((akw.trans hdf).trans abn.symm) hr hF hv hy;rw[hH0,hg0]at q2 q3 q4;exact⟨v,hrun,v,G2,rfl,q1,q2,q3,q4,q5⟩
    cases ex<;>cases e<;>try (exact he.elim)
    ·obtain⟨v,hrun,h2⟩:=okc hk;exact⟨Ju,u',rfl,v,hrun,mN,h2⟩
    ·cases hk
    ·cases hk
    ·obtain⟨v,hrun,h2⟩:=okc hk;exact⟨Ju,u',rfl,v,hrun,mN,h2⟩
    ·cases hk
  simp_all
 have hw1:Region.wanted o1 (yielded #[o1,o2] ({tmps:=args++Array.replicate (fn.ntmps-args.size) undef,defers:=[]}:Act).tmps)=WF:=by simp[Region.wanted,hg1]
 have aqX:(execOp ({tmps:=args++Array.replicate (fn.ntmps-args.size) undef,defers:=[]}:Act).eval o1).run X.P w=.ok .recover w:=by
  simp[execOp,ho1,resolve,akr,Ov,invoke,go_sem]
 have e0:(#[o1,o2]:aJ Oper)[0]? = W0 o1:=rfl;rw[wpOpsS];simp only[e0,hw1,if_true,aqX];rcases hmo with⟨rfl,rfl⟩|rfl
 ·have hrd:recoverD (c₀::cs)=WP:=by simp[recoverD,hu]
  rw[hrd];have hc0:({c₀ with mode:=.returning}:Frame)=c₀:=by rw[<-hu]
  have:=go .returning rfl
  simp_all
 ·have hrd:recoverD (c₀::cs)=W0 (v,{c₀ with mode:=.panicking [{v:=v,recovered:=WF}]} :: cs):=by simp[recoverD,hu]
  rw[hrd];exact go _ rfl
theorem lW.grown{w':U}{H:J (fK E)}{gs:J cL}{cs:J (Nat×Cn E)}(hP:qf E w G)(hB:lW E w G H gs)(hS:kN E w G cs)(hs:fh w w')(h1:w'.os=w.os)(h2:w'.tape=w.tape)(h3:w'.output=w.output):
  kT w G w' G/\lW E w' G H gs/\kN E w' G cs/\∀(q b:Nat),G.i[q]? = W0 b->w'.heap[b]? = w.heap[b]?:=by
 have hr:=Rel.K3 (n:=0) hP hB hS .nil;have hr':=hr.grow hs h1 h2 h3 G.pr (λ_ _ h=>h) (λ_ _ _ h=>h) (λb o hp=>jS (hB.gu b o hp).1 hs.1);exact⟨hr'.ff,hr'.boxes,hr'.gv,λq b hq=>hr'.fix q b hq si⟩
theorem qd(hf:P.funcs[f]? = W0 fn)(hb:fn.body.isSome=WF)(hn:(fn.name == "runtime.NumGoroutine")=UV):∀args w,(callFunc f args).run P w=.ok (.enter f args) w:=by
 grind[Option.isSome_iff_exists,Go.RT.enters_of]
def pO(F:Nat)(n:Int):O (J UInt8):=rq (T1 (-9223372036854775808<=n)&&T1 (n<=9223372036854775807)) (W0 (Lib.itoa n))
def aqY(f:FuncId):di:=⟨f,[.one (.dat (.int .i64))],[],[],⟨.one (.dat .str),[],[],[]⟩,WP,[]⟩
def amd(E:TEnv)(f:FuncId)(F:Nat):bJ E:=⟨aqY f,λ(x:Int)=>pO F x⟩
theorem YG{name:String}{k:eH}{zs:J Int}{g:Nat}(hP:qf E w G)(hg:P.globalNamed name=W0 g)
  (he:E.gb g=W0 (λcs=>cs=(zs.map λz=>Value.int k z).toArray)):Lib.TabIs P w name k zs:=by
 obtain⟨cs,t,m,this,rfl⟩:=(hP g _ he).1;simp[Lib.TabIs,World.var?,hg,this]
theorem anc(he:∀args w,(callFunc f args).run P w=.ok (.enter f args) w)(hT:∀w G,qf E w G->Lib.TabIs P w "internal/strconv.uint64pow10" .u64 Lib.pow10Tab)
  (hC:∀(n:Int),-9223372036854775808<=n->n<=9223372036854775807->∀(w:U),Lib.TabIs P w "internal/strconv.uint64pow10" .u64 Lib.pow10Tab ->
   Calls P f #[.int .i64 n] w λe w'=>e=.returned (.string ⟨(Lib.itoa n).toArray⟩)/\∃k os,w'=Go.Sort.grow (w.drewN k) os) (F:Nat):(amd E f F).Ok P:=by
 have key:∀(n:Int),-9223372036854775808<=n->n<=9223372036854775807->lK (E:=E) P f [.dat (.int .i64) n] [] [] [] ⟨WF,.dat .str (Lib.itoa n),[],[],[],[]⟩:=by
  intro n h0 h1 w G args hP hB hS hv;obtain⟨u,us,ha,vr,ri⟩:=hv.cons_inv;have e1:=vr.fT;subst e1 ri;have ha:args=#[.int .i64 n]:=by grind
  subst ha;unfold kB;rw[he];refine Gr (hC n h0 h1 w (hT w G hP)) λe w' hh=>?_;obtain⟨rfl,k,os,rfl⟩:=hh
  have hs:fh w (Go.Sort.grow (w.drewN k) os):=⟨by simp_all,λb hb=>by
   show(w.heap++os)[b]? = _
   grind⟩
  obtain⟨q1,q2,q4,q3⟩:=hB.grown hP hS hs rfl rfl rfl;exact⟨_,G,rfl,q1,q2,q4,.str _ _ _,λq b hq _=>q3 q b hq⟩
 have akC:∀(n:Int)(y:J UInt8),pO F n=W0 y->lK (E:=E) P f [.dat (.int .i64) n] [] [] [] ⟨WF,.dat .str y,[],[],[],[]⟩:=by
  intro n y hy;obtain⟨h1,h2⟩:=dX hy
  grind
 intro x y hy;exact akC x y hy
variable{pr:Nat -> Nat -> Prop}{cs:J Value}{k:Nat}
theorem LD.getD:∀ {cs:J Value}{ds:J DV},LD w pr cs ds->∀ {l:Nat},l<ds.length->VD w pr (cs.getD l undef) (ds.getD l default)
 | [],[],_,l,h=>by simp at h
 | c::cs,d::ds,h,0,_=>h.1
 | c::cs,d::ds,h,l+1,hl=>by simpa using LD.getD h.2 (by simpa using hl)
 | [],_::_,h,_,_=>h.elim
 | _::_,[],h,_,_=>h.elim
theorem LD.app:∀ {cs cs':J Value}{ds ds':J DV},LD w pr cs ds->LD w pr cs' ds'->LD w pr (cs++cs') (ds++ds')
 | [],cs',[],ds',_,h=>h
 | c::cs,cs',d::ds,ds',h,h'=>⟨h.1,LD.app h.2 h'⟩
 | [],_,_::_,_,h,_=>h.elim
 | _::_,_,[],_,h,_=>h.elim
theorem LD.cat{o:Nat}{a b:J DV}(h1:LD w pr ((cs.drop o).take k) a)(h2:LD w pr (cs.drop (o+k)) b):LD w pr (cs.drop o) (a++b):=by
 have:=h1.app h2
 grind[List.drop_drop,List.take_append_drop]
theorem LD.fin(h:cs.length=n):LD w pr (cs.drop n) []:=by
 rw[Y8 om];exact trivial
variable{v:Value}
theorem block_lt_of_cell{a:Addr}(h:w.cell? a=W0 v):a.block<w.heap.size:=ae4 w a h
def Ik{H:Type}(P:bh)(t:aK)(d:DataW H):Prop:=∀n∈d.weights P t,n<=reachBytes
theorem SJ{H:Type}{P:bh}{e:aK}{d:DataW H}{n:Nat}(hn:n∈d.weights P e):∀ {l:J (DataW H)},d∈l->n∈DataW.weightsAll P e l
 | x::l,h=>by
  rcases iy.1 h with rfl|h
  ·exact List.mem_append_left _ hn
  ·exact List.mem_append_right _ (SJ hn h)
theorem OQ{H:Type}{P:bh}{t:aK}{d:DataW H}{n:Nat}(hn:n∈d.weights P t):∀ {ts:J aK}{ds:J (DataW H)}(j:Nat),ts[j]? = W0 t->ds[j]? = W0 d->n∈DataW.weightsEach P ts ds
 | t'::ts,d'::ds,0,h1,h2=>by
  unfold DataW.weightsEach
  simp_all
 | t'::ts,d'::ds,j+1,h1,h2=>by
  exact List.mem_append_right _ (OQ hn j (by simpa using h1) (by simpa using h2))
 | [],_,j,h1,_=>by simp at h1
 | _::_,[],j,_,h2=>by simp at h2
variable{H:Type}{d:DataW H}{t:aK}
theorem wAt{ts:J aK}{ds:J (DataW H)}(h:(DataW.weightsEach P ts ds).all (·<=reachBytes)=WF)(j:Nat)(h1:ts[j]? = W0 t)(h2:ds[j]? = W0 d):Ik P t d:=
 λn hn=>Cm (pE.1 h n (OQ hn j h1 h2))
def eo{H:Type}(eZ:aK×Value->H)(P:bh)(W:U)(fuel:Nat)(t:aK){α:Type}(enc:α->J DV)(ok:α->Prop):Prop:=
 ∀cs d ps,DataW.trod eZ P W 0 (λ_=>WF) WF fuel t cs=W0 (d,ps)->Ik P t d->∃x,ok x/\LD W (λb _=>b<W.heap.size) cs (enc x)
variable{eZ:aK × Value -> H}{W:U}{e:aK}{α:Type}{fuel:Nat}{enc:α->J DV}{ok:α->Prop}{fs:aJ Field}{ps:J MemPlace}
theorem afg(ht:P.underlying t=W0 .bool)(fuel:Nat):eo eZ P W fuel t (λb=>[.bool b]) (λ_=>True):=by
 intro cs d ps h _
 cases fuel with
 | zero=>cases h
 | succ n=>
  simp[DataW.trod]at h;split at h<;>try (simp_all;done)
  rename_i b h1;exact⟨b,trivial,⟨.bool _,trivial⟩⟩
theorem ahn{k:eH}(ht:P.underlying t=W0 (.int k))(fuel:Nat):eo eZ P W fuel t (λn=>[.int k n]) (λn=>(Lit.int k n).wf=WF):=by
 intro cs d ps h _
 cases fuel with
 | zero=>cases h
 | succ n=>
  simp[DataW.trod,ht]at h;split at h<;>try (simp_all;done)
  rename_i k2 k' m h1;cases h1;split at h<;>try trivial
  rename_i hc;obtain⟨rfl,hw⟩:=hc;exact⟨m,hw,⟨.int _ _,trivial⟩⟩
theorem NM(ht:P.underlying t=W0 .string)(fuel:Nat):eo eZ P W fuel t (λl=>[.str l]) (λl=>l.length<=140737488351232):=by
 intro cs d ps h hw
 cases fuel with
 | zero=>cases h
 | succ n=>
  simp[DataW.trod]at h;split at h<;>try (simp_all;done)
  rename_i s h1;split at h<;>try trivial
  cases h;exact⟨s.data.toList,hw _ (by simp[DataW.weights]),⟨.str s.data.toList,trivial⟩⟩
theorem G9{α β:Type}{f:α->O β}:∀ {l:J α}{r:J β},l.mapM f=W0 r->r.length=l.length/\∀(j:Nat) a,l[j]? = W0 a->∃b,r[j]? = W0 b/\f a=W0 b
 | [],r,h=>by simp_all
 | x::l,r,h=>by
  cases hx:f x with
  | none=>simp[hx]at h
  | some y=>
   cases hl:l.mapM f with
   | none=>simp[hl]at h
   | some r'=>
    simp[hx,hl]at h;subst h;obtain⟨h1,h2⟩:=G9 hl;refine⟨by simp[h1],λj a hj=>?_⟩
    cases j with
    | zero=>simp at hj;subst hj;exact⟨y,si,hx⟩
    | succ j=>simp at hj⊢;exact h2 j a hj
theorem agv{base:Nat}{a:Addr}(h:w.cells? base a n=W0 cs):cs.length=n/\∀j,j<n->w.cell? (a.add j)=W0 (cs.getD j undef):=by
 unfold World.cells? at h;split at h<;>try trivial
 obtain⟨h1,h2⟩:=G9 h;have hl:cs.length=n:=by simpa using h1
 refine⟨hl,λj hj=>?_⟩;obtain⟨b,hb,hc⟩:=h2 j j (by simp[hj])
 simp_all
theorem Rf{α:Type}[Inhabited α]{enc:α->J DV}{ok:α->Prop}(ht:P.underlying t=W0 (.slice e))(hk:P.cellsOf e=k)(hkp:0<k)(hlen:∀x,(enc x).length=k)(he:eo eZ P W fuel e enc ok):
  eo eZ P W (fuel+1) t (λvs:J α=>[.slice k (vs.map enc)]) (λvs=>vs.length<=maxLen/\∀x,x∈vs->ok x):=by
 intro cs d ps h hW;simp only[DataW.trod,ht]at h;split at h<;>try (simp_all;done)
 ·rename_i h1
  exact⟨[],⟨si,λx hx=>by simp at hx⟩,⟨.vo _ _,trivial⟩⟩
 ·rename_i e' a len cap h1
  cases h1;split at h<;>try trivial
  rename_i hc;simp only[To,PE]at h;obtain⟨elems,hel,rest,fB,hd⟩:=h
  have hwe:(∀y∈elems,Ik P e y.1)/\∀y∈rest,Ik P e y.1:=by
   obtain⟨rfl,-⟩:=Prod.mk.inj hd
   have hW':∀n,n∈DataW.weightsAll P e (elems.map (·.1))\/n∈DataW.weightsAll P e (rest.map (·.1))->n<=reachBytes:=λn hn=>hW n (by
    simp only[DataW.weights,ht]
    simp_all)
   exact⟨λy hy n hn=>hW' n (.inl (SJ hn (List.mem_map_of_mem hy))),λy hy n hn=>hW' n (.inr (SJ hn (List.mem_map_of_mem hy)))⟩
  obtain⟨hl,hg⟩:=G9 hel;have hlen':elems.length=len:=by simpa using hl
  have rd:∀j,(∃y:DataW H×J MemPlace,(W.cells? 0 (a.add (j*P.cellsOf e)) (P.cellsOf e)).bind (DataW.trod eZ P W 0 (λ_=>WF) WF fuel e)=W0 y/\Ik P e y.1) ->
    ∃x:α,ok x/\∃cs:J Value,cs.length=k/\(∀l,l<k->W.cell? ((a.add (j*k)).add l)=W0 (cs.getD l undef))/\LD W (λb _=>b<W.heap.size) cs (enc x):=by
   rintro j ⟨y,hy,hyw⟩;simp only[To]at hy;obtain⟨cs,hcs,hy⟩:=hy;obtain⟨x,hx,hv⟩:=he cs y.1 y.2 hy hyw
   grind[agv]
  have key:∀j,j<len->∃x:α,ok x/\∃cs:J Value,cs.length=k/\(∀l,l<k->W.cell? ((a.add (j*k)).add l)=W0 (cs.getD l undef))/\LD W (λb _=>b<W.heap.size) cs (enc x):=by
   intro j hj;obtain⟨y,hm,hy⟩:=hg j j (by simp[hj]);exact rd j ⟨y,hy,hwe.1 y (jx hm)⟩
  by_cases hz:cap=0
  ·have hl0:len=0:=om
   subst hz;subst hl0;exact⟨[],⟨si,λx hx=>by simp at hx⟩,⟨.vo _ _,trivial⟩⟩
  have ame:a.spot=WP:=by
   have h0:∃x:α,ok x/\∃cs:J Value,cs.length=k/\(∀l,l<k->W.cell? ((a.add (0*k)).add l)=W0 (cs.getD l undef))/\LD W (λb _=>b<W.heap.size) cs (enc x):=by
    by_cases hl1:0<len
    ·exact key 0 hl1
    ·have hl0:len=0:=om
     subst hl0;obtain⟨hl2,hg2⟩:=G9 fB;obtain⟨y,hm,hy⟩:=hg2 0 0 (by grind);exact rd 0 ⟨y,by simpa using hy,hwe.2 y (jx hm)⟩
   obtain⟨x,-,cs,-,hcell,-⟩:=h0;have h1:=hcell 0 hkp;simp only[Nat.zero_mul]at h1;have e:(a.add 0).add 0=a:=by simp[Addr.add]
   rw[e]at h1;unfold World.cell? at h1;split at h1<;>try trivial
   simp_all
  obtain⟨b,off,spot⟩:=a;simp only at ame;subst ame;simp only[add_lit]at key
  have hch:∃vs:J α,vs.length=len/\∀j,j<len->ok (vs.getD j default)/\∃cs:J Value,cs.length=k/\(∀l,l<k->W.cell? ⟨b,off+j*k+l,WP⟩=W0 (cs.getD l undef))/\LD W (λb _=>b<W.heap.size) cs (enc (vs.getD j default)):=by
   clear hg hel fB rd hlen' hl hc
   induction len with
   | zero=>simp_all
   | succ n ih=>
    obtain⟨vs,h1,h2⟩:=ih (λj hj=>key j om);obtain⟨x,hx⟩:=key n om;refine⟨vs++[x],by simp[h1],λj hj=>?_⟩;by_cases hjn:j<n
    ·simp_all
    ·have hje:j=n:=om
     simp_all
  obtain⟨vs,hvl,hvs⟩:=hch;refine⟨vs,⟨by rw[hvl];omega,λx hx=>?_⟩,?_⟩
  ·grind[List.getElem_of_mem]
  ·refine⟨?_,trivial⟩
   have hml:(vs.map enc).length=len:=by simp[hvl]
   rw[<-hml];refine .slice b off cap k _ (λj l=>(W.cell? ⟨b,off+j*k+l,WP⟩).getD undef) (by rw[hml];omega) (λj hj=>?_) (λj l hj hl=>?_) (λj l hj hl=>?_)
   all_goals rw[hml]at hj
   ·simp_all
   ·obtain⟨-,cs,q1,q2,q3⟩:=hvs j hj
    have:=q2 l hl;exact⟨block_lt_of_cell (a:=⟨b,off+j*k+l,WP⟩) this,by rw[this];rfl⟩
   grind[LD.getD]
theorem NL(ht:P.underlying t=W0 (.struct fs))(h:DataW.trod eZ P W 0 (λ_=>WF) WF (fuel+1) t cs=W0 (d,ps))(hW:Ik P t d):
  cs.length=P.cellsOf t/\∀f,f∈fs.toList->∃y,DataW.trod eZ P W 0 (λ_=>WF) WF fuel f.type ((cs.drop f.offset).take (P.cellsOf f.type))=W0 y/\Ik P f.type y.1:=by
 simp only[DataW.trod,ht]at h;split at h<;>try trivial
 rename_i hl;obtain⟨xs,hxs,hd⟩:=PE.1 h;obtain⟨rfl,-⟩:=Prod.mk.inj hd;refine⟨hl,λf hf=>?_⟩;obtain⟨j,hj,rfl⟩:=lH hf;obtain⟨b,hm,hb⟩:=(G9 hxs).2 j _ (fJ hj);refine⟨b,hb,λn hn=>hW n ?_⟩;simp[DataW.weights,ht];exact OQ hn j (by grind) (by simp_all)
theorem agw{t:aK}{f:Field}(hf:f∈fs.toList)(hk:P.cellsOf f.type=k)
  (ho:eo eZ P W fuel f.type enc ok) (h:∀f,f∈fs.toList->∃y,DataW.trod eZ P W 0 (λ_=>WF) WF fuel f.type ((cs.drop f.offset).take (P.cellsOf f.type))=W0 y/\Ik P f.type y.1) :
  ∃x,ok x/\LD W (λb _=>b<W.heap.size) ((cs.drop f.offset).take k) (enc x):=by
 obtain⟨y,hy,hw⟩:=h f hf;rw[hk]at hy;exact ho _ y.1 y.2 hy hw
theorem ap8.arg(ho:∀fuel,eo eZ P W fuel t enc ok)(h:DataW.Trod eZ P W 0 (λ_=>WF) WF t v d ps)(hw:Ik P t d):
  ∃x,ok x/\LD W (λb _=>b<W.heap.size) v.cells.toList (enc x):=by
 obtain⟨fuel,hf⟩:=h;exact ho fuel _ _ _ hf hw
theorem fX(j:Nat){f:Field}(hf:fs[j]? = W0 f)(hk:P.cellsOf f.type=k)
  (ho:eo eZ P W fuel f.type enc ok) (h:∀f,f∈fs.toList->∃y,DataW.trod eZ P W 0 (λ_=>WF) WF fuel f.type ((cs.drop f.offset).take (P.cellsOf f.type))=W0 y/\Ik P f.type y.1) :
  ∃x,ok x/\LD W (λb _=>b<W.heap.size) ((cs.drop f.offset).take k) (enc x):=
 agw (t:=0) (by grind) hk ho h
theorem ahb{E:TEnv}{ds:J (TV E)}{args:aJ Value}(h:lK P f ds [] [] [] ⟨WF,.dat .bool WF,[],[],[],[]⟩)(he:∀args w,(callFunc f args).run P w=.ok (.enter f args) w)(abb:∀b p,E.gb b=W0 p->∃cs t m,W.heap[b]? = W0 (.cells cs t m)/\p cs)
  (hv:bI E W ⟨[],[],λb _=>b<W.heap.size⟩ ds args.toList):Calls P f args W λe w'=>e=.returned (.bool WF)/\RowKit.Below W.heap.size W w':=by
 have hf:∀b,¬ (⟨[],[],λb _=>b<W.heap.size⟩:bx).Er b:=λb hb=>by
  rcases hb with hb|⟨x,y,hb,-⟩<;>cases hb
 have hI:=h W ⟨[],[],λb _=>b<W.heap.size⟩ args (λb cs hb=>⟨abb b cs hb,hf b⟩)
  ⟨rfl,rfl,λr b x hb=>(by simp at hb),λb hb=>(by cases hb),Gp,λb o hp=>⟨hp,si⟩,λj x y hj=>(by simp at hj),λj j' x h x' h' b hj=>(by simp at hj)⟩ (λj c hm=>by cases hm) hv
 unfold kB at hI;rw[he]at hI;refine Gr hI λe w' hp=>?_;obtain⟨v,G',rfl,hE,hR,-,hV,-⟩:=hp;refine⟨?_,hE.os,hE.tape,hE.output,hE.size,λk hk=>hE.old k hk (hf k)⟩;have:=hV.mu;rw[this];rfl
open Go.MapKept Go.Maps Go.RowKit
open Go.WideElems (Fit rd rg pl)
open Go.Proofs (encStr)
def SK(x:J UInt8):J (J UInt8)->J (J UInt8)
 | []=>[x]
 | y::l=>cond (T1 (x<=y)) (x::y::l) (y::SK x l)
def sF:J (J UInt8)->J (J UInt8)
 | []=>[]
 | x::l=>SK x (sF l)
theorem OR(x:J UInt8):∀l,(SK x l).Perm (x::l)
 | []=>.refl _
 | y::l=>by
  simp[SK];cases T1 (x<=y)
  ·exact((OR x l).cons y).trans (List.Perm.swap x y l)
  ·exact .refl _
theorem Dl:∀l,(sF l).Perm l
 | []=>.refl _
 | x::l=>(OR x (sF l)).trans ((Dl l).cons x)
theorem abq(x:J UInt8):∀ {l:J (J UInt8)},l.Pairwise (λa b=>T1 (a<=b)=WF)->(SK x l).Pairwise (λa b=>T1 (a<=b)=WF)
 | [],_=>by simp[SK]
 | y::l,h=>by
  simp only[SK]
  cases hxy:T1 (x<=y)with
  | true=>
   refine .cons (λc hc=>?_) h;rcases iy.1 hc with rfl|hc
   ·exact hxy
   ·have h2:=List.rel_of_pairwise_cons h hc
    grind
  | false=>
   refine .cons (λc hc=>?_) (abq x h.of_cons);rcases iy.1 ((OR x l).mem_iff.1 hc)with rfl|hc
   ·grind
   simp_all
theorem LM:∀l,(sF l).Pairwise (λa b=>T1 (a<=b)=WF)
 | []=>.nil
 | x::l=>abq x (LM l)
theorem abr(l:J (J UInt8)):l.mergeSort (λx y=>T1 (x<=y))=sF l:=
 (mergeSort_of_perm (Dl l).symm).trans (List.mergeSort_of_pairwise (LM l))
def skF{β:Type}(F:Nat)(m:J (J UInt8×β)):O (J (J UInt8)):=
 rq ((m.all λp=>T1 (p.1.length<=9223372036854775807))&&T1 (m.length*16<=140737488355328)) (W0 (sF (m.map λp=>p.1)))
def skS(f fk ty:Nat)(vt:Ty):di:=⟨f,[.one (.func fk [(0,0)])],[.cells ty [.jy 1],.map .str vt],[],⟨.one (.dat (.bq .str)),[WP,WP],[],[]⟩,WP,[]⟩
def skC(E:TEnv)(f fk ty:Nat)(vt:Ty)(F:Nat):bJ E:=⟨skS f fk ty vt,λ(x:J (J UInt8×vt.den E.D))=>skF F x⟩
def abt(P:bh)(fS fk ty kt:Nat):Prop:=
 ∀(w:U)(b0 b n:Nat)(D0:DataW Unit)(R:Value->O (DataW Unit×J MemPlace)),w.heap[b0]? = W0 (.cells #[.map (W0 b)] ty (0,0))->w.ownsMap P kt R b n D0->Maps.size D0<=maxLen->Maps.size D0*16<=140737488355328 ->
  Calls P fS #[.func (.func fk) #[] #[.pointer (W0 ⟨b0,0,WP⟩)]] w λe w2=>∃(u:Value)(ss:J (J UInt8)),e=.returned u/\ss.Perm (strKeys D0) /\
   w2.ownsRow w.heap.size kt 1 u ss.length ((ss.mergeSort (λx y=>T1 (x<=y))).map encStr)/\Below w.heap.size w w2
theorem RG{w:U}{G:bx}{vt:Ty}:∀ {es:J MapEntry}{m:J (J UInt8×vt.den E.D)},gp E w G .str vt es m->es.map (λe=>e.key)=m.map λp=>mkStr p.1
 | [],[],_=>rfl
 | e::es,p::ps,h=>by
  have h1:=h.1.iq
  simp[h1,RG h.2.2]
 | [],_::_,h=>h.elim
 | _::_,[],h=>h.elim
theorem abu{kt:TypeId}{b:Nat}{es:Array MapEntry}{clock:Nat}(ks:J (J UInt8))(hk:P.underlying kt=W0 .string)(hb:w.heap[b]? = W0 (.map es clock))(hs:Stamped es clock)(hm:es.toList.map (λe=>e.key)=ks.map mkStr)
  (hl:∀p∈ks,p.length<=maxLen) (hlen:ks.length<=maxLen):∃D0:DataW Unit,w.ownsMap P kt (λ_=>W0 (.lit (.bool WF),[])) b ks.length D0/\Maps.size D0=ks.length/\(strKeys D0).Perm ks:=by
 have hsz:es.size=ks.length:=by
  have:=congrArg List.length hm;simpa using this
 have hrd:∀x∈es.toList,∃p∈ks,x.key=mkStr p/\rd P kt (λ_=>W0 ((.lit (.bool WF):DataW Unit),[])) x=W0 (.string p,.lit (.bool WF)):=by
  intro x hx;have hmem:x.key∈ks.map mkStr:=by grind
  obtain⟨p,hp,Ru⟩:=oK.1 hmem;refine⟨p,hp,Ru.symm,?_⟩
  have hko:keyOf P kt x.key=W0 (.string p):=by
   rw[<-Ru];exact WideMaps.keyOf_string_mk hk (hl p hp)
  simp[rd,hko]
 have hF:Fit P kt (λ_=>W0 ((.lit (.bool WF):DataW Unit),[])) es clock:=⟨om,hs,λx hx=>by grind⟩;refine⟨_,⟨es,clock,hb,hF,om,rfl⟩,?_,?_⟩
 ·show((es.toList.map (rg P kt _)).foldr DataW.insert []).length=_
  simp_all[length_sorted]
 ·refine((WideShapes.sorted_perm _).map _).trans ?_
  have:(es.toList.map (rg P kt (λ_=>W0 ((.lit (.bool WF):DataW Unit),[])))).map (λp=>strOf p.1)=ks:=by
   have h2:(es.toList.map (rg P kt (λ_=>W0 ((.lit (.bool WF):DataW Unit),[])))).map (λp=>strOf p.1)=(es.toList.map (λe=>e.key)).map (λv=>match v with | .string s=>s.data.toList|_=>[]):=by
    rw[yD,yD];refine Zm λx hx=>?_;obtain⟨p,-,Ru,hr⟩:=hrd x hx;simp[rg,hr,Ru,strOf,mkStr]
   rw[h2,hm,yD]
   have:((λv=>match v with|Value.string s=>s.data.toList|_=>[]) ∘ mkStr)=id:=by
    funext l;simp[mkStr]
   rw[this,R8]
  rw[this]
variable{l:J (J UInt8)}
theorem akD{base:Nat}{kt:aK}{u:Value}(hn:n=l.length)(h:w.ownsRow base kt 1 u n (l.map encStr))(hp:∀g,u.ownBlock=W0 g->∀o,o<n->pr g o):
  VD w pr u (.slice 1 (l.map λx=>[.str x])):=by
 subst hn;rcases h.2 with⟨rfl,hz⟩|⟨g,cap,cur,rfl,hbase,hg,h1,h2,h3,h4⟩
 ·have:=Ei hz
  subst this;exact .vo _ _
 ·have hlen:(l.map λx=>[DV.str x]).length=l.length:=by simp
  have ate:∀q,q<l.length->w.cell? ⟨g,q,WP⟩=W0 (mkStr (l.getD q [])):=by
   intro q hq;rw[cell_of_row w g q cur kt (0,0) hg];have h5:=congrArg (λt=>t[q]?) h4;simp at h5;rw[Zb]at h5
   simp_all[Nw,Array.getElem?_toList,mkStr]
  have:=VD.slice (w:=w) g 0 cap 1 (l.map λx=>[DV.str x]) (λj _=>mkStr (l.getD j [])) (by rw[hlen];simpa using h1) (λj hj=>by
    simp_all) (λj q hj hq=>by
    refine⟨hp g rfl _ om,?_⟩
    simp_all) (λj q hj hq=>by
    have hj':j<l.length:=by simpa using hj
    obtain rfl:q=0:=om
    have e2:((l.map λx=>[DV.str x]).getD j []).getD 0 default=.str (l.getD j []):=by
     simp[hj']
    rw[e2];exact .str _)
  simp_all
theorem aqZ{f fk ty kt:Nat}{vt:Ty}(he:∀args w,(callFunc f args).run P w=.ok (.enter f args) w)(hS:abt P f fk ty kt)(hkt:P.underlying kt=W0 .string)(F:Nat):(skC E f fk ty vt F).Ok P:=by
 have key:∀(m:J (J UInt8×vt.den E.D)),(∀p∈m.map (λp=>p.1),p.length<=maxLen)->m.length*16<=140737488355328 ->
   lK P f [.func (.func fk) [.ptr 0 0]] [.cells ty [.jy 1],.map .str vt m] [] [] ⟨WF,.dat (.bq .str) (sF (m.map λp=>p.1)),[.cells ty [.jy 1],.map .str vt m],[],[],[]⟩:=by
  intro m hm hlen w G args hP hB hSf hv;obtain⟨u,us,ha,vr,ri⟩:=hv.cons_inv;subst ri;obtain⟨vs,rfl,u0,us0,hvs,⟨b0,rfl,hb0⟩,rfl⟩:=vr;have atp:vs=#[.pointer (W0 ⟨b0,0,WP⟩)]:=by grind
  have ha:args=#[.func (.func fk) #[] #[.pointer (W0 ⟨b0,0,WP⟩)]]:=by grind
  subst ha;obtain⟨cs,hc1,Ki,hc3⟩:=hB.box 0 b0 _ hb0 rfl;obtain⟨u1,us1,hcs,⟨b1,rfl,vW⟩,rfl⟩:=hc3;have asC:cs=#[.map (W0 b1)]:=by grind
  subst asC;obtain⟨es,clock,Xs,hm2,hm3⟩:=hB.box 1 b1 _ vW rfl;have hks:es.toList.map (λe=>e.key)=(m.map λp=>p.1).map mkStr:=by rw[RG hm3,yD];rfl
  have hml:(m.map λp=>p.1).length<=maxLen:=by
   have:(8796093022208:Nat)<=maxLen:=by decide
   grind
  obtain⟨D0,hown,hsz,aq0⟩:=abu (m.map λp=>p.1) hkt Xs hm2 hks hm hml;unfold kB;rw[he];refine Gr (hS w b0 b1 _ D0 _ hc1 hown (by rw[hsz];exact hml) (by simp_all)) λe w2 hh=>?_;obtain⟨u,ss,rfl,hss,hrow,Wu⟩:=hh;have hsort:=(mergeSort_of_perm (hss.trans aq0)).trans (abr _);have aq1:ss.length=(sF (m.map λp=>p.1)).length:=by grind[List.length_mergeSort]
  rw[hsort]at hrow;have hs:fh w w2:=⟨Wu.size,λk hk=>Wu.block k hk⟩
  let lQ:Nat->Nat->Prop:=λg o=>G.pr g o\/(u.ownBlock=W0 g/\o<ss.length)
  have hr:=Rel.K3 (n:=0) hP hB hSf .nil
  have hr':=hr.grow hs Wu.os Wu.tape Wu.output lQ (λb o h=>.inl h) (λb o hb h=>by
    rcases h with h|⟨h,-⟩
    ·exact h
    ·have:=(hrow.lt b h).1;omega) (λb o h=>by
    rcases h with h|⟨h,-⟩
    ·exact jS (hB.gu b o h).1 Wu.size
    ·exact(hrow.lt b h).2)
  refine⟨u,{G with pr:=lQ},rfl,hr'.ff,hr'.boxes,hr'.gv,?_,λq b hq _=>hr'.fix q b hq si⟩;exact⟨akD aq1 hrow (λg hg o ho=>.inr ⟨hg,ho⟩),trivial⟩
 have akC:∀(m:J (J UInt8×vt.den E.D))(y:J (J UInt8)),skF F m=W0 y ->
   lK P f [.func (.func fk) [.ptr 0 0]] [.cells ty [.jy 1],.map .str vt m] [] [] ⟨WF,.dat (.bq .str) y,[.cells ty [.jy 1],.map .str vt m],[],[],[]⟩:=by
  intro m y hy;obtain⟨h1,h2⟩:=dX hy;rw[cH,eT,pE]at h1;cases h2;refine key m (λp hp=>?_) h1.2;obtain⟨q,hq,rfl⟩:=oK.1 hp;have:=h1.1 q hq;simpa[maxLen]using this
 intro x y hy;exact akC x y hy
open Go.RowKit
theorem Dc{d:TV E}(he:∀args w,(callFunc f args).run P w=.ok (.enter f args) w)
  (h:∀w G args,qf E w G->bI E w G ds args.toList->∃v,(∀w G,VT E w G d v)/\Calls P f args w λe w'=>e=.returned v/\Below w.heap.size w w'):lK P f ds [] [] [] ⟨WF,d,[],[],[],[]⟩:=by
 intro w G args hP hB hS hv;obtain⟨v,hV,hC⟩:=h w G args hP hv;unfold kB;rw[he];refine Gr hC λe w' hh=>?_;obtain⟨rfl,Ig⟩:=hh;obtain⟨q1,q2,q4,q3⟩:=hB.grown hP hS ⟨Ig.size,λk hk=>Ig.block k hk⟩ Ig.os Ig.tape Ig.output;exact⟨v,G,rfl,q1,q2,q4,hV _ _,λq b hq _=>q3 q b hq⟩
theorem VT.strs(h:VT E w G (.dat (.bq .str) l) v):
  (∃a,v=.slice a 0 0/\l=[])\/∃b off cap,v=.slice (W0 ⟨b,off,WP⟩) l.length cap/\l.length<=cap/\∀(j:Nat) x,l[j]? = W0 x->w.cell? ⟨b,off+j,WP⟩=W0 (mkStr x):=by
 obtain⟨cs,hf,hc⟩:=(h.atom rfl).tN.flat (show 0<Ty.size E .str from Nat.one_pos);rcases hc with⟨a,he,hn⟩|⟨b,off,cap,he,hcap,hcells⟩
 ·simp_all
 ·refine .inr ⟨b,off,cap,by simpa using he,by simpa using hcap,λj x hx=>?_⟩
  have hj:=(eY.1 hx).1;have h1:=(hcells j (by simpa[Ty.size]using hj)).2;have h2:=hf.2.2 j 0 (by simpa using hj) Nat.one_pos
  have hd:((l.map (Ty.cells E .str)).getD j []).getD 0 default=.str x:=by
   simp_all[Ty.cells]
  rw[hd]at h2;rw[show Ty.size E .str=1 from rfl,Td,Gm]at h2;rw[h1,h2.iq]
def zB(F:Nat)(l:J (J UInt8))(sep:J UInt8):O (J UInt8):=rq (T1 (l.length<=140737488355328)&&T1 ((Lib.join l sep).length<=140737488355328)) (W0 (Lib.join l sep))
def amf(E:TEnv)(f:FuncId)(F:Nat):bJ E:=⟨⟨f,[.one (.dat (.bq .str)),.one (.dat .str)],[],[],⟨.one (.dat .str),[],[],[]⟩,WP,[]⟩,λ(x:J (J UInt8)×J UInt8)=>zB F x.1 x.2⟩
structure ZV(P:Program)(f:FuncId):Prop where
 enters:∀args w,(callFunc f args).run P w=.ok (.enter f args) w
 some:∀(bk o c:Nat)(xs:List ByteArray)(sep:ByteArray)(w:World),(∀(j:Nat) x,xs[j]? = W0 x->w.cell? ⟨bk,o+j,WP⟩=W0 (.string x))->bk<w.heap.size->xs.length<=140737488355328->xs.length<=c ->
  (Lib.join (xs.map (·.data.toList)) sep.data.toList).length<=140737488355328 ->
  Calls P f #[.slice (W0 ⟨bk,o,WP⟩) xs.length c,.string sep] w λe w'=>e=.returned (.string ⟨(Lib.join (xs.map (·.data.toList)) sep.data.toList).toArray⟩)/\Below w.heap.size w w'
 none:∀(a:Option Addr)(c:Nat)(sep:ByteArray)(w:World),Calls P f #[.slice a 0 c,.string sep] w λe w'=>e=.returned (.string ⟨#[]⟩)/\w'=w
theorem ane(h:ZV P f)(F:Nat):(amf E f F).Ok P:=by
 have key:∀(l:J (J UInt8))(sep y:J UInt8),zB F l sep=W0 y->lK (E:=E) P f [.dat (.bq .str) l,.dat .str sep] [] [] [] ⟨WF,.dat .str y,[],[],[],[]⟩:=by
  intro l sep y hy;obtain⟨h1,h2⟩:=dX hy;rw[cH,eT,eT]at h1;cases h2;refine Dc h.enters λw G args hP hv=>⟨_,λw G=>.str w G (Lib.join l sep),?_⟩;obtain⟨u,us,ha,vr,ri⟩:=hv.cons_inv;obtain⟨u2,Tr,sM,EO,J6⟩:=ri.cons_inv;have e2:=EO.iq;subst e2 J6 sM;have ha:args=#[u,mkStr sep]:=by grind
  subst ha
  have zero:∀a c,l=[]->u=.slice a 0 c->Calls P f #[u,mkStr sep] w λe w'=>e=.returned (mkStr (Lib.join l sep))/\Below w.heap.size w w':=by
   intro a c hl hu;subst hl hu;exact(h.none a c ⟨⟨sep⟩⟩ w).mono λe w' ⟨q1,q2⟩=>⟨by rw[q1];rfl,q2▸Below.refl _ _⟩
  rcases vr.strs with⟨a,hu,hl⟩|⟨b,off,cap,hu,hcap,hc⟩
  ·exact zero a 0 hl hu
  ·rcases Nat.eq_zero_or_pos l.length with hl|hl
   ·simp_all
   ·have hx:(l.map λs=>(⟨⟨s⟩⟩:ByteArray)).map (·.data.toList)=l:=by rw[yD];exact R8 l
    have:=h.some b off cap (l.map λs=>⟨⟨s⟩⟩) ⟨⟨sep⟩⟩ w (λj x hjx=>by
     rw[Nw]at hjx;obtain⟨s,hs,rfl⟩:=PE.1 hjx;exact hc j s hs) (by
     have h0:=hc 0 l[0] (fJ hl);exact ae4 w _ h0) (by simpa using h1.1) (by simpa using hcap) (by rw[hx];exact h1.2)
    rw[hx,mg]at this;rw[hu];exact this
 intro x y hy;exact key x.1 x.2 y hy
structure atf(P:Program)(f:FuncId):Prop where
 enters:∀args w,(callFunc f args).run P w=.ok (.enter f args) w
 call:∀(s:ByteArray)(c:Nat)(w:World),c<=9223372036854775807->s.size*c<=140737488355328->Calls P f #[.string s,.int .i64 c] w λe w'=>e=.returned (.string ⟨(Lib.repeatL s.data.toList c).toArray⟩)/\Below w.heap.size w w'
def abv(F:Nat)(s:J UInt8)(c:Int):O Int:=rq (T1 (s.length<4611686018427387904)) (W0 (Lib.lastIndexByte ⟨⟨s⟩⟩ c))
def apu(E:TEnv)(f:FuncId)(F:Nat):bJ E:=⟨⟨f,[.one (.dat .str),.one (.dat (.int .u8))],[],[],⟨.one (.dat (.int .i64)),[],[],[]⟩,WP,[]⟩,λ(x:J UInt8×Int)=>abv F x.1 x.2⟩
structure alU(P:Program)(f:FuncId):Prop where
 enters:∀args w,(callFunc f args).run P w=.ok (.enter f args) w
 call:∀(s:ByteArray)(c:Int)(w:World),s.size<4611686018427387904->Calls P f #[.string s,.int .u8 c] w λe w'=>e=.returned (.int .i64 (Lib.lastIndexByte s c))/\w'=w
theorem apv(h:alU P f)(F:Nat):(apu E f F).Ok P:=by
 have key:∀(s:J UInt8)(n y:Int),abv F s n=W0 y->lK (E:=E) P f [.dat .str s,.dat (.int .u8) n] [] [] [] ⟨WF,.dat (.int .i64) y,[],[],[],[]⟩:=by
  intro s n y hy;obtain⟨h1,h2⟩:=dX hy;rw[eT]at h1;cases h2;refine Dc h.enters λw G args hP hv=>⟨_,λw G=>.int w G .i64 (Lib.lastIndexByte ⟨⟨s⟩⟩ n),?_⟩;obtain⟨u,us,ha,vr,ri⟩:=hv.cons_inv;obtain⟨u2,Tr,sM,EO,J6⟩:=ri.cons_inv;have e1:=vr.iq;have e2:=EO.fT;subst e1 e2 J6 sM;have ha:args=#[mkStr s,.int .u8 n]:=by grind
  subst ha;exact(h.call ⟨⟨s⟩⟩ n w h1).mono λe w' ⟨q1,q2⟩=>⟨q1,q2▸Below.refl _ _⟩
 intro x y hy;exact key x.1 x.2 y hy
structure atq(P:Program)(f:FuncId):Prop where
 enters:∀args w,(callFunc f args).run P w=.ok (.enter f args) w
 call:∀(s cs:ByteArray)(w:World),s.size<4294967281->cs.size<4294967281->(∀(j:Nat) b,cs.data.toList[j]? = W0 b->b.toNat<128) ->
  Calls P f #[.string s,.string cs] w λe w'=>e=.returned (.bool (Lib.containsAny s.data.toList cs.data.toList))/\Below w.heap.size w w'
def GG(F:Nat)(s sep:J UInt8):O (J (J UInt8)):=rq (T1 (s.length<4294967281)&&T1 (1<=sep.length)) (W0 ((Lib.splitB ⟨⟨sep⟩⟩ 0 (Lib.countB ⟨⟨s⟩⟩ ⟨⟨sep⟩⟩) ⟨⟨s⟩⟩).map (·.data.toList)))
def aih(E:TEnv)(f:FuncId)(e:aK)(F:Nat):bJ E:=⟨⟨f,[.one (.dat .str),.one (.dat .str)],[],[],⟨.one (.eA 0),[],[W0 (e,1)],[(0,.str)]⟩,WP,[]⟩,λ(x:J UInt8×J UInt8)=>GG F x.1 x.2⟩
structure adI(E:TEnv)(P:Program)(f:FuncId)(e:TypeId):Prop where
 enters:∀args w,(callFunc f args).run P w=.ok (.enter f args) w
 call:∀(s sep:ByteArray)(w:World)(G:bx),qf E w G->s.size<4294967281->1<=sep.size->Calls P f #[.string s,.string sep] w λe' w'=>
   e'=.returned (.slice (W0 ⟨w.heap.size,0,WP⟩) (Lib.countB s sep+1) (Lib.countB s sep+1))/\w'=w.alloc (.cells ((Lib.splitB sep 0 (Lib.countB s sep) s).map Value.string).toArray e)
 len:∀(s sep:ByteArray),1<=sep.size->(Lib.splitB sep 0 (Lib.countB s sep) s).length=Lib.countB s sep+1
 le:∀(s sep:ByteArray),1<=sep.size->Lib.countB s sep<=s.size
theorem aii(l:J ByteArray):Flat w pr 1 (l.map Value.string) ((l.map (·.data.toList)).map (Ty.cells E .str)):=by
 refine⟨si,λj hj=>?_,λj k hj hk=>?_⟩
 ·simp_all[Ty.cells]
 ·simp at hj
  obtain rfl:k=0:=om;have e1:(l.map Value.string).getD (j*1+0) undef=.string l[j]:=by simp[hj]
  have e2:(((l.map (·.data.toList)).map (Ty.cells E .str)).getD j []).getD 0 default=.str l[j].data.toList:=by simp_all[Ty.cells]
  rw[e1,e2];exact .str _
theorem akE(h:adI E P f e)(F:Nat):(aih E f e F).Ok P:=by
 have key:∀(s sep:J UInt8)(y:J (J UInt8)),GG F s sep=W0 y->lK (E:=E) P f [.dat .str s,.dat .str sep] [] [] [] ⟨WF,.eA 0 0,[],[⟨0,e,1⟩],[],[(0,⟨.str,y⟩)]⟩:=by
  intro s sep y hy;obtain⟨h1,h2⟩:=dX hy;rw[cH,eT,eT]at h1;obtain⟨c1,c2⟩:=h1;cases h2;intro w G args hP hB hS hv;obtain⟨u,us,ha,vr,ri⟩:=hv.cons_inv;obtain⟨u2,Tr,sM,EO,J6⟩:=ri.cons_inv;have e1:=vr.iq;have e2:=EO.iq;subst e1 e2 J6 sM;have ha:args=#[mkStr s,mkStr sep]:=by grind
  subst ha;unfold kB;rw[h.enters];have hlen:=h.len ⟨⟨s⟩⟩ ⟨⟨sep⟩⟩ c2;have hle:=h.le ⟨⟨s⟩⟩ ⟨⟨sep⟩⟩ c2;have hsz:(⟨⟨s⟩⟩:ByteArray).size=s.length:=rfl;generalize hpl:Lib.splitB ⟨⟨sep⟩⟩ 0 (Lib.countB ⟨⟨s⟩⟩ ⟨⟨sep⟩⟩) ⟨⟨s⟩⟩=pl at hlen;generalize hcn:Lib.countB ⟨⟨s⟩⟩ ⟨⟨sep⟩⟩=cn at hlen hle;have hC:=h.call ⟨⟨s⟩⟩ ⟨⟨sep⟩⟩ w G hP c1 c2;rw[hcn]at hC hpl;rw[hpl]at hC;refine Gr hC λe' w' hh=>?_;obtain⟨rfl,rfl⟩:=hh;have hr:=Rel.K3 (n:=0) hP hB hS .nil
  let cur:=(pl.map Value.string).toArray
  have hcs:cur.size=(cn+1)*1:=by simp[cur,hlen]
  have hG:=hr.grow (fh.alloc w (.cells cur e)) rfl rfl rfl G.pr (λ_ _ h=>h) (λ_ _ _ h=>h) (λb o hp=>jS (hr.boxes.gu b o hp).1 si);have hnp:∀o,¬ G.pr w.heap.size o:=λo hp=>absurd (hr.boxes.gu _ _ hp).1 (zQ _);have hheap:(w.alloc (.cells cur e)).heap[w.heap.size]? = W0 (.cells cur e):=heap_alloc_new w _;have hmax:maxLen=9223372036854775807:=rfl
  have hown:(w.alloc (.cells cur e)).ownsRow 0 e 1 (.slice (W0 ⟨w.heap.size,0,WP⟩) (cn+1) (cn+1)) (cn+1) (cur.toList.take ((cn+1)*1)):=by
   refine⟨by simp[cur,hlen],.inr ⟨w.heap.size,cn+1,cur,rfl,gj _,hheap,eu _,?_,hcs,rfl⟩⟩;rw[hmax];omega
  have hA:=hG.CK ⟨0,e,1⟩ (.slice (W0 ⟨w.heap.size,0,WP⟩) (cn+1) (cn+1)) ⟨cn+1,_,hown,λa q h=>by simp at h,λb hb=>by
    cases hb;exact⟨si,λhm=>absurd (hr.boxes.lt _ hm) (zQ _),λo _ hp=>hnp o hp⟩⟩ (λb hb=>by cases hb;exact hr.ff.size) (λj y z b hj hzb hb=>by
    cases hb;obtain⟨n',xs',-,-,hb'⟩:=hr.boxes.grow j y z hj
    simp_all)
  have hg0:G.g=[]:=by
   have:=hB.gs;simpa using this
  have lF:(G.g++[(⟨0,e,1⟩,Value.slice (W0 ⟨w.heap.size,0,WP⟩) (cn+1) (cn+1))])[0]? = W0 (⟨0,e,1⟩,.slice (W0 ⟨w.heap.size,0,WP⟩) (cn+1) (cn+1)):=by rw[hg0];rfl
  have hC2:=hA.Wl (c:=⟨.str,pl.map (·.data.toList)⟩) ⟨⟨0,e,1⟩,_,lF,rfl,Nat.one_pos,⟨_,by simpa[hlen]using hown,by
    grind[List.take_of_length_le,aii]⟩,λb hb o hp=>by cases hb;exact hnp o hp⟩
  refine⟨_,_,rfl,hC2.ff,hC2.boxes,hC2.gv,?_,λq b hq _=>hC2.fix q b hq si⟩;exact⟨⟨0,e,1⟩,_,lF,eu _,rfl,λ_=>rfl⟩
 intro x y hy;exact key x.1 x.2 y hy
theorem Rel.anf{w0 w':U}{G0:bx}{st:TS E}{a:Act}(hr:Rel E w0 G0 st a w G){j:Nat}{g:cL}{c:Cn E}(hg:st.g[j]? = W0 g)(hc:oQ st.c j=W0 c)(hj:G.g[j]? = W0 (g,v))(vw:w.grownBy w' v.ownBlock){ys:J (c.1.den E.D)}{vals:J Value}
  (hown:w'.ownsRow 0 g.e g.k v ys.length vals) (hf:Flat w G.pr g.k vals (ys.map (c.1.cells E))) :
  Rel E w0 G0 {st with c:=(j,⟨c.1,ys⟩)::nK j st.c} a w' G:=by
 obtain⟨h,hj',hs,-⟩:=hr.soft hg hc;rw[hj]at hj';cases hj';obtain⟨n0,xs0,TA,Od,hb0⟩:=hr.boxes.grow j g v hj;have hnp:=hs.2.2.2
 have hcells:∀b o u,G.pr b o->w.cell? ⟨b,o,WP⟩=W0 u->w'.cell? ⟨b,o,WP⟩=W0 u:=λb o u hp hu=>
  vw.cell hu (λe=>hnp b e.symm o hp)
 have mN:=Lp hj
 have key:=hr.setRow (cs:=(j,⟨c.1,ys⟩)::nK j st.c) hj (eu _) (λ_=>rfl) vw.size vw.os vw.tape vw.output
  (λb hb hne=>vw.block b hb (λe=>hne e.symm)) hcells G.pr (λ_ _ h=>h) (λ_ _ h=>.inl h)
  ⟨ys.length,vals,hown,Od,λb hb=>⟨(hown.lt b hb).2,(hb0 b hb).2.1,λo _ hp=>hnp b hb o hp⟩⟩ (λb hb=>.inr hb) (λhg'=>?_)
 ·simp_all[Lp]
 ·intro i c' hm
  rcases iy.1 hm with e|hm
  ·cases e
   exact⟨g,v,by rw[mN];exact hj,hs.1,hs.2.1,⟨vals,hown,hf.mono hg'.pr hg'.cells⟩,hnp⟩
  ·obtain⟨hm,hne⟩:=tO hm
   obtain⟨x,hd,q1,q2⟩:=hr.gv i c' hm;obtain⟨n1,xs1,-,-,vW⟩:=hr.boxes.grow i x hd q1;refine⟨x,hd,by rw[mN];exact q1,q2.keep rfl rfl hg'.pr hg'.cells λb hb=>⟨vw.block b (vW b hb).1 (λe=>hne (hr.boxes.apart i j x hd g v b q1 hj hb e.symm)),λo hp=>hp⟩⟩
theorem agx(l:J (J UInt8)):Flat w pr 1 (l.map Go.Proofs.encStr) (l.map (Ty.cells E .str)):=by
 refine⟨si,λj hj=>?_,λj k hj hk=>?_⟩
 ·simp_all[Ty.cells]
 ·simp at hj
  obtain rfl:k=0:=om;have e1:(l.map Go.Proofs.encStr).getD (j*1+0) undef=mkStr l[j]:=by simp[hj];rfl
  have e2:((l.map (Ty.cells E .str)).getD j []).getD 0 default=.str l[j]:=by simp_all[Ty.cells]
  rw[e1,e2];exact .str _
theorem Ya{xs:J Value}(h:Flat w pr 1 xs (l.map (Ty.cells E .str))):xs=l.map Go.Proofs.encStr:=by
 have hl:xs.length=l.length:=by simpa using h.1
 refine Au (by simpa using hl) λj h1 h2=>?_;have hj:j<l.length:=om;have h3:=h.2.2 j 0 (by simpa using hj) Nat.one_pos;have e2:((l.map (Ty.cells E .str)).getD j []).getD 0 default=.str l[j]:=by simp_all[Ty.cells]
 have e1:xs.getD (j*1+0) undef=xs[j]:=by simp[h1]
 rw[e1,e2]at h3;rw[h3.iq,Sa];rfl
def ZO(F:Nat)(l:J (J UInt8)):O (J (J UInt8)):=rq (T1 (l.length<4611686018427387904)) (W0 (sF l))
def amg(E:TEnv)(f:FuncId)(e:aK)(F:Nat):bJ E:=⟨⟨f,[.one (.eA 0)],[],[(e,1)],⟨.one .any,[],[WP],[(0,.str)]⟩,WP,[(0,.str)]⟩,λ(x:J (J UInt8))=>ZO F x⟩
structure ahe(P:Program)(f:FuncId):Prop where
 enters:∀args w,(callFunc f args).run P w=.ok (.enter f args) w
 some:∀(blk cap:Nat)(ss:List (List UInt8))(w:World),Sort.Holds Go.Proofs.encStr w blk 0 ss.toArray->blk<w.heap.size->ss.length<4611686018427387904->Calls P f #[.slice (W0 ⟨blk,0,WP⟩) ss.length cap] w λe w'=>
   e=.returned (.tuple #[])/\∃n os,w'=Sort.grow (Sort.putRow Go.Proofs.encStr (Sort.ahead w n) blk 0 (ss.mergeSort λx y=>T1 (x<=y)).toArray) os
 none:∀(p:Option Addr)(cap:Nat)(w:World),Calls P f #[.slice p 0 cap] w λe w'=>e=.returned (.tuple #[])/\w'=w
theorem ang(h:ahe P f)(F:Nat):(amg E f e F).Ok P:=by
 have key:∀(l y:J (J UInt8)),ZO F l=W0 y->lK (E:=E) P f [.eA 0 0] [] [⟨0,e,1⟩] [(0,⟨.str,l⟩)] ⟨WF,.any,[],[⟨0,e,1⟩],[],[(0,⟨.str,y⟩)]⟩:=by
  intro l y hy;obtain⟨h1,h2⟩:=dX hy;rw[eT]at h1;cases h2;intro w G args hP hB hS hv;obtain⟨u,us,ha,vr,ri⟩:=hv.cons_inv;subst ri;have ha:args=#[u]:=by grind
  subst ha;unfold kB;rw[h.enters];have hr:=Rel.K3 (n:=0) hP hB hS .nil;obtain⟨v,hj,hs,hval⟩:=hr.soft (j:=0) rfl rfl;have lS:=hval u vr;subst lS;rcases hs.block with⟨q1,q2⟩|⟨b,cap,cur,q1,hheap,hcap,hcm,hcs,Mx,hnp⟩
  ·have q2:l=[]:=q2
   subst q2 q1;refine(h.none WP 0 w).mono λe' w' hh=>?_;obtain⟨rfl,rfl⟩:=hh;exact⟨_,G,rfl,kT.refl _ G,hB,hS,by simp[VT],λ_ _ _ _=>rfl⟩
  ·subst q1
   have hft:=Ya Mx;have hft:cur.toList.take l.length=l.map Go.Proofs.encStr:=by simp_all
   have hH:=Go.holds_of_block hheap hft;refine(h.some b cap l w hH (Av.1 hheap).1 h1).mono λe' w' hh=>?_;obtain⟨rfl,n,os,rfl⟩:=hh;rw[abr];have Mn:=(Dl l).length_eq;have hown:=Go.ownsRow_sorted (n:=n) (os:=os) Mn (gj _) hheap hcap hcm hcs;have hR:=hr.anf rfl rfl hj (Go.grownBy_sorted _) (by rw[Mn];exact hown) (agx (sF l));exact⟨_,G,rfl,hR.ff,hR.boxes,hR.gv,by simp[VT],λq b hq _=>hR.fix q b hq si⟩
 intro x y hy;exact key x y hy
def AP(F:Nat)(sep:J UInt8)(l:J (J UInt8)):O (J UInt8×J (J UInt8)):=(zB F l sep).bind λy=>W0 (y,l)
def aij(E:TEnv)(f:FuncId)(e:aK)(F:Nat):bJ E:=⟨⟨f,[.one (.eA 0),.one (.dat .str)],[],[(e,1)],⟨.one (.dat .str),[],[WP],[(0,.str)]⟩,WP,[(0,.str)]⟩,λ(x:J UInt8×J (J UInt8))=>AP F x.1 x.2⟩
theorem akF(h:ZV P f)(F:Nat):(aij E f e F).Ok P:=by
 have key:∀(sep y:J UInt8)(l z:J (J UInt8)),AP F sep l=W0 (y,z)->lK (E:=E) P f [.eA 0 0,.dat .str sep] [] [⟨0,e,1⟩] [(0,⟨.str,l⟩)] ⟨WF,.dat .str y,[],[⟨0,e,1⟩],[],[(0,⟨.str,z⟩)]⟩:=by
  intro sep y l z hy;unfold AP at hy
  cases hj:zB F l sep with
  | none=>rw[hj]at hy;cases hy
  | some y'=>
  rw[hj]at hy;cases hy;obtain⟨h1,h2⟩:=dX hj;rw[cH,eT,eT]at h1;cases h2;intro w G args hP hB hS hv;obtain⟨u,us,ha,vr,ri⟩:=hv.cons_inv;obtain⟨u2,Tr,sM,EO,J6⟩:=ri.cons_inv;have e2:=EO.iq;subst e2 J6 sM;have ha:args=#[u,mkStr sep]:=by grind
  subst ha;unfold kB;rw[h.enters];have hr:=Rel.K3 (n:=0) hP hB hS .nil;obtain⟨v,hj,hs,hval⟩:=hr.soft (j:=0) rfl rfl;have lS:=hval u vr;subst lS;rcases hs.block with⟨q1,q2⟩|⟨b,cap,cur,q1,hheap,hcap,hcm,hcs,Mx,hnp⟩
  ·have q2:l=[]:=q2
   subst q2 q1;refine(h.none WP 0 ⟨⟨sep⟩⟩ w).mono λe' w' hh=>?_;obtain⟨rfl,rfl⟩:=hh;exact⟨_,G,rfl,kT.refl _ G,hB,hS,.str _ _ _,λ_ _ _ _=>rfl⟩
  ·subst q1
   have hft:=Ya Mx;have hx:(l.map λs=>(⟨⟨s⟩⟩:ByteArray)).map (·.data.toList)=l:=by rw[yD];exact R8 l
   have Ut:=h.some b 0 cap (l.map λs=>⟨⟨s⟩⟩) ⟨⟨sep⟩⟩ w (λj x hjx=>by
     rw[Nw]at hjx;obtain⟨s,hs',rfl⟩:=PE.1 hjx;have hjl:=(eY.1 hs').1;have h3:(cur.toList.take l.length)[j]? = W0 (Go.Proofs.encStr s):=by simp_all
     rw[List.getElem?_take_of_lt hjl]at h3;have h4:cur[j]? = W0 (Go.Proofs.encStr s):=by simpa using h3
     simp[World.cell?,hheap,h4]) (Av.1 hheap).1 (by simpa using h1.1) (by
     simp_all) (by rw[hx];exact h1.2)
   rw[hx,mg]at Ut;refine Ut.mono λe' w' hh=>?_;obtain⟨rfl,Ig⟩:=hh;obtain⟨q1,q2,q4,q3⟩:=hB.grown hP hS ⟨Ig.size,λk hk=>Ig.block k hk⟩ Ig.os Ig.tape Ig.output;exact⟨_,G,rfl,q1,q2,q4,.str _ _ _,λq b hq _=>q3 q b hq⟩
 intro x y hy;exact key x.1 y.1 x.2 y.2 hy
def VX(F:Nat)(s sep:J UInt8):O (J UInt8×J UInt8×Bool):=rq (T1 (s.length<4294967281)) (W0 (Lib.cut s sep))
def apw(E:TEnv)(f:FuncId)(F:Nat):bJ E:=⟨⟨f,[.one (.dat .str),.one (.dat .str)],[],[],⟨.dG [.dat .str,.dat .str,.dat .bool],[],[],[]⟩,WP,[]⟩,λ(x:J UInt8×J UInt8)=>VX F x.1 x.2⟩
structure alV(E:TEnv)(P:Program)(f:FuncId):Prop where
 enters:∀args w,(callFunc f args).run P w=.ok (.enter f args) w
 call:∀(s sep:ByteArray)(w:World)(G:bx),qf E w G->s.size<4294967281->Calls P f #[.string s,.string sep] w λe w'=>
  e=.returned (.tuple #[.string ⟨(Lib.cut s.data.toList sep.data.toList).1.toArray⟩,.string ⟨(Lib.cut s.data.toList sep.data.toList).2.1.toArray⟩,.bool (Lib.cut s.data.toList sep.data.toList).2.2])/\∃n,w'=w.drewN n
theorem apx(h:alV E P f)(F:Nat):(apw E f F).Ok P:=by
 have key:∀(s sep a b:J UInt8)(c:Bool),VX F s sep=W0 (a,b,c)->lK (E:=E) P f [.dat .str s,.dat .str sep] [] [] [] ⟨WF,.tuple [.dat .str a,.dat .str b,.dat .bool c],[],[],[],[]⟩:=by
  intro s sep a b c hy;obtain⟨h1,h2⟩:=dX hy;rw[eT]at h1;have h2:=rQ h2;refine Dc h.enters λw G args hP hv=>⟨.tuple #[mkStr a,mkStr b,.bool c],λw G=>?_,?_⟩
  ·exact⟨_,rfl,.cons (.str _ _ _) (.cons (.str _ _ _) (.cons (.bool _ _ _) .nil))⟩
  obtain⟨u,us,ha,vr,ri⟩:=hv.cons_inv;obtain⟨u2,Tr,sM,EO,J6⟩:=ri.cons_inv;have e1:=vr.iq;have e2:=EO.iq;subst e1 e2 J6 sM;have ha:args=#[mkStr s,mkStr sep]:=by grind
  subst ha;have:=h.call ⟨⟨s⟩⟩ ⟨⟨sep⟩⟩ w G hP h1;refine this.mono λe' w' hh=>?_;obtain⟨rfl,n,rfl⟩:=hh;refine⟨?_,?_⟩
  ·rw[h2];rfl
  ·exact⟨rfl,rfl,rfl,eu _,λ_ _=>rfl⟩
 intro x y hy;exact key x.1 x.2 y.1 y.2.1 y.2.2 hy
end Go.RT
namespace Go.RT
open Go.RowKit
variable {E : TEnv}
def wR(n:Nat)(m:J (Nat×TV E)):J (TV E):=m.foldl (λt p=>t.set p.1 p.2) (RK n .any)
def SS(n:Nat)(m:J (Nat×TV E))(H:J (fK E))(g:J cL):TS E:=⟨wR n m,H,g,[],[],[]⟩
theorem SL:∀(m:J (Nat×TV E))(t:J (TV E)),(m.foldl (λt p=>t.set p.1 p.2) t).length=t.length/\∀j d,(m.foldl (λt p=>t.set p.1 p.2) t)[j]? = W0 d->t[j]? = W0 d\/(j,d)∈m
 | [],t=>⟨rfl,λj d h=>.inl h⟩
 | p::m,t=>by
  obtain⟨h1,h2⟩:=SL m (t.set p.1 p.2);refine⟨by simpa using h1,λj d h=>?_⟩;rcases h2 j d h with h|h
  ·by_cases e:p.1=j
   ·subst e
    have hl:p.1<t.length:=by
     have:=(eY.1 h).1;simpa using this
    rw[Zi hl]at h;cases h;exact .inr si
   ·rw[Nx e]at h
    exact .inl h
  ·exact .inr (by simp[h])
theorem uZ(n:Nat)(m:J (Nat×TV E)):(wR n m).length=n:=by simp_all[wR,SL]
variable{n:Nat}{m:J (Nat×TV E)}{j:Nat}
theorem xR{d:TV E}(h:(wR n m)[j]? = W0 d):d=.any\/(j,d)∈m:=by
 rcases(SL m _).2 j d h with h|h
 ·grind
 ·exact .inr h
variable{P:bh}{w0 w w':U}{G0 G G':bx}{st:TS E}{a:Act}{Q Q':Ex E -> TS E -> Prop}{c c':Code}{o:Oper}{H:J (fK E)}{g:J cL}{t:aK}{ops:aJ Oper}{e:aK}{j1 j2:Nat}{z:Value}{ie:TI}{e2:aK}{j3 cap aF:Nat}
theorem Rel.weak(hr:Rel E w0 G0 st a w G)(hi:G0.i=[]){t':J (TV E)}(hl:t'.length=st.t.length)(ht:∀(j:Nat) d,t'[j]? = W0 d->d=.any\/st.t[j]? = W0 d)(d':J Nat):
  Rel E w0 G0 {st with t:=t',d:=d'} a w G:=by
 refine⟨hr.ff,hr.size.trans hl.symm,λj d hj=>?_,hr.defers,hr.boxes,λr b hb=>?_,hr.pins,hr.gv⟩
 ·rcases ht j d hj with rfl|h
  ·simp[VT]
  ·exact hr.tmps j d h
 simp_all
def AW(P:bh)(w0:U)(G0:bx)(c:Code)(st:TS E)(Q:Ex E->TS E->Prop):Prop:=∀a w G,Rel E w0 G0 st a w G->c.wp P (cK E w0 G0 Q) a w
theorem AW.mono(h:AW P w0 G0 c st Q)(hq:∀x s,Q x s->Q' x s):AW P w0 G0 c st Q':=λa w G hr=>wp_mono (h a w G hr) λ_ _ _ hp=>cK.mono hq hp
theorem AW.seq(h:AW P w0 G0 c st (λx s=>(x=.normal/\AW P w0 G0 c' s Q)\/(x≠.normal/\Q x s))):AW P w0 G0 (.seq c c') st Q:=λa w G hr=>by
 refine wp_seq (wp_mono (h a w G hr) λe a' w' hp=>?_);obtain⟨x,s,G',he,hr',hq⟩:=hp;rcases hq with⟨rfl,hq⟩|⟨hne,hq⟩
 ·cases e<;>try (exact he.elim)
  exact hq a' w' G' hr'
 ·have rF:cK E w0 G0 Q e a' w':=⟨x,s,G',he,hr',hq⟩
  cases x with
  | normal=>exact(hne rfl).elim
  | _=>cases e<;>first|exact he.elim|exact rF
theorem AW.El(h:AW P w0 G0 c st (λx s=>x=.normal/\Q' x s))(h':∀s,Q' .normal s->AW P w0 G0 c' s Q):AW P w0 G0 (.seq c c') st Q:=
 AW.seq (h.mono λx s hq=>.inl ⟨hq.1,h' s (hq.1▸hq.2)⟩)
theorem AW.block{i:Nat}(h:AW P w0 G0 c st (λx s=>(x=.exit i/\Q .normal s)\/(x≠.exit i/\Q x s))):AW P w0 G0 (.block i c) st Q:=λa w G hr=>by
 refine wp_block (wp_mono (h a w G hr) λe a' w' hp=>?_);obtain⟨x,s,G',he,hr',hq⟩:=hp
 cases x with
 | exit j=>
  cases e<;>try (exact he.elim)
  rename_i i';subst he;simp[Exit.inBlock];rcases hq with⟨hx,hq⟩|⟨hx,hq⟩
  ·cases hx
   rw[if_pos rfl];exact⟨.normal,s,G',trivial,hr',hq⟩
  ·rw[if_neg (λe=>hx (by rw[e]))]
   exact⟨.exit i',s,G',rfl,hr',hq⟩
 | _=>
  rcases hq with⟨hx,-⟩|⟨-,hq⟩
  ·cases hx
  ·have rF:cK E w0 G0 Q e a' w':=⟨_,s,G',he,hr',hq⟩
   cases e<;>first|exact he.elim|exact rF
theorem AW.cond{o:dB}{b:Bool}(ho:st.ev o=.dat .bool b)(h:AW P w0 G0 (if b then c else c') st Q):AW P w0 G0 (.cond o c c') st Q:=λa w G hr=>by
 have hv:=hr.ev o;rw[ho]at hv;exact wp_cond hv.mu (h a w G hr)
theorem AW.skip(h:Q .normal st):AW P w0 G0 .skip st Q:=λa w G hr=>wp_skip ⟨.normal,st,G,trivial,hr,h⟩
theorem AW.ret(h:Q .ret st):AW P w0 G0 .ret st Q:=λa w G hr=>wp_ret ⟨.ret,st,G,trivial,hr,h⟩
theorem AW.exit{i:Nat}(h:Q (.exit i) st):AW P w0 G0 (.exit i) st Q:=λa w G hr=>wp_exit ⟨.exit i,st,G,rfl,hr,h⟩
theorem AW.loop{ι:Type}(S:ι->TS E)(I:ι->Prop)(μ:ι->Nat)(x0:ι)(h0:I x0)(hS:st=S x0)
  (hs:∀x,I x->AW P w0 G0 c (S x) (λe s=>(e=.normal/\∃y,I y/\μ y<μ x/\s=S y)\/(e≠.normal/\Q e s))):AW P w0 G0 (.loop c) st Q:=λa w G hr=>by
 subst hS;refine(wpIn_wide (n:=0)).1 (OK (ι:=ι) (λx a' w'=>I x/\∃G',Rel E w0 G0 (S x) a' w' G') μ x0 ⟨h0,G,hr⟩ ?_);rintro x a' w' ⟨hx,G',hr'⟩;refine(wpIn_wide).2 (wp_mono (hs x hx a' w' G' hr') λe a2 w2 hp=>?_);obtain⟨e',s,G2,he,hr2,hq⟩:=hp;rcases hq with⟨rfl,y,hy,hlt,rfl⟩|⟨hne,hq⟩
 ·cases e<;>try (exact he.elim)
  exact⟨y,⟨hy,G2,hr2⟩,hlt⟩
 ·have rF:cK E w0 G0 Q e a2 w2:=⟨e',s,G2,he,hr2,hq⟩
  cases e' with
  | normal=>exact(hne rfl).elim
  | _=>cases e<;>first|exact he.elim|exact rF
def proj(js:J Nat):Ex E->TS E->O (J (O (TV E))×J (fK E)×J cL×J (Nat×Cn E)×J (FuncId×J (TV E)))
 | .normal,s=>W0 (js.map λj=>s.t[j]?,s.H,s.g,s.c,s.df)
 | _,_=>WP
theorem AW.rt{X:Cx E}(hX:X.Ok)(hi:G0.i=[]){pl:dQ}{n:Nat}{m m':J (Nat×TV E)}{H H':J (fK E)}{g g':J cL}
  (h:runT X 0 c pl (SS n m H g) (proj (m'.map (·.1)))=W0 (m'.map (λp=>W0 p.2),H',g',[],[])) :
  AW X.P w0 G0 c (SS n m H g) (λx s=>x=.normal/\s=SS n m' H' g'):=λa w G hr=>by
 refine wp_mono ((ur hX c pl h).wp hr) λe a' w' hp=>?_;obtain⟨x,s,G',he,hr',hk,hF⟩:=hp
 cases x with
 | normal=>
  simp only[proj,aeI,Tg]at hk;obtain⟨k1,k2,k3,k4,k5⟩:=hk;obtain⟨t,H1,g1,d1,df1,c1⟩:=s;subst k2 k3 k4 k5;have hlen:t.length=n:=by rw[show t.length=_ from hF.len];exact uZ n m
  refine⟨.normal,SS n m' H1 g1,G',he,?_,rfl,rfl⟩;refine hr'.weak hi (by simp_all[uZ]) (λj d hj=>?_) [];rcases xR hj with h|h
  ·exact .inl h
  ·obtain⟨q,hq,he'⟩:=lH h
   have:=congrArg (λl=>l[q]?) k1
   simp_all
 | _=>cases hk
def akG(m:J (Nat×TV E)):Prop:=∀p∈m,∃t x,p.2=.dat t x
theorem Rel.abw(hr:Rel E w0 G0 (SS n m H g) a w G):kA E w' G' a.defers []:=by
 have h:=hr.defers
 cases hd:a.defers with
 | nil=>trivial
 | cons d ds=>rw[hd]at h;exact h.elim
theorem Rel.aik(hr:Rel E w0 G0 (SS n m H g) a w G)(hi:G0.i=[])(hm:akG m):Rel E w0 G0 (SS n m [] g) a w {G with i:=[]}:=by
 have ev:=hr.ff;refine⟨⟨ev.os,ev.tape,ev.output,ev.size,ev.old,⟨ev.goes.pr,ev.goes.cells,λr b h=>(by rw[hi]at h;cases h),ev.goes.g⟩,ev.oz,λr b _ h=>(by cases h),ev.gM⟩,hr.size,λj d hj=>?_,hr.abw,?_,λr b hb=>(by rw[hi]at hb;cases hb),hr.pins,λj c h=>(by cases h)⟩
 ·have hv:=hr.tmps j d hj
  rcases xR hj with rfl|h
  ·simp[VT]
  ·obtain⟨t,x,e⟩:=hm _ h
   subst e;exact hv.td (λ_ _ h=>h)
 ·refine⟨rfl,hr.boxes.gs,λr b x h=>(by cases h),λb h=>(by cases h),Gp,λb o hp=>⟨(hr.boxes.gu b o hp).1,λh=>by cases h⟩,λj x h hj=>?_,hr.boxes.apart⟩
  obtain⟨n',xs,h1,h2,h3⟩:=hr.boxes.grow j x h hj;exact⟨n',xs,h1,h2,λb hb=>⟨(h3 b hb).1,(λh=>by cases h),(h3 b hb).2.2⟩⟩
theorem VT.amh{t:Ty}{x:t.den E.D}{v:Value}(h:VT E w G (.dat t x) v)(hp:∀b o,G.pr b o->G'.pr b o)(hc:∀b o u,G.pr b o->w.cell? ⟨b,o,WP⟩=W0 u->w'.cell? ⟨b,o,WP⟩=W0 u):VT E w' G' (.dat t x) v:=
 (h.mono (show iK w G w' {G with pr:=G'.pr}from⟨hp,hc,λ_ _ h=>h,λj x y hj=>⟨x,y,hj,eu _,λ_=>rfl⟩⟩)).td (λ_ _ h=>h)
theorem wpList_step{Q:Exit->Act->U->Prop}{l:J Oper}{v:Value}(hg:o.guard=WP)(hrun:(execOp a.eval o).run P w=.ok (.value v) w')(h:wpList P ops Q l (a.put o.dst v) w'):wpList P ops Q (o::l) a w:=by
 unfold wpList;rw[if_pos (by simp[Region.wanted,hg])];left;unfold Oper.wp;rw[hrun];exact h
theorem OS(ho:o.op=.buildSlice t 1 #[(0,.const (.slice WP 0 0))])(ht:aV P t=W0 ⟨.slice e,j1,j2,z⟩)(hi:aV P e=W0 ie)(hs:ie.size=1)(a:Act)(w:U):
  (execOp a.eval o).run P w=.ok (.value (.slice (W0 ⟨w.heap.size,0,WP⟩) 1 1)) (w.alloc (.cells #[.slice WP 0 0] e)):=by
 obtain⟨xt,jU,eB,-⟩:=aP ht;obtain⟨xe,qI,Bb,hsz,-⟩:=aP hi
 have al6:∀base:aJ Value,base.size=1->Instr.fill (λi=>W0 (i*1,1)) base [(0,(.slice WP 0 0:Value))]=W0 #[.slice WP 0 0]:=by
  intro base hb;have h:=Of (k:=1) [(.slice WP 0 0:Value)] 0 base (by intro v hv;simp at hv;subst hv;rfl) (by simp[hb]);have hd:base.toList.drop 1=[]:=Y8 (by simp[hb]);simp only[qL,Ax]at h;rw[hd]at h;exact h
 simp only[execOp,ho,Instr.buildSlice,jm,aS eB,jL,fu qI,hsz,hs];rw[if_neg de,if_neg de];have hf:=al6 ((Array.range (1*1)).map (ie.zero.cells[· % ie.zero.cells.size]!)) si;simp only[jm,pz,nt hi,jL];have he:(#[(0,Operand.const (.slice WP 0 0))].map λx=>(x.1,a.eval x.2)).toList=[(0,(.slice WP 0 0:Value))]:=by simp[Act.eval]
 rw[he,hf];rfl
theorem Ku(n:Nat)(m m2:J (Nat×TV E)):wR n (m++m2)=m2.foldl (λt p=>t.set p.1 p.2) (wR n m):=by simp_all[wR,Jr]
theorem abx(a:Act)(v:Value)(h:j<a.tmps.size):(a.put (W0 j) v).eval (.tmp j)=v:=by
 show(a.put (W0 j) v).tmps.getD j undef=v;rw[CI,if_pos ⟨rfl,h⟩]
theorem run_assign{x:dB}(ho:o.op=.assign x)(a:Act)(w:U):(execOp a.eval o).run P w=.ok (.value (a.eval x)) w:=by simp[execOp,ho]
theorem run_move{x:dB}(ho:o.op=.move x)(a:Act)(w:U):(execOp a.eval o).run P w=.ok (.value (a.eval x)) w:=by simp[execOp,ho]
theorem AW.aq2{id:Nat}{o0 o1:Oper}(nw:ops.toList=[o0,o1]){j6:Nat}(h0:o0.op=.buildSlice t 1 #[(0,.const (.slice WP 0 0))])(g0:o0.guard=WP)(d0:o0.dst=W0 j6)
  (h1:o1.op=.assign (.tmp j6)) (g1:o1.guard=WP) (d1:o1.dst=W0 j3) (ht:aV P t=W0 ⟨.slice e,j1,j2,z⟩) (hi:aV P e=W0 ie) (hs:ie.size=1) (tR:Ty) {m':J (Nat×TV E)} (hn:j6<n) (MD:G0.i=[])
  (hsub:∀p∈m',(wR n (m++[(j6,.any),(j3,.iz 0 1 1)]))[p.1]? = W0 p.2) :
  AW P w0 G0 (.region id ops UV) (SS n m [] []) (λx s=>x=.normal/\s=SS n m' [.lI e 1 (.bq tR) [] (.cA 0 0 tR [])] [⟨0,e2,tR.size E⟩]):=by
 intro a w G hr;refine wp_region_list ?_;rw[nw];have hsz:=hr.size.trans (uZ n m);have hGi:=Ei hr.boxes.len;refine wpList_step g0 (OS h0 ht hi hs a w) ?_;refine wpList_step g1 (run_assign h1 _ _) ?_;rw[d0,abx _ _ (by rw[hsz];exact hn)];have r1:=hr.Ko e2 (tR.size E);have hgl:=hr.qm
 have r2:=r1.Kl (.cells #[.slice WP 0 0] e) (.lI e 1 (.bq tR) [] (.cA 0 0 tR [])) (by
  refine⟨#[.slice WP 0 0],heap_alloc_new w _,rfl,λi x hx=>(by cases hx),?_,Nat.one_pos⟩
  ·exact Oh hgl e2 tR)
 have r3:=r2.put (v:=.slice (W0 ⟨w.heap.size,0,WP⟩) 1 1) (d:=.any) (by simp[VT]) (W0 j6)
 have r4:=r3.put (v:=.slice (W0 ⟨w.heap.size,0,WP⟩) 1 1) (d:=.iz 0 1 1) (by
  simp_all[VT]) (W0 j3)
 rw[d1];refine⟨.normal,_,_,trivial,r4.weak MD (by simp[SS,cz,uZ]) (λj d hj=>?_) [],rfl,rfl⟩;rcases xR hj with h|h
 ·exact .inl h
 ·right
  have:=hsub _ h;rw[Ku]at this;exact this
theorem AW.anh(hE:E.Ok){id:Nat}{o0 o1 o2 o3:Oper}(nw:ops.toList=[o0,o1,o2,o3]){j3 ER Gv NJ:Nat}(h0:o0.op=.move (.tmp j3))(g0:o0.guard=WP)(d0:o0.dst=W0 ER)
  (h1:o1.op=.buildSlice t 1 #[(0,.const (.slice WP 0 0))]) (g1:o1.guard=WP) (d1:o1.dst=W0 Gv) {cl:Call} (h2:o2.op=.call cl) (hcl:cl.callee=.builtin .append) (ha:cl.args=#[.tmp ER,.tmp Gv]) (hat:cl.argTypes=#[t,t]) (g2:o2.guard=WP) (d2:o2.dst=W0 NJ)
  (h3:o3.op=.assign (.tmp NJ)) (g3:o3.guard=WP) (d3:o3.dst=W0 j3) (ht:aV P t=W0 ⟨.slice e,j1,j2,z⟩) (hi:aV P e=W0 ie) (hs:ie.size=1) (hzs:ie.zero.cells.size=ie.size) (tR:Ty)
  {m0:J (Nat×TV E)} (hm0:akG m0) (hn:ER<n/\Gv<n/\NJ<n/\ER≠Gv) (MD:G0.i=[])  {xs:J (J (tR.den E.D))} {last:J (tR.den E.D)}
  (hj3:(wR n (m0++[(j3,.iz 0 (xs.length+1) cap)]))[j3]? = W0 (.iz 0 (xs.length+1) cap)) (hlen:(xs.length+2)*ie.bytes<=140737488355328) (apy:xs.length+2<=9223372036854775807)
  (hsub:∀c':Nat,∀p∈m0++[(j3,.iz 0 (xs.length+2) c')],(wR n ((((m0++[(ER,.any)])++[(Gv,.any)])++[(NJ,.any)])++[(j3,.iz 0 (xs.length+2) c')]))[p.1]? = W0 p.2) (hmd:∀p∈m0,(wR n (m0++[(j3,.iz 0 (xs.length+1) cap)]))[p.1]? = W0 p.2) :
  AW P w0 G0 (.region id ops UV) (SS n (m0++[(j3,.iz 0 (xs.length+1) cap)]) [.lI e cap (.bq tR) xs (.cA 0 aF tR last)] [⟨aF,e2,tR.size E⟩])
   (λx s=>x=.normal/\∃c',s=SS n (m0++[(j3,.iz 0 (xs.length+2) c')]) [.lI e c' (.bq tR) (xs++[last]) (.cA 0 (aF+1) tR [])] [⟨aF+1,e2,tR.size E⟩]):=by
 intro a w G hr;refine wp_region_list ?_;rw[nw];have hsz:a.tmps.size=n:=hr.size.trans (uZ n _);obtain⟨xt,jU,eB,-⟩:=aP ht;obtain⟨xe,qI,Bb,hsize,hby,hz⟩:=aP hi;have EO:=hr.tmps j3 _ hj3;simp only[VT]at EO;obtain⟨b,EO,akH⟩:=EO
 have hGi:G.i=[b]:=by
  have hl:G.i.length=1:=hr.boxes.len
  match hq:G.i,hl with
  | [b'],_=>simp_all
 obtain⟨cur,c1,c2,c4,c5,c6⟩:=hr.box (x:=.lI e cap (.bq tR) xs (.cA 0 aF tR last)) akH rfl;have akI:b<w.heap.size:=(Av.1 c1).1;obtain⟨hd,hrow⟩:=hr.Bi (j:=0) (g:=⟨aF,e2,tR.size E⟩) rfl
 have apz:VT E w G (.dat (.bq tR) last) (cur.getD xs.length undef):=by
  have h5:=c5;simp only[VT]at h5;exact .list h5.1
 have aq3:Rel E w0 G0 (SS n m0 [] [⟨aF,e2,tR.size E⟩]) a w {G with i:=[]}:=by
  have h:=hr.weak MD (t':=wR n m0) (by simp[SS,uZ]) (λj d hj=>by
   rcases xR hj with h|h
   ·exact .inl h
   ·exact .inr (hmd _ h)) []
  exact h.aik MD hm0
 have hpb:∀o,¬ G.pr b o:=λo hp=>(hr.boxes.gu b o hp).2 (by rw[hGi];simp);refine wpList_step g0 (run_move h0 a w) ?_;refine wpList_step g1 (OS h1 ht hi hs _ w) ?_;obtain⟨a2,sM⟩:∃a2,((a.put o0.dst (a.eval (.tmp j3))).put o1.dst (.slice (W0 ⟨w.heap.size,0,WP⟩) 1 1))=a2:=⟨_,rfl⟩;rw[sM];have asD:a2.tmps.size=n:=by grind[Lj]
 have e54:a2.eval (.tmp Gv)=.slice (W0 ⟨w.heap.size,0,WP⟩) 1 1:=by rw[<-sM,d1];exact abx _ _ (by simp_all[Lj])
 have e53:a2.eval (.tmp ER)=.slice (W0 ⟨b,0,WP⟩) (xs.length+1) cap:=by
  rw[<-sM,d1,d0];show((a.put (W0 ER) (a.eval (.tmp j3))).put (W0 Gv) _).tmps.getD ER undef=_;rw[CI,if_neg (λh=>hn.2.2.2 (rQ h.1).symm),CI,if_pos ⟨rfl,by rw[hsz];exact hn.1⟩];exact EO
 obtain⟨W,hW⟩:∃W,w.alloc (.cells #[.slice WP 0 0] e)=W:=⟨_,rfl⟩;rw[hW];have hbW:W.heap[b]? = W0 (.cells cur e (0,0)):=by rw[<-hW,(fh.alloc w _).2 b akI];exact c1
 have hcW:W.cell? ⟨w.heap.size,0,WP⟩=W0 (.slice WP 0 0):=by rw[<-hW,cell_of_row _ w.heap.size 0 _ e (0,0) (heap_alloc_new w _)];rfl
 have hsrc:Src P xe.size t (.slice (W0 ⟨w.heap.size,0,WP⟩) 1 1) 1 [.slice WP 0 0] W:=Src.ofSlice W eB _ 1 1 _ (by rw[hsize,hs];rfl) (λj u hj=>by
  match j,hj with
  | 0,hj=>simp at hj;subst hj;exact hcW
  | j+1,hj=>simp at hj) (λu hu=>by simp at hu;subst hu;rfl)
 have afG:cur.toList.length=cap:=by rw[<-c2];simp
 have key:∀(c':Nat)(W':World)(cur':Array Value)(b':Nat),(Builtin.append_ #[t,t] o2.type #[.slice (W0 ⟨b,0,WP⟩) (xs.length+1) cap,.slice (W0 ⟨w.heap.size,0,WP⟩) 1 1]).run P W=.ok (.slice (W0 ⟨b',0,WP⟩) (xs.length+2) c') W' ->
   (∃G',Rel E w0 G0 (SS n m0 [.lI e c' (.bq tR) (xs++[last]) (.cA 0 (aF+1) tR [])] [⟨aF+1,e2,tR.size E⟩]) a W' G'/\G'.i=[b']) ->
   wpList P ops (cK E w0 G0 (λx s=>x=.normal/\∃c',s=SS n (m0++[(j3,.iz 0 (xs.length+2) c')]) [.lI e c' (.bq tR) (xs++[last]) (.cA 0 (aF+1) tR [])] [⟨aF+1,e2,tR.size E⟩])) [o2,o3] a2 W:=by
  intro c' W' cur' b' hrun hG';obtain⟨G',hR,hi'⟩:=hG';refine wpList_step g2 (v:=.slice (W0 ⟨b',0,WP⟩) (xs.length+2) c') (w':=W') ?_ ?_
  ·unfold execOp
   simp only[h2,resolve,hcl,jm,pz,jL,invoke,builtin,ha,hat,List.map_toArray,jY,Nu]
   simp_all
  refine wpList_step g3 (run_assign h3 _ _) ?_;rw[d2,abx _ _ (by rw[asD];exact hn.2.2.1),d3,<-sM,d0,d1];have r1:=hR.put (v:=a.eval (.tmp j3)) (d:=.any) (by simp only[VT]) (W0 ER);have r2:=r1.put (v:=.slice (W0 ⟨w.heap.size,0,WP⟩) 1 1) (d:=.any) (by simp only[VT]) (W0 Gv);have r3:=r2.put (v:=.slice (W0 ⟨b',0,WP⟩) (xs.length+2) c') (d:=.any) (by simp only[VT]) (W0 NJ)
  have r4:=r3.put (v:=.slice (W0 ⟨b',0,WP⟩) (xs.length+2) c') (d:=.iz 0 (xs.length+2) c') (by
   simp_all[VT]) (W0 j3)
  refine⟨.normal,_,_,trivial,r4.weak MD (t':=wR n (m0++[(j3,.iz 0 (xs.length+2) c')])) (by simp[SS,cz,uZ]) (λj d hj=>?_) [],rfl,c',rfl⟩;rcases xR hj with h|h
  ·exact .inl h
  ·right
   have:=hsub c' _ h;rw[Ku,Ku,Ku,Ku]at this;exact this
 by_cases hroom:xs.length+1+1<=cap
 ·have Ua:(xs.length+1)*xe.size+1<=cur.size:=by rw[hsize,hs,c2];omega
  have hr':=run_append_room_src (P:=P) W t t o2.type e xe eB qI b 0 (xs.length+1) cap _ 1 _ hsrc hroom
   (λj hj=>by
    have hj:j<1:=hj;rw[cell_of_row W b _ cur e (0,0) hbW]
    grind)
   (λj hj=>frozen_of_row W b _ cur e hbW)
  rw[qJ,Bf b e [.slice WP 0 0] ((xs.length+1)*xe.size) cur W hbW (by simpa using Ua)]at hr';obtain⟨new,hnew⟩:∃new,(cur.toList.take ((xs.length+1)*xe.size)++[(.slice WP 0 0:Value)]++cur.toList.drop ((xs.length+1)*xe.size+[(.slice WP 0 0:Value)].length)).toArray=new:=⟨_,rfl⟩;rw[hnew]at hr';refine key cap (W.setRow b new) new b hr' ?_
  have Ol:∀q,q<=xs.length+1->new.getD q undef=if q=xs.length+1 then .slice WP 0 0 else cur.getD q undef:=by
   intro q hq;rw[PD,PD,<-hnew,List.getElem?_toArray,hsize,hs,Td];have htl:(cur.toList.take (xs.length+1)).length=xs.length+1:=by grind
   by_cases h1:q=xs.length+1
   ·simp_all
   grind
  have uK:new.size=cap:=by
   grind
  have hGr:=hr.grow (fh.alloc w (.cells #[.slice WP 0 0] e)) rfl rfl rfl G.pr (λ_ _ h=>h) (λ_ _ _ h=>h) (λb o hp=>jS (hr.boxes.gu b o hp).1 si);rw[hW]at hGr;have r1:=hGr.Qs (x':=⟨aF+1,e2,tR.size E⟩) (hd':=.slice WP 0 0) hrow (Js _) (xO _) (λc h=>by cases h) (λb hb=>nomatch hb) (λ_ _ _ _ _ _ _ hb=>nomatch hb)
  have r2:=r1.weak MD (t':=wR n m0) (by simp[SS,uZ]) (λj d hj=>by
   rcases xR hj with h|h
   ·exact .inl h
   ·exact .inr (hmd _ h)) []
  obtain⟨atr,x1,x2,x4,x5,x6⟩:=r2.box (x:=.lI e cap (.bq tR) xs (.cA 0 aF tR last)) akH rfl;rw[hbW]at x1;cases x1;have hgl:0<G.g.length:=(eY.1 hrow).1
  have r3:=r2.yZ (w':=W.setRow b new) (r:=0) akH si rfl rfl rfl (λb' hb'=>setRow_other W b b' _ hb') (x:=.lI e cap (.bq tR) (xs++[last]) (.cA 0 (aF+1) tR [])) (λhg=>by
   refine⟨new,setRow_heap W b cur _ e _ hbW,uK,λq x hx=>?_,?_,bp⟩
   ·have hq:q<xs.length+1:=by grind
    rw[Ol q om,if_neg om];by_cases h1:q<xs.length
    ·rw[vP h1]at hx
     exact(x4 q x hx).mono hg
    ·obtain rfl:q=xs.length:=om
     simp at hx;subst hx;simp only[VT]at x5;exact(VT.list x5.1).mono hg
   ·simp only[vi,qL,Ax,qJ]
    rw[Ol _ (eu _),if_pos rfl];simp only[VT];exact⟨.vo _ _,⟨aF+1,e2,tR.size E⟩,.slice WP 0 0,by simp[hgl],eu _,λ_=>rfl⟩)
  exact⟨_,r3.weak MD (t':=wR n m0) rfl (λj d hj=>.inr hj) [],hGi⟩
 ·have hlt:cap<xs.length+1+1:=om
  have atg:cap=xs.length+1:=om;have hfit:=growslice_fits (need:=xs.length+1+1) (old:=cap) (bytes:=xe.bytes) hlt (by rw[hby];exact hlen)
  have XG:(Builtin.firstCells xe.size (xs.length+1) (.slice (W0 ⟨b,0,WP⟩) (xs.length+1) cap)).run P W.drew=.ok cur.toList.toArray W.drew:=
   run_firstCells_some W.drew xe.size (xs.length+1) ⟨b,0,WP⟩ (xs.length+1) cap cur.toList (by simp_all) (λj v hj=>by
    have e1:(W.drew).cell? (Addr.add ⟨b,0,WP⟩ j)=W.cell? ⟨b,j,WP⟩:=by rw[add_lit,qJ];rfl
    rw[e1,cell_of_row W b j cur e (0,0) hbW];simpa using hj)
  have hr':=run_append_grow_src (P:=P) W t t o2.type e xe ie.zero eB qI hz (W0 ⟨b,0,WP⟩) (xs.length+1) cap cur.toList XG _ 1 _ hsrc hlt om hfit;have afR:=grownCap_ge W (xs.length+1+1) cap e;generalize grownCap W (xs.length+1+1) cap e=cap' at hr' afR;obtain⟨cs,hcs⟩:∃cs,(cur.toList++[(.slice WP 0 0:Value)]).toArray++Builtin.zeroCells ie.zero.cells (cap'-(xs.length+1+1))=cs:=⟨_,rfl⟩;rw[hcs]at hr';refine key cap' (W.drew.alloc (.cells cs e)) cs W.heap.size hr' ?_;have hcl:cs.toList=(cur.toList++[(.slice WP 0 0:Value)])++(Builtin.zeroCells ie.zero.cells (cap'-(xs.length+1+1))).toList:=by rw[<-hcs];simp
  have uK:cs.size=cap':=by
   rw[<-hcs,aeE,size_zeroCells,hzs,hs,aeF,vi,afG]
   simp_all
  have Ol:∀q,q<=xs.length+1->cs.getD q undef=if q=xs.length+1 then .slice WP 0 0 else cur.getD q undef:=by
   intro q hq;rw[PD,PD,<-Array.getElem?_toList,hcl]
   grind
  have d1':=aq3.grow (fh.alloc w (.cells #[.slice WP 0 0] e)) rfl rfl rfl G.pr (λ_ _ h=>h) (λ_ _ _ h=>h) (λb o hp=>jS (hr.boxes.gu b o hp).1 si);rw[hW]at d1';have d2':=d1'.Qs (x':=⟨aF+1,e2,tR.size E⟩) (hd':=.slice WP 0 0) hrow (Js _) (xO _) (λc h=>by cases h) (λb hb=>nomatch hb) (λ_ _ _ _ _ _ _ hb=>nomatch hb);have d3':=d2'.grow (w':=W.drew) ⟨eu _,λ_ _=>rfl⟩ rfl rfl rfl G.pr (λ_ _ h=>h) (λ_ _ _ h=>h) (λb o hp=>(d2'.boxes.gu b o hp).1);have hgl:0<G.g.length:=(eY.1 hrow).1
  have hsame:∀b o u,G.pr b o->w.cell? ⟨b,o,WP⟩=W0 u->(W.drew.alloc (.cells cs e)).cell? ⟨b,o,WP⟩=W0 u:=λb o u hp hu=>by
   have q1:W.cell? ⟨b,o,WP⟩=W0 u:=by rw[<-hW];exact(fh.alloc w _).cell hu
   have q2:(W.drew).cell? ⟨b,o,WP⟩=W0 u:=q1;exact(fh.alloc W.drew _).cell q2
  have d4':=d3'.Kl (.cells cs e) (.lI e cap' (.bq tR) (xs++[last]) (.cA 0 (aF+1) tR [])) (by
   refine⟨cs,heap_alloc_new _ _,uK,λq x hx=>?_,?_,bp⟩
   ·have hq:q<xs.length+1:=by grind
    rw[Ol q om,if_neg om];by_cases h1:q<xs.length
    ·rw[vP h1]at hx
     exact(c4 q x hx).amh (λ_ _ h=>h) hsame
    ·obtain rfl:q=xs.length:=om
     simp at hx;subst hx;exact apz.amh (λ_ _ h=>h) hsame
   ·simp only[vi,qL,Ax,qJ]
    rw[Ol _ (eu _),if_pos rfl];simp only[VT];exact⟨.vo _ _,⟨aF+1,e2,tR.size E⟩,.slice WP 0 0,by simp[hgl],eu _,λ_=>rfl⟩)
  exact⟨_,d4'.weak MD (t':=wR n m0) rfl (λj d hj=>.inr hj) [],rfl⟩
theorem amz{k2:Nat}{tR:Ty}{xs:J (J (tR.den E.D))}{last:J (tR.den E.D)}(hr:Rel E w0 G0 (SS n m [.lI e cap (.bq tR) xs (.cA 0 aF tR last)] [⟨aF,e2,k2⟩]) a w G)
  (hi:G0.i=[]) (hg:G0.g=[]) (hj:(wR n m)[j]? = W0 (.iz 0 (xs.length+1) cap)) :
  ∃G',kT w0 G0 w G'/\lW E w G' [] []/\kN E w G' []/\VT E w G' (.dat (.bq (.bq tR)) (xs++[last])) (a.tmps.getD j undef):=by
 have hv:=hr.tmps j _ hj;obtain⟨b,hv,hat⟩:=hv;obtain⟨cur,c1,c2,c4,c5,c6⟩:=hr.box hat rfl;have akI:=(Av.1 c1).1;have ev:=hr.ff;have hnew:=ev.qO 0 b (by simp_all) hat;refine⟨⟨[],[],λb' o=>G.pr b' o\/(b'=b/\o<xs.length+1)⟩,?_,?_,λj c h=>(by cases h),?_⟩
 ·refine⟨ev.os,ev.tape,ev.output,ev.size,ev.old,⟨λb o h=>.inl (ev.goes.pr b o h),ev.goes.cells,λr b h=>(by rw[hi]at h;cases h),λj x h hj=>(by rw[hg]at hj;cases hj)⟩,λb' o hb hp=>?_,λr b _ h=>(by cases h),λj x h b hj=>(by cases hj)⟩
  rcases hp with hp|⟨rfl,-⟩
  ·exact ev.oz b' o hb hp
  ·omega
 ·refine⟨rfl,rfl,λr b x h=>(by cases h),λb h=>(by cases h),Gp,λb' o hp=>⟨?_,λh=>by cases h⟩,λj x h hj=>(by cases hj),λj j' x h x' h' b hj=>(by cases hj)⟩
  rcases hp with hp|⟨rfl,-⟩
  ·exact(hr.boxes.gu b' o hp).1
  ·exact akI
 ·rw[hv]
  refine .list ?_;have hl:((xs++[last]).map (Ty.cells E (.bq tR))).length=xs.length+1:=by simp
  have hD:∀q,q<xs.length+1->VT E w G (.dat (.bq tR) ((xs++[last]).getD q [])) (cur.getD q undef):=by
   intro q hq;by_cases h1:q<xs.length
   ·simp_all
   ·obtain rfl:q=xs.length:=om
    rw[show(xs++[last]).getD xs.length []=last by simp];exact .list c5.1
  have:=Ob (w:=w) (pr:=λb' o=>G.pr b' o\/(b'=b/\o<xs.length+1)) (b:=b) (cap:=cap) (k:=1) (xs:=cur.toList.take (xs.length+1)) (by rw[hl];omega)
   (λq hq=>by
    grind[cell_of_row])
   ⟨by grind,λq hq=>by
    have:q<(xs++[last]).length:=by simpa using hq
    simp only[List.getD,Nw,fJ this];rfl,λq l hq hl'=>by
    rw[hl]at hq;obtain rfl:l=0:=om;have h2:q<(xs++[last]).length:=by simpa using hq
    have h3:=((hD q hq).atom rfl).tN
    have e1:(cur.toList.take (xs.length+1)).getD (q*1+0) undef=cur.getD q undef:=by
     simp_all
    have e2:((((xs++[last]).map (Ty.cells E (.bq tR))).getD q []).getD 0 default)=.slice (tR.size E) (((xs++[last]).getD q []).map (tR.cells E)):=by
     simp only[List.getD,Nw,fJ h2];rfl
    rw[e1,e2];exact h3.mono (λ_ _ h=>.inl h) (λ_ _ _ _ h=>h)⟩
  rw[hl]at this;exact this
def opsOf:Code->aJ Oper
 | .region _ ops _=>ops
 | _=>#[]
def apA:Code->Nat
 | .region i _ _=>i
 | _=>0
theorem AW.aon(e2:aK){j6:Nat}(hc:c=.region (apA c) (opsOf c) UV)
  (nw:(opsOf c).toList.map (λo=>(o.dst,o.op,o.guard))=[(W0 j6,.buildSlice t 1 #[(0,.const (.slice WP 0 0))],WP),(W0 j3,.assign (.tmp j6),WP)]) (ht:aV P t=W0 ⟨.slice e,j1,j2,z⟩) (hi:aV P e=W0 ie) (hs:ie.size=1) (tR:Ty) {m':J (Nat×TV E)} (hn:j6<n) (MD:G0.i=[])
  (hsub:∀p∈m',(wR n (m++[(j6,.any),(j3,.iz 0 1 1)]))[p.1]? = W0 p.2) :
  AW P w0 G0 c (SS n m [] []) (λx s=>x=.normal/\s=SS n m' [.lI e 1 (.bq tR) [] (.cA 0 0 tR [])] [⟨0,e2,tR.size E⟩]):=by
 obtain⟨o0,l1,h0,f0,nw⟩:=PV.1 nw;obtain⟨o1,l2,h1,f1,nw⟩:=PV.1 nw;have h2:=List.map_eq_nil_iff.1 nw;subst h2 h1;simp at f0 f1;rw[hc];exact AW.aq2 h0 f0.2.1 f0.2.2 f0.1 f1.2.1 f1.2.2 f1.1 ht hi hs tR hn MD hsub
theorem AW.ajA(hE:E.Ok){j3 ER Gv NJ:Nat}{cl:Call}(hc:c=.region (apA c) (opsOf c) UV)
  (nw:(opsOf c).toList.map (λo=>(o.dst,o.op,o.guard))=[(W0 ER,.move (.tmp j3),WP),(W0 Gv,.buildSlice t 1 #[(0,.const (.slice WP 0 0))],WP),(W0 NJ,.call cl,WP),(W0 j3,.assign (.tmp NJ),WP)])
  (hcl:cl.callee=.builtin .append) (ha:cl.args=#[.tmp ER,.tmp Gv]) (hat:cl.argTypes=#[t,t]) (ht:aV P t=W0 ⟨.slice e,j1,j2,z⟩) (hi:aV P e=W0 ie) (hs:ie.size=1) (hzs:ie.zero.cells.size=ie.size) (tR:Ty)
  {m0:J (Nat×TV E)} (hm0:akG m0) (hn:ER<n/\Gv<n/\NJ<n/\ER≠Gv) (MD:G0.i=[])  {xs:J (J (tR.den E.D))} {last:J (tR.den E.D)}
  (hj3:(wR n (m0++[(j3,.iz 0 (xs.length+1) cap)]))[j3]? = W0 (.iz 0 (xs.length+1) cap)) (hlen:(xs.length+2)*ie.bytes<=140737488355328) (apy:xs.length+2<=9223372036854775807)
  (hsub:∀c':Nat,∀p∈m0++[(j3,.iz 0 (xs.length+2) c')],(wR n ((((m0++[(ER,.any)])++[(Gv,.any)])++[(NJ,.any)])++[(j3,.iz 0 (xs.length+2) c')]))[p.1]? = W0 p.2) (hmd:∀p∈m0,(wR n (m0++[(j3,.iz 0 (xs.length+1) cap)]))[p.1]? = W0 p.2) :
  AW P w0 G0 c (SS n (m0++[(j3,.iz 0 (xs.length+1) cap)]) [.lI e cap (.bq tR) xs (.cA 0 aF tR last)] [⟨aF,e2,tR.size E⟩])
   (λx s=>x=.normal/\∃c',s=SS n (m0++[(j3,.iz 0 (xs.length+2) c')]) [.lI e c' (.bq tR) (xs++[last]) (.cA 0 (aF+1) tR [])] [⟨aF+1,e2,tR.size E⟩]):=by
 obtain⟨o0,l1,h0,f0,nw⟩:=PV.1 nw;obtain⟨o1,l2,h1,f1,nw⟩:=PV.1 nw;obtain⟨o2,l3,h2,f2,nw⟩:=PV.1 nw;obtain⟨o3,l4,h3,f3,nw⟩:=PV.1 nw;have h4:=List.map_eq_nil_iff.1 nw;subst h4 h3 h2 h1;simp at f0 f1 f2 f3;rw[hc];exact AW.anh hE h0 f0.2.1 f0.2.2 f0.1 f1.2.1 f1.2.2 f1.1 f2.2.1 hcl ha hat f2.2.2 f2.1 f3.2.1 f3.2.2 f3.1 ht hi hs hzs tR hm0 hn MD hj3 hlen apy hsub hmd
theorem AW.sub{m':J (Nat×TV E)}(hi:G0.i=[])(hs:∀p∈m',(wR n m)[p.1]? = W0 p.2)(h:AW P w0 G0 c (SS n m' H g) Q):AW P w0 G0 c (SS n m H g) Q:=λa w G hr=>
 h a w G (hr.weak hi (by simp[SS,uZ]) (λj d hj=>by
  rcases xR hj with h|h
  ·exact .inl h
  ·exact .inr (hs _ h)) [])
theorem Rel.arV{m':J (Nat×TV E)}(hi:G0.i=[])(hs:∀p∈m',(wR n m)[p.1]? = W0 p.2)(h:Rel E w0 G0 (SS n m H g) a w G):Rel E w0 G0 (SS n m' H g) a w G:=
 h.weak hi (by simp[SS,uZ]) (λj d hj=>by
  rcases xR hj with h|h
  ·exact .inl h
  ·exact .inr (hs _ h)) []
def asE(m:J (Nat×TV E)):Prop:=∀p∈m,(∃t x,p.2=.dat t x)\/∃r n cap,p.2=.iz r n cap
theorem Rel.ajy{T tR:Ty}{xs:J (T.den E.D)}{last:J (tR.den E.D)}{g0:cL}{gs:J cL}(hr:Rel E w0 G0 (SS n m [.lI e cap T xs (.cA 0 aF tR last)] (g0::gs)) a w G)(hg:G0.g=[])(hm:asE m):
  Rel E w0 G0 (SS n m [.lI e cap T xs (.cA 0 aF tR last)] [g0]) a w {G with g:=G.g.take 1}:=by
 have ev:=hr.ff
 have hsub:∀(j:Nat) y,(G.g.take 1)[j]? = W0 y->G.g[j]? = W0 y:=λj y h=>by
  grind
 refine⟨⟨ev.os,ev.tape,ev.output,ev.size,ev.old,⟨ev.goes.pr,ev.goes.cells,ev.goes.i,λj x h hj=>(by rw[hg]at hj;cases hj)⟩,ev.oz,ev.qO,λj x h b hj hb=>ev.gM j x h b (hsub j _ hj) hb⟩,hr.size,λj d hj=>?_,hr.abw,?_,hr.fix,hr.pins,λj c h=>(by cases h)⟩
 ·have hv:=hr.tmps j d hj
  rcases xR hj with rfl|h
  ·simp[VT]
  ·rcases hm _ h with⟨t,x,e⟩|⟨r,n,cap,e⟩
   ·subst e
    exact hv.td (λ_ _ h=>h)
   simp_all[VT]
 ·refine⟨hr.boxes.len,?_,λr b x hb hx=>?_,hr.boxes.lt,hr.boxes.nodup,hr.boxes.gu,λj x h hj=>?_,λj j' x h x' h' b hj hj'=>hr.boxes.apart j j' x h x' h' b (hsub j _ hj) (hsub j' _ hj')⟩
  ·have:=hr.boxes.gs
   rw[List.map_take,this];rfl
  ·have h:=hr.boxes.box r b x hb hx
   cases r with
   | succ r=>simp[SS]at hx
   | zero=>
    simp[SS]at hx;subst hx;obtain⟨cur,c1,c2,c4,c5,c6⟩:=h;refine⟨cur,c1,c2,λi x hx=>(c4 i x hx).td (λ_ _ h=>h),?_,c6⟩
    simp_all[VT,Zb]
  ·obtain⟨n',xs',h1,h2,h3⟩:=hr.boxes.grow j x h (hsub j _ hj)
   exact⟨n',xs',h1,h2,h3⟩
end Go.RT
