import Derived.Test.YtpgbhdldcmcenaaGreatDoorRh
import Derived.Lib.LaidTab
import Derived.Shelf.Strconv.Itoa3
import Derived.OpenShut
import Derived.RowKit
import Derived.Sort.KeysCollected
import Derived.Sort.OwnSorted
import Derived.Lib.Join
import Derived.Lib.Split
import Derived.Lib.LastIndexByte
import Derived.Lib.IndexAny
import Derived.Lib.Repeat
set_option linter.all false
namespace Go.RT
variable {E : TEnv}
variable{X:Cx E}{w:U}{P:bh}{f:FuncId}{fn:Func}{G:bq}{ds:J (TV E)}{F:Nat}{pl:dN}{C:bJ E}{args:aG Value}{n:Nat}
theorem enters_of{c:Code}(hf:P.funcs[f]? = some fn)(hb:fn.body=some c)(hn:(fn.name == "runtime.NumGoroutine")=false):∀args w,(callFunc f args).run P w=.ok (.enter f args) w:=fun args w=>by
 simp only [callFunc,jf,run_program,jG,hf,hn,hb];simp
def Oq(X:Cx E)(s:dc)(fn:Func)(bR:TS E):(p:O Outs)->O (TV E)->TS E->O (OutP E s.out p)
 | none,none,st=>(qf X st fn.results.toList).bind fun ds=>s.out.get bR st (qL ds)
 | some q,none,st=>Xi ((qf X st fn.results.toList).bind fun ds=>s.out.get bR st (qL ds))
 | some q,some d,st=>zA (q.get bR st d)
 | none,some _,_=>none
def aq9(X:Cx E)(D:Dx E)(s:dc)(fn:Func)(bR:TS E)(p:O Outs):Ex E->TS E->O (OutP E s.out p)
 | .ret,st=>Dz D (Oq X s fn bR p) st.df none st
 | .normal,st=>Dz D (Oq X s fn bR p) st.df none st
 | .panic d,st=>Dz D (Oq X s fn bR p) st.df (some d) st
 | _,_=>none
noncomputable def afN(X:Cx E)(D:Dx E)(F:Nat)(s:dc)(fn:Func)(pl:dN)(x:dens E s.tys):O (OutP E s.out s.lU):=
 match fn.body with
 | some c=>runT X F c pl (s.bR fn.ntmps (aP s.tys x)) (aq9 X D s fn (s.bR fn.ntmps (aP s.tys x)) s.lU)
 | none=>none
theorem kj.amg{ds:J Deferred}(h:kj E w G ds []):ds=[]:=by
 cases ds with
 | nil=>rfl
 | cons _ _=>exact h.elim
theorem amh(hX:X.Ok){s:dc}{w0:World}{G0:bq}{bR st jF:TS E}{W:J Nat}{tmps:Array Value}{mv:J Deferred}{u:FrameMode}{m:Option (TV E)}(hpre:Pre G0 bR)(Q7:bR.d=[])(aaJ:bR.df=[])
  (hr:Rel E w0 G0 {st with df:=me m} {tmps:=tmps,defers:=mv} w G) (hm:P0 m mv u) (hF:Fr W false bR st):∀(p:Option Outs)(y:OutP E s.out p),Oq X s fn bR p m {st with df:=[]} = some y ->
   Leaves X.P fn tmps (zf E w0 G0 (match p,y with|none,y=>s.out.mM true bR.H bR.g (aP s.out.tys y)|some q,.inl y=>s.out.mM true bR.H bR.g (aP s.out.tys y)|some q,.inr y=>q.mM false bR.H bR.g (aP q.tys y))) [] u w:=by
 have hr':=hr.Ue (y:=[]) (ds:=[]) trivial;have hF':Fr W false bR {st with df:=[]}:=hF.trans (Fr.afM st [] W) (fun _ h=>h) (fun _ h=>h) (fun h=>nomatch h)
 have hok:∀ {y:dens E s.out.tys},((qf X {st with df:=[]} fn.results.toList).bind fun ds=>s.out.get bR {st with df:=[]} (qL ds))=some y ->
   ∃v,(results fn tmps).run X.P w=.ok v w/\zf E w0 G0 (s.out.mM true bR.H bR.g (aP s.out.tys y)) (.returned v) w:=by
  intro y hy
  cases hds:qf X {st with df:=[]} fn.results.toList with
  | none=>rw [hds] at hy;cases hy
  | some ds=>
   rw [hds] at hy;obtain⟨v,hv,hrun⟩:=An hX hr' hds;obtain⟨G2,q1,q2,q3,q4,q5⟩:=Outs.GH hX.E hpre Q7 aaJ.symm hr' hF' hv hy;exact⟨v,hrun,v,G2,rfl,q1,q2,q3,q4,q5⟩
 intro p y hk
 cases hm with
 | ret=>
  cases p with
  | none=>exact hok hk
  | some q=>
   obtain⟨y',hy,rfl⟩:=Lq hk
   exact hok hy
 | lU d v=>
  cases p with
  | none=>cases hk
  | some q=>
   obtain⟨y',hy,rfl⟩:=Oi hk
   have hv:VT E w G d v:=by
    obtain⟨ajH,-⟩:=hr.defers;obtain⟨-,cap',ht',jt⟩:=ajH.resolve_right (fun hh=>absurd (show (0:Nat)=AH from hh.1) de);obtain⟨u1,us,he,h1,-⟩:=jt.cons_inv
    simp_all
   obtain⟨G2,q1,q2,q3,q4,q5⟩:=Outs.GH hX.E hpre Q7 aaJ.symm hr' hF' hv hy;exact⟨v,G2,rfl,q1,q2,q3,q4,q5⟩
theorem acI(hX:X.Ok){D:Dx E}(hD:D.Ok X.P){s:dc}{x:dens E s.tys}{y:OutP E s.out s.lU}(hf:X.P.funcs[s.f]? = some fn)(hn:(fn.name == "runtime.NumGoroutine")=false)(h:afN X D F s fn pl x=some y):
  lE X.P s.f (s.ds (aP s.tys x)) (s.H (aP s.tys x)) s.g0 (s.c (aP s.tys x)) (ko s (s.H (aP s.tys x)) s.lU y):=by
 unfold afN at h;split at h<;>try trivial
 rename_i c hb;intro w G args hP hB hS hV;have Gj:=Rel.init (n:=fn.ntmps) hP hB hS hV;have hpre:=Gj.pre;refine tN hf hb hn (calls_of_wp_defers hf hb (wp_mono ((tY hX c pl h).wp Gj) fun e a' w' hp=>?_));obtain⟨ex,st,G',he,hr,hk,hF⟩:=hp;have hlen:=kj.len hr.defers;have TM:Fr (wr c) false (s.bR fn.ntmps (aP s.tys x)) st:=hF.wide (fun _ h=>h) (fun h=>nomatch h)
 have main:∀(m:Option (TV E))(mv:J Deferred)(u:FrameMode),P0 m mv u->kj E w' G' mv (me m)->Dz D (Oq X s fn (s.bR fn.ntmps (aP s.tys x)) s.lU) st.df m st=some y ->
   Leaves X.P fn a'.tmps (fun e w'=>∃v G',e=C2 (ko s (s.H (aP s.tys x)) s.lU y).ok v/\kQ w G w' G'/\lP E w' G' (ko s (s.H (aP s.tys x)) s.lU y).H (ko s (s.H (aP s.tys x)) s.lU y).g/\kH E w' G' (ko s (s.H (aP s.tys x)) s.lU y).c /\
   VT E w' G' (ko s (s.H (aP s.tys x)) s.lU y).d v/\∀(q b:Nat),G.i[q]? = some b->q∉(ko s (s.H (aP s.tys x)) s.lU y).D->w'.heap[b]? = w.heap[b]?) a'.defers u w':=by
  intro m mv u hm Tj hk
  have ara:kj E w' G' (a'.defers++mv) (st.df++me m):=by
   have key:∀(a:J Deferred)(x:J (FuncId×J (TV E))),kj E w' G' a x->kj E w' G' (a++mv) (x++me m):=by
    intro a
    induction a with
    | nil=>intro x h;cases x with
     | nil=>exact Tj
     | cons _ _=>exact h.elim
    | cons d a ih=>intro x h;cases x with
     | nil=>exact h.elim
     | cons z x=>exact⟨h.1,ih x h.2⟩
   exact key _ _ hr.defers
  refine GK hX.E hD st.df m st a'.defers mv u w' G' hk hlen (hr.Ue ara) hm fun m' st' mv' u' w2 G2 h1 h2 h3 rU=>?_;have hF3:Fr (wr c) false (s.bR fn.ntmps (aP s.tys x)) st':=TM.trans rU (fun _ h=>h) (fun _ h=>by cases h) (fun h=>nomatch h);have:=amh hX (jF:=st) hpre rfl rfl h2 h3 hF3 s.lU y h1;exact this
 cases ex<;>cases e<;>try (exact he.elim)
 ·exact main none [] .returning .ret trivial hk
 ·cases hk
 ·cases hk
 ·exact main none [] .returning .ret trivial hk
 ·rename_i d ch
  obtain⟨v,rfl,hv⟩:=he;exact main (some d) _ _ (.lU d v) ⟨.inl ⟨rfl,#[],rfl,.cons hv .nil⟩,trivial⟩ hk
theorem bJ.aop(hX:X.Ok){D:Dx E}(hD:D.Ok X.P)(hf:X.P.funcs[C.s.f]? = some fn)(hn:(fn.name == "runtime.NumGoroutine")=false)(h:∀x,afN X D F C.s fn pl x=C.m x):C.Ok X.P:=
 fun x y hy=>acI hX hD hf hn (by rw [h x];exact hy)
theorem goN{I:Inv}:∀C∈([]:J (bJ E)),C.GC I:=fun _ h=>nomatch h
theorem goC{I:Inv}{C:bJ E}{Γ:J (bJ E)}(h:C.GC I)(hs:∀C∈Γ,C.GC I):∀C'∈C::Γ,C'.GC I:=fun C' hC=>by
 grind
def aaK:J Oper->O (Nat×Nat)
 | [o1,o2]=>match o1.op,o1.dst,o1.guard,o2.op,o2.dst,o2.guard with
  | .call c,some i,none,.assign (.tmp i'),some j,none=>match c.callee with
   | .builtin .recover=>cond (Nat.beq i i'&&Nat.beq c.args.size 0) (some (i,j)) none
   | _=>none
  | _,_,_,_,_,_=>none
 | _=>none
def dc.Mh(s:dc)(n i j:Nat)(ls:J (Lf E)):TS E:=match s.ds ls with
 | m::ds=>{(⟨(Bg n ds).set i m,s.H ls,s.g0,[],[],s.c ls⟩:TS E) with t:=cx ((Bg n ds).set i m) (some j) ((⟨(Bg n ds).set i m,s.H ls,s.g0,[],[],s.c ls⟩:TS E).ev (.tmp i))}
 | []=>s.bR n ls
noncomputable def ajI(X:Cx E)(F:Nat)(s:dc)(fn:Func)(pl:dN)(x:dens E s.tys):O (OutP E s.out s.lU):=
 match fn.body with
 | some (.seq (.region _ ops false) rest)=>match aaK ops.toList with
  | some (i,j)=>rq (jg rest&&s.lU.isNone) (runT X F rest pl (s.Mh fn.ntmps i j (aP s.tys x)) (nU X s fn (s.Mh fn.ntmps i j (aP s.tys x)) s.lU))
  | none=>none
 | _=>none
theorem acJ{ops:aG Oper}{i j:Nat}(h:aaK ops.toList=some (i,j)):∃o1 o2 c,ops=#[o1,o2]/\o1.op=.call c/\c.callee=.builtin .recover/\c.args=#[]/\o1.dst=some i/\o1.guard=none/\o2.op=.assign (.tmp i)/\o2.dst=some j/\o2.guard=none:=by
 unfold aaK at h;split at h<;>try trivial
 split at h<;>try trivial
 rename_i c i0 i1 j0 h1 h2 h3 h4 h5 h6;split at h<;>try trivial
 cases hh:(Nat.beq i0 i1&&Nat.beq c.args.size 0)<;>rw [hh] at h<;>simp only [aZ,aK] at h
 ·cases h
 grind [Nat.eq_of_beq_eq_true]
theorem Rel.KN{H:J (fM E)}{g:J cH}{cs:J (Nat×Cn E)}(hP:p6 E w G)(hB:lP E w G H g)(hS:kH E w G cs)(hV:bI E w G ds args.toList):
  Rel E w G ⟨Bg n ds,H,g,[],[],cs⟩ {tmps:=args++Array.replicate (n-args.size) undef,defers:=[]} w G:=by
 have hl:args.size=ds.length:=by simpa using hV.length
 refine⟨kQ.refl w G,?_,fun j d hj=>?_,trivial,hB,fun _ _ _ _=>rfl,hP,hS⟩
 ·simp [Bg,hl]
 ·unfold Bg at hj
  by_cases hlt:j<ds.length
  ·rw [vq hlt] at hj
   obtain⟨u,hu,hv⟩:=hV.get j hj
   simp_all [akU]
  grind [List.mem_of_getElem?,VT]
theorem bJ.aaL(hX:X.Ok)(hf:X.P.funcs[C.s.f]? = some fn)(hn:(fn.name == "runtime.NumGoroutine")=false)(h:∀x,ajI X F C.s fn pl x=C.m x):C.GC (Dy X.P):=by
 intro x y hy;have h1:ajI X F C.s fn pl x=some y:=by rw [h x];exact hy
 unfold ajI at h1;split at h1<;>try trivial
 rename_i id ops rest hb;split at h1<;>try trivial
 rename_i i j arb;obtain⟨hnp,h1⟩:=dQ h1;rw [cE] at hnp;obtain⟨hnd,ar2⟩:=hnp;obtain⟨o1,o2,c,rfl,ho1,ajy,N5,Xj,hg1,ho2,Xk,Zv⟩:=acJ arb;intro w G alj hP hB hS hV;refine⟨enters_of hf hb hn,fun v args u hva hmo=>?_⟩;rw [hva] at hV;generalize hds:C.s.ds (aP C.s.tys x)=dd at hV h1
 cases dd with
 | nil=>simp_all [bI]
 | cons m ds=>
 obtain⟨v',us,he,hvm,hvs⟩:=hV.cons_inv;cases he
 have hst:C.s.Mh fn.ntmps i j (aP C.s.tys x)={(⟨(Bg fn.ntmps ds).set i m,C.s.H (aP C.s.tys x),C.s.g0,[],[],C.s.c (aP C.s.tys x)⟩:TS E) with t:=cx ((Bg fn.ntmps ds).set i m) (some j) ((⟨(Bg fn.ntmps ds).set i m,C.s.H (aP C.s.tys x),C.s.g0,[],[],C.s.c (aP C.s.tys x)⟩:TS E).ev (.tmp i))}:=by
  unfold dc.Mh;rw [hds]
 have Gj:=Rel.KN (n:=fn.ntmps) hP hB hS hvs;have eU:Rel E w G ⟨(Bg fn.ntmps ds).set i m,C.s.H (aP C.s.tys x),C.s.g0,[],[],C.s.c (aP C.s.tys x)⟩ _ w G:=Gj.put hvm (some i);have hr2:=eU.put (eU.ev (.tmp i)) (some j);have aoq:Rel E w G (C.s.Mh fn.ntmps i j (aP C.s.tys x)) ((({tmps:=args++Array.replicate (fn.ntmps-args.size) undef,defers:=[]}:Act).put (some i) v).put (some j) ((({tmps:=args++Array.replicate (fn.ntmps-args.size) undef,defers:=[]}:Act).put (some i) v).eval (.tmp i))) w G:=by rw [hst];exact hr2
 have hpre:=aoq.pre;refine callsD_of_wpS hf hb fun c₀ cs hu=>?_;apply wpS_seq;apply wpS_region;have TP:List.range (#[o1,o2]:aG Oper).size=[0,1]:=rfl;rw [TP]
 have go:∀(u':FrameMode),settle u'=.returning->wpOpsS X.P #[o1,o2] (Exit.thenS (rest.wpS X.P (bodyPostS X.P fn c₀ cs fun e u' w'=>settle u'=.returning/\zf E w G (ko C.s (C.s.H (aP C.s.tys x)) C.s.lU y) e w')) (bodyPostS X.P fn c₀ cs fun e u' w'=>settle u'=.returning/\zf E w G (ko C.s (C.s.H (aP C.s.tys x)) C.s.lU y) e w')) [1]
   (({tmps:=args++Array.replicate (fn.ntmps-args.size) undef,defers:=[]}:Act).put o1.dst v) ({c₀ with mode:=u'} :: cs) w:=by
  intro u' mL;rw [Xj];have AA:Region.wanted o2 (yielded #[o1,o2] (({tmps:=args++Array.replicate (fn.ntmps-args.size) undef,defers:=[]}:Act).put (some i) v).tmps)=true:=by simp [Region.wanted,Zv]
  have apN:(execOp (({tmps:=args++Array.replicate (fn.ntmps-args.size) undef,defers:=[]}:Act).put (some i) v).eval o2).run X.P w=.ok (.value ((({tmps:=args++Array.replicate (fn.ntmps-args.size) undef,defers:=[]}:Act).put (some i) v).eval (.tmp i))) w:=by
   simp [execOp,ho2]
  have e1:(#[o1,o2]:aG Oper)[1]? = some o2:=rfl;simp only [wpOpsS,e1,AA,if_true,apN,Oper.upon,Exit.thenS];rw [Xk];refine wpS_of_wp (wp_mono ((tY hX rest pl h1).wp aoq) fun e a' w' hp=>?_);obtain⟨ex,st,G',he,hr,hk,hF⟩:=hp;have Q7:(C.s.Mh fn.ntmps i j (aP C.s.tys x)).d=[]:=by rw [hst]
  have aaJ:(C.s.Mh fn.ntmps i j (aP C.s.tys x)).df=[]:=by rw [hst]
  have hH0:(C.s.Mh fn.ntmps i j (aP C.s.tys x)).H=C.s.H (aP C.s.tys x):=by rw [hst]
  have hg0:(C.s.Mh fn.ntmps i j (aP C.s.tys x)).g=C.s.g0:=by rw [hst]
  have hdf:st.df=[]:=(hF.df hnd).trans aaJ
  have I8:a'.defers=[]:=by
   have:=hr.defers
   grind [kj.amg]
  have fin:∀(p:O Outs)(y:OutP E C.s.out p),p.isNone=true->nU X C.s fn (C.s.Mh fn.ntmps i j (aP C.s.tys x)) p ex st=some y ->
    bodyPostS X.P fn c₀ cs (fun e u' w'=>settle u'=.returning/\zf E w G (ko C.s (C.s.H (aP C.s.tys x)) p y) e w') e a' ({c₀ with mode:=u'} :: cs) w':=by
   intro p y hp hk
   cases p with
   | some q=>cases hp
   | none=>
    have okc:Om X C.s fn (C.s.Mh fn.ntmps i j (aP C.s.tys x)) st=some y ->
      ∃v,(results fn a'.tmps).run X.P w'=.ok v w'/\zf E w G (ko C.s (C.s.H (aP C.s.tys x)) none y) (.returned v) w':=by
     intro hy;unfold Om at hy;obtain⟨G3,W3,hr,hF,ajD⟩:=adw (s:=C.s) (fn:=fn) hpre hr hF;generalize GG C.s fn (C.s.Mh fn.ntmps i j (aP C.s.tys x)) (vZ 0 C.s.out.boxes st)=Zx at *
     cases hds:qf X Zx fn.results.toList with
     | none=>rw [hds] at hy;cases hy
     | some ds=>
      rw [hds] at hy;obtain⟨v,hv,hrun⟩:=An hX hr hds;obtain⟨G2,q1,q2,q3,q4,q5⟩:=Outs.GH hX.E (ok:=true) hpre Q7 ((ajD.trans hdf).trans aaJ.symm) hr hF hv hy;rw [hH0,hg0] at q2 q3 q4;exact⟨v,hrun,v,G2,rfl,q1,q2,q3,q4,q5⟩
    cases ex<;>cases e<;>try (exact he.elim)
    ·obtain⟨v,hrun,h2⟩:=okc hk;exact⟨I8,u',rfl,v,hrun,mL,h2⟩
    ·cases hk
    ·cases hk
    ·obtain⟨v,hrun,h2⟩:=okc hk;exact⟨I8,u',rfl,v,hrun,mL,h2⟩
    ·cases hk
  simp_all
 have hw1:Region.wanted o1 (yielded #[o1,o2] ({tmps:=args++Array.replicate (fn.ntmps-args.size) undef,defers:=[]}:Act).tmps)=true:=by simp [Region.wanted,hg1]
 have apO:(execOp ({tmps:=args++Array.replicate (fn.ntmps-args.size) undef,defers:=[]}:Act).eval o1).run X.P w=.ok .recover w:=by
  simp [execOp,ho1,resolve,ajy,N5,invoke,go_sem]
 have e0:(#[o1,o2]:aG Oper)[0]? = some o1:=rfl;rw [wpOpsS];simp only [e0,hw1,if_true,apO];rcases hmo with⟨rfl,rfl⟩|rfl
 ·have hrd:recoverD (c₀::cs)=none:=by simp [recoverD,hu]
  rw [hrd];have hc0:({c₀ with mode:=.returning}:Frame)=c₀:=by rw [<-hu]
  have:=go .returning rfl
  simp_all
 ·have hrd:recoverD (c₀::cs)=some (v,{c₀ with mode:=.panicking [{v:=v,recovered:=true}]} :: cs):=by simp [recoverD,hu]
  rw [hrd];exact go _ rfl
theorem lP.grown{w':U}{H:J (fM E)}{gs:J cH}{cs:J (Nat×Cn E)}(hP:p6 E w G)(hB:lP E w G H gs)(hS:kH E w G cs)(hs:eY w w')(h1:w'.os=w.os)(h2:w'.tape=w.tape)(h3:w'.output=w.output):
  kQ w G w' G/\lP E w' G H gs/\kH E w' G cs/\∀(q b:Nat),G.i[q]? = some b->w'.heap[b]? = w.heap[b]?:=by
 have hr:=Rel.KN (n:=0) hP hB hS .nil;have hr':=hr.grow hs h1 h2 h3 G.pr (fun _ _ h=>h) (fun _ _ _ h=>h) (fun b o hp=>jN (hB.gq b o hp).1 hs.1);exact⟨hr'.eX,hr'.boxes,hr'.gr,fun q b hq=>hr'.fix q b hq si⟩
theorem p5(hf:P.funcs[f]? = some fn)(hb:fn.body.isSome=true)(hn:(fn.name == "runtime.NumGoroutine")=false):∀args w,(callFunc f args).run P w=.ok (.enter f args) w:=by
 grind [Option.isSome_iff_exists,Go.RT.enters_of]
def pJ(F:Nat)(n:Int):O (J UInt8):=rq (decide (-9223372036854775808<=n)&&decide (n<=9223372036854775807)) (some (Lib.itoa n))
def apP(f:FuncId):dc:=⟨f,[.one (.dat (.int .i64))],[],[],⟨.one (.dat .str),[],[],[]⟩,none,[]⟩
def alk(E:TEnv)(f:FuncId)(F:Nat):bJ E:=⟨apP f,fun (x:Int)=>pJ F x⟩
theorem XX{name:String}{k:eF}{zs:J Int}{g:Nat}(hP:p6 E w G)(hg:P.globalNamed name=some g)
  (he:E.gb g=some (fun cs=>cs=(zs.map fun z=>Value.int k z).toArray)):Lib.TabIs P w name k zs:=by
 obtain⟨cs,t,m,this,rfl⟩:=(hP g _ he).1;simp [Lib.TabIs,World.var?,hg,this]
theorem ami(he:∀args w,(callFunc f args).run P w=.ok (.enter f args) w)(hT:∀w G,p6 E w G->Lib.TabIs P w "internal/strconv.uint64pow10" .u64 Lib.pow10Tab)
  (hC:∀(n:Int),-9223372036854775808<=n->n<=9223372036854775807->∀(w:U),Lib.TabIs P w "internal/strconv.uint64pow10" .u64 Lib.pow10Tab ->
   Calls P f #[.int .i64 n] w fun e w'=>e=.returned (.string ⟨(Lib.itoa n).toArray⟩)/\∃k os,w'=Go.Sort.grow (w.drewN k) os) (F:Nat):(alk E f F).Ok P:=by
 have key:∀(n:Int),-9223372036854775808<=n->n<=9223372036854775807->lE (E:=E) P f [.dat (.int .i64) n] [] [] [] ⟨true,.dat .str (Lib.itoa n),[],[],[],[]⟩:=by
  intro n h0 h1 w G args hP hB hS hv;obtain⟨u,us,ha,ve,qS⟩:=hv.cons_inv;have e1:=ve.fU;subst e1 qS;have ha:args=#[.int .i64 n]:=by grind
  subst ha;unfold kn;rw [he];refine Ge (hC n h0 h1 w (hT w G hP)) fun e w' hh=>?_;obtain⟨rfl,k,os,rfl⟩:=hh
  have hs:eY w (Go.Sort.grow (w.drewN k) os):=⟨by simp_all,fun b hb=>by
   show (w.heap++os)[b]? = _
   grind⟩
  obtain⟨q1,q2,q4,q3⟩:=hB.grown hP hS hs rfl rfl rfl;exact⟨_,G,rfl,q1,q2,q4,.str _ _ _,fun q b hq _=>q3 q b hq⟩
 have ajJ:∀(n:Int)(y:J UInt8),pJ F n=some y->lE (E:=E) P f [.dat (.int .i64) n] [] [] [] ⟨true,.dat .str y,[],[],[],[]⟩:=by
  intro n y hy;obtain⟨h1,h2⟩:=dQ hy
  grind
 intro x y hy;exact ajJ x y hy
variable{pr:Nat -> Nat -> Prop}{cs:J Value}{k:Nat}
theorem LD.getD:∀ {cs:J Value}{ds:J DV},LD w pr cs ds->∀ {l:Nat},l<ds.length->VD w pr (cs.getD l undef) (ds.getD l default)
 | [],[],_,l,h=>by simp at h
 | c::cs,d::ds,h,0,_=>h.1
 | c::cs,d::ds,h,l+1,hl=>by simpa using LD.getD h.2 (by simpa using hl)
 | [],_::_,h,_,_=>h.elim
 | _::_,[],h,_,_=>h.elim
theorem LD.app:∀ {cs cs':J Value}{ds ds':J DV},LD w pr cs ds->LD w pr cs' ds'->LD w pr (cs++cs') (ds++ds')
 | [],cs',[],ds',_,h=>h
 | c::cs,cs',d::ds,ds',h,h'=>⟨h.1,LD.app h.2 h'⟩
 | [],_,_::_,_,h,_=>h.elim
 | _::_,_,[],_,h,_=>h.elim
theorem LD.cat{o:Nat}{a b:J DV}(h1:LD w pr ((cs.drop o).take k) a)(h2:LD w pr (cs.drop (o+k)) b):LD w pr (cs.drop o) (a++b):=by
 have:=h1.app h2
 grind [List.drop_drop,List.take_append_drop]
theorem LD.fin(h:cs.length=n):LD w pr (cs.drop n) []:=by
 rw [SK om];exact trivial
variable{v:Value}
theorem block_lt_of_cell{a:Addr}(h:w.cell? a=some v):a.block<w.heap.size:=adZ w a h
def HV{H:Type}(P:bh)(t:aI)(d:DataW H):Prop:=∀n∈d.weights P t,n<=reachBytes
theorem Sd{H:Type}{P:bh}{e:aI}{d:DataW H}{n:Nat}(hn:n∈d.weights P e):∀ {l:J (DataW H)},d∈l->n∈DataW.weightsAll P e l
 | x::l,h=>by
  rcases iE.1 h with rfl|h
  ·exact List.mem_append_left _ hn
  ·exact List.mem_append_right _ (Sd hn h)
theorem Ot{H:Type}{P:bh}{t:aI}{d:DataW H}{n:Nat}(hn:n∈d.weights P t):∀ {ts:J aI}{ds:J (DataW H)}(j:Nat),ts[j]? = some t->ds[j]? = some d->n∈DataW.weightsEach P ts ds
 | t'::ts,d'::ds,0,h1,h2=>by
  unfold DataW.weightsEach
  simp_all
 | t'::ts,d'::ds,j+1,h1,h2=>by
  exact List.mem_append_right _ (Ot hn j (by simpa using h1) (by simpa using h2))
 | [],_,j,h1,_=>by simp at h1
 | _::_,[],j,_,h2=>by simp at h2
variable{H:Type}{d:DataW H}{t:aI}
theorem wAt{ts:J aI}{ds:J (DataW H)}(h:(DataW.weightsEach P ts ds).all (·<=reachBytes)=true)(j:Nat)(h1:ts[j]? = some t)(h2:ds[j]? = some d):HV P t d:=
 fun n hn=>Ae (p4.1 h n (Ot hn j h1 h2))
def dZ{H:Type}(eW:aI×Value->H)(P:bh)(W:U)(fuel:Nat)(t:aI){α:Type}(enc:α->J DV)(ok:α->Prop):Prop:=
 ∀cs d ps,DataW.trod eW P W 0 (fun _=>true) true fuel t cs=some (d,ps)->HV P t d->∃x,ok x/\LD W (fun b _=>b<W.heap.size) cs (enc x)
variable{eW:aI × Value -> H}{W:U}{e:aI}{α:Type}{fuel:Nat}{enc:α->J DV}{ok:α->Prop}{fs:aG Field}{ps:J MemPlace}
theorem aeB(ht:P.underlying t=some .bool)(fuel:Nat):dZ eW P W fuel t (fun b=>[.bool b]) (fun _=>True):=by
 intro cs d ps h _
 cases fuel with
 | zero=>cases h
 | succ n=>
  simp [DataW.trod] at h;split at h<;>try (simp_all;done)
  rename_i b h1;exact⟨b,trivial,⟨.bool _,trivial⟩⟩
theorem agI{k:eF}(ht:P.underlying t=some (.int k))(fuel:Nat):dZ eW P W fuel t (fun n=>[.int k n]) (fun n=>(Lit.int k n).wf=true):=by
 intro cs d ps h _
 cases fuel with
 | zero=>cases h
 | succ n=>
  simp [DataW.trod,ht] at h;split at h<;>try (simp_all;done)
  rename_i k2 k' m h1;cases h1;split at h<;>try trivial
  rename_i hc;obtain⟨rfl,hw⟩:=hc;exact⟨m,hw,⟨.int _ _,trivial⟩⟩
theorem Nn(ht:P.underlying t=some .string)(fuel:Nat):dZ eW P W fuel t (fun l=>[.str l]) (fun l=>l.length<=140737488351232):=by
 intro cs d ps h hw
 cases fuel with
 | zero=>cases h
 | succ n=>
  simp [DataW.trod] at h;split at h<;>try (simp_all;done)
  rename_i s h1;split at h<;>try trivial
  cases h;exact⟨s.data.toList,hw _ (by simp [DataW.weights]),⟨.str s.data.toList,trivial⟩⟩
theorem GL{α β:Type}{f:α->O β}:∀ {l:J α}{r:J β},l.mapM f=some r->r.length=l.length/\∀(j:Nat) a,l[j]? = some a->∃b,r[j]? = some b/\f a=some b
 | [],r,h=>by simp_all
 | x::l,r,h=>by
  cases hx:f x with
  | none=>simp [hx] at h
  | some y=>
   cases hl:l.mapM f with
   | none=>simp [hl] at h
   | some r'=>
    simp [hx,hl] at h;subst h;obtain⟨h1,h2⟩:=GL hl;refine⟨by simp [h1],fun j a hj=>?_⟩
    cases j with
    | zero=>simp at hj;subst hj;exact⟨y,si,hx⟩
    | succ j=>simp at hj⊢;exact h2 j a hj
theorem afO{base:Nat}{a:Addr}(h:w.cells? base a n=some cs):cs.length=n/\∀j,j<n->w.cell? (a.add j)=some (cs.getD j undef):=by
 unfold World.cells? at h;split at h<;>try trivial
 obtain⟨h1,h2⟩:=GL h;have hl:cs.length=n:=by simpa using h1
 refine⟨hl,fun j hj=>?_⟩;obtain⟨b,hb,hc⟩:=h2 j j (by simp [hj])
 simp_all
theorem QG{α:Type}[Inhabited α]{enc:α->J DV}{ok:α->Prop}(ht:P.underlying t=some (.slice e))(hk:P.cellsOf e=k)(hkp:0<k)(hlen:∀x,(enc x).length=k)(he:dZ eW P W fuel e enc ok):
  dZ eW P W (fuel+1) t (fun vs:J α=>[.slice k (vs.map enc)]) (fun vs=>vs.length<=maxLen/\∀x,x∈vs->ok x):=by
 intro cs d ps h hW;simp only [DataW.trod,ht] at h;split at h<;>try (simp_all;done)
 ·rename_i h1
  exact⟨[],⟨si,fun x hx=>by simp at hx⟩,⟨.va _ _,trivial⟩⟩
 ·rename_i e' a len cap h1
  cases h1;split at h<;>try trivial
  rename_i hc;simp only [YI,Pj] at h;obtain⟨elems,hel,rest,fC,hd⟩:=h
  have hwe:(∀y∈elems,HV P e y.1)/\∀y∈rest,HV P e y.1:=by
   obtain⟨rfl,-⟩:=Prod.mk.inj hd
   have hW':∀n,n∈DataW.weightsAll P e (elems.map (·.1))\/n∈DataW.weightsAll P e (rest.map (·.1))->n<=reachBytes:=fun n hn=>hW n (by
    simp only [DataW.weights,ht]
    simp_all)
   exact⟨fun y hy n hn=>hW' n (.inl (Sd hn (List.mem_map_of_mem hy))),fun y hy n hn=>hW' n (.inr (Sd hn (List.mem_map_of_mem hy)))⟩
  obtain⟨hl,hg⟩:=GL hel;have hlen':elems.length=len:=by simpa using hl
  have rd:∀j,(∃y:DataW H×J MemPlace,(W.cells? 0 (a.add (j*P.cellsOf e)) (P.cellsOf e)).bind (DataW.trod eW P W 0 (fun _=>true) true fuel e)=some y/\HV P e y.1) ->
    ∃x:α,ok x/\∃cs:J Value,cs.length=k/\(∀l,l<k->W.cell? ((a.add (j*k)).add l)=some (cs.getD l undef))/\LD W (fun b _=>b<W.heap.size) cs (enc x):=by
   rintro j ⟨y,hy,hyw⟩;simp only [YI] at hy;obtain⟨cs,hcs,hy⟩:=hy;obtain⟨x,hx,hv⟩:=he cs y.1 y.2 hy hyw
   grind [afO]
  have key:∀j,j<len->∃x:α,ok x/\∃cs:J Value,cs.length=k/\(∀l,l<k->W.cell? ((a.add (j*k)).add l)=some (cs.getD l undef))/\LD W (fun b _=>b<W.heap.size) cs (enc x):=by
   intro j hj;obtain⟨y,hm,hy⟩:=hg j j (by simp [hj]);exact rd j ⟨y,hy,hwe.1 y (jo hm)⟩
  by_cases hz:cap=0
  ·have hl0:len=0:=om
   subst hz;subst hl0;exact⟨[],⟨si,fun x hx=>by simp at hx⟩,⟨.va _ _,trivial⟩⟩
  have alm:a.spot=none:=by
   have h0:∃x:α,ok x/\∃cs:J Value,cs.length=k/\(∀l,l<k->W.cell? ((a.add (0*k)).add l)=some (cs.getD l undef))/\LD W (fun b _=>b<W.heap.size) cs (enc x):=by
    by_cases hl1:0<len
    ·exact key 0 hl1
    ·have hl0:len=0:=om
     subst hl0;obtain⟨hl2,Zv⟩:=GL fC;obtain⟨y,hm,hy⟩:=Zv 0 0 (by grind);exact rd 0 ⟨y,by simpa using hy,hwe.2 y (jo hm)⟩
   obtain⟨x,-,cs,-,hcell,-⟩:=h0;have h1:=hcell 0 hkp;simp only [Nat.zero_mul] at h1;have e:(a.add 0).add 0=a:=by simp [Addr.add]
   rw [e] at h1;unfold World.cell? at h1;split at h1<;>try trivial
   simp_all
  obtain⟨b,off,spot⟩:=a;simp only at alm;subst alm;simp only [add_lit] at key
  have hch:∃vs:J α,vs.length=len/\∀j,j<len->ok (vs.getD j default)/\∃cs:J Value,cs.length=k/\(∀l,l<k->W.cell? ⟨b,off+j*k+l,none⟩=some (cs.getD l undef))/\LD W (fun b _=>b<W.heap.size) cs (enc (vs.getD j default)):=by
   clear hg hel fC rd hlen' hl hc
   induction len with
   | zero=>simp_all
   | succ n ih=>
    obtain⟨vs,h1,h2⟩:=ih (fun j hj=>key j om);obtain⟨x,hx⟩:=key n om;refine⟨vs++[x],by simp [h1],fun j hj=>?_⟩;by_cases hjn:j<n
    ·simp_all
    ·have hje:j=n:=om
     simp_all
  obtain⟨vs,hvl,hvs⟩:=hch;refine⟨vs,⟨by rw [hvl];omega,fun x hx=>?_⟩,?_⟩
  ·grind [List.getElem_of_mem]
  ·refine⟨?_,trivial⟩
   have hml:(vs.map enc).length=len:=by simp [hvl]
   rw [<-hml];refine .slice b off cap k _ (fun j l=>(W.cell? ⟨b,off+j*k+l,none⟩).getD undef) (by rw [hml];omega) (fun j hj=>?_) (fun j l hj hl=>?_) (fun j l hj hl=>?_)
   all_goals rw [hml] at hj
   ·simp_all
   ·obtain⟨-,cs,q1,q2,q3⟩:=hvs j hj
    have:=q2 l hl;exact⟨block_lt_of_cell (a:=⟨b,off+j*k+l,none⟩) this,by rw [this];rfl⟩
   grind [LD.getD]
theorem Nl(ht:P.underlying t=some (.struct fs))(h:DataW.trod eW P W 0 (fun _=>true) true (fuel+1) t cs=some (d,ps))(hW:HV P t d):
  cs.length=P.cellsOf t/\∀f,f∈fs.toList->∃y,DataW.trod eW P W 0 (fun _=>true) true fuel f.type ((cs.drop f.offset).take (P.cellsOf f.type))=some y/\HV P f.type y.1:=by
 simp only [DataW.trod,ht] at h;split at h<;>try trivial
 rename_i hl;obtain⟨xs,hxs,hd⟩:=Pj.1 h;obtain⟨rfl,-⟩:=Prod.mk.inj hd;refine⟨hl,fun f hf=>?_⟩;obtain⟨j,hj,rfl⟩:=lS hf;obtain⟨b,hm,hb⟩:=(GL hxs).2 j _ (fJ hj);refine⟨b,hb,fun n hn=>hW n ?_⟩;simp [DataW.weights,ht];exact Ot hn j (by grind) (by simp_all)
theorem afP{t:aI}{f:Field}(hf:f∈fs.toList)(hk:P.cellsOf f.type=k)
  (ho:dZ eW P W fuel f.type enc ok) (h:∀f,f∈fs.toList->∃y,DataW.trod eW P W 0 (fun _=>true) true fuel f.type ((cs.drop f.offset).take (P.cellsOf f.type))=some y/\HV P f.type y.1) :
  ∃x,ok x/\LD W (fun b _=>b<W.heap.size) ((cs.drop f.offset).take k) (enc x):=by
 obtain⟨y,hy,hw⟩:=h f hf;rw [hk] at hy;exact ho _ y.1 y.2 hy hw
theorem akZ.arg(ho:∀fuel,dZ eW P W fuel t enc ok)(h:DataW.Trod eW P W 0 (fun _=>true) true t v d ps)(hw:HV P t d):
  ∃x,ok x/\LD W (fun b _=>b<W.heap.size) v.cells.toList (enc x):=by
 obtain⟨fuel,hf⟩:=h;exact ho fuel _ _ _ hf hw
theorem fY(j:Nat){f:Field}(hf:fs[j]? = some f)(hk:P.cellsOf f.type=k)
  (ho:dZ eW P W fuel f.type enc ok) (h:∀f,f∈fs.toList->∃y,DataW.trod eW P W 0 (fun _=>true) true fuel f.type ((cs.drop f.offset).take (P.cellsOf f.type))=some y/\HV P f.type y.1) :
  ∃x,ok x/\LD W (fun b _=>b<W.heap.size) ((cs.drop f.offset).take k) (enc x):=
 afP (t:=0) (by grind) hk ho h
theorem agw{E:TEnv}{ds:J (TV E)}{args:aG Value}(h:lE P f ds [] [] [] ⟨true,.dat .bool true,[],[],[],[]⟩)(he:∀args w,(callFunc f args).run P w=.ok (.enter f args) w)(aay:∀b p,E.gb b=some p->∃cs t m,W.heap[b]? = some (.cells cs t m)/\p cs)
  (hv:bI E W ⟨[],[],fun b _=>b<W.heap.size⟩ ds args.toList):Calls P f args W fun e w'=>e=.returned (.bool true)/\RowKit.Below W.heap.size W w':=by
 have hf:∀b,¬ (⟨[],[],fun b _=>b<W.heap.size⟩:bq).Ea b:=fun b hb=>by
  rcases hb with hb|⟨x,y,hb,-⟩<;>cases hb
 have hI:=h W ⟨[],[],fun b _=>b<W.heap.size⟩ args (fun b cs hb=>⟨aay b cs hb,hf b⟩)
  ⟨rfl,rfl,fun r b x hb=>(by simp at hb),fun b hb=>(by cases hb),Gf,fun b o hp=>⟨hp,si⟩,fun j x y hj=>(by simp at hj),fun j j' x h x' h' b hj=>(by simp at hj)⟩ (fun j c hm=>by cases hm) hv
 unfold kn at hI;rw [he] at hI;refine Ge hI fun e w' hp=>?_;obtain⟨v,G',rfl,hE,hR,-,hV,-⟩:=hp;refine⟨?_,hE.os,hE.tape,hE.output,hE.size,fun k hk=>hE.old k hk (hf k)⟩;have:=hV.mh;rw [this];rfl
open Go.MapKept Go.Maps Go.RowKit
open Go.WideElems (Fit rd rg pl)
open Go.Proofs (encStr)
def Se(x:J UInt8):J (J UInt8)->J (J UInt8)
 | []=>[x]
 | y::l=>cond (decide (x<=y)) (x::y::l) (y::Se x l)
def rZ:J (J UInt8)->J (J UInt8)
 | []=>[]
 | x::l=>Se x (rZ l)
theorem Ou(x:J UInt8):∀l,(Se x l).Perm (x::l)
 | []=>.refl _
 | y::l=>by
  simp [Se];cases decide (x<=y)
  ·exact ((Ou x l).cons y).trans (List.Perm.swap x y l)
  ·exact .refl _
theorem C5:∀l,(rZ l).Perm l
 | []=>.refl _
 | x::l=>(Ou x (rZ l)).trans ((C5 l).cons x)
theorem aaM(x:J UInt8):∀ {l:J (J UInt8)},l.Pairwise (fun a b=>decide (a<=b)=true)->(Se x l).Pairwise (fun a b=>decide (a<=b)=true)
 | [],_=>by simp [Se]
 | y::l,h=>by
  simp only [Se]
  cases hxy:decide (x<=y) with
  | true=>
   refine .cons (fun c hc=>?_) h;rcases iE.1 hc with rfl|hc
   ·exact hxy
   ·have h2:=List.rel_of_pairwise_cons h hc
    grind
  | false=>
   refine .cons (fun c hc=>?_) (aaM x h.of_cons);rcases iE.1 ((Ou x l).mem_iff.1 hc) with rfl|hc
   ·grind
   simp_all
theorem Lu:∀l,(rZ l).Pairwise (fun a b=>decide (a<=b)=true)
 | []=>.nil
 | x::l=>aaM x (Lu l)
theorem aaN(l:J (J UInt8)):l.mergeSort (fun x y=>decide (x<=y))=rZ l:=
 (mergeSort_of_perm (C5 l).symm).trans (List.mergeSort_of_pairwise (Lu l))
def skF{β:Type}(F:Nat)(m:J (J UInt8×β)):O (J (J UInt8)):=
 rq ((m.all fun p=>decide (p.1.length<=9223372036854775807))&&decide (m.length*16<=140737488355328)) (some (rZ (m.map fun p=>p.1)))
def skS(f fk ty:Nat)(vt:Ty):dc:=⟨f,[.one (.func fk [(0,0)])],[.cells ty [.jq 1],.map .str vt],[],⟨.one (.dat (.bn .str)),[none,none],[],[]⟩,none,[]⟩
def skC(E:TEnv)(f fk ty:Nat)(vt:Ty)(F:Nat):bJ E:=⟨skS f fk ty vt,fun (x:J (J UInt8×vt.den E.D))=>skF F x⟩
def aaO(P:bh)(fS fk ty kt:Nat):Prop:=
 ∀(w:U)(b0 b n:Nat)(D0:DataW Unit)(R:Value->O (DataW Unit×J MemPlace)),w.heap[b0]? = some (.cells #[.map (some b)] ty (0,0))->w.ownsMap P kt R b n D0->Maps.size D0<=maxLen->Maps.size D0*16<=140737488355328 ->
  Calls P fS #[.func (.func fk) #[] #[.pointer (some ⟨b0,0,none⟩)]] w fun e w2=>∃(u:Value)(ss:J (J UInt8)),e=.returned u/\ss.Perm (strKeys D0) /\
   w2.ownsRow w.heap.size kt 1 u ss.length ((ss.mergeSort (fun x y=>decide (x<=y))).map encStr)/\Below w.heap.size w w2
theorem Q9{w:U}{G:bq}{vt:Ty}:∀ {es:J MapEntry}{m:J (J UInt8×vt.den E.D)},gj E w G .str vt es m->es.map (fun e=>e.key)=m.map fun p=>mkStr p.1
 | [],[],_=>rfl
 | e::es,p::ps,h=>by
  have h1:=h.1.hU
  simp [h1,Q9 h.2.2]
 | [],_::_,h=>h.elim
 | _::_,[],h=>h.elim
theorem aaP{kt:TypeId}{b:Nat}{es:Array MapEntry}{clock:Nat}(ks:J (J UInt8))(hk:P.underlying kt=some .string)(hb:w.heap[b]? = some (.map es clock))(hs:Stamped es clock)(hm:es.toList.map (fun e=>e.key)=ks.map mkStr)
  (hl:∀p∈ks,p.length<=maxLen) (hlen:ks.length<=maxLen):∃D0:DataW Unit,w.ownsMap P kt (fun _=>some (.lit (.bool true),[])) b ks.length D0/\Maps.size D0=ks.length/\(strKeys D0).Perm ks:=by
 have hsz:es.size=ks.length:=by
  have:=congrArg List.length hm;simpa using this
 have hrd:∀x∈es.toList,∃p∈ks,x.key=mkStr p/\rd P kt (fun _=>some ((.lit (.bool true):DataW Unit),[])) x=some (.string p,.lit (.bool true)):=by
  intro x hx;have hmem:x.key∈ks.map mkStr:=by grind
  obtain⟨p,hp,QV⟩:=rD.1 hmem;refine⟨p,hp,QV.symm,?_⟩
  have hko:keyOf P kt x.key=some (.string p):=by
   rw [<-QV];exact WideMaps.keyOf_string_mk hk (hl p hp)
  simp [rd,hko]
 have hF:Fit P kt (fun _=>some ((.lit (.bool true):DataW Unit),[])) es clock:=⟨om,hs,fun x hx=>by grind⟩;refine⟨_,⟨es,clock,hb,hF,om,rfl⟩,?_,?_⟩
 ·show ((es.toList.map (rg P kt _)).foldr DataW.insert []).length=_
  simp_all [length_sorted]
 ·refine ((WideShapes.sorted_perm _).map _).trans ?_
  have:(es.toList.map (rg P kt (fun _=>some ((.lit (.bool true):DataW Unit),[])))).map (fun p=>strOf p.1)=ks:=by
   have h2:(es.toList.map (rg P kt (fun _=>some ((.lit (.bool true):DataW Unit),[])))).map (fun p=>strOf p.1)=(es.toList.map (fun e=>e.key)).map (fun v=>match v with | .string s=>s.data.toList|_=>[]):=by
    rw [Ah,Ah];refine adY fun x hx=>?_;obtain⟨p,-,QV,hr⟩:=hrd x hx;simp [rg,hr,QV,strOf,mkStr]
   rw [h2,hm,Ah]
   have:((fun v=>match v with|Value.string s=>s.data.toList|_=>[]) ∘ mkStr)=id:=by
    funext l;simp [mkStr]
   rw [this,U1]
  rw [this]
variable{l:J (J UInt8)}
theorem ajK{base:Nat}{kt:aI}{u:Value}(hn:n=l.length)(h:w.ownsRow base kt 1 u n (l.map encStr))(hp:∀g,u.ownBlock=some g->∀o,o<n->pr g o):
  VD w pr u (.slice 1 (l.map fun x=>[.str x])):=by
 subst hn;rcases h.2 with⟨rfl,hz⟩|⟨g,cap,cur,rfl,hbase,hg,h1,h2,h3,h4⟩
 ·have:=D3 hz
  subst this;exact .va _ _
 ·have hlen:(l.map fun x=>[DV.str x]).length=l.length:=by simp
  have arP:∀q,q<l.length->w.cell? ⟨g,q,none⟩=some (mkStr (l.getD q [])):=by
   intro q hq;rw [cell_of_row w g q cur kt (0,0) hg];have h5:=congrArg (fun t=>t[q]?) h4;simp at h5;rw [YJ] at h5
   simp_all [Nb,Array.getElem?_toList,mkStr]
  have:=VD.slice (w:=w) g 0 cap 1 (l.map fun x=>[DV.str x]) (fun j _=>mkStr (l.getD j [])) (by rw [hlen];simpa using h1) (fun j hj=>by
    simp_all) (fun j q hj hq=>by
    refine⟨hp g rfl _ om,?_⟩
    simp_all) (fun j q hj hq=>by
    have hj':j<l.length:=by simpa using hj
    obtain rfl:q=0:=om
    have e2:((l.map fun x=>[DV.str x]).getD j []).getD 0 default=.str (l.getD j []):=by
     simp [hj']
    rw [e2];exact .str _)
  simp_all
theorem apQ{f fk ty kt:Nat}{vt:Ty}(he:∀args w,(callFunc f args).run P w=.ok (.enter f args) w)(hS:aaO P f fk ty kt)(hkt:P.underlying kt=some .string)(F:Nat):(skC E f fk ty vt F).Ok P:=by
 have key:∀(m:J (J UInt8×vt.den E.D)),(∀p∈m.map (fun p=>p.1),p.length<=maxLen)->m.length*16<=140737488355328 ->
   lE P f [.func (.func fk) [.ptr 0 0]] [.cells ty [.jq 1],.map .str vt m] [] [] ⟨true,.dat (.bn .str) (rZ (m.map fun p=>p.1)),[.cells ty [.jq 1],.map .str vt m],[],[],[]⟩:=by
  intro m hm hlen w G args hP hB hSf hv;obtain⟨u,us,ha,ve,qS⟩:=hv.cons_inv;subst qS;obtain⟨vs,rfl,u0,us0,hvs,⟨b0,rfl,hb0⟩,rfl⟩:=ve;have ar3:vs=#[.pointer (some ⟨b0,0,none⟩)]:=by grind
  have ha:args=#[.func (.func fk) #[] #[.pointer (some ⟨b0,0,none⟩)]]:=by grind
  subst ha;obtain⟨cs,hc1,JY,hc3⟩:=hB.box 0 b0 _ hb0 rfl;obtain⟨u1,us1,hcs,⟨b1,rfl,vz⟩,rfl⟩:=hc3;have arc:cs=#[.map (some b1)]:=by grind
  subst arc;obtain⟨es,clock,WD,hm2,hm3⟩:=hB.box 1 b1 _ vz rfl;have hks:es.toList.map (fun e=>e.key)=(m.map fun p=>p.1).map mkStr:=by rw [Q9 hm3,Ah];rfl
  have hml:(m.map fun p=>p.1).length<=maxLen:=by
   have:(8796093022208:Nat)<=maxLen:=by decide
   grind
  obtain⟨D0,hown,hsz,apR⟩:=aaP (m.map fun p=>p.1) hkt WD hm2 hks hm hml;unfold kn;rw [he];refine Ge (hS w b0 b1 _ D0 _ hc1 hown (by rw [hsz];exact hml) (by simp_all)) fun e w2 hh=>?_;obtain⟨u,ss,rfl,hss,hrow,VQ⟩:=hh;have hsort:=(mergeSort_of_perm (hss.trans apR)).trans (aaN _);have apS:ss.length=(rZ (m.map fun p=>p.1)).length:=by grind [List.length_mergeSort]
  rw [hsort] at hrow;have hs:eY w w2:=⟨VQ.size,fun k hk=>VQ.block k hk⟩
  let lH:Nat->Nat->Prop:=fun g o=>G.pr g o\/(u.ownBlock=some g/\o<ss.length)
  have hr:=Rel.KN (n:=0) hP hB hSf .nil
  have hr':=hr.grow hs VQ.os VQ.tape VQ.output lH (fun b o h=>.inl h) (fun b o hb h=>by
    rcases h with h|⟨h,-⟩
    ·exact h
    ·have:=(hrow.lt b h).1;omega) (fun b o h=>by
    rcases h with h|⟨h,-⟩
    ·exact jN (hB.gq b o h).1 VQ.size
    ·exact (hrow.lt b h).2)
  refine⟨u,{G with pr:=lH},rfl,hr'.eX,hr'.boxes,hr'.gr,?_,fun q b hq _=>hr'.fix q b hq si⟩;exact⟨ajK apS hrow (fun g hg o ho=>.inr ⟨hg,ho⟩),trivial⟩
 have ajJ:∀(m:J (J UInt8×vt.den E.D))(y:J (J UInt8)),skF F m=some y ->
   lE P f [.func (.func fk) [.ptr 0 0]] [.cells ty [.jq 1],.map .str vt m] [] [] ⟨true,.dat (.bn .str) y,[.cells ty [.jq 1],.map .str vt m],[],[],[]⟩:=by
  intro m y hy;obtain⟨h1,h2⟩:=dQ hy;rw [cE,fL,p4] at h1;cases h2;refine key m (fun p hp=>?_) h1.2;obtain⟨q,hq,rfl⟩:=rD.1 hp;have:=h1.1 q hq;simpa [maxLen] using this
 intro x y hy;exact ajJ x y hy
open Go.RowKit
theorem CR{d:TV E}(he:∀args w,(callFunc f args).run P w=.ok (.enter f args) w)
  (h:∀w G args,p6 E w G->bI E w G ds args.toList->∃v,(∀w G,VT E w G d v)/\Calls P f args w fun e w'=>e=.returned v/\Below w.heap.size w w'):lE P f ds [] [] [] ⟨true,d,[],[],[],[]⟩:=by
 intro w G args hP hB hS hv;obtain⟨v,hV,hC⟩:=h w G args hP hv;unfold kn;rw [he];refine Ge hC fun e w' hh=>?_;obtain⟨rfl,Gg⟩:=hh;obtain⟨q1,q2,q4,q3⟩:=hB.grown hP hS ⟨Gg.size,fun k hk=>Gg.block k hk⟩ Gg.os Gg.tape Gg.output;exact⟨v,G,rfl,q1,q2,q4,hV _ _,fun q b hq _=>q3 q b hq⟩
theorem VT.strs(h:VT E w G (.dat (.bn .str) l) v):
  (∃a,v=.slice a 0 0/\l=[])\/∃b off cap,v=.slice (some ⟨b,off,none⟩) l.length cap/\l.length<=cap/\∀(j:Nat) x,l[j]? = some x->w.cell? ⟨b,off+j,none⟩=some (mkStr x):=by
 obtain⟨cs,hf,hc⟩:=(h.atom rfl).tw.flat (show 0<Ty.size E .str from Nat.one_pos);rcases hc with⟨a,he,hn⟩|⟨b,off,cap,he,hcap,hcells⟩
 ·simp_all
 ·refine .inr ⟨b,off,cap,by simpa using he,by simpa using hcap,fun j x hx=>?_⟩
  have hj:=(eV.1 hx).1;have h1:=(hcells j (by simpa [Ty.size] using hj)).2;have h2:=hf.2.2 j 0 (by simpa using hj) Nat.one_pos
  have hd:((l.map (Ty.cells E .str)).getD j []).getD 0 default=.str x:=by
   simp_all [Ty.cells]
  rw [hd] at h2;rw [show Ty.size E .str=1 from rfl,SL,UU] at h2;rw [h1,h2.hU]
def Fi(F:Nat)(l:J (J UInt8))(sep:J UInt8):O (J UInt8):=rq (decide (l.length<=140737488355328)&&decide ((Lib.join l sep).length<=140737488355328)) (some (Lib.join l sep))
def aln(E:TEnv)(f:FuncId)(F:Nat):bJ E:=⟨⟨f,[.one (.dat (.bn .str)),.one (.dat .str)],[],[],⟨.one (.dat .str),[],[],[]⟩,none,[]⟩,fun (x:J (J UInt8)×J UInt8)=>Fi F x.1 x.2⟩
structure Zb(P:Program)(f:FuncId):Prop where
 enters:∀args w,(callFunc f args).run P w=.ok (.enter f args) w
 some:∀(bk o c:Nat)(xs:List ByteArray)(sep:ByteArray)(w:World),(∀(j:Nat) x,xs[j]? = some x->w.cell? ⟨bk,o+j,none⟩=some (.string x))->bk<w.heap.size->xs.length<=140737488355328->xs.length<=c ->
  (Lib.join (xs.map (·.data.toList)) sep.data.toList).length<=140737488355328 ->
  Calls P f #[.slice (some ⟨bk,o,none⟩) xs.length c,.string sep] w fun e w'=>e=.returned (.string ⟨(Lib.join (xs.map (·.data.toList)) sep.data.toList).toArray⟩)/\Below w.heap.size w w'
 none:∀(a:Option Addr)(c:Nat)(sep:ByteArray)(w:World),Calls P f #[.slice a 0 c,.string sep] w fun e w'=>e=.returned (.string ⟨#[]⟩)/\w'=w
theorem amj(h:Zb P f)(F:Nat):(aln E f F).Ok P:=by
 have key:∀(l:J (J UInt8))(sep y:J UInt8),Fi F l sep=some y->lE (E:=E) P f [.dat (.bn .str) l,.dat .str sep] [] [] [] ⟨true,.dat .str y,[],[],[],[]⟩:=by
  intro l sep y hy;obtain⟨h1,h2⟩:=dQ hy;rw [cE,fL,fL] at h1;cases h2;refine CR h.enters fun w G args hP hv=>⟨_,fun w G=>.str w G (Lib.join l sep),?_⟩;obtain⟨u,us,ha,ve,qS⟩:=hv.cons_inv;obtain⟨u2,SN,sw,Ew,JM⟩:=qS.cons_inv;have e2:=Ew.hU;subst e2 JM sw;have ha:args=#[u,mkStr sep]:=by grind
  subst ha
  have zero:∀a c,l=[]->u=.slice a 0 c->Calls P f #[u,mkStr sep] w fun e w'=>e=.returned (mkStr (Lib.join l sep))/\Below w.heap.size w w':=by
   intro a c hl hu;subst hl hu;exact (h.none a c ⟨⟨sep⟩⟩ w).mono fun e w' ⟨q1,q2⟩=>⟨by rw [q1];rfl,q2▸Below.refl _ _⟩
  rcases ve.strs with⟨a,hu,hl⟩|⟨b,off,cap,hu,hcap,hc⟩
  ·exact zero a 0 hl hu
  ·rcases Nat.eq_zero_or_pos l.length with hl|hl
   ·simp_all
   ·have hx:(l.map fun s=>(⟨⟨s⟩⟩:ByteArray)).map (·.data.toList)=l:=by rw [Ah];exact U1 l
    have:=h.some b off cap (l.map fun s=>⟨⟨s⟩⟩) ⟨⟨sep⟩⟩ w (fun j x hjx=>by
     rw [Nb] at hjx;obtain⟨s,hs,rfl⟩:=Pj.1 hjx;exact hc j s hs) (by
     have h0:=hc 0 l[0] (fJ hl);exact adZ w _ h0) (by simpa using h1.1) (by simpa using hcap) (by rw [hx];exact h1.2)
    rw [hx,lW] at this;rw [hu];exact this
 intro x y hy;exact key x.1 x.2 y hy
structure arQ(P:Program)(f:FuncId):Prop where
 enters:∀args w,(callFunc f args).run P w=.ok (.enter f args) w
 call:∀(s:ByteArray)(c:Nat)(w:World),c<=9223372036854775807->s.size*c<=140737488355328->Calls P f #[.string s,.int .i64 c] w fun e w'=>e=.returned (.string ⟨(Lib.repeatL s.data.toList c).toArray⟩)/\Below w.heap.size w w'
def aaQ(F:Nat)(s:J UInt8)(c:Int):O Int:=rq (decide (s.length<4611686018427387904)) (some (Lib.lastIndexByte ⟨⟨s⟩⟩ c))
def aor(E:TEnv)(f:FuncId)(F:Nat):bJ E:=⟨⟨f,[.one (.dat .str),.one (.dat (.int .u8))],[],[],⟨.one (.dat (.int .i64)),[],[],[]⟩,none,[]⟩,fun (x:J UInt8×Int)=>aaQ F x.1 x.2⟩
structure ak2(P:Program)(f:FuncId):Prop where
 enters:∀args w,(callFunc f args).run P w=.ok (.enter f args) w
 call:∀(s:ByteArray)(c:Int)(w:World),s.size<4611686018427387904->Calls P f #[.string s,.int .u8 c] w fun e w'=>e=.returned (.int .i64 (Lib.lastIndexByte s c))/\w'=w
theorem aos(h:ak2 P f)(F:Nat):(aor E f F).Ok P:=by
 have key:∀(s:J UInt8)(n y:Int),aaQ F s n=some y->lE (E:=E) P f [.dat .str s,.dat (.int .u8) n] [] [] [] ⟨true,.dat (.int .i64) y,[],[],[],[]⟩:=by
  intro s n y hy;obtain⟨h1,h2⟩:=dQ hy;rw [fL] at h1;cases h2;refine CR h.enters fun w G args hP hv=>⟨_,fun w G=>.int w G .i64 (Lib.lastIndexByte ⟨⟨s⟩⟩ n),?_⟩;obtain⟨u,us,ha,ve,qS⟩:=hv.cons_inv;obtain⟨u2,SN,sw,Ew,JM⟩:=qS.cons_inv;have e1:=ve.hU;have e2:=Ew.fU;subst e1 e2 JM sw;have ha:args=#[mkStr s,.int .u8 n]:=by grind
  subst ha;exact (h.call ⟨⟨s⟩⟩ n w h1).mono fun e w' ⟨q1,q2⟩=>⟨q1,q2▸Below.refl _ _⟩
 intro x y hy;exact key x.1 x.2 y hy
structure ar4(P:Program)(f:FuncId):Prop where
 enters:∀args w,(callFunc f args).run P w=.ok (.enter f args) w
 call:∀(s cs:ByteArray)(w:World),s.size<4294967281->cs.size<4294967281->(∀(j:Nat) b,cs.data.toList[j]? = some b->b.toNat<128) ->
  Calls P f #[.string s,.string cs] w fun e w'=>e=.returned (.bool (Lib.containsAny s.data.toList cs.data.toList))/\Below w.heap.size w w'
def Ov(F:Nat)(s sep:J UInt8):O (J (J UInt8)):=rq (decide (s.length<4294967281)&&decide (1<=sep.length)) (some ((Lib.splitB ⟨⟨sep⟩⟩ 0 (Lib.countB ⟨⟨s⟩⟩ ⟨⟨sep⟩⟩) ⟨⟨s⟩⟩).map (·.data.toList)))
def ahA(E:TEnv)(f:FuncId)(e:aI)(F:Nat):bJ E:=⟨⟨f,[.one (.dat .str),.one (.dat .str)],[],[],⟨.one (.eu 0),[],[some (e,1)],[(0,.str)]⟩,none,[]⟩,fun (x:J UInt8×J UInt8)=>Ov F x.1 x.2⟩
structure ac0(E:TEnv)(P:Program)(f:FuncId)(e:TypeId):Prop where
 enters:∀args w,(callFunc f args).run P w=.ok (.enter f args) w
 call:∀(s sep:ByteArray)(w:World)(G:bq),p6 E w G->s.size<4294967281->1<=sep.size->Calls P f #[.string s,.string sep] w fun e' w'=>
   e'=.returned (.slice (some ⟨w.heap.size,0,none⟩) (Lib.countB s sep+1) (Lib.countB s sep+1))/\w'=w.alloc (.cells ((Lib.splitB sep 0 (Lib.countB s sep) s).map Value.string).toArray e)
 len:∀(s sep:ByteArray),1<=sep.size->(Lib.splitB sep 0 (Lib.countB s sep) s).length=Lib.countB s sep+1
 le:∀(s sep:ByteArray),1<=sep.size->Lib.countB s sep<=s.size
theorem ahB(l:J ByteArray):Flat w pr 1 (l.map Value.string) ((l.map (·.data.toList)).map (Ty.cells E .str)):=by
 refine⟨si,fun j hj=>?_,fun j k hj hk=>?_⟩
 ·simp_all [Ty.cells]
 ·simp at hj
  obtain rfl:k=0:=om;have e1:(l.map Value.string).getD (j*1+0) undef=.string l[j]:=by simp [hj]
  have e2:(((l.map (·.data.toList)).map (Ty.cells E .str)).getD j []).getD 0 default=.str l[j].data.toList:=by simp_all [Ty.cells]
  rw [e1,e2];exact .str _
theorem ajL(h:ac0 E P f e)(F:Nat):(ahA E f e F).Ok P:=by
 have key:∀(s sep:J UInt8)(y:J (J UInt8)),Ov F s sep=some y->lE (E:=E) P f [.dat .str s,.dat .str sep] [] [] [] ⟨true,.eu 0 0,[],[⟨0,e,1⟩],[],[(0,⟨.str,y⟩)]⟩:=by
  intro s sep y hy;obtain⟨h1,h2⟩:=dQ hy;rw [cE,fL,fL] at h1;obtain⟨c1,c2⟩:=h1;cases h2;intro w G args hP hB hS hv;obtain⟨u,us,ha,ve,qS⟩:=hv.cons_inv;obtain⟨u2,SN,sw,Ew,JM⟩:=qS.cons_inv;have e1:=ve.hU;have e2:=Ew.hU;subst e1 e2 JM sw;have ha:args=#[mkStr s,mkStr sep]:=by grind
  subst ha;unfold kn;rw [h.enters];have hlen:=h.len ⟨⟨s⟩⟩ ⟨⟨sep⟩⟩ c2;have hle:=h.le ⟨⟨s⟩⟩ ⟨⟨sep⟩⟩ c2;have hsz:(⟨⟨s⟩⟩:ByteArray).size=s.length:=rfl;generalize hpl:Lib.splitB ⟨⟨sep⟩⟩ 0 (Lib.countB ⟨⟨s⟩⟩ ⟨⟨sep⟩⟩) ⟨⟨s⟩⟩=pl at hlen;generalize hcn:Lib.countB ⟨⟨s⟩⟩ ⟨⟨sep⟩⟩=cn at hlen hle;have hC:=h.call ⟨⟨s⟩⟩ ⟨⟨sep⟩⟩ w G hP c1 c2;rw [hcn] at hC hpl;rw [hpl] at hC;refine Ge hC fun e' w' hh=>?_;obtain⟨rfl,rfl⟩:=hh;have hr:=Rel.KN (n:=0) hP hB hS .nil
  let cur:=(pl.map Value.string).toArray
  have hcs:cur.size=(cn+1)*1:=by simp [cur,hlen]
  have hG:=hr.grow (eY.alloc w (.cells cur e)) rfl rfl rfl G.pr (fun _ _ h=>h) (fun _ _ _ h=>h) (fun b o hp=>jN (hr.boxes.gq b o hp).1 si);have hnp:∀o,¬ G.pr w.heap.size o:=fun o hp=>absurd (hr.boxes.gq _ _ hp).1 (zx _);have hheap:(w.alloc (.cells cur e)).heap[w.heap.size]? = some (.cells cur e):=heap_alloc_new w _;have hmax:maxLen=9223372036854775807:=rfl
  have hown:(w.alloc (.cells cur e)).ownsRow 0 e 1 (.slice (some ⟨w.heap.size,0,none⟩) (cn+1) (cn+1)) (cn+1) (cur.toList.take ((cn+1)*1)):=by
   refine⟨by simp [cur,hlen],.inr ⟨w.heap.size,cn+1,cur,rfl,eA _,hheap,ek _,?_,hcs,rfl⟩⟩;rw [hmax];omega
  have hA:=hG.Ct ⟨0,e,1⟩ (.slice (some ⟨w.heap.size,0,none⟩) (cn+1) (cn+1)) ⟨cn+1,_,hown,fun a q h=>by simp at h,fun b hb=>by
    cases hb;exact⟨si,fun hm=>absurd (hr.boxes.lt _ hm) (zx _),fun o _ hp=>hnp o hp⟩⟩ (fun b hb=>by cases hb;exact hr.eX.size) (fun j y z b hj hzb hb=>by
    cases hb;obtain⟨n',xs',-,-,hb'⟩:=hr.boxes.grow j y z hj
    simp_all)
  have hg0:G.g=[]:=by
   have:=hB.gs;simpa using this
  have lz:(G.g++[(⟨0,e,1⟩,Value.slice (some ⟨w.heap.size,0,none⟩) (cn+1) (cn+1))])[0]? = some (⟨0,e,1⟩,.slice (some ⟨w.heap.size,0,none⟩) (cn+1) (cn+1)):=by rw [hg0];rfl
  have hC2:=hA.VG (c:=⟨.str,pl.map (·.data.toList)⟩) ⟨⟨0,e,1⟩,_,lz,rfl,Nat.one_pos,⟨_,by simpa [hlen] using hown,by
    grind [List.take_of_length_le,ahB]⟩,fun b hb o hp=>by cases hb;exact hnp o hp⟩
  refine⟨_,_,rfl,hC2.eX,hC2.boxes,hC2.gr,?_,fun q b hq _=>hC2.fix q b hq si⟩;exact⟨⟨0,e,1⟩,_,lz,ek _,rfl,fun _=>rfl⟩
 intro x y hy;exact key x.1 x.2 y hy
theorem Rel.amk{w0 w':U}{G0:bq}{st:TS E}{a:Act}(hr:Rel E w0 G0 st a w G){j:Nat}{g:cH}{c:Cn E}(hg:st.g[j]? = some g)(hc:oM st.c j=some c)(hj:G.g[j]? = some (g,v))(vg:w.grownBy w' v.ownBlock){ys:J (c.1.den E.D)}{vals:J Value}
  (hown:w'.ownsRow 0 g.e g.k v ys.length vals) (hf:Flat w G.pr g.k vals (ys.map (c.1.cells E))) :
  Rel E w0 G0 {st with c:=(j,⟨c.1,ys⟩)::nI j st.c} a w' G:=by
 obtain⟨h,hj',hs,-⟩:=hr.soft hg hc;rw [hj] at hj';cases hj';obtain⟨n0,ZR,SV,NO,hb0⟩:=hr.boxes.grow j g v hj;have hnp:=hs.2.2.2
 have hcells:∀b o u,G.pr b o->w.cell? ⟨b,o,none⟩=some u->w'.cell? ⟨b,o,none⟩=some u:=fun b o u hp hu=>
  vg.cell hu (fun e=>hnp b e.symm o hp)
 have mL:=K9 hj
 have key:=hr.setRow (cs:=(j,⟨c.1,ys⟩)::nI j st.c) hj (ek _) (fun _=>rfl) vg.size vg.os vg.tape vg.output
  (fun b hb hne=>vg.block b hb (fun e=>hne e.symm)) hcells G.pr (fun _ _ h=>h) (fun _ _ h=>.inl h)
  ⟨ys.length,vals,hown,NO,fun b hb=>⟨(hown.lt b hb).2,(hb0 b hb).2.1,fun o _ hp=>hnp b hb o hp⟩⟩ (fun b hb=>.inr hb) (fun hg'=>?_)
 ·simp_all [K9]
 ·intro i c' hm
  rcases iE.1 hm with e|hm
  ·cases e
   exact⟨g,v,by rw [mL];exact hj,hs.1,hs.2.1,⟨vals,hown,hf.mono hg'.pr hg'.cells⟩,hnp⟩
  ·obtain⟨hm,hne⟩:=tA hm
   obtain⟨x,hd,q1,q2⟩:=hr.gr i c' hm;obtain⟨n1,xs1,-,-,vz⟩:=hr.boxes.grow i x hd q1;refine⟨x,hd,by rw [mL];exact q1,q2.keep rfl rfl hg'.pr hg'.cells fun b hb=>⟨vg.block b (vz b hb).1 (fun e=>hne (hr.boxes.apart i j x hd g v b q1 hj hb e.symm)),fun o hp=>hp⟩⟩
theorem afQ(l:J (J UInt8)):Flat w pr 1 (l.map Go.Proofs.encStr) (l.map (Ty.cells E .str)):=by
 refine⟨si,fun j hj=>?_,fun j k hj hk=>?_⟩
 ·simp_all [Ty.cells]
 ·simp at hj
  obtain rfl:k=0:=om;have e1:(l.map Go.Proofs.encStr).getD (j*1+0) undef=mkStr l[j]:=by simp [hj];rfl
  have e2:((l.map (Ty.cells E .str)).getD j []).getD 0 default=.str l[j]:=by simp_all [Ty.cells]
  rw [e1,e2];exact .str _
theorem Xo{xs:J Value}(h:Flat w pr 1 xs (l.map (Ty.cells E .str))):xs=l.map Go.Proofs.encStr:=by
 have hl:xs.length=l.length:=by simpa using h.1
 refine Af (by simpa using hl) fun j h1 h2=>?_;have hj:j<l.length:=om;have h3:=h.2.2 j 0 (by simpa using hj) Nat.one_pos;have e2:((l.map (Ty.cells E .str)).getD j []).getD 0 default=.str l[j]:=by simp_all [Ty.cells]
 have e1:xs.getD (j*1+0) undef=xs[j]:=by simp [h1]
 rw [e1,e2] at h3;rw [h3.hU,Rt];rfl
def Y3(F:Nat)(l:J (J UInt8)):O (J (J UInt8)):=rq (decide (l.length<4611686018427387904)) (some (rZ l))
def alo(E:TEnv)(f:FuncId)(e:aI)(F:Nat):bJ E:=⟨⟨f,[.one (.eu 0)],[],[(e,1)],⟨.one .any,[],[none],[(0,.str)]⟩,none,[(0,.str)]⟩,fun (x:J (J UInt8))=>Y3 F x⟩
structure agz(P:Program)(f:FuncId):Prop where
 enters:∀args w,(callFunc f args).run P w=.ok (.enter f args) w
 some:∀(blk cap:Nat)(ss:List (List UInt8))(w:World),Sort.Holds Go.Proofs.encStr w blk 0 ss.toArray->blk<w.heap.size->ss.length<4611686018427387904->Calls P f #[.slice (some ⟨blk,0,none⟩) ss.length cap] w fun e w'=>
   e=.returned (.tuple #[])/\∃n os,w'=Sort.grow (Sort.putRow Go.Proofs.encStr (Sort.ahead w n) blk 0 (ss.mergeSort fun x y=>decide (x<=y)).toArray) os
 none:∀(p:Option Addr)(cap:Nat)(w:World),Calls P f #[.slice p 0 cap] w fun e w'=>e=.returned (.tuple #[])/\w'=w
theorem aml(h:agz P f)(F:Nat):(alo E f e F).Ok P:=by
 have key:∀(l y:J (J UInt8)),Y3 F l=some y->lE (E:=E) P f [.eu 0 0] [] [⟨0,e,1⟩] [(0,⟨.str,l⟩)] ⟨true,.any,[],[⟨0,e,1⟩],[],[(0,⟨.str,y⟩)]⟩:=by
  intro l y hy;obtain⟨h1,h2⟩:=dQ hy;rw [fL] at h1;cases h2;intro w G args hP hB hS hv;obtain⟨u,us,ha,ve,qS⟩:=hv.cons_inv;subst qS;have ha:args=#[u]:=by grind
  subst ha;unfold kn;rw [h.enters];have hr:=Rel.KN (n:=0) hP hB hS .nil;obtain⟨v,hj,hs,hval⟩:=hr.soft (j:=0) rfl rfl;have lJ:=hval u ve;subst lJ;rcases hs.block with⟨q1,q2⟩|⟨b,cap,cur,q1,hheap,hcap,hcm,hcs,Mc,hnp⟩
  ·have q2:l=[]:=q2
   subst q2 q1;refine (h.none none 0 w).mono fun e' w' hh=>?_;obtain⟨rfl,rfl⟩:=hh;exact⟨_,G,rfl,kQ.refl _ G,hB,hS,by simp [VT],fun _ _ _ _=>rfl⟩
  ·subst q1
   have hft:=Xo Mc;have hft:cur.toList.take l.length=l.map Go.Proofs.encStr:=by simp_all
   have hH:=Go.holds_of_block hheap hft;refine (h.some b cap l w hH (Ag.1 hheap).1 h1).mono fun e' w' hh=>?_;obtain⟨rfl,n,os,rfl⟩:=hh;rw [aaN];have QE:=(C5 l).length_eq;have hown:=Go.ownsRow_sorted (n:=n) (os:=os) QE (eA _) hheap hcap hcm hcs;have hR:=hr.amk rfl rfl hj (Go.grownBy_sorted _) (by rw [QE];exact hown) (afQ (rZ l));exact⟨_,G,rfl,hR.eX,hR.boxes,hR.gr,by simp [VT],fun q b hq _=>hR.fix q b hq si⟩
 intro x y hy;exact key x y hy
def Ke(F:Nat)(sep:J UInt8)(l:J (J UInt8)):O (J UInt8×J (J UInt8)):=(Fi F l sep).bind fun y=>some (y,l)
def ahC(E:TEnv)(f:FuncId)(e:aI)(F:Nat):bJ E:=⟨⟨f,[.one (.eu 0),.one (.dat .str)],[],[(e,1)],⟨.one (.dat .str),[],[none],[(0,.str)]⟩,none,[(0,.str)]⟩,fun (x:J UInt8×J (J UInt8))=>Ke F x.1 x.2⟩
theorem ajM(h:Zb P f)(F:Nat):(ahC E f e F).Ok P:=by
 have key:∀(sep y:J UInt8)(l z:J (J UInt8)),Ke F sep l=some (y,z)->lE (E:=E) P f [.eu 0 0,.dat .str sep] [] [⟨0,e,1⟩] [(0,⟨.str,l⟩)] ⟨true,.dat .str y,[],[⟨0,e,1⟩],[],[(0,⟨.str,z⟩)]⟩:=by
  intro sep y l z hy;unfold Ke at hy
  cases hj:Fi F l sep with
  | none=>rw [hj] at hy;cases hy
  | some y'=>
  rw [hj] at hy;cases hy;obtain⟨h1,h2⟩:=dQ hj;rw [cE,fL,fL] at h1;cases h2;intro w G args hP hB hS hv;obtain⟨u,us,ha,ve,qS⟩:=hv.cons_inv;obtain⟨u2,SN,sw,Ew,JM⟩:=qS.cons_inv;have e2:=Ew.hU;subst e2 JM sw;have ha:args=#[u,mkStr sep]:=by grind
  subst ha;unfold kn;rw [h.enters];have hr:=Rel.KN (n:=0) hP hB hS .nil;obtain⟨v,hj,hs,hval⟩:=hr.soft (j:=0) rfl rfl;have lJ:=hval u ve;subst lJ;rcases hs.block with⟨q1,q2⟩|⟨b,cap,cur,q1,hheap,hcap,hcm,hcs,Mc,hnp⟩
  ·have q2:l=[]:=q2
   subst q2 q1;refine (h.none none 0 ⟨⟨sep⟩⟩ w).mono fun e' w' hh=>?_;obtain⟨rfl,rfl⟩:=hh;exact⟨_,G,rfl,kQ.refl _ G,hB,hS,.str _ _ _,fun _ _ _ _=>rfl⟩
  ·subst q1
   have hft:=Xo Mc;have hx:(l.map fun s=>(⟨⟨s⟩⟩:ByteArray)).map (·.data.toList)=l:=by rw [Ah];exact U1 l
   have TG:=h.some b 0 cap (l.map fun s=>⟨⟨s⟩⟩) ⟨⟨sep⟩⟩ w (fun j x hjx=>by
     rw [Nb] at hjx;obtain⟨s,hs',rfl⟩:=Pj.1 hjx;have hjl:=(eV.1 hs').1;have h3:(cur.toList.take l.length)[j]? = some (Go.Proofs.encStr s):=by simp_all
     rw [List.getElem?_take_of_lt hjl] at h3;have h4:cur[j]? = some (Go.Proofs.encStr s):=by simpa using h3
     simp [World.cell?,hheap,h4]) (Ag.1 hheap).1 (by simpa using h1.1) (by
     simp_all) (by rw [hx];exact h1.2)
   rw [hx,lW] at TG;refine TG.mono fun e' w' hh=>?_;obtain⟨rfl,Gg⟩:=hh;obtain⟨q1,q2,q4,q3⟩:=hB.grown hP hS ⟨Gg.size,fun k hk=>Gg.block k hk⟩ Gg.os Gg.tape Gg.output;exact⟨_,G,rfl,q1,q2,q4,.str _ _ _,fun q b hq _=>q3 q b hq⟩
 intro x y hy;exact key x.1 y.1 x.2 y.2 hy
def afR(F:Nat)(s sep:J UInt8):O (J UInt8×J UInt8×Bool):=rq (decide (s.length<4294967281)) (some (Lib.cut s sep))
def aot(E:TEnv)(f:FuncId)(F:Nat):bJ E:=⟨⟨f,[.one (.dat .str),.one (.dat .str)],[],[],⟨.dz [.dat .str,.dat .str,.dat .bool],[],[],[]⟩,none,[]⟩,fun (x:J UInt8×J UInt8)=>afR F x.1 x.2⟩
structure ak3(E:TEnv)(P:Program)(f:FuncId):Prop where
 enters:∀args w,(callFunc f args).run P w=.ok (.enter f args) w
 call:∀(s sep:ByteArray)(w:World)(G:bq),p6 E w G->s.size<4294967281->Calls P f #[.string s,.string sep] w fun e w'=>
  e=.returned (.tuple #[.string ⟨(Lib.cut s.data.toList sep.data.toList).1.toArray⟩,.string ⟨(Lib.cut s.data.toList sep.data.toList).2.1.toArray⟩,.bool (Lib.cut s.data.toList sep.data.toList).2.2])/\∃n,w'=w.drewN n
theorem aou(h:ak3 E P f)(F:Nat):(aot E f F).Ok P:=by
 have key:∀(s sep a b:J UInt8)(c:Bool),afR F s sep=some (a,b,c)->lE (E:=E) P f [.dat .str s,.dat .str sep] [] [] [] ⟨true,.tuple [.dat .str a,.dat .str b,.dat .bool c],[],[],[],[]⟩:=by
  intro s sep a b c hy;obtain⟨h1,h2⟩:=dQ hy;rw [fL] at h1;have h2:=qE h2;refine CR h.enters fun w G args hP hv=>⟨.tuple #[mkStr a,mkStr b,.bool c],fun w G=>?_,?_⟩
  ·exact⟨_,rfl,.cons (.str _ _ _) (.cons (.str _ _ _) (.cons (.bool _ _ _) .nil))⟩
  obtain⟨u,us,ha,ve,qS⟩:=hv.cons_inv;obtain⟨u2,SN,sw,Ew,JM⟩:=qS.cons_inv;have e1:=ve.hU;have e2:=Ew.hU;subst e1 e2 JM sw;have ha:args=#[mkStr s,mkStr sep]:=by grind
  subst ha;have:=h.call ⟨⟨s⟩⟩ ⟨⟨sep⟩⟩ w G hP h1;refine this.mono fun e' w' hh=>?_;obtain⟨rfl,n,rfl⟩:=hh;refine⟨?_,?_⟩
  ·rw [h2];rfl
  ·exact⟨rfl,rfl,rfl,ek _,fun _ _=>rfl⟩
 intro x y hy;exact key x.1 x.2 y.1 y.2.1 y.2.2 hy
end Go.RT
namespace Go.RT
open Go.RowKit
variable {E : TEnv}
def v7(n:Nat)(m:J (Nat×TV E)):J (TV E):=m.foldl (fun t p=>t.set p.1 p.2) (List.replicate n .any)
def SS(n:Nat)(m:J (Nat×TV E))(H:J (fM E))(g:J cH):TS E:=⟨v7 n m,H,g,[],[],[]⟩
theorem Sf:∀(m:J (Nat×TV E))(t:J (TV E)),(m.foldl (fun t p=>t.set p.1 p.2) t).length=t.length/\∀j d,(m.foldl (fun t p=>t.set p.1 p.2) t)[j]? = some d->t[j]? = some d\/(j,d)∈m
 | [],t=>⟨rfl,fun j d h=>.inl h⟩
 | p::m,t=>by
  obtain⟨h1,h2⟩:=Sf m (t.set p.1 p.2);refine⟨by simpa using h1,fun j d h=>?_⟩;rcases h2 j d h with h|h
  ·by_cases e:p.1=j
   ·subst e
    have hl:p.1<t.length:=by
     have:=(eV.1 h).1;simpa using this
    rw [Yy hl] at h;cases h;exact .inr si
   ·rw [Na e] at h
    exact .inl h
  ·exact .inr (by simp [h])
theorem uN(n:Nat)(m:J (Nat×TV E)):(v7 n m).length=n:=by simp_all [v7,Sf]
variable{n:Nat}{m:J (Nat×TV E)}{j:Nat}
theorem xy{d:TV E}(h:(v7 n m)[j]? = some d):d=.any\/(j,d)∈m:=by
 rcases (Sf m _).2 j d h with h|h
 ·grind
 ·exact .inr h
variable{P:bh}{w0 w w':U}{G0 G G':bq}{st:TS E}{a:Act}{Q Q':Ex E -> TS E -> Prop}{c c':Code}{o:Oper}{H:J (fM E)}{g:J cH}{t:aI}{ops:aG Oper}{e:aI}{j1 j2:Nat}{z:Value}{ie:TI}{e2:aI}{j3 cap aF:Nat}
theorem Rel.weak(hr:Rel E w0 G0 st a w G)(hi:G0.i=[]){t':J (TV E)}(hl:t'.length=st.t.length)(ht:∀(j:Nat) d,t'[j]? = some d->d=.any\/st.t[j]? = some d)(d':J Nat):
  Rel E w0 G0 {st with t:=t',d:=d'} a w G:=by
 refine⟨hr.eX,hr.size.trans hl.symm,fun j d hj=>?_,hr.defers,hr.boxes,fun r b hb=>?_,hr.pins,hr.gr⟩
 ·rcases ht j d hj with rfl|h
  ·simp [VT]
  ·exact hr.tmps j d h
 simp_all
def AW(P:bh)(w0:U)(G0:bq)(c:Code)(st:TS E)(Q:Ex E->TS E->Prop):Prop:=∀a w G,Rel E w0 G0 st a w G->c.wp P (cG E w0 G0 Q) a w
theorem AW.mono(h:AW P w0 G0 c st Q)(hq:∀x s,Q x s->Q' x s):AW P w0 G0 c st Q':=fun a w G hr=>wp_mono (h a w G hr) fun _ _ _ hp=>cG.mono hq hp
theorem AW.seq(h:AW P w0 G0 c st (fun x s=>(x=.normal/\AW P w0 G0 c' s Q)\/(x≠.normal/\Q x s))):AW P w0 G0 (.seq c c') st Q:=fun a w G hr=>by
 refine wp_seq (wp_mono (h a w G hr) fun e a' w' hp=>?_);obtain⟨x,s,G',he,hr',hq⟩:=hp;rcases hq with⟨rfl,hq⟩|⟨hne,hq⟩
 ·cases e<;>try (exact he.elim)
  exact hq a' w' G' hr'
 ·have qZ:cG E w0 G0 Q e a' w':=⟨x,s,G',he,hr',hq⟩
  cases x with
  | normal=>exact (hne rfl).elim
  | _=>cases e<;>first|exact he.elim|exact qZ
theorem AW.D6(h:AW P w0 G0 c st (fun x s=>x=.normal/\Q' x s))(h':∀s,Q' .normal s->AW P w0 G0 c' s Q):AW P w0 G0 (.seq c c') st Q:=
 AW.seq (h.mono fun x s hq=>.inl ⟨hq.1,h' s (hq.1▸hq.2)⟩)
theorem AW.block{i:Nat}(h:AW P w0 G0 c st (fun x s=>(x=.exit i/\Q .normal s)\/(x≠.exit i/\Q x s))):AW P w0 G0 (.block i c) st Q:=fun a w G hr=>by
 refine wp_block (wp_mono (h a w G hr) fun e a' w' hp=>?_);obtain⟨x,s,G',he,hr',hq⟩:=hp
 cases x with
 | exit j=>
  cases e<;>try (exact he.elim)
  rename_i i';subst he;simp [Exit.inBlock];rcases hq with⟨hx,hq⟩|⟨hx,hq⟩
  ·cases hx
   rw [if_pos rfl];exact⟨.normal,s,G',trivial,hr',hq⟩
  ·rw [if_neg (fun e=>hx (by rw [e]))]
   exact⟨.exit i',s,G',rfl,hr',hq⟩
 | _=>
  rcases hq with⟨hx,-⟩|⟨-,hq⟩
  ·cases hx
  ·have qZ:cG E w0 G0 Q e a' w':=⟨_,s,G',he,hr',hq⟩
   cases e<;>first|exact he.elim|exact qZ
theorem AW.cond{o:dy}{b:Bool}(ho:st.ev o=.dat .bool b)(h:AW P w0 G0 (if b then c else c') st Q):AW P w0 G0 (.cond o c c') st Q:=fun a w G hr=>by
 have hv:=hr.ev o;rw [ho] at hv;exact wp_cond hv.mh (h a w G hr)
theorem AW.skip(h:Q .normal st):AW P w0 G0 .skip st Q:=fun a w G hr=>wp_skip ⟨.normal,st,G,trivial,hr,h⟩
theorem AW.ret(h:Q .ret st):AW P w0 G0 .ret st Q:=fun a w G hr=>wp_ret ⟨.ret,st,G,trivial,hr,h⟩
theorem AW.exit{i:Nat}(h:Q (.exit i) st):AW P w0 G0 (.exit i) st Q:=fun a w G hr=>wp_exit ⟨.exit i,st,G,rfl,hr,h⟩
theorem AW.loop{ι:Type}(S:ι->TS E)(I:ι->Prop)(μ:ι->Nat)(x0:ι)(h0:I x0)(hS:st=S x0)
  (hs:∀x,I x->AW P w0 G0 c (S x) (fun e s=>(e=.normal/\∃y,I y/\μ y<μ x/\s=S y)\/(e≠.normal/\Q e s))):AW P w0 G0 (.loop c) st Q:=fun a w G hr=>by
 subst hS;refine (wpIn_wide (n:=0)).1 (Oj (ι:=ι) (fun x a' w'=>I x/\∃G',Rel E w0 G0 (S x) a' w' G') μ x0 ⟨h0,G,hr⟩ ?_);rintro x a' w' ⟨hx,G',hr'⟩;refine (wpIn_wide).2 (wp_mono (hs x hx a' w' G' hr') fun e a2 w2 hp=>?_);obtain⟨e',s,G2,he,hr2,hq⟩:=hp;rcases hq with⟨rfl,y,hy,hlt,rfl⟩|⟨hne,hq⟩
 ·cases e<;>try (exact he.elim)
  exact⟨y,⟨hy,G2,hr2⟩,hlt⟩
 ·have qZ:cG E w0 G0 Q e a2 w2:=⟨e',s,G2,he,hr2,hq⟩
  cases e' with
  | normal=>exact (hne rfl).elim
  | _=>cases e<;>first|exact he.elim|exact qZ
def proj(js:J Nat):Ex E->TS E->O (J (O (TV E))×J (fM E)×J cH×J (Nat×Cn E)×J (FuncId×J (TV E)))
 | .normal,s=>some (js.map fun j=>s.t[j]?,s.H,s.g,s.c,s.df)
 | _,_=>none
theorem AW.rt{X:Cx E}(hX:X.Ok)(hi:G0.i=[]){pl:dN}{n:Nat}{m m':J (Nat×TV E)}{H H':J (fM E)}{g g':J cH}
  (h:runT X 0 c pl (SS n m H g) (proj (m'.map (·.1)))=some (m'.map (fun p=>some p.2),H',g',[],[])) :
  AW X.P w0 G0 c (SS n m H g) (fun x s=>x=.normal/\s=SS n m' H' g'):=fun a w G hr=>by
 refine wp_mono ((tY hX c pl h).wp hr) fun e a' w' hp=>?_;obtain⟨x,s,G',he,hr',hk,hF⟩:=hp
 cases x with
 | normal=>
  simp only [proj,ad5,aea] at hk;obtain⟨k1,k2,k3,k4,k5⟩:=hk;obtain⟨t,H1,g1,d1,df1,c1⟩:=s;subst k2 k3 k4 k5;have hlen:t.length=n:=by rw [show t.length=_ from hF.len];exact uN n m
  refine⟨.normal,SS n m' H1 g1,G',he,?_,rfl,rfl⟩;refine hr'.weak hi (by simp_all [uN]) (fun j d hj=>?_) [];rcases xy hj with h|h
  ·exact .inl h
  ·obtain⟨q,hq,he'⟩:=lS h
   have:=congrArg (fun l=>l[q]?) k1
   simp_all
 | _=>cases hk
def ajN(m:J (Nat×TV E)):Prop:=∀p∈m,∃t x,p.2=.dat t x
theorem Rel.aaR(hr:Rel E w0 G0 (SS n m H g) a w G):kj E w' G' a.defers []:=by
 have h:=hr.defers
 cases hd:a.defers with
 | nil=>trivial
 | cons d ds=>rw [hd] at h;exact h.elim
theorem Rel.ahD(hr:Rel E w0 G0 (SS n m H g) a w G)(hi:G0.i=[])(hm:ajN m):Rel E w0 G0 (SS n m [] g) a w {G with i:=[]}:=by
 have ev:=hr.eX;refine⟨⟨ev.os,ev.tape,ev.output,ev.size,ev.old,⟨ev.goes.pr,ev.goes.cells,fun r b h=>(by rw [hi] at h;cases h),ev.goes.g⟩,ev.oe,fun r b _ h=>(by cases h),ev.gL⟩,hr.size,fun j d hj=>?_,hr.aaR,?_,fun r b hb=>(by rw [hi] at hb;cases hb),hr.pins,fun j c h=>(by cases h)⟩
 ·have hv:=hr.tmps j d hj
  rcases xy hj with rfl|h
  ·simp [VT]
  ·obtain⟨t,x,e⟩:=hm _ h
   subst e;exact hv.sP (fun _ _ h=>h)
 ·refine⟨rfl,hr.boxes.gs,fun r b x h=>(by cases h),fun b h=>(by cases h),Gf,fun b o hp=>⟨(hr.boxes.gq b o hp).1,fun h=>by cases h⟩,fun j x h hj=>?_,hr.boxes.apart⟩
  obtain⟨n',xs,h1,h2,h3⟩:=hr.boxes.grow j x h hj;exact⟨n',xs,h1,h2,fun b hb=>⟨(h3 b hb).1,(fun h=>by cases h),(h3 b hb).2.2⟩⟩
theorem VT.alp{t:Ty}{x:t.den E.D}{v:Value}(h:VT E w G (.dat t x) v)(hp:∀b o,G.pr b o->G'.pr b o)(hc:∀b o u,G.pr b o->w.cell? ⟨b,o,none⟩=some u->w'.cell? ⟨b,o,none⟩=some u):VT E w' G' (.dat t x) v:=
 (h.mono (show iB w G w' {G with pr:=G'.pr} from⟨hp,hc,fun _ _ h=>h,fun j x y hj=>⟨x,y,hj,ek _,fun _=>rfl⟩⟩)).sP (fun _ _ h=>h)
theorem wpList_step{Q:Exit->Act->U->Prop}{l:J Oper}{v:Value}(hg:o.guard=none)(hrun:(execOp a.eval o).run P w=.ok (.value v) w')(h:wpList P ops Q l (a.put o.dst v) w'):wpList P ops Q (o::l) a w:=by
 unfold wpList;rw [if_pos (by simp [Region.wanted,hg])];left;unfold Oper.wp;rw [hrun];exact h
theorem Ow(ho:o.op=.buildSlice t 1 #[(0,.const (.slice none 0 0))])(ht:aU P t=some ⟨.slice e,j1,j2,z⟩)(hi:aU P e=some ie)(hs:ie.size=1)(a:Act)(w:U):
  (execOp a.eval o).run P w=.ok (.value (.slice (some ⟨w.heap.size,0,none⟩) 1 1)) (w.alloc (.cells #[.slice none 0 0] e)):=by
 obtain⟨xt,jP,ey,-⟩:=aM ht;obtain⟨xe,qA,AL,hsz,-⟩:=aM hi
 have ald:∀base:aG Value,base.size=1->Instr.fill (fun i=>some (i*1,1)) base [(0,(.slice none 0 0:Value))]=some #[.slice none 0 0]:=by
  intro base hb;have h:=NQ (k:=1) [(.slice none 0 0:Value)] 0 base (by intro v hv;simp at hv;subst hv;rfl) (by simp [hb]);have hd:base.toList.drop 1=[]:=SK (by simp [hb]);simp only [su,D4] at h;rw [hd] at h;exact h
 simp only [execOp,ho,Instr.buildSlice,jf,aQ ey,jG,fy qA,hsz,hs];rw [if_neg de,if_neg de];have hf:=ald ((Array.range (1*1)).map (ie.zero.cells[· % ie.zero.cells.size]!)) si;simp only [jf,pe,nt hi,jG];have he:(#[(0,Operand.const (.slice none 0 0))].map fun x=>(x.1,a.eval x.2)).toList=[(0,(.slice none 0 0:Value))]:=by simp [Act.eval]
 rw [he,hf];rfl
theorem Kf(n:Nat)(m m2:J (Nat×TV E)):v7 n (m++m2)=m2.foldl (fun t p=>t.set p.1 p.2) (v7 n m):=by simp_all [v7,Rv]
theorem aaS(a:Act)(v:Value)(h:j<a.tmps.size):(a.put (some j) v).eval (.tmp j)=v:=by
 show (a.put (some j) v).tmps.getD j undef=v;rw [Cr,if_pos ⟨rfl,h⟩]
theorem run_assign{x:dy}(ho:o.op=.assign x)(a:Act)(w:U):(execOp a.eval o).run P w=.ok (.value (a.eval x)) w:=by simp [execOp,ho]
theorem run_move{x:dy}(ho:o.op=.move x)(a:Act)(w:U):(execOp a.eval o).run P w=.ok (.value (a.eval x)) w:=by simp [execOp,ho]
theorem AW.apT{id:Nat}{o0 o1:Oper}(nw:ops.toList=[o0,o1]){j6:Nat}(h0:o0.op=.buildSlice t 1 #[(0,.const (.slice none 0 0))])(g0:o0.guard=none)(d0:o0.dst=some j6)
  (h1:o1.op=.assign (.tmp j6)) (g1:o1.guard=none) (d1:o1.dst=some j3) (ht:aU P t=some ⟨.slice e,j1,j2,z⟩) (hi:aU P e=some ie) (hs:ie.size=1) (tR:Ty) {m':J (Nat×TV E)} (hn:j6<n) (Mi:G0.i=[])
  (hsub:∀p∈m',(v7 n (m++[(j6,.any),(j3,.iq 0 1 1)]))[p.1]? = some p.2) :
  AW P w0 G0 (.region id ops false) (SS n m [] []) (fun x s=>x=.normal/\s=SS n m' [.lC e 1 (.bn tR) [] (.cA 0 0 tR [])] [⟨0,e2,tR.size E⟩]):=by
 intro a w G hr;refine wp_region_list ?_;rw [nw];have hsz:=hr.size.trans (uN n m);have hGi:=D3 hr.boxes.len;refine wpList_step g0 (Ow h0 ht hi hs a w) ?_;refine wpList_step g1 (run_assign h1 _ _) ?_;rw [d0,aaS _ _ (by rw [hsz];exact hn)];have r1:=hr.J6 e2 (tR.size E);have hgl:=hr.qb
 have r2:=r1.J3 (.cells #[.slice none 0 0] e) (.lC e 1 (.bn tR) [] (.cA 0 0 tR [])) (by
  refine⟨#[.slice none 0 0],heap_alloc_new w _,rfl,fun i x hx=>(by cases hx),?_,Nat.one_pos⟩
  ·exact NU hgl e2 tR)
 have r3:=r2.put (v:=.slice (some ⟨w.heap.size,0,none⟩) 1 1) (d:=.any) (by simp [VT]) (some j6)
 have r4:=r3.put (v:=.slice (some ⟨w.heap.size,0,none⟩) 1 1) (d:=.iq 0 1 1) (by
  simp_all [VT]) (some j3)
 rw [d1];refine⟨.normal,_,_,trivial,r4.weak Mi (by simp [SS,cx,uN]) (fun j d hj=>?_) [],rfl,rfl⟩;rcases xy hj with h|h
 ·exact .inl h
 ·right
  have:=hsub _ h;rw [Kf] at this;exact this
theorem AW.amm(hE:E.Ok){id:Nat}{o0 o1 o2 o3:Oper}(nw:ops.toList=[o0,o1,o2,o3]){j3 Ey Gi Nj:Nat}(h0:o0.op=.move (.tmp j3))(g0:o0.guard=none)(d0:o0.dst=some Ey)
  (h1:o1.op=.buildSlice t 1 #[(0,.const (.slice none 0 0))]) (g1:o1.guard=none) (d1:o1.dst=some Gi) {cl:Call} (h2:o2.op=.call cl) (hcl:cl.callee=.builtin .append) (ha:cl.args=#[.tmp Ey,.tmp Gi]) (hat:cl.argTypes=#[t,t]) (g2:o2.guard=none) (d2:o2.dst=some Nj)
  (h3:o3.op=.assign (.tmp Nj)) (g3:o3.guard=none) (d3:o3.dst=some j3) (ht:aU P t=some ⟨.slice e,j1,j2,z⟩) (hi:aU P e=some ie) (hs:ie.size=1) (hzs:ie.zero.cells.size=ie.size) (tR:Ty)
  {m0:J (Nat×TV E)} (hm0:ajN m0) (hn:Ey<n/\Gi<n/\Nj<n/\Ey≠Gi) (Mi:G0.i=[])  {xs:J (J (tR.den E.D))} {last:J (tR.den E.D)}
  (hj3:(v7 n (m0++[(j3,.iq 0 (xs.length+1) cap)]))[j3]? = some (.iq 0 (xs.length+1) cap)) (hlen:(xs.length+2)*ie.bytes<=140737488355328) (aov:xs.length+2<=9223372036854775807)
  (hsub:∀c':Nat,∀p∈m0++[(j3,.iq 0 (xs.length+2) c')],(v7 n ((((m0++[(Ey,.any)])++[(Gi,.any)])++[(Nj,.any)])++[(j3,.iq 0 (xs.length+2) c')]))[p.1]? = some p.2) (hmd:∀p∈m0,(v7 n (m0++[(j3,.iq 0 (xs.length+1) cap)]))[p.1]? = some p.2) :
  AW P w0 G0 (.region id ops false) (SS n (m0++[(j3,.iq 0 (xs.length+1) cap)]) [.lC e cap (.bn tR) xs (.cA 0 aF tR last)] [⟨aF,e2,tR.size E⟩])
   (fun x s=>x=.normal/\∃c',s=SS n (m0++[(j3,.iq 0 (xs.length+2) c')]) [.lC e c' (.bn tR) (xs++[last]) (.cA 0 (aF+1) tR [])] [⟨aF+1,e2,tR.size E⟩]):=by
 intro a w G hr;refine wp_region_list ?_;rw [nw];have hsz:a.tmps.size=n:=hr.size.trans (uN n _);obtain⟨xt,jP,ey,-⟩:=aM ht;obtain⟨xe,qA,AL,hsize,hby,hz⟩:=aM hi;have Ew:=hr.tmps j3 _ hj3;simp only [VT] at Ew;obtain⟨b,Ew,ajO⟩:=Ew
 have hGi:G.i=[b]:=by
  have hl:G.i.length=1:=hr.boxes.len
  match hq:G.i,hl with
  | [b'],_=>simp_all
 obtain⟨cur,c1,c2,c4,c5,c6⟩:=hr.box (x:=.lC e cap (.bn tR) xs (.cA 0 aF tR last)) ajO rfl;have ajP:b<w.heap.size:=(Ag.1 c1).1;obtain⟨hd,hrow⟩:=hr.AU (j:=0) (g:=⟨aF,e2,tR.size E⟩) rfl
 have aow:VT E w G (.dat (.bn tR) last) (cur.getD xs.length undef):=by
  have h5:=c5;simp only [VT] at h5;exact .list h5.1
 have apU:Rel E w0 G0 (SS n m0 [] [⟨aF,e2,tR.size E⟩]) a w {G with i:=[]}:=by
  have h:=hr.weak Mi (t':=v7 n m0) (by simp [SS,uN]) (fun j d hj=>by
   rcases xy hj with h|h
   ·exact .inl h
   ·exact .inr (hmd _ h)) []
  exact h.ahD Mi hm0
 have hpb:∀o,¬ G.pr b o:=fun o hp=>(hr.boxes.gq b o hp).2 (by rw [hGi];simp);refine wpList_step g0 (run_move h0 a w) ?_;refine wpList_step g1 (Ow h1 ht hi hs _ w) ?_;obtain⟨a2,sw⟩:∃a2,((a.put o0.dst (a.eval (.tmp j3))).put o1.dst (.slice (some ⟨w.heap.size,0,none⟩) 1 1))=a2:=⟨_,rfl⟩;rw [sw];have ard:a2.tmps.size=n:=by grind [K4]
 have e54:a2.eval (.tmp Gi)=.slice (some ⟨w.heap.size,0,none⟩) 1 1:=by rw [<-sw,d1];exact aaS _ _ (by simp_all [K4])
 have e53:a2.eval (.tmp Ey)=.slice (some ⟨b,0,none⟩) (xs.length+1) cap:=by
  rw [<-sw,d1,d0];show ((a.put (some Ey) (a.eval (.tmp j3))).put (some Gi) _).tmps.getD Ey undef=_;rw [Cr,if_neg (fun h=>hn.2.2.2 (qE h.1).symm),Cr,if_pos ⟨rfl,by rw [hsz];exact hn.1⟩];exact Ew
 obtain⟨W,hW⟩:∃W,w.alloc (.cells #[.slice none 0 0] e)=W:=⟨_,rfl⟩;rw [hW];have hbW:W.heap[b]? = some (.cells cur e (0,0)):=by rw [<-hW,(eY.alloc w _).2 b ajP];exact c1
 have hcW:W.cell? ⟨w.heap.size,0,none⟩=some (.slice none 0 0):=by rw [<-hW,cell_of_row _ w.heap.size 0 _ e (0,0) (heap_alloc_new w _)];rfl
 have hsrc:Src P xe.size t (.slice (some ⟨w.heap.size,0,none⟩) 1 1) 1 [.slice none 0 0] W:=Src.ofSlice W ey _ 1 1 _ (by rw [hsize,hs];rfl) (fun j u hj=>by
  match j,hj with
  | 0,hj=>simp at hj;subst hj;exact hcW
  | j+1,hj=>simp at hj) (fun u hu=>by simp at hu;subst hu;rfl)
 have ae1:cur.toList.length=cap:=by rw [<-c2];simp
 have key:∀(c':Nat)(W':World)(cur':Array Value)(b':Nat),(Builtin.append_ #[t,t] o2.type #[.slice (some ⟨b,0,none⟩) (xs.length+1) cap,.slice (some ⟨w.heap.size,0,none⟩) 1 1]).run P W=.ok (.slice (some ⟨b',0,none⟩) (xs.length+2) c') W' ->
   (∃G',Rel E w0 G0 (SS n m0 [.lC e c' (.bn tR) (xs++[last]) (.cA 0 (aF+1) tR [])] [⟨aF+1,e2,tR.size E⟩]) a W' G'/\G'.i=[b']) ->
   wpList P ops (cG E w0 G0 (fun x s=>x=.normal/\∃c',s=SS n (m0++[(j3,.iq 0 (xs.length+2) c')]) [.lC e c' (.bn tR) (xs++[last]) (.cA 0 (aF+1) tR [])] [⟨aF+1,e2,tR.size E⟩])) [o2,o3] a2 W:=by
  intro c' W' cur' b' hrun hG';obtain⟨G',hR,hi'⟩:=hG';refine wpList_step g2 (v:=.slice (some ⟨b',0,none⟩) (xs.length+2) c') (w':=W') ?_ ?_
  ·unfold execOp
   simp only [h2,resolve,hcl,jf,pe,jG,invoke,builtin,ha,hat,List.map_toArray,jU,Nc]
   simp_all
  refine wpList_step g3 (run_assign h3 _ _) ?_;rw [d2,aaS _ _ (by rw [ard];exact hn.2.2.1),d3,<-sw,d0,d1];have r1:=hR.put (v:=a.eval (.tmp j3)) (d:=.any) (by simp only [VT]) (some Ey);have r2:=r1.put (v:=.slice (some ⟨w.heap.size,0,none⟩) 1 1) (d:=.any) (by simp only [VT]) (some Gi);have r3:=r2.put (v:=.slice (some ⟨b',0,none⟩) (xs.length+2) c') (d:=.any) (by simp only [VT]) (some Nj)
  have r4:=r3.put (v:=.slice (some ⟨b',0,none⟩) (xs.length+2) c') (d:=.iq 0 (xs.length+2) c') (by
   simp_all [VT]) (some j3)
  refine⟨.normal,_,_,trivial,r4.weak Mi (t':=v7 n (m0++[(j3,.iq 0 (xs.length+2) c')])) (by simp [SS,cx,uN]) (fun j d hj=>?_) [],rfl,c',rfl⟩;rcases xy hj with h|h
  ·exact .inl h
  ·right
   have:=hsub c' _ h;rw [Kf,Kf,Kf,Kf] at this;exact this
 by_cases hroom:xs.length+1+1<=cap
 ·have Tk:(xs.length+1)*xe.size+1<=cur.size:=by rw [hsize,hs,c2];omega
  have hr':=run_append_room_src (P:=P) W t t o2.type e xe ey qA b 0 (xs.length+1) cap _ 1 _ hsrc hroom
   (fun j hj=>by
    have hj:j<1:=hj;rw [cell_of_row W b _ cur e (0,0) hbW]
    grind)
   (fun j hj=>frozen_of_row W b _ cur e hbW)
  rw [qC,AP b e [.slice none 0 0] ((xs.length+1)*xe.size) cur W hbW (by simpa using Tk)] at hr';obtain⟨new,hnew⟩:∃new,(cur.toList.take ((xs.length+1)*xe.size)++[(.slice none 0 0:Value)]++cur.toList.drop ((xs.length+1)*xe.size+[(.slice none 0 0:Value)].length)).toArray=new:=⟨_,rfl⟩;rw [hnew] at hr';refine key cap (W.setRow b new) new b hr' ?_
  have NX:∀q,q<=xs.length+1->new.getD q undef=if q=xs.length+1 then .slice none 0 0 else cur.getD q undef:=by
   intro q hq;rw [Pm,Pm,<-hnew,List.getElem?_toArray,hsize,hs,SL];have htl:(cur.toList.take (xs.length+1)).length=xs.length+1:=by grind
   by_cases h1:q=xs.length+1
   ·simp_all
   grind
  have uA:new.size=cap:=by
   grind
  have hGr:=hr.grow (eY.alloc w (.cells #[.slice none 0 0] e)) rfl rfl rfl G.pr (fun _ _ h=>h) (fun _ _ _ h=>h) (fun b o hp=>jN (hr.boxes.gq b o hp).1 si);rw [hW] at hGr;have r1:=hGr.PR (x':=⟨aF+1,e2,tR.size E⟩) (hd':=.slice none 0 0) hrow (I5 _) (xo _) (fun c h=>by cases h) (fun b hb=>nomatch hb) (fun _ _ _ _ _ _ _ hb=>nomatch hb)
  have r2:=r1.weak Mi (t':=v7 n m0) (by simp [SS,uN]) (fun j d hj=>by
   rcases xy hj with h|h
   ·exact .inl h
   ·exact .inr (hmd _ h)) []
  obtain⟨ar5,x1,x2,x4,x5,x6⟩:=r2.box (x:=.lC e cap (.bn tR) xs (.cA 0 aF tR last)) ajO rfl;rw [hbW] at x1;cases x1;have hgl:0<G.g.length:=(eV.1 hrow).1
  have r3:=r2.yG (w':=W.setRow b new) (r:=0) ajO si rfl rfl rfl (fun b' hb'=>setRow_other W b b' _ hb') (x:=.lC e cap (.bn tR) (xs++[last]) (.cA 0 (aF+1) tR [])) (fun hg=>by
   refine⟨new,setRow_heap W b cur _ e _ hbW,uA,fun q x hx=>?_,?_,bz⟩
   ·have hq:q<xs.length+1:=by grind
    rw [NX q om,if_neg om];by_cases h1:q<xs.length
    ·rw [vq h1] at hx
     exact (x4 q x hx).mono hg
    ·obtain rfl:q=xs.length:=om
     simp at hx;subst hx;simp only [VT] at x5;exact (VT.list x5.1).mono hg
   ·simp only [tM,su,D4,qC]
    rw [NX _ (ek _),if_pos rfl];simp only [VT];exact⟨.va _ _,⟨aF+1,e2,tR.size E⟩,.slice none 0 0,by simp [hgl],ek _,fun _=>rfl⟩)
  exact⟨_,r3.weak Mi (t':=v7 n m0) rfl (fun j d hj=>.inr hj) [],hGi⟩
 ·have hlt:cap<xs.length+1+1:=om
  have arR:cap=xs.length+1:=om;have hfit:=growslice_fits (need:=xs.length+1+1) (old:=cap) (bytes:=xe.bytes) hlt (by rw [hby];exact hlen)
  have WT:(Builtin.firstCells xe.size (xs.length+1) (.slice (some ⟨b,0,none⟩) (xs.length+1) cap)).run P W.drew=.ok cur.toList.toArray W.drew:=
   run_firstCells_some W.drew xe.size (xs.length+1) ⟨b,0,none⟩ (xs.length+1) cap cur.toList (by simp_all) (fun j v hj=>by
    have e1:(W.drew).cell? (Addr.add ⟨b,0,none⟩ j)=W.cell? ⟨b,j,none⟩:=by rw [add_lit,qC];rfl
    rw [e1,cell_of_row W b j cur e (0,0) hbW];simpa using hj)
  have hr':=run_append_grow_src (P:=P) W t t o2.type e xe ie.zero ey qA hz (some ⟨b,0,none⟩) (xs.length+1) cap cur.toList WT _ 1 _ hsrc hlt om hfit;have Jf:=grownCap_ge W (xs.length+1+1) cap e;generalize grownCap W (xs.length+1+1) cap e=cap' at hr' Jf;obtain⟨cs,hcs⟩:∃cs,(cur.toList++[(.slice none 0 0:Value)]).toArray++Builtin.zeroCells ie.zero.cells (cap'-(xs.length+1+1))=cs:=⟨_,rfl⟩;rw [hcs] at hr';refine key cap' (W.drew.alloc (.cells cs e)) cs W.heap.size hr' ?_;have hcl:cs.toList=(cur.toList++[(.slice none 0 0:Value)])++(Builtin.zeroCells ie.zero.cells (cap'-(xs.length+1+1))).toList:=by rw [<-hcs];simp
  have uA:cs.size=cap':=by
   rw [<-hcs,ad3,size_zeroCells,hzs,hs,ad4,tM,ae1]
   simp_all
  have NX:∀q,q<=xs.length+1->cs.getD q undef=if q=xs.length+1 then .slice none 0 0 else cur.getD q undef:=by
   intro q hq;rw [Pm,Pm,<-Array.getElem?_toList,hcl]
   grind
  have d1':=apU.grow (eY.alloc w (.cells #[.slice none 0 0] e)) rfl rfl rfl G.pr (fun _ _ h=>h) (fun _ _ _ h=>h) (fun b o hp=>jN (hr.boxes.gq b o hp).1 si);rw [hW] at d1';have d2':=d1'.PR (x':=⟨aF+1,e2,tR.size E⟩) (hd':=.slice none 0 0) hrow (I5 _) (xo _) (fun c h=>by cases h) (fun b hb=>nomatch hb) (fun _ _ _ _ _ _ _ hb=>nomatch hb);have d3':=d2'.grow (w':=W.drew) ⟨ek _,fun _ _=>rfl⟩ rfl rfl rfl G.pr (fun _ _ h=>h) (fun _ _ _ h=>h) (fun b o hp=>(d2'.boxes.gq b o hp).1);have hgl:0<G.g.length:=(eV.1 hrow).1
  have hsame:∀b o u,G.pr b o->w.cell? ⟨b,o,none⟩=some u->(W.drew.alloc (.cells cs e)).cell? ⟨b,o,none⟩=some u:=fun b o u hp hu=>by
   have q1:W.cell? ⟨b,o,none⟩=some u:=by rw [<-hW];exact (eY.alloc w _).cell hu
   have q2:(W.drew).cell? ⟨b,o,none⟩=some u:=q1;exact (eY.alloc W.drew _).cell q2
  have d4':=d3'.J3 (.cells cs e) (.lC e cap' (.bn tR) (xs++[last]) (.cA 0 (aF+1) tR [])) (by
   refine⟨cs,heap_alloc_new _ _,uA,fun q x hx=>?_,?_,bz⟩
   ·have hq:q<xs.length+1:=by grind
    rw [NX q om,if_neg om];by_cases h1:q<xs.length
    ·rw [vq h1] at hx
     exact (c4 q x hx).alp (fun _ _ h=>h) hsame
    ·obtain rfl:q=xs.length:=om
     simp at hx;subst hx;exact aow.alp (fun _ _ h=>h) hsame
   ·simp only [tM,su,D4,qC]
    rw [NX _ (ek _),if_pos rfl];simp only [VT];exact⟨.va _ _,⟨aF+1,e2,tR.size E⟩,.slice none 0 0,by simp [hgl],ek _,fun _=>rfl⟩)
  exact⟨_,d4'.weak Mi (t':=v7 n m0) rfl (fun j d hj=>.inr hj) [],rfl⟩
theorem alJ{k2:Nat}{tR:Ty}{xs:J (J (tR.den E.D))}{last:J (tR.den E.D)}(hr:Rel E w0 G0 (SS n m [.lC e cap (.bn tR) xs (.cA 0 aF tR last)] [⟨aF,e2,k2⟩]) a w G)
  (hi:G0.i=[]) (hg:G0.g=[]) (hj:(v7 n m)[j]? = some (.iq 0 (xs.length+1) cap)) :
  ∃G',kQ w0 G0 w G'/\lP E w G' [] []/\kH E w G' []/\VT E w G' (.dat (.bn (.bn tR)) (xs++[last])) (a.tmps.getD j undef):=by
 have hv:=hr.tmps j _ hj;obtain⟨b,hv,hat⟩:=hv;obtain⟨cur,c1,c2,c4,c5,c6⟩:=hr.box hat rfl;have ajP:=(Ag.1 c1).1;have ev:=hr.eX;have hnew:=ev.qH 0 b (by simp_all) hat;refine⟨⟨[],[],fun b' o=>G.pr b' o\/(b'=b/\o<xs.length+1)⟩,?_,?_,fun j c h=>(by cases h),?_⟩
 ·refine⟨ev.os,ev.tape,ev.output,ev.size,ev.old,⟨fun b o h=>.inl (ev.goes.pr b o h),ev.goes.cells,fun r b h=>(by rw [hi] at h;cases h),fun j x h hj=>(by rw [hg] at hj;cases hj)⟩,fun b' o hb hp=>?_,fun r b _ h=>(by cases h),fun j x h b hj=>(by cases hj)⟩
  rcases hp with hp|⟨rfl,-⟩
  ·exact ev.oe b' o hb hp
  ·omega
 ·refine⟨rfl,rfl,fun r b x h=>(by cases h),fun b h=>(by cases h),Gf,fun b' o hp=>⟨?_,fun h=>by cases h⟩,fun j x h hj=>(by cases hj),fun j j' x h x' h' b hj=>(by cases hj)⟩
  rcases hp with hp|⟨rfl,-⟩
  ·exact (hr.boxes.gq b' o hp).1
  ·exact ajP
 ·rw [hv]
  refine .list ?_;have hl:((xs++[last]).map (Ty.cells E (.bn tR))).length=xs.length+1:=by simp
  have hD:∀q,q<xs.length+1->VT E w G (.dat (.bn tR) ((xs++[last]).getD q [])) (cur.getD q undef):=by
   intro q hq;by_cases h1:q<xs.length
   ·simp_all
   ·obtain rfl:q=xs.length:=om
    rw [show (xs++[last]).getD xs.length []=last by simp];exact .list c5.1
  have:=NM (w:=w) (pr:=fun b' o=>G.pr b' o\/(b'=b/\o<xs.length+1)) (b:=b) (cap:=cap) (k:=1) (xs:=cur.toList.take (xs.length+1)) (by rw [hl];omega)
   (fun q hq=>by
    grind [cell_of_row])
   ⟨by grind,fun q hq=>by
    have:q<(xs++[last]).length:=by simpa using hq
    simp only [List.getD,Nb,fJ this];rfl,fun q l hq hl'=>by
    rw [hl] at hq;obtain rfl:l=0:=om;have h2:q<(xs++[last]).length:=by simpa using hq
    have h3:=((hD q hq).atom rfl).tw
    have e1:(cur.toList.take (xs.length+1)).getD (q*1+0) undef=cur.getD q undef:=by
     simp_all
    have e2:((((xs++[last]).map (Ty.cells E (.bn tR))).getD q []).getD 0 default)=.slice (tR.size E) (((xs++[last]).getD q []).map (tR.cells E)):=by
     simp only [List.getD,Nb,fJ h2];rfl
    rw [e1,e2];exact h3.mono (fun _ _ h=>.inl h) (fun _ _ _ _ h=>h)⟩
  rw [hl] at this;exact this
def opsOf:Code->aG Oper
 | .region _ ops _=>ops
 | _=>#[]
def aox:Code->Nat
 | .region i _ _=>i
 | _=>0
theorem AW.ann(e2:aI){j6:Nat}(hc:c=.region (aox c) (opsOf c) false)
  (nw:(opsOf c).toList.map (fun o=>(o.dst,o.op,o.guard))=[(some j6,.buildSlice t 1 #[(0,.const (.slice none 0 0))],none),(some j3,.assign (.tmp j6),none)]) (ht:aU P t=some ⟨.slice e,j1,j2,z⟩) (hi:aU P e=some ie) (hs:ie.size=1) (tR:Ty) {m':J (Nat×TV E)} (hn:j6<n) (Mi:G0.i=[])
  (hsub:∀p∈m',(v7 n (m++[(j6,.any),(j3,.iq 0 1 1)]))[p.1]? = some p.2) :
  AW P w0 G0 c (SS n m [] []) (fun x s=>x=.normal/\s=SS n m' [.lC e 1 (.bn tR) [] (.cA 0 0 tR [])] [⟨0,e2,tR.size E⟩]):=by
 obtain⟨o0,l1,h0,f0,nw⟩:=Pn.1 nw;obtain⟨o1,l2,h1,f1,nw⟩:=Pn.1 nw;have h2:=List.map_eq_nil_iff.1 nw;subst h2 h1;simp at f0 f1;rw [hc];exact AW.apT h0 f0.2.1 f0.2.2 f0.1 f1.2.1 f1.2.2 f1.1 ht hi hs tR hn Mi hsub
theorem AW.aiN(hE:E.Ok){j3 Ey Gi Nj:Nat}{cl:Call}(hc:c=.region (aox c) (opsOf c) false)
  (nw:(opsOf c).toList.map (fun o=>(o.dst,o.op,o.guard))=[(some Ey,.move (.tmp j3),none),(some Gi,.buildSlice t 1 #[(0,.const (.slice none 0 0))],none),(some Nj,.call cl,none),(some j3,.assign (.tmp Nj),none)])
  (hcl:cl.callee=.builtin .append) (ha:cl.args=#[.tmp Ey,.tmp Gi]) (hat:cl.argTypes=#[t,t]) (ht:aU P t=some ⟨.slice e,j1,j2,z⟩) (hi:aU P e=some ie) (hs:ie.size=1) (hzs:ie.zero.cells.size=ie.size) (tR:Ty)
  {m0:J (Nat×TV E)} (hm0:ajN m0) (hn:Ey<n/\Gi<n/\Nj<n/\Ey≠Gi) (Mi:G0.i=[])  {xs:J (J (tR.den E.D))} {last:J (tR.den E.D)}
  (hj3:(v7 n (m0++[(j3,.iq 0 (xs.length+1) cap)]))[j3]? = some (.iq 0 (xs.length+1) cap)) (hlen:(xs.length+2)*ie.bytes<=140737488355328) (aov:xs.length+2<=9223372036854775807)
  (hsub:∀c':Nat,∀p∈m0++[(j3,.iq 0 (xs.length+2) c')],(v7 n ((((m0++[(Ey,.any)])++[(Gi,.any)])++[(Nj,.any)])++[(j3,.iq 0 (xs.length+2) c')]))[p.1]? = some p.2) (hmd:∀p∈m0,(v7 n (m0++[(j3,.iq 0 (xs.length+1) cap)]))[p.1]? = some p.2) :
  AW P w0 G0 c (SS n (m0++[(j3,.iq 0 (xs.length+1) cap)]) [.lC e cap (.bn tR) xs (.cA 0 aF tR last)] [⟨aF,e2,tR.size E⟩])
   (fun x s=>x=.normal/\∃c',s=SS n (m0++[(j3,.iq 0 (xs.length+2) c')]) [.lC e c' (.bn tR) (xs++[last]) (.cA 0 (aF+1) tR [])] [⟨aF+1,e2,tR.size E⟩]):=by
 obtain⟨o0,l1,h0,f0,nw⟩:=Pn.1 nw;obtain⟨o1,l2,h1,f1,nw⟩:=Pn.1 nw;obtain⟨o2,l3,h2,f2,nw⟩:=Pn.1 nw;obtain⟨o3,l4,h3,f3,nw⟩:=Pn.1 nw;have h4:=List.map_eq_nil_iff.1 nw;subst h4 h3 h2 h1;simp at f0 f1 f2 f3;rw [hc];exact AW.amm hE h0 f0.2.1 f0.2.2 f0.1 f1.2.1 f1.2.2 f1.1 f2.2.1 hcl ha hat f2.2.2 f2.1 f3.2.1 f3.2.2 f3.1 ht hi hs hzs tR hm0 hn Mi hj3 hlen aov hsub hmd
theorem AW.sub{m':J (Nat×TV E)}(hi:G0.i=[])(hs:∀p∈m',(v7 n m)[p.1]? = some p.2)(h:AW P w0 G0 c (SS n m' H g) Q):AW P w0 G0 c (SS n m H g) Q:=fun a w G hr=>
 h a w G (hr.weak hi (by simp [SS,uN]) (fun j d hj=>by
  rcases xy hj with h|h
  ·exact .inl h
  ·exact .inr (hs _ h)) [])
theorem Rel.aqA{m':J (Nat×TV E)}(hi:G0.i=[])(hs:∀p∈m',(v7 n m)[p.1]? = some p.2)(h:Rel E w0 G0 (SS n m H g) a w G):Rel E w0 G0 (SS n m' H g) a w G:=
 h.weak hi (by simp [SS,uN]) (fun j d hj=>by
  rcases xy hj with h|h
  ·exact .inl h
  ·exact .inr (hs _ h)) []
def arf(m:J (Nat×TV E)):Prop:=∀p∈m,(∃t x,p.2=.dat t x)\/∃r n cap,p.2=.iq r n cap
theorem Rel.aiL{T tR:Ty}{xs:J (T.den E.D)}{last:J (tR.den E.D)}{g0:cH}{gs:J cH}(hr:Rel E w0 G0 (SS n m [.lC e cap T xs (.cA 0 aF tR last)] (g0::gs)) a w G)(hg:G0.g=[])(hm:arf m):
  Rel E w0 G0 (SS n m [.lC e cap T xs (.cA 0 aF tR last)] [g0]) a w {G with g:=G.g.take 1}:=by
 have ev:=hr.eX
 have hsub:∀(j:Nat) y,(G.g.take 1)[j]? = some y->G.g[j]? = some y:=fun j y h=>by
  grind
 refine⟨⟨ev.os,ev.tape,ev.output,ev.size,ev.old,⟨ev.goes.pr,ev.goes.cells,ev.goes.i,fun j x h hj=>(by rw [hg] at hj;cases hj)⟩,ev.oe,ev.qH,fun j x h b hj hb=>ev.gL j x h b (hsub j _ hj) hb⟩,hr.size,fun j d hj=>?_,hr.aaR,?_,hr.fix,hr.pins,fun j c h=>(by cases h)⟩
 ·have hv:=hr.tmps j d hj
  rcases xy hj with rfl|h
  ·simp [VT]
  ·rcases hm _ h with⟨t,x,e⟩|⟨r,n,cap,e⟩
   ·subst e
    exact hv.sP (fun _ _ h=>h)
   simp_all [VT]
 ·refine⟨hr.boxes.len,?_,fun r b x hb hx=>?_,hr.boxes.lt,hr.boxes.nodup,hr.boxes.gq,fun j x h hj=>?_,fun j j' x h x' h' b hj hj'=>hr.boxes.apart j j' x h x' h' b (hsub j _ hj) (hsub j' _ hj')⟩
  ·have:=hr.boxes.gs
   rw [List.map_take,this];rfl
  ·have h:=hr.boxes.box r b x hb hx
   cases r with
   | succ r=>simp [SS] at hx
   | zero=>
    simp [SS] at hx;subst hx;obtain⟨cur,c1,c2,c4,c5,c6⟩:=h;refine⟨cur,c1,c2,fun i x hx=>(c4 i x hx).sP (fun _ _ h=>h),?_,c6⟩
    simp_all [VT,YJ]
  ·obtain⟨n',xs',h1,h2,h3⟩:=hr.boxes.grow j x h (hsub j _ hj)
   exact⟨n',xs',h1,h2,h3⟩
end Go.RT
