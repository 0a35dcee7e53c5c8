import Derived.Test.YtkeibjejncpgnaaGreatDoorRh
import Derived.Lib.LaidTab
import Derived.Shelf.Strconv.Itoa3
import Derived.OpenShut
import Derived.RowKit
import Derived.Sort.KeysCollected
import Derived.Sort.OwnSorted
import Derived.Lib.Join
import Derived.Lib.Split
import Derived.Lib.LastIndexByte
import Derived.Lib.IndexAny
import Derived.Lib.Repeat
set_option linter.all false
namespace Go.RT
variable {E : TEnv}
section
variable {X : Cx E}
theorem enters_of {P:Program} {f:FuncId} {fn:Func} {c:Code} (hf:P.funcs[f]? = some fn) (hb:fn.body=some c) (hn:(fn.name == "runtime.NumGoroutine")=false):∀args w,(callFunc f args).run P w=.ok (.enter f args) w:=fun args w=>by
 simp only [callFunc,Sem.run_bind,run_program,Result.andThen_ok,hf,hn,hb];simp
def ZU (X:Cx E) (s:bL) (fn:Func) (aQ:TS E):(p:Option Outs)→Option (TV E)→TS E→Option (OutP E s.out p)
 | none,none,st=>(kU X st fn.results.toList).bind fun ds=>s.out.get aQ st (lM ds)
 | some q,none,st=>Vv ((kU X st fn.results.toList).bind fun ds=>s.out.get aQ st (lM ds))
 | some q,some d,st=>uz (q.get aQ st d)
 | none,some _,_=>none
def anM (X:Cx E) (D:Dx E) (s:bL) (fn:Func) (aQ:TS E) (p:Option Outs):Ex E→TS E→Option (OutP E s.out p)
 | .ret,st=>zf D (ZU X s fn aQ p) st.df none st
 | .normal,st=>zf D (ZU X s fn aQ p) st.df none st
 | .panic d,st=>zf D (ZU X s fn aQ p) st.df (some d) st
 | _,_=>none
noncomputable def aeY (X:Cx E) (D:Dx E) (F:Nat) (s:bL) (fn:Func) (pl:dc) (x:dens E s.tys):Option (OutP E s.out s.gw) :=
 match fn.body with
 | some c=>runT X F c pl (s.aQ fn.ntmps (az s.tys x)) (anM X D s fn (s.aQ fn.ntmps (az s.tys x)) s.gw)
 | none=>none
theorem gj.ajE {w:World} {G:au} {ds:List Deferred} (h:gj E w G ds []):ds=[]:=by
 cases ds with
 | nil=>rfl
 | cons _ _=>exact h.elim
theorem ajF (hX:X.Ok) {s:bL} {fn:Func} {w0 w:World} {G0 G:au} {aQ st fM:TS E} {W:List Nat} {tmps:Array Value} {mv:List Deferred} {u:FrameMode} {m:Option (TV E)} (hpre:Pre G0 aQ) (hd0:aQ.d=[]) (ZV:aQ.df=[])
  (hr:Rel E w0 G0 { st with df:=me m } { tmps:=tmps,defers:=mv } w G) (hm:L0 m mv u) (hF:Fr W false aQ st):∀(p:Option Outs) (y:OutP E s.out p),ZU X s fn aQ p m { st with df:=[] } = some y →
   Leaves X.P fn tmps (ua E w0 G0 (match p,y with | none,y=>s.out.eZ true aQ.H aQ.g (az s.out.tys y) | some q,.inl y=>s.out.eZ true aQ.H aQ.g (az s.out.tys y) | some q,.inr y=>q.eZ false aQ.H aQ.g (az q.tys y))) [] u w:=by
 have hr':Rel E w0 G0 { st with df:=[] } { tmps:=tmps,defers:=[] } w G:=hr.Qy (y:=[]) (ds:=[]) trivial;have hF':Fr W false aQ { st with df:=[] }:=hF.trans (Fr.aeX st [] W) (fun _ h=>h) (fun _ h=>h) (fun h=>nomatch h)
 have hok:∀ {y:dens E s.out.tys},((kU X { st with df:=[] } fn.results.toList).bind fun ds=>s.out.get aQ { st with df:=[] } (lM ds))=some y →
   ∃v,(results fn tmps).run X.P w=.ok v w∧ua E w0 G0 (s.out.eZ true aQ.H aQ.g (az s.out.tys y)) (.returned v) w:=by
  intro y hy
  cases hds:kU X { st with df:=[] } fn.results.toList with
  | none=>rw [hds] at hy;cases hy
  | some ds =>
   rw [hds] at hy;dsimp only [Option.bind] at hy;obtain⟨v,hv,hrun⟩:=vc hX hr' hds;obtain⟨G2,q1,q2,q3,q4,q5⟩:=Outs.BX hX.E (ok:=true) hpre hd0 ZV.symm hr' hF' hv hy;exact⟨v,hrun,v,G2,rfl,q1,q2,q3,q4,q5⟩
 intro p y hk
 cases hm with
 | ret =>
  cases p with
  | none=>exact hok hk
  | some q =>
   obtain⟨y',hy,rfl⟩:=GW hk
   exact hok hy
 | gw d v =>
  cases p with
  | none=>cases hk
  | some q =>
   obtain⟨y',hy,rfl⟩:=Km hk
   have hv:VT E w G d v:=by
    obtain⟨ahQ,-⟩:=hr.defers;obtain⟨-,cap',ht',cx⟩:=ahQ.resolve_right (fun hh=>absurd (show (0:Nat)=sV from hh.1) de);simp only [Target.fn.injEq] at ht';obtain⟨-,rfl⟩:=ht';obtain⟨u1,us,he,h1,-⟩:=cx.cons_inv;simp at he;obtain⟨rfl,-⟩:=he;exact h1
   obtain⟨G2,q1,q2,q3,q4,q5⟩:=Outs.BX hX.E (ok:=false) hpre hd0 ZV.symm hr' hF' hv hy;exact⟨v,G2,rfl,q1,q2,q3,q4,q5⟩
theorem abX (hX:X.Ok) {D:Dx E} (hD:D.Ok X.P) {F:Nat} {s:bL} {fn:Func} {pl:dc} {x:dens E s.tys} {y:OutP E s.out s.gw} (hf:X.P.funcs[s.f]? = some fn) (hn:(fn.name == "runtime.NumGoroutine")=false) (h:aeY X D F s fn pl x=some y) :
  ia X.P s.f (s.ds (az s.tys x)) (s.H (az s.tys x)) s.g0 (s.c (az s.tys x)) (fG s (s.H (az s.tys x)) s.gw y):=by
 unfold aeY at h;split at h<;>try (cases h;done)
 rename_i c hb;intro w G args hP hB hS hV;have BB:=Rel.init (n:=fn.ntmps) hP hB hS hV;have hpre:=BB.pre;refine oF hf hb hn (calls_of_wp_defers hf hb (wp_mono ((oW hX c pl h).wp BB) fun e a' w' hp=>?_));obtain⟨ex,st,G',he,hr,hk,hF⟩:=hp;have hlen:=gj.len hr.defers;have Qd:Fr (wr c) false (s.aQ fn.ntmps (az s.tys x)) st:=hF.wide (fun _ h=>h) (fun h=>nomatch h)
 have main:∀(m:Option (TV E)) (mv:List Deferred) (u:FrameMode),L0 m mv u→gj E w' G' mv (me m)→zf D (ZU X s fn (s.aQ fn.ntmps (az s.tys x)) s.gw) st.df m st=some y →
   Leaves X.P fn a'.tmps (fun e w'=>∃v G',e=ql (fG s (s.H (az s.tys x)) s.gw y).ok v∧gU w G w' G'∧iq E w' G' (fG s (s.H (az s.tys x)) s.gw y).H (fG s (s.H (az s.tys x)) s.gw y).g∧gD E w' G' (fG s (s.H (az s.tys x)) s.gw y).c ∧
   VT E w' G' (fG s (s.H (az s.tys x)) s.gw y).d v∧∀(q b:Nat),G.i[q]? = some b→q∉(fG s (s.H (az s.tys x)) s.gw y).D→w'.heap[b]? = w.heap[b]?) a'.defers u w':=by
  intro m mv u hm hdm hk
  have anN:gj E w' G' (a'.defers++mv) (st.df++me m):=by
   have key:∀(a:List Deferred) (x:List (FuncId × List (TV E))),gj E w' G' a x→gj E w' G' (a++mv) (x++me m):=by
    intro a
    induction a with
    | nil=>intro x h;cases x with
     | nil=>exact hdm
     | cons _ _=>exact h.elim
    | cons d a ih=>intro x h;cases x with
     | nil=>exact h.elim
     | cons z x=>exact⟨h.1,ih x h.2⟩
   exact key _ _ hr.defers
  refine B0 hX.E hD st.df m st a'.defers mv u w' G' hk hlen (hr.Qy anN) hm fun m' st' ZT u' w2 G2 h1 h2 h3 tq=>?_;have hF3:Fr (wr c) false (s.aQ fn.ntmps (az s.tys x)) st':=Qd.trans tq (fun _ h=>h) (fun _ h=>by cases h) (fun h=>nomatch h);have:=ajF hX (fM:=st) hpre rfl rfl h2 h3 hF3 s.gw y h1
  have e:(match s.gw,y with | none,y=>s.out.eZ true (s.aQ fn.ntmps (az s.tys x)).H (s.aQ fn.ntmps (az s.tys x)).g (az s.out.tys y) | some q,.inl y=>s.out.eZ true (s.aQ fn.ntmps (az s.tys x)).H (s.aQ fn.ntmps (az s.tys x)).g (az s.out.tys y) | some q,.inr y=>q.eZ false (s.aQ fn.ntmps (az s.tys x)).H (s.aQ fn.ntmps (az s.tys x)).g (az q.tys y))=fG s (s.H (az s.tys x)) s.gw y:=by
   have gen:∀(p:Option Outs) (y:OutP E s.out p),(match p,y with | none,y=>s.out.eZ true (s.aQ fn.ntmps (az s.tys x)).H (s.aQ fn.ntmps (az s.tys x)).g (az s.out.tys y) | some q,.inl y=>s.out.eZ true (s.aQ fn.ntmps (az s.tys x)).H (s.aQ fn.ntmps (az s.tys x)).g (az s.out.tys y) | some q,.inr y=>q.eZ false (s.aQ fn.ntmps (az s.tys x)).H (s.aQ fn.ntmps (az s.tys x)).g (az q.tys y))=fG s (s.H (az s.tys x)) p y:=by
    intro p y
    cases p with
    | none=>rfl
    | some q=>cases y<;>rfl
   exact gen s.gw y
  rw [e] at this;exact this
 cases ex<;>cases e<;>try (exact he.elim)
 ·exact main none [] .returning .ret trivial hk
 ·cases hk
 ·cases hk
 ·exact main none [] .returning .ret trivial hk
 ·rename_i d ch
  obtain⟨v,rfl,hv⟩:=he;exact main (some d) _ _ (.gw d v) ⟨.inl ⟨rfl,#[],rfl,.cons hv .nil⟩,trivial⟩ hk
theorem an.alj (hX:X.Ok) {D:Dx E} (hD:D.Ok X.P) {C:an E} {F:Nat} {fn:Func} {pl:dc} (hf:X.P.funcs[C.s.f]? = some fn) (hn:(fn.name == "runtime.NumGoroutine")=false) (h:∀x,aeY X D F C.s fn pl x=C.m x):C.Ok X.P :=
 fun x y hy=>abX hX hD hf hn (by rw [h x];exact hy)
theorem goN {I:Inv}:∀C∈([]:List (an E)),C.BR I:=fun _ h=>nomatch h
theorem goC {I:Inv} {C:an E} {Γ:List (an E)} (h:C.BR I) (hs:∀C∈Γ,C.BR I):∀C'∈C::Γ,C'.BR I:=fun C' hC=>by
 rcases fK.1 hC with rfl | hC
 ·exact h
 ·exact hs C' hC
def ZW:List Oper→Option (Nat × Nat)
 | [o1,o2]=>match o1.op,o1.dst,o1.guard,o2.op,o2.dst,o2.guard with
  | .call c,some i,none,.assign (.tmp i'),some j,none=>match c.callee with
   | .builtin .recover=>cond (Nat.beq i i'&&Nat.beq c.args.size 0) (some (i,j)) none
   | _=>none
  | _,_,_,_,_,_=>none
 | _=>none
def bL.H8 (s:bL) (n i j:Nat) (ls:List (Lf E)):TS E:=match s.ds ls with
 | m::ds=>{ (⟨(uA n ds).set i m,s.H ls,s.g0,[],[],s.c ls⟩:TS E) with t:=br ((uA n ds).set i m) (some j) ((⟨(uA n ds).set i m,s.H ls,s.g0,[],[],s.c ls⟩:TS E).ev (.tmp i)) }
 | []=>s.aQ n ls
noncomputable def ahR (X:Cx E) (F:Nat) (s:bL) (fn:Func) (pl:dc) (x:dens E s.tys):Option (OutP E s.out s.gw) :=
 match fn.body with
 | some (.seq (.region _ ops false) rest)=>match ZW ops.toList with
  | some (i,j)=>rq (fQ rest&&s.gw.isNone) (runT X F rest pl (s.H8 fn.ntmps i j (az s.tys x)) (aeR X s fn (s.H8 fn.ntmps i j (az s.tys x)) s.gw))
  | none=>none
 | _=>none
theorem abY {ops:Array Oper} {i j:Nat} (h:ZW ops.toList=some (i,j)):∃o1 o2 c,ops=#[o1,o2]∧o1.op=.call c∧c.callee=.builtin .recover∧c.args=#[]∧o1.dst=some i∧o1.guard=none∧o2.op=.assign (.tmp i)∧o2.dst=some j∧o2.guard=none:=by
 obtain⟨l⟩:=ops;simp only at h;unfold ZW at h;split at h<;>try (cases h;done)
 rename_i o1 o2;split at h<;>try (cases h;done)
 rename_i c i0 i1 j0 h1 h2 h3 h4 h5 h6;split at h<;>try (cases h;done)
 rename_i hc;cases hh:(Nat.beq i0 i1&&Nat.beq c.args.size 0)<;>rw [hh] at h<;>simp only [cond_true,cond_false] at h
 ·cases h
 rw [aV] at hh;cases h;have e:=bt hh.1;subst e;exact⟨o1,o2,c,rfl,h1,hc,Array.eq_empty_of_size_eq_zero (bt hh.2),h2,h3,h4,h5,h6⟩
theorem Rel.Gr {w:World} {G:au} {args:Array Value} {H:List (cV E)} {g:List aZ} {ds:List (TV E)} {cs:List (Nat × Cn E)} {n:Nat} (hP:kK E w G) (hB:iq E w G H g) (hS:gD E w G cs) (hV:aP E w G ds args.toList) :
  Rel E w G ⟨uA n ds,H,g,[],[],cs⟩ { tmps:=args++Array.replicate (n - args.size) undef,defers:=[] } w G:=by
 have hl:args.size=ds.length:=by simpa using hV.length
 refine⟨gU.refl w G,?_,fun j d hj=>?_,trivial,hB,fun _ _ _ _=>rfl,hP,hS⟩
 ·simp [uA,hl]
 ·have hj:(uA n ds)[j]? = some d:=hj
  unfold uA at hj;by_cases hlt:j<ds.length
  ·rw [fU hlt] at hj
   obtain⟨u,hu,hv⟩:=hV.get j hj
   have:(args++Array.replicate (n - args.size) undef).getD j undef=u:=by
    have h1:j<args.size:=om;have h2:args[j]=u:=by simpa [h1] using hu
    rw [uo,adE h1,OZ h1,h2];rfl
   rw [this];exact hv
  ·rw [lG om] at hj
   have:=ek hj;simp at this;rw [this.2];simp only [VT]
theorem an.ZX (hX:X.Ok) {C:an E} {F:Nat} {fn:Func} {pl:dc} (hf:X.P.funcs[C.s.f]? = some fn) (hn:(fn.name == "runtime.NumGoroutine")=false) (h:∀x,ahR X F C.s fn pl x=C.m x):C.BR (ze X.P):=by
 intro x y hy;have h1:ahR X F C.s fn pl x=some y:=by rw [h x];exact hy
 unfold ahR at h1;split at h1<;>try (cases h1;done)
 rename_i id ops rest hb;split at h1<;>try (cases h1;done)
 rename_i i j anO;obtain⟨hnp,h1⟩:=b9 h1;rw [aV] at hnp;obtain⟨hnd,anP⟩:=hnp;obtain⟨o1,o2,c,rfl,ho1,ahG,J9,hd1,hg1,ho2,hd2,YA⟩:=abY anO;intro w G aiV hP hB hS hV;refine⟨enters_of hf hb hn,fun v args u hva hmo=>?_⟩;rw [hva] at hV;generalize hds:C.s.ds (az C.s.tys x)=dd at hV h1
 cases dd with
 | nil=>simp only [aP] at hV;cases hV
 | cons m ds =>
 obtain⟨v',us,he,hvm,hvs⟩:=hV.cons_inv;cases he
 have hst:C.s.H8 fn.ntmps i j (az C.s.tys x)={ (⟨(uA fn.ntmps ds).set i m,C.s.H (az C.s.tys x),C.s.g0,[],[],C.s.c (az C.s.tys x)⟩:TS E) with t:=br ((uA fn.ntmps ds).set i m) (some j) ((⟨(uA fn.ntmps ds).set i m,C.s.H (az C.s.tys x),C.s.g0,[],[],C.s.c (az C.s.tys x)⟩:TS E).ev (.tmp i)) }:=by
  unfold bL.H8;rw [hds]
 have BB:=Rel.Gr (n:=fn.ntmps) hP hB hS hvs;have cJ:Rel E w G ⟨(uA fn.ntmps ds).set i m,C.s.H (az C.s.tys x),C.s.g0,[],[],C.s.c (az C.s.tys x)⟩ _ w G:=BB.put hvm (some i);have hr2:=cJ.put (cJ.ev (.tmp i)) (some j);have alk:Rel E w G (C.s.H8 fn.ntmps i j (az C.s.tys x)) ((({ tmps:=args++Array.replicate (fn.ntmps - args.size) undef,defers:=[] }:Act).put (some i) v).put (some j) ((({ tmps:=args++Array.replicate (fn.ntmps - args.size) undef,defers:=[] }:Act).put (some i) v).eval (.tmp i))) w G:=by rw [hst];exact hr2
 have hpre:=alk.pre;refine callsD_of_wpS hf hb fun c₀ cs hu=>?_;apply wpS_seq;apply wpS_region;have Qg:List.range (#[o1,o2]:Array Oper).size=[0,1]:=rfl;rw [Qg]
 have go:∀(u':FrameMode),settle u'=.returning→wpOpsS X.P #[o1,o2] (Exit.thenS (rest.wpS X.P (bodyPostS X.P fn c₀ cs fun e u' w'=>settle u'=.returning∧ua E w G (fG C.s (C.s.H (az C.s.tys x)) C.s.gw y) e w')) (bodyPostS X.P fn c₀ cs fun e u' w'=>settle u'=.returning∧ua E w G (fG C.s (C.s.H (az C.s.tys x)) C.s.gw y) e w')) [1]
   (({ tmps:=args++Array.replicate (fn.ntmps - args.size) undef,defers:=[] }:Act).put o1.dst v) ({ c₀ with mode:=u' } :: cs) w:=by
  intro u' lI;rw [hd1];have HU:Region.wanted o2 (yielded #[o1,o2] (({ tmps:=args++Array.replicate (fn.ntmps - args.size) undef,defers:=[] }:Act).put (some i) v).tmps)=true:=by simp [Region.wanted,YA]
  have amL:(execOp (({ tmps:=args++Array.replicate (fn.ntmps - args.size) undef,defers:=[] }:Act).put (some i) v).eval o2).run X.P w=.ok (.value ((({ tmps:=args++Array.replicate (fn.ntmps - args.size) undef,defers:=[] }:Act).put (some i) v).eval (.tmp i))) w:=by
   simp [execOp,ho2]
  have e1:(#[o1,o2]:Array Oper)[1]? = some o2:=rfl;simp only [wpOpsS,e1,HU,if_true,amL,Oper.upon,Exit.thenS];rw [hd2];refine wpS_of_wp (wp_mono ((oW hX rest pl h1).wp alk) fun e a' w' hp=>?_);obtain⟨ex,st,G',he,hr,hk,hF⟩:=hp;have hd0:(C.s.H8 fn.ntmps i j (az C.s.tys x)).d=[]:=by rw [hst]
  have ZV:(C.s.H8 fn.ntmps i j (az C.s.tys x)).df=[]:=by rw [hst]
  have hH0:(C.s.H8 fn.ntmps i j (az C.s.tys x)).H=C.s.H (az C.s.tys x):=by rw [hst]
  have hg0:(C.s.H8 fn.ntmps i j (az C.s.tys x)).g=C.s.g0:=by rw [hst]
  have hdf:st.df=[]:=(hF.df hnd).trans ZV
  have Ej:a'.defers=[]:=by
   have:=hr.defers;rw [hdf] at this;exact gj.ajE this
  have fin:∀(p:Option Outs) (y:OutP E C.s.out p),p.isNone=true→aeR X C.s fn (C.s.H8 fn.ntmps i j (az C.s.tys x)) p ex st=some y →
    bodyPostS X.P fn c₀ cs (fun e u' w'=>settle u'=.returning∧ua E w G (fG C.s (C.s.H (az C.s.tys x)) p y) e w') e a' ({ c₀ with mode:=u' } :: cs) w':=by
   intro p y hp hk
   cases p with
   | some q=>cases hp
   | none =>
    have ZP:Kp X C.s fn (C.s.H8 fn.ntmps i j (az C.s.tys x)) st=some y →
      ∃v,(results fn a'.tmps).run X.P w'=.ok v w'∧ua E w G (fG C.s (C.s.H (az C.s.tys x)) none y) (.returned v) w':=by
     intro hy;unfold Kp at hy;obtain⟨G3,W3,hr,hF,ahL⟩:=ac0 (s:=C.s) (fn:=fn) hpre hr hF;generalize BW C.s fn (C.s.H8 fn.ntmps i j (az C.s.tys x)) (qX 0 C.s.out.boxes st)=st3 at *
     cases hds:kU X st3 fn.results.toList with
     | none=>rw [hds] at hy;cases hy
     | some ds =>
      rw [hds] at hy;dsimp only [Option.bind] at hy;obtain⟨v,hv,hrun⟩:=vc hX hr hds;obtain⟨G2,q1,q2,q3,q4,q5⟩:=Outs.BX hX.E (ok:=true) hpre hd0 ((ahL.trans hdf).trans ZV.symm) hr hF hv hy;rw [hH0,hg0] at q2 q3 q4;exact⟨v,hrun,v,G2,rfl,q1,q2,q3,q4,q5⟩
    cases ex<;>cases e<;>try (exact he.elim)
    ·obtain⟨v,hrun,h2⟩:=ZP hk;exact⟨Ej,u',rfl,v,hrun,lI,h2⟩
    ·cases hk
    ·cases hk
    ·obtain⟨v,hrun,h2⟩:=ZP hk;exact⟨Ej,u',rfl,v,hrun,lI,h2⟩
    ·cases hk
  exact fin C.s.gw y anP hk
 have hw1:Region.wanted o1 (yielded #[o1,o2] ({ tmps:=args++Array.replicate (fn.ntmps - args.size) undef,defers:=[] }:Act).tmps)=true:=by simp [Region.wanted,hg1]
 have amM:(execOp ({ tmps:=args++Array.replicate (fn.ntmps - args.size) undef,defers:=[] }:Act).eval o1).run X.P w=.ok .recover w:=by
  simp [execOp,ho1,resolve,ahG,J9,invoke,go_sem]
 have e0:(#[o1,o2]:Array Oper)[0]? = some o1:=rfl;rw [wpOpsS];simp only [e0,hw1,if_true,amM];rcases hmo with⟨rfl,rfl⟩ | rfl
 ·have hrd:recoverD (c₀::cs)=none:=by simp [recoverD,hu]
  rw [hrd];have hc0:({ c₀ with mode:=.returning }:Frame)=c₀:=by rw [←hu]
  have:=go .returning rfl;rw [hc0] at this;exact this
 ·have hrd:recoverD (c₀::cs)=some (v,{ c₀ with mode:=.panicking [{ v:=v,recovered:=true }] } :: cs):=by simp [recoverD,hu]
  rw [hrd];exact go _ rfl
end
end Go.RT
namespace Go.RT
variable {E : TEnv}
theorem iq.grown {w w':World} {G:au} {H:List (cV E)} {gs:List aZ} {cs:List (Nat × Cn E)} (hP:kK E w G) (hB:iq E w G H gs) (hS:gD E w G cs) (hs:cL w w') (h1:w'.os=w.os) (h2:w'.tape=w.tape) (h3:w'.output=w.output) :
  gU w G w' G∧iq E w' G H gs∧gD E w' G cs∧∀(q b:Nat),G.i[q]? = some b→w'.heap[b]? = w.heap[b]?:=by
 have hr:=Rel.Gr (n:=0) (ds:=[]) (args:=#[]) hP hB hS .nil;have hr':=hr.grow (w':=w') hs h1 h2 h3 G.pr (fun _ _ h=>h) (fun _ _ _ h=>h) (fun b o hp=>eF (hB.dH b o hp).1 hs.1);exact⟨hr'.cK,hr'.boxes,hr'.dI,fun q b hq=>hr'.fix q b hq si⟩
theorem mB {P:Program} {f:FuncId} {fn:Func} (hf:P.funcs[f]? = some fn) (hb:fn.body.isSome=true) (hn:(fn.name == "runtime.NumGoroutine")=false):∀args w,(callFunc f args).run P w=.ok (.enter f args) w:=by
 obtain⟨c,hc⟩:=aiy.1 hb;exact Go.RT.enters_of hf hc hn
def AR (F:Nat) (n:Int):Option (List UInt8):=rq (decide (-9223372036854775808≤n)&&decide (n≤9223372036854775807)) (some (Lib.itoa n))
def amN (f:FuncId):bL:=⟨f,[.one (.dat (.int .i64))],[],[],⟨.one (.dat .str),[],[],[]⟩,none,[]⟩
def aiW (E:TEnv) (f:FuncId) (F:Nat):an E:=⟨amN f,fun (x:Int)=>AR F x⟩
theorem V3 {P:Program} {w:World} {G:au} {name:String} {k:IntKind} {zs:List Int} {g:Nat} (hP:kK E w G) (hg:P.globalNamed name=some g)
  (he:E.gb g=some (fun cs=>cs=(zs.map fun z=>Value.int k z).toArray)):Lib.TabIs P w name k zs:=by
 obtain⟨cs,t,m,this,rfl⟩:=(hP g _ he).1;simp [Lib.TabIs,World.var?,hg,this]
theorem ajG {P:Program} {f:FuncId} (he:∀args w,(callFunc f args).run P w=.ok (.enter f args) w) (hT:∀w G,kK E w G→Lib.TabIs P w "internal/strconv.uint64pow10" .u64 Lib.pow10Tab)
  (hC:∀(n:Int),-9223372036854775808≤n→n≤9223372036854775807→∀(w:World),Lib.TabIs P w "internal/strconv.uint64pow10" .u64 Lib.pow10Tab →
   Calls P f #[.int .i64 n] w fun e w'=>e=.returned (.string ⟨(Lib.itoa n).toArray⟩)∧∃k os,w'=Go.Sort.grow (w.drewN k) os) (F:Nat):(aiW E f F).Ok P:=by
 have key:∀(n:Int),-9223372036854775808≤n→n≤9223372036854775807→ia (E:=E) P f [.dat (.int .i64) n] [] [] [] ⟨true,.dat .str (Lib.itoa n),[],[],[],[]⟩:=by
  intro n h0 h1 w G args hP hB hS hv;obtain⟨u,us,ha,pF,kA⟩:=hv.cons_inv;have kA:us=[]:=by simpa only [aP] using kA
  have e1:=pF.dw;subst e1 kA;have ha:args=#[.int .i64 n]:=by apply nj;exact ha
  subst ha;unfold gE;rw [he];refine Calls.mono (hC n h0 h1 w (hT w G hP)) fun e w' hh=>?_;obtain⟨rfl,k,os,rfl⟩:=hh
  have hs:cL w (Go.Sort.grow (w.drewN k) os):=⟨by simp [Go.Sort.grow,World.drewN],fun b hb=>by
   show (w.heap++os)[b]? = _;rw [adE hb]⟩
  obtain⟨q1,q2,q4,q3⟩:=hB.grown hP hS hs rfl rfl rfl;exact⟨_,G,rfl,q1,q2,q4,.str _ _ _,fun q b hq _=>q3 q b hq⟩
 have ahS:∀(n:Int) (y:List UInt8),AR F n=some y→ia (E:=E) P f [.dat (.int .i64) n] [] [] [] ⟨true,.dat .str y,[],[],[],[]⟩:=by
  intro n y hy;obtain⟨h1,h2⟩:=b9 hy;rw [aV,decide_eq_true_eq,decide_eq_true_eq] at h1;cases h2;exact key n h1.1 h1.2
 intro x y hy;exact ahS x y hy
end Go.RT
namespace Go.RT
section
variable {w : World} {pr : Nat → Nat → Prop}
theorem LD.getD:∀ {cs:List Value} {ds:List DV},LD w pr cs ds→∀ {l:Nat},l<ds.length→VD w pr (cs.getD l undef) (ds.getD l default)
 | [],[],_,l,h=>by simp at h
 | c::cs,d::ds,h,0,_=>h.1
 | c::cs,d::ds,h,l+1,hl=>by simpa using LD.getD h.2 (l:=l) (by simpa using hl)
 | [],_::_,h,_,_=>h.elim
 | _::_,[],h,_,_=>h.elim
theorem LD.app:∀ {cs cs':List Value} {ds ds':List DV},LD w pr cs ds→LD w pr cs' ds'→LD w pr (cs++cs') (ds++ds')
 | [],cs',[],ds',_,h=>h
 | c::cs,cs',d::ds,ds',h,h'=>⟨h.1,LD.app h.2 h'⟩
 | [],_,_::_,_,h,_=>h.elim
 | _::_,_,[],_,h,_=>h.elim
theorem LD.cat {cs:List Value} {o k:Nat} {a b:List DV} (h1:LD w pr ((cs.drop o).take k) a) (h2:LD w pr (cs.drop (o+k)) b):LD w pr (cs.drop o) (a++b):=by
 have:=h1.app h2;rwa [←XB,um] at this
theorem LD.fin {cs:List Value} {n:Nat} (h:cs.length=n):LD w pr (cs.drop n) []:=by
 rw [Ny om];exact trivial
end
theorem ahT {α:Type} [Inhabited α] (enc:α→List DV) (l:List α) (n:Nat) (h:n<l.length):(l.map enc).getD n []=enc (l.getD n default):=by
 simp [List.getD,h]
theorem block_lt_of_cell {w:World} {a:Addr} {v:Value} (h:w.cell? a=some v):a.block<w.heap.size:=World.block_lt_of_cell? w a h
def Nd {H:Type} (P:Program) (t:TypeId) (d:DataW H):Prop:=∀n∈d.weights P t,n≤reachBytes
theorem Oc {H:Type} {P:Program} {e:TypeId} {d:DataW H} {n:Nat} (hn:n∈d.weights P e):∀ {l:List (DataW H)},d∈l→n∈DataW.weightsAll P e l
 | x::l,h=>by
  unfold DataW.weightsAll;rcases fK.1 h with rfl | h
  ·exact List.mem_append_left _ hn
  ·exact List.mem_append_right _ (Oc hn h)
theorem Kt {H:Type} {P:Program} {t:TypeId} {d:DataW H} {n:Nat} (hn:n∈d.weights P t):∀ {ts:List TypeId} {ds:List (DataW H)} (j:Nat),ts[j]? = some t→ds[j]? = some d→n∈DataW.weightsEach P ts ds
 | t'::ts,d'::ds,0,h1,h2=>by
  obtain rfl:t'=t:=by simpa using h1
  obtain rfl:d'=d:=by simpa using h2
  unfold DataW.weightsEach
  exact List.mem_append_left _ hn
 | t'::ts,d'::ds,j+1,h1,h2=>by
  unfold DataW.weightsEach
  exact List.mem_append_right _ (Kt hn j (by simpa using h1) (by simpa using h2))
 | [],_,j,h1,_=>by simp at h1
 | _::_,[],j,_,h2=>by simp at h2
theorem wAt {H:Type} {P:Program} {ts:List TypeId} {ds:List (DataW H)} (h:(DataW.weightsEach P ts ds).all (·≤reachBytes)=true) (j:Nat) {t:TypeId} {d:DataW H} (h1:ts[j]? = some t) (h2:ds[j]? = some d):Nd P t d :=
 fun n hn=>of_decide_eq_true (nk.1 h n (Kt hn j h1 h2))
def cE {H:Type} (bV:TypeId × Value→H) (P:Program) (W:World) (fuel:Nat) (t:TypeId) {α:Type} (enc:α→List DV) (ok:α→Prop):Prop :=
 ∀cs d ps,DataW.trod bV P W 0 (fun _=>true) true fuel t cs=some (d,ps)→Nd P t d→∃x,ok x∧LD W (fun b _=>b<W.heap.size) cs (enc x)
section
variable {H : Type} {bV : TypeId × Value → H} {P : Program} {W : World}
theorem oG {t:TypeId} (ht:P.underlying t=some .bool) (fuel:Nat):cE bV P W fuel t (fun b:Bool=>[.bool b]) (fun _=>True):=by
 intro cs d ps h _
 cases fuel with
 | zero=>cases h
 | succ n =>
  simp only [DataW.trod,ht] at h;split at h<;>try (simp_all;done)
  rename_i b h1;exact⟨b,trivial,⟨.bool _,trivial⟩⟩
theorem eP {t:TypeId} {k:IntKind} (ht:P.underlying t=some (.int k)) (fuel:Nat):cE bV P W fuel t (fun n:Int=>[.int k n]) (fun n=>(Lit.int k n).wf=true):=by
 intro cs d ps h _
 cases fuel with
 | zero=>cases h
 | succ n =>
  simp only [DataW.trod,ht] at h;split at h<;>try (simp_all;done)
  rename_i k2 k' m h1;cases h1;split at h<;>try (cases h;done)
  rename_i hc;obtain⟨rfl,hw⟩:=hc;exact⟨m,hw,⟨.int _ _,trivial⟩⟩
theorem dR {t:TypeId} (ht:P.underlying t=some .string) (fuel:Nat):cE bV P W fuel t (fun l:List UInt8=>[.str l]) (fun l=>l.length≤140737488351232):=by
 intro cs d ps h hw
 cases fuel with
 | zero=>cases h
 | succ n =>
  simp only [DataW.trod,ht] at h;split at h<;>try (simp_all;done)
  rename_i s h1;split at h<;>try (cases h;done)
  rename_i hc;cases h;exact⟨s.data.toList,hw _ (by simp [DataW.weights]),⟨.str s.data.toList,trivial⟩⟩
theorem B1 {α β:Type} {f:α→Option β}:∀ {l:List α} {r:List β},l.mapM f=some r→r.length=l.length∧∀(j:Nat) a,l[j]? = some a→∃b,r[j]? = some b∧f a=some b
 | [],r,h=>by simp at h;subst h;exact⟨rfl,fun j a hj=>by simp at hj⟩
 | x::l,r,h=>by
  simp only [adA,Option.bind_eq_bind,Option.pure_def] at h
  cases hx:f x with
  | none=>simp [hx] at h
  | some y =>
   cases hl:l.mapM f with
   | none=>simp [hx,hl] at h
   | some r' =>
    simp [hx,hl] at h;subst h;obtain⟨h1,h2⟩:=B1 hl;refine⟨by simp [h1],fun j a hj=>?_⟩
    cases j with
    | zero=>simp at hj;subst hj;exact⟨y,si,hx⟩
    | succ j=>simp at hj ⊢;exact h2 j a hj
theorem aeZ {w:World} {base:Nat} {a:Addr} {n:Nat} {cs:List Value} (h:w.cells? base a n=some cs):cs.length=n∧∀j,j<n→w.cell? (a.add j)=some (cs.getD j undef):=by
 unfold World.cells? at h;split at h<;>try (cases h;done)
 obtain⟨h1,h2⟩:=B1 h;have hl:cs.length=n:=by simpa using h1
 refine⟨hl,fun j hj=>?_⟩;obtain⟨b,hb,hc⟩:=h2 j j (by simp [hj]);rw [hc];simp [List.getD,hb]
theorem fh {t e:TypeId} {k fuel:Nat} {α:Type} [Inhabited α] {enc:α→List DV} {ok:α→Prop} (ht:P.underlying t=some (.slice e)) (hk:P.cellsOf e=k) (hkp:0<k) (hlen:∀x,(enc x).length=k) (he:cE bV P W fuel e enc ok) :
  cE bV P W (fuel+1) t (fun vs:List α=>[.slice k (vs.map enc)]) (fun vs=>vs.length≤maxLen∧∀x,x∈vs→ok x):=by
 intro cs d ps h hW;simp only [DataW.trod,ht] at h;split at h<;>try (simp_all;done)
 ·rename_i h1
  exact⟨[],⟨si,fun x hx=>by simp at hx⟩,⟨.oN _ _,trivial⟩⟩
 ·rename_i e' a len cap h1
  cases h1;split at h<;>try (cases h;done)
  rename_i hc;simp only [aiz,Jo] at h;obtain⟨elems,hel,rest,cX,hd⟩:=h
  have hwe:(∀y∈elems,Nd P e y.1)∧∀y∈rest,Nd P e y.1:=by
   obtain⟨rfl,-⟩:=Prod.mk.inj hd
   have hW':∀n,n∈DataW.weightsAll P e (elems.map (·.1))∨n∈DataW.weightsAll P e (rest.map (·.1))→n≤reachBytes:=fun n hn=>hW n (by
    simp only [DataW.weights,ht];exact jS _ (gz.2 hn))
   exact⟨fun y hy n hn=>hW' n (.inl (Oc hn (adF hy))),fun y hy n hn=>hW' n (.inr (Oc hn (adF hy)))⟩
  obtain⟨hl,hg⟩:=B1 hel;have hlen':elems.length=len:=by simpa using hl
  have rd:∀j,(∃y:DataW H × List MemPlace,(W.cells? 0 (a.add (j * P.cellsOf e)) (P.cellsOf e)).bind (DataW.trod bV P W 0 (fun _=>true) true fuel e)=some y∧Nd P e y.1) →
    ∃x:α,ok x∧∃cs:List Value,cs.length=k∧(∀l,l<k→W.cell? ((a.add (j * k)).add l)=some (cs.getD l undef))∧LD W (fun b _=>b<W.heap.size) cs (enc x):=by
   rintro j ⟨y,hy,hyw⟩;simp only [aiz] at hy;obtain⟨cs,hcs,hy⟩:=hy;obtain⟨x,hx,hv⟩:=he cs y.1 y.2 hy hyw;rw [hk] at hcs;obtain⟨q1,q2⟩:=aeZ hcs;exact⟨x,hx,cs,q1,q2,hv⟩
  have key:∀j,j<len→∃x:α,ok x∧∃cs:List Value,cs.length=k∧(∀l,l<k→W.cell? ((a.add (j * k)).add l)=some (cs.getD l undef))∧LD W (fun b _=>b<W.heap.size) cs (enc x):=by
   intro j hj;obtain⟨y,hm,hy⟩:=hg j j (by simp [hj]);exact rd j ⟨y,hy,hwe.1 y (ek hm)⟩
  by_cases hz:cap=0
  ·have hl0:len=0:=om
   subst hz;subst hl0;exact⟨[],⟨si,fun x hx=>by simp at hx⟩,⟨.oN _ _,trivial⟩⟩
  have aiX:a.spot=none:=by
   have h0:∃x:α,ok x∧∃cs:List Value,cs.length=k∧(∀l,l<k→W.cell? ((a.add (0 * k)).add l)=some (cs.getD l undef))∧LD W (fun b _=>b<W.heap.size) cs (enc x):=by
    by_cases hl1:0<len
    ·exact key 0 hl1
    ·have hl0:len=0:=om
     subst hl0;simp only [if_true] at cX;obtain⟨hl2,YA⟩:=B1 cX;obtain⟨y,hm,hy⟩:=YA 0 0 (by rw [List.getElem?_range om]);exact rd 0 ⟨y,by simpa using hy,hwe.2 y (ek hm)⟩
   obtain⟨x,-,cs,-,hcell,-⟩:=h0;have h1:=hcell 0 hkp;simp only [Jn] at h1;have e:(a.add 0).add 0=a:=by simp [Addr.add]
   rw [e] at h1;unfold World.cell? at h1;split at h1<;>try (cases h1;done)
   split at h1<;>try (cases h1;done)
   rename_i hn;simpa using hn
  obtain⟨b,off,spot⟩:=a;simp only at aiX;subst aiX;simp only [add_lit] at key
  have hch:∃vs:List α,vs.length=len∧∀j,j<len→ok (vs.getD j default)∧∃cs:List Value,cs.length=k∧(∀l,l<k→W.cell? ⟨b,off+j * k+l,none⟩=some (cs.getD l undef))∧LD W (fun b _=>b<W.heap.size) cs (enc (vs.getD j default)):=by
   clear hg hel cX rd hlen' hl hc
   induction len with
   | zero=>exact⟨[],rfl,fun j hj=>om⟩
   | succ n ih =>
    obtain⟨vs,h1,h2⟩:=ih (fun j hj=>key j om);obtain⟨x,hx⟩:=key n om;refine⟨vs++[x],by simp [h1],fun j hj=>?_⟩;by_cases hjn:j<n
    ·have:(vs++[x]).getD j default=vs.getD j default:=by simp [List.getD,fU (show j<vs.length by omega)]
     rw [this];exact h2 j hjn
    ·have hje:j=n:=om
     subst hje;have:(vs++[x]).getD j default=x:=by simp [List.getD,←h1]
     rw [this];exact hx
  obtain⟨vs,hvl,hvs⟩:=hch;refine⟨vs,⟨by rw [hvl];omega,fun x hx=>?_⟩,?_⟩
  ·obtain⟨j,hj,rfl⟩:=gZ hx
   have:=(hvs j om).1;simpa [List.getD,hj] using this
  ·refine⟨?_,trivial⟩
   have hml:(vs.map enc).length=len:=by simp [hvl]
   have hgd:∀j,j<len→(vs.map enc).getD j []=enc (vs.getD j default):=fun j hj=>ahT enc vs j om;rw [←hml];refine .slice b off cap k _ (fun j l=>(W.cell? ⟨b,off+j * k+l,none⟩).getD undef) (by rw [hml];omega) (fun j hj=>?_) (fun j l hj hl=>?_) (fun j l hj hl=>?_)
   all_goals rw [hml] at hj
   ·rw [hgd j hj];exact hlen _
   ·obtain⟨-,cs,q1,q2,q3⟩:=hvs j hj
    have:=q2 l hl;exact⟨block_lt_of_cell (a:=⟨b,off+j * k+l,none⟩) this,by rw [this];rfl⟩
   ·obtain⟨-,cs,q1,q2,q3⟩:=hvs j hj
    rw [q2 l hl,hgd j hj];exact LD.getD q3 (by rw [hlen];exact hl)
theorem b8 {t:TypeId} {fs:Array Field} {fuel:Nat} {cs:List Value} {d:DataW H} {ps:List MemPlace} (ht:P.underlying t=some (.struct fs)) (h:DataW.trod bV P W 0 (fun _=>true) true (fuel+1) t cs=some (d,ps)) (hW:Nd P t d) :
  cs.length=P.cellsOf t∧∀f,f∈fs.toList→∃y,DataW.trod bV P W 0 (fun _=>true) true fuel f.type ((cs.drop f.offset).take (P.cellsOf f.type))=some y∧Nd P f.type y.1:=by
 simp only [DataW.trod,ht] at h;split at h<;>try (cases h;done)
 rename_i hl;obtain⟨xs,hxs,hd⟩:=Jo.1 h;obtain⟨rfl,-⟩:=Prod.mk.inj hd;refine⟨hl,fun f hf=>?_⟩;obtain⟨j,hj,rfl⟩:=gZ hf;obtain⟨b,hm,hb⟩:=(B1 hxs).2 j _ (bK hj);refine⟨b,hb,fun n hn=>hW n ?_⟩;simp only [DataW.weights,ht];exact Kt hn j (by rw [kJ,bK hj];rfl) (by rw [kJ,hm];rfl)
theorem ae0 {t:TypeId} {fs:Array Field} {fuel:Nat} {cs:List Value} {α:Type} {enc:α→List DV} {ok:α→Prop} {f:Field} (hf:f∈fs.toList) {k:Nat} (hk:P.cellsOf f.type=k)
  (ho:cE bV P W fuel f.type enc ok) (h:∀f,f∈fs.toList→∃y,DataW.trod bV P W 0 (fun _=>true) true fuel f.type ((cs.drop f.offset).take (P.cellsOf f.type))=some y∧Nd P f.type y.1) :
  ∃x,ok x∧LD W (fun b _=>b<W.heap.size) ((cs.drop f.offset).take k) (enc x):=by
 obtain⟨y,hy,hw⟩:=h f hf;rw [hk] at hy;exact ho _ y.1 y.2 hy hw
theorem alZ.arg {t:TypeId} {v:Value} {α:Type} {enc:α→List DV} {ok:α→Prop} (ho:∀fuel,cE bV P W fuel t enc ok) {d:DataW H} {ps:List MemPlace} (h:DataW.Trod bV P W 0 (fun _=>true) true t v d ps) (hw:Nd P t d) :
  ∃x,ok x∧LD W (fun b _=>b<W.heap.size) v.cells.toList (enc x):=by
 obtain⟨fuel,hf⟩:=h;exact ho fuel _ _ _ hf hw
theorem bl {fs:Array Field} {fuel:Nat} {cs:List Value} {α:Type} {enc:α→List DV} {ok:α→Prop} (j:Nat) {f:Field} (hf:fs[j]? = some f) {k:Nat} (hk:P.cellsOf f.type=k)
  (ho:cE bV P W fuel f.type enc ok) (h:∀f,f∈fs.toList→∃y,DataW.trod bV P W 0 (fun _=>true) true fuel f.type ((cs.drop f.offset).take (P.cellsOf f.type))=some y∧Nd P f.type y.1) :
  ∃x,ok x∧LD W (fun b _=>b<W.heap.size) ((cs.drop f.offset).take k) (enc x) :=
 ae0 (t:=0) (by simpa using Array.mem_of_getElem? hf) hk ho h
end
theorem Pb {E:TEnv} {W:World} {b:Nat} {k:IntKind} {zs:List Int} {t:TypeId} {m:Nat × Nat} (h:W.heap[b]? = some (.cells (zs.map fun z=>Value.int k z).toArray t m)) :
  rM E W (fun b _=>b<W.heap.size) b (.int k) zs:=by
 have hb:b<W.heap.size:=(lF.1 h).1;unfold rM;have hl:(zs.map (Ty.cells E (.int k))).length=zs.length:=by simp
 rw [←hl];refine .slice b 0 _ _ _ (fun j _=>.int k (zs.getD j 0)) (bM _) (fun j hj=>?_) (fun j l hj hl'=>⟨hb,?_⟩) (fun j l hj hl'=>?_)
 all_goals rw [hl] at hj
 ·simp [List.getD,hj,Ty.cells,Ty.size]
 ·obtain rfl:l=0:=by simp [Ty.size] at hl';exact hl'
  simp [World.cell?,h,Ty.size,List.getD,hj]
 ·obtain rfl:l=0:=by simp [Ty.size] at hl';exact hl'
  simp only [List.getD,kJ,bK hj,uW,NA,Ty.cells];exact .int _ _
theorem afv {E:TEnv} {P:Program} {f:FuncId} {ds:List (TV E)} {args:Array Value} {W:World} (h:ia P f ds [] [] [] ⟨true,.dat .bool true,[],[],[],[]⟩) (he:∀args w,(callFunc f args).run P w=.ok (.enter f args) w) (J3:∀b c,E.gt b=some c→rM E W (fun b _=>b<W.heap.size) b c.1 c.2) (ZH:∀b p,E.gb b=some p→∃cs t m,W.heap[b]? = some (.cells cs t m)∧p cs)
  (hv:aP E W ⟨[],[],fun b _=>b<W.heap.size⟩ ds args.toList):Calls P f args W fun e w'=>e=.returned (.bool true)∧RowKit.Below W.heap.size W w':=by
 have hf:∀b,¬ (⟨[],[],fun b _=>b<W.heap.size⟩:au).zN b:=fun b hb=>by
  rcases hb with hb | ⟨x,y,hb,-⟩<;>cases hb
 have hI:=h W ⟨[],[],fun b _=>b<W.heap.size⟩ args (fun b cs hb=>⟨ZH b cs hb,hf b⟩)
  ⟨rfl,rfl,fun r b x hb=>(by simp at hb),fun b hb=>(by cases hb),Bt,fun b o hp=>⟨hp,si⟩,fun j x y hj=>(by simp at hj),fun j j' x h x' h' b hj=>(by simp at hj),J3⟩ (fun j c hm=>by cases hm) hv
 unfold gE at hI;rw [he] at hI;refine Calls.mono hI fun e w' hp=>?_;obtain⟨v,G',rfl,hE,hR,-,hV,-⟩:=hp;refine⟨?_,hE.os,hE.tape,hE.output,hE.size,fun k hk=>hE.old k hk (hf k)⟩;have:=hV.iG;rw [this];rfl
end Go.RT
namespace Go.RT
open Go.MapKept Go.Maps Go.RowKit
open Go.WideElems (Fit rd rg pl)
open Go.Proofs (encStr)
variable {E : TEnv}
def Od (x:List UInt8):List (List UInt8)→List (List UInt8)
 | []=>[x]
 | y::l=>cond (decide (x≤y)) (x::y::l) (y::Od x l)
def oX:List (List UInt8)→List (List UInt8)
 | []=>[]
 | x::l=>Od x (oX l)
theorem Ku (x:List UInt8):∀l,(Od x l).Perm (x::l)
 | []=>.refl _
 | y::l=>by
  simp only [Od];cases decide (x≤y)
  ·exact ((Ku x l).cons y).trans (List.Perm.swap x y l)
  ·exact .refl _
theorem Ez:∀l,(oX l).Perm l
 | []=>.refl _
 | x::l=>(Ku x (oX l)).trans ((Ez l).cons x)
theorem ZY (x:List UInt8):∀ {l:List (List UInt8)},l.Pairwise (fun a b=>decide (a≤b)=true)→(Od x l).Pairwise (fun a b=>decide (a≤b)=true)
 | [],_=>by simp [Od]
 | y::l,h=>by
  simp only [Od]
  cases hxy:decide (x≤y) with
  | true =>
   refine .cons (fun c hc=>?_) h;rcases fK.1 hc with rfl | hc
   ·exact hxy
   ·have h2:=aiA h hc
    rw [decide_eq_true_eq] at h2 hxy ⊢
    exact List.le_trans hxy h2
  | false =>
   rw [decide_eq_false_iff_not] at hxy;refine .cons (fun c hc=>?_) (ZY x h.of_cons);rcases fK.1 ((Ku x l).mem_iff.1 hc) with rfl | hc
   ·rw [decide_eq_true_eq];exact (List.le_total y c).resolve_right hxy
   ·exact aiA h hc
theorem Qz:∀l,(oX l).Pairwise (fun a b=>decide (a≤b)=true)
 | []=>.nil
 | x::l=>ZY x (Qz l)
theorem ZZ (l:List (List UInt8)):l.mergeSort (fun x y=>decide (x≤y))=oX l :=
 (mergeSort_of_perm (Ez l).symm).trans (List.mergeSort_of_pairwise (Qz l))
def skF {β:Type} (F:Nat) (m:List (List UInt8 × β)):Option (List (List UInt8)) :=
 rq ((m.all fun p=>decide (p.1.length≤9223372036854775807))&&decide (m.length * 16≤140737488355328)) (some (oX (m.map fun p=>p.1)))
def skS (f fk ty:Nat) (vt:Ty):bL:=⟨f,[.one (.func fk [(0,0)])],[.cells ty [.eY 1],.map .str vt],[],⟨.one (.dat (.aG .str)),[none,none],[],[]⟩,none,[]⟩
def skC (E:TEnv) (f fk ty:Nat) (vt:Ty) (F:Nat):an E:=⟨skS f fk ty vt,fun (x:List (List UInt8 × vt.den E.D))=>skF F x⟩
def Z0 (P:Program) (fS fk ty kt:Nat):Prop :=
 ∀(w:World) (b0 b n:Nat) (D0:DataW Unit) (R:Value→Option (DataW Unit × List MemPlace)),w.heap[b0]? = some (.cells #[.map (some b)] ty (0,0))→w.ownsMap P kt R b n D0→Maps.size D0≤maxLen→Maps.size D0 * 16≤140737488355328 →
  Calls P fS #[.func (.func fk) #[] #[.pointer (some ⟨b0,0,none⟩)]] w fun e w2=>∃(u:Value) (ss:List (List UInt8)),e=.returned u∧ss.Perm (strKeys D0) ∧
   w2.ownsRow w.heap.size kt 1 u ss.length ((ss.mergeSort (fun x y=>decide (x≤y))).map encStr)∧Below w.heap.size w w2
theorem Nf {w:World} {G:au} {vt:Ty}:∀ {es:List MapEntry} {m:List (List UInt8 × vt.den E.D)},dA E w G .str vt es m→es.map (fun e=>e.key)=m.map fun p=>mkStr p.1
 | [],[],_=>rfl
 | e::es,p::ps,h=>by
  have h1:e.key=mkStr p.1:=h.1.ep
  simp only [eV,h1,Nf h.2.2]
 | [],_::_,h=>h.elim
 | _::_,[],h=>h.elim
theorem Z1 {P:Program} {kt:TypeId} {w:World} {b:Nat} {es:Array MapEntry} {clock:Nat} (ks:List (List UInt8)) (hk:P.underlying kt=some .string) (hb:w.heap[b]? = some (.map es clock)) (hs:Stamped es clock) (hm:es.toList.map (fun e=>e.key)=ks.map mkStr)
  (hl:∀p∈ks,p.length≤maxLen) (hlen:ks.length≤maxLen):∃D0:DataW Unit,w.ownsMap P kt (fun _=>some (.lit (.bool true),[])) b ks.length D0∧Maps.size D0=ks.length∧(strKeys D0).Perm ks:=by
 have hsz:es.size=ks.length:=by
  have:=congrArg List.length hm;simpa using this
 have hrd:∀x∈es.toList,∃p∈ks,x.key=mkStr p∧rd P kt (fun _=>some ((.lit (.bool true):DataW Unit),[])) x=some (.string p,.lit (.bool true)):=by
  intro x hx;have hmem:x.key∈ks.map mkStr:=by rw [←hm];exact adF hx
  obtain⟨p,hp,U8⟩:=p8.1 hmem;refine⟨p,hp,U8.symm,?_⟩
  have hko:keyOf P kt x.key=some (.string p):=by
   rw [←U8];exact WideMaps.keyOf_string_mk hk (s:=⟨⟨p⟩⟩) (hl p hp)
  simp [rd,hko]
 have hF:Fit P kt (fun _=>some ((.lit (.bool true):DataW Unit),[])) es clock:=⟨om,hs,fun x hx=>by obtain⟨p,-,-,h⟩:=hrd x hx;exact⟨_,h⟩⟩;refine⟨_,⟨es,clock,hb,hF,om,rfl⟩,?_,?_⟩
 ·show ((es.toList.map (rg P kt _)).foldr DataW.insert []).length=_
  rw [length_sorted];simp;omega
 ·show (((es.toList.map (rg P kt _)).foldr DataW.insert []).map fun p=>strOf p.1).Perm _
  refine ((WideShapes.sorted_perm _).map _).trans ?_
  have:(es.toList.map (rg P kt (fun _=>some ((.lit (.bool true):DataW Unit),[])))).map (fun p=>strOf p.1)=ks:=by
   have h2:(es.toList.map (rg P kt (fun _=>some ((.lit (.bool true):DataW Unit),[])))).map (fun p=>strOf p.1)=(es.toList.map (fun e=>e.key)).map (fun v=>match v with | .string s=>s.data.toList | _=>[]):=by
    rw [qE,qE];refine XP fun x hx=>?_;obtain⟨p,-,U8,hr⟩:=hrd x hx;simp [rg,hr,U8,strOf,mkStr]
   rw [h2,hm,qE]
   have:((fun v=>match v with | Value.string s=>s.data.toList | _=>[]) ∘ mkStr)=id:=by
    funext l;simp [mkStr]
   rw [this,NH]
  rw [this]
theorem ahU {w:World} {pr:Nat→Nat→Prop} {base:Nat} {kt:TypeId} {u:Value} {n:Nat} {l:List (List UInt8)} (hn:n=l.length) (h:w.ownsRow base kt 1 u n (l.map encStr)) (hp:∀g,u.ownBlock=some g→∀o,o<n→pr g o) :
  VD w pr u (.slice 1 (l.map fun x=>[.str x])):=by
 subst hn;rcases h.2 with⟨rfl,hz⟩ | ⟨g,cap,cur,rfl,hbase,hg,h1,h2,h3,h4⟩
 ·have:l=[]:=oA hz
  subst this;exact .oN _ _
 ·have hlen:(l.map fun x=>[DV.str x]).length=l.length:=by simp
  have amO:∀q,q<l.length→w.cell? ⟨g,q,none⟩=some (mkStr (l.getD q [])):=by
   intro q hq;rw [cell_of_row w g q cur kt (0,0) hg];have h5:=congrArg (fun t=>t[q]?) h4;simp only [zD] at h5;rw [qD,if_pos hq] at h5;simp only [kJ,XS] at h5;rw [h5];simp [List.getD,hq,encStr,mkStr]
  have:=VD.slice (w:=w) (pr:=pr) g 0 cap 1 (l.map fun x=>[DV.str x]) (fun j _=>mkStr (l.getD j [])) (by rw [hlen];simpa using h1) (fun j hj=>by
    have hj':j<l.length:=by simpa using hj
    simp [List.getD,hj']) (fun j q hj hq=>by
    have hj':j<l.length:=by simpa using hj
    obtain rfl:q=0:=om;refine⟨hp g rfl _ om,?_⟩;have:=amO j hj';rw [show 0+j * 1+0=j by omega];exact this) (fun j q hj hq=>by
    have hj':j<l.length:=by simpa using hj
    obtain rfl:q=0:=om
    have e2:((l.map fun x=>[DV.str x]).getD j []).getD 0 default=.str (l.getD j []):=by
     simp [List.getD,hj']
    rw [e2];exact .str _)
  rw [hlen] at this;exact this
theorem amP {P:Program} {f fk ty kt:Nat} {vt:Ty} (he:∀args w,(callFunc f args).run P w=.ok (.enter f args) w) (hS:Z0 P f fk ty kt) (hkt:P.underlying kt=some .string) (F:Nat):(skC E f fk ty vt F).Ok P:=by
 have key:∀(m:List (List UInt8 × vt.den E.D)),(∀p∈m.map (fun p=>p.1),p.length≤maxLen)→m.length * 16≤140737488355328 →
   ia (E:=E) P f [.func (.func fk) [.ptr 0 0]] [.cells ty [.eY 1],.map .str vt m] [] [] ⟨true,.dat (.aG .str) (oX (m.map fun p=>p.1)),[.cells ty [.eY 1],.map .str vt m],[],[],[]⟩:=by
  intro m hm hlen w G args hP hB hSf hv;obtain⟨u,us,ha,pF,kA⟩:=hv.cons_inv;have kA:us=[]:=by simpa only [aP] using kA
  subst kA;simp only [VT,aP] at pF;obtain⟨vs,rfl,u0,us0,hvs,⟨b0,rfl,hb0⟩,rfl⟩:=pF;have anQ:vs=#[.pointer (some ⟨b0,0,none⟩)]:=by apply nj;exact hvs
  subst anQ;have ha:args=#[.func (.func fk) #[] #[.pointer (some ⟨b0,0,none⟩)]]:=by apply nj;exact ha
  subst ha;obtain⟨cs,hc1,hc2,hc3⟩:=hB.box 0 b0 _ hb0 rfl;simp only [aP,VT] at hc3;obtain⟨u1,us1,hcs,⟨b1,rfl,sE⟩,rfl⟩:=hc3;have anR:cs=#[.map (some b1)]:=by apply nj;exact hcs
  subst anR;obtain⟨es,clock,hm1,hm2,hm3⟩:=hB.box 1 b1 _ sE rfl;have hks:es.toList.map (fun e=>e.key)=(m.map fun p=>p.1).map mkStr:=by rw [Nf hm3,qE];rfl
  have hml:(m.map fun p=>p.1).length≤maxLen:=by
   have:(8796093022208:Nat)≤maxLen:=by decide
   rw [oC];omega
  obtain⟨D0,hown,hsz,amQ⟩:=Z1 (P:=P) (kt:=kt) (m.map fun p=>p.1) hkt hm1 hm2 hks hm hml;unfold gE;rw [he];refine Calls.mono (hS w b0 b1 _ D0 _ hc1 hown (by rw [hsz];exact hml) (by rw [hsz,oC];exact hlen)) fun e w2 hh=>?_;obtain⟨u,ss,rfl,hss,hrow,SW⟩:=hh;have hsort:ss.mergeSort (fun x y=>decide (x≤y))=oX (m.map fun p=>p.1):=(mergeSort_of_perm (hss.trans amQ)).trans (ZZ _);have amR:ss.length=(oX (m.map fun p=>p.1)).length:=by rw [←hsort,List.length_mergeSort]
  rw [hsort] at hrow;have hs:cL w w2:=⟨SW.size,fun k hk=>SW.block k hk⟩
  let gK:Nat→Nat→Prop:=fun g o=>G.pr g o∨(u.ownBlock=some g∧o<ss.length)
  have hr:=Rel.Gr (n:=0) (ds:=[]) (args:=#[]) hP hB hSf .nil
  have hr':=hr.grow (w':=w2) hs SW.os SW.tape SW.output gK (fun b o h=>.inl h) (fun b o hb h=>by
    rcases h with h | ⟨h,-⟩
    ·exact h
    ·have:=(hrow.lt b h).1;omega) (fun b o h=>by
    rcases h with h | ⟨h,-⟩
    ·exact eF (hB.dH b o h).1 SW.size
    ·exact (hrow.lt b h).2)
  refine⟨u,{ G with pr:=gK },rfl,hr'.cK,hr'.boxes,hr'.dI,?_,fun q b hq _=>hr'.fix q b hq si⟩;exact⟨ahU amR hrow (fun g hg o ho=>.inr ⟨hg,ho⟩),trivial⟩
 have ahS:∀(m:List (List UInt8 × vt.den E.D)) (y:List (List UInt8)),skF F m=some y →
   ia (E:=E) P f [.func (.func fk) [.ptr 0 0]] [.cells ty [.eY 1],.map .str vt m] [] [] ⟨true,.dat (.aG .str) y,[.cells ty [.eY 1],.map .str vt m],[],[],[]⟩:=by
  intro m y hy;obtain⟨h1,h2⟩:=b9 hy;rw [aV,decide_eq_true_eq,nk] at h1;cases h2;refine key m (fun p hp=>?_) h1.2;obtain⟨q,hq,rfl⟩:=p8.1 hp;have:=h1.1 q hq;simpa [maxLen] using this
 intro x y hy;exact ahS x y hy
end Go.RT
namespace Go.RT
open Go.RowKit
variable {E : TEnv}
theorem yq {P:Program} {f:FuncId} {ds:List (TV E)} {d:TV E} (he:∀args w,(callFunc f args).run P w=.ok (.enter f args) w)
  (h:∀w G args,kK E w G→aP E w G ds args.toList→∃v,(∀w G,VT E w G d v)∧Calls P f args w fun e w'=>e=.returned v∧Below w.heap.size w w'):ia P f ds [] [] [] ⟨true,d,[],[],[],[]⟩:=by
 intro w G args hP hB hS hv;obtain⟨v,hV,hC⟩:=h w G args hP hv;unfold gE;rw [he];refine Calls.mono hC fun e w' hh=>?_;obtain⟨rfl,Db⟩:=hh;obtain⟨q1,q2,q4,q3⟩:=hB.grown hP hS ⟨Db.size,fun k hk=>Db.block k hk⟩ Db.os Db.tape Db.output;exact⟨v,G,rfl,q1,q2,q4,hV _ _,fun q b hq _=>q3 q b hq⟩
theorem VT.strs {w:World} {G:au} {v:Value} {l:List (List UInt8)} (h:VT E w G (.dat (.aG .str) l) v) :
  (∃a,v=.slice a 0 0∧l=[])∨∃b off cap,v=.slice (some ⟨b,off,none⟩) l.length cap∧l.length≤cap∧∀(j:Nat) x,l[j]? = some x→w.cell? ⟨b,off+j,none⟩=some (mkStr x):=by
 obtain⟨cs,hf,hc⟩:=(h.atom rfl).oh.flat (show 0<Ty.size E .str from Nat.one_pos);rcases hc with⟨a,he,hn⟩ | ⟨b,off,cap,he,hcap,hcells⟩
 ·exact .inl ⟨a,he,by simpa using hn⟩
 ·refine .inr ⟨b,off,cap,by simpa using he,by simpa using hcap,fun j x hx=>?_⟩
  have hj:j<l.length:=(bS.1 hx).1;have h1:=(hcells j (by simpa [Ty.size] using hj)).2;have h2:=hf.2.2 j 0 (by simpa using hj) (show 0<Ty.size E .str from Nat.one_pos)
  have hd:((l.map (Ty.cells E .str)).getD j []).getD 0 default=.str x:=by
   simp [List.getD,hx,Ty.cells]
  rw [hd] at h2;rw [show Ty.size E .str=1 from rfl,zD,lE] at h2;rw [h1,h2.ep]
def rO (F:Nat) (l:List (List UInt8)) (sep:List UInt8):Option (List UInt8):=rq (decide (l.length≤140737488355328)&&decide ((Lib.join l sep).length≤140737488355328)) (some (Lib.join l sep))
def aiY (E:TEnv) (f:FuncId) (F:Nat):an E:=⟨⟨f,[.one (.dat (.aG .str)),.one (.dat .str)],[],[],⟨.one (.dat .str),[],[],[]⟩,none,[]⟩,fun (x:List (List UInt8) × List UInt8)=>rO F x.1 x.2⟩
structure Yj (P:Program) (f:FuncId):Prop where
 enters:∀args w,(callFunc f args).run P w=.ok (.enter f args) w
 some:∀(bk o c:Nat) (xs:List ByteArray) (sep:ByteArray) (w:World),(∀(j:Nat) x,xs[j]? = some x→w.cell? ⟨bk,o+j,none⟩=some (.string x))→bk<w.heap.size→xs.length≤140737488355328→xs.length≤c →
  (Lib.join (xs.map (·.data.toList)) sep.data.toList).length≤140737488355328 →
  Calls P f #[.slice (some ⟨bk,o,none⟩) xs.length c,.string sep] w fun e w'=>e=.returned (.string ⟨(Lib.join (xs.map (·.data.toList)) sep.data.toList).toArray⟩)∧Below w.heap.size w w'
 none:∀(a:Option Addr) (c:Nat) (sep:ByteArray) (w:World),Calls P f #[.slice a 0 c,.string sep] w fun e w'=>e=.returned (.string ⟨#[]⟩)∧w'=w
theorem ajH {P:Program} {f:FuncId} (h:Yj P f) (F:Nat):(aiY E f F).Ok P:=by
 have key:∀(l:List (List UInt8)) (sep y:List UInt8),rO F l sep=some y→ia (E:=E) P f [.dat (.aG .str) l,.dat .str sep] [] [] [] ⟨true,.dat .str y,[],[],[],[]⟩:=by
  intro l sep y hy;obtain⟨h1,h2⟩:=b9 hy;rw [aV,decide_eq_true_eq,decide_eq_true_eq] at h1;cases h2;refine yq h.enters fun w G args hP hv=>⟨_,fun w G=>.str w G (Lib.join l sep),?_⟩;obtain⟨u,us,ha,pF,kA⟩:=hv.cons_inv;obtain⟨u2,Dc,th,Af,qH⟩:=kA.cons_inv;have qH:Dc=[]:=by simpa only [aP] using qH
  have e2:=Af.ep;subst e2 qH th;have ha:args=#[u,mkStr sep]:=by apply nj;exact ha
  subst ha
  have zero:∀a c,l=[]→u=.slice a 0 c→Calls P f #[u,mkStr sep] w fun e w'=>e=.returned (mkStr (Lib.join l sep))∧Below w.heap.size w w':=by
   intro a c hl hu;subst hl hu;exact (h.none a c ⟨⟨sep⟩⟩ w).mono fun e w' ⟨q1,q2⟩=>⟨by rw [q1];rfl,q2▸Below.refl _ _⟩
  rcases pF.strs with⟨a,hu,hl⟩ | ⟨b,off,cap,hu,hcap,hc⟩
  ·exact zero a 0 hl hu
  ·rcases adm l.length with hl | hl
   ·rw [hl] at hu
    exact zero _ _ (oA hl) hu
   ·have hx:(l.map fun s=>(⟨⟨s⟩⟩:ByteArray)).map (·.data.toList)=l:=by rw [qE];exact NH l
    have:=h.some b off cap (l.map fun s=>⟨⟨s⟩⟩) ⟨⟨sep⟩⟩ w (fun j x hjx=>by
     rw [kJ] at hjx;obtain⟨s,hs,rfl⟩:=Jo.1 hjx;exact hc j s hs) (by
     have h0:=hc 0 l[0] (bK hl);exact World.block_lt_of_cell? w _ h0) (by simpa using h1.1) (by simpa using hcap) (by rw [hx];exact h1.2)
    rw [hx,oC] at this;rw [hu];exact this
 intro x y hy;exact key x.1 x.2 y hy
structure aod (P:Program) (f:FuncId):Prop where
 enters:∀args w,(callFunc f args).run P w=.ok (.enter f args) w
 call:∀(s:ByteArray) (c:Nat) (w:World),c≤9223372036854775807→s.size * c≤140737488355328→Calls P f #[.string s,.int .i64 c] w fun e w'=>e=.returned (.string ⟨(Lib.repeatL s.data.toList c).toArray⟩)∧Below w.heap.size w w'
def Z2 (F:Nat) (s:List UInt8) (c:Int):Option Int:=rq (decide (s.length<4611686018427387904)) (some (Lib.lastIndexByte ⟨⟨s⟩⟩ c))
def alm (E:TEnv) (f:FuncId) (F:Nat):an E:=⟨⟨f,[.one (.dat .str),.one (.dat (.int .u8))],[],[],⟨.one (.dat (.int .i64)),[],[],[]⟩,none,[]⟩,fun (x:List UInt8 × Int)=>Z2 F x.1 x.2⟩
structure aiD (P:Program) (f:FuncId):Prop where
 enters:∀args w,(callFunc f args).run P w=.ok (.enter f args) w
 call:∀(s:ByteArray) (c:Int) (w:World),s.size<4611686018427387904→Calls P f #[.string s,.int .u8 c] w fun e w'=>e=.returned (.int .i64 (Lib.lastIndexByte s c))∧w'=w
theorem aln {P:Program} {f:FuncId} (h:aiD P f) (F:Nat):(alm E f F).Ok P:=by
 have key:∀(s:List UInt8) (n y:Int),Z2 F s n=some y→ia (E:=E) P f [.dat .str s,.dat (.int .u8) n] [] [] [] ⟨true,.dat (.int .i64) y,[],[],[],[]⟩:=by
  intro s n y hy;obtain⟨h1,h2⟩:=b9 hy;rw [decide_eq_true_eq] at h1;cases h2;refine yq h.enters fun w G args hP hv=>⟨_,fun w G=>.int w G .i64 (Lib.lastIndexByte ⟨⟨s⟩⟩ n),?_⟩;obtain⟨u,us,ha,pF,kA⟩:=hv.cons_inv;obtain⟨u2,Dc,th,Af,qH⟩:=kA.cons_inv;have qH:Dc=[]:=by simpa only [aP] using qH
  have e1:=pF.ep;have e2:=Af.dw;subst e1 e2 qH th;have ha:args=#[mkStr s,.int .u8 n]:=by apply nj;exact ha
  subst ha;exact (h.call ⟨⟨s⟩⟩ n w h1).mono fun e w' ⟨q1,q2⟩=>⟨q1,q2▸Below.refl _ _⟩
 intro x y hy;exact key x.1 x.2 y hy
structure aog (P:Program) (f:FuncId):Prop where
 enters:∀args w,(callFunc f args).run P w=.ok (.enter f args) w
 call:∀(s cs:ByteArray) (w:World),s.size<4294967281→cs.size<4294967281→(∀(j:Nat) b,cs.data.toList[j]? = some b→b.toNat<128) →
  Calls P f #[.string s,.string cs] w fun e w'=>e=.returned (.bool (Lib.containsAny s.data.toList cs.data.toList))∧Below w.heap.size w w'
def BD (F:Nat) (s sep:List UInt8):Option (List (List UInt8)):=rq (decide (s.length<4294967281)&&decide (1≤sep.length)) (some ((Lib.splitB ⟨⟨sep⟩⟩ 0 (Lib.countB ⟨⟨s⟩⟩ ⟨⟨sep⟩⟩) ⟨⟨s⟩⟩).map (·.data.toList)))
def agf (E:TEnv) (f:FuncId) (e:TypeId) (F:Nat):an E:=⟨⟨f,[.one (.dat .str),.one (.dat .str)],[],[],⟨.one (.cw 0),[],[some (e,1)],[(0,.str)]⟩,none,[]⟩,fun (x:List UInt8 × List UInt8)=>BD F x.1 x.2⟩
structure acz (E:TEnv) (P:Program) (f:FuncId) (e:TypeId):Prop where
 enters:∀args w,(callFunc f args).run P w=.ok (.enter f args) w
 call:∀(s sep:ByteArray) (w:World) (G:au),kK E w G→s.size<4294967281→1≤sep.size→Calls P f #[.string s,.string sep] w fun e' w' =>
   e'=.returned (.slice (some ⟨w.heap.size,0,none⟩) (Lib.countB s sep+1) (Lib.countB s sep+1))∧w'=w.alloc (.cells ((Lib.splitB sep 0 (Lib.countB s sep) s).map Value.string).toArray e)
 len:∀(s sep:ByteArray),1≤sep.size→(Lib.splitB sep 0 (Lib.countB s sep) s).length=Lib.countB s sep+1
 le:∀(s sep:ByteArray),1≤sep.size→Lib.countB s sep≤s.size
theorem agh {w:World} {pr:Nat→Nat→Prop} (l:List ByteArray):Flat w pr 1 (l.map Value.string) ((l.map (·.data.toList)).map (Ty.cells E .str)):=by
 refine⟨si,fun j hj=>?_,fun j k hj hk=>?_⟩
 ·simp at hj
  simp [List.getD,hj,Ty.cells]
 ·simp at hj
  obtain rfl:k=0:=om;have e1:(l.map Value.string).getD (j * 1+0) undef=.string l[j]:=by simp [List.getD,hj]
  have e2:(((l.map (·.data.toList)).map (Ty.cells E .str)).getD j []).getD 0 default=.str l[j].data.toList:=by simp [List.getD,hj,Ty.cells]
  rw [e1,e2];exact .str _
theorem ahV {P:Program} {f:FuncId} {e:TypeId} (h:acz E P f e) (F:Nat):(agf E f e F).Ok P:=by
 have key:∀(s sep:List UInt8) (y:List (List UInt8)),BD F s sep=some y→ia (E:=E) P f [.dat .str s,.dat .str sep] [] [] [] ⟨true,.cw 0 0,[],[⟨0,e,1⟩],[],[(0,⟨.str,y⟩)]⟩:=by
  intro s sep y hy;obtain⟨h1,h2⟩:=b9 hy;rw [aV,decide_eq_true_eq,decide_eq_true_eq] at h1;obtain⟨c1,c2⟩:=h1;cases h2;intro w G args hP hB hS hv;obtain⟨u,us,ha,pF,kA⟩:=hv.cons_inv;obtain⟨u2,Dc,th,Af,qH⟩:=kA.cons_inv;have qH:Dc=[]:=by simpa only [aP] using qH
  have e1:=pF.ep;have e2:=Af.ep;subst e1 e2 qH th;have ha:args=#[mkStr s,mkStr sep]:=by apply nj;exact ha
  subst ha;unfold gE;rw [h.enters];have hlen:=h.len ⟨⟨s⟩⟩ ⟨⟨sep⟩⟩ c2;have hle:=h.le ⟨⟨s⟩⟩ ⟨⟨sep⟩⟩ c2;have hsz:(⟨⟨s⟩⟩:ByteArray).size=s.length:=rfl;generalize hpl:Lib.splitB ⟨⟨sep⟩⟩ 0 (Lib.countB ⟨⟨s⟩⟩ ⟨⟨sep⟩⟩) ⟨⟨s⟩⟩=pl at hlen;generalize hcn:Lib.countB ⟨⟨s⟩⟩ ⟨⟨sep⟩⟩=cn at hlen hle;have hC:=h.call ⟨⟨s⟩⟩ ⟨⟨sep⟩⟩ w G hP c1 c2;rw [hcn] at hC hpl;rw [hpl] at hC;refine Calls.mono hC fun e' w' hh=>?_;obtain⟨rfl,rfl⟩:=hh;have hr:=Rel.Gr (n:=0) (ds:=[]) (args:=#[]) hP hB hS .nil
  let cur:=(pl.map Value.string).toArray
  have hcs:cur.size=(cn+1) * 1:=by simp [cur,hlen]
  have hG:=hr.grow (cL.alloc w (.cells cur e)) rfl rfl rfl G.pr (fun _ _ h=>h) (fun _ _ _ h=>h) (fun b o hp=>eF (hr.boxes.dH b o hp).1 si);have hnp:∀o,¬ G.pr w.heap.size o:=fun o hp=>absurd (hr.boxes.dH _ _ hp).1 (mA _);have hheap:(w.alloc (.cells cur e)).heap[w.heap.size]? = some (.cells cur e):=heap_alloc_new w _;have hmax:maxLen=9223372036854775807:=rfl
  have hown:(w.alloc (.cells cur e)).ownsRow 0 e 1 (.slice (some ⟨w.heap.size,0,none⟩) (cn+1) (cn+1)) (cn+1) (cur.toList.take ((cn+1) * 1)):=by
   refine⟨by simp [cur,hlen],.inr ⟨w.heap.size,cn+1,cur,rfl,fT _,hheap,bM _,?_,hcs,rfl⟩⟩;rw [hmax];omega
  have hA:=hG.xG ⟨0,e,1⟩ (.slice (some ⟨w.heap.size,0,none⟩) (cn+1) (cn+1)) ⟨cn+1,_,hown,fun a q h=>by simp at h,fun b hb=>by
    cases hb;exact⟨si,fun hm=>absurd (hr.boxes.lt _ hm) (mA _),fun o _ hp=>hnp o hp⟩⟩ (fun b hb=>by cases hb;exact hr.cK.size) (fun j y z b hj Y8 hb=>by
    cases hb;obtain⟨n',xs',-,-,hb'⟩:=hr.boxes.grow j y z hj;exact absurd (hb' _ Y8).1 (mA _))
  have hg0:G.g=[]:=by
   have:=hB.gs;simpa using this
  have gv:(G.g++[((⟨0,e,1⟩:aZ),Value.slice (some ⟨w.heap.size,0,none⟩) (cn+1) (cn+1))])[0]? = some (⟨0,e,1⟩,.slice (some ⟨w.heap.size,0,none⟩) (cn+1) (cn+1)):=by rw [hg0];rfl
  have hC2:=hA.SK (j:=0) (c:=⟨.str,pl.map (·.data.toList)⟩) ⟨⟨0,e,1⟩,_,gv,rfl,Nat.one_pos,⟨_,by simpa [hlen] using hown,by
    have ht:cur.toList.take (cn+1)=pl.map Value.string:=by
     rw [mw (by simp [cur,hlen])]
    rw [ht];exact agh pl⟩,fun b hb o hp=>by cases hb;exact hnp o hp⟩
  refine⟨_,_,rfl,hC2.cK,hC2.boxes,hC2.dI,?_,fun q b hq _=>hC2.fix q b hq si⟩;simp only [VT];exact⟨⟨0,e,1⟩,_,gv,bM _,rfl,fun _=>rfl⟩
 intro x y hy;exact key x.1 x.2 y hy
theorem Rel.ajI {w0 w w':World} {G0 G:au} {st:TS E} {a:Act} (hr:Rel E w0 G0 st a w G) {j:Nat} {g:aZ} {c:Cn E} (hg:st.g[j]? = some g) (hc:fL st.c j=some c) {v:Value} (hj:G.g[j]? = some (g,v)) (qi:w.grownBy w' v.ownBlock) {ys:List (c.1.den E.D)} {vals:List Value}
  (hown:w'.ownsRow 0 g.e g.k v ys.length vals) (hf:Flat w G.pr g.k vals (ys.map (c.1.cells E))) :
  Rel E w0 G0 { st with c:=(j,⟨c.1,ys⟩)::fF j st.c } a w' G:=by
 obtain⟨h,hj',hs,-⟩:=hr.soft hg hc;rw [hj] at hj';cases hj';obtain⟨n0,YP,M5,BJ,hb0⟩:=hr.boxes.grow j g v hj;have hnp:=hs.2.2.2
 have hcells:∀b o u,G.pr b o→w.cell? ⟨b,o,none⟩=some u→w'.cell? ⟨b,o,none⟩=some u:=fun b o u hp hu =>
  qi.cell hu (fun e=>hnp b e.symm o hp)
 have lI:G.g.set j (g,v)=G.g:=GF hj
 have key:=hr.setRow (x':=g) (hd':=v) (cs:=(j,⟨c.1,ys⟩)::fF j st.c) hj (bM _) (fun _=>rfl) qi.size qi.os qi.tape qi.output
  (fun b hb hne=>qi.block b hb (fun e=>hne e.symm)) hcells G.pr (fun _ _ h=>h) (fun _ _ h=>.inl h)
  ⟨ys.length,vals,hown,BJ,fun b hb=>⟨(hown.lt b hb).2,(hb0 b hb).2.1,fun o _ hp=>hnp b hb o hp⟩⟩ (fun b hb=>.inr hb) (fun hg'=>?_)
 ·rw [lI,GF hg] at key
  exact key
 ·intro i c' hm
  rcases fK.1 hm with e | hm
  ·cases e
   exact⟨g,v,by rw [lI];exact hj,hs.1,hs.2.1,⟨vals,hown,hf.mono hg'.pr hg'.cells⟩,hnp⟩
  ·obtain⟨hm,hne⟩:=oq hm
   obtain⟨x,hd,q1,q2⟩:=hr.dI i c' hm;obtain⟨n1,xs1,-,-,sE⟩:=hr.boxes.grow i x hd q1;refine⟨x,hd,by rw [lI];exact q1,q2.keep rfl rfl hg'.pr hg'.cells fun b hb=>⟨qi.block b (sE b hb).1 (fun e=>hne (hr.boxes.apart i j x hd g v b q1 hj hb e.symm)),fun o hp=>hp⟩⟩
theorem ae1 {w:World} {pr:Nat→Nat→Prop} (l:List (List UInt8)):Flat w pr 1 (l.map Go.Proofs.encStr) (l.map (Ty.cells E .str)):=by
 refine⟨si,fun j hj=>?_,fun j k hj hk=>?_⟩
 ·simp at hj
  simp [List.getD,hj,Ty.cells]
 ·simp at hj
  obtain rfl:k=0:=om;have e1:(l.map Go.Proofs.encStr).getD (j * 1+0) undef=mkStr l[j]:=by simp [List.getD,hj];rfl
  have e2:((l.map (Ty.cells E .str)).getD j []).getD 0 default=.str l[j]:=by simp [List.getD,hj,Ty.cells]
  rw [e1,e2];exact .str _
theorem Vz {w:World} {pr:Nat→Nat→Prop} {xs:List Value} {l:List (List UInt8)} (h:Flat w pr 1 xs (l.map (Ty.cells E .str))):xs=l.map Go.Proofs.encStr:=by
 have hl:xs.length=l.length:=by simpa using h.1
 refine zE (by simpa using hl) fun j h1 h2=>?_;have hj:j<l.length:=om;have h3:=h.2.2 j 0 (by simpa using hj) Nat.one_pos;have e2:((l.map (Ty.cells E .str)).getD j []).getD 0 default=.str l[j]:=by simp [List.getD,hj,Ty.cells]
 have e1:xs.getD (j * 1+0) undef=xs[j]:=by simp [List.getD,h1]
 rw [e1,e2] at h3;rw [h3.ep,Jp];rfl
def Yc (F:Nat) (l:List (List UInt8)):Option (List (List UInt8)):=rq (decide (l.length<4611686018427387904)) (some (oX l))
def aiZ (E:TEnv) (f:FuncId) (e:TypeId) (F:Nat):an E:=⟨⟨f,[.one (.cw 0)],[],[(e,1)],⟨.one .any,[],[none],[(0,.str)]⟩,none,[(0,.str)]⟩,fun (x:List (List UInt8))=>Yc F x⟩
structure afy (P:Program) (f:FuncId):Prop where
 enters:∀args w,(callFunc f args).run P w=.ok (.enter f args) w
 some:∀(blk cap:Nat) (ss:List (List UInt8)) (w:World),Sort.Holds Go.Proofs.encStr w blk 0 ss.toArray→blk<w.heap.size→ss.length<4611686018427387904→Calls P f #[.slice (some ⟨blk,0,none⟩) ss.length cap] w fun e w' =>
   e=.returned (.tuple #[])∧∃n os,w'=Sort.grow (Sort.putRow Go.Proofs.encStr (Sort.ahead w n) blk 0 (ss.mergeSort fun x y=>decide (x≤y)).toArray) os
 none:∀(p:Option Addr) (cap:Nat) (w:World),Calls P f #[.slice p 0 cap] w fun e w'=>e=.returned (.tuple #[])∧w'=w
theorem ajJ {P:Program} {f:FuncId} {e:TypeId} (h:afy P f) (F:Nat):(aiZ E f e F).Ok P:=by
 have key:∀(l y:List (List UInt8)),Yc F l=some y→ia (E:=E) P f [.cw 0 0] [] [⟨0,e,1⟩] [(0,⟨.str,l⟩)] ⟨true,.any,[],[⟨0,e,1⟩],[],[(0,⟨.str,y⟩)]⟩:=by
  intro l y hy;obtain⟨h1,h2⟩:=b9 hy;rw [decide_eq_true_eq] at h1;cases h2;intro w G args hP hB hS hv;obtain⟨u,us,ha,pF,kA⟩:=hv.cons_inv;have kA:us=[]:=by simpa only [aP] using kA
  subst kA;have ha:args=#[u]:=by apply nj;exact ha
  subst ha;unfold gE;rw [h.enters];have hr:=Rel.Gr (n:=0) (ds:=[]) (args:=#[]) hP hB hS .nil;obtain⟨v,hj,hs,hval⟩:=hr.soft (j:=0) (g:=⟨0,e,1⟩) (c:=⟨.str,l⟩) rfl rfl;have dL:=hval u pF;subst dL;rcases hs.block with⟨q1,q2⟩ | ⟨b,cap,cur,q1,hheap,hcap,hcm,hcs,Dq,hnp⟩
  ·have q2:l=[]:=q2
   subst q2 q1;refine (h.none none 0 w).mono fun e' w' hh=>?_;obtain⟨rfl,rfl⟩:=hh;exact⟨_,G,rfl,gU.refl _ G,hB,hS,by simp only [VT],fun _ _ _ _=>rfl⟩
  ·subst q1
   have hft:=Vz Dq;have hft:cur.toList.take l.length=l.map Go.Proofs.encStr:=by rw [zD] at hft;exact hft
   have hH:=Go.holds_of_block hheap hft;refine (h.some b cap l w hH (lF.1 hheap).1 h1).mono fun e' w' hh=>?_;obtain⟨rfl,n,os,rfl⟩:=hh;rw [ZZ];have hsl:(oX l).length=l.length:=(Ez l).length_eq;have hown:=Go.ownsRow_sorted (n:=n) (os:=os) (base:=0) (ts:=oX l) (ss:=l) hsl (fT _) hheap hcap hcm hcs;have hR:=hr.ajI (j:=0) (g:=⟨0,e,1⟩) (c:=⟨.str,l⟩) rfl rfl hj (w':=Sort.grow (Sort.putRow Go.Proofs.encStr (Sort.ahead w n) b 0 (oX l).toArray) os) (Go.grownBy_sorted _) (ys:=oX l) (by rw [hsl];exact hown) (ae1 (oX l));exact⟨_,G,rfl,hR.cK,hR.boxes,hR.dI,by simp only [VT],fun q b hq _=>hR.fix q b hq si⟩
 intro x y hy;exact key x y hy
def vi (F:Nat) (sep:List UInt8) (l:List (List UInt8)):Option (List UInt8 × List (List UInt8)):=(rO F l sep).bind fun y=>some (y,l)
def agi (E:TEnv) (f:FuncId) (e:TypeId) (F:Nat):an E:=⟨⟨f,[.one (.cw 0),.one (.dat .str)],[],[(e,1)],⟨.one (.dat .str),[],[none],[(0,.str)]⟩,none,[(0,.str)]⟩,fun (x:List UInt8 × List (List UInt8))=>vi F x.1 x.2⟩
theorem ahW {P:Program} {f:FuncId} {e:TypeId} (h:Yj P f) (F:Nat):(agi E f e F).Ok P:=by
 have key:∀(sep y:List UInt8) (l z:List (List UInt8)),vi F sep l=some (y,z)→ia (E:=E) P f [.cw 0 0,.dat .str sep] [] [⟨0,e,1⟩] [(0,⟨.str,l⟩)] ⟨true,.dat .str y,[],[⟨0,e,1⟩],[],[(0,⟨.str,z⟩)]⟩:=by
  intro sep y l z hy;unfold vi at hy
  cases hj:rO F l sep with
  | none=>rw [hj] at hy;cases hy
  | some y' =>
  rw [hj] at hy;cases hy;obtain⟨h1,h2⟩:=b9 hj;rw [aV,decide_eq_true_eq,decide_eq_true_eq] at h1;cases h2;intro w G args hP hB hS hv;obtain⟨u,us,ha,pF,kA⟩:=hv.cons_inv;obtain⟨u2,Dc,th,Af,qH⟩:=kA.cons_inv;have qH:Dc=[]:=by simpa only [aP] using qH
  have e2:=Af.ep;subst e2 qH th;have ha:args=#[u,mkStr sep]:=by apply nj;exact ha
  subst ha;unfold gE;rw [h.enters];have hr:=Rel.Gr (n:=0) (ds:=[]) (args:=#[]) hP hB hS .nil;obtain⟨v,hj,hs,hval⟩:=hr.soft (j:=0) (g:=⟨0,e,1⟩) (c:=⟨.str,l⟩) rfl rfl;have dL:=hval u pF;subst dL;rcases hs.block with⟨q1,q2⟩ | ⟨b,cap,cur,q1,hheap,hcap,hcm,hcs,Dq,hnp⟩
  ·have q2:l=[]:=q2
   subst q2 q1;refine (h.none none 0 ⟨⟨sep⟩⟩ w).mono fun e' w' hh=>?_;obtain⟨rfl,rfl⟩:=hh;exact⟨_,G,rfl,gU.refl _ G,hB,hS,.str _ _ _,fun _ _ _ _=>rfl⟩
  ·subst q1
   have hft:=Vz Dq;have hft:cur.toList.take l.length=l.map Go.Proofs.encStr:=by rw [zD] at hft;exact hft
   have hx:(l.map fun s=>(⟨⟨s⟩⟩:ByteArray)).map (·.data.toList)=l:=by rw [qE];exact NH l
   have Qa:=h.some b 0 cap (l.map fun s=>⟨⟨s⟩⟩) ⟨⟨sep⟩⟩ w (fun j x hjx=>by
     rw [kJ] at hjx;obtain⟨s,hs',rfl⟩:=Jo.1 hjx;have hjl:j<l.length:=(bS.1 hs').1;have h3:(cur.toList.take l.length)[j]? = some (Go.Proofs.encStr s):=by rw [hft,kJ,hs'];rfl
     rw [XH hjl] at h3;have h4:cur[j]? = some (Go.Proofs.encStr s):=by simpa using h3
     simp [World.cell?,hheap,h4,Go.Proofs.encStr]) (lF.1 hheap).1 (by simpa using h1.1) (by
     have:l.length≤cap:=by simpa using hcap
     simpa using this) (by rw [hx];exact h1.2)
   rw [hx,oC] at Qa;refine Qa.mono fun e' w' hh=>?_;obtain⟨rfl,Db⟩:=hh;obtain⟨q1,q2,q4,q3⟩:=hB.grown hP hS ⟨Db.size,fun k hk=>Db.block k hk⟩ Db.os Db.tape Db.output;exact⟨_,G,rfl,q1,q2,q4,.str _ _ _,fun q b hq _=>q3 q b hq⟩
 intro x y hy;exact key x.1 y.1 x.2 y.2 hy
def St (F:Nat) (s sep:List UInt8):Option (List UInt8 × List UInt8 × Bool):=rq (decide (s.length<4294967281)) (some (Lib.cut s sep))
def alo (E:TEnv) (f:FuncId) (F:Nat):an E:=⟨⟨f,[.one (.dat .str),.one (.dat .str)],[],[],⟨.bW [.dat .str,.dat .str,.dat .bool],[],[],[]⟩,none,[]⟩,fun (x:List UInt8 × List UInt8)=>St F x.1 x.2⟩
structure aiE (E:TEnv) (P:Program) (f:FuncId):Prop where
 enters:∀args w,(callFunc f args).run P w=.ok (.enter f args) w
 call:∀(s sep:ByteArray) (w:World) (G:au),kK E w G→s.size<4294967281→Calls P f #[.string s,.string sep] w fun e w' =>
  e=.returned (.tuple #[.string ⟨(Lib.cut s.data.toList sep.data.toList).1.toArray⟩,.string ⟨(Lib.cut s.data.toList sep.data.toList).2.1.toArray⟩,.bool (Lib.cut s.data.toList sep.data.toList).2.2])∧∃n,w'=w.drewN n
theorem alp {P:Program} {f:FuncId} (h:aiE E P f) (F:Nat):(alo E f F).Ok P:=by
 have key:∀(s sep a b:List UInt8) (c:Bool),St F s sep=some (a,b,c)→ia (E:=E) P f [.dat .str s,.dat .str sep] [] [] [] ⟨true,.tuple [.dat .str a,.dat .str b,.dat .bool c],[],[],[],[]⟩:=by
  intro s sep a b c hy;obtain⟨h1,h2⟩:=b9 hy;rw [decide_eq_true_eq] at h1;have h2:Lib.cut s sep=(a,b,c):=gC h2;refine yq h.enters fun w G args hP hv=>⟨.tuple #[mkStr a,mkStr b,.bool c],fun w G=>?_,?_⟩
  ·simp only [VT]
   exact⟨_,rfl,.cons (.str _ _ _) (.cons (.str _ _ _) (.cons (.bool _ _ _) .nil))⟩
  obtain⟨u,us,ha,pF,kA⟩:=hv.cons_inv;obtain⟨u2,Dc,th,Af,qH⟩:=kA.cons_inv;have qH:Dc=[]:=by simpa only [aP] using qH
  have e1:=pF.ep;have e2:=Af.ep;subst e1 e2 qH th;have ha:args=#[mkStr s,mkStr sep]:=by apply nj;exact ha
  subst ha;have:=h.call ⟨⟨s⟩⟩ ⟨⟨sep⟩⟩ w G hP h1;refine this.mono fun e' w' hh=>?_;obtain⟨rfl,n,rfl⟩:=hh;refine⟨?_,?_⟩
  ·show Ending.returned (.tuple #[.string ⟨(Lib.cut s sep).1.toArray⟩,.string ⟨(Lib.cut s sep).2.1.toArray⟩,.bool (Lib.cut s sep).2.2])=_
   rw [h2];rfl
  ·exact⟨rfl,rfl,rfl,bM _,fun _ _=>rfl⟩
 intro x y hy;exact key x.1 x.2 y.1 y.2.1 y.2.2 hy
end Go.RT
namespace Go.RT
open Go.RowKit
variable {E : TEnv}
def ov (n:Nat) (m:List (Nat × TV E)):List (TV E):=m.foldl (fun t p=>t.set p.1 p.2) (List.replicate n .any)
def SS (n:Nat) (m:List (Nat × TV E)) (H:List (cV E)) (g:List aZ):TS E:=⟨ov n m,H,g,[],[],[]⟩
theorem Oe:∀(m:List (Nat × TV E)) (t:List (TV E)),(m.foldl (fun t p=>t.set p.1 p.2) t).length=t.length∧∀j d,(m.foldl (fun t p=>t.set p.1 p.2) t)[j]? = some d→t[j]? = some d∨(j,d)∈m
 | [],t=>⟨rfl,fun j d h=>.inl h⟩
 | p::m,t=>by
  obtain⟨h1,h2⟩:=Oe m (t.set p.1 p.2);refine⟨by simpa using h1,fun j d h=>?_⟩;rcases h2 j d h with h | h
  ·by_cases e:p.1=j
   ·subst e
    have hl:p.1<t.length:=by
     have:=(bS.1 h).1;simpa using this
    rw [Sd hl] at h;cases h;exact .inr si
   ·rw [iB e] at h
    exact .inl h
  ·exact .inr (by simp [h])
theorem pX (n:Nat) (m:List (Nat × TV E)):(ov n m).length=n:=by unfold ov;rw [(Oe m _).1];simp
theorem rZ {n:Nat} {m:List (Nat × TV E)} {j:Nat} {d:TV E} (h:(ov n m)[j]? = some d):d=.any∨(j,d)∈m:=by
 rcases (Oe m _).2 j d h with h | h
 ·left
  rw [List.getElem?_replicate] at h;split at h<;>cases h;rfl
 ·exact .inr h
section
variable {P : Program} {w0 w w' : World} {G0 G G' : au} {st : TS E} {a : Act}
theorem Rel.weak (hr:Rel E w0 G0 st a w G) (hi:G0.i=[]) {t':List (TV E)} (hl:t'.length=st.t.length) (ht:∀(j:Nat) d,t'[j]? = some d→d=.any∨st.t[j]? = some d) (d':List Nat) :
  Rel E w0 G0 { st with t:=t',d:=d' } a w G:=by
 refine⟨hr.cK,hr.size.trans hl.symm,fun j d hj=>?_,hr.defers,hr.boxes,fun r b hb=>?_,hr.pins,hr.dI⟩
 ·rcases ht j d hj with rfl | h
  ·simp only [VT]
  ·exact hr.tmps j d h
 ·rw [hi] at hb;cases hb
def AW (P:Program) (w0:World) (G0:au) (c:Code) (st:TS E) (Q:Ex E→TS E→Prop):Prop:=∀a w G,Rel E w0 G0 st a w G→c.wp P (bD E w0 G0 Q) a w
variable {Q Q' : Ex E → TS E → Prop} {c c' : Code}
theorem AW.mono (h:AW P w0 G0 c st Q) (hq:∀x s,Q x s→Q' x s):AW P w0 G0 c st Q':=fun a w G hr=>wp_mono (h a w G hr) fun _ _ _ hp=>bD.mono hq hp
theorem AW.seq (h:AW P w0 G0 c st (fun x s=>(x=.normal∧AW P w0 G0 c' s Q)∨(x≠.normal∧Q x s))):AW P w0 G0 (.seq c c') st Q:=fun a w G hr=>by
 refine wp_seq (wp_mono (h a w G hr) fun e a' w' hp=>?_);obtain⟨x,s,G',he,hr',hq⟩:=hp;rcases hq with⟨rfl,hq⟩ | ⟨hne,hq⟩
 ·cases e<;>try (exact he.elim)
  exact hq a' w' G' hr'
 ·have jB:bD E w0 G0 Q e a' w':=⟨x,s,G',he,hr',hq⟩
  cases x with
  | normal=>exact (hne rfl).elim
  | _=>cases e<;>first | exact he.elim | exact jB
theorem AW.zK (h:AW P w0 G0 c st (fun x s=>x=.normal∧Q' x s)) (h':∀s,Q' .normal s→AW P w0 G0 c' s Q):AW P w0 G0 (.seq c c') st Q :=
 AW.seq (h.mono fun x s hq=>.inl ⟨hq.1,h' s (hq.1▸hq.2)⟩)
theorem AW.block {i:Nat} (h:AW P w0 G0 c st (fun x s=>(x=.exit i∧Q .normal s)∨(x≠.exit i∧Q x s))):AW P w0 G0 (.block i c) st Q:=fun a w G hr=>by
 refine wp_block (wp_mono (h a w G hr) fun e a' w' hp=>?_);obtain⟨x,s,G',he,hr',hq⟩:=hp
 cases x with
 | exit j =>
  cases e<;>try (exact he.elim)
  rename_i i';have he:i'=j:=he;subst he;simp only [Exit.inBlock];rcases hq with⟨hx,hq⟩ | ⟨hx,hq⟩
  ·cases hx
   rw [if_pos rfl];exact⟨.normal,s,G',trivial,hr',hq⟩
  ·rw [if_neg (fun e=>hx (by rw [e]))]
   exact⟨.exit i',s,G',rfl,hr',hq⟩
 | _ =>
  rcases hq with⟨hx,-⟩ | ⟨-,hq⟩
  ·cases hx
  ·have jB:bD E w0 G0 Q e a' w':=⟨_,s,G',he,hr',hq⟩
   cases e<;>first | exact he.elim | exact jB
theorem AW.cond {o:Operand} {b:Bool} (ho:st.ev o=.dat .bool b) (h:AW P w0 G0 (if b then c else c') st Q):AW P w0 G0 (.cond o c c') st Q:=fun a w G hr=>by
 have hv:=hr.ev o;rw [ho] at hv;exact wp_cond hv.iG (h a w G hr)
theorem AW.skip (h:Q .normal st):AW P w0 G0 .skip st Q:=fun a w G hr=>wp_skip ⟨.normal,st,G,trivial,hr,h⟩
theorem AW.ret (h:Q .ret st):AW P w0 G0 .ret st Q:=fun a w G hr=>wp_ret ⟨.ret,st,G,trivial,hr,h⟩
theorem AW.exit {i:Nat} (h:Q (.exit i) st):AW P w0 G0 (.exit i) st Q:=fun a w G hr=>wp_exit ⟨.exit i,st,G,rfl,hr,h⟩
theorem AW.loop {ι:Type} (S:ι→TS E) (I:ι→Prop) (μ:ι→Nat) (x0:ι) (h0:I x0) (hS:st=S x0)
  (hs:∀x,I x→AW P w0 G0 c (S x) (fun e s=>(e=.normal∧∃y,I y∧μ y<μ x∧s=S y)∨(e≠.normal∧Q e s))):AW P w0 G0 (.loop c) st Q:=fun a w G hr=>by
 subst hS;refine (wpIn_wide (n:=0)).1 (Kn (ι:=ι) (fun x a' w'=>I x∧∃G',Rel E w0 G0 (S x) a' w' G') μ x0 ⟨h0,G,hr⟩ ?_);rintro x a' w' ⟨hx,G',hr'⟩;refine (wpIn_wide (n:=0)).2 (wp_mono (hs x hx a' w' G' hr') fun e a2 w2 hp=>?_);obtain⟨e',s,G2,he,hr2,hq⟩:=hp;rcases hq with⟨rfl,y,hy,hlt,rfl⟩ | ⟨hne,hq⟩
 ·cases e<;>try (exact he.elim)
  exact⟨y,⟨hy,G2,hr2⟩,hlt⟩
 ·have jB:bD E w0 G0 Q e a2 w2:=⟨e',s,G2,he,hr2,hq⟩
  cases e' with
  | normal=>exact (hne rfl).elim
  | _=>cases e<;>first | exact he.elim | exact jB
def proj (js:List Nat):Ex E→TS E→Option (List (Option (TV E)) × List (cV E) × List aZ × List (Nat × Cn E) × List (FuncId × List (TV E)))
 | .normal,s=>some (js.map fun j=>s.t[j]?,s.H,s.g,s.c,s.df)
 | _,_=>none
theorem AW.rt {X:Cx E} (hX:X.Ok) (hi:G0.i=[]) {pl:dc} {n:Nat} {m m':List (Nat × TV E)} {H H':List (cV E)} {g g':List aZ}
  (h:runT X 0 c pl (SS n m H g) (proj (m'.map (·.1)))=some (m'.map (fun p=>some p.2),H',g',[],[])) :
  AW X.P w0 G0 c (SS n m H g) (fun x s=>x=.normal∧s=SS n m' H' g'):=fun a w G hr=>by
 refine wp_mono ((oW hX c pl h).wp hr) fun e a' w' hp=>?_;obtain⟨x,s,G',he,hr',hk,hF⟩:=hp
 cases x with
 | normal =>
  simp only [proj,nh,Bu] at hk;obtain⟨k1,k2,k3,k4,k5⟩:=hk;obtain⟨t,H1,g1,d1,df1,c1⟩:=s;dsimp only at k1 k2 k3 k4 k5 hF hr';subst k2 k3 k4 k5;have hlen:t.length=n:=by rw [show t.length=_ from hF.len];exact pX n m
  refine⟨.normal,SS n m' H1 g1,G',he,?_,rfl,rfl⟩;refine hr'.weak hi (by rw [pX];exact hlen.symm) (fun j d hj=>?_) [];rcases rZ hj with h | h
  ·exact .inl h
  ·right
   obtain⟨q,hq,he'⟩:=gZ h;have U6:q<(m'.map (·.1)).length:=by simpa using hq
   have:=congrArg (fun l=>l[q]?) k1;simp only [kJ,bK hq,uW,he'] at this
   exact gC this
 | _=>cases hk
def ahX (m:List (Nat × TV E)):Prop:=∀p∈m,∃t x,p.2=.dat t x
theorem Rel.Z3 {n:Nat} {m:List (Nat × TV E)} {H:List (cV E)} {g:List aZ} (hr:Rel E w0 G0 (SS n m H g) a w G):gj E w' G' a.defers []:=by
 have h:gj E w G a.defers []:=hr.defers
 cases hd:a.defers with
 | nil=>trivial
 | cons d ds=>rw [hd] at h;exact h.elim
theorem Rel.agj {n:Nat} {m:List (Nat × TV E)} {H:List (cV E)} {g:List aZ} (hr:Rel E w0 G0 (SS n m H g) a w G) (hi:G0.i=[]) (hm:ahX m):Rel E w0 G0 (SS n m [] g) a w { G with i:=[] }:=by
 have ev:=hr.cK;refine⟨⟨ev.os,ev.tape,ev.output,ev.size,ev.old,⟨ev.goes.pr,ev.goes.cells,fun r b h=>(by rw [hi] at h;cases h),ev.goes.g⟩,ev.jJ,fun r b _ h=>(by cases h),ev.cY⟩,hr.size,fun j d hj=>?_,hr.Z3,?_,fun r b hb=>(by rw [hi] at hb;cases hb),hr.pins,fun j c h=>(by cases h)⟩
 ·have hv:=hr.tmps j d hj
  rcases rZ hj with rfl | h
  ·simp only [VT]
  ·obtain⟨t,x,e⟩:=hm _ h
   simp only at e;subst e;exact hv.nM (fun _ _ h=>h)
 ·refine⟨rfl,hr.boxes.gs,fun r b x h=>(by cases h),fun b h=>(by cases h),Bt,fun b o hp=>⟨(hr.boxes.dH b o hp).1,fun h=>by cases h⟩,fun j x h hj=>?_,hr.boxes.apart,hr.boxes.sU⟩
  obtain⟨n',xs,h1,h2,h3⟩:=hr.boxes.grow j x h hj;exact⟨n',xs,h1,h2,fun b hb=>⟨(h3 b hb).1,(fun h=>by cases h),(h3 b hb).2.2⟩⟩
theorem VT.ai0 {t:Ty} {x:t.den E.D} {v:Value} (h:VT E w G (.dat t x) v) (hp:∀b o,G.pr b o→G'.pr b o) (hc:∀b o u,G.pr b o→w.cell? ⟨b,o,none⟩=some u→w'.cell? ⟨b,o,none⟩=some u):VT E w' G' (.dat t x) v :=
 (h.mono (show ez w G w' { G with pr:=G'.pr } from⟨hp,hc,fun _ _ h=>h,fun j x y hj=>⟨x,y,hj,bM _,fun _=>rfl⟩⟩)).nM (fun _ _ h=>h)
theorem wpList_step {ops:Array Oper} {Q:Exit→Act→World→Prop} {o:Oper} {l:List Oper} {v:Value} (hg:o.guard=none) (hrun:(execOp a.eval o).run P w=.ok (.value v) w') (h:wpList P ops Q l (a.put o.dst v) w'):wpList P ops Q (o::l) a w:=by
 unfold wpList;rw [if_pos (by simp [Region.wanted,hg])];left;unfold Oper.wp;rw [hrun];exact h
theorem Kv {t e:TypeId} {j1 j2:Nat} {z:Value} {ie:TI} {o:Oper} (ho:o.op=.buildSlice t 1 #[(0,.const (.slice none 0 0))]) (ht:aB P t=some ⟨.slice e,j1,j2,z⟩) (hi:aB P e=some ie) (hs:ie.size=1) (a:Act) (w:World) :
  (execOp a.eval o).run P w=.ok (.value (.slice (some ⟨w.heap.size,0,none⟩) 1 1)) (w.alloc (.cells #[.slice none 0 0] e)):=by
 obtain⟨xt,eA,bw,-⟩:=aq ht;obtain⟨xe,fZ,jA,hsz,-⟩:=aq hi
 have ad9:∀base:Array Value,base.size=1→Instr.fill (fun i=>some (i * 1,1)) base [(0,(.slice none 0 0:Value))]=some #[.slice none 0 0]:=by
  intro base hb;have h:=JW (k:=1) [(.slice none 0 0:Value)] 0 base (by intro v hv;simp at hv;subst hv;rfl) (by simp [hb]);have hd:base.toList.drop 1=[]:=Ny (by simp [hb]);simp only [jd,kg,fC,Jn,List.take_zero,iV,eV,ni,adx,List.flatten_nil,qC,zD] at h;rw [hd,qC] at h;exact h
 simp only [execOp,ho,Instr.buildSlice,Sem.run_bind,ak bw,Result.andThen_ok,bQ fZ,hsz,hs];rw [if_neg de,if_neg de];have hf:=ad9 ((Array.range (1 * 1)).map (ie.zero.cells[· % ie.zero.cells.size]!)) si;simp only [Sem.run_bind,Sem.run_pure,ji hi,Result.andThen_ok];have he:(#[(0,Operand.const (.slice none 0 0))].map fun x=>(x.1,a.eval x.2)).toList=[(0,(.slice none 0 0:Value))]:=by simp [Act.eval]
 rw [he,hf];simp only [newRow,Sem.run_bind,Sem.run_pure,Result.andThen_ok];rfl
theorem FE (n:Nat) (m m2:List (Nat × TV E)):ov n (m++m2)=m2.foldl (fun t p=>t.set p.1 p.2) (ov n m):=by unfold ov;rw [Lr]
theorem Z4 {j:Nat} (a:Act) (v:Value) (h:j<a.tmps.size):(a.put (some j) v).eval (.tmp j)=v:=by
 show (a.put (some j) v).tmps.getD j undef=v;rw [xF,if_pos ⟨rfl,h⟩]
theorem run_assign {o:Oper} {x:Operand} (ho:o.op=.assign x) (a:Act) (w:World):(execOp a.eval o).run P w=.ok (.value (a.eval x)) w:=by simp [execOp,ho]
theorem run_move {o:Oper} {x:Operand} (ho:o.op=.move x) (a:Act) (w:World):(execOp a.eval o).run P w=.ok (.value (a.eval x)) w:=by simp [execOp,ho]
theorem AW.amS {n id:Nat} {ops:Array Oper} {o0 o1:Oper} (mI:ops.toList=[o0,o1]) {t e e2:TypeId} {j1 j2:Nat} {z:Value} {ie:TI} {j3 j6:Nat} (h0:o0.op=.buildSlice t 1 #[(0,.const (.slice none 0 0))]) (g0:o0.guard=none) (d0:o0.dst=some j6)
  (h1:o1.op=.assign (.tmp j6)) (g1:o1.guard=none) (d1:o1.dst=some j3) (ht:aB P t=some ⟨.slice e,j1,j2,z⟩) (hi:aB P e=some ie) (hs:ie.size=1) (tR:Ty) {m m':List (Nat × TV E)} (hn:j6<n) (H9:G0.i=[])
  (hsub:∀p∈m',(ov n (m++[(j6,.any),(j3,.cI 0 1 1)]))[p.1]? = some p.2) :
  AW P w0 G0 (.region id ops false) (SS n m [] []) (fun x s=>x=.normal∧s=SS n m' [.dm e 1 (.aG tR) [] (.bn 0 0 tR [])] [⟨0,e2,tR.size E⟩]):=by
 intro a w G hr;refine wp_region_list ?_;rw [mI];have hsz:a.tmps.size=n:=hr.size.trans (pX n m);have hGi:G.i=[]:=oA hr.boxes.len;refine wpList_step g0 (Kv h0 ht hi hs a w) ?_;refine wpList_step g1 (run_assign h1 _ _) ?_;rw [d0,Z4 _ _ (by rw [hsz];exact hn)];have r1:=hr.Fq e2 (tR.size E);have J3:G.g.length=(SS n m [] []:TS E).g.length:=hr.kQ
 have r2:=r1.Fm (.cells #[.slice none 0 0] e) (.dm e 1 (.aG tR) [] (.bn 0 0 tR [])) (by
  refine⟨#[.slice none 0 0],heap_alloc_new w _,rfl,fun i x hx=>(by cases hx),?_,Nat.one_pos⟩
  ·exact JY (w:=w.alloc (.cells #[.slice none 0 0] e)) J3 e2 tR)
 have r3:=r2.put (v:=.slice (some ⟨w.heap.size,0,none⟩) 1 1) (d:=.any) (by simp only [VT]) (some j6)
 have r4:=r3.put (v:=.slice (some ⟨w.heap.size,0,none⟩) 1 1) (d:=.cI 0 1 1) (by
  simp only [VT];exact⟨w.heap.size,rfl,by simp [hGi]⟩) (some j3)
 rw [d1];refine⟨.normal,_,_,trivial,r4.weak H9 (t':=ov n m') (by simp [SS,br,pX]) (fun j d hj=>?_) [],rfl,rfl⟩;rcases rZ hj with h | h
 ·exact .inl h
 ·right
  have:=hsub _ h;rw [FE] at this;exact this
theorem AW.ajK (hE:E.Ok) {n id:Nat} {ops:Array Oper} {o0 o1 o2 o3:Oper} (mI:ops.toList=[o0,o1,o2,o3]) {t e e2:TypeId} {j1 j2:Nat} {z:Value} {ie:TI} {j3 Ag BA Jy:Nat} (h0:o0.op=.move (.tmp j3)) (g0:o0.guard=none) (d0:o0.dst=some Ag)
  (h1:o1.op=.buildSlice t 1 #[(0,.const (.slice none 0 0))]) (g1:o1.guard=none) (d1:o1.dst=some BA) {cl:Call} (h2:o2.op=.call cl) (hcl:cl.callee=.builtin .append) (ha:cl.args=#[.tmp Ag,.tmp BA]) (hat:cl.argTypes=#[t,t]) (g2:o2.guard=none) (d2:o2.dst=some Jy)
  (h3:o3.op=.assign (.tmp Jy)) (g3:o3.guard=none) (d3:o3.dst=some j3) (ht:aB P t=some ⟨.slice e,j1,j2,z⟩) (hi:aB P e=some ie) (hs:ie.size=1) (hzs:ie.zero.cells.size=ie.size) (tR:Ty)
  {m0:List (Nat × TV E)} (hm0:ahX m0) (hn:Ag<n∧BA<n∧Jy<n∧Ag≠BA) (H9:G0.i=[]) {cap ai:Nat} {xs:List (List (tR.den E.D))} {last:List (tR.den E.D)}
  (hj3:(ov n (m0++[(j3,.cI 0 (xs.length+1) cap)]))[j3]? = some (.cI 0 (xs.length+1) cap)) (hlen:(xs.length+2) * ie.bytes≤140737488355328) (alq:xs.length+2≤9223372036854775807)
  (hsub:∀c':Nat,∀p∈m0++[(j3,.cI 0 (xs.length+2) c')],(ov n ((((m0++[(Ag,.any)])++[(BA,.any)])++[(Jy,.any)])++[(j3,.cI 0 (xs.length+2) c')]))[p.1]? = some p.2) (hmd:∀p∈m0,(ov n (m0++[(j3,.cI 0 (xs.length+1) cap)]))[p.1]? = some p.2) :
  AW P w0 G0 (.region id ops false) (SS n (m0++[(j3,.cI 0 (xs.length+1) cap)]) [.dm e cap (.aG tR) xs (.bn 0 ai tR last)] [⟨ai,e2,tR.size E⟩])
   (fun x s=>x=.normal∧∃c',s=SS n (m0++[(j3,.cI 0 (xs.length+2) c')]) [.dm e c' (.aG tR) (xs++[last]) (.bn 0 (ai+1) tR [])] [⟨ai+1,e2,tR.size E⟩]):=by
 intro a w G hr;refine wp_region_list ?_;rw [mI];have hsz:a.tmps.size=n:=hr.size.trans (pX n _);obtain⟨xt,eA,bw,-⟩:=aq ht;obtain⟨xe,fZ,jA,hsize,hby,hz⟩:=aq hi;have Af:=hr.tmps j3 _ hj3;simp only [VT] at Af;obtain⟨b,Af,SX⟩:=Af
 have hGi:G.i=[b]:=by
  have hl:G.i.length=1:=hr.boxes.len
  match hq:G.i,hl with
  | [b'],_=>rw [hq] at SX;simp at SX;rw [SX]
 obtain⟨cur,c1,c2,c4,c5,c6⟩:=hr.box (x:=.dm e cap (.aG tR) xs (.bn 0 ai tR last)) SX rfl;have ahY:b<w.heap.size:=(lF.1 c1).1;obtain⟨hd,hrow⟩:=hr.tC (j:=0) (g:=⟨ai,e2,tR.size E⟩) rfl
 have alr:VT E w G (.dat (.aG tR) last) (cur.getD xs.length undef):=by
  have h5:=c5;simp only [VT] at h5;exact .list h5.1
 have amT:Rel E w0 G0 (SS n m0 [] [⟨ai,e2,tR.size E⟩]) a w { G with i:=[] }:=by
  have h:=hr.weak H9 (t':=ov n m0) (by simp [SS,pX]) (fun j d hj=>by
   rcases rZ hj with h | h
   ·exact .inl h
   ·exact .inr (hmd _ h)) []
  exact h.agj H9 hm0
 have hpb:∀o,¬ G.pr b o:=fun o hp=>(hr.boxes.dH b o hp).2 (by rw [hGi];simp);refine wpList_step g0 (run_move h0 a w) ?_;refine wpList_step g1 (Kv h1 ht hi hs _ w) ?_;obtain⟨a2,th⟩:∃a2,((a.put o0.dst (a.eval (.tmp j3))).put o1.dst (.slice (some ⟨w.heap.size,0,none⟩) 1 1))=a2:=⟨_,rfl⟩;rw [th];have anS:a2.tmps.size=n:=by rw [←th,BG,BG];exact hsz
 have e54:a2.eval (.tmp BA)=.slice (some ⟨w.heap.size,0,none⟩) 1 1:=by rw [←th,d1];exact Z4 _ _ (by rw [BG,hsz];exact hn.2.1)
 have e53:a2.eval (.tmp Ag)=.slice (some ⟨b,0,none⟩) (xs.length+1) cap:=by
  rw [←th,d1,d0];show ((a.put (some Ag) (a.eval (.tmp j3))).put (some BA) _).tmps.getD Ag undef=_;rw [xF,if_neg (fun h=>hn.2.2.2 (gC h.1).symm),xF,if_pos ⟨rfl,by rw [hsz];exact hn.1⟩];exact Af
 obtain⟨W,hW⟩:∃W,w.alloc (.cells #[.slice none 0 0] e)=W:=⟨_,rfl⟩;rw [hW];have hbW:W.heap[b]? = some (.cells cur e (0,0)):=by rw [←hW,(cL.alloc w _).2 b ahY];exact c1
 have hcW:W.cell? ⟨w.heap.size,0,none⟩=some (.slice none 0 0):=by rw [←hW,cell_of_row _ w.heap.size 0 _ e (0,0) (heap_alloc_new w _)];rfl
 have hsrc:Src P xe.size t (.slice (some ⟨w.heap.size,0,none⟩) 1 1) 1 [.slice none 0 0] W:=Src.ofSlice W bw _ 1 1 _ (by rw [hsize,hs];rfl) (fun j u hj=>by
  match j,hj with
  | 0,hj=>simp at hj;subst hj;exact hcW
  | j+1,hj=>simp at hj) (fun u hu=>by simp at hu;subst hu;rfl)
 have rU:cur.toList.length=cap:=by rw [←c2];simp
 have key:∀(c':Nat) (W':World) (cur':Array Value) (b':Nat),(Builtin.append_ #[t,t] o2.type #[.slice (some ⟨b,0,none⟩) (xs.length+1) cap,.slice (some ⟨w.heap.size,0,none⟩) 1 1]).run P W=.ok (.slice (some ⟨b',0,none⟩) (xs.length+2) c') W' →
   (∃G',Rel E w0 G0 (SS n m0 [.dm e c' (.aG tR) (xs++[last]) (.bn 0 (ai+1) tR [])] [⟨ai+1,e2,tR.size E⟩]) a W' G'∧G'.i=[b']) →
   wpList P ops (bD E w0 G0 (fun x s=>x=.normal∧∃c',s=SS n (m0++[(j3,.cI 0 (xs.length+2) c')]) [.dm e c' (.aG tR) (xs++[last]) (.bn 0 (ai+1) tR [])] [⟨ai+1,e2,tR.size E⟩])) [o2,o3] a2 W:=by
  intro c' W' cur' b' hrun hG';obtain⟨G',hR,hi'⟩:=hG';refine wpList_step g2 (v:=.slice (some ⟨b',0,none⟩) (xs.length+2) c') (w':=W') ?_ ?_
  ·unfold execOp
   simp only [h2,resolve,hcl,Sem.run_bind,Sem.run_pure,Result.andThen_ok,invoke,builtin,ha,hat,p6,eV,ni];rw [e53,e54,hrun];rfl
  refine wpList_step g3 (run_assign h3 _ _) ?_;rw [d2,Z4 _ _ (by rw [anS];exact hn.2.2.1),d3,←th,d0,d1];have r1:=hR.put (v:=a.eval (.tmp j3)) (d:=.any) (by simp only [VT]) (some Ag);have r2:=r1.put (v:=.slice (some ⟨w.heap.size,0,none⟩) 1 1) (d:=.any) (by simp only [VT]) (some BA);have r3:=r2.put (v:=.slice (some ⟨b',0,none⟩) (xs.length+2) c') (d:=.any) (by simp only [VT]) (some Jy)
  have r4:=r3.put (v:=.slice (some ⟨b',0,none⟩) (xs.length+2) c') (d:=.cI 0 (xs.length+2) c') (by
   simp only [VT];exact⟨b',rfl,by rw [hi'];rfl⟩) (some j3)
  refine⟨.normal,_,_,trivial,r4.weak H9 (t':=ov n (m0++[(j3,.cI 0 (xs.length+2) c')])) (by simp [SS,br,pX]) (fun j d hj=>?_) [],rfl,c',rfl⟩;rcases rZ hj with h | h
  ·exact .inl h
  ·right
   have:=hsub c' _ h;rw [FE,FE,FE,FE] at this;exact this
 by_cases hroom:xs.length+1+1≤cap
 ·have PI:(xs.length+1) * xe.size+1≤cur.size:=by rw [hsize,hs,c2];omega
  have hr':=run_append_room_src (P:=P) W t t o2.type e xe bw fZ b 0 (xs.length+1) cap _ 1 _ hsrc hroom
   (fun j hj=>by
    have hj:j<1:=hj;rw [cell_of_row W b _ cur e (0,0) hbW];have:0+(xs.length+1) * xe.size+j<cur.size:=om;rw [OZ this];rfl)
   (fun j hj=>frozen_of_row W b _ cur e hbW)
  rw [fC,vq b e [.slice none 0 0] ((xs.length+1) * xe.size) cur W hbW (by simpa using PI)] at hr';obtain⟨new,hnew⟩:∃new,(cur.toList.take ((xs.length+1) * xe.size)++[(.slice none 0 0:Value)]++cur.toList.drop ((xs.length+1) * xe.size+[(.slice none 0 0:Value)].length)).toArray=new:=⟨_,rfl⟩;rw [hnew] at hr';refine key cap (W.setRow b new) new b hr' ?_
  have J2:∀q,q≤xs.length+1→new.getD q undef=if q=xs.length+1 then .slice none 0 0 else cur.getD q undef:=by
   intro q hq;rw [uo,uo,←hnew,XG,hsize,hs,zD];have MT:(cur.toList.take (xs.length+1)).length=xs.length+1:=by rw [gB,rU];omega
   by_cases h1:q=xs.length+1
   ·subst h1
    rw [if_pos rfl,iu,lG (by rw [MT];exact bM _),MT,Nat.sub_self];rfl
   ·rw [if_neg h1,iu,fU (by rw [MT];omega),XH om];simp
  have nK:new.size=cap:=by
   rw [←hnew,hsize,hs];simp only [Jm,eW,gB,xw,rU,jd,kg,zD];omega
  have hGr:=hr.grow (cL.alloc w (.cells #[.slice none 0 0] e)) rfl rfl rfl G.pr (fun _ _ h=>h) (fun _ _ _ h=>h) (fun b o hp=>eF (hr.boxes.dH b o hp).1 si);rw [hW] at hGr;have r1:=hGr.LR (x':=⟨ai+1,e2,tR.size E⟩) (hd':=.slice none 0 0) hrow (zF _) (rW _) (fun c h=>by cases h) (fun b hb=>nomatch hb) (fun _ _ _ _ _ _ _ hb=>nomatch hb)
  have r2:=r1.weak H9 (t':=ov n m0) (by simp [SS,pX]) (fun j d hj=>by
   rcases rZ hj with h | h
   ·exact .inl h
   ·exact .inr (hmd _ h)) []
  obtain⟨aoh,x1,x2,x4,x5,x6⟩:=r2.box (x:=.dm e cap (.aG tR) xs (.bn 0 ai tR last)) SX rfl;rw [hbW] at x1;cases x1;have J3:0<G.g.length:=(bS.1 hrow).1
  have r3:=r2.tA (w':=W.setRow b new) (r:=0) SX si rfl rfl rfl (fun b' hb'=>setRow_other W b b' _ hb') (x:=.dm e cap (.aG tR) (xs++[last]) (.bn 0 (ai+1) tR [])) (fun hg=>by
   refine⟨new,setRow_heap W b cur _ e _ hbW,nK,fun q x hx=>?_,?_,bx⟩
   ·have hq:q<xs.length+1:=by have:=(bS.1 hx).1;simpa using this
    rw [J2 q om,if_neg om];by_cases h1:q<xs.length
    ·rw [fU h1] at hx
     exact (x4 q x hx).mono hg
    ·obtain rfl:q=xs.length:=om
     simp at hx;subst hx;simp only [VT] at x5;exact (VT.list x5.1).mono hg
   ·simp only [eW,jd,kg,fC]
    rw [J2 _ (bM _),if_pos rfl];simp only [VT];exact⟨.oN _ _,⟨ai+1,e2,tR.size E⟩,.slice none 0 0,by simp [J3],bM _,fun _=>rfl⟩)
  exact⟨_,r3.weak H9 (t':=ov n m0) rfl (fun j d hj=>.inr hj) [],hGi⟩
 ·have hlt:cap<xs.length+1+1:=om
  have ai1:cap=xs.length+1:=om;have hfit:=growslice_fits (need:=xs.length+1+1) (old:=cap) (bytes:=xe.bytes) hlt (by rw [hby];exact hlen)
  have U7:(Builtin.firstCells xe.size (xs.length+1) (.slice (some ⟨b,0,none⟩) (xs.length+1) cap)).run P W.drew=.ok cur.toList.toArray W.drew :=
   run_firstCells_some W.drew xe.size (xs.length+1) ⟨b,0,none⟩ (xs.length+1) cap cur.toList (by rw [rU,hsize,hs,ai1,zD]) (fun j v hj=>by
    have e1:(W.drew).cell? (Addr.add ⟨b,0,none⟩ j)=W.cell? ⟨b,j,none⟩:=by rw [add_lit,fC];rfl
    rw [e1,cell_of_row W b j cur e (0,0) hbW];simpa using hj)
  have hr':=run_append_grow_src (P:=P) W t t o2.type e xe ie.zero bw fZ hz (some ⟨b,0,none⟩) (xs.length+1) cap cur.toList U7 _ 1 _ hsrc hlt om hfit;have aek:=grownCap_ge W (xs.length+1+1) cap e;generalize grownCap W (xs.length+1+1) cap e=cap' at hr' aek;obtain⟨cs,hcs⟩:∃cs,(cur.toList++[(.slice none 0 0:Value)]).toArray++Builtin.zeroCells ie.zero.cells (cap' - (xs.length+1+1))=cs:=⟨_,rfl⟩;rw [hcs] at hr';refine key cap' (W.drew.alloc (.cells cs e)) cs W.heap.size hr' ?_;have hcl:cs.toList=(cur.toList++[(.slice none 0 0:Value)])++(Builtin.zeroCells ie.zero.cells (cap' - (xs.length+1+1))).toList:=by rw [←hcs];simp
  have nK:cs.size=cap':=by
   rw [←hcs,XE,size_zeroCells,hzs,hs,Jm,eW,rU];simp only [jd,kg];omega
  have J2:∀q,q≤xs.length+1→cs.getD q undef=if q=xs.length+1 then .slice none 0 0 else cur.getD q undef:=by
   intro q hq;rw [uo,uo,←XS,hcl];by_cases h1:q=xs.length+1
   ·subst h1
    rw [if_pos rfl,iu,lG (by rw [rU];omega),rU,ai1,Nat.sub_self];rfl
   ·rw [if_neg h1,iu,fU (by rw [rU];omega)];simp
  have d1':=amT.grow (cL.alloc w (.cells #[.slice none 0 0] e)) rfl rfl rfl G.pr (fun _ _ h=>h) (fun _ _ _ h=>h) (fun b o hp=>eF (hr.boxes.dH b o hp).1 si);rw [hW] at d1';have d2':=d1'.LR (x':=⟨ai+1,e2,tR.size E⟩) (hd':=.slice none 0 0) hrow (zF _) (rW _) (fun c h=>by cases h) (fun b hb=>nomatch hb) (fun _ _ _ _ _ _ _ hb=>nomatch hb);have d3':=d2'.grow (w':=W.drew) ⟨bM _,fun _ _=>rfl⟩ rfl rfl rfl G.pr (fun _ _ h=>h) (fun _ _ _ h=>h) (fun b o hp=>(d2'.boxes.dH b o hp).1);have J3:0<G.g.length:=(bS.1 hrow).1
  have hsame:∀b o u,G.pr b o→w.cell? ⟨b,o,none⟩=some u→(W.drew.alloc (.cells cs e)).cell? ⟨b,o,none⟩=some u:=fun b o u hp hu=>by
   have q1:W.cell? ⟨b,o,none⟩=some u:=by rw [←hW];exact (cL.alloc w _).cell hu
   have q2:(W.drew).cell? ⟨b,o,none⟩=some u:=q1;exact (cL.alloc W.drew _).cell q2
  have d4':=d3'.Fm (.cells cs e) (.dm e cap' (.aG tR) (xs++[last]) (.bn 0 (ai+1) tR [])) (by
   refine⟨cs,heap_alloc_new _ _,nK,fun q x hx=>?_,?_,bx⟩
   ·have hq:q<xs.length+1:=by have:=(bS.1 hx).1;simpa using this
    rw [J2 q om,if_neg om];by_cases h1:q<xs.length
    ·rw [fU h1] at hx
     exact (c4 q x hx).ai0 (fun _ _ h=>h) hsame
    ·obtain rfl:q=xs.length:=om
     simp at hx;subst hx;exact alr.ai0 (fun _ _ h=>h) hsame
   ·simp only [eW,jd,kg,fC]
    rw [J2 _ (bM _),if_pos rfl];simp only [VT];exact⟨.oN _ _,⟨ai+1,e2,tR.size E⟩,.slice none 0 0,by simp [J3],bM _,fun _=>rfl⟩)
  exact⟨_,d4'.weak H9 (t':=ov n m0) rfl (fun j d hj=>.inr hj) [],rfl⟩
theorem ajd {n:Nat} {m:List (Nat × TV E)} {e e2:TypeId} {cap ai j k2:Nat} {tR:Ty} {xs:List (List (tR.den E.D))} {last:List (tR.den E.D)} (hr:Rel E w0 G0 (SS n m [.dm e cap (.aG tR) xs (.bn 0 ai tR last)] [⟨ai,e2,k2⟩]) a w G)
  (hi:G0.i=[]) (hg:G0.g=[]) (hj:(ov n m)[j]? = some (.cI 0 (xs.length+1) cap)) :
  ∃G',gU w0 G0 w G'∧iq E w G' [] []∧gD E w G' []∧VT E w G' (.dat (.aG (.aG tR)) (xs++[last])) (a.tmps.getD j undef):=by
 have hv:=hr.tmps j _ hj;simp only [VT] at hv;obtain⟨b,hv,hat⟩:=hv;obtain⟨cur,c1,c2,c4,c5,c6⟩:=hr.box (x:=.dm e cap (.aG tR) xs (.bn 0 ai tR last)) hat rfl;have ahY:b<w.heap.size:=(lF.1 c1).1;have ev:=hr.cK;have hnew:w0.heap.size≤b:=ev.lH 0 b (by rw [hi];exact bM _) hat;refine⟨⟨[],[],fun b' o=>G.pr b' o∨(b'=b∧o<xs.length+1)⟩,?_,?_,fun j c h=>(by cases h),?_⟩
 ·refine⟨ev.os,ev.tape,ev.output,ev.size,ev.old,⟨fun b o h=>.inl (ev.goes.pr b o h),ev.goes.cells,fun r b h=>(by rw [hi] at h;cases h),fun j x h hj=>(by rw [hg] at hj;cases hj)⟩,fun b' o hb hp=>?_,fun r b _ h=>(by cases h),fun j x h b hj=>(by cases hj)⟩
  rcases hp with hp | ⟨rfl,-⟩
  ·exact ev.jJ b' o hb hp
  ·omega
 ·refine⟨rfl,rfl,fun r b x h=>(by cases h),fun b h=>(by cases h),Bt,fun b' o hp=>⟨?_,fun h=>by cases h⟩,fun j x h hj=>(by cases hj),fun j j' x h x' h' b hj=>(by cases hj),fun b c h=>VD.mono (fun _ _ h=>.inl h) (fun _ _ _ _ h=>h) (hr.boxes.sU b c h)⟩
  rcases hp with hp | ⟨rfl,-⟩
  ·exact (hr.boxes.dH b' o hp).1
  ·exact ahY
 ·rw [hv]
  refine .list ?_;have hl:((xs++[last]).map (Ty.cells E (.aG tR))).length=xs.length+1:=by simp
  have rU:cur.toList.length=cap:=by rw [←c2];simp
  have hD:∀q,q<xs.length+1→VT E w G (.dat (.aG tR) ((xs++[last]).getD q [])) (cur.getD q undef):=by
   intro q hq;by_cases h1:q<xs.length
   ·have:=c4 q xs[q] (bK h1)
    rw [show (xs++[last]).getD q []=xs[q] by simp [List.getD,fU h1,h1]];exact this
   ·obtain rfl:q=xs.length:=om
    simp only [VT] at c5;rw [show (xs++[last]).getD xs.length []=last by simp [List.getD]];exact .list c5.1
  have:=JT (w:=w) (pr:=fun b' o=>G.pr b' o∨(b'=b∧o<xs.length+1)) (b:=b) (cap:=cap) (k:=1) (es:=(xs++[last]).map (Ty.cells E (.aG tR))) (xs:=cur.toList.take (xs.length+1)) (by rw [hl];omega)
   (fun q hq=>by
    rw [hl,zD] at hq;refine⟨.inr ⟨rfl,hq⟩,?_⟩;rw [cell_of_row w b q cur e (0,0) c1];have:q<cur.size:=om;simp [List.getD,hq,this])
   ⟨by rw [hl,gB,rU];omega,fun q hq=>by
    rw [hl] at hq;have:q<(xs++[last]).length:=by simpa using hq
    simp only [List.getD,kJ,bK this,uW,NA];rfl,fun q l hq hl'=>by
    rw [hl] at hq;obtain rfl:l=0:=om;have h2:q<(xs++[last]).length:=by simpa using hq
    have h3:=((hD q hq).atom rfl).oh
    have e1:(cur.toList.take (xs.length+1)).getD (q * 1+0) undef=cur.getD q undef:=by
     have:q<cur.size:=om;simp [List.getD,hq,this]
    have e2:((((xs++[last]).map (Ty.cells E (.aG tR))).getD q []).getD 0 default)=.slice (tR.size E) (((xs++[last]).getD q []).map (tR.cells E)):=by
     simp only [List.getD,kJ,bK h2,uW,NA];rfl
    rw [e1,e2];exact h3.mono (fun _ _ h=>.inl h) (fun _ _ _ _ h=>h)⟩
  rw [hl] at this;exact this
def opsOf:Code→Array Oper
 | .region _ ops _=>ops
 | _=>#[]
def als:Code→Nat
 | .region i _ _=>i
 | _=>0
theorem AW.akn {n:Nat} {t e:TypeId} (e2:TypeId) {j1 j2:Nat} {z:Value} {ie:TI} {j3 j6:Nat} (hc:c=.region (als c) (opsOf c) false)
  (mI:(opsOf c).toList.map (fun o=>(o.dst,o.op,o.guard))=[(some j6,.buildSlice t 1 #[(0,.const (.slice none 0 0))],none),(some j3,.assign (.tmp j6),none)]) (ht:aB P t=some ⟨.slice e,j1,j2,z⟩) (hi:aB P e=some ie) (hs:ie.size=1) (tR:Ty) {m m':List (Nat × TV E)} (hn:j6<n) (H9:G0.i=[])
  (hsub:∀p∈m',(ov n (m++[(j6,.any),(j3,.cI 0 1 1)]))[p.1]? = some p.2) :
  AW P w0 G0 c (SS n m [] []) (fun x s=>x=.normal∧s=SS n m' [.dm e 1 (.aG tR) [] (.bn 0 0 tR [])] [⟨0,e2,tR.size E⟩]):=by
 obtain⟨o0,l1,h0,f0,mI⟩:=Ls.1 mI;obtain⟨o1,l2,h1,f1,mI⟩:=Ls.1 mI;have h2:=List.map_eq_nil_iff.1 mI;subst h2 h1;simp only [Bu] at f0 f1;rw [hc];exact AW.amS h0 f0.2.1 f0.2.2 f0.1 f1.2.1 f1.2.2 f1.1 ht hi hs tR hn H9 hsub
theorem AW.agV (hE:E.Ok) {n:Nat} {t e e2:TypeId} {j1 j2:Nat} {z:Value} {ie:TI} {j3 Ag BA Jy:Nat} {cl:Call} (hc:c=.region (als c) (opsOf c) false)
  (mI:(opsOf c).toList.map (fun o=>(o.dst,o.op,o.guard))=[(some Ag,.move (.tmp j3),none),(some BA,.buildSlice t 1 #[(0,.const (.slice none 0 0))],none),(some Jy,.call cl,none),(some j3,.assign (.tmp Jy),none)])
  (hcl:cl.callee=.builtin .append) (ha:cl.args=#[.tmp Ag,.tmp BA]) (hat:cl.argTypes=#[t,t]) (ht:aB P t=some ⟨.slice e,j1,j2,z⟩) (hi:aB P e=some ie) (hs:ie.size=1) (hzs:ie.zero.cells.size=ie.size) (tR:Ty)
  {m0:List (Nat × TV E)} (hm0:ahX m0) (hn:Ag<n∧BA<n∧Jy<n∧Ag≠BA) (H9:G0.i=[]) {cap ai:Nat} {xs:List (List (tR.den E.D))} {last:List (tR.den E.D)}
  (hj3:(ov n (m0++[(j3,.cI 0 (xs.length+1) cap)]))[j3]? = some (.cI 0 (xs.length+1) cap)) (hlen:(xs.length+2) * ie.bytes≤140737488355328) (alq:xs.length+2≤9223372036854775807)
  (hsub:∀c':Nat,∀p∈m0++[(j3,.cI 0 (xs.length+2) c')],(ov n ((((m0++[(Ag,.any)])++[(BA,.any)])++[(Jy,.any)])++[(j3,.cI 0 (xs.length+2) c')]))[p.1]? = some p.2) (hmd:∀p∈m0,(ov n (m0++[(j3,.cI 0 (xs.length+1) cap)]))[p.1]? = some p.2) :
  AW P w0 G0 c (SS n (m0++[(j3,.cI 0 (xs.length+1) cap)]) [.dm e cap (.aG tR) xs (.bn 0 ai tR last)] [⟨ai,e2,tR.size E⟩])
   (fun x s=>x=.normal∧∃c',s=SS n (m0++[(j3,.cI 0 (xs.length+2) c')]) [.dm e c' (.aG tR) (xs++[last]) (.bn 0 (ai+1) tR [])] [⟨ai+1,e2,tR.size E⟩]):=by
 obtain⟨o0,l1,h0,f0,mI⟩:=Ls.1 mI;obtain⟨o1,l2,h1,f1,mI⟩:=Ls.1 mI;obtain⟨o2,l3,h2,f2,mI⟩:=Ls.1 mI;obtain⟨o3,l4,h3,f3,mI⟩:=Ls.1 mI;have h4:=List.map_eq_nil_iff.1 mI;subst h4 h3 h2 h1;simp only [Bu] at f0 f1 f2 f3;rw [hc];exact AW.ajK hE h0 f0.2.1 f0.2.2 f0.1 f1.2.1 f1.2.2 f1.1 f2.2.1 hcl ha hat f2.2.2 f2.1 f3.2.1 f3.2.2 f3.1 ht hi hs hzs tR hm0 hn H9 hj3 hlen alq hsub hmd
theorem AW.sub {n:Nat} {m m':List (Nat × TV E)} {H:List (cV E)} {g:List aZ} (hi:G0.i=[]) (hs:∀p∈m',(ov n m)[p.1]? = some p.2) (h:AW P w0 G0 c (SS n m' H g) Q):AW P w0 G0 c (SS n m H g) Q:=fun a w G hr =>
 h a w G (hr.weak hi (t':=ov n m') (by simp [SS,pX]) (fun j d hj=>by
  rcases rZ hj with h | h
  ·exact .inl h
  ·exact .inr (hs _ h)) [])
theorem Rel.anj {n:Nat} {m m':List (Nat × TV E)} {H:List (cV E)} {g:List aZ} (hi:G0.i=[]) (hs:∀p∈m',(ov n m)[p.1]? = some p.2) (h:Rel E w0 G0 (SS n m H g) a w G):Rel E w0 G0 (SS n m' H g) a w G :=
 h.weak hi (t':=ov n m') (by simp [SS,pX]) (fun j d hj=>by
  rcases rZ hj with h | h
  ·exact .inl h
  ·exact .inr (hs _ h)) []
def anT (m:List (Nat × TV E)):Prop:=∀p∈m,(∃t x,p.2=.dat t x)∨∃r n cap,p.2=.cI r n cap
theorem Rel.agT {n:Nat} {m:List (Nat × TV E)} {e:TypeId} {cap ai:Nat} {T tR:Ty} {xs:List (T.den E.D)} {last:List (tR.den E.D)} {g0:aZ} {gs:List aZ} (hr:Rel E w0 G0 (SS n m [.dm e cap T xs (.bn 0 ai tR last)] (g0::gs)) a w G) (hg:G0.g=[]) (hm:anT m) :
  Rel E w0 G0 (SS n m [.dm e cap T xs (.bn 0 ai tR last)] [g0]) a w { G with g:=G.g.take 1 }:=by
 have ev:=hr.cK
 have hsub:∀(j:Nat) y,(G.g.take 1)[j]? = some y→G.g[j]? = some y:=fun j y h=>by
  rw [qD] at h;split at h
  ·exact h
  ·cases h
 refine⟨⟨ev.os,ev.tape,ev.output,ev.size,ev.old,⟨ev.goes.pr,ev.goes.cells,ev.goes.i,fun j x h hj=>(by rw [hg] at hj;cases hj)⟩,ev.jJ,ev.lH,fun j x h b hj hb=>ev.cY j x h b (hsub j _ hj) hb⟩,hr.size,fun j d hj=>?_,hr.Z3,?_,hr.fix,hr.pins,fun j c h=>(by cases h)⟩
 ·have hv:=hr.tmps j d hj
  rcases rZ hj with rfl | h
  ·simp only [VT]
  ·rcases hm _ h with⟨t,x,e⟩ | ⟨r,n,cap,e⟩
   ·simp only at e
    subst e;exact hv.nM (fun _ _ h=>h)
   ·simp only at e
    subst e;simp only [VT] at hv ⊢;exact hv
 ·refine⟨hr.boxes.len,?_,fun r b x hb hx=>?_,hr.boxes.lt,hr.boxes.nodup,hr.boxes.dH,fun j x h hj=>?_,fun j j' x h x' h' b hj hj'=>hr.boxes.apart j j' x h x' h' b (hsub j _ hj) (hsub j' _ hj'),hr.boxes.sU⟩
  ·have:=hr.boxes.gs
   show (G.g.take 1).map (·.1)=[g0];rw [adl,this];rfl
  ·have h:=hr.boxes.box r b x hb hx
   cases r with
   | succ r=>simp [SS] at hx
   | zero =>
    simp [SS] at hx;subst hx;obtain⟨cur,c1,c2,c4,c5,c6⟩:=h;refine⟨cur,c1,c2,fun i x hx=>(c4 i x hx).nM (fun _ _ h=>h),?_,c6⟩;simp only [VT] at c5 ⊢;obtain⟨h1,x,h,h2,h3⟩:=c5;exact⟨h1,x,h,by rw [qD];simpa using h2,h3⟩
  ·obtain⟨n',xs',h1,h2,h3⟩:=hr.boxes.grow j x h (hsub j _ hj)
   exact⟨n',xs',h1,h2,h3⟩
end
end Go.RT
