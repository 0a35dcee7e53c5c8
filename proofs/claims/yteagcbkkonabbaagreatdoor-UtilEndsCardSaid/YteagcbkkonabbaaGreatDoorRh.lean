import Derived.Test.YteagcbkkonabbaaGreatDoorRg
import Derived.Lib.Bytealg
import Derived.Recover
set_option linter.all false
namespace Go.RT
set_option linter.unusedVariables false
variable {E : TEnv}
def resOne (X:Cx E) (st:TS E):ResultVar→Option (TV E)
 | .tmp t=>some (st.at t)
 | .cell p t=>match tinfo X.P t,st.at p with
  | some i,.ptr r off=>match st.H[r]? with
   | some (.cells _ cs)=>partC E (X.ty t) cs i.isAgg i.size off
   | _=>none
  | _,_=>none
def resAll (X:Cx E) (st:TS E):List ResultVar→Option (List (TV E))
 | []=>some []
 | r::rs=>match resOne X st r,resAll X st rs with
  | some d,some ds=>some (d::ds)
  | _,_=>none
def packRes:List (TV E)→TV E
 | [d]=>d
 | ds=>.tuple ds
def loadRes (tmps:Array Value):ResultVar→Sem Value
 | .tmp t=>pure (tmps.getD t undef)
 | .cell a t=>do loadVar t (←asAddr (tmps.getD a undef))
theorem results_eq (fn:Func) (tmps:Array Value):results fn tmps=(do
  let vs ←fn.results.mapM (loadRes tmps)
  pure (if h:vs.size=1 then vs[0] else .tuple vs)):=by
 unfold results
 congr 2
def packV:List Value→Value
 | [v]=>v
 | vs=>.tuple vs.toArray
theorem packV_eq (vs:List Value):(if h:vs.toArray.size=1 then vs.toArray[0] else .tuple vs.toArray)=packV vs:=by
 match vs with
 | []=>rfl
 | [v]=>rfl
 | v::u::r=>simp [packV]
section
variable {X : Cx E} {w0 w : World} {G0 G : Ghost} {st : TS E} {a : Act}
theorem resOne_ok (hX:X.Ok) (hr:Rel E w0 G0 st a w G) {rv:ResultVar} {d:TV E} (h:resOne X st rv=some d):∃v,VT E w G d v∧(loadRes a.tmps rv).run X.P w=.ok v w:=by
 cases rv with
 | tmp t =>
  simp only [resOne] at h
  cases h
  exact⟨_,hr.at t,rfl⟩
 | cell p t =>
  simp only [resOne] at h
  split at h<;>try (cases h;done)
  rename_i i r off hi hd
  split at h<;>try (cases h;done)
  rename_i t' cs hb
  have hv:=hr.at p
  rw [hd] at hv
  simp only [VT] at hv
  obtain⟨b,he,hat⟩:=hv
  obtain⟨vs,hh,h1,h2⟩:=hr.box hat hb
  obtain⟨v,hv,hrun⟩:=run_load_row (P:=X.P) (b:=b) (o':=0) hi (fun l u hl=>by
   rw [cell_of_row w b (0+l) vs t' (0,0) hh]
   simpa using hl) (partC_sound hX.E h2 (fun u hu=>h1 u (by simpa using hu)) h)
  refine⟨v,hv,?_⟩
  have:=hrun w (Same.refl w)
  rw [Nat.zero_add] at this
  simp only [loadRes]
  rw [he]
  simpa [Instr.loadAt,Instr.sureAddr,asAddr] using this
theorem resAll_ok (hX:X.Ok) (hr:Rel E w0 G0 st a w G):∀ {rs:List ResultVar} {ds:List (TV E)},resAll X st rs=some ds→∃vs,VTs E w G ds vs∧(rs.mapM (loadRes a.tmps)).run X.P w=.ok vs w
 | [],ds,h=>by cases h;exact⟨[],.nil,rfl⟩
 | r::rs,ds,h=>by
  simp only [resAll] at h
  split at h<;>try (cases h;done)
  rename_i d ds' h1 h2
  cases h
  obtain⟨v,hv,hrun⟩:=resOne_ok hX hr h1
  obtain⟨vs,hvs,hruns⟩:=resAll_ok hX hr h2
  exact⟨v::vs,.cons hv hvs,by simp only [List.mapM_cons,Sem.run_bind,hrun,Result.andThen_ok,hruns,Sem.run_pure]⟩
theorem VT_packRes:∀ {ds:List (TV E)} {vs:List Value},VTs E w G ds vs→VT E w G (packRes ds) (packV vs)
 | [],vs,h=>by simp only [VTs] at h;subst h;simp only [packRes,packV,VT];exact⟨_,rfl,.nil⟩
 | [d],vs,h=>by
  obtain⟨u,us,rfl,h1,h2⟩:=h.cons_inv
  simp only [VTs] at h2
  subst h2
  exact h1
 | d1::d2::ds,vs,h=>by
  obtain⟨u,us,rfl,h1,h2⟩:=h.cons_inv
  obtain⟨u2,us2,rfl,h3,h4⟩:=h2.cons_inv
  simp only [packRes,packV,VT]
  exact⟨_,rfl,.cons h1 (.cons h3 h4)⟩
theorem results_ok (hX:X.Ok) (hr:Rel E w0 G0 st a w G) {fn:Func} {ds:List (TV E)} (h:resAll X st fn.results.toList=some ds):∃v,VT E w G (packRes ds) v∧(results fn a.tmps).run X.P w=.ok v w:=by
 obtain⟨vs,hv,hrun⟩:=resAll_ok hX hr h
 refine⟨packV vs,VT_packRes hv,?_⟩
 rw [results_eq,Array.mapM_eq_mapM_toList]
 simp only [Sem.run_bind,Sem.run_map,hrun,Result.andThen_ok,Sem.run_pure,packV_eq]
end
def Outs.cut (o:Outs):Cut:=⟨[],o.boxes,o.rows,o.soft⟩
def Outs.get (o:Outs) (st0 st:TS E) (d:TV E):Option (dens E o.tys) :=
 match hardP o.res d st with
 | (d,st)=>match o.res.get ⟨List.range o.boxes.length,List.range o.rows.length,st.g.map (·.ver)⟩ d,o.cut.leaves st0 st with
  | some a,some b=>getAll o.tys (a++b)
  | _,_=>none
def padT (n:Nat) (l:List (TV E)):List (TV E):=l++List.replicate (n - l.length) .any
def Shp.st0 (s:Shp) (n:Nat) (ls:List (Lf E)):TS E:=⟨padT n (s.ds ls),s.H ls,s.g0,[],[],s.c ls⟩
def endK (X:Cx E) (s:Shp) (fn:Func) (st0:TS E):(p:Option Outs)→Ex E→TS E→Option (OutP E s.out p)
 | none,.ret,st=>(resAll X st fn.results.toList).bind fun ds=>s.out.get st0 st (packRes ds)
 | none,.normal,st=>(resAll X st fn.results.toList).bind fun ds=>s.out.get st0 st (packRes ds)
 | some q,.ret,st=>goK ((resAll X st fn.results.toList).bind fun ds=>s.out.get st0 st (packRes ds))
 | some q,.normal,st=>goK ((resAll X st fn.results.toList).bind fun ds=>s.out.get st0 st (packRes ds))
 | some q,.panic d,st=>retK (q.get st0 st d)
 | _,_,_=>none
noncomputable def funT (X:Cx E) (F:Nat) (s:Shp) (fn:Func) (pl:Plan) (x:dens E s.tys):Option (OutP E s.out s.pan) :=
 match fn.body with
 | some c=>rq (noDef c) (runT X F c pl (s.st0 fn.ntmps (putAll s.tys x)) (endK X s fn (s.st0 fn.ntmps (putAll s.tys x)) s.pan))
 | none=>none
section
variable {X : Cx E}
theorem Rel.init {w:World} {G:Ghost} {args:Array Value} {s:Shp} {ls:List (Lf E)} {n:Nat} (hP:Pins E w G) (hB:Boxes E w G (s.H ls) s.g0) (hS:Softs E w G (s.c ls)) (hV:VTs E w G (s.ds ls) args.toList) :
  Rel E w G (s.st0 n ls) { tmps:=args++Array.replicate (n - args.size) undef,defers:=[] } w G:=by
 have hl:args.size=(s.ds ls).length:=by simpa using hV.length
 refine⟨Evol.refl w G,?_,fun j d hj=>?_,trivial,hB,fun _ _ _ _=>rfl,hP,hS⟩
 ·simp [Shp.st0,padT,hl]
 ·have hj:(padT n (s.ds ls))[j]? = some d:=hj
  unfold padT at hj
  by_cases hlt:j<(s.ds ls).length
  ·rw [List.getElem?_append_left hlt] at hj
   obtain⟨u,hu,hv⟩:=hV.get j hj
   have:(args++Array.replicate (n - args.size) undef).getD j undef=u:=by
    have h1:j<args.size:=by omega
    have h2:args[j]=u:=by simpa [h1] using hu
    rw [Array.getD_eq_getD_getElem?,Array.getElem?_append_left h1,Array.getElem?_eq_getElem h1,h2]
    rfl
   rw [this]
   exact hv
  ·rw [List.getElem?_append_right (by omega)] at hj
   have:=List.mem_of_getElem? hj
   simp at this
   rw [this.2]
   simp only [VT]
theorem Outs.get_ok (hE:E.Ok) {o:Outs} {ok:Bool} {w w':World} {G G':Ghost} {st0 st:TS E} {a:Act} {W:List Nat} {nd:Bool} {d:TV E} {v:Value} {y:dens E o.tys} (hp:Pre G st0) (hd0:st0.d=[]) (hdf:st.df=st0.df) (hr:Rel E w G st a w' G') (hF:Fr W nd st0 st) (hv:VT E w' G' d v) (h:o.get st0 st d=some y) :
  ∃G2,Evol w G w' G2∧Boxes E w' G2 (o.ares ok st0.H st0.g (putAll o.tys y)).H (o.ares ok st0.H st0.g (putAll o.tys y)).g∧Softs E w' G2 (o.ares ok st0.H st0.g (putAll o.tys y)).c∧VT E w' G2 (o.ares ok st0.H st0.g (putAll o.tys y)).d v ∧
   ∀(q b:Nat),G.i[q]? = some b→q∉(o.ares ok st0.H st0.g (putAll o.tys y)).D→w'.heap[b]? = w.heap[b]?:=by
 unfold Outs.get at h
 obtain⟨d1,st1,hh⟩:∃d1 st1,hardP o.res d st=(d1,st1):=⟨_,_,rfl⟩
 rw [hh] at h
 dsimp only at h
 split at h<;>try (cases h;done)
 rename_i la lb hla hlb
 obtain⟨o1,G1,hr1,-,hv1⟩:=hardP_ok o.res d hr
 have hv:=hv1 v hv
 rw [hh] at o1 hr1 hv
 have hr:=hr1
 have hF:Fr W nd st0 st1:=by
  obtain⟨c,rfl⟩:=o1
  exact⟨hF.len,hF.keep,hF.d,hF.hl,hF.df⟩
 have hdf:st1.df=st0.df:=by
  obtain⟨c,rfl⟩:=o1
  exact hdf
 obtain⟨D,hD,hH⟩:=hF.d
 obtain⟨G2,hR,hL⟩:=Rel.cut hE (W:=W) hp hr hF.len hF.keep hD hH hdf hlb
 have hput:=getAll_ok _ h
 obtain⟨e1,e2⟩:=PT.sound hE hL (rest:=lb) hla hv
 rw [hput]
 simp only [Outs.ares]
 have e3:(o.res.put (o.n1 st0.g) (la++lb)).2=lb:=e1
 refine⟨G2,hR.evol,?_,?_,e2,fun q b hq hd=>hR.fix q b hq ?_⟩
 ·rw [e3]
  exact hR.boxes
 ·rw [e3]
  exact hR.softs
 ·show q∉chg 0 o.boxes++st0.d
  rw [hd0,List.append_nil]
  exact hd
theorem invokes_of_calls {P:Program} {f:FuncId} {fn:Func} {c:Code} {args:Array Value} {w:World} {R:Ending→World→Prop} (hf:P.funcs[f]? = some fn) (hb:fn.body=some c) (hn:(fn.name == "runtime.NumGoroutine")=false) (h:Calls P f args w R):Invokes P f args w R:=by
 have:(callFunc f args).run P w=.ok (.enter f args) w:=by
  simp only [callFunc,Sem.run_bind,run_program,Result.andThen_ok,hf,hn,hb]
  simp
 unfold Invokes
 rw [this]
 exact h
theorem funT_sound (hX:X.Ok) {F:Nat} {s:Shp} {fn:Func} {pl:Plan} {x:dens E s.tys} {y:OutP E s.out s.pan} (hf:X.P.funcs[s.f]? = some fn) (hn:(fn.name == "runtime.NumGoroutine")=false) (h:funT X F s fn pl x=some y) :
  ACalls X.P s.f (s.ds (putAll s.tys x)) (s.H (putAll s.tys x)) s.g0 (s.c (putAll s.tys x)) (outP s (s.H (putAll s.tys x)) s.pan y):=by
 unfold funT at h
 split at h<;>try (cases h;done)
 rename_i c hb
 obtain⟨hnd,h⟩:=rq_some h
 intro w G args hP hB hS hV
 have hr0:=Rel.init (n:=fn.ntmps) hP hB hS hV
 have hpre:=hr0.pre
 refine invokes_of_calls hf hb hn (calls_of_wp hf hb (wp_mono ((runT_sound hX c pl h).wp hr0) fun e a' w' hp=>?_))
 obtain⟨ex,st,G',he,hr,hk,hF⟩:=hp
 have hdf:st.df=[]:=hF.df hnd
 have hdef:a'.defers=[]:=by
  have:=hr.defers
  rw [hdf] at this
  cases hd:a'.defers with
  | nil=>rfl
  | cons d ds=>rw [hd] at this;exact this.elim
 have okc:∀ {y:dens E s.out.tys},((resAll X st fn.results.toList).bind fun ds=>s.out.get (s.st0 fn.ntmps (putAll s.tys x)) st (packRes ds))=some y →
   ∃v,(results fn a'.tmps).run X.P w'=.ok v w'∧∃v1 G2,Ending.returned v=endOf (s.out.ares true (s.H (putAll s.tys x)) s.g0 (putAll s.out.tys y)).ok v1∧Evol w G w' G2 ∧
    Boxes E w' G2 (s.out.ares true (s.H (putAll s.tys x)) s.g0 (putAll s.out.tys y)).H (s.out.ares true (s.H (putAll s.tys x)) s.g0 (putAll s.out.tys y)).g∧Softs E w' G2 (s.out.ares true (s.H (putAll s.tys x)) s.g0 (putAll s.out.tys y)).c∧VT E w' G2 (s.out.ares true (s.H (putAll s.tys x)) s.g0 (putAll s.out.tys y)).d v1 ∧
    ∀(q b:Nat),G.i[q]? = some b→q∉(s.out.ares true (s.H (putAll s.tys x)) s.g0 (putAll s.out.tys y)).D→w'.heap[b]? = w.heap[b]?:=by
  intro y hy
  cases hds:resAll X st fn.results.toList with
  | none=>rw [hds] at hy;cases hy
  | some ds =>
   rw [hds] at hy
   dsimp only [Option.bind] at hy
   obtain⟨v,hv,hrun⟩:=results_ok hX hr hds
   obtain⟨G2,q1,q2,q3,q4,q5⟩:=Outs.get_ok hX.E (ok:=true) hpre rfl hdf hr hF hv hy
   exact⟨v,hrun,v,G2,rfl,q1,q2,q3,q4,q5⟩
 have fin:∀(p:Option Outs) (y:OutP E s.out p),endK X s fn (s.st0 fn.ntmps (putAll s.tys x)) p ex st=some y→bodyPost X.P fn (fun e w'=>∃v G',e=endOf (outP s (s.H (putAll s.tys x)) p y).ok v∧Evol w G w' G'∧Boxes E w' G' (outP s (s.H (putAll s.tys x)) p y).H (outP s (s.H (putAll s.tys x)) p y).g∧Softs E w' G' (outP s (s.H (putAll s.tys x)) p y).c ∧
   VT E w' G' (outP s (s.H (putAll s.tys x)) p y).d v∧∀(q b:Nat),G.i[q]? = some b→q∉(outP s (s.H (putAll s.tys x)) p y).D→w'.heap[b]? = w.heap[b]?) e a' w':=by
  intro p y hk
  cases p with
  | none =>
   cases ex<;>cases e<;>try (exact he.elim)
   ·obtain⟨v,hrun,h2⟩:=okc hk;exact⟨hdef,v,hrun,h2⟩
   ·cases hk
   ·cases hk
   ·obtain⟨v,hrun,h2⟩:=okc hk;exact⟨hdef,v,hrun,h2⟩
   ·cases hk
  | some q =>
   cases ex<;>cases e<;>try (exact he.elim)
   ·obtain⟨y',hy,rfl⟩:=goK_some hk;obtain⟨v,hrun,h2⟩:=okc hy;exact⟨hdef,v,hrun,h2⟩
   ·cases hk
   ·cases hk
   ·obtain⟨y',hy,rfl⟩:=goK_some hk;obtain⟨v,hrun,h2⟩:=okc hy;exact⟨hdef,v,hrun,h2⟩
   ·obtain⟨y',hy,rfl⟩:=retK_some hk
    obtain⟨v,rfl,hv⟩:=he
    obtain⟨G2,q1,q2,q3,q4,q5⟩:=Outs.get_ok hX.E (ok:=false) hpre rfl hdf hr hF hv hy
    exact⟨hdef,v,G2,rfl,q1,q2,q3,q4,q5⟩
 exact fin s.pan y hk
end
end Go.RT
namespace Go.RT
set_option linter.unusedVariables false
variable {E : TEnv}
end Go.RT
namespace Go.RT
set_option linter.unusedVariables false
variable {E : TEnv}
def InvI (P:Program):Inv:=fun f args w R=>Invokes P f args w R
theorem InvI.mono (P:Program):(InvI P).Mono:=fun f args w R R' h hi=>by
 unfold InvI Invokes at *
 split at hi
 ·exact Calls.mono hi h
 ·exact h _ _ hi
 ·exact hi.elim
end Go.RT
namespace Go.RT
set_option linter.unusedVariables false
variable {E : TEnv}
def w64 (n:Int):Int:=IntKind.wrap .i64 n
def sl {α:Type} (l:List α) (p q:Int):List α:=(l.take q.toNat).drop p.toNat
theorem Ctr.ok_of {X:Cx E} (hX:X.Ok) {C:Ctr E} {F:Nat} {fn:Func} {pl:Plan} (hf:X.P.funcs[C.s.f]? = some fn) (hn:(fn.name == "runtime.NumGoroutine")=false) (h:∀x,funT X F C.s fn pl x=C.m x):C.Ok X.P :=
 fun x y hy=>funT_sound hX hf hn (by rw [h x];exact hy)
theorem okN {P:Program}:∀C∈([]:List (Ctr E)),C.Ok P:=fun _ h=>nomatch h
theorem okC {P:Program} {C:Ctr E} {Γ:List (Ctr E)} (h:C.Ok P) (hs:∀C∈Γ,C.Ok P):∀C'∈C::Γ,C'.Ok P:=fun C' hC=>by
 rcases List.mem_cons.1 hC with rfl | hC
 ·exact h
 ·exact hs C' hC
end Go.RT
namespace Go.RT
set_option linter.unusedVariables false
variable {E : TEnv}
def ibF (F:Nat) (s:List UInt8) (c:Int):Option Int:=some (Lib.indexByte s c.toNat.toUInt8)
def ibS (f:FuncId):Shp:=⟨f,[.one (.dat .str),.one (.dat (.int .u8))],[],[],⟨.one (.dat (.int .i64)),[],[],[]⟩,none,[]⟩
def ibC (E:TEnv) (f:FuncId) (F:Nat):Ctr E:=⟨ibS f,fun (x:List UInt8 × Int)=>ibF F x.1 x.2⟩
theorem ib_ok {P:Program} {f:FuncId} (h:∀args w,(callFunc f args).run P w=((Extern.BytealgIndexByte.indexByte args).run P w).andThen fun v w'=>.ok (.value v) w') (F:Nat):(ibC E f F).Ok P:=by
 have key:∀(s:List UInt8) (c:Int),ACalls (E:=E) P f [.dat .str s,.dat (.int .u8) c] [] [] [] ⟨true,.dat (.int .i64) (Lib.indexByte s c.toNat.toUInt8),[],[],[],[]⟩:=by
  intro s c w G args hP hB hS hv
  obtain⟨u,us,he,h1,h2⟩:=hv.cons_inv
  obtain⟨u2,us2,he2,h3,h4⟩:=h2.cons_inv
  have h4:us2=[]:=by simpa only [VTs] using h4
  have e1:=h1.str_inv
  have e2:=h3.int_inv
  subst e1 e2 h4 he2
  have ha:args=#[mkStr s,.int .u8 c]:=by apply Array.ext';exact he
  subst ha
  have hrun:(callFunc f #[mkStr s,.int .u8 c]).run P w=.ok (.value (.int .i64 (Lib.indexByte s c.toNat.toUInt8))) w:=by
   rw [h,mkStr,Lib.run_indexByteString];rfl
  unfold Invokes
  rw [hrun]
  exact⟨.int .i64 (Lib.indexByte s c.toNat.toUInt8),G,rfl,Evol.refl w G,hB,hS,.int _ _ _ _,fun _ _ _ _=>rfl⟩
 intro x y hy
 obtain⟨s,c⟩:=x
 have hy:some (Lib.indexByte s (Int.toNat c).toUInt8)=some y:=hy
 cases hy
 exact key s c
def neF (F:Nat):Option Unit:=some ()
def neS (f:FuncId) (b:BT) (rows:List (TypeId × Nat)):Shp:=⟨f,[.one (.ptr 0 0)],[b],rows,⟨.one (.ptr 0 0),[none],rows.map fun _=>none,[]⟩,none,[]⟩
def neC (E:TEnv) (f:FuncId) (b:BT) (rows:List (TypeId × Nat)):Ctr E:=⟨neS f b rows,fun _=>some ()⟩
theorem newRows_none:∀(rows:List (TypeId × Nat)) (g:List TGrow),g.length=rows.length→newRows (rows.map fun _=>none) g=g
 | [],[],_=>rfl
 | _::rows,x::g,h=>by
  have:=newRows_none rows g (by simpa using h)
  simp only [List.map_cons,newRows,this]
theorem ne_ok {P:Program} {f:FuncId} {b:BT} {rows:List (TypeId × Nat)} (h:∀v w,(callFunc f #[v]).run P w=.ok (.value v) w):(neC E f b rows).Ok P:=by
 intro x y _
 intro w G args hP hB hS hv
 have hv:VTs E w G [.ptr 0 0] args.toList:=hv
 obtain⟨u,us,he,h1,h2⟩:=hv.cons_inv
 have h2:us=[]:=by simpa only [VTs] using h2
 subst h2
 have ha:args=#[u]:=by apply Array.ext';exact he
 subst ha
 show Invokes P f #[u] w _
 unfold Invokes
 rw [h]
 refine⟨u,G,rfl,Evol.refl w G,?_,hS,h1,fun _ _ _ _=>rfl⟩
 have e:newRows (rows.map fun _=>none) (neS f b rows).g0=(neS f b rows).g0:=newRows_none rows _ (by simp [Shp.g0,neS])
 show Boxes E w G _ (newRows (rows.map fun _=>none) (neS f b rows).g0)
 rw [e]
 exact hB
end Go.RT
namespace Go.RT
set_option linter.unusedVariables false
variable {E : TEnv}
section
variable {st : TS E}
def CallsO (P:Program):Inv:=fun f args w R=>(∀args w,(callFunc f args).run P w=.ok (.enter f args) w)∧∀u,CallsD P f args u w (fun e u' w'=>u'=u∧R e w')
def ModeOf (u:FrameMode) (v:Value):Prop:=(u=.returning∧v=.nilIface)∨u=.panicking [{ v:=v,recovered:=false }]
def CallsR (P:Program):Inv:=fun f vargs w R=>(∀args w,(callFunc f args).run P w=.ok (.enter f args) w) ∧
 ∀(v:Value) (args:Array Value) (u:FrameMode),vargs.toList=v::args.toList→ModeOf u v→CallsD P f args u w (fun e u' w'=>settle u'=.returning∧R e w')
theorem CallsO.mono (P:Program):(CallsO P).Mono:=fun f args w R R' h hi=>⟨hi.1,fun u=>(hi.2 u).mono fun e u' w' hh=>⟨hh.1,h _ _ hh.2⟩⟩
theorem CallsR.mono (P:Program):(CallsR P).Mono:=fun f args w R R' h hi=>⟨hi.1,fun v args u h1 h2=>(hi.2 v args u h1 h2).mono fun e u' w' hh=>⟨hh.1,h _ _ hh.2⟩⟩
structure Dx (E:TEnv) where
 o:List (Ctr E)
 r:List (Ctr E)
structure Dx.Ok (P:Program) (D:Dx E):Prop where
 o:∀C∈D.o,C.GOk (CallsO P)
 r:∀C∈D.r,C.GOk (CallsR P)
inductive ModeV:Option (TV E)→List Deferred→FrameMode→Prop
 | ret:ModeV none [] .returning
 | pan (d:TV E) (v:Value):ModeV (some d) [{ target:=.fn (.func 0) #[],args:=#[v] }] (.panicking [{ v:=v,recovered:=false }])
theorem DRel.len {w:World} {G:Ghost}:∀ {a:List Deferred} {x:List (FuncId × List (TV E))},DRel E w G a x→a.length=x.length
 | [],[],_=>rfl
 | _::a,_::x,h=>by simp [DRel.len h.2]
 | [],_::_,h=>h.elim
 | _::_,[],h=>h.elim
end
end Go.RT
