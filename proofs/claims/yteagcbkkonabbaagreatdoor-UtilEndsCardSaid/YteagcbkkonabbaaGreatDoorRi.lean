import Derived.Test.YteagcbkkonabbaaGreatDoorRh
import Derived.Lib.LaidTab
import Derived.Shelf.Strconv.Itoa3
import Derived.OpenShut
import Derived.RowKit
import Derived.Sort.KeysCollected
import Derived.Sort.OwnSorted
import Derived.Lib.Join
import Derived.Lib.Split
import Derived.Lib.LastIndexByte
import Derived.Lib.IndexAny
import Derived.Lib.Repeat
set_option linter.all false
namespace Go.RT
set_option linter.unusedVariables false
variable {E : TEnv}
section
variable {X : Cx E}
theorem enters_of {P:Program} {f:FuncId} {fn:Func} {c:Code} (hf:P.funcs[f]? = some fn) (hb:fn.body=some c) (hn:(fn.name == "runtime.NumGoroutine")=false):∀args w,(callFunc f args).run P w=.ok (.enter f args) w:=fun args w=>by
 simp only [callFunc,Sem.run_bind,run_program,Result.andThen_ok,hf,hn,hb]
 simp
theorem goN {I:Inv}:∀C∈([]:List (Ctr E)),C.GOk I:=fun _ h=>nomatch h
theorem Rel.initL {w:World} {G:Ghost} {args:Array Value} {H:List (TBox E)} {g:List TGrow} {ds:List (TV E)} {cs:List (Nat × Cn E)} {n:Nat} (hP:Pins E w G) (hB:Boxes E w G H g) (hS:Softs E w G cs) (hV:VTs E w G ds args.toList) :
  Rel E w G ⟨padT n ds,H,g,[],[],cs⟩ { tmps:=args++Array.replicate (n - args.size) undef,defers:=[] } w G:=by
 have hl:args.size=ds.length:=by simpa using hV.length
 refine⟨Evol.refl w G,?_,fun j d hj=>?_,trivial,hB,fun _ _ _ _=>rfl,hP,hS⟩
 ·simp [padT,hl]
 ·have hj:(padT n ds)[j]? = some d:=hj
  unfold padT at hj
  by_cases hlt:j<ds.length
  ·rw [List.getElem?_append_left hlt] at hj
   obtain⟨u,hu,hv⟩:=hV.get j hj
   have:(args++Array.replicate (n - args.size) undef).getD j undef=u:=by
    have h1:j<args.size:=by omega
    have h2:args[j]=u:=by simpa [h1] using hu
    rw [Array.getD_eq_getD_getElem?,Array.getElem?_append_left h1,Array.getElem?_eq_getElem h1,h2]
    rfl
   rw [this]
   exact hv
  ·rw [List.getElem?_append_right (by omega)] at hj
   have:=List.mem_of_getElem? hj
   simp at this
   rw [this.2]
   simp only [VT]
end
end Go.RT
namespace Go.RT
set_option linter.unusedVariables false
variable {E : TEnv}
theorem Boxes.grown {w w':World} {G:Ghost} {H:List (TBox E)} {gs:List TGrow} {cs:List (Nat × Cn E)} (hP:Pins E w G) (hB:Boxes E w G H gs) (hS:Softs E w G cs) (hs:Same w w') (h1:w'.os=w.os) (h2:w'.tape=w.tape) (h3:w'.output=w.output) :
  Evol w G w' G∧Boxes E w' G H gs∧Softs E w' G cs∧∀(q b:Nat),G.i[q]? = some b→w'.heap[b]? = w.heap[b]?:=by
 have hr:=Rel.initL (n:=0) (ds:=[]) (args:=#[]) hP hB hS .nil
 have hr':=hr.grow (w':=w') hs h1 h2 h3 G.pr (fun _ _ h=>h) (fun _ _ _ h=>h) (fun b o hp=>Nat.lt_of_lt_of_le (hB.prok b o hp).1 hs.1)
 exact⟨hr'.evol,hr'.boxes,hr'.softs,fun q b hq=>hr'.fix q b hq (by simp)⟩
theorem entersOf {P:Program} {f:FuncId} {fn:Func} (hf:P.funcs[f]? = some fn) (hb:fn.body.isSome=true) (hn:(fn.name == "runtime.NumGoroutine")=false):∀args w,(callFunc f args).run P w=.ok (.enter f args) w:=by
 obtain⟨c,hc⟩:=Option.isSome_iff_exists.1 hb
 exact Go.RT.enters_of hf hc hn
def itoaF (F:Nat) (n:Int):Option (List UInt8):=rq (decide (-9223372036854775808≤n)&&decide (n≤9223372036854775807)) (some (Lib.itoa n))
def itoaS (f:FuncId):Shp:=⟨f,[.one (.dat (.int .i64))],[],[],⟨.one (.dat .str),[],[],[]⟩,none,[]⟩
def itoaC (E:TEnv) (f:FuncId) (F:Nat):Ctr E:=⟨itoaS f,fun (x:Int)=>itoaF F x⟩
theorem tabIs_of_pins {P:Program} {w:World} {G:Ghost} {name:String} {k:IntKind} {zs:List Int} {g:Nat} (hP:Pins E w G) (hg:P.globalNamed name=some g)
  (he:E.gb g=some (fun cs=>cs=(zs.map fun z=>Value.int k z).toArray)):Lib.TabIs P w name k zs:=by
 obtain⟨cs,t,m,this,rfl⟩:=(hP g _ he).1
 simp [Lib.TabIs,World.var?,hg,this]
theorem itoa_ok {P:Program} {f:FuncId} (he:∀args w,(callFunc f args).run P w=.ok (.enter f args) w) (hT:∀w G,Pins E w G→Lib.TabIs P w "internal/strconv.uint64pow10" .u64 Lib.pow10Tab)
  (hC:∀(n:Int),-9223372036854775808≤n→n≤9223372036854775807→∀(w:World),Lib.TabIs P w "internal/strconv.uint64pow10" .u64 Lib.pow10Tab →
   Calls P f #[.int .i64 n] w fun e w'=>e=.returned (.string ⟨(Lib.itoa n).toArray⟩)∧∃k os,w'=Go.Sort.grow (w.drewN k) os) (F:Nat):(itoaC E f F).Ok P:=by
 have key:∀(n:Int),-9223372036854775808≤n→n≤9223372036854775807→ACalls (E:=E) P f [.dat (.int .i64) n] [] [] [] ⟨true,.dat .str (Lib.itoa n),[],[],[],[]⟩:=by
  intro n h0 h1 w G args hP hB hS hv
  obtain⟨u,us,ha,hv1,hv2⟩:=hv.cons_inv
  have hv2:us=[]:=by simpa only [VTs] using hv2
  have e1:=hv1.int_inv
  subst e1 hv2
  have ha:args=#[.int .i64 n]:=by apply Array.ext';exact ha
  subst ha
  unfold Invokes
  rw [he]
  refine Calls.mono (hC n h0 h1 w (hT w G hP)) fun e w' hh=>?_
  obtain⟨rfl,k,os,rfl⟩:=hh
  have hs:Same w (Go.Sort.grow (w.drewN k) os):=⟨by simp [Go.Sort.grow,World.drewN],fun b hb=>by
   show (w.heap++os)[b]? = _
   rw [Array.getElem?_append_left hb]⟩
  obtain⟨q1,q2,q4,q3⟩:=hB.grown hP hS hs rfl rfl rfl
  exact⟨_,G,rfl,q1,q2,q4,.str _ _ _,fun q b hq _=>q3 q b hq⟩
 have key2:∀(n:Int) (y:List UInt8),itoaF F n=some y→ACalls (E:=E) P f [.dat (.int .i64) n] [] [] [] ⟨true,.dat .str y,[],[],[],[]⟩:=by
  intro n y hy
  obtain⟨h1,h2⟩:=rq_some hy
  rw [Bool.and_eq_true,decide_eq_true_eq,decide_eq_true_eq] at h1
  cases h2
  exact key n h1.1 h1.2
 intro x y hy
 exact key2 x y hy
end Go.RT
namespace Go.RT
set_option linter.unusedVariables false
section
variable {w : World} {pr : Nat → Nat → Prop}
theorem LD.getD:∀ {cs:List Value} {ds:List DV},LD w pr cs ds→∀ {l:Nat},l<ds.length→VD w pr (cs.getD l undef) (ds.getD l default)
 | [],[],_,l,h=>by simp at h
 | c::cs,d::ds,h,0,_=>h.1
 | c::cs,d::ds,h,l+1,hl=>by simpa using LD.getD h.2 (l:=l) (by simpa using hl)
 | [],_::_,h,_,_=>h.elim
 | _::_,[],h,_,_=>h.elim
theorem LD.fin {cs:List Value} {n:Nat} (h:cs.length=n):LD w pr (cs.drop n) []:=by
 rw [List.drop_eq_nil_of_le (by omega)];exact trivial
end
theorem getD_enc {α:Type} [Inhabited α] (enc:α→List DV) (l:List α) (n:Nat) (h:n<l.length):(l.map enc).getD n []=enc (l.getD n default):=by
 simp [List.getD,h]
theorem block_lt_of_cell {w:World} {a:Addr} {v:Value} (h:w.cell? a=some v):a.block<w.heap.size:=World.block_lt_of_cell? w a h
def wOk {H:Type} (P:Program) (t:TypeId) (d:DataW H):Prop:=∀n∈d.weights P t,n≤reachBytes
theorem wAll_mem {H:Type} {P:Program} {e:TypeId} {d:DataW H} {n:Nat} (hn:n∈d.weights P e):∀ {l:List (DataW H)},d∈l→n∈DataW.weightsAll P e l
 | x::l,h=>by
  unfold DataW.weightsAll
  rcases List.mem_cons.1 h with rfl | h
  ·exact List.mem_append_left _ hn
  ·exact List.mem_append_right _ (wAll_mem hn h)
theorem wEach_mem {H:Type} {P:Program} {t:TypeId} {d:DataW H} {n:Nat} (hn:n∈d.weights P t):∀ {ts:List TypeId} {ds:List (DataW H)} (j:Nat),ts[j]? = some t→ds[j]? = some d→n∈DataW.weightsEach P ts ds
 | t'::ts,d'::ds,0,h1,h2=>by
  obtain rfl:t'=t:=by simpa using h1
  obtain rfl:d'=d:=by simpa using h2
  unfold DataW.weightsEach
  exact List.mem_append_left _ hn
 | t'::ts,d'::ds,j+1,h1,h2=>by
  unfold DataW.weightsEach
  exact List.mem_append_right _ (wEach_mem hn j (by simpa using h1) (by simpa using h2))
 | [],_,j,h1,_=>by simp at h1
 | _::_,[],j,_,h2=>by simp at h2
theorem wAt {H:Type} {P:Program} {ts:List TypeId} {ds:List (DataW H)} (h:(DataW.weightsEach P ts ds).all (·≤reachBytes)=true) (j:Nat) {t:TypeId} {d:DataW H} (h1:ts[j]? = some t) (h2:ds[j]? = some d):wOk P t d :=
 fun n hn=>of_decide_eq_true (List.all_eq_true.1 h n (wEach_mem hn j h1 h2))
def OpensF {H:Type} (henc:TypeId × Value→H) (P:Program) (W:World) (fuel:Nat) (t:TypeId) {α:Type} (enc:α→List DV) (ok:α→Prop):Prop :=
 ∀cs d ps,DataW.trod henc P W 0 (fun _=>true) true fuel t cs=some (d,ps)→wOk P t d→∃x,ok x∧LD W (fun b _=>b<W.heap.size) cs (enc x)
section
variable {H : Type} {henc : TypeId × Value → H} {P : Program} {W : World}
theorem opens_int {t:TypeId} {k:IntKind} (ht:P.underlying t=some (.int k)) (fuel:Nat):OpensF henc P W fuel t (fun n:Int=>[.int k n]) (fun n=>(Lit.int k n).wf=true):=by
 intro cs d ps h _
 cases fuel with
 | zero=>cases h
 | succ n =>
  simp only [DataW.trod,ht] at h
  split at h<;>try (simp_all;done)
  rename_i k2 k' m h1
  cases h1
  split at h<;>try (cases h;done)
  rename_i hc
  obtain⟨rfl,hw⟩:=hc
  exact⟨m,hw,⟨.int _ _,trivial⟩⟩
theorem opens_string {t:TypeId} (ht:P.underlying t=some .string) (fuel:Nat):OpensF henc P W fuel t (fun l:List UInt8=>[.str l]) (fun l=>l.length≤140737488351232):=by
 intro cs d ps h hw
 cases fuel with
 | zero=>cases h
 | succ n =>
  simp only [DataW.trod,ht] at h
  split at h<;>try (simp_all;done)
  rename_i s h1
  split at h<;>try (cases h;done)
  rename_i hc
  cases h
  exact⟨s.data.toList,hw _ (by simp [DataW.weights]),⟨.str s.data.toList,trivial⟩⟩
theorem mapM_opt {α β:Type} {f:α→Option β}:∀ {l:List α} {r:List β},l.mapM f=some r→r.length=l.length∧∀(j:Nat) a,l[j]? = some a→∃b,r[j]? = some b∧f a=some b
 | [],r,h=>by simp at h;subst h;exact⟨rfl,fun j a hj=>by simp at hj⟩
 | x::l,r,h=>by
  simp only [List.mapM_cons,Option.bind_eq_bind,Option.pure_def] at h
  cases hx:f x with
  | none=>simp [hx] at h
  | some y =>
   cases hl:l.mapM f with
   | none=>simp [hx,hl] at h
   | some r' =>
    simp [hx,hl] at h
    subst h
    obtain⟨h1,h2⟩:=mapM_opt hl
    refine⟨by simp [h1],fun j a hj=>?_⟩
    cases j with
    | zero=>simp at hj;subst hj;exact⟨y,by simp,hx⟩
    | succ j=>simp at hj ⊢;exact h2 j a hj
theorem cells_some {w:World} {base:Nat} {a:Addr} {n:Nat} {cs:List Value} (h:w.cells? base a n=some cs):cs.length=n∧∀j,j<n→w.cell? (a.add j)=some (cs.getD j undef):=by
 unfold World.cells? at h
 split at h<;>try (cases h;done)
 obtain⟨h1,h2⟩:=mapM_opt h
 have hl:cs.length=n:=by simpa using h1
 refine⟨hl,fun j hj=>?_⟩
 obtain⟨b,hb,hc⟩:=h2 j j (by simp [hj])
 rw [hc]
 simp [List.getD,hb]
theorem opens_slice {t e:TypeId} {k fuel:Nat} {α:Type} [Inhabited α] {enc:α→List DV} {ok:α→Prop} (ht:P.underlying t=some (.slice e)) (hk:P.cellsOf e=k) (hkp:0<k) (hlen:∀x,(enc x).length=k) (he:OpensF henc P W fuel e enc ok) :
  OpensF henc P W (fuel+1) t (fun vs:List α=>[.slice k (vs.map enc)]) (fun vs=>vs.length≤maxLen∧∀x,x∈vs→ok x):=by
 intro cs d ps h hW
 simp only [DataW.trod,ht] at h
 split at h<;>try (simp_all;done)
 ·rename_i h1
  exact⟨[],⟨by simp,fun x hx=>by simp at hx⟩,⟨.nils _ _,trivial⟩⟩
 ·rename_i e' a len cap h1
  cases h1
  split at h<;>try (cases h;done)
  rename_i hc
  simp only [Option.bind_eq_some_iff,Option.map_eq_some_iff] at h
  obtain⟨elems,hel,rest,hrest,hd⟩:=h
  have hwe:(∀y∈elems,wOk P e y.1)∧∀y∈rest,wOk P e y.1:=by
   obtain⟨rfl,-⟩:=Prod.mk.inj hd
   have hW':∀n,n∈DataW.weightsAll P e (elems.map (·.1))∨n∈DataW.weightsAll P e (rest.map (·.1))→n≤reachBytes:=fun n hn=>hW n (by
    simp only [DataW.weights,ht]
    exact List.mem_cons_of_mem _ (List.mem_append.2 hn))
   exact⟨fun y hy n hn=>hW' n (.inl (wAll_mem hn (List.mem_map_of_mem hy))),fun y hy n hn=>hW' n (.inr (wAll_mem hn (List.mem_map_of_mem hy)))⟩
  obtain⟨hl,hg⟩:=mapM_opt hel
  have hlen':elems.length=len:=by simpa using hl
  have rd:∀j,(∃y:DataW H × List MemPlace,(W.cells? 0 (a.add (j * P.cellsOf e)) (P.cellsOf e)).bind (DataW.trod henc P W 0 (fun _=>true) true fuel e)=some y∧wOk P e y.1) →
    ∃x:α,ok x∧∃cs:List Value,cs.length=k∧(∀l,l<k→W.cell? ((a.add (j * k)).add l)=some (cs.getD l undef))∧LD W (fun b _=>b<W.heap.size) cs (enc x):=by
   rintro j ⟨y,hy,hyw⟩
   simp only [Option.bind_eq_some_iff] at hy
   obtain⟨cs,hcs,hy⟩:=hy
   obtain⟨x,hx,hv⟩:=he cs y.1 y.2 hy hyw
   rw [hk] at hcs
   obtain⟨q1,q2⟩:=cells_some hcs
   exact⟨x,hx,cs,q1,q2,hv⟩
  have key:∀j,j<len→∃x:α,ok x∧∃cs:List Value,cs.length=k∧(∀l,l<k→W.cell? ((a.add (j * k)).add l)=some (cs.getD l undef))∧LD W (fun b _=>b<W.heap.size) cs (enc x):=by
   intro j hj
   obtain⟨y,hm,hy⟩:=hg j j (by simp [hj])
   exact rd j ⟨y,hy,hwe.1 y (List.mem_of_getElem? hm)⟩
  by_cases hz:cap=0
  ·have hl0:len=0:=by omega
   subst hz;subst hl0
   exact⟨[],⟨by simp,fun x hx=>by simp at hx⟩,⟨.nils _ _,trivial⟩⟩
  have hspot:a.spot=none:=by
   have h0:∃x:α,ok x∧∃cs:List Value,cs.length=k∧(∀l,l<k→W.cell? ((a.add (0 * k)).add l)=some (cs.getD l undef))∧LD W (fun b _=>b<W.heap.size) cs (enc x):=by
    by_cases hl1:0<len
    ·exact key 0 hl1
    ·have hl0:len=0:=by omega
     subst hl0
     simp only [if_true] at hrest
     obtain⟨hl2,hg2⟩:=mapM_opt hrest
     obtain⟨y,hm,hy⟩:=hg2 0 0 (by rw [List.getElem?_range (by omega)])
     exact rd 0 ⟨y,by simpa using hy,hwe.2 y (List.mem_of_getElem? hm)⟩
   obtain⟨x,-,cs,-,hcell,-⟩:=h0
   have h1:=hcell 0 hkp
   simp only [Nat.zero_mul] at h1
   have e:(a.add 0).add 0=a:=by simp [Addr.add]
   rw [e] at h1
   unfold World.cell? at h1
   split at h1<;>try (cases h1;done)
   split at h1<;>try (cases h1;done)
   rename_i hn
   simpa using hn
  obtain⟨b,off,spot⟩:=a
  simp only at hspot
  subst hspot
  simp only [add_lit] at key
  have hch:∃vs:List α,vs.length=len∧∀j,j<len→ok (vs.getD j default)∧∃cs:List Value,cs.length=k∧(∀l,l<k→W.cell? ⟨b,off+j * k+l,none⟩=some (cs.getD l undef))∧LD W (fun b _=>b<W.heap.size) cs (enc (vs.getD j default)):=by
   clear hg hel hrest rd hlen' hl hc
   induction len with
   | zero=>exact⟨[],rfl,fun j hj=>by omega⟩
   | succ n ih =>
    obtain⟨vs,h1,h2⟩:=ih (fun j hj=>key j (by omega))
    obtain⟨x,hx⟩:=key n (by omega)
    refine⟨vs++[x],by simp [h1],fun j hj=>?_⟩
    by_cases hjn:j<n
    ·have:(vs++[x]).getD j default=vs.getD j default:=by simp [List.getD,List.getElem?_append_left (show j<vs.length by omega)]
     rw [this];exact h2 j hjn
    ·have hje:j=n:=by omega
     subst hje
     have:(vs++[x]).getD j default=x:=by simp [List.getD,←h1]
     rw [this];exact hx
  obtain⟨vs,hvl,hvs⟩:=hch
  refine⟨vs,⟨by rw [hvl];omega,fun x hx=>?_⟩,?_⟩
  ·obtain⟨j,hj,rfl⟩:=List.getElem_of_mem hx
   have:=(hvs j (by omega)).1
   simpa [List.getD,hj] using this
  ·refine⟨?_,trivial⟩
   have hml:(vs.map enc).length=len:=by simp [hvl]
   have hgd:∀j,j<len→(vs.map enc).getD j []=enc (vs.getD j default):=fun j hj=>getD_enc enc vs j (by omega)
   rw [←hml]
   refine .slice b off cap k _ (fun j l=>(W.cell? ⟨b,off+j * k+l,none⟩).getD undef) (by rw [hml];omega) (fun j hj=>?_) (fun j l hj hl=>?_) (fun j l hj hl=>?_)
   all_goals rw [hml] at hj
   ·rw [hgd j hj];exact hlen _
   ·obtain⟨-,cs,q1,q2,q3⟩:=hvs j hj
    have:=q2 l hl
    exact⟨block_lt_of_cell (a:=⟨b,off+j * k+l,none⟩) this,by rw [this];rfl⟩
   ·obtain⟨-,cs,q1,q2,q3⟩:=hvs j hj
    rw [q2 l hl,hgd j hj]
    exact LD.getD q3 (by rw [hlen];exact hl)
theorem Opens.arg {t:TypeId} {v:Value} {α:Type} {enc:α→List DV} {ok:α→Prop} (ho:∀fuel,OpensF henc P W fuel t enc ok) {d:DataW H} {ps:List MemPlace} (h:DataW.Trod henc P W 0 (fun _=>true) true t v d ps) (hw:wOk P t d) :
  ∃x,ok x∧LD W (fun b _=>b<W.heap.size) v.cells.toList (enc x):=by
 obtain⟨fuel,hf⟩:=h
 exact ho fuel _ _ _ hf hw
end
theorem tabOk_ints {E:TEnv} {W:World} {b:Nat} {k:IntKind} {zs:List Int} {t:TypeId} {m:Nat × Nat} (h:W.heap[b]? = some (.cells (zs.map fun z=>Value.int k z).toArray t m)) :
  TabOk E W (fun b _=>b<W.heap.size) b (.int k) zs:=by
 have hb:b<W.heap.size:=(Array.getElem?_eq_some_iff.1 h).1
 unfold TabOk
 have hl:(zs.map (Ty.cells E (.int k))).length=zs.length:=by simp
 rw [←hl]
 refine .slice b 0 _ _ _ (fun j _=>.int k (zs.getD j 0)) (Nat.le_refl _) (fun j hj=>?_) (fun j l hj hl'=>⟨hb,?_⟩) (fun j l hj hl'=>?_)
 all_goals rw [hl] at hj
 ·simp [List.getD,hj,Ty.cells,Ty.size]
 ·obtain rfl:l=0:=by simp [Ty.size] at hl';exact hl'
  simp [World.cell?,h,Ty.size,List.getD,hj]
 ·obtain rfl:l=0:=by simp [Ty.size] at hl';exact hl'
  simp only [List.getD,List.getElem?_map,List.getElem?_eq_getElem hj,Option.map_some,Option.getD_some,Ty.cells]
  exact .int _ _
theorem law_calls {E:TEnv} {P:Program} {f:FuncId} {ds:List (TV E)} {args:Array Value} {W:World} (h:ACalls P f ds [] [] [] ⟨true,.dat .bool true,[],[],[],[]⟩) (he:∀args w,(callFunc f args).run P w=.ok (.enter f args) w) (hgl:∀b c,E.gt b=some c→TabOk E W (fun b _=>b<W.heap.size) b c.1 c.2) (hpin:∀b p,E.gb b=some p→∃cs t m,W.heap[b]? = some (.cells cs t m)∧p cs)
  (hv:VTs E W ⟨[],[],fun b _=>b<W.heap.size⟩ ds args.toList):Calls P f args W fun e w'=>e=.returned (.bool true)∧RowKit.Below W.heap.size W w':=by
 have hf:∀b,¬ (⟨[],[],fun b _=>b<W.heap.size⟩:Ghost).foot b:=fun b hb=>by
  rcases hb with hb | ⟨x,y,hb,-⟩<;>cases hb
 have hI:=h W ⟨[],[],fun b _=>b<W.heap.size⟩ args (fun b cs hb=>⟨hpin b cs hb,hf b⟩)
  ⟨rfl,rfl,fun r b x hb=>(by simp at hb),fun b hb=>(by cases hb),List.nodup_nil,fun b o hp=>⟨hp,(by simp)⟩,fun j x y hj=>(by simp at hj),fun j j' x h x' h' b hj=>(by simp at hj),hgl⟩ (fun j c hm=>by cases hm) hv
 unfold Invokes at hI
 rw [he] at hI
 refine Calls.mono hI fun e w' hp=>?_
 obtain⟨v,G',rfl,hE,hR,-,hV,-⟩:=hp
 refine⟨?_,hE.os,hE.tape,hE.output,hE.size,fun k hk=>hE.old k hk (hf k)⟩
 have:=hV.bool_inv
 rw [this];rfl
end Go.RT
namespace Go.RT
set_option linter.unusedVariables false
open Go.MapKept Go.Maps Go.RowKit
open Go.WideElems (Fit rd rg pl)
open Go.Proofs (encStr)
variable {E : TEnv}
def insK (x:List UInt8):List (List UInt8)→List (List UInt8)
 | []=>[x]
 | y::l=>cond (decide (x≤y)) (x::y::l) (y::insK x l)
def sortK:List (List UInt8)→List (List UInt8)
 | []=>[]
 | x::l=>insK x (sortK l)
theorem insK_perm (x:List UInt8):∀l,(insK x l).Perm (x::l)
 | []=>.refl _
 | y::l=>by
  simp only [insK]
  cases decide (x≤y)
  ·exact ((insK_perm x l).cons y).trans (List.Perm.swap x y l)
  ·exact .refl _
theorem sortK_perm0:∀l,(sortK l).Perm l
 | []=>.refl _
 | x::l=>(insK_perm x (sortK l)).trans ((sortK_perm0 l).cons x)
theorem insK_asc (x:List UInt8):∀ {l:List (List UInt8)},l.Pairwise (fun a b=>decide (a≤b)=true)→(insK x l).Pairwise (fun a b=>decide (a≤b)=true)
 | [],_=>by simp [insK]
 | y::l,h=>by
  simp only [insK]
  cases hxy:decide (x≤y) with
  | true =>
   refine .cons (fun c hc=>?_) h
   rcases List.mem_cons.1 hc with rfl | hc
   ·exact hxy
   ·have h2:=List.rel_of_pairwise_cons h hc
    rw [decide_eq_true_eq] at h2 hxy ⊢
    exact List.le_trans hxy h2
  | false =>
   rw [decide_eq_false_iff_not] at hxy
   refine .cons (fun c hc=>?_) (insK_asc x h.of_cons)
   rcases List.mem_cons.1 ((insK_perm x l).mem_iff.1 hc) with rfl | hc
   ·rw [decide_eq_true_eq];exact (List.le_total y c).resolve_right hxy
   ·exact List.rel_of_pairwise_cons h hc
theorem sortK_asc0:∀l,(sortK l).Pairwise (fun a b=>decide (a≤b)=true)
 | []=>.nil
 | x::l=>insK_asc x (sortK_asc0 l)
theorem sortK_eq (l:List (List UInt8)):l.mergeSort (fun x y=>decide (x≤y))=sortK l :=
 (mergeSort_of_perm (sortK_perm0 l).symm).trans (List.mergeSort_of_pairwise (sortK_asc0 l))
end Go.RT
namespace Go.RT
set_option linter.unusedVariables false
open Go.RowKit
variable {E : TEnv}
theorem calls_plain {P:Program} {f:FuncId} {ds:List (TV E)} {d:TV E} (he:∀args w,(callFunc f args).run P w=.ok (.enter f args) w)
  (h:∀w G args,Pins E w G→VTs E w G ds args.toList→∃v,(∀w G,VT E w G d v)∧Calls P f args w fun e w'=>e=.returned v∧Below w.heap.size w w'):ACalls P f ds [] [] [] ⟨true,d,[],[],[],[]⟩:=by
 intro w G args hP hB hS hv
 obtain⟨v,hV,hC⟩:=h w G args hP hv
 unfold Invokes
 rw [he]
 refine Calls.mono hC fun e w' hh=>?_
 obtain⟨rfl,bel⟩:=hh
 obtain⟨q1,q2,q4,q3⟩:=hB.grown hP hS ⟨bel.size,fun k hk=>bel.block k hk⟩ bel.os bel.tape bel.output
 exact⟨v,G,rfl,q1,q2,q4,hV _ _,fun q b hq _=>q3 q b hq⟩
theorem VT.strs {w:World} {G:Ghost} {v:Value} {l:List (List UInt8)} (h:VT E w G (.dat (.lst .str) l) v) :
  (∃a,v=.slice a 0 0∧l=[])∨∃b off cap,v=.slice (some ⟨b,off,none⟩) l.length cap∧l.length≤cap∧∀(j:Nat) x,l[j]? = some x→w.cell? ⟨b,off+j,none⟩=some (mkStr x):=by
 obtain⟨cs,hf,hc⟩:=(h.atom rfl).of_single.flat (show 0<Ty.size E .str from Nat.one_pos)
 rcases hc with⟨a,he,hn⟩ | ⟨b,off,cap,he,hcap,hcells⟩
 ·exact .inl ⟨a,he,by simpa using hn⟩
 ·refine .inr ⟨b,off,cap,by simpa using he,by simpa using hcap,fun j x hx=>?_⟩
  have hj:j<l.length:=(List.getElem?_eq_some_iff.1 hx).1
  have h1:=(hcells j (by simpa [Ty.size] using hj)).2
  have h2:=hf.2.2 j 0 (by simpa using hj) (show 0<Ty.size E .str from Nat.one_pos)
  have hd:((l.map (Ty.cells E .str)).getD j []).getD 0 default=.str x:=by
   simp [List.getD,hx,Ty.cells]
  rw [hd] at h2
  rw [show Ty.size E .str=1 from rfl,Nat.mul_one,Nat.add_zero] at h2
  rw [h1,h2.str_inv]
def joinF (F:Nat) (l:List (List UInt8)) (sep:List UInt8):Option (List UInt8):=rq (decide (l.length≤140737488355328)&&decide ((Lib.join l sep).length≤140737488355328)) (some (Lib.join l sep))
def joinC (E:TEnv) (f:FuncId) (F:Nat):Ctr E:=⟨⟨f,[.one (.dat (.lst .str)),.one (.dat .str)],[],[],⟨.one (.dat .str),[],[],[]⟩,none,[]⟩,fun (x:List (List UInt8) × List UInt8)=>joinF F x.1 x.2⟩
structure JoinAt (P:Program) (f:FuncId):Prop where
 enters:∀args w,(callFunc f args).run P w=.ok (.enter f args) w
 some:∀(bk o c:Nat) (xs:List ByteArray) (sep:ByteArray) (w:World),(∀(j:Nat) x,xs[j]? = some x→w.cell? ⟨bk,o+j,none⟩=some (.string x))→bk<w.heap.size→xs.length≤140737488355328→xs.length≤c →
  (Lib.join (xs.map (·.data.toList)) sep.data.toList).length≤140737488355328 →
  Calls P f #[.slice (some ⟨bk,o,none⟩) xs.length c,.string sep] w fun e w'=>e=.returned (.string ⟨(Lib.join (xs.map (·.data.toList)) sep.data.toList).toArray⟩)∧Below w.heap.size w w'
 none:∀(a:Option Addr) (c:Nat) (sep:ByteArray) (w:World),Calls P f #[.slice a 0 c,.string sep] w fun e w'=>e=.returned (.string ⟨#[]⟩)∧w'=w
theorem join_ok {P:Program} {f:FuncId} (h:JoinAt P f) (F:Nat):(joinC E f F).Ok P:=by
 have key:∀(l:List (List UInt8)) (sep y:List UInt8),joinF F l sep=some y→ACalls (E:=E) P f [.dat (.lst .str) l,.dat .str sep] [] [] [] ⟨true,.dat .str y,[],[],[],[]⟩:=by
  intro l sep y hy
  obtain⟨h1,h2⟩:=rq_some hy
  rw [Bool.and_eq_true,decide_eq_true_eq,decide_eq_true_eq] at h1
  cases h2
  refine calls_plain h.enters fun w G args hP hv=>⟨_,fun w G=>.str w G (Lib.join l sep),?_⟩
  obtain⟨u,us,ha,hv1,hv2⟩:=hv.cons_inv
  obtain⟨u2,us2,ha2,hv3,hv4⟩:=hv2.cons_inv
  have hv4:us2=[]:=by simpa only [VTs] using hv4
  have e2:=hv3.str_inv
  subst e2 hv4 ha2
  have ha:args=#[u,mkStr sep]:=by apply Array.ext';exact ha
  subst ha
  have zero:∀a c,l=[]→u=.slice a 0 c→Calls P f #[u,mkStr sep] w fun e w'=>e=.returned (mkStr (Lib.join l sep))∧Below w.heap.size w w':=by
   intro a c hl hu
   subst hl hu
   exact (h.none a c ⟨⟨sep⟩⟩ w).mono fun e w' ⟨q1,q2⟩=>⟨by rw [q1];rfl,q2▸Below.refl _ _⟩
  rcases hv1.strs with⟨a,hu,hl⟩ | ⟨b,off,cap,hu,hcap,hc⟩
  ·exact zero a 0 hl hu
  ·rcases Nat.eq_zero_or_pos l.length with hl | hl
   ·rw [hl] at hu
    exact zero _ _ (List.eq_nil_of_length_eq_zero hl) hu
   ·have hx:(l.map fun s=>(⟨⟨s⟩⟩:ByteArray)).map (·.data.toList)=l:=by rw [List.map_map];exact List.map_id l
    have:=h.some b off cap (l.map fun s=>⟨⟨s⟩⟩) ⟨⟨sep⟩⟩ w (fun j x hjx=>by
     rw [List.getElem?_map] at hjx
     obtain⟨s,hs,rfl⟩:=Option.map_eq_some_iff.1 hjx
     exact hc j s hs) (by
     have h0:=hc 0 l[0] (List.getElem?_eq_getElem hl)
     exact World.block_lt_of_cell? w _ h0) (by simpa using h1.1) (by simpa using hcap) (by rw [hx];exact h1.2)
    rw [hx,List.length_map] at this
    rw [hu]
    exact this
 intro x y hy
 exact key x.1 x.2 y hy
structure RepAt (P:Program) (f:FuncId):Prop where
 enters:∀args w,(callFunc f args).run P w=.ok (.enter f args) w
 call:∀(s:ByteArray) (c:Nat) (w:World),c≤9223372036854775807→s.size * c≤140737488355328→Calls P f #[.string s,.int .i64 c] w fun e w'=>e=.returned (.string ⟨(Lib.repeatL s.data.toList c).toArray⟩)∧Below w.heap.size w w'
def libF (F:Nat) (s:List UInt8) (c:Int):Option Int:=rq (decide (s.length<4611686018427387904)) (some (Lib.lastIndexByte ⟨⟨s⟩⟩ c))
def libC (E:TEnv) (f:FuncId) (F:Nat):Ctr E:=⟨⟨f,[.one (.dat .str),.one (.dat (.int .u8))],[],[],⟨.one (.dat (.int .i64)),[],[],[]⟩,none,[]⟩,fun (x:List UInt8 × Int)=>libF F x.1 x.2⟩
structure LibAt (P:Program) (f:FuncId):Prop where
 enters:∀args w,(callFunc f args).run P w=.ok (.enter f args) w
 call:∀(s:ByteArray) (c:Int) (w:World),s.size<4611686018427387904→Calls P f #[.string s,.int .u8 c] w fun e w'=>e=.returned (.int .i64 (Lib.lastIndexByte s c))∧w'=w
theorem lib_ok {P:Program} {f:FuncId} (h:LibAt P f) (F:Nat):(libC E f F).Ok P:=by
 have key:∀(s:List UInt8) (n y:Int),libF F s n=some y→ACalls (E:=E) P f [.dat .str s,.dat (.int .u8) n] [] [] [] ⟨true,.dat (.int .i64) y,[],[],[],[]⟩:=by
  intro s n y hy
  obtain⟨h1,h2⟩:=rq_some hy
  rw [decide_eq_true_eq] at h1
  cases h2
  refine calls_plain h.enters fun w G args hP hv=>⟨_,fun w G=>.int w G .i64 (Lib.lastIndexByte ⟨⟨s⟩⟩ n),?_⟩
  obtain⟨u,us,ha,hv1,hv2⟩:=hv.cons_inv
  obtain⟨u2,us2,ha2,hv3,hv4⟩:=hv2.cons_inv
  have hv4:us2=[]:=by simpa only [VTs] using hv4
  have e1:=hv1.str_inv
  have e2:=hv3.int_inv
  subst e1 e2 hv4 ha2
  have ha:args=#[mkStr s,.int .u8 n]:=by apply Array.ext';exact ha
  subst ha
  exact (h.call ⟨⟨s⟩⟩ n w h1).mono fun e w' ⟨q1,q2⟩=>⟨q1,q2▸Below.refl _ _⟩
 intro x y hy
 exact key x.1 x.2 y hy
structure CaAt (P:Program) (f:FuncId):Prop where
 enters:∀args w,(callFunc f args).run P w=.ok (.enter f args) w
 call:∀(s cs:ByteArray) (w:World),s.size<4294967281→cs.size<4294967281→(∀(j:Nat) b,cs.data.toList[j]? = some b→b.toNat<128) →
  Calls P f #[.string s,.string cs] w fun e w'=>e=.returned (.bool (Lib.containsAny s.data.toList cs.data.toList))∧Below w.heap.size w w'
def splitF (F:Nat) (s sep:List UInt8):Option (List (List UInt8)):=rq (decide (s.length<4294967281)&&decide (1≤sep.length)) (some ((Lib.splitB ⟨⟨sep⟩⟩ 0 (Lib.countB ⟨⟨s⟩⟩ ⟨⟨sep⟩⟩) ⟨⟨s⟩⟩).map (·.data.toList)))
def splitC (E:TEnv) (f:FuncId) (e:TypeId) (F:Nat):Ctr E:=⟨⟨f,[.one (.dat .str),.one (.dat .str)],[],[],⟨.one (.gso 0),[],[some (e,1)],[(0,.str)]⟩,none,[]⟩,fun (x:List UInt8 × List UInt8)=>splitF F x.1 x.2⟩
structure SplitAt (E:TEnv) (P:Program) (f:FuncId) (e:TypeId):Prop where
 enters:∀args w,(callFunc f args).run P w=.ok (.enter f args) w
 call:∀(s sep:ByteArray) (w:World) (G:Ghost),Pins E w G→s.size<4294967281→1≤sep.size→Calls P f #[.string s,.string sep] w fun e' w' =>
   e'=.returned (.slice (some ⟨w.heap.size,0,none⟩) (Lib.countB s sep+1) (Lib.countB s sep+1))∧w'=w.alloc (.cells ((Lib.splitB sep 0 (Lib.countB s sep) s).map Value.string).toArray e)
 len:∀(s sep:ByteArray),1≤sep.size→(Lib.splitB sep 0 (Lib.countB s sep) s).length=Lib.countB s sep+1
 le:∀(s sep:ByteArray),1≤sep.size→Lib.countB s sep≤s.size
theorem strs_flat {w:World} {pr:Nat→Nat→Prop} (l:List ByteArray):Flat w pr 1 (l.map Value.string) ((l.map (·.data.toList)).map (Ty.cells E .str)):=by
 refine⟨by simp,fun j hj=>?_,fun j k hj hk=>?_⟩
 ·simp at hj
  simp [List.getD,hj,Ty.cells]
 ·simp at hj
  obtain rfl:k=0:=by omega
  have e1:(l.map Value.string).getD (j * 1+0) undef=.string l[j]:=by simp [List.getD,hj]
  have e2:(((l.map (·.data.toList)).map (Ty.cells E .str)).getD j []).getD 0 default=.str l[j].data.toList:=by simp [List.getD,hj,Ty.cells]
  rw [e1,e2]
  exact .str _
theorem split_ok {P:Program} {f:FuncId} {e:TypeId} (h:SplitAt E P f e) (F:Nat):(splitC E f e F).Ok P:=by
 have key:∀(s sep:List UInt8) (y:List (List UInt8)),splitF F s sep=some y→ACalls (E:=E) P f [.dat .str s,.dat .str sep] [] [] [] ⟨true,.gso 0 0,[],[⟨0,e,1⟩],[],[(0,⟨.str,y⟩)]⟩:=by
  intro s sep y hy
  obtain⟨h1,h2⟩:=rq_some hy
  rw [Bool.and_eq_true,decide_eq_true_eq,decide_eq_true_eq] at h1
  obtain⟨c1,c2⟩:=h1
  cases h2
  intro w G args hP hB hS hv
  obtain⟨u,us,ha,hv1,hv2⟩:=hv.cons_inv
  obtain⟨u2,us2,ha2,hv3,hv4⟩:=hv2.cons_inv
  have hv4:us2=[]:=by simpa only [VTs] using hv4
  have e1:=hv1.str_inv
  have e2:=hv3.str_inv
  subst e1 e2 hv4 ha2
  have ha:args=#[mkStr s,mkStr sep]:=by apply Array.ext';exact ha
  subst ha
  unfold Invokes
  rw [h.enters]
  have hlen:=h.len ⟨⟨s⟩⟩ ⟨⟨sep⟩⟩ c2
  have hle:=h.le ⟨⟨s⟩⟩ ⟨⟨sep⟩⟩ c2
  have hsz:(⟨⟨s⟩⟩:ByteArray).size=s.length:=rfl
  generalize hpl:Lib.splitB ⟨⟨sep⟩⟩ 0 (Lib.countB ⟨⟨s⟩⟩ ⟨⟨sep⟩⟩) ⟨⟨s⟩⟩=pl at hlen
  generalize hcn:Lib.countB ⟨⟨s⟩⟩ ⟨⟨sep⟩⟩=cn at hlen hle
  have hC:=h.call ⟨⟨s⟩⟩ ⟨⟨sep⟩⟩ w G hP c1 c2
  rw [hcn] at hC hpl
  rw [hpl] at hC
  refine Calls.mono hC fun e' w' hh=>?_
  obtain⟨rfl,rfl⟩:=hh
  have hr:=Rel.initL (n:=0) (ds:=[]) (args:=#[]) hP hB hS .nil
  let cur:=(pl.map Value.string).toArray
  have hcs:cur.size=(cn+1) * 1:=by simp [cur,hlen]
  have hG:=hr.grow (Same.alloc w (.cells cur e)) rfl rfl rfl G.pr (fun _ _ h=>h) (fun _ _ _ h=>h) (fun b o hp=>Nat.lt_of_lt_of_le (hr.boxes.prok b o hp).1 (by simp))
  have hnp:∀o,¬ G.pr w.heap.size o:=fun o hp=>absurd (hr.boxes.prok _ _ hp).1 (Nat.lt_irrefl _)
  have hheap:(w.alloc (.cells cur e)).heap[w.heap.size]? = some (.cells cur e):=heap_alloc_new w _
  have hmax:maxLen=9223372036854775807:=rfl
  have hown:(w.alloc (.cells cur e)).ownsRow 0 e 1 (.slice (some ⟨w.heap.size,0,none⟩) (cn+1) (cn+1)) (cn+1) (cur.toList.take ((cn+1) * 1)):=by
   refine⟨by simp [cur,hlen],.inr ⟨w.heap.size,cn+1,cur,rfl,Nat.zero_le _,hheap,Nat.le_refl _,?_,hcs,rfl⟩⟩
   rw [hmax];omega
  have hA:=hG.addGrow ⟨0,e,1⟩ (.slice (some ⟨w.heap.size,0,none⟩) (cn+1) (cn+1)) ⟨cn+1,_,hown,fun a q h=>by simp at h,fun b hb=>by
    cases hb
    exact⟨by simp,fun hm=>absurd (hr.boxes.lt _ hm) (Nat.lt_irrefl _),fun o _ hp=>hnp o hp⟩⟩ (fun b hb=>by cases hb;exact hr.evol.size) (fun j y z b hj hzb hb=>by
    cases hb
    obtain⟨n',xs',-,-,hb'⟩:=hr.boxes.grow j y z hj
    exact absurd (hb' _ hzb).1 (Nat.lt_irrefl _))
  have hg0:G.g=[]:=by
   have:=hB.gs
   simpa using this
  have hgj:(G.g++[((⟨0,e,1⟩:TGrow),Value.slice (some ⟨w.heap.size,0,none⟩) (cn+1) (cn+1))])[0]? = some (⟨0,e,1⟩,.slice (some ⟨w.heap.size,0,none⟩) (cn+1) (cn+1)):=by rw [hg0];rfl
  have hC2:=hA.addC (j:=0) (c:=⟨.str,pl.map (·.data.toList)⟩) ⟨⟨0,e,1⟩,_,hgj,rfl,Nat.one_pos,⟨_,by simpa [hlen] using hown,by
    have ht:cur.toList.take (cn+1)=pl.map Value.string:=by
     rw [List.take_of_length_le (by simp [cur,hlen])]
    rw [ht]
    exact strs_flat pl⟩,fun b hb o hp=>by cases hb;exact hnp o hp⟩
  refine⟨_,_,rfl,hC2.evol,hC2.boxes,hC2.softs,?_,fun q b hq _=>hC2.fix q b hq (by simp)⟩
  simp only [VT]
  exact⟨⟨0,e,1⟩,_,hgj,Nat.le_refl _,rfl,fun _=>rfl⟩
 intro x y hy
 exact key x.1 x.2 y hy
theorem Rel.rewSoft {w0 w w':World} {G0 G:Ghost} {st:TS E} {a:Act} (hr:Rel E w0 G0 st a w G) {j:Nat} {g:TGrow} {c:Cn E} (hg:st.g[j]? = some g) (hc:cGet st.c j=some c) {v:Value} (hj:G.g[j]? = some (g,v)) (hgb:w.grownBy w' v.ownBlock) {ys:List (c.1.den E.D)} {vals:List Value}
  (hown:w'.ownsRow 0 g.e g.k v ys.length vals) (hf:Flat w G.pr g.k vals (ys.map (c.1.cells E))) :
  Rel E w0 G0 { st with c:=(j,⟨c.1,ys⟩)::cDrop j st.c } a w' G:=by
 obtain⟨h,hj',hs,-⟩:=hr.soft hg hc
 rw [hj] at hj'
 cases hj'
 obtain⟨n0,xs0,ho0,hz0,hb0⟩:=hr.boxes.grow j g v hj
 have hnp:=hs.2.2.2
 have hcells:∀b o u,G.pr b o→w.cell? ⟨b,o,none⟩=some u→w'.cell? ⟨b,o,none⟩=some u:=fun b o u hp hu =>
  hgb.cell hu (fun e=>hnp b e.symm o hp)
 have hset:G.g.set j (g,v)=G.g:=set_self hj
 have key:=hr.setRow (x':=g) (hd':=v) (cs:=(j,⟨c.1,ys⟩)::cDrop j st.c) hj (Nat.le_refl _) (fun _=>rfl) hgb.size hgb.os hgb.tape hgb.output
  (fun b hb hne=>hgb.block b hb (fun e=>hne e.symm)) hcells G.pr (fun _ _ h=>h) (fun _ _ h=>.inl h)
  ⟨ys.length,vals,hown,hz0,fun b hb=>⟨(hown.lt b hb).2,(hb0 b hb).2.1,fun o _ hp=>hnp b hb o hp⟩⟩ (fun b hb=>.inr hb) (fun hg'=>?_)
 ·rw [hset,set_self hg] at key
  exact key
 ·intro i c' hm
  rcases List.mem_cons.1 hm with e | hm
  ·cases e
   exact⟨g,v,by rw [hset];exact hj,hs.1,hs.2.1,⟨vals,hown,hf.mono hg'.pr hg'.cells⟩,hnp⟩
  ·obtain⟨hm,hne⟩:=cDrop_mem hm
   obtain⟨x,hd,q1,q2⟩:=hr.softs i c' hm
   obtain⟨n1,xs1,-,-,hb1⟩:=hr.boxes.grow i x hd q1
   refine⟨x,hd,by rw [hset];exact q1,q2.keep rfl rfl hg'.pr hg'.cells fun b hb=>⟨hgb.block b (hb1 b hb).1 (fun e=>hne (hr.boxes.apart i j x hd g v b q1 hj hb e.symm)),fun o hp=>hp⟩⟩
theorem strs_flatL {w:World} {pr:Nat→Nat→Prop} (l:List (List UInt8)):Flat w pr 1 (l.map Go.Proofs.encStr) (l.map (Ty.cells E .str)):=by
 refine⟨by simp,fun j hj=>?_,fun j k hj hk=>?_⟩
 ·simp at hj
  simp [List.getD,hj,Ty.cells]
 ·simp at hj
  obtain rfl:k=0:=by omega
  have e1:(l.map Go.Proofs.encStr).getD (j * 1+0) undef=mkStr l[j]:=by simp [List.getD,hj];rfl
  have e2:((l.map (Ty.cells E .str)).getD j []).getD 0 default=.str l[j]:=by simp [List.getD,hj,Ty.cells]
  rw [e1,e2]
  exact .str _
theorem flat_strs {w:World} {pr:Nat→Nat→Prop} {xs:List Value} {l:List (List UInt8)} (h:Flat w pr 1 xs (l.map (Ty.cells E .str))):xs=l.map Go.Proofs.encStr:=by
 have hl:xs.length=l.length:=by simpa using h.1
 refine List.ext_getElem (by simpa using hl) fun j h1 h2=>?_
 have hj:j<l.length:=by omega
 have h3:=h.2.2 j 0 (by simpa using hj) Nat.one_pos
 have e2:((l.map (Ty.cells E .str)).getD j []).getD 0 default=.str l[j]:=by simp [List.getD,hj,Ty.cells]
 have e1:xs.getD (j * 1+0) undef=xs[j]:=by simp [List.getD,h1]
 rw [e1,e2] at h3
 rw [h3.str_inv,List.getElem_map]
 rfl
def sortF (F:Nat) (l:List (List UInt8)):Option (List (List UInt8)):=rq (decide (l.length<4611686018427387904)) (some (sortK l))
def sortC (E:TEnv) (f:FuncId) (e:TypeId) (F:Nat):Ctr E:=⟨⟨f,[.one (.gso 0)],[],[(e,1)],⟨.one .any,[],[none],[(0,.str)]⟩,none,[(0,.str)]⟩,fun (x:List (List UInt8))=>sortF F x⟩
structure SortAt (P:Program) (f:FuncId):Prop where
 enters:∀args w,(callFunc f args).run P w=.ok (.enter f args) w
 some:∀(blk cap:Nat) (ss:List (List UInt8)) (w:World),Sort.Holds Go.Proofs.encStr w blk 0 ss.toArray→blk<w.heap.size→ss.length<4611686018427387904→Calls P f #[.slice (some ⟨blk,0,none⟩) ss.length cap] w fun e w' =>
   e=.returned (.tuple #[])∧∃n os,w'=Sort.grow (Sort.putRow Go.Proofs.encStr (Sort.ahead w n) blk 0 (ss.mergeSort fun x y=>decide (x≤y)).toArray) os
 none:∀(p:Option Addr) (cap:Nat) (w:World),Calls P f #[.slice p 0 cap] w fun e w'=>e=.returned (.tuple #[])∧w'=w
theorem sort_ok {P:Program} {f:FuncId} {e:TypeId} (h:SortAt P f) (F:Nat):(sortC E f e F).Ok P:=by
 have key:∀(l y:List (List UInt8)),sortF F l=some y→ACalls (E:=E) P f [.gso 0 0] [] [⟨0,e,1⟩] [(0,⟨.str,l⟩)] ⟨true,.any,[],[⟨0,e,1⟩],[],[(0,⟨.str,y⟩)]⟩:=by
  intro l y hy
  obtain⟨h1,h2⟩:=rq_some hy
  rw [decide_eq_true_eq] at h1
  cases h2
  intro w G args hP hB hS hv
  obtain⟨u,us,ha,hv1,hv2⟩:=hv.cons_inv
  have hv2:us=[]:=by simpa only [VTs] using hv2
  subst hv2
  have ha:args=#[u]:=by apply Array.ext';exact ha
  subst ha
  unfold Invokes
  rw [h.enters]
  have hr:=Rel.initL (n:=0) (ds:=[]) (args:=#[]) hP hB hS .nil
  obtain⟨v,hj,hs,hval⟩:=hr.soft (j:=0) (g:=⟨0,e,1⟩) (c:=⟨.str,l⟩) rfl rfl
  have hve:=hval u hv1
  subst hve
  rcases hs.block with⟨q1,q2⟩ | ⟨b,cap,cur,q1,hheap,hcap,hcm,hcs,hfv,hnp⟩
  ·have q2:l=[]:=q2
   subst q2 q1
   refine (h.none none 0 w).mono fun e' w' hh=>?_
   obtain⟨rfl,rfl⟩:=hh
   exact⟨_,G,rfl,Evol.refl _ G,hB,hS,by simp only [VT],fun _ _ _ _=>rfl⟩
  ·subst q1
   have hft:=flat_strs hfv
   have hft:cur.toList.take l.length=l.map Go.Proofs.encStr:=by rw [Nat.mul_one] at hft;exact hft
   have hH:=Go.holds_of_block hheap hft
   refine (h.some b cap l w hH (Array.getElem?_eq_some_iff.1 hheap).1 h1).mono fun e' w' hh=>?_
   obtain⟨rfl,n,os,rfl⟩:=hh
   rw [sortK_eq]
   have hsl:(sortK l).length=l.length:=(sortK_perm0 l).length_eq
   have hown:=Go.ownsRow_sorted (n:=n) (os:=os) (base:=0) (ts:=sortK l) (ss:=l) hsl (Nat.zero_le _) hheap hcap hcm hcs
   have hR:=hr.rewSoft (j:=0) (g:=⟨0,e,1⟩) (c:=⟨.str,l⟩) rfl rfl hj (w':=Sort.grow (Sort.putRow Go.Proofs.encStr (Sort.ahead w n) b 0 (sortK l).toArray) os) (Go.grownBy_sorted _) (ys:=sortK l) (by rw [hsl];exact hown) (strs_flatL (sortK l))
   exact⟨_,G,rfl,hR.evol,hR.boxes,hR.softs,by simp only [VT],fun q b hq _=>hR.fix q b hq (by simp)⟩
 intro x y hy
 exact key x y hy
def cutF (F:Nat) (s sep:List UInt8):Option (List UInt8 × List UInt8 × Bool):=rq (decide (s.length<4294967281)) (some (Lib.cut s sep))
def cutC (E:TEnv) (f:FuncId) (F:Nat):Ctr E:=⟨⟨f,[.one (.dat .str),.one (.dat .str)],[],[],⟨.tup [.dat .str,.dat .str,.dat .bool],[],[],[]⟩,none,[]⟩,fun (x:List UInt8 × List UInt8)=>cutF F x.1 x.2⟩
structure CutAt (E:TEnv) (P:Program) (f:FuncId):Prop where
 enters:∀args w,(callFunc f args).run P w=.ok (.enter f args) w
 call:∀(s sep:ByteArray) (w:World) (G:Ghost),Pins E w G→s.size<4294967281→Calls P f #[.string s,.string sep] w fun e w' =>
  e=.returned (.tuple #[.string ⟨(Lib.cut s.data.toList sep.data.toList).1.toArray⟩,.string ⟨(Lib.cut s.data.toList sep.data.toList).2.1.toArray⟩,.bool (Lib.cut s.data.toList sep.data.toList).2.2])∧∃n,w'=w.drewN n
theorem cut_ok {P:Program} {f:FuncId} (h:CutAt E P f) (F:Nat):(cutC E f F).Ok P:=by
 have key:∀(s sep a b:List UInt8) (c:Bool),cutF F s sep=some (a,b,c)→ACalls (E:=E) P f [.dat .str s,.dat .str sep] [] [] [] ⟨true,.tuple [.dat .str a,.dat .str b,.dat .bool c],[],[],[],[]⟩:=by
  intro s sep a b c hy
  obtain⟨h1,h2⟩:=rq_some hy
  rw [decide_eq_true_eq] at h1
  have h2:Lib.cut s sep=(a,b,c):=Option.some.inj h2
  refine calls_plain h.enters fun w G args hP hv=>⟨.tuple #[mkStr a,mkStr b,.bool c],fun w G=>?_,?_⟩
  ·simp only [VT]
   exact⟨_,rfl,.cons (.str _ _ _) (.cons (.str _ _ _) (.cons (.bool _ _ _) .nil))⟩
  obtain⟨u,us,ha,hv1,hv2⟩:=hv.cons_inv
  obtain⟨u2,us2,ha2,hv3,hv4⟩:=hv2.cons_inv
  have hv4:us2=[]:=by simpa only [VTs] using hv4
  have e1:=hv1.str_inv
  have e2:=hv3.str_inv
  subst e1 e2 hv4 ha2
  have ha:args=#[mkStr s,mkStr sep]:=by apply Array.ext';exact ha
  subst ha
  have:=h.call ⟨⟨s⟩⟩ ⟨⟨sep⟩⟩ w G hP h1
  refine this.mono fun e' w' hh=>?_
  obtain⟨rfl,n,rfl⟩:=hh
  refine⟨?_,?_⟩
  ·show Ending.returned (.tuple #[.string ⟨(Lib.cut s sep).1.toArray⟩,.string ⟨(Lib.cut s sep).2.1.toArray⟩,.bool (Lib.cut s sep).2.2])=_
   rw [h2];rfl
  ·exact⟨rfl,rfl,rfl,Nat.le_refl _,fun _ _=>rfl⟩
 intro x y hy
 exact key x.1 x.2 y.1 y.2.1 y.2.2 hy
end Go.RT
