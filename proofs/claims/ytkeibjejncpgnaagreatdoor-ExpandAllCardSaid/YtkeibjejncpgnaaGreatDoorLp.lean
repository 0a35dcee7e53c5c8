import Derived.Test.YtkeibjejncpgnaaGreatDoorRk
import Derived.Test.YtkeibjejncpgnaaGreatDoorZ2
import Derived.Test.YtkeibjejncpgnaaGreatDoorRows
import Derived.Test.YtkeibjejncpgnaaGreatDoorCards
import Derived.Test.YtkeibjejncpgnaaGreatDoorTie
import Derived.WalkKit
import Derived.ProofKit
import Derived.OpenShut
import Derived.ShutString
import Derived.ChangeOld
import Derived.LaidLaws
import Derived.LaidHandle
import Derived.Lay
import Derived.Shelf.Vars
import Derived.HandedShaped
import Derived.Stop.LaidErr
import Derived.Stop.Joined
import Derived.JoinedOf
import Derived.SevenTiedAt
import Derived.Lib.LaidTab
set_option linter.all false
namespace Go.Proofs.YtkeibjejncpgnaaGreatDoor
open Go.ChangeShapes Go.WideShapes Go.ChangeAt Go.RowKit Go.RT
theorem own:ownKnob Tryz.prog.godebug=none:=by kernel_rfl
theorem laidOut:laidOutB Tryz.prog=true:=by kernel_rfl
abbrev uZ:List (String × DataW Unit):=[("math/bits.deBruijn32tab",Rows.laid_math_bits_deBruijn32tab),("math/bits.deBruijn64tab",Rows.laid_math_bits_deBruijn64tab),("internal/strconv.uint64pow10",Rows.laid_internal_strconv_uint64pow10),("unicode/utf8.acceptRanges",Rows.laid_unicode_utf8_acceptRanges),("unicode/utf8.first",Rows.laid_unicode_utf8_first)]
theorem abd:(uZ.filter fun x=>x.2.handleName?.isNone)=uZ:=by kernel_rfl
theorem VW {W:World} {g:Nat} {v:Value} (h:W.cell? ⟨g,0,none⟩=some v):∃cs t m,W.heap[g]? = some (.cells cs t m)∧cs[0]? = some v:=by
 unfold World.cell? at h;split at h
 ·rename_i cs t m hh
  exact⟨cs,t,m,hh,by simpa using h⟩
 ·cases h
theorem Yg {W:World} (h:laidMetH Tryz.prog uZ W) (hs:W.ShapedOpen Tryz.prog):∀b p,E.gb b=some p→∃cs t m,W.heap[b]? = some (.cells cs t m)∧p cs:=by
 have h':laidMet Tryz.prog uZ W:=h;intro b p hb;have hb:(cond (Nat.beq b 1) (some (fun cs:Array Value=>cs=(Lib.pow10Tab.map fun z=>Value.int .u64 z).toArray)) (cond (Nat.beq b 0) (some (fun cs:Array Value=>∃m,cs[0]? = some (Value.int .i64 m))) none))=some p:=hb;cases he:Nat.beq b 1<;>rw [he] at hb<;>simp only [cond_true,cond_false] at hb
 rotate_left
 ·cases hb
  have:=bt he;subst this
  have ht:Lib.TabIs Tryz.prog W "internal/strconv.uint64pow10" .u64 Lib.pow10Tab:=Lib.tabIs_of_head (rest:=_) (g:=1) (t:=418) (e:=282) (n:=20) kr kr Tryz.underlying418 Tryz.underlying282 kr kr h'.tail.tail
  unfold Lib.TabIs World.var? at ht
  rw [show Tryz.prog.globalNamed "internal/strconv.uint64pow10" = some 1 by kernel_rfl] at ht
  simp only [aE] at ht;split at ht
  ·rename_i cs' t m hh
   cases ht;exact⟨_,t,m,hh,rfl⟩
  ·cases ht
 cases UU:Nat.beq b 0<;>rw [UU] at hb<;>simp only [cond_true,cond_false] at hb
 ·cases hb
 cases hb;have:=bt UU;subst this;obtain⟨m,hm⟩:=cell_of_shapedOpen_int (g:=0) (t:=3) (k:=.i64) (zero:=#[.int .i64 0]) hs (of_decide_eq_true kr) kr rfl kr kr Tryz.underlying3;obtain⟨cs,t,m2,q1,q2⟩:=VW hm;exact⟨cs,t,m2,q1,m,q2⟩
theorem Yf {W:World} (h:laidMetH Tryz.prog uZ W):∀b c,E.gt b=some c→rM E W (fun b _=>b<W.heap.size) b c.1 c.2:=by
 have h':laidMet Tryz.prog uZ W:=h;intro b c hb;have hb:Egt b=some c:=hb;unfold Egt at hb;cases he:Nat.beq b 4<;>rw [he] at hb<;>simp only [cond_true,cond_false] at hb
 rotate_left
 ·cases hb
  have:=bt he;subst this
  have ht:Lib.TabIs Tryz.prog W "math/bits.deBruijn32tab" .u8 ako:=Lib.tabIs_of_head (rest:=_) (g:=4) (t:=430) (e:=5) (n:=32) kr kr Tryz.underlying430 Tryz.underlying5 kr kr h'
  unfold Lib.TabIs World.var? at ht
  rw [show Tryz.prog.globalNamed "math/bits.deBruijn32tab" = some 4 by kernel_rfl] at ht
  simp only [aE] at ht;split at ht
  ·rename_i cs' t m hh
   cases ht;exact Pb hh
  ·cases ht
 cases he:Nat.beq b 5<;>rw [he] at hb<;>simp only [cond_true,cond_false] at hb
 rotate_left
 ·cases hb
  have:=bt he;subst this
  have ht:Lib.TabIs Tryz.prog W "math/bits.deBruijn64tab" .u8 akp:=Lib.tabIs_of_head (rest:=_) (g:=5) (t:=431) (e:=5) (n:=64) kr kr Tryz.underlying431 Tryz.underlying5 kr kr h'.tail
  unfold Lib.TabIs World.var? at ht
  rw [show Tryz.prog.globalNamed "math/bits.deBruijn64tab" = some 5 by kernel_rfl] at ht
  simp only [aE] at ht;split at ht
  ·rename_i cs' t m hh
   cases ht;exact Pb hh
  ·cases ht
 cases hb
noncomputable def UR (os:Os):World:=World.laidAll Tryz.prog os uZ
set_option maxRecDepth 100000 in
theorem VV (os:Os) (args:Array Value):laidMetH Tryz.prog uZ ((UR os).forCall (fun _ _=>0) ⟨#[],args,[]⟩).memory :=
 laidMetH_of_parts (by rw [abd];exact laidMet_laidAll args kr kr) kr
theorem VU {H:Type} {enc:TypeId × Value→H} {a:Assume} {C:Checked} {os:Os} {f:FuncId} {fn:Func} {s:ChangeSpec} {conds:List PathCond} {apart fresh handsOn again:Bool} {X:World→Array Value→Prop}
  (hX:∀(w w':World) (args:Array Value),w.heap=w'.heap→X w args→X w' args)
  (own:ownKnob C.prog.godebug=none) (started:os.Started) (noInit:C.prog.inits.idxOf? f=none) (hfn:C.prog.funcs[f]? = some fn)
  (witness:∃(w:World) (tape:Tape) (i:Input),w.os=os∧(w.forCall tape i).Shaped C.prog∧i.vars=[]∧Input.okWide C.prog (w.forCall tape i) .any w.heap.size f i ∧
   ((s.pre enc C.prog fn conds apart (w.forCall tape i).memory i.args∧X (w.forCall tape i).memory i.args)∧sizedMet enc C.prog fn (OpenSpec.ofChange s) apart (w.forCall tape i).memory i.args)∧a.holds C.prog (lone (Frame.enter C.prog f i.args .normal) [] (w.forCall tape i)))
  (contract:∀(W:World) (base:Nat) (args:Array Value) (ds gs:List (DataW H)) (before:List MemPlace),
   (∀(j:Nat) t v,fn.params[j]? = some t→args[j]? = some v→Value.okWide C.prog W .any base t v) →
   DataW.Whole enc C.prog fn.params.toList s.vars apart W args.toList ds gs before →
   X W args→W.ShapedOpen C.prog→(DataW.weightsEach C.prog (fn.params.toList++(OpenSpec.ofChange s).bare.plain.varTypes C.prog) (ds++gs)).all (·≤reachBytes)=true →
   Calls C.prog f args W fun e W'=>∃v,e=.returned v∧s.post enc C.prog fn apart fresh handsOn again W args v W') :
  ReturnsInHanded a C os f .any (fun w args=>(s.pre enc C.prog fn conds apart w args∧X w args)∧sizedMet enc C.prog fn (OpenSpec.ofChange s) apart w args) (s.post enc C.prog fn apart fresh handsOn again):=by
 refine returnsInHanded_of_calls own started noInit witness ?_;intro w tape i _ hsh _ hok hpre _;obtain⟨_,_,_,fn',anm,_,_,_,_,hval⟩:=hok;have e:fn'=fn:=gC (anm.symm.trans hfn);subst e;obtain⟨⟨⟨ds,gs,before,hw,hc⟩,hx⟩,hz⟩:=hpre;have hw':=DataW.Whole.of_heap (w':=w.forCall tape i) (by rfl) hw;refine (contract (w.forCall tape i) w.heap.size i.args ds gs before hval hw' (hX _ _ _ (by rfl) hx) hsh (hz.weights hw)).mono fun e W' ⟨v,he,hp⟩=>?_;subst he;exact ChangeSpec.post_blind hp
theorem abe (x:bq):(pV x).length=5:=by cases x;simp [pV]
instance:Inhabited bq:=⟨cQ⟩
def Ym (v:bq):Prop:=v.fName.length≤140737488351232∧v.bN.length≤140737488351232∧True∧True∧True
theorem agZ {H:Type} {bV:TypeId × Value→H} {W:World} (fuel:Nat):cE bV Tryz.prog W fuel 60 pV Ym:=by
 cases fuel with
 | zero=>intro cs d ps h;cases h
 | succ fuel =>
  intro cs d ps h hw;obtain⟨hl,hf⟩:=b8 Tryz.underlying60 h hw;obtain⟨x0,k0,l0⟩:=bl 0 rfl (k:=1) kr (dR Tryz.underlying9 fuel) hf;obtain⟨x1,k1,l1⟩:=bl 1 rfl (k:=1) kr (dR Tryz.underlying9 fuel) hf;obtain⟨x2,k2,l2⟩:=bl 2 rfl (k:=1) kr (oG Tryz.underlying4 fuel) hf;obtain⟨x3,k3,l3⟩:=bl 3 rfl (k:=1) kr (oG Tryz.underlying4 fuel) hf;obtain⟨x4,k4,l4⟩:=bl 4 rfl (k:=1) kr (oG Tryz.underlying4 fuel) hf;refine⟨.mk x0 x1 x2 x3 x4,⟨k0,k1,k2,k3,k4⟩,?_⟩
  have e:pV (.mk x0 x1 x2 x3 x4)=((fun l:Bs=>[DV.str l]) x0)++(((fun l:Bs=>[DV.str l]) x1)++(((fun b:Bool=>[DV.bool b]) x2)++(((fun b:Bool=>[DV.bool b]) x3)++(((fun b:Bool=>[DV.bool b]) x4)++[])))):=by
   simp [pV]
  rw [e];exact (LD.cat (o:=0) l0 (LD.cat (o:=1) l1 (LD.cat (o:=2) l2 (LD.cat (o:=3) l3 (LD.cat (o:=4) l4 (LD.fin (show cs.length=5 from hl.trans kr)))))))
theorem amc {H:Type} {bV:TypeId × Value→H} {W:World} (fuel:Nat):cE bV Tryz.prog W fuel 22 (fun vs:List bq=>[DV.slice 5 (vs.map pV)]) (fun vs=>vs.length≤maxLen∧∀y,y∈vs→Ym y):=by
 cases fuel with
 | zero=>intro cs d ps h;cases h
 | succ fuel=>exact fh (k:=5) (enc:=pV) Tryz.underlying22 kr de (fun x=>abe x) (agZ fuel)
theorem aiG {H:Type} {bV:TypeId × Value→H} {W:World} (fuel:Nat):cE bV Tryz.prog W fuel 23 (fun vs:List Bs=>[DV.slice 1 (vs.map (fun l:Bs=>[DV.str l]))]) (fun vs=>vs.length≤maxLen∧∀y,y∈vs→y.length≤140737488351232):=by
 cases fuel with
 | zero=>intro cs d ps h;cases h
 | succ fuel=>exact fh (k:=1) (enc:=(fun l:Bs=>[DV.str l])) Tryz.underlying23 kr de (fun _=>rfl) (dR Tryz.underlying9 fuel)
instance:Inhabited TPart:=⟨dn⟩
inductive xA:TPart→Prop
 | mk (x0:Int) (x1:Bs) (x2:Int) (x3:Bool) (x4:List TPart) (h0:(Lit.int .i64 x0).wf=true) (h1:x1.length≤140737488351232) (h2:(Lit.int .i64 x2).wf=true) (h3:True) (h4:x4.length≤maxLen) (g4:∀y,y∈x4→xA y):xA (.mk x0 x1 x2 x3 x4)
theorem Jz (x:TPart):(fD x).length=5:=by cases x;simp [fD]
theorem afA {H:Type} {bV:TypeId × Value→H} {W:World} (fuel:Nat):cE bV Tryz.prog W fuel 41 fD xA:=by
 induction fuel using Nat.strongRecOn with
 | _ fuel ih =>
  have akq:∀f,f<fuel→cE bV Tryz.prog W f 39 (fun vs:List TPart=>[DV.slice 5 (vs.map fD)]) (fun vs=>vs.length≤maxLen∧∀y,y∈vs→xA y):=fun f hf=>by
   cases f with
   | zero=>intro cs d ps h;cases h
   | succ f=>exact fh (k:=5) (enc:=fD) Tryz.underlying39 kr de (fun x=>Jz x) (ih f om)
  cases fuel with
  | zero=>intro cs d ps h;cases h
  | succ fuel =>
   intro cs d ps h hw;obtain⟨hl,hf⟩:=b8 Tryz.underlying41 h hw;obtain⟨x0,k0,l0⟩:=bl 0 rfl (k:=1) kr (eP Tryz.underlying3 fuel) hf;obtain⟨x1,k1,l1⟩:=bl 1 rfl (k:=1) kr (dR Tryz.underlying9 fuel) hf;obtain⟨x2,k2,l2⟩:=bl 2 rfl (k:=1) kr (eP Tryz.underlying3 fuel) hf;obtain⟨x3,k3,l3⟩:=bl 3 rfl (k:=1) kr (oG Tryz.underlying4 fuel) hf;obtain⟨x4,k4,l4⟩:=bl 4 rfl (k:=1) kr (akq fuel om) hf;refine⟨.mk x0 x1 x2 x3 x4,.mk _ _ _ _ _ k0 k1 k2 k3 k4.1 k4.2,?_⟩
   have e:fD (.mk x0 x1 x2 x3 x4)=((fun n:Int=>[DV.int .i64 n]) x0)++(((fun l:Bs=>[DV.str l]) x1)++(((fun n:Int=>[DV.int .i64 n]) x2)++(((fun b:Bool=>[DV.bool b]) x3)++(((fun vs:List TPart=>[DV.slice 5 (vs.map fD)]) x4)++[])))):=by
    simp [fD,zL]
   rw [e];exact (LD.cat (o:=0) l0 (LD.cat (o:=1) l1 (LD.cat (o:=2) l2 (LD.cat (o:=3) l3 (LD.cat (o:=4) l4 (LD.fin (show cs.length=5 from hl.trans kr)))))))
theorem afB {H:Type} {bV:TypeId × Value→H} {W:World} (fuel:Nat):cE bV Tryz.prog W fuel 41 fD xA:=(afA fuel)
theorem amd {H:Type} {bV:TypeId × Value→H} {W:World} (fuel:Nat):cE bV Tryz.prog W fuel 39 (fun vs:List TPart=>[DV.slice 5 (vs.map fD)]) (fun vs=>vs.length≤maxLen∧∀y,y∈vs→xA y):=by
 cases fuel with
 | zero=>intro cs d ps h;cases h
 | succ fuel=>exact fh (k:=5) (enc:=fD) Tryz.underlying39 kr de (fun x=>Jz x) (afB fuel)
theorem BC (x:cD):(gO x).length=2:=by cases x;simp [gO]
instance:Inhabited cD:=⟨tn⟩
def Bl (v:cD):Prop:=(Lit.int .i64 v.fPos).wf=true∧(v.fParts.length≤maxLen∧∀y,y∈v.fParts→xA y)
theorem JA {H:Type} {bV:TypeId × Value→H} {W:World} (fuel:Nat):cE bV Tryz.prog W fuel 43 gO Bl:=by
 cases fuel with
 | zero=>intro cs d ps h;cases h
 | succ fuel =>
  intro cs d ps h hw;obtain⟨hl,hf⟩:=b8 Tryz.underlying43 h hw;obtain⟨x0,k0,l0⟩:=bl 0 rfl (k:=1) kr (eP Tryz.underlying3 fuel) hf;obtain⟨x1,k1,l1⟩:=bl 1 rfl (k:=1) kr (amd fuel) hf;refine⟨.mk x0 x1,⟨k0,k1⟩,?_⟩
  have e:gO (.mk x0 x1)=((fun n:Int=>[DV.int .i64 n]) x0)++(((fun vs:List TPart=>[DV.slice 5 (vs.map fD)]) x1)++[]):=by
   simp [gO]
  rw [e];exact (LD.cat (o:=0) l0 (LD.cat (o:=1) l1 (LD.fin (show cs.length=2 from hl.trans kr))))
theorem Sg (x:kI):(jq x).length=4:=by cases x;simp [jq,BC]
instance:Inhabited kI:=⟨Yn⟩
def JB (v:kI):Prop:=(Lit.int .i64 v.fPos).wf=true∧v.fName.length≤140737488351232∧Bl v.bN
theorem Yo {H:Type} {bV:TypeId × Value→H} {W:World} (fuel:Nat):cE bV Tryz.prog W fuel 220 jq JB:=by
 cases fuel with
 | zero=>intro cs d ps h;cases h
 | succ fuel =>
  intro cs d ps h hw;obtain⟨hl,hf⟩:=b8 Tryz.underlying220 h hw;obtain⟨x0,k0,l0⟩:=bl 0 rfl (k:=1) kr (eP Tryz.underlying3 fuel) hf;obtain⟨x1,k1,l1⟩:=bl 1 rfl (k:=1) kr (dR Tryz.underlying9 fuel) hf;obtain⟨x2,k2,l2⟩:=bl 2 rfl (k:=2) kr (JA fuel) hf;refine⟨.mk x0 x1 x2,⟨k0,k1,k2⟩,?_⟩
  have e:jq (.mk x0 x1 x2)=((fun n:Int=>[DV.int .i64 n]) x0)++(((fun l:Bs=>[DV.str l]) x1)++((gO x2)++[])):=by
   simp [jq]
  rw [e];exact (LD.cat (o:=0) l0 (LD.cat (o:=1) l1 (LD.cat (o:=2) l2 (LD.fin (show cs.length=4 from hl.trans kr)))))
theorem akr {H:Type} {bV:TypeId × Value→H} {W:World} (fuel:Nat):cE bV Tryz.prog W fuel 159 (fun vs:List kI=>[DV.slice 4 (vs.map jq)]) (fun vs=>vs.length≤maxLen∧∀y,y∈vs→JB y):=by
 cases fuel with
 | zero=>intro cs d ps h;cases h
 | succ fuel=>exact fh (k:=4) (enc:=jq) Tryz.underlying159 kr de (fun x=>Sg x) (Yo fuel)
theorem aiH {H:Type} {bV:TypeId × Value→H} {W:World} (fuel:Nat):cE bV Tryz.prog W fuel 35 (fun vs:List cD=>[DV.slice 2 (vs.map gO)]) (fun vs=>vs.length≤maxLen∧∀y,y∈vs→Bl y):=by
 cases fuel with
 | zero=>intro cs d ps h;cases h
 | succ fuel=>exact fh (k:=2) (enc:=gO) Tryz.underlying35 kr de (fun x=>BC x) (JA fuel)
theorem VX (x:nu):(kB x).length=5:=by cases x;simp [kB,BC]
instance:Inhabited nu:=⟨acB⟩
def NQ (v:nu):Prop:=(Lit.int .i64 v.fPos).wf=true∧(Lit.int .i64 v.fFd).wf=true∧(Lit.int .i64 v.fOp).wf=true∧Bl v.Sh
theorem abf {H:Type} {bV:TypeId × Value→H} {W:World} (fuel:Nat):cE bV Tryz.prog W fuel 225 kB NQ:=by
 cases fuel with
 | zero=>intro cs d ps h;cases h
 | succ fuel =>
  intro cs d ps h hw;obtain⟨hl,hf⟩:=b8 Tryz.underlying225 h hw;obtain⟨x0,k0,l0⟩:=bl 0 rfl (k:=1) kr (eP Tryz.underlying3 fuel) hf;obtain⟨x1,k1,l1⟩:=bl 1 rfl (k:=1) kr (eP Tryz.underlying3 fuel) hf;obtain⟨x2,k2,l2⟩:=bl 2 rfl (k:=1) kr (eP Tryz.underlying3 fuel) hf;obtain⟨x3,k3,l3⟩:=bl 3 rfl (k:=2) kr (JA fuel) hf;refine⟨.mk x0 x1 x2 x3,⟨k0,k1,k2,k3⟩,?_⟩
  have e:kB (.mk x0 x1 x2 x3)=((fun n:Int=>[DV.int .i64 n]) x0)++(((fun n:Int=>[DV.int .i64 n]) x1)++(((fun n:Int=>[DV.int .i64 n]) x2)++((gO x3)++[]))):=by
   simp [kB]
  rw [e];exact (LD.cat (o:=0) l0 (LD.cat (o:=1) l1 (LD.cat (o:=2) l2 (LD.cat (o:=3) l3 (LD.fin (show cs.length=5 from hl.trans kr))))))
theorem aks {H:Type} {bV:TypeId × Value→H} {W:World} (fuel:Nat):cE bV Tryz.prog W fuel 160 (fun vs:List nu=>[DV.slice 5 (vs.map kB)]) (fun vs=>vs.length≤maxLen∧∀y,y∈vs→NQ y):=by
 cases fuel with
 | zero=>intro cs d ps h;cases h
 | succ fuel=>exact fh (k:=5) (enc:=kB) Tryz.underlying160 kr de (fun x=>VX x) (abf fuel)
instance:Inhabited TNode:=⟨Yp⟩
instance:Inhabited TItem:=⟨afC⟩
mutual
inductive xB:TNode→Prop
 | mk (x0:Int) (x1:Int) (x2:Bs) (x3:Bool) (x4:List kI) (x5:List cD) (x6:List nu) (x7:List TNode) (x8:List TItem) (h0:(Lit.int .i64 x0).wf=true) (h1:(Lit.int .i64 x1).wf=true) (h2:x2.length≤140737488351232) (h3:True) (h4:(x4.length≤maxLen∧∀y,y∈x4→JB y)) (h5:(x5.length≤maxLen∧∀y,y∈x5→Bl y)) (h6:(x6.length≤maxLen∧∀y,y∈x6→NQ y)) (h7:x7.length≤maxLen) (g7:∀y,y∈x7→xB y) (h8:x8.length≤maxLen) (g8:∀y,y∈x8→Lu y):xB (.mk x0 x1 x2 x3 x4 x5 x6 x7 x8)
inductive Lu:TItem→Prop
 | mk (x0:List cD) (x1:List TNode) (h0:(x0.length≤maxLen∧∀y,y∈x0→Bl y)) (h1:x1.length≤maxLen) (g1:∀y,y∈x1→xB y):Lu (.mk x0 x1)
end
theorem JC (x:TNode):(gr x).length=9:=by cases x;simp [gr]
theorem Yq (x:TItem):(jf x).length=2:=by cases x;simp [jf]
theorem adO {H:Type} {bV:TypeId × Value→H} {W:World} (fuel:Nat):cE bV Tryz.prog W fuel 164 gr xB∧cE bV Tryz.prog W fuel 229 jf Lu:=by
 induction fuel using Nat.strongRecOn with
 | _ fuel ih =>
  have acC:∀f,f<fuel→cE bV Tryz.prog W f 161 (fun vs:List TNode=>[DV.slice 9 (vs.map gr)]) (fun vs=>vs.length≤maxLen∧∀y,y∈vs→xB y):=fun f hf=>by
   cases f with
   | zero=>intro cs d ps h;cases h
   | succ f=>exact fh (k:=9) (enc:=gr) Tryz.underlying161 kr de (fun x=>JC x) (ih f om).1
  have aje:∀f,f<fuel→cE bV Tryz.prog W f 162 (fun vs:List TItem=>[DV.slice 2 (vs.map jf)]) (fun vs=>vs.length≤maxLen∧∀y,y∈vs→Lu y):=fun f hf=>by
   cases f with
   | zero=>intro cs d ps h;cases h
   | succ f=>exact fh (k:=2) (enc:=jf) Tryz.underlying162 kr de (fun x=>Yq x) (ih f om).2
  refine⟨?_,?_⟩
  ·cases fuel with
   | zero=>intro cs d ps h;cases h
   | succ fuel =>
    intro cs d ps h hw;obtain⟨hl,hf⟩:=b8 Tryz.underlying164 h hw;obtain⟨x0,k0,l0⟩:=bl 0 rfl (k:=1) kr (eP Tryz.underlying3 fuel) hf;obtain⟨x1,k1,l1⟩:=bl 1 rfl (k:=1) kr (eP Tryz.underlying3 fuel) hf;obtain⟨x2,k2,l2⟩:=bl 2 rfl (k:=1) kr (dR Tryz.underlying9 fuel) hf;obtain⟨x3,k3,l3⟩:=bl 3 rfl (k:=1) kr (oG Tryz.underlying4 fuel) hf;obtain⟨x4,k4,l4⟩:=bl 4 rfl (k:=1) kr (akr fuel) hf;obtain⟨x5,k5,l5⟩:=bl 5 rfl (k:=1) kr (aiH fuel) hf;obtain⟨x6,k6,l6⟩:=bl 6 rfl (k:=1) kr (aks fuel) hf;obtain⟨x7,k7,l7⟩:=bl 7 rfl (k:=1) kr (acC fuel om) hf;obtain⟨x8,k8,l8⟩:=bl 8 rfl (k:=1) kr (aje fuel om) hf;refine⟨.mk x0 x1 x2 x3 x4 x5 x6 x7 x8,.mk _ _ _ _ _ _ _ _ _ k0 k1 k2 k3 k4 k5 k6 k7.1 k7.2 k8.1 k8.2,?_⟩
    have e:gr (.mk x0 x1 x2 x3 x4 x5 x6 x7 x8)=((fun n:Int=>[DV.int .i64 n]) x0)++(((fun n:Int=>[DV.int .i64 n]) x1)++(((fun l:Bs=>[DV.str l]) x2)++(((fun b:Bool=>[DV.bool b]) x3)++(((fun vs:List kI=>[DV.slice 4 (vs.map jq)]) x4)++(((fun vs:List cD=>[DV.slice 2 (vs.map gO)]) x5)++(((fun vs:List nu=>[DV.slice 5 (vs.map kB)]) x6)++(((fun vs:List TNode=>[DV.slice 9 (vs.map gr)]) x7)++(((fun vs:List TItem=>[DV.slice 2 (vs.map jf)]) x8)++[])))))))):=by
     simp [gr,pH,pI]
    rw [e];exact (LD.cat (o:=0) l0 (LD.cat (o:=1) l1 (LD.cat (o:=2) l2 (LD.cat (o:=3) l3 (LD.cat (o:=4) l4 (LD.cat (o:=5) l5 (LD.cat (o:=6) l6 (LD.cat (o:=7) l7 (LD.cat (o:=8) l8 (LD.fin (show cs.length=9 from hl.trans kr)))))))))))
  ·cases fuel with
   | zero=>intro cs d ps h;cases h
   | succ fuel =>
    intro cs d ps h hw;obtain⟨hl,hf⟩:=b8 Tryz.underlying229 h hw;obtain⟨x0,k0,l0⟩:=bl 0 rfl (k:=1) kr (aiH fuel) hf;obtain⟨x1,k1,l1⟩:=bl 1 rfl (k:=1) kr (acC fuel om) hf;refine⟨.mk x0 x1,.mk _ _ k0 k1.1 k1.2,?_⟩
    have e:jf (.mk x0 x1)=((fun vs:List cD=>[DV.slice 2 (vs.map gO)]) x0)++(((fun vs:List TNode=>[DV.slice 9 (vs.map gr)]) x1)++[]):=by
     simp [jf,pH,pI]
    rw [e];exact (LD.cat (o:=0) l0 (LD.cat (o:=1) l1 (LD.fin (show cs.length=2 from hl.trans kr))))
theorem adP {H:Type} {bV:TypeId × Value→H} {W:World} (fuel:Nat):cE bV Tryz.prog W fuel 164 gr xB:=(adO fuel).1
theorem Yr (x:oH):(mC x).length=10:=by cases x;simp [mC,JC]
instance:Inhabited oH:=⟨afD⟩
def Si (v:oH):Prop:=v.fName.length≤140737488351232∧xB v.fBody
theorem adQ {H:Type} {bV:TypeId × Value→H} {W:World} (fuel:Nat):cE bV Tryz.prog W fuel 166 mC Si:=by
 cases fuel with
 | zero=>intro cs d ps h;cases h
 | succ fuel =>
  intro cs d ps h hw;obtain⟨hl,hf⟩:=b8 Tryz.underlying166 h hw;obtain⟨x0,k0,l0⟩:=bl 0 rfl (k:=1) kr (dR Tryz.underlying9 fuel) hf;obtain⟨x1,k1,l1⟩:=bl 1 rfl (k:=9) kr (adP fuel) hf;refine⟨.mk x0 x1,⟨k0,k1⟩,?_⟩
  have e:mC (.mk x0 x1)=((fun l:Bs=>[DV.str l]) x0)++((gr x1)++[]):=by
   simp [mC]
  rw [e];exact (LD.cat (o:=0) l0 (LD.cat (o:=1) l1 (LD.fin (show cs.length=10 from hl.trans kr))))
theorem ame {H:Type} {bV:TypeId × Value→H} {W:World} (fuel:Nat):cE bV Tryz.prog W fuel 24 (fun vs:List oH=>[DV.slice 10 (vs.map mC)]) (fun vs=>vs.length≤maxLen∧∀y,y∈vs→Si y):=by
 cases fuel with
 | zero=>intro cs d ps h;cases h
 | succ fuel=>exact fh (k:=10) (enc:=mC) Tryz.underlying24 kr de (fun x=>Yr x) (adQ fuel)
theorem VY (x:aO):(kC x).length=2:=by cases x;simp [kC]
instance:Inhabited aO:=⟨eX⟩
def NR (v:aO):Prop:=v.fName.length≤140737488351232∧v.bN.length≤140737488351232
theorem abg {H:Type} {bV:TypeId × Value→H} {W:World} (fuel:Nat):cE bV Tryz.prog W fuel 154 kC NR:=by
 cases fuel with
 | zero=>intro cs d ps h;cases h
 | succ fuel =>
  intro cs d ps h hw;obtain⟨hl,hf⟩:=b8 Tryz.underlying154 h hw;obtain⟨x0,k0,l0⟩:=bl 0 rfl (k:=1) kr (dR Tryz.underlying9 fuel) hf;obtain⟨x1,k1,l1⟩:=bl 1 rfl (k:=1) kr (dR Tryz.underlying9 fuel) hf;refine⟨.mk x0 x1,⟨k0,k1⟩,?_⟩
  have e:kC (.mk x0 x1)=((fun l:Bs=>[DV.str l]) x0)++(((fun l:Bs=>[DV.str l]) x1)++[]):=by
   simp [kC]
  rw [e];exact (LD.cat (o:=0) l0 (LD.cat (o:=1) l1 (LD.fin (show cs.length=2 from hl.trans kr))))
theorem amf {H:Type} {bV:TypeId × Value→H} {W:World} (fuel:Nat):cE bV Tryz.prog W fuel 25 (fun vs:List aO=>[DV.slice 2 (vs.map kC)]) (fun vs=>vs.length≤maxLen∧∀y,y∈vs→NR y):=by
 cases fuel with
 | zero=>intro cs d ps h;cases h
 | succ fuel=>exact fh (k:=2) (enc:=kC) Tryz.underlying25 kr de (fun x=>VY x) (abg fuel)
theorem Ys (x:rN):(mD x).length=2:=by cases x;simp [mD]
instance:Inhabited rN:=⟨afE⟩
def Sj (v:rN):Prop:=(Lit.int .i64 v.ag0).wf=true∧v.Sk.length≤140737488351232
theorem adR {H:Type} {bV:TypeId × Value→H} {W:World} (fuel:Nat):cE bV Tryz.prog W fuel 157 mD Sj:=by
 cases fuel with
 | zero=>intro cs d ps h;cases h
 | succ fuel =>
  intro cs d ps h hw;obtain⟨hl,hf⟩:=b8 Tryz.underlying157 h hw;obtain⟨x0,k0,l0⟩:=bl 0 rfl (k:=1) kr (eP Tryz.underlying3 fuel) hf;obtain⟨x1,k1,l1⟩:=bl 1 rfl (k:=1) kr (dR Tryz.underlying9 fuel) hf;refine⟨.mk x0 x1,⟨k0,k1⟩,?_⟩
  have e:mD (.mk x0 x1)=((fun n:Int=>[DV.int .i64 n]) x0)++(((fun l:Bs=>[DV.str l]) x1)++[]):=by
   simp [mD]
  rw [e];exact (LD.cat (o:=0) l0 (LD.cat (o:=1) l1 (LD.fin (show cs.length=2 from hl.trans kr))))
theorem amg {H:Type} {bV:TypeId × Value→H} {W:World} (fuel:Nat):cE bV Tryz.prog W fuel 26 (fun vs:List rN=>[DV.slice 2 (vs.map mD)]) (fun vs=>vs.length≤maxLen∧∀y,y∈vs→Sj y):=by
 cases fuel with
 | zero=>intro cs d ps h;cases h
 | succ fuel=>exact fh (k:=2) (enc:=mD) Tryz.underlying26 kr de (fun x=>Ys x) (adR fuel)
instance:Inhabited gu:=⟨Gt⟩
def MS (v:gu):Prop:=(Lit.int .i64 v.Pc).wf=true∧(Lit.int .i64 v.Lv).wf=true
theorem VZ {H:Type} {bV:TypeId × Value→H} {W:World} (fuel:Nat):cE bV Tryz.prog W fuel 28 nv MS:=by
 cases fuel with
 | zero=>intro cs d ps h;cases h
 | succ fuel =>
  intro cs d ps h hw;obtain⟨hl,hf⟩:=b8 Tryz.underlying28 h hw;obtain⟨x0,k0,l0⟩:=bl 0 rfl (k:=1) kr (eP Tryz.underlying3 fuel) hf;obtain⟨x1,k1,l1⟩:=bl 1 rfl (k:=1) kr (eP Tryz.underlying3 fuel) hf;refine⟨.mk x0 x1,⟨k0,k1⟩,?_⟩
  have e:nv (.mk x0 x1)=((fun n:Int=>[DV.int .i64 n]) x0)++(((fun n:Int=>[DV.int .i64 n]) x1)++[]):=by
   simp [nv]
  rw [e];exact (LD.cat (o:=0) l0 (LD.cat (o:=1) l1 (LD.fin (show cs.length=2 from hl.trans kr))))
instance:Inhabited cG:=⟨Fb⟩
def acD (v:cG):Prop:=v.fName.length≤140737488351232∧(v.bG.length≤maxLen∧∀y,y∈v.bG→Ym y)∧(v.aJ.length≤maxLen∧∀y,y∈v.aJ→y.length≤140737488351232)∧(v.ve.length≤maxLen∧∀y,y∈v.ve→Si y)∧(v.oJ.length≤maxLen∧∀y,y∈v.oJ→NR y)∧(v.vf.length≤maxLen∧∀y,y∈v.vf→Sj y)∧(Lit.int .i64 v.hU).wf=true∧(Lit.int .i64 v.gm).wf=true∧(Lit.int .i64 v.NS).wf=true∧(Lit.int .i64 v.AB).wf=true∧v.JD.length≤140737488351232∧MS v.Fc∧(Lit.int .i64 v.Pd).wf=true∧True
theorem afF {H:Type} {bV:TypeId × Value→H} {W:World} (fuel:Nat):cE bV Tryz.prog W fuel 30 oK acD:=by
 cases fuel with
 | zero=>intro cs d ps h;cases h
 | succ fuel =>
  intro cs d ps h hw;obtain⟨hl,hf⟩:=b8 Tryz.underlying30 h hw;obtain⟨x0,k0,l0⟩:=bl 0 rfl (k:=1) kr (dR Tryz.underlying9 fuel) hf;obtain⟨x1,k1,l1⟩:=bl 1 rfl (k:=1) kr (amc fuel) hf;obtain⟨x2,k2,l2⟩:=bl 2 rfl (k:=1) kr (aiG fuel) hf;obtain⟨x3,k3,l3⟩:=bl 3 rfl (k:=1) kr (ame fuel) hf;obtain⟨x4,k4,l4⟩:=bl 4 rfl (k:=1) kr (amf fuel) hf;obtain⟨x5,k5,l5⟩:=bl 5 rfl (k:=1) kr (amg fuel) hf;obtain⟨x6,k6,l6⟩:=bl 6 rfl (k:=1) kr (eP Tryz.underlying3 fuel) hf;obtain⟨x7,k7,l7⟩:=bl 7 rfl (k:=1) kr (eP Tryz.underlying3 fuel) hf;obtain⟨x8,k8,l8⟩:=bl 8 rfl (k:=1) kr (eP Tryz.underlying3 fuel) hf;obtain⟨x9,k9,l9⟩:=bl 9 rfl (k:=1) kr (eP Tryz.underlying3 fuel) hf;obtain⟨aW,k10,l10⟩:=bl 10 rfl (k:=1) kr (dR Tryz.underlying9 fuel) hf;obtain⟨ck,k11,l11⟩:=bl 11 rfl (k:=2) kr (VZ fuel) hf;obtain⟨cz,k12,l12⟩:=bl 12 rfl (k:=1) kr (eP Tryz.underlying3 fuel) hf;obtain⟨dJ,k13,l13⟩:=bl 13 rfl (k:=1) kr (oG Tryz.underlying4 fuel) hf;refine⟨.mk x0 x1 x2 x3 x4 x5 x6 x7 x8 x9 aW ck cz dJ,⟨k0,k1,k2,k3,k4,k5,k6,k7,k8,k9,k10,k11,k12,k13⟩,?_⟩
  have e:oK (.mk x0 x1 x2 x3 x4 x5 x6 x7 x8 x9 aW ck cz dJ)=((fun l:Bs=>[DV.str l]) x0)++(((fun vs:List bq=>[DV.slice 5 (vs.map pV)]) x1)++(((fun vs:List Bs=>[DV.slice 1 (vs.map (fun l:Bs=>[DV.str l]))]) x2)++(((fun vs:List oH=>[DV.slice 10 (vs.map mC)]) x3)++(((fun vs:List aO=>[DV.slice 2 (vs.map kC)]) x4)++(((fun vs:List rN=>[DV.slice 2 (vs.map mD)]) x5)++(((fun n:Int=>[DV.int .i64 n]) x6)++(((fun n:Int=>[DV.int .i64 n]) x7)++(((fun n:Int=>[DV.int .i64 n]) x8)++(((fun n:Int=>[DV.int .i64 n]) x9)++(((fun l:Bs=>[DV.str l]) aW)++((nv ck)++(((fun n:Int=>[DV.int .i64 n]) cz)++(((fun b:Bool=>[DV.bool b]) dJ)++[]))))))))))))):=by
   simp [oK]
  rw [e];exact (LD.cat (o:=0) l0 (LD.cat (o:=1) l1 (LD.cat (o:=2) l2 (LD.cat (o:=3) l3 (LD.cat (o:=4) l4 (LD.cat (o:=5) l5 (LD.cat (o:=6) l6 (LD.cat (o:=7) l7 (LD.cat (o:=8) l8 (LD.cat (o:=9) l9 (LD.cat (o:=10) l10 (LD.cat (o:=11) l11 (LD.cat (o:=13) l12 (LD.cat (o:=14) l13 (LD.fin (show cs.length=15 from hl.trans kr))))))))))))))))
theorem Yt (x:aL):(kL x).length=3:=by cases x;simp [kL]
instance:Inhabited aL:=⟨aN⟩
def Sm (v:aL):Prop:=v.aU.length≤140737488351232∧True∧v.fData.length≤140737488351232
theorem afG {H:Type} {bV:TypeId × Value→H} {W:World} (fuel:Nat):cE bV Tryz.prog W fuel 62 kL Sm:=by
 cases fuel with
 | zero=>intro cs d ps h;cases h
 | succ fuel =>
  intro cs d ps h hw;obtain⟨hl,hf⟩:=b8 Tryz.underlying62 h hw;obtain⟨x0,k0,l0⟩:=bl 0 rfl (k:=1) kr (dR Tryz.underlying9 fuel) hf;obtain⟨x1,k1,l1⟩:=bl 1 rfl (k:=1) kr (oG Tryz.underlying4 fuel) hf;obtain⟨x2,k2,l2⟩:=bl 2 rfl (k:=1) kr (dR Tryz.underlying9 fuel) hf;refine⟨.mk x0 x1 x2,⟨k0,k1,k2⟩,?_⟩
  have e:kL (.mk x0 x1 x2)=((fun l:Bs=>[DV.str l]) x0)++(((fun b:Bool=>[DV.bool b]) x1)++(((fun l:Bs=>[DV.str l]) x2)++[])):=by
   simp [kL]
  rw [e];exact (LD.cat (o:=0) l0 (LD.cat (o:=1) l1 (LD.cat (o:=2) l2 (LD.fin (show cs.length=3 from hl.trans kr)))))
theorem amh {H:Type} {bV:TypeId × Value→H} {W:World} (fuel:Nat):cE bV Tryz.prog W fuel 31 (fun vs:List aL=>[DV.slice 3 (vs.map kL)]) (fun vs=>vs.length≤maxLen∧∀y,y∈vs→Sm y):=by
 cases fuel with
 | zero=>intro cs d ps h;cases h
 | succ fuel=>exact fh (k:=3) (enc:=kL) Tryz.underlying31 kr de (fun x=>Yt x) (afG fuel)
theorem Sn (x:cZ):(gX x).length=2:=by cases x;simp [gX]
instance:Inhabited cZ:=⟨kM⟩
def JE (v:cZ):Prop:=v.fText.length≤140737488351232∧(Lit.int .i64 v.gm).wf=true
theorem abh {H:Type} {bV:TypeId × Value→H} {W:World} (fuel:Nat):cE bV Tryz.prog W fuel 55 gX JE:=by
 cases fuel with
 | zero=>intro cs d ps h;cases h
 | succ fuel =>
  intro cs d ps h hw;obtain⟨hl,hf⟩:=b8 Tryz.underlying55 h hw;obtain⟨x0,k0,l0⟩:=bl 0 rfl (k:=1) kr (dR Tryz.underlying9 fuel) hf;obtain⟨x1,k1,l1⟩:=bl 1 rfl (k:=1) kr (eP Tryz.underlying3 fuel) hf;refine⟨.mk x0 x1,⟨k0,k1⟩,?_⟩
  have e:gX (.mk x0 x1)=((fun l:Bs=>[DV.str l]) x0)++(((fun n:Int=>[DV.int .i64 n]) x1)++[]):=by
   simp [gX]
  rw [e];exact (LD.cat (o:=0) l0 (LD.cat (o:=1) l1 (LD.fin (show cs.length=2 from hl.trans kr))))
theorem ami {H:Type} {bV:TypeId × Value→H} {W:World} (fuel:Nat):cE bV Tryz.prog W fuel 32 (fun vs:List cZ=>[DV.slice 2 (vs.map gX)]) (fun vs=>vs.length≤maxLen∧∀y,y∈vs→JE y):=by
 cases fuel with
 | zero=>intro cs d ps h;cases h
 | succ fuel=>exact fh (k:=2) (enc:=gX) Tryz.underlying32 kr de (fun x=>Sn x) (abh fuel)
instance:Inhabited qF:=⟨aiI⟩
def Fa (v:qF):Prop:=acD v.dS∧(v.fY.length≤maxLen∧∀y,y∈v.fY→Sm y)∧(v.Fe.length≤maxLen∧∀y,y∈v.Fe→y.length≤140737488351232)∧(v.fV.length≤maxLen∧∀y,y∈v.fV→JE y)
theorem agP {H:Type} {bV:TypeId × Value→H} {W:World} (fuel:Nat):cE bV Tryz.prog W fuel 34 Lw Fa:=by
 cases fuel with
 | zero=>intro cs d ps h;cases h
 | succ fuel =>
  intro cs d ps h hw;obtain⟨hl,hf⟩:=b8 Tryz.underlying34 h hw;obtain⟨x0,k0,l0⟩:=bl 0 rfl (k:=15) kr (afF fuel) hf;obtain⟨x1,k1,l1⟩:=bl 1 rfl (k:=1) kr (amh fuel) hf;obtain⟨x2,k2,l2⟩:=bl 2 rfl (k:=1) kr (aiG fuel) hf;obtain⟨x3,k3,l3⟩:=bl 3 rfl (k:=1) kr (ami fuel) hf;refine⟨.mk x0 x1 x2 x3,⟨k0,k1,k2,k3⟩,?_⟩
  have e:Lw (.mk x0 x1 x2 x3)=(oK x0)++(((fun vs:List aL=>[DV.slice 3 (vs.map kL)]) x1)++(((fun vs:List Bs=>[DV.slice 1 (vs.map (fun l:Bs=>[DV.str l]))]) x2)++(((fun vs:List cZ=>[DV.slice 2 (vs.map gX)]) x3)++[]))):=by
   simp [Lw]
  rw [e];exact (LD.cat (o:=0) l0 (LD.cat (o:=15) l1 (LD.cat (o:=16) l2 (LD.cat (o:=17) l3 (LD.fin (show cs.length=18 from hl.trans kr))))))
end Go.Proofs.YtkeibjejncpgnaaGreatDoor
