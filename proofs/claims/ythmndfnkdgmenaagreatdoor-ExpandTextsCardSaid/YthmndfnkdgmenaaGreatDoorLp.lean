import Derived.Test.YthmndfnkdgmenaaGreatDoorRk
import Derived.Test.YthmndfnkdgmenaaGreatDoorZ2
import Derived.Test.YthmndfnkdgmenaaGreatDoorRows
import Derived.Test.YthmndfnkdgmenaaGreatDoorCards
import Derived.Test.YthmndfnkdgmenaaGreatDoorTie
import Derived.WalkKit
import Derived.ProofKit
import Derived.OpenShut
import Derived.ShutString
import Derived.ChangeOld
import Derived.LaidLaws
import Derived.LaidHandle
import Derived.Lay
import Derived.Shelf.Vars
import Derived.HandedShaped
import Derived.Stop.LaidErr
import Derived.Stop.Joined
import Derived.JoinedOf
import Derived.SevenTiedAt
import Derived.Lib.LaidTab
set_option linter.all false
namespace Go.Proofs.YthmndfnkdgmenaaGreatDoor
open Go.ChangeShapes Go.WideShapes Go.ChangeAt Go.RowKit Go.RT
theorem own:ownKnob Tryz.prog.godebug=none:=by kernel_rfl
theorem laidOut:laidOutB Tryz.prog=true:=by kernel_rfl
abbrev Eh:J (String×DataW Unit):=[("math/bits.deBruijn32tab",Rows.laid_math_bits_deBruijn32tab),("math/bits.deBruijn64tab",Rows.laid_math_bits_deBruijn64tab),("internal/strconv.uint64pow10",Rows.laid_internal_strconv_uint64pow10),("unicode/utf8.acceptRanges",Rows.laid_unicode_utf8_acceptRanges),("unicode/utf8.first",Rows.laid_unicode_utf8_first)]
theorem aa7:(Eh.filter fun x=>x.2.handleName?.isNone)=Eh:=by kernel_rfl
theorem WV{W:U}{g:Nat}{v:Value}(h:W.cell? ⟨g,0,none⟩=some v):∃cs t m,W.heap[g]? = some (.cells cs t m)/\cs[0]? = some v:=by
 unfold World.cell? at h;split at h
 ·rename_i cs t m hh
  exact⟨cs,t,m,hh,by simpa using h⟩
 ·cases h
theorem Yk{W:U}(h:laidMetH Tryz.prog Eh W)(hs:W.ShapedOpen Tryz.prog):∀b p,E.gb b=some p->∃cs t m,W.heap[b]? = some (.cells cs t m)/\p cs:=by
 have h':laidMet Tryz.prog Eh W:=h;intro b p hb;have hb:(cond (Nat.beq b 1) (some (fun cs:aI Value=>cs=(Lib.pow10Tab.map fun z=>Value.int .u64 z).toArray)) (cond (Nat.beq b 0) (some (fun cs:aI Value=>∃m,cs[0]? = some (Value.int .i64 m))) none))=some p:=hb;cases he:Nat.beq b 1<;>rw [he] at hb<;>simp only [bu,aS] at hb
 rotate_left
 ·cases hb
  have:=eB he;subst this
  have ht:Lib.TabIs Tryz.prog W "internal/strconv.uint64pow10" .u64 Lib.pow10Tab:=Lib.tabIs_of_head (rest:=_) (g:=1) (t:=418) (e:=302) (n:=20) kr kr Tryz.underlying418 Tryz.underlying302 kr kr h'.tail.tail
  unfold Lib.TabIs World.var? at ht
  rw [show Tryz.prog.globalNamed "internal/strconv.uint64pow10" = some 1 by kernel_rfl] at ht
  simp only [aD] at ht;split at ht
  ·rename_i cs' t m hh
   cases ht;exact⟨_,t,m,hh,rfl⟩
  ·cases ht
 cases VV:Nat.beq b 0<;>rw [VV] at hb<;>simp only [bu,aS] at hb
 ·cases hb
 cases hb;have:=eB VV;subst this;obtain⟨m,hm⟩:=cell_of_shapedOpen_int (g:=0) (t:=3) (k:=.i64) (zero:=#[.int .i64 0]) hs (wR kr) kr rfl kr kr Tryz.underlying3;obtain⟨cs,t,m2,q1,q2⟩:=WV hm;exact⟨cs,t,m2,q1,m,q2⟩
noncomputable def VQ(os:Os):U:=World.laidAll Tryz.prog os Eh
set_option maxRecDepth 100000 in
theorem WU(os:Os)(args:aI Value):laidMetH Tryz.prog Eh ((VQ os).forCall (fun _ _=>0) ⟨#[],args,[]⟩).memory:=
 laidMetH_of_parts (by rw [aa7];exact laidMet_laidAll args kr kr) kr
theorem WT{H:Type}{enc:aC×Value->H}{a:Assume}{C:Checked}{os:Os}{f:FuncId}{fn:Func}{s:ChangeSpec}{conds:J PathCond}{apart fresh handsOn again:Bool}{X:U->aI Value->Prop}
  (hX:∀(w w':U)(args:aI Value),w.heap=w'.heap->X w args->X w' args)
  (own:ownKnob C.prog.godebug=none) (started:os.Started) (noInit:C.prog.inits.idxOf? f=none) (hfn:C.prog.funcs[f]? = some fn)
  (witness:∃(w:U)(tape:Tape)(i:Input),w.os=os/\(w.forCall tape i).Shaped C.prog/\i.vars=[]/\Input.okWide C.prog (w.forCall tape i) .any w.heap.size f i /\
   ((s.pre enc C.prog fn conds apart (w.forCall tape i).memory i.args/\X (w.forCall tape i).memory i.args)/\sizedMet enc C.prog fn (OpenSpec.ofChange s) apart (w.forCall tape i).memory i.args)/\a.holds C.prog (lone (Frame.enter C.prog f i.args .normal) [] (w.forCall tape i)))
  (contract:∀(W:U)(base:Nat)(args:aI Value)(ds gs:J (DataW H))(before:J MemPlace),
   (∀(j:Nat) t v,fn.params[j]? = some t->args[j]? = some v->Value.okWide C.prog W .any base t v) ->
   DataW.Whole enc C.prog fn.params.toList s.vars apart W args.toList ds gs before ->
   X W args->W.ShapedOpen C.prog->(DataW.weightsEach C.prog (fn.params.toList++(OpenSpec.ofChange s).bare.plain.varTypes C.prog) (ds++gs)).all (·<=reachBytes)=true ->
   Calls C.prog f args W fun e W'=>∃v,e=.returned v/\s.post enc C.prog fn apart fresh handsOn again W args v W') :
  ReturnsInHanded a C os f .any (fun w args=>(s.pre enc C.prog fn conds apart w args/\X w args)/\sizedMet enc C.prog fn (OpenSpec.ofChange s) apart w args) (s.post enc C.prog fn apart fresh handsOn again):=by
 refine returnsInHanded_of_calls own started noInit witness ?_;intro w tape i _ hsh _ hok hpre _;obtain⟨_,_,_,fn',ape,_,_,_,_,hval⟩:=hok;have e:fn'=fn:=uH (ape.symm.trans hfn);subst e;obtain⟨⟨⟨ds,gs,before,hw,hc⟩,hx⟩,hz⟩:=hpre;have hw':=DataW.Whole.of_heap (w':=w.forCall tape i) (by rfl) hw;refine (contract (w.forCall tape i) w.heap.size i.args ds gs before hval hw' (hX _ _ _ (by rfl) hx) hsh (hz.weights hw)).mono fun e W' ⟨v,he,hp⟩=>?_;subst he;exact ChangeSpec.post_blind hp
variable {H : Type} {eP : aC × Value -> H} {W : U}
theorem mT{t:aC}{fs:aI Field}{α:Type}{enc:α->J DV}{ok:α->Prop}(fuel:Nat)(ht:Tryz.prog.underlying t=some (.struct fs))(hh:∀cs:J Value,cs.length=Tryz.prog.cellsOf t->(∀f,f∈fs.toList->∃y,DataW.trod eP Tryz.prog W 0 (fun _=>true) true fuel f.type ((cs.drop f.offset).take (Tryz.prog.cellsOf f.type))=some y/\Ht Tryz.prog f.type y.1)->∃x,ok x/\LD W (fun b _=>b<W.heap.size) cs (enc x)):dU eP Tryz.prog W (fuel+1) t enc ok:=fun cs d ps h hw=>have q:=MO ht h hw;hh cs q.1 q.2
theorem mZ{t:aC}{α:Type}{enc:α->J DV}{ok:α->Prop}:dU eP Tryz.prog W 0 t enc ok:=by intro cs d ps h;cases h
def sL{α:Type}(k:Nat)(enc:α->J DV)(vs:J α):J DV:=[DV.slice k (vs.map enc)]
def kL{α:Type}(ok:α->Prop)(vs:J α):Prop:=vs.length<=maxLen/\∀y,y∈vs->ok y
theorem mS{t e:aC}{k:Nat}{α:Type}[Inhabited α]{enc:α->J DV}{ok:α->Prop}(ht:Tryz.prog.underlying t=some (.slice e))(hk:Tryz.prog.cellsOf e=k)(hkp:0<k)(hlen:∀x,(enc x).length=k)(he:∀fuel,dU eP Tryz.prog W fuel e enc ok):∀fuel,dU eP Tryz.prog W fuel t (sL k enc) (kL ok)
 | 0=>mZ
 | n+1=>PO ht hk hkp hlen (he n)
theorem mK{t e:aC}{k:Nat}{α:Type}[Inhabited α]{enc:α->J DV}{ok:α->Prop}{n:Nat}(ht:Tryz.prog.underlying t=some (.slice e))(hk:Tryz.prog.cellsOf e=k)(hkp:0<k)(hlen:∀x,(enc x).length=k)(he:∀fuel,fuel<n->dU eP Tryz.prog W fuel e enc ok):∀fuel,fuel<n->dU eP Tryz.prog W fuel t (sL k enc) (kL ok)
 | 0,_=>mZ
 | n+1,h=>PO ht hk hkp hlen (he n om)
variable {fs : aI Field} {fuel : Nat} {cs : J Value} (j : Nat) {f : Field}
theorem gS(hf:fs[j]? = some f)(e:f.type=9)(h:∀f,f∈fs.toList->∃y,DataW.trod eP Tryz.prog W 0 (fun _=>true) true fuel f.type ((cs.drop f.offset).take (Tryz.prog.cellsOf f.type))=some y/\Ht Tryz.prog f.type y.1):∃x:Bs,(x.length<=140737488351232)/\LD W (fun b _=>b<W.heap.size) ((cs.drop f.offset).take 1) [DV.str x]:=fO j hf (by rw [e];kernel_rfl) (e▸FE Tryz.underlying9 fuel) h
theorem gI(hf:fs[j]? = some f)(e:f.type=3)(h:∀f,f∈fs.toList->∃y,DataW.trod eP Tryz.prog W 0 (fun _=>true) true fuel f.type ((cs.drop f.offset).take (Tryz.prog.cellsOf f.type))=some y/\Ht Tryz.prog f.type y.1):∃x:Int,((Lit.int .i64 x).wf=true)/\LD W (fun b _=>b<W.heap.size) ((cs.drop f.offset).take 1) [DV.int .i64 x]:=fO j hf (by rw [e];kernel_rfl) (e▸afM Tryz.underlying3 fuel) h
theorem gB(hf:fs[j]? = some f)(e:f.type=4)(h:∀f,f∈fs.toList->∃y,DataW.trod eP Tryz.prog W 0 (fun _=>true) true fuel f.type ((cs.drop f.offset).take (Tryz.prog.cellsOf f.type))=some y/\Ht Tryz.prog f.type y.1):∃x:Bool,(True)/\LD W (fun b _=>b<W.heap.size) ((cs.drop f.offset).take 1) [DV.bool x]:=fO j hf (by rw [e];kernel_rfl) (e▸adG Tryz.underlying4 fuel) h
theorem aa8(x:bD):(Bt x).length=5:=by cases x;simp [Bt]
instance:Inhabited bD:=⟨dW⟩
def Yr(v:bD):Prop:=v.fName.length<=140737488351232/\v.bK.length<=140737488351232/\True/\True/\True
theorem ahP(fuel:Nat):dU eP Tryz.prog W fuel 64 Bt Yr:=by
 obtain _|fuel:=fuel
 ·exact mZ
 refine mT fuel Tryz.underlying64 fun cs hl hf=>?_;obtain⟨x0,k0,l0⟩:=gS 0 rfl rfl hf;obtain⟨x1,k1,l1⟩:=gS 1 rfl rfl hf;obtain⟨x2,k2,l2⟩:=gB 2 rfl rfl hf;obtain⟨x3,k3,l3⟩:=gB 3 rfl rfl hf;obtain⟨x4,k4,l4⟩:=gB 4 rfl rfl hf;refine⟨.mk x0 x1 x2 x3 x4,⟨k0,k1,k2,k3,k4⟩,?_⟩;simpa [sL,Bt] using LD.cat (o:=0) l0 (LD.cat l1 (LD.cat l2 (LD.cat l3 (LD.cat l4 (LD.fin (hl.trans kr))))))
theorem anX(fuel:Nat):dU eP Tryz.prog W fuel 22 (sL 5 Bt) (kL Yr):=mS Tryz.underlying22 kr de aa8 ahP fuel
theorem ajR(fuel:Nat):dU eP Tryz.prog W fuel 23 (sL 1 (fun l:Bs=>[DV.str l])) (kL fun y:Bs=>y.length<=140737488351232):=mS (k:=1) Tryz.underlying23 kr de (fun _=>rfl) (FE Tryz.underlying9) fuel
instance:Inhabited TPart:=⟨jY⟩
inductive Bu:TPart->Prop
 | mk (x0:Int) (x1:Bs) (x2:Int) (x3:Bool) (x4:List TPart) (h0:(Lit.int .i64 x0).wf=true) (h1:x1.length<=140737488351232) (h2:(Lit.int .i64 x2).wf=true) (h3:True) (h4:x4.length<=maxLen) (g4:∀y,y∈x4->Bu y):Bu (.mk x0 x1 x2 x3 x4)
theorem MP(x:TPart):(lF x).length=5:=by cases x;simp [lF]
theorem adH(fuel:Nat):dU eP Tryz.prog W fuel 103 lF Bu:=by
 induction fuel using Nat.strongRecOn with
 | _ fuel ih=>
  have al7:∀f,f<fuel->dU eP Tryz.prog W f 38 (sL 5 lF) (kL Bu):=mK Tryz.underlying38 kr de MP fun f h=>(ih f h);obtain _|fuel:=fuel
  ·exact mZ
  refine mT fuel Tryz.underlying103 fun cs hl hf=>?_;obtain⟨x0,k0,l0⟩:=gI 0 rfl rfl hf;obtain⟨x1,k1,l1⟩:=gS 1 rfl rfl hf;obtain⟨x2,k2,l2⟩:=gI 2 rfl rfl hf;obtain⟨x3,k3,l3⟩:=gB 3 rfl rfl hf;obtain⟨x4,k4,l4⟩:=fO 4 rfl (k:=1) kr (al7 fuel om) hf;refine⟨.mk x0 x1 x2 x3 x4,.mk _ _ _ _ _ k0 k1 k2 k3 k4.1 k4.2,?_⟩;simpa [sL,lF,Dn] using LD.cat (o:=0) l0 (LD.cat l1 (LD.cat l2 (LD.cat l3 (LD.cat l4 (LD.fin (hl.trans kr))))))
theorem adI(fuel:Nat):dU eP Tryz.prog W fuel 103 lF Bu:=(adH fuel)
theorem anY(fuel:Nat):dU eP Tryz.prog W fuel 38 (sL 5 lF) (kL Bu):=mS Tryz.underlying38 kr de MP adI fuel
theorem FM(x:fZ):(qB x).length=2:=by cases x;simp [qB]
instance:Inhabited fZ:=⟨xo⟩
def Fm(v:fZ):Prop:=(Lit.int .i64 v.fPos).wf=true/\(v.fParts.length<=maxLen/\∀y,y∈v.fParts->Bu y)
theorem MQ(fuel:Nat):dU eP Tryz.prog W fuel 48 qB Fm:=by
 obtain _|fuel:=fuel
 ·exact mZ
 refine mT fuel Tryz.underlying48 fun cs hl hf=>?_;obtain⟨x0,k0,l0⟩:=gI 0 rfl rfl hf;obtain⟨x1,k1,l1⟩:=fO 1 rfl (k:=1) kr (anY fuel) hf;refine⟨.mk x0 x1,⟨k0,k1⟩,?_⟩;simpa [sL,qB] using LD.cat (o:=0) l0 (LD.cat l1 (LD.fin (hl.trans kr)))
theorem Ut(x:rA):(sW x).length=4:=by cases x;simp [sW,FM]
instance:Inhabited rA:=⟨Ys⟩
def MS(v:rA):Prop:=(Lit.int .i64 v.fPos).wf=true/\v.fName.length<=140737488351232/\Fm v.bK
theorem Yt(fuel:Nat):dU eP Tryz.prog W fuel 212 sW MS:=by
 obtain _|fuel:=fuel
 ·exact mZ
 refine mT fuel Tryz.underlying212 fun cs hl hf=>?_;obtain⟨x0,k0,l0⟩:=gI 0 rfl rfl hf;obtain⟨x1,k1,l1⟩:=gS 1 rfl rfl hf;obtain⟨x2,k2,l2⟩:=fO 2 rfl (k:=2) kr (MQ fuel) hf;refine⟨.mk x0 x1 x2,⟨k0,k1,k2⟩,?_⟩;simpa [sL,sW] using LD.cat (o:=0) l0 (LD.cat l1 (LD.cat l2 (LD.fin (hl.trans kr))))
theorem al8(fuel:Nat):dU eP Tryz.prog W fuel 156 (sL 4 sW) (kL MS):=mS Tryz.underlying156 kr de Ut Yt fuel
theorem ajS(fuel:Nat):dU eP Tryz.prog W fuel 35 (sL 2 qB) (kL Fm):=mS Tryz.underlying35 kr de FM MQ fuel
theorem WW(x:uS):(uT x).length=5:=by cases x;simp [uT,FM]
instance:Inhabited uS:=⟨acg⟩
def QD(v:uS):Prop:=(Lit.int .i64 v.fPos).wf=true/\(Lit.int .i64 v.fFd).wf=true/\(Lit.int .i64 v.fOp).wf=true/\Fm v.Uu
theorem aa9(fuel:Nat):dU eP Tryz.prog W fuel 217 uT QD:=by
 obtain _|fuel:=fuel
 ·exact mZ
 refine mT fuel Tryz.underlying217 fun cs hl hf=>?_;obtain⟨x0,k0,l0⟩:=gI 0 rfl rfl hf;obtain⟨x1,k1,l1⟩:=gI 1 rfl rfl hf;obtain⟨x2,k2,l2⟩:=gI 2 rfl rfl hf;obtain⟨x3,k3,l3⟩:=fO 3 rfl (k:=2) kr (MQ fuel) hf;refine⟨.mk x0 x1 x2 x3,⟨k0,k1,k2,k3⟩,?_⟩;simpa [sL,uT] using LD.cat (o:=0) l0 (LD.cat l1 (LD.cat l2 (LD.cat l3 (LD.fin (hl.trans kr)))))
theorem al9(fuel:Nat):dU eP Tryz.prog W fuel 157 (sL 5 uT) (kL QD):=mS Tryz.underlying157 kr de WW aa9 fuel
instance:Inhabited TNode:=⟨Yu⟩
instance:Inhabited TItem:=⟨afN⟩
mutual
inductive Bv:TNode->Prop
 | mk (x0:Int) (x1:Int) (x2:Bs) (x3:Bool) (x4:List rA) (x5:List fZ) (x6:List uS) (x7:List TNode) (x8:List TItem) (h0:(Lit.int .i64 x0).wf=true) (h1:(Lit.int .i64 x1).wf=true) (h2:x2.length<=140737488351232) (h3:True) (h4:(x4.length<=maxLen/\∀y,y∈x4->MS y)) (h5:(x5.length<=maxLen/\∀y,y∈x5->Fm y)) (h6:(x6.length<=maxLen/\∀y,y∈x6->QD y)) (h7:x7.length<=maxLen) (g7:∀y,y∈x7->Bv y) (h8:x8.length<=maxLen) (g8:∀y,y∈x8->OR y):Bv (.mk x0 x1 x2 x3 x4 x5 x6 x7 x8)
inductive OR:TItem->Prop
 | mk (x0:List fZ) (x1:List TNode) (h0:(x0.length<=maxLen/\∀y,y∈x0->Fm y)) (h1:x1.length<=maxLen) (g1:∀y,y∈x1->Bv y):OR (.mk x0 x1)
end
theorem MT(x:TNode):(nK x).length=9:=by cases x;simp [nK]
theorem Yv(x:TItem):(qC x).length=2:=by cases x;simp [qC]
theorem adJ(fuel:Nat):dU eP Tryz.prog W fuel 161 nK Bv/\dU eP Tryz.prog W fuel 221 qC OR:=by
 induction fuel using Nat.strongRecOn with
 | _ fuel ih=>
  have ach:∀f,f<fuel->dU eP Tryz.prog W f 158 (sL 9 nK) (kL Bv):=mK Tryz.underlying158 kr de MT fun f h=>(ih f h).1;have akA:∀f,f<fuel->dU eP Tryz.prog W f 159 (sL 2 qC) (kL OR):=mK Tryz.underlying159 kr de Yv fun f h=>(ih f h).2;refine⟨?_,?_⟩
  ·obtain _|fuel:=fuel
   ·exact mZ
   refine mT fuel Tryz.underlying161 fun cs hl hf=>?_;obtain⟨x0,k0,l0⟩:=gI 0 rfl rfl hf;obtain⟨x1,k1,l1⟩:=gI 1 rfl rfl hf;obtain⟨x2,k2,l2⟩:=gS 2 rfl rfl hf;obtain⟨x3,k3,l3⟩:=gB 3 rfl rfl hf;obtain⟨x4,k4,l4⟩:=fO 4 rfl (k:=1) kr (al8 fuel) hf;obtain⟨x5,k5,l5⟩:=fO 5 rfl (k:=1) kr (ajS fuel) hf;obtain⟨x6,k6,l6⟩:=fO 6 rfl (k:=1) kr (al9 fuel) hf;obtain⟨x7,k7,l7⟩:=fO 7 rfl (k:=1) kr (ach fuel om) hf;obtain⟨x8,k8,l8⟩:=fO 8 rfl (k:=1) kr (akA fuel om) hf;refine⟨.mk x0 x1 x2 x3 x4 x5 x6 x7 x8,.mk _ _ _ _ _ _ _ _ _ k0 k1 k2 k3 k4 k5 k6 k7.1 k7.2 k8.1 k8.2,?_⟩;simpa [sL,nK,tw,tA] using LD.cat (o:=0) l0 (LD.cat l1 (LD.cat l2 (LD.cat l3 (LD.cat l4 (LD.cat l5 (LD.cat l6 (LD.cat l7 (LD.cat l8 (LD.fin (hl.trans kr))))))))))
  ·obtain _|fuel:=fuel
   ·exact mZ
   refine mT fuel Tryz.underlying221 fun cs hl hf=>?_;obtain⟨x0,k0,l0⟩:=fO 0 rfl (k:=1) kr (ajS fuel) hf;obtain⟨x1,k1,l1⟩:=fO 1 rfl (k:=1) kr (ach fuel om) hf;refine⟨.mk x0 x1,.mk _ _ k0 k1.1 k1.2,?_⟩;simpa [sL,qC,tw,tA] using LD.cat (o:=0) l0 (LD.cat l1 (LD.fin (hl.trans kr)))
theorem adK(fuel:Nat):dU eP Tryz.prog W fuel 161 nK Bv:=(adJ fuel).1
theorem Yw(x:xZ):(yA x).length=10:=by cases x;simp [yA,MT]
instance:Inhabited xZ:=⟨afO⟩
def Uv(v:xZ):Prop:=v.fName.length<=140737488351232/\Bv v.fBody
theorem adL(fuel:Nat):dU eP Tryz.prog W fuel 163 yA Uv:=by
 obtain _|fuel:=fuel
 ·exact mZ
 refine mT fuel Tryz.underlying163 fun cs hl hf=>?_;obtain⟨x0,k0,l0⟩:=gS 0 rfl rfl hf;obtain⟨x1,k1,l1⟩:=fO 1 rfl (k:=9) kr (adK fuel) hf;refine⟨.mk x0 x1,⟨k0,k1⟩,?_⟩;simpa [sL,yA] using LD.cat (o:=0) l0 (LD.cat l1 (LD.fin (hl.trans kr)))
theorem anZ(fuel:Nat):dU eP Tryz.prog W fuel 24 (sL 10 yA) (kL Uv):=mS Tryz.underlying24 kr de Yw adL fuel
theorem WX(x:bX):(uU x).length=2:=by cases x;simp [uU]
instance:Inhabited bX:=⟨p8⟩
def QE(v:bX):Prop:=v.fName.length<=140737488351232/\v.bK.length<=140737488351232
theorem aba(fuel:Nat):dU eP Tryz.prog W fuel 151 uU QE:=by
 obtain _|fuel:=fuel
 ·exact mZ
 refine mT fuel Tryz.underlying151 fun cs hl hf=>?_;obtain⟨x0,k0,l0⟩:=gS 0 rfl rfl hf;obtain⟨x1,k1,l1⟩:=gS 1 rfl rfl hf;refine⟨.mk x0 x1,⟨k0,k1⟩,?_⟩;simpa [sL,uU] using LD.cat (o:=0) l0 (LD.cat l1 (LD.fin (hl.trans kr)))
theorem an0(fuel:Nat):dU eP Tryz.prog W fuel 25 (sL 2 uU) (kL QE):=mS Tryz.underlying25 kr de WX aba fuel
theorem Yx(x:zn):(yB x).length=2:=by cases x;simp [yB]
instance:Inhabited zn:=⟨afP⟩
def Uw(v:zn):Prop:=(Lit.int .i64 v.ahQ).wf=true/\v.Ux.length<=140737488351232
theorem adM(fuel:Nat):dU eP Tryz.prog W fuel 154 yB Uw:=by
 obtain _|fuel:=fuel
 ·exact mZ
 refine mT fuel Tryz.underlying154 fun cs hl hf=>?_;obtain⟨x0,k0,l0⟩:=gI 0 rfl rfl hf;obtain⟨x1,k1,l1⟩:=gS 1 rfl rfl hf;refine⟨.mk x0 x1,⟨k0,k1⟩,?_⟩;simpa [sL,yB] using LD.cat (o:=0) l0 (LD.cat l1 (LD.fin (hl.trans kr)))
theorem an1(fuel:Nat):dU eP Tryz.prog W fuel 26 (sL 2 yB) (kL Uw):=mS Tryz.underlying26 kr de Yx adM fuel
instance:Inhabited lU:=⟨Kj⟩
def PR(v:lU):Prop:=(Lit.int .i64 v.Jm).wf=true/\(Lit.int .i64 v.Fo).wf=true
theorem WY(fuel:Nat):dU eP Tryz.prog W fuel 28 zo PR:=by
 obtain _|fuel:=fuel
 ·exact mZ
 refine mT fuel Tryz.underlying28 fun cs hl hf=>?_;obtain⟨x0,k0,l0⟩:=gI 0 rfl rfl hf;obtain⟨x1,k1,l1⟩:=gI 1 rfl rfl hf;refine⟨.mk x0 x1,⟨k0,k1⟩,?_⟩;simpa [sL,zo] using LD.cat (o:=0) l0 (LD.cat l1 (LD.fin (hl.trans kr)))
instance:Inhabited dM:=⟨Jn⟩
def aci(v:dM):Prop:=v.fName.length<=140737488351232/\(v.bM.length<=maxLen/\∀y,y∈v.bM->Yr y)/\(v.cC.length<=maxLen/\∀y,y∈v.cC->y.length<=140737488351232)/\(v.tB.length<=maxLen/\∀y,y∈v.tB->Uv y)/\(v.nL.length<=maxLen/\∀y,y∈v.nL->QE y)/\(v.tC.length<=maxLen/\∀y,y∈v.tC->Uw y)/\(Lit.int .i64 v.iA).wf=true/\(Lit.int .i64 v.fH).wf=true/\(Lit.int .i64 v.Bw).wf=true/\(Lit.int .i64 v.og).wf=true/\v.Kk.length<=140737488351232/\PR v.vT/\(Lit.int .i64 v.Jo).wf=true/\True
theorem afQ(fuel:Nat):dU eP Tryz.prog W fuel 30 yC aci:=by
 obtain _|fuel:=fuel
 ·exact mZ
 refine mT fuel Tryz.underlying30 fun cs hl hf=>?_;obtain⟨x0,k0,l0⟩:=gS 0 rfl rfl hf;obtain⟨x1,k1,l1⟩:=fO 1 rfl (k:=1) kr (anX fuel) hf;obtain⟨x2,k2,l2⟩:=fO 2 rfl (k:=1) kr (ajR fuel) hf;obtain⟨x3,k3,l3⟩:=fO 3 rfl (k:=1) kr (anZ fuel) hf;obtain⟨x4,k4,l4⟩:=fO 4 rfl (k:=1) kr (an0 fuel) hf;obtain⟨x5,k5,l5⟩:=fO 5 rfl (k:=1) kr (an1 fuel) hf;obtain⟨x6,k6,l6⟩:=gI 6 rfl rfl hf;obtain⟨x7,k7,l7⟩:=gI 7 rfl rfl hf;obtain⟨x8,k8,l8⟩:=gI 8 rfl rfl hf;obtain⟨x9,k9,l9⟩:=gI 9 rfl rfl hf;obtain⟨bW,k10,l10⟩:=gS 10 rfl rfl hf;obtain⟨fR,k11,l11⟩:=fO 11 rfl (k:=2) kr (WY fuel) hf;obtain⟨fD,k12,l12⟩:=gI 12 rfl rfl hf;obtain⟨fF,k13,l13⟩:=gB 13 rfl rfl hf;refine⟨.mk x0 x1 x2 x3 x4 x5 x6 x7 x8 x9 bW fR fD fF,⟨k0,k1,k2,k3,k4,k5,k6,k7,k8,k9,k10,k11,k12,k13⟩,?_⟩;simpa [sL,yC] using LD.cat (o:=0) l0 (LD.cat l1 (LD.cat l2 (LD.cat l3 (LD.cat l4 (LD.cat l5 (LD.cat l6 (LD.cat l7 (LD.cat l8 (LD.cat l9 (LD.cat l10 (LD.cat l11 (LD.cat l12 (LD.cat l13 (LD.fin (hl.trans kr)))))))))))))))
theorem Yy(x:bt):(uV x).length=3:=by cases x;simp [uV]
instance:Inhabited bt:=⟨bO⟩
def Uy(v:bt):Prop:=v.bS.length<=140737488351232/\True/\v.fData.length<=140737488351232
theorem afR(fuel:Nat):dU eP Tryz.prog W fuel 66 uV Uy:=by
 obtain _|fuel:=fuel
 ·exact mZ
 refine mT fuel Tryz.underlying66 fun cs hl hf=>?_;obtain⟨x0,k0,l0⟩:=gS 0 rfl rfl hf;obtain⟨x1,k1,l1⟩:=gB 1 rfl rfl hf;obtain⟨x2,k2,l2⟩:=gS 2 rfl rfl hf;refine⟨.mk x0 x1 x2,⟨k0,k1,k2⟩,?_⟩;simpa [sL,uV] using LD.cat (o:=0) l0 (LD.cat l1 (LD.cat l2 (LD.fin (hl.trans kr))))
theorem an2(fuel:Nat):dU eP Tryz.prog W fuel 31 (sL 3 uV) (kL Uy):=mS Tryz.underlying31 kr de Yy afR fuel
theorem Uz(x:fh):(oh x).length=2:=by cases x;simp [oh]
instance:Inhabited fh:=⟨Bx⟩
def MU(v:fh):Prop:=v.fText.length<=140737488351232/\(Lit.int .i64 v.fH).wf=true
theorem abb(fuel:Nat):dU eP Tryz.prog W fuel 56 oh MU:=by
 obtain _|fuel:=fuel
 ·exact mZ
 refine mT fuel Tryz.underlying56 fun cs hl hf=>?_;obtain⟨x0,k0,l0⟩:=gS 0 rfl rfl hf;obtain⟨x1,k1,l1⟩:=gI 1 rfl rfl hf;refine⟨.mk x0 x1,⟨k0,k1⟩,?_⟩;simpa [sL,oh] using LD.cat (o:=0) l0 (LD.cat l1 (LD.fin (hl.trans kr)))
theorem an3(fuel:Nat):dU eP Tryz.prog W fuel 32 (sL 2 oh) (kL MU):=mS Tryz.underlying32 kr de Uz abb fuel
instance:Inhabited uM:=⟨ajT⟩
def Je(v:uM):Prop:=aci v.oq/\(v.o5.length<=maxLen/\∀y,y∈v.o5->Uy y)/\(v.Jp.length<=maxLen/\∀y,y∈v.Jp->y.length<=140737488351232)/\(v.ke.length<=maxLen/\∀y,y∈v.ke->MU y)
theorem ahB(fuel:Nat):dU eP Tryz.prog W fuel 34 UA Je:=by
 obtain _|fuel:=fuel
 ·exact mZ
 refine mT fuel Tryz.underlying34 fun cs hl hf=>?_;obtain⟨x0,k0,l0⟩:=fO 0 rfl (k:=15) kr (afQ fuel) hf;obtain⟨x1,k1,l1⟩:=fO 1 rfl (k:=1) kr (an2 fuel) hf;obtain⟨x2,k2,l2⟩:=fO 2 rfl (k:=1) kr (ajR fuel) hf;obtain⟨x3,k3,l3⟩:=fO 3 rfl (k:=1) kr (an3 fuel) hf;refine⟨.mk x0 x1 x2 x3,⟨k0,k1,k2,k3⟩,?_⟩;simpa [sL,UA] using LD.cat (o:=0) l0 (LD.cat l1 (LD.cat l2 (LD.cat l3 (LD.fin (hl.trans kr)))))
end Go.Proofs.YthmndfnkdgmenaaGreatDoor
