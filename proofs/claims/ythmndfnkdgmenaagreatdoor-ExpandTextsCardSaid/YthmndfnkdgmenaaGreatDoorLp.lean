import Derived.Test.YthmndfnkdgmenaaGreatDoorRk
import Derived.Test.YthmndfnkdgmenaaGreatDoorZ2
import Derived.Test.YthmndfnkdgmenaaGreatDoorRows
import Derived.Test.YthmndfnkdgmenaaGreatDoorCards
import Derived.Test.YthmndfnkdgmenaaGreatDoorTie
import Derived.WalkKit
import Derived.ProofKit
import Derived.OpenShut
import Derived.ShutString
import Derived.ChangeOld
import Derived.LaidLaws
import Derived.LaidHandle
import Derived.Lay
import Derived.Shelf.Vars
import Derived.HandedShaped
import Derived.Stop.LaidErr
import Derived.Stop.Joined
import Derived.JoinedOf
import Derived.SevenTiedAt
import Derived.Lib.LaidTab
set_option linter.all false
namespace Go.Proofs.YthmndfnkdgmenaaGreatDoor
open Go.ChangeShapes Go.WideShapes Go.ChangeAt Go.RowKit Go.RT
theorem own:ownKnob Tryz.prog.godebug=none:=by kernel_rfl
theorem laidOut:laidOutB Tryz.prog=true:=by kernel_rfl
abbrev Ei:J (String×DataW Unit):=[("math/bits.deBruijn32tab",Rows.laid_math_bits_deBruijn32tab),("math/bits.deBruijn64tab",Rows.laid_math_bits_deBruijn64tab),("internal/strconv.uint64pow10",Rows.laid_internal_strconv_uint64pow10),("unicode/utf8.acceptRanges",Rows.laid_unicode_utf8_acceptRanges),("unicode/utf8.first",Rows.laid_unicode_utf8_first)]
theorem abc:(Ei.filter fun x=>x.2.handleName?.isNone)=Ei:=by kernel_rfl
theorem WX{W:U}{g:Nat}{v:Value}(h:W.cell? ⟨g,0,none⟩=some v):∃cs t m,W.heap[g]? = some (.cells cs t m)/\cs[0]? = some v:=by
 unfold World.cell? at h;split at h
 ·rename_i cs t m hh
  exact⟨cs,t,m,hh,by simpa using h⟩
 ·cases h
theorem Yp{W:U}(h:laidMetH Tryz.prog Ei W)(hs:W.ShapedOpen Tryz.prog):∀b p,E.gb b=some p->∃cs t m,W.heap[b]? = some (.cells cs t m)/\p cs:=by
 have h':laidMet Tryz.prog Ei W:=h;intro b p hb;have hb:(cond (Nat.beq b 1) (some (fun cs:aI Value=>cs=(Lib.pow10Tab.map fun z=>Value.int .u64 z).toArray)) (cond (Nat.beq b 0) (some (fun cs:aI Value=>∃m,cs[0]? = some (Value.int .i64 m))) none))=some p:=hb;cases he:Nat.beq b 1<;>rw [he] at hb<;>simp only [bq,aS] at hb
 rotate_left
 ·cases hb
  have:=eB he;subst this
  have ht:Lib.TabIs Tryz.prog W "internal/strconv.uint64pow10" .u64 Lib.pow10Tab:=Lib.tabIs_of_head (rest:=_) (g:=1) (t:=418) (e:=302) (n:=20) kr kr Tryz.underlying418 Tryz.underlying302 kr kr h'.tail.tail
  unfold Lib.TabIs World.var? at ht
  rw [show Tryz.prog.globalNamed "internal/strconv.uint64pow10" = some 1 by kernel_rfl] at ht
  simp only [aC] at ht;split at ht
  ·rename_i cs' t m hh
   cases ht;exact⟨_,t,m,hh,rfl⟩
  ·cases ht
 cases VX:Nat.beq b 0<;>rw [VX] at hb<;>simp only [bq,aS] at hb
 ·cases hb
 cases hb;have:=eB VX;subst this;obtain⟨m,hm⟩:=cell_of_shapedOpen_int (g:=0) (t:=3) (k:=.i64) (zero:=#[.int .i64 0]) hs (wS kr) kr rfl kr kr Tryz.underlying3;obtain⟨cs,t,m2,q1,q2⟩:=WX hm;exact⟨cs,t,m2,q1,m,q2⟩
noncomputable def VS(os:Os):U:=World.laidAll Tryz.prog os Ei
set_option maxRecDepth 100000 in
theorem WW(os:Os)(args:aI Value):laidMetH Tryz.prog Ei ((VS os).forCall (fun _ _=>0) ⟨#[],args,[]⟩).memory:=
 laidMetH_of_parts (by rw [abc];exact laidMet_laidAll args kr kr) kr
theorem WV{H:Type}{enc:aD×Value->H}{a:Assume}{C:Checked}{os:Os}{f:FuncId}{fn:Func}{s:ChangeSpec}{conds:J PathCond}{apart fresh handsOn again:Bool}{X:U->aI Value->Prop}
  (hX:∀(w w':U)(args:aI Value),w.heap=w'.heap->X w args->X w' args)
  (own:ownKnob C.prog.godebug=none) (started:os.Started) (noInit:C.prog.inits.idxOf? f=none) (hfn:C.prog.funcs[f]? = some fn)
  (witness:∃(w:U)(tape:Tape)(i:Input),w.os=os/\(w.forCall tape i).Shaped C.prog/\i.vars=[]/\Input.okWide C.prog (w.forCall tape i) .any w.heap.size f i /\
   ((s.pre enc C.prog fn conds apart (w.forCall tape i).memory i.args/\X (w.forCall tape i).memory i.args)/\sizedMet enc C.prog fn (OpenSpec.ofChange s) apart (w.forCall tape i).memory i.args)/\a.holds C.prog (lone (Frame.enter C.prog f i.args .normal) [] (w.forCall tape i)))
  (contract:∀(W:U)(base:Nat)(args:aI Value)(ds gs:J (DataW H))(before:J MemPlace),
   (∀(j:Nat) t v,fn.params[j]? = some t->args[j]? = some v->Value.okWide C.prog W .any base t v) ->
   DataW.Whole enc C.prog fn.params.toList s.vars apart W args.toList ds gs before ->
   X W args->W.ShapedOpen C.prog->(DataW.weightsEach C.prog (fn.params.toList++(OpenSpec.ofChange s).bare.plain.varTypes C.prog) (ds++gs)).all (·<=reachBytes)=true ->
   Calls C.prog f args W fun e W'=>∃v,e=.returned v/\s.post enc C.prog fn apart fresh handsOn again W args v W') :
  ReturnsInHanded a C os f .any (fun w args=>(s.pre enc C.prog fn conds apart w args/\X w args)/\sizedMet enc C.prog fn (OpenSpec.ofChange s) apart w args) (s.post enc C.prog fn apart fresh handsOn again):=by
 refine returnsInHanded_of_calls own started noInit witness ?_;intro w tape i _ hsh _ hok hpre _;obtain⟨_,_,_,fn',aph,_,_,_,_,hval⟩:=hok;have e:fn'=fn:=uK (aph.symm.trans hfn);subst e;obtain⟨⟨⟨ds,gs,before,hw,hc⟩,hx⟩,hz⟩:=hpre;have hw':=DataW.Whole.of_heap (w':=w.forCall tape i) (by rfl) hw;refine (contract (w.forCall tape i) w.heap.size i.args ds gs before hval hw' (hX _ _ _ (by rfl) hx) hsh (hz.weights hw)).mono fun e W' ⟨v,he,hp⟩=>?_;subst he;exact ChangeSpec.post_blind hp
variable {H : Type} {eP : aD × Value -> H} {W : U}
theorem mT{t:aD}{fs:aI Field}{α:Type}{enc:α->J DV}{ok:α->Prop}(fuel:Nat)(ht:Tryz.prog.underlying t=some (.struct fs))(hh:∀cs:J Value,cs.length=Tryz.prog.cellsOf t->(∀f,f∈fs.toList->∃y,DataW.trod eP Tryz.prog W 0 (fun _=>true) true fuel f.type ((cs.drop f.offset).take (Tryz.prog.cellsOf f.type))=some y/\Ht Tryz.prog f.type y.1)->∃x,ok x/\LD W (fun b _=>b<W.heap.size) cs (enc x)):dU eP Tryz.prog W (fuel+1) t enc ok:=fun cs d ps h hw=>have q:=MO ht h hw;hh cs q.1 q.2
theorem mZ{t:aD}{α:Type}{enc:α->J DV}{ok:α->Prop}:dU eP Tryz.prog W 0 t enc ok:=by intro cs d ps h;cases h
def sL{α:Type}(k:Nat)(enc:α->J DV)(vs:J α):J DV:=[DV.slice k (vs.map enc)]
def kL{α:Type}(ok:α->Prop)(vs:J α):Prop:=vs.length<=maxLen/\∀y,y∈vs->ok y
theorem mS{t e:aD}{k:Nat}{α:Type}[Inhabited α]{enc:α->J DV}{ok:α->Prop}(ht:Tryz.prog.underlying t=some (.slice e))(hk:Tryz.prog.cellsOf e=k)(hkp:0<k)(hlen:∀x,(enc x).length=k)(he:∀fuel,dU eP Tryz.prog W fuel e enc ok):∀fuel,dU eP Tryz.prog W fuel t (sL k enc) (kL ok)
 | 0=>mZ
 | n+1=>PO ht hk hkp hlen (he n)
theorem mK{t e:aD}{k:Nat}{α:Type}[Inhabited α]{enc:α->J DV}{ok:α->Prop}{n:Nat}(ht:Tryz.prog.underlying t=some (.slice e))(hk:Tryz.prog.cellsOf e=k)(hkp:0<k)(hlen:∀x,(enc x).length=k)(he:∀fuel,fuel<n->dU eP Tryz.prog W fuel e enc ok):∀fuel,fuel<n->dU eP Tryz.prog W fuel t (sL k enc) (kL ok)
 | 0,_=>mZ
 | n+1,h=>PO ht hk hkp hlen (he n om)
variable {fs : aI Field} {fuel : Nat} {cs : J Value} (j : Nat) {f : Field}
theorem gS(hf:fs[j]? = some f)(e:f.type=9)(h:∀f,f∈fs.toList->∃y,DataW.trod eP Tryz.prog W 0 (fun _=>true) true fuel f.type ((cs.drop f.offset).take (Tryz.prog.cellsOf f.type))=some y/\Ht Tryz.prog f.type y.1):∃x:Bs,(x.length<=140737488351232)/\LD W (fun b _=>b<W.heap.size) ((cs.drop f.offset).take 1) [DV.str x]:=fP j hf (by rw [e];kernel_rfl) (e▸FF Tryz.underlying9 fuel) h
theorem gI(hf:fs[j]? = some f)(e:f.type=3)(h:∀f,f∈fs.toList->∃y,DataW.trod eP Tryz.prog W 0 (fun _=>true) true fuel f.type ((cs.drop f.offset).take (Tryz.prog.cellsOf f.type))=some y/\Ht Tryz.prog f.type y.1):∃x:Int,((Lit.int .i64 x).wf=true)/\LD W (fun b _=>b<W.heap.size) ((cs.drop f.offset).take 1) [DV.int .i64 x]:=fP j hf (by rw [e];kernel_rfl) (e▸afP Tryz.underlying3 fuel) h
theorem gB(hf:fs[j]? = some f)(e:f.type=4)(h:∀f,f∈fs.toList->∃y,DataW.trod eP Tryz.prog W 0 (fun _=>true) true fuel f.type ((cs.drop f.offset).take (Tryz.prog.cellsOf f.type))=some y/\Ht Tryz.prog f.type y.1):∃x:Bool,(True)/\LD W (fun b _=>b<W.heap.size) ((cs.drop f.offset).take 1) [DV.bool x]:=fP j hf (by rw [e];kernel_rfl) (e▸adJ Tryz.underlying4 fuel) h
theorem abd(x:bC):(Bv x).length=5:=by cases x;simp [Bv]
instance:Inhabited bC:=⟨dW⟩
def Yw(v:bC):Prop:=v.fName.length<=140737488351232/\v.bL.length<=140737488351232/\True/\True/\True
theorem ahS(fuel:Nat):dU eP Tryz.prog W fuel 64 Bv Yw:=by
 obtain _|fuel:=fuel
 ·exact mZ
 refine mT fuel Tryz.underlying64 fun cs hl hf=>?_;obtain⟨x0,k0,l0⟩:=gS 0 rfl rfl hf;obtain⟨x1,k1,l1⟩:=gS 1 rfl rfl hf;obtain⟨x2,k2,l2⟩:=gB 2 rfl rfl hf;obtain⟨x3,k3,l3⟩:=gB 3 rfl rfl hf;obtain⟨x4,k4,l4⟩:=gB 4 rfl rfl hf;refine⟨.mk x0 x1 x2 x3 x4,⟨k0,k1,k2,k3,k4⟩,?_⟩;simpa [sL,Bv] using LD.cat (o:=0) l0 (LD.cat l1 (LD.cat l2 (LD.cat l3 (LD.cat l4 (LD.fin (hl.trans kr))))))
theorem an0(fuel:Nat):dU eP Tryz.prog W fuel 22 (sL 5 Bv) (kL Yw):=mS Tryz.underlying22 kr de abd ahS fuel
theorem ajU(fuel:Nat):dU eP Tryz.prog W fuel 23 (sL 1 (fun l:Bs=>[DV.str l])) (kL fun y:Bs=>y.length<=140737488351232):=mS (k:=1) Tryz.underlying23 kr de (fun _=>rfl) (FF Tryz.underlying9) fuel
instance:Inhabited TPart:=⟨jZ⟩
inductive Bw:TPart->Prop
 | mk (x0:Int) (x1:Bs) (x2:Int) (x3:Bool) (x4:List TPart) (h0:(Lit.int .i64 x0).wf=true) (h1:x1.length<=140737488351232) (h2:(Lit.int .i64 x2).wf=true) (h3:True) (h4:x4.length<=maxLen) (g4:∀y,y∈x4->Bw y):Bw (.mk x0 x1 x2 x3 x4)
theorem MP(x:TPart):(lF x).length=5:=by cases x;simp [lF]
theorem adK(fuel:Nat):dU eP Tryz.prog W fuel 103 lF Bw:=by
 induction fuel using Nat.strongRecOn with
 | _ fuel ih=>
  have ama:∀f,f<fuel->dU eP Tryz.prog W f 38 (sL 5 lF) (kL Bw):=mK Tryz.underlying38 kr de MP fun f h=>(ih f h);obtain _|fuel:=fuel
  ·exact mZ
  refine mT fuel Tryz.underlying103 fun cs hl hf=>?_;obtain⟨x0,k0,l0⟩:=gI 0 rfl rfl hf;obtain⟨x1,k1,l1⟩:=gS 1 rfl rfl hf;obtain⟨x2,k2,l2⟩:=gI 2 rfl rfl hf;obtain⟨x3,k3,l3⟩:=gB 3 rfl rfl hf;obtain⟨x4,k4,l4⟩:=fP 4 rfl (k:=1) kr (ama fuel om) hf;refine⟨.mk x0 x1 x2 x3 x4,.mk _ _ _ _ _ k0 k1 k2 k3 k4.1 k4.2,?_⟩;simpa [sL,lF,Dp] using LD.cat (o:=0) l0 (LD.cat l1 (LD.cat l2 (LD.cat l3 (LD.cat l4 (LD.fin (hl.trans kr))))))
theorem adL(fuel:Nat):dU eP Tryz.prog W fuel 103 lF Bw:=(adK fuel)
theorem an1(fuel:Nat):dU eP Tryz.prog W fuel 38 (sL 5 lF) (kL Bw):=mS Tryz.underlying38 kr de MP adL fuel
theorem FN(x:fZ):(qC x).length=2:=by cases x;simp [qC]
instance:Inhabited fZ:=⟨xu⟩
def Fo(v:fZ):Prop:=(Lit.int .i64 v.fPos).wf=true/\(v.fParts.length<=maxLen/\∀y,y∈v.fParts->Bw y)
theorem MQ(fuel:Nat):dU eP Tryz.prog W fuel 48 qC Fo:=by
 obtain _|fuel:=fuel
 ·exact mZ
 refine mT fuel Tryz.underlying48 fun cs hl hf=>?_;obtain⟨x0,k0,l0⟩:=gI 0 rfl rfl hf;obtain⟨x1,k1,l1⟩:=fP 1 rfl (k:=1) kr (an1 fuel) hf;refine⟨.mk x0 x1,⟨k0,k1⟩,?_⟩;simpa [sL,qC] using LD.cat (o:=0) l0 (LD.cat l1 (LD.fin (hl.trans kr)))
theorem Uv(x:rB):(sX x).length=4:=by cases x;simp [sX,FN]
instance:Inhabited rB:=⟨Yx⟩
def MS(v:rB):Prop:=(Lit.int .i64 v.fPos).wf=true/\v.fName.length<=140737488351232/\Fo v.bL
theorem Yy(fuel:Nat):dU eP Tryz.prog W fuel 212 sX MS:=by
 obtain _|fuel:=fuel
 ·exact mZ
 refine mT fuel Tryz.underlying212 fun cs hl hf=>?_;obtain⟨x0,k0,l0⟩:=gI 0 rfl rfl hf;obtain⟨x1,k1,l1⟩:=gS 1 rfl rfl hf;obtain⟨x2,k2,l2⟩:=fP 2 rfl (k:=2) kr (MQ fuel) hf;refine⟨.mk x0 x1 x2,⟨k0,k1,k2⟩,?_⟩;simpa [sL,sX] using LD.cat (o:=0) l0 (LD.cat l1 (LD.cat l2 (LD.fin (hl.trans kr))))
theorem amb(fuel:Nat):dU eP Tryz.prog W fuel 156 (sL 4 sX) (kL MS):=mS Tryz.underlying156 kr de Uv Yy fuel
theorem ajV(fuel:Nat):dU eP Tryz.prog W fuel 35 (sL 2 qC) (kL Fo):=mS Tryz.underlying35 kr de FN MQ fuel
theorem WY(x:uU):(uV x).length=5:=by cases x;simp [uV,FN]
instance:Inhabited uU:=⟨acm⟩
def QE(v:uU):Prop:=(Lit.int .i64 v.fPos).wf=true/\(Lit.int .i64 v.fFd).wf=true/\(Lit.int .i64 v.fOp).wf=true/\Fo v.Uw
theorem abe(fuel:Nat):dU eP Tryz.prog W fuel 217 uV QE:=by
 obtain _|fuel:=fuel
 ·exact mZ
 refine mT fuel Tryz.underlying217 fun cs hl hf=>?_;obtain⟨x0,k0,l0⟩:=gI 0 rfl rfl hf;obtain⟨x1,k1,l1⟩:=gI 1 rfl rfl hf;obtain⟨x2,k2,l2⟩:=gI 2 rfl rfl hf;obtain⟨x3,k3,l3⟩:=fP 3 rfl (k:=2) kr (MQ fuel) hf;refine⟨.mk x0 x1 x2 x3,⟨k0,k1,k2,k3⟩,?_⟩;simpa [sL,uV] using LD.cat (o:=0) l0 (LD.cat l1 (LD.cat l2 (LD.cat l3 (LD.fin (hl.trans kr)))))
theorem amc(fuel:Nat):dU eP Tryz.prog W fuel 157 (sL 5 uV) (kL QE):=mS Tryz.underlying157 kr de WY abe fuel
instance:Inhabited TNode:=⟨Yz⟩
instance:Inhabited TItem:=⟨afQ⟩
mutual
inductive Bx:TNode->Prop
 | mk (x0:Int) (x1:Int) (x2:Bs) (x3:Bool) (x4:List rB) (x5:List fZ) (x6:List uU) (x7:List TNode) (x8:List TItem) (h0:(Lit.int .i64 x0).wf=true) (h1:(Lit.int .i64 x1).wf=true) (h2:x2.length<=140737488351232) (h3:True) (h4:(x4.length<=maxLen/\∀y,y∈x4->MS y)) (h5:(x5.length<=maxLen/\∀y,y∈x5->Fo y)) (h6:(x6.length<=maxLen/\∀y,y∈x6->QE y)) (h7:x7.length<=maxLen) (g7:∀y,y∈x7->Bx y) (h8:x8.length<=maxLen) (g8:∀y,y∈x8->OR y):Bx (.mk x0 x1 x2 x3 x4 x5 x6 x7 x8)
inductive OR:TItem->Prop
 | mk (x0:List fZ) (x1:List TNode) (h0:(x0.length<=maxLen/\∀y,y∈x0->Fo y)) (h1:x1.length<=maxLen) (g1:∀y,y∈x1->Bx y):OR (.mk x0 x1)
end
theorem MT(x:TNode):(nK x).length=9:=by cases x;simp [nK]
theorem YA(x:TItem):(qD x).length=2:=by cases x;simp [qD]
theorem adM(fuel:Nat):dU eP Tryz.prog W fuel 161 nK Bx/\dU eP Tryz.prog W fuel 221 qD OR:=by
 induction fuel using Nat.strongRecOn with
 | _ fuel ih=>
  have acn:∀f,f<fuel->dU eP Tryz.prog W f 158 (sL 9 nK) (kL Bx):=mK Tryz.underlying158 kr de MT fun f h=>(ih f h).1;have akD:∀f,f<fuel->dU eP Tryz.prog W f 159 (sL 2 qD) (kL OR):=mK Tryz.underlying159 kr de YA fun f h=>(ih f h).2;refine⟨?_,?_⟩
  ·obtain _|fuel:=fuel
   ·exact mZ
   refine mT fuel Tryz.underlying161 fun cs hl hf=>?_;obtain⟨x0,k0,l0⟩:=gI 0 rfl rfl hf;obtain⟨x1,k1,l1⟩:=gI 1 rfl rfl hf;obtain⟨x2,k2,l2⟩:=gS 2 rfl rfl hf;obtain⟨x3,k3,l3⟩:=gB 3 rfl rfl hf;obtain⟨x4,k4,l4⟩:=fP 4 rfl (k:=1) kr (amb fuel) hf;obtain⟨x5,k5,l5⟩:=fP 5 rfl (k:=1) kr (ajV fuel) hf;obtain⟨x6,k6,l6⟩:=fP 6 rfl (k:=1) kr (amc fuel) hf;obtain⟨x7,k7,l7⟩:=fP 7 rfl (k:=1) kr (acn fuel om) hf;obtain⟨x8,k8,l8⟩:=fP 8 rfl (k:=1) kr (akD fuel om) hf;refine⟨.mk x0 x1 x2 x3 x4 x5 x6 x7 x8,.mk _ _ _ _ _ _ _ _ _ k0 k1 k2 k3 k4 k5 k6 k7.1 k7.2 k8.1 k8.2,?_⟩;simpa [sL,nK,tA,tB] using LD.cat (o:=0) l0 (LD.cat l1 (LD.cat l2 (LD.cat l3 (LD.cat l4 (LD.cat l5 (LD.cat l6 (LD.cat l7 (LD.cat l8 (LD.fin (hl.trans kr))))))))))
  ·obtain _|fuel:=fuel
   ·exact mZ
   refine mT fuel Tryz.underlying221 fun cs hl hf=>?_;obtain⟨x0,k0,l0⟩:=fP 0 rfl (k:=1) kr (ajV fuel) hf;obtain⟨x1,k1,l1⟩:=fP 1 rfl (k:=1) kr (acn fuel om) hf;refine⟨.mk x0 x1,.mk _ _ k0 k1.1 k1.2,?_⟩;simpa [sL,qD,tA,tB] using LD.cat (o:=0) l0 (LD.cat l1 (LD.fin (hl.trans kr)))
theorem adN(fuel:Nat):dU eP Tryz.prog W fuel 161 nK Bx:=(adM fuel).1
theorem YB(x:yb):(yB x).length=10:=by cases x;simp [yB,MT]
instance:Inhabited yb:=⟨afR⟩
def Ux(v:yb):Prop:=v.fName.length<=140737488351232/\Bx v.fBody
theorem adO(fuel:Nat):dU eP Tryz.prog W fuel 163 yB Ux:=by
 obtain _|fuel:=fuel
 ·exact mZ
 refine mT fuel Tryz.underlying163 fun cs hl hf=>?_;obtain⟨x0,k0,l0⟩:=gS 0 rfl rfl hf;obtain⟨x1,k1,l1⟩:=fP 1 rfl (k:=9) kr (adN fuel) hf;refine⟨.mk x0 x1,⟨k0,k1⟩,?_⟩;simpa [sL,yB] using LD.cat (o:=0) l0 (LD.cat l1 (LD.fin (hl.trans kr)))
theorem an2(fuel:Nat):dU eP Tryz.prog W fuel 24 (sL 10 yB) (kL Ux):=mS Tryz.underlying24 kr de YB adO fuel
theorem WZ(x:bX):(uW x).length=2:=by cases x;simp [uW]
instance:Inhabited bX:=⟨p9⟩
def QF(v:bX):Prop:=v.fName.length<=140737488351232/\v.bL.length<=140737488351232
theorem abf(fuel:Nat):dU eP Tryz.prog W fuel 151 uW QF:=by
 obtain _|fuel:=fuel
 ·exact mZ
 refine mT fuel Tryz.underlying151 fun cs hl hf=>?_;obtain⟨x0,k0,l0⟩:=gS 0 rfl rfl hf;obtain⟨x1,k1,l1⟩:=gS 1 rfl rfl hf;refine⟨.mk x0 x1,⟨k0,k1⟩,?_⟩;simpa [sL,uW] using LD.cat (o:=0) l0 (LD.cat l1 (LD.fin (hl.trans kr)))
theorem an3(fuel:Nat):dU eP Tryz.prog W fuel 25 (sL 2 uW) (kL QF):=mS Tryz.underlying25 kr de WZ abf fuel
theorem YC(x:zq):(yC x).length=2:=by cases x;simp [yC]
instance:Inhabited zq:=⟨afS⟩
def Uy(v:zq):Prop:=(Lit.int .i64 v.ahT).wf=true/\v.Uz.length<=140737488351232
theorem adP(fuel:Nat):dU eP Tryz.prog W fuel 154 yC Uy:=by
 obtain _|fuel:=fuel
 ·exact mZ
 refine mT fuel Tryz.underlying154 fun cs hl hf=>?_;obtain⟨x0,k0,l0⟩:=gI 0 rfl rfl hf;obtain⟨x1,k1,l1⟩:=gS 1 rfl rfl hf;refine⟨.mk x0 x1,⟨k0,k1⟩,?_⟩;simpa [sL,yC] using LD.cat (o:=0) l0 (LD.cat l1 (LD.fin (hl.trans kr)))
theorem an4(fuel:Nat):dU eP Tryz.prog W fuel 26 (sL 2 yC) (kL Uy):=mS Tryz.underlying26 kr de YC adP fuel
instance:Inhabited lU:=⟨Kj⟩
def PR(v:lU):Prop:=(Lit.int .i64 v.Jm).wf=true/\(Lit.int .i64 v.Fp).wf=true
theorem W4(fuel:Nat):dU eP Tryz.prog W fuel 28 zu PR:=by
 obtain _|fuel:=fuel
 ·exact mZ
 refine mT fuel Tryz.underlying28 fun cs hl hf=>?_;obtain⟨x0,k0,l0⟩:=gI 0 rfl rfl hf;obtain⟨x1,k1,l1⟩:=gI 1 rfl rfl hf;refine⟨.mk x0 x1,⟨k0,k1⟩,?_⟩;simpa [sL,zu] using LD.cat (o:=0) l0 (LD.cat l1 (LD.fin (hl.trans kr)))
instance:Inhabited dM:=⟨Jn⟩
def aco(v:dM):Prop:=v.fName.length<=140737488351232/\(v.bN.length<=maxLen/\∀y,y∈v.bN->Yw y)/\(v.cC.length<=maxLen/\∀y,y∈v.cC->y.length<=140737488351232)/\(v.tC.length<=maxLen/\∀y,y∈v.tC->Ux y)/\(v.nL.length<=maxLen/\∀y,y∈v.nL->QF y)/\(v.tD.length<=maxLen/\∀y,y∈v.tD->Uy y)/\(Lit.int .i64 v.iA).wf=true/\(Lit.int .i64 v.fH).wf=true/\(Lit.int .i64 v.Bz).wf=true/\(Lit.int .i64 v.oh).wf=true/\v.Kk.length<=140737488351232/\PR v.vU/\(Lit.int .i64 v.Jo).wf=true/\True
theorem afT(fuel:Nat):dU eP Tryz.prog W fuel 30 yD aco:=by
 obtain _|fuel:=fuel
 ·exact mZ
 refine mT fuel Tryz.underlying30 fun cs hl hf=>?_;obtain⟨x0,k0,l0⟩:=gS 0 rfl rfl hf;obtain⟨x1,k1,l1⟩:=fP 1 rfl (k:=1) kr (an0 fuel) hf;obtain⟨x2,k2,l2⟩:=fP 2 rfl (k:=1) kr (ajU fuel) hf;obtain⟨x3,k3,l3⟩:=fP 3 rfl (k:=1) kr (an2 fuel) hf;obtain⟨x4,k4,l4⟩:=fP 4 rfl (k:=1) kr (an3 fuel) hf;obtain⟨x5,k5,l5⟩:=fP 5 rfl (k:=1) kr (an4 fuel) hf;obtain⟨x6,k6,l6⟩:=gI 6 rfl rfl hf;obtain⟨x7,k7,l7⟩:=gI 7 rfl rfl hf;obtain⟨x8,k8,l8⟩:=gI 8 rfl rfl hf;obtain⟨x9,k9,l9⟩:=gI 9 rfl rfl hf;obtain⟨bW,k10,l10⟩:=gS 10 rfl rfl hf;obtain⟨fT,k11,l11⟩:=fP 11 rfl (k:=2) kr (W4 fuel) hf;obtain⟨fD,k12,l12⟩:=gI 12 rfl rfl hf;obtain⟨fF,k13,l13⟩:=gB 13 rfl rfl hf;refine⟨.mk x0 x1 x2 x3 x4 x5 x6 x7 x8 x9 bW fT fD fF,⟨k0,k1,k2,k3,k4,k5,k6,k7,k8,k9,k10,k11,k12,k13⟩,?_⟩;simpa [sL,yD] using LD.cat (o:=0) l0 (LD.cat l1 (LD.cat l2 (LD.cat l3 (LD.cat l4 (LD.cat l5 (LD.cat l6 (LD.cat l7 (LD.cat l8 (LD.cat l9 (LD.cat l10 (LD.cat l11 (LD.cat l12 (LD.cat l13 (LD.fin (hl.trans kr)))))))))))))))
theorem YE(x:bu):(uX x).length=3:=by cases x;simp [uX]
instance:Inhabited bu:=⟨bP⟩
def UA(v:bu):Prop:=v.bS.length<=140737488351232/\True/\v.fData.length<=140737488351232
theorem afU(fuel:Nat):dU eP Tryz.prog W fuel 66 uX UA:=by
 obtain _|fuel:=fuel
 ·exact mZ
 refine mT fuel Tryz.underlying66 fun cs hl hf=>?_;obtain⟨x0,k0,l0⟩:=gS 0 rfl rfl hf;obtain⟨x1,k1,l1⟩:=gB 1 rfl rfl hf;obtain⟨x2,k2,l2⟩:=gS 2 rfl rfl hf;refine⟨.mk x0 x1 x2,⟨k0,k1,k2⟩,?_⟩;simpa [sL,uX] using LD.cat (o:=0) l0 (LD.cat l1 (LD.cat l2 (LD.fin (hl.trans kr))))
theorem an5(fuel:Nat):dU eP Tryz.prog W fuel 31 (sL 3 uX) (kL UA):=mS Tryz.underlying31 kr de YE afU fuel
theorem UB(x:fh):(oq x).length=2:=by cases x;simp [oq]
instance:Inhabited fh:=⟨BA⟩
def MU(v:fh):Prop:=v.fText.length<=140737488351232/\(Lit.int .i64 v.fH).wf=true
theorem abg(fuel:Nat):dU eP Tryz.prog W fuel 56 oq MU:=by
 obtain _|fuel:=fuel
 ·exact mZ
 refine mT fuel Tryz.underlying56 fun cs hl hf=>?_;obtain⟨x0,k0,l0⟩:=gS 0 rfl rfl hf;obtain⟨x1,k1,l1⟩:=gI 1 rfl rfl hf;refine⟨.mk x0 x1,⟨k0,k1⟩,?_⟩;simpa [sL,oq] using LD.cat (o:=0) l0 (LD.cat l1 (LD.fin (hl.trans kr)))
theorem an6(fuel:Nat):dU eP Tryz.prog W fuel 32 (sL 2 oq) (kL MU):=mS Tryz.underlying32 kr de UB abg fuel
instance:Inhabited uO:=⟨ajW⟩
def Je(v:uO):Prop:=aco v.ou/\(v.o6.length<=maxLen/\∀y,y∈v.o6->UA y)/\(v.Jp.length<=maxLen/\∀y,y∈v.Jp->y.length<=140737488351232)/\(v.ke.length<=maxLen/\∀y,y∈v.ke->MU y)
theorem ahE(fuel:Nat):dU eP Tryz.prog W fuel 34 UC Je:=by
 obtain _|fuel:=fuel
 ·exact mZ
 refine mT fuel Tryz.underlying34 fun cs hl hf=>?_;obtain⟨x0,k0,l0⟩:=fP 0 rfl (k:=15) kr (afT fuel) hf;obtain⟨x1,k1,l1⟩:=fP 1 rfl (k:=1) kr (an5 fuel) hf;obtain⟨x2,k2,l2⟩:=fP 2 rfl (k:=1) kr (ajU fuel) hf;obtain⟨x3,k3,l3⟩:=fP 3 rfl (k:=1) kr (an6 fuel) hf;refine⟨.mk x0 x1 x2 x3,⟨k0,k1,k2,k3⟩,?_⟩;simpa [sL,UC] using LD.cat (o:=0) l0 (LD.cat l1 (LD.cat l2 (LD.cat l3 (LD.fin (hl.trans kr)))))
end Go.Proofs.YthmndfnkdgmenaaGreatDoor
