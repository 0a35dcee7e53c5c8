import Derived.Test.YtlgmlcgjmcmmgaaGreatDoorRk
import Derived.Test.YtlgmlcgjmcmmgaaGreatDoorZ2
import Derived.Test.YtlgmlcgjmcmmgaaGreatDoorRows
import Derived.Test.YtlgmlcgjmcmmgaaGreatDoorCards
import Derived.Test.YtlgmlcgjmcmmgaaGreatDoorTie
import Derived.WalkKit
import Derived.ProofKit
import Derived.OpenShut
import Derived.ShutString
import Derived.ChangeOld
import Derived.LaidLaws
import Derived.LaidHandle
import Derived.Lay
import Derived.Shelf.Vars
import Derived.HandedShaped
import Derived.Stop.LaidErr
import Derived.Stop.Joined
import Derived.JoinedOf
import Derived.SevenTiedAt
import Derived.Lib.LaidTab
set_option linter.all false
namespace Go.Proofs.YtlgmlcgjmcmmgaaGreatDoor
open Go.ChangeShapes Go.WideShapes Go.ChangeAt Go.RowKit Go.RT
theorem own:ownKnob Tryz.prog.godebug=none:=by kernel_rfl
theorem laidOut:laidOutB Tryz.prog=true:=by kernel_rfl
abbrev Ea:J (String×DataW Unit):=[("math/bits.deBruijn32tab",Rows.laid_math_bits_deBruijn32tab),("math/bits.deBruijn64tab",Rows.laid_math_bits_deBruijn64tab),("internal/strconv.uint64pow10",Rows.laid_internal_strconv_uint64pow10),("unicode/utf8.acceptRanges",Rows.laid_unicode_utf8_acceptRanges),("unicode/utf8.first",Rows.laid_unicode_utf8_first)]
theorem aaW:(Ea.filter fun x=>x.2.handleName?.isNone)=Ea:=by kernel_rfl
theorem WI{W:U}{g:Nat}{v:Value}(h:W.cell? ⟨g,0,none⟩=some v):∃cs t m,W.heap[g]? = some (.cells cs t m)/\cs[0]? = some v:=by
 unfold World.cell? at h;split at h
 ·rename_i cs t m hh
  exact⟨cs,t,m,hh,by simpa using h⟩
 ·cases h
theorem X9{W:U}(h:laidMetH Tryz.prog Ea W)(hs:W.ShapedOpen Tryz.prog):∀b p,E.gb b=some p->∃cs t m,W.heap[b]? = some (.cells cs t m)/\p cs:=by
 have h':laidMet Tryz.prog Ea W:=h;intro b p hb;have hb:(cond (Nat.beq b 1) (some (fun cs:aI Value=>cs=(Lib.pow10Tab.map fun z=>Value.int .u64 z).toArray)) (cond (Nat.beq b 0) (some (fun cs:aI Value=>∃m,cs[0]? = some (Value.int .i64 m))) none))=some p:=hb;cases he:Nat.beq b 1<;>rw [he] at hb<;>simp only [bw,aU] at hb
 rotate_left
 ·cases hb
  have:=ey he;subst this
  have ht:Lib.TabIs Tryz.prog W "internal/strconv.uint64pow10" .u64 Lib.pow10Tab:=Lib.tabIs_of_head (rest:=_) (g:=1) (t:=424) (e:=290) (n:=20) kr kr Tryz.underlying424 Tryz.underlying290 kr kr h'.tail.tail
  unfold Lib.TabIs World.var? at ht
  rw [show Tryz.prog.globalNamed "internal/strconv.uint64pow10" = some 1 by kernel_rfl] at ht
  simp only [aH] at ht;split at ht
  ·rename_i cs' t m hh
   cases ht;exact⟨_,t,m,hh,rfl⟩
  ·cases ht
 cases VH:Nat.beq b 0<;>rw [VH] at hb<;>simp only [bw,aU] at hb
 ·cases hb
 cases hb;have:=ey VH;subst this;obtain⟨m,hm⟩:=cell_of_shapedOpen_int (g:=0) (t:=3) (k:=.i64) (zero:=#[.int .i64 0]) hs (ym kr) kr rfl kr kr Tryz.underlying3;obtain⟨cs,t,m2,q1,q2⟩:=WI hm;exact⟨cs,t,m2,q1,m,q2⟩
noncomputable def VC(os:Os):U:=World.laidAll Tryz.prog os Ea
set_option maxRecDepth 100000 in
theorem WH(os:Os)(args:aI Value):laidMetH Tryz.prog Ea ((VC os).forCall (fun _ _=>0) ⟨#[],args,[]⟩).memory:=
 laidMetH_of_parts (by rw [aaW];exact laidMet_laidAll args kr kr) kr
theorem WG{H:Type}{enc:aC×Value->H}{a:Assume}{C:Checked}{os:Os}{f:FuncId}{fn:Func}{s:ChangeSpec}{conds:J PathCond}{apart fresh handsOn again:Bool}{X:U->aI Value->Prop}
  (hX:∀(w w':U)(args:aI Value),w.heap=w'.heap->X w args->X w' args)
  (own:ownKnob C.prog.godebug=none) (started:os.Started) (noInit:C.prog.inits.idxOf? f=none) (hfn:C.prog.funcs[f]? = some fn)
  (witness:∃(w:U)(tape:Tape)(i:Input),w.os=os/\(w.forCall tape i).Shaped C.prog/\i.vars=[]/\Input.okWide C.prog (w.forCall tape i) .any w.heap.size f i /\
   ((s.pre enc C.prog fn conds apart (w.forCall tape i).memory i.args/\X (w.forCall tape i).memory i.args)/\sizedMet enc C.prog fn (OpenSpec.ofChange s) apart (w.forCall tape i).memory i.args)/\a.holds C.prog (lone (Frame.enter C.prog f i.args .normal) [] (w.forCall tape i)))
  (contract:∀(W:U)(base:Nat)(args:aI Value)(ds gs:J (DataW H))(before:J MemPlace),
   (∀(j:Nat) t v,fn.params[j]? = some t->args[j]? = some v->Value.okWide C.prog W .any base t v) ->
   DataW.Whole enc C.prog fn.params.toList s.vars apart W args.toList ds gs before ->
   X W args->W.ShapedOpen C.prog->(DataW.weightsEach C.prog (fn.params.toList++(OpenSpec.ofChange s).bare.plain.varTypes C.prog) (ds++gs)).all (·<=reachBytes)=true ->
   Calls C.prog f args W fun e W'=>∃v,e=.returned v/\s.post enc C.prog fn apart fresh handsOn again W args v W') :
  ReturnsInHanded a C os f .any (fun w args=>(s.pre enc C.prog fn conds apart w args/\X w args)/\sizedMet enc C.prog fn (OpenSpec.ofChange s) apart w args) (s.post enc C.prog fn apart fresh handsOn again):=by
 refine returnsInHanded_of_calls own started noInit witness ?_;intro w tape i _ hsh _ hok hpre _;obtain⟨_,_,_,fn',ao7,_,_,_,_,hval⟩:=hok;have e:fn'=fn:=uy (ao7.symm.trans hfn);subst e;obtain⟨⟨⟨ds,gs,before,hw,hc⟩,hx⟩,hz⟩:=hpre;have hw':=DataW.Whole.of_heap (w':=w.forCall tape i) (by rfl) hw;refine (contract (w.forCall tape i) w.heap.size i.args ds gs before hval hw' (hX _ _ _ (by rfl) hx) hsh (hz.weights hw)).mono fun e W' ⟨v,he,hp⟩=>?_;subst he;exact ChangeSpec.post_blind hp
variable {H : Type} {eN : aC × Value -> H} {W : U}
theorem mT{t:aC}{fs:aI Field}{α:Type}{enc:α->J DV}{ok:α->Prop}(fuel:Nat)(ht:Tryz.prog.underlying t=some (.struct fs))(hh:∀cs:J Value,cs.length=Tryz.prog.cellsOf t->(∀f,f∈fs.toList->∃y,DataW.trod eN Tryz.prog W 0 (fun _=>true) true fuel f.type ((cs.drop f.offset).take (Tryz.prog.cellsOf f.type))=some y/\Hf Tryz.prog f.type y.1)->∃x,ok x/\LD W (fun b _=>b<W.heap.size) cs (enc x)):dN eN Tryz.prog W (fuel+1) t enc ok:=fun cs d ps h hw=>have q:=My ht h hw;hh cs q.1 q.2
theorem mZ{t:aC}{α:Type}{enc:α->J DV}{ok:α->Prop}:dN eN Tryz.prog W 0 t enc ok:=by intro cs d ps h;cases h
def sL{α:Type}(k:Nat)(enc:α->J DV)(vs:J α):J DV:=[DV.slice k (vs.map enc)]
def kL{α:Type}(ok:α->Prop)(vs:J α):Prop:=vs.length<=maxLen/\∀y,y∈vs->ok y
theorem mS{t e:aC}{k:Nat}{α:Type}[Inhabited α]{enc:α->J DV}{ok:α->Prop}(ht:Tryz.prog.underlying t=some (.slice e))(hk:Tryz.prog.cellsOf e=k)(hkp:0<k)(hlen:∀x,(enc x).length=k)(he:∀fuel,dN eN Tryz.prog W fuel e enc ok):∀fuel,dN eN Tryz.prog W fuel t (sL k enc) (kL ok)
 | 0=>mZ
 | n+1=>Pv ht hk hkp hlen (he n)
theorem mK{t e:aC}{k:Nat}{α:Type}[Inhabited α]{enc:α->J DV}{ok:α->Prop}{n:Nat}(ht:Tryz.prog.underlying t=some (.slice e))(hk:Tryz.prog.cellsOf e=k)(hkp:0<k)(hlen:∀x,(enc x).length=k)(he:∀fuel,fuel<n->dN eN Tryz.prog W fuel e enc ok):∀fuel,fuel<n->dN eN Tryz.prog W fuel t (sL k enc) (kL ok)
 | 0,_=>mZ
 | n+1,h=>Pv ht hk hkp hlen (he n om)
variable {fs : aI Field} {fuel : Nat} {cs : J Value} (j : Nat) {f : Field}
theorem gS(hf:fs[j]? = some f)(e:f.type=9)(h:∀f,f∈fs.toList->∃y,DataW.trod eN Tryz.prog W 0 (fun _=>true) true fuel f.type ((cs.drop f.offset).take (Tryz.prog.cellsOf f.type))=some y/\Hf Tryz.prog f.type y.1):∃x:Bs,(x.length<=140737488351232)/\LD W (fun b _=>b<W.heap.size) ((cs.drop f.offset).take 1) [DV.str x]:=fM j hf (by rw [e];kernel_rfl) (e▸Mz Tryz.underlying9 fuel) h
theorem gI(hf:fs[j]? = some f)(e:f.type=3)(h:∀f,f∈fs.toList->∃y,DataW.trod eN Tryz.prog W 0 (fun _=>true) true fuel f.type ((cs.drop f.offset).take (Tryz.prog.cellsOf f.type))=some y/\Hf Tryz.prog f.type y.1):∃x:Int,((Lit.int .i64 x).wf=true)/\LD W (fun b _=>b<W.heap.size) ((cs.drop f.offset).take 1) [DV.int .i64 x]:=fM j hf (by rw [e];kernel_rfl) (e▸afH Tryz.underlying3 fuel) h
theorem gB(hf:fs[j]? = some f)(e:f.type=4)(h:∀f,f∈fs.toList->∃y,DataW.trod eN Tryz.prog W 0 (fun _=>true) true fuel f.type ((cs.drop f.offset).take (Tryz.prog.cellsOf f.type))=some y/\Hf Tryz.prog f.type y.1):∃x:Bool,(True)/\LD W (fun b _=>b<W.heap.size) ((cs.drop f.offset).take 1) [DV.bool x]:=fM j hf (by rw [e];kernel_rfl) (e▸adB Tryz.underlying4 fuel) h
theorem aaX(x:bD):(Bn x).length=5:=by cases x;simp [Bn]
instance:Inhabited bD:=⟨dS⟩
def Yg(v:bD):Prop:=v.fName.length<=140737488351232/\v.bJ.length<=140737488351232/\True/\True/\True
theorem ahL(fuel:Nat):dN eN Tryz.prog W fuel 63 Bn Yg:=by
 obtain _|fuel:=fuel
 ·exact mZ
 refine mT fuel Tryz.underlying63 fun cs hl hf=>?_;obtain⟨x0,k0,l0⟩:=gS 0 rfl rfl hf;obtain⟨x1,k1,l1⟩:=gS 1 rfl rfl hf;obtain⟨x2,k2,l2⟩:=gB 2 rfl rfl hf;obtain⟨x3,k3,l3⟩:=gB 3 rfl rfl hf;obtain⟨x4,k4,l4⟩:=gB 4 rfl rfl hf;refine⟨.mk x0 x1 x2 x3 x4,⟨k0,k1,k2,k3,k4⟩,?_⟩;simpa [sL,Bn] using LD.cat (o:=0) l0 (LD.cat l1 (LD.cat l2 (LD.cat l3 (LD.cat l4 (LD.fin (hl.trans kr))))))
theorem anU(fuel:Nat):dN eN Tryz.prog W fuel 22 (sL 5 Bn) (kL Yg):=mS Tryz.underlying22 kr de aaX ahL fuel
theorem adq(fuel:Nat):dN eN Tryz.prog W fuel 23 (sL 1 (fun l:Bs=>[DV.str l])) (kL fun y:Bs=>y.length<=140737488351232):=mS (k:=1) Tryz.underlying23 kr de (fun _=>rfl) (Mz Tryz.underlying9) fuel
instance:Inhabited TPart:=⟨kT⟩
inductive Bo:TPart->Prop
 | mk (x0:Int) (x1:Bs) (x2:Int) (x3:Bool) (x4:List TPart) (h0:(Lit.int .i64 x0).wf=true) (h1:x1.length<=140737488351232) (h2:(Lit.int .i64 x2).wf=true) (h3:True) (h4:x4.length<=maxLen) (g4:∀y,y∈x4->Bo y):Bo (.mk x0 x1 x2 x3 x4)
theorem MA(x:TPart):(lE x).length=5:=by cases x;simp [lE]
theorem adC(fuel:Nat):dN eN Tryz.prog W fuel 122 lE Bo:=by
 induction fuel using Nat.strongRecOn with
 | _ fuel ih=>
  have al4:∀f,f<fuel->dN eN Tryz.prog W f 41 (sL 5 lE) (kL Bo):=mK Tryz.underlying41 kr de MA fun f h=>(ih f h);obtain _|fuel:=fuel
  ·exact mZ
  refine mT fuel Tryz.underlying122 fun cs hl hf=>?_;obtain⟨x0,k0,l0⟩:=gI 0 rfl rfl hf;obtain⟨x1,k1,l1⟩:=gS 1 rfl rfl hf;obtain⟨x2,k2,l2⟩:=gI 2 rfl rfl hf;obtain⟨x3,k3,l3⟩:=gB 3 rfl rfl hf;obtain⟨x4,k4,l4⟩:=fM 4 rfl (k:=1) kr (al4 fuel om) hf;refine⟨.mk x0 x1 x2 x3 x4,.mk _ _ _ _ _ k0 k1 k2 k3 k4.1 k4.2,?_⟩;simpa [sL,lE,Dh] using LD.cat (o:=0) l0 (LD.cat l1 (LD.cat l2 (LD.cat l3 (LD.cat l4 (LD.fin (hl.trans kr))))))
theorem adD(fuel:Nat):dN eN Tryz.prog W fuel 122 lE Bo:=(adC fuel)
theorem anV(fuel:Nat):dN eN Tryz.prog W fuel 41 (sL 5 lE) (kL Bo):=mS Tryz.underlying41 kr de MA adD fuel
theorem FD(x:ja):(qB x).length=2:=by cases x;simp [qB]
instance:Inhabited ja:=⟨w5⟩
def Fc(v:ja):Prop:=(Lit.int .i64 v.fPos).wf=true/\(v.fParts.length<=maxLen/\∀y,y∈v.fParts->Bo y)
theorem MB(fuel:Nat):dN eN Tryz.prog W fuel 43 qB Fc:=by
 obtain _|fuel:=fuel
 ·exact mZ
 refine mT fuel Tryz.underlying43 fun cs hl hf=>?_;obtain⟨x0,k0,l0⟩:=gI 0 rfl rfl hf;obtain⟨x1,k1,l1⟩:=fM 1 rfl (k:=1) kr (anV fuel) hf;refine⟨.mk x0 x1,⟨k0,k1⟩,?_⟩;simpa [sL,qB] using LD.cat (o:=0) l0 (LD.cat l1 (LD.fin (hl.trans kr)))
theorem Ui(x:jO):(sO x).length=4:=by cases x;simp [sO,FD]
instance:Inhabited jO:=⟨uI⟩
def MC(v:jO):Prop:=(Lit.int .i64 v.fPos).wf=true/\v.fName.length<=140737488351232/\Fc v.bJ
theorem aaY(fuel:Nat):dN eN Tryz.prog W fuel 45 sO MC:=by
 obtain _|fuel:=fuel
 ·exact mZ
 refine mT fuel Tryz.underlying45 fun cs hl hf=>?_;obtain⟨x0,k0,l0⟩:=gI 0 rfl rfl hf;obtain⟨x1,k1,l1⟩:=gS 1 rfl rfl hf;obtain⟨x2,k2,l2⟩:=fM 2 rfl (k:=2) kr (MB fuel) hf;refine⟨.mk x0 x1 x2,⟨k0,k1,k2⟩,?_⟩;simpa [sL,sO] using LD.cat (o:=0) l0 (LD.cat l1 (LD.cat l2 (LD.fin (hl.trans kr))))
theorem anW(fuel:Nat):dN eN Tryz.prog W fuel 40 (sL 4 sO) (kL MC):=mS Tryz.underlying40 kr de Ui aaY fuel
theorem ajP(fuel:Nat):dN eN Tryz.prog W fuel 35 (sL 2 qB) (kL Fc):=mS Tryz.underlying35 kr de FD MB fuel
theorem WJ(x:uJ):(uK x).length=5:=by cases x;simp [uK,FD]
instance:Inhabited uJ:=⟨ab5⟩
def Qr(v:uJ):Prop:=(Lit.int .i64 v.fPos).wf=true/\(Lit.int .i64 v.fFd).wf=true/\(Lit.int .i64 v.fOp).wf=true/\Fc v.Uj
theorem aaZ(fuel:Nat):dN eN Tryz.prog W fuel 223 uK Qr:=by
 obtain _|fuel:=fuel
 ·exact mZ
 refine mT fuel Tryz.underlying223 fun cs hl hf=>?_;obtain⟨x0,k0,l0⟩:=gI 0 rfl rfl hf;obtain⟨x1,k1,l1⟩:=gI 1 rfl rfl hf;obtain⟨x2,k2,l2⟩:=gI 2 rfl rfl hf;obtain⟨x3,k3,l3⟩:=fM 3 rfl (k:=2) kr (MB fuel) hf;refine⟨.mk x0 x1 x2 x3,⟨k0,k1,k2,k3⟩,?_⟩;simpa [sL,uK] using LD.cat (o:=0) l0 (LD.cat l1 (LD.cat l2 (LD.cat l3 (LD.fin (hl.trans kr)))))
theorem al5(fuel:Nat):dN eN Tryz.prog W fuel 160 (sL 5 uK) (kL Qr):=mS Tryz.underlying160 kr de WJ aaZ fuel
instance:Inhabited TNode:=⟨Yh⟩
instance:Inhabited TItem:=⟨afI⟩
mutual
inductive Bp:TNode->Prop
 | mk (x0:Int) (x1:Int) (x2:Bs) (x3:Bool) (x4:List jO) (x5:List ja) (x6:List uJ) (x7:List TNode) (x8:List TItem) (h0:(Lit.int .i64 x0).wf=true) (h1:(Lit.int .i64 x1).wf=true) (h2:x2.length<=140737488351232) (h3:True) (h4:(x4.length<=maxLen/\∀y,y∈x4->MC y)) (h5:(x5.length<=maxLen/\∀y,y∈x5->Fc y)) (h6:(x6.length<=maxLen/\∀y,y∈x6->Qr y)) (h7:x7.length<=maxLen) (g7:∀y,y∈x7->Bp y) (h8:x8.length<=maxLen) (g8:∀y,y∈x8->Oy y):Bp (.mk x0 x1 x2 x3 x4 x5 x6 x7 x8)
inductive Oy:TItem->Prop
 | mk (x0:List ja) (x1:List TNode) (h0:(x0.length<=maxLen/\∀y,y∈x0->Fc y)) (h1:x1.length<=maxLen) (g1:∀y,y∈x1->Bp y):Oy (.mk x0 x1)
end
theorem MD(x:TNode):(nJ x).length=9:=by cases x;simp [nJ]
theorem Yi(x:TItem):(qC x).length=2:=by cases x;simp [qC]
theorem adE(fuel:Nat):dN eN Tryz.prog W fuel 164 nJ Bp/\dN eN Tryz.prog W fuel 227 qC Oy:=by
 induction fuel using Nat.strongRecOn with
 | _ fuel ih=>
  have ab6:∀f,f<fuel->dN eN Tryz.prog W f 161 (sL 9 nJ) (kL Bp):=mK Tryz.underlying161 kr de MD fun f h=>(ih f h).1;have akv:∀f,f<fuel->dN eN Tryz.prog W f 162 (sL 2 qC) (kL Oy):=mK Tryz.underlying162 kr de Yi fun f h=>(ih f h).2;refine⟨?_,?_⟩
  ·obtain _|fuel:=fuel
   ·exact mZ
   refine mT fuel Tryz.underlying164 fun cs hl hf=>?_;obtain⟨x0,k0,l0⟩:=gI 0 rfl rfl hf;obtain⟨x1,k1,l1⟩:=gI 1 rfl rfl hf;obtain⟨x2,k2,l2⟩:=gS 2 rfl rfl hf;obtain⟨x3,k3,l3⟩:=gB 3 rfl rfl hf;obtain⟨x4,k4,l4⟩:=fM 4 rfl (k:=1) kr (anW fuel) hf;obtain⟨x5,k5,l5⟩:=fM 5 rfl (k:=1) kr (ajP fuel) hf;obtain⟨x6,k6,l6⟩:=fM 6 rfl (k:=1) kr (al5 fuel) hf;obtain⟨x7,k7,l7⟩:=fM 7 rfl (k:=1) kr (ab6 fuel om) hf;obtain⟨x8,k8,l8⟩:=fM 8 rfl (k:=1) kr (akv fuel om) hf;refine⟨.mk x0 x1 x2 x3 x4 x5 x6 x7 x8,.mk _ _ _ _ _ _ _ _ _ k0 k1 k2 k3 k4 k5 k6 k7.1 k7.2 k8.1 k8.2,?_⟩;simpa [sL,nJ,tg,th] using LD.cat (o:=0) l0 (LD.cat l1 (LD.cat l2 (LD.cat l3 (LD.cat l4 (LD.cat l5 (LD.cat l6 (LD.cat l7 (LD.cat l8 (LD.fin (hl.trans kr))))))))))
  ·obtain _|fuel:=fuel
   ·exact mZ
   refine mT fuel Tryz.underlying227 fun cs hl hf=>?_;obtain⟨x0,k0,l0⟩:=fM 0 rfl (k:=1) kr (ajP fuel) hf;obtain⟨x1,k1,l1⟩:=fM 1 rfl (k:=1) kr (ab6 fuel om) hf;refine⟨.mk x0 x1,.mk _ _ k0 k1.1 k1.2,?_⟩;simpa [sL,qC,tg,th] using LD.cat (o:=0) l0 (LD.cat l1 (LD.fin (hl.trans kr)))
theorem adF(fuel:Nat):dN eN Tryz.prog W fuel 164 nJ Bp:=(adE fuel).1
theorem Yj(x:xQ):(yw x).length=10:=by cases x;simp [yw,MD]
instance:Inhabited xQ:=⟨afJ⟩
def Uk(v:xQ):Prop:=v.fName.length<=140737488351232/\Bp v.fBody
theorem adG(fuel:Nat):dN eN Tryz.prog W fuel 166 yw Uk:=by
 obtain _|fuel:=fuel
 ·exact mZ
 refine mT fuel Tryz.underlying166 fun cs hl hf=>?_;obtain⟨x0,k0,l0⟩:=gS 0 rfl rfl hf;obtain⟨x1,k1,l1⟩:=fM 1 rfl (k:=9) kr (adF fuel) hf;refine⟨.mk x0 x1,⟨k0,k1⟩,?_⟩;simpa [sL,yw] using LD.cat (o:=0) l0 (LD.cat l1 (LD.fin (hl.trans kr)))
theorem anX(fuel:Nat):dN eN Tryz.prog W fuel 24 (sL 10 yw) (kL Uk):=mS Tryz.underlying24 kr de Yj adG fuel
theorem WK(x:bV):(uL x).length=2:=by cases x;simp [uL]
instance:Inhabited bV:=⟨p6⟩
def Qs(v:bV):Prop:=v.fName.length<=140737488351232/\v.bJ.length<=140737488351232
theorem aa0(fuel:Nat):dN eN Tryz.prog W fuel 155 uL Qs:=by
 obtain _|fuel:=fuel
 ·exact mZ
 refine mT fuel Tryz.underlying155 fun cs hl hf=>?_;obtain⟨x0,k0,l0⟩:=gS 0 rfl rfl hf;obtain⟨x1,k1,l1⟩:=gS 1 rfl rfl hf;refine⟨.mk x0 x1,⟨k0,k1⟩,?_⟩;simpa [sL,uL] using LD.cat (o:=0) l0 (LD.cat l1 (LD.fin (hl.trans kr)))
theorem anY(fuel:Nat):dN eN Tryz.prog W fuel 25 (sL 2 uL) (kL Qs):=mS Tryz.underlying25 kr de WK aa0 fuel
theorem Yk(x:zj):(yx x).length=2:=by cases x;simp [yx]
instance:Inhabited zj:=⟨afK⟩
def Ul(v:zj):Prop:=(Lit.int .i64 v.ahM).wf=true/\v.Um.length<=140737488351232
theorem adH(fuel:Nat):dN eN Tryz.prog W fuel 158 yx Ul:=by
 obtain _|fuel:=fuel
 ·exact mZ
 refine mT fuel Tryz.underlying158 fun cs hl hf=>?_;obtain⟨x0,k0,l0⟩:=gI 0 rfl rfl hf;obtain⟨x1,k1,l1⟩:=gS 1 rfl rfl hf;refine⟨.mk x0 x1,⟨k0,k1⟩,?_⟩;simpa [sL,yx] using LD.cat (o:=0) l0 (LD.cat l1 (LD.fin (hl.trans kr)))
theorem anZ(fuel:Nat):dN eN Tryz.prog W fuel 26 (sL 2 yx) (kL Ul):=mS Tryz.underlying26 kr de Yk adH fuel
instance:Inhabited lT:=⟨Ka⟩
def Pw(v:lT):Prop:=(Lit.int .i64 v.Jc).wf=true/\(Lit.int .i64 v.Fe).wf=true
theorem WL(fuel:Nat):dN eN Tryz.prog W fuel 28 zk Pw:=by
 obtain _|fuel:=fuel
 ·exact mZ
 refine mT fuel Tryz.underlying28 fun cs hl hf=>?_;obtain⟨x0,k0,l0⟩:=gI 0 rfl rfl hf;obtain⟨x1,k1,l1⟩:=gI 1 rfl rfl hf;refine⟨.mk x0 x1,⟨k0,k1⟩,?_⟩;simpa [sL,zk] using LD.cat (o:=0) l0 (LD.cat l1 (LD.fin (hl.trans kr)))
instance:Inhabited ec:=⟨Jd⟩
def ab7(v:ec):Prop:=v.fName.length<=140737488351232/\(v.bP.length<=maxLen/\∀y,y∈v.bP->Yg y)/\(v.cA.length<=maxLen/\∀y,y∈v.cA->y.length<=140737488351232)/\(v.tj.length<=maxLen/\∀y,y∈v.tj->Uk y)/\(v.nK.length<=maxLen/\∀y,y∈v.nK->Qs y)/\(v.tn.length<=maxLen/\∀y,y∈v.tn->Ul y)/\(Lit.int .i64 v.iy).wf=true/\(Lit.int .i64 v.fC).wf=true/\(Lit.int .i64 v.Bq).wf=true/\(Lit.int .i64 v.og).wf=true/\v.Kb.length<=140737488351232/\Pw v.vG/\(Lit.int .i64 v.Je).wf=true/\True
theorem afL(fuel:Nat):dN eN Tryz.prog W fuel 30 yy ab7:=by
 obtain _|fuel:=fuel
 ·exact mZ
 refine mT fuel Tryz.underlying30 fun cs hl hf=>?_;obtain⟨x0,k0,l0⟩:=gS 0 rfl rfl hf;obtain⟨x1,k1,l1⟩:=fM 1 rfl (k:=1) kr (anU fuel) hf;obtain⟨x2,k2,l2⟩:=fM 2 rfl (k:=1) kr (adq fuel) hf;obtain⟨x3,k3,l3⟩:=fM 3 rfl (k:=1) kr (anX fuel) hf;obtain⟨x4,k4,l4⟩:=fM 4 rfl (k:=1) kr (anY fuel) hf;obtain⟨x5,k5,l5⟩:=fM 5 rfl (k:=1) kr (anZ fuel) hf;obtain⟨x6,k6,l6⟩:=gI 6 rfl rfl hf;obtain⟨x7,k7,l7⟩:=gI 7 rfl rfl hf;obtain⟨x8,k8,l8⟩:=gI 8 rfl rfl hf;obtain⟨x9,k9,l9⟩:=gI 9 rfl rfl hf;obtain⟨bW,k10,l10⟩:=gS 10 rfl rfl hf;obtain⟨fB,k11,l11⟩:=fM 11 rfl (k:=2) kr (WL fuel) hf;obtain⟨fD,k12,l12⟩:=gI 12 rfl rfl hf;obtain⟨fF,k13,l13⟩:=gB 13 rfl rfl hf;refine⟨.mk x0 x1 x2 x3 x4 x5 x6 x7 x8 x9 bW fB fD fF,⟨k0,k1,k2,k3,k4,k5,k6,k7,k8,k9,k10,k11,k12,k13⟩,?_⟩;simpa [sL,yy] using LD.cat (o:=0) l0 (LD.cat l1 (LD.cat l2 (LD.cat l3 (LD.cat l4 (LD.cat l5 (LD.cat l6 (LD.cat l7 (LD.cat l8 (LD.cat l9 (LD.cat l10 (LD.cat l11 (LD.cat l12 (LD.cat l13 (LD.fin (hl.trans kr)))))))))))))))
theorem Yl(x:bt):(uM x).length=3:=by cases x;simp [uM]
instance:Inhabited bt:=⟨bN⟩
def Un(v:bt):Prop:=v.bR.length<=140737488351232/\True/\v.fData.length<=140737488351232
theorem afM(fuel:Nat):dN eN Tryz.prog W fuel 65 uM Un:=by
 obtain _|fuel:=fuel
 ·exact mZ
 refine mT fuel Tryz.underlying65 fun cs hl hf=>?_;obtain⟨x0,k0,l0⟩:=gS 0 rfl rfl hf;obtain⟨x1,k1,l1⟩:=gB 1 rfl rfl hf;obtain⟨x2,k2,l2⟩:=gS 2 rfl rfl hf;refine⟨.mk x0 x1 x2,⟨k0,k1,k2⟩,?_⟩;simpa [sL,uM] using LD.cat (o:=0) l0 (LD.cat l1 (LD.cat l2 (LD.fin (hl.trans kr))))
theorem an0(fuel:Nat):dN eN Tryz.prog W fuel 31 (sL 3 uM) (kL Un):=mS Tryz.underlying31 kr de Yl afM fuel
theorem Uo(x:gu):(oh x).length=2:=by cases x;simp [oh]
instance:Inhabited gu:=⟨Br⟩
def ME(v:gu):Prop:=v.fText.length<=140737488351232/\(Lit.int .i64 v.fC).wf=true
theorem aa1(fuel:Nat):dN eN Tryz.prog W fuel 58 oh ME:=by
 obtain _|fuel:=fuel
 ·exact mZ
 refine mT fuel Tryz.underlying58 fun cs hl hf=>?_;obtain⟨x0,k0,l0⟩:=gS 0 rfl rfl hf;obtain⟨x1,k1,l1⟩:=gI 1 rfl rfl hf;refine⟨.mk x0 x1,⟨k0,k1⟩,?_⟩;simpa [sL,oh] using LD.cat (o:=0) l0 (LD.cat l1 (LD.fin (hl.trans kr)))
theorem an1(fuel:Nat):dN eN Tryz.prog W fuel 32 (sL 2 oh) (kL ME):=mS Tryz.underlying32 kr de Uo aa1 fuel
instance:Inhabited uC:=⟨ajQ⟩
def I2(v:uC):Prop:=ab7 v.nL/\(v.oZ.length<=maxLen/\∀y,y∈v.oZ->Un y)/\(v.Jf.length<=maxLen/\∀y,y∈v.Jf->y.length<=140737488351232)/\(v.jF.length<=maxLen/\∀y,y∈v.jF->ME y)
theorem ahw(fuel:Nat):dN eN Tryz.prog W fuel 34 Up I2:=by
 obtain _|fuel:=fuel
 ·exact mZ
 refine mT fuel Tryz.underlying34 fun cs hl hf=>?_;obtain⟨x0,k0,l0⟩:=fM 0 rfl (k:=15) kr (afL fuel) hf;obtain⟨x1,k1,l1⟩:=fM 1 rfl (k:=1) kr (an0 fuel) hf;obtain⟨x2,k2,l2⟩:=fM 2 rfl (k:=1) kr (adq fuel) hf;obtain⟨x3,k3,l3⟩:=fM 3 rfl (k:=1) kr (an1 fuel) hf;refine⟨.mk x0 x1 x2 x3,⟨k0,k1,k2,k3⟩,?_⟩;simpa [sL,Up] using LD.cat (o:=0) l0 (LD.cat l1 (LD.cat l2 (LD.cat l3 (LD.fin (hl.trans kr)))))
end Go.Proofs.YtlgmlcgjmcmmgaaGreatDoor
