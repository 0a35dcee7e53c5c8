import Derived.Test.YtjfbblgjjdgjdaaGreatDoorZ2
import Derived.Test.YtjfbblgjjdgjdaaGreatDoorCards
import Derived.Test.YtjfbblgjjdgjdaaGreatDoorTie
import Derived.ProofKit
import Derived.ShutString
import Derived.Lay
import Derived.HandedShaped
import Derived.Stop.LaidErr
open Option renaming some->iN,none->iF
open Bool renaming true->hJ
open Nat renaming beq->eI
open Go renaming Value->T1,FuncId->H5
open List renaming length->Ts
set_option linter.all false
namespace Go.Proofs.YtjfbblgjjdgjdaaGreatDoor
open Go.Proofs.Tryz
open Go.ChangeShapes Go.WideShapes Go.ChangeAt Go.RowKit Go.RT
theorem own:ownKnob Tryz.prog.godebug=iF:=by kernel_rfl
theorem laidOut:laidOutB prog=hJ:=by kernel_rfl
abbrev Gf:J (String×DataW Unit):=[("math/bits.deBruijn32tab",Rows.laid_math_bits_deBruijn32tab),("math/bits.deBruijn64tab",Rows.laid_math_bits_deBruijn64tab),("internal/strconv.uint64pow10",Rows.laid_internal_strconv_uint64pow10),("unicode/utf8.acceptRanges",Rows.laid_unicode_utf8_acceptRanges),("unicode/utf8.first",Rows.laid_unicode_utf8_first)]
theorem aeH:(Gf.filter λx=>x.2.handleName?.isNone)=Gf:=by kernel_rfl
theorem aaj{W:U}{g:Nat}{v:T1}(h:W.cell? ⟨g,0,iF⟩=iN v):∃cs t m,W.heap[g]? = iN (.cells cs t m)/\cs[0]? = iN v:=by
 unfold World.cell? at h;split at h
 ·rename_i cs t m hh;exact⟨cs,t,m,hh,by simpa using h⟩
 ·cases h
theorem abI{W:U}(h:laidMetH prog Gf W)(hs:W.ShapedOpen prog):∀b p,E.gb b=iN p->∃cs t m,W.heap[b]? = iN (.cells cs t m)/\p cs:=by
 have h':laidMet prog Gf W:=h;intro b p hb;have hb:(cond (eI b 1) (iN (λcs:aK T1=>cs=(Lib.pow10Tab.map λz=>Value.int .u64 z).toArray)) (cond (eI b 0) (iN (λcs:aK T1=>∃m,cs[0]? = iN (Value.int .i64 m))) iF))=iN p:=hb;cases he:eI b 1<;>rw[he]at hb<;>simp only[aS,aJ]at hb
 rotate_left
 ·cases hb;have:=eZ he;subst this;have ht:Lib.TabIs prog W "internal/strconv.uint64pow10" .u64 Lib.pow10Tab:=Lib.tabIs_of_head (rest:=_) (g:=1) (t:=423) (e:=287) (n:=20) kr kr underlying423 underlying287 kr kr h'.tail.tail
  unfold Lib.TabIs World.var? at ht;rw[show Tryz.prog.globalNamed "internal/strconv.uint64pow10" = iN 1 by kernel_rfl]at ht;simp only[aD]at ht;split at ht
  ·rename_i cs' t m hh;cases ht;exact⟨_,t,m,hh,rfl⟩
  ·cases ht
 cases Zd:eI b 0<;>rw[Zd]at hb<;>simp only[aS,aJ]at hb
 ·cases hb
 cases hb;have:=eZ Zd;subst this;obtain⟨m,hm⟩:=cell_of_shapedOpen_int (g:=0) (t:=3) (k:=.i64) (zero:=#[.int .i64 0]) hs (Bl kr) kr rfl kr kr underlying3;obtain⟨cs,t,m2,q1,q2⟩:=aaj hm;exact⟨cs,t,m2,q1,m,q2⟩
noncomputable def Y5(os:Os):U:=World.laidAll prog os Gf
set_option maxRecDepth 100000 in
theorem aai(os:Os)(args:aK T1):laidMetH prog Gf ((Y5 os).forCall (λ_ _=>0) ⟨#[],args,[]⟩).memory:=laidMetH_of_parts (by rw[aeH];exact laidMet_laidAll args kr kr) kr
theorem aah{H:Type}{enc:aL×T1->H}{a:Assume}{C:Checked}{os:Os}{f:H5}{fn:Func}{s:ChangeSpec}{conds:J PathCond}{apart fresh handsOn again:Bool}{X:U->aK T1->Prop}
  (hX:∀(w w':U)(args:aK T1),w.heap=w'.heap->X w args->X w' args)
  (own:ownKnob C.prog.godebug=iF) (started:os.Started) (noInit:C.prog.inits.idxOf? f=iF) (hfn:C.prog.funcs[f]? = iN fn)
  (witness:∃(w:U)(tape:Tape)(i:Input),w.os=os/\(w.forCall tape i).Shaped C.prog/\i.vars=[]/\Input.okWide C.prog (w.forCall tape i) .any w.heap.size f i /\
   ((s.pre enc C.prog fn conds apart (w.forCall tape i).memory i.args/\X (w.forCall tape i).memory i.args)/\sizedMet enc C.prog fn (OpenSpec.ofChange s) apart (w.forCall tape i).memory i.args)/\a.holds C.prog (lone (Frame.enter C.prog f i.args .normal) [] (w.forCall tape i)))
  (contract:∀(W:U)(base:Nat)(args:aK T1)(ds gs:J (DataW H))(before:J MemPlace),
   (∀(j:Nat) t v,fn.params[j]? = iN t->args[j]? = iN v->Value.okWide C.prog W .any base t v) ->
   DataW.Whole enc C.prog fn.params.toList s.vars apart W args.toList ds gs before ->
   X W args->W.ShapedOpen C.prog->(DataW.weightsEach C.prog (fn.params.toList++(OpenSpec.ofChange s).bare.plain.varTypes C.prog) (ds++gs)).all (·<=reachBytes)=hJ ->
   Calls C.prog f args W λe W'=>∃v,e=.returned v/\s.post enc C.prog fn apart fresh handsOn again W args v W') :
  ReturnsInHanded a C os f .any (λw args=>(s.pre enc C.prog fn conds apart w args/\X w args)/\sizedMet enc C.prog fn (OpenSpec.ofChange s) apart w args) (s.post enc C.prog fn apart fresh handsOn again):=by
 refine returnsInHanded_of_calls own started noInit witness ?_;intro w tape i _ hsh _ hok hpre _;obtain⟨_,_,_,fn',auS,_,_,_,_,hval⟩:=hok;have e:fn'=fn:=og (auS.symm.trans hfn);subst e;obtain⟨⟨⟨ds,gs,before,hw,hc⟩,hx⟩,hz⟩:=hpre;have hw':=DataW.Whole.of_heap (w':=w.forCall tape i) (by rfl) hw;refine(contract (w.forCall tape i) w.heap.size i.args ds gs before hval hw' (hX _ _ _ (by rfl) hx) hsh (hz.weights hw)).mono λe W' ⟨v,he,hp⟩=>?_;subst he;exact ChangeSpec.post_blind hp
variable {H : Type} {fF : aL × T1 -> H} {W : U}
variable{t:aL}{α:Type}{ok:α->Prop}{enc:α->J DV}
def mT{fs:aK Field}(fuel:Nat)(ht:Tryz.prog.underlying t=iN (.struct fs))(hh:∀cs:J T1,Ts cs=Tryz.prog.cellsOf t->(∀f,f∈fs.toList->∃y,DataW.trod fF prog W 0 (λ_=>hJ) hJ fuel f.type ((cs.drop f.offset).take (Tryz.prog.cellsOf f.type))=iN y/\Jj prog f.type y.1)->∃x,ok x/\LD W (λb _=>b<W.heap.size) cs (enc x)):eA fF prog W (fuel+1) t enc ok:=λcs d ps h hw=>have q:=O7 ht h hw;hh cs q.1 q.2
theorem mZ:eA fF prog W 0 t enc ok:=by intro cs d ps h;cases h
def sL{α:Type}(k:Nat)(enc:α->J DV)(vs:J α):J DV:=[DV.slice k (vs.map enc)]
def kL{α:Type}(ok:α->Prop)(vs:J α):Prop:=Ts vs<=maxLen/\∀y,y∈vs->ok y
def mS{e:aL}{k:Nat}[Inhabited α](ht:Tryz.prog.underlying t=iN (.slice e))(hk:Tryz.prog.cellsOf e=k)(hkp:0<k)(hlen:∀x,Ts (enc x)=k)(he:∀fuel,eA fF prog W fuel e enc ok):∀fuel,eA fF prog W fuel t (sL k enc) (kL ok)|0=>mZ|n+1=>SW ht hk hkp hlen (he n)
theorem mK{e:aL}{k:Nat}[Inhabited α]{n:Nat}(ht:Tryz.prog.underlying t=iN (.slice e))(hk:Tryz.prog.cellsOf e=k)(hkp:0<k)(hlen:∀x,Ts (enc x)=k)(he:∀fuel,fuel<n->eA fF prog W fuel e enc ok):∀fuel,fuel<n->eA fF prog W fuel t (sL k enc) (kL ok)|0,_=>mZ|n+1,h=>SW ht hk hkp hlen (he n om)
variable {fs : aK Field} {fuel : Nat} {cs : J T1} (j : Nat) {f : Field}
theorem gS(hf:fs[j]? = iN f)(e:f.type=9)(h:∀f,f∈fs.toList->∃y,DataW.trod fF prog W 0 (λ_=>hJ) hJ fuel f.type ((cs.drop f.offset).take (Tryz.prog.cellsOf f.type))=iN y/\Jj prog f.type y.1):∃x:Bs,(Ts x<=140737488351232)/\LD W (λb _=>b<W.heap.size) ((cs.drop f.offset).take 1) [DV.str x]:=gD j hf (by rw[e];kernel_rfl) (e▸O8 underlying9 fuel) h
theorem gI(hf:fs[j]? = iN f)(e:f.type=3)(h:∀f,f∈fs.toList->∃y,DataW.trod fF prog W 0 (λ_=>hJ) hJ fuel f.type ((cs.drop f.offset).take (Tryz.prog.cellsOf f.type))=iN y/\Jj prog f.type y.1):∃x:Int,((Lit.int .i64 x).wf=hJ)/\LD W (λb _=>b<W.heap.size) ((cs.drop f.offset).take 1) [DV.int .i64 x]:=gD j hf (by rw[e];kernel_rfl) (e▸ajJ underlying3 fuel) h
theorem gB(hf:fs[j]? = iN f)(e:f.type=4)(h:∀f,f∈fs.toList->∃y,DataW.trod fF prog W 0 (λ_=>hJ) hJ fuel f.type ((cs.drop f.offset).take (Tryz.prog.cellsOf f.type))=iN y/\Jj prog f.type y.1):∃x:Bool,(True)/\LD W (λb _=>b<W.heap.size) ((cs.drop f.offset).take 1) [DV.bool x]:=gD j hf (by rw[e];kernel_rfl) (e▸ahr underlying4 fuel) h
theorem aeI(x:bP):(Dk x).length=5:=by cases x;simp[Dk]
instance:Inhabited bP:=⟨eD⟩
def abO(v:bP):Prop:=Ts v.fName<=140737488351232/\v.cg.length<=140737488351232/\True/\True/\True
theorem al9(fuel:Nat):eA fF prog W fuel 61 Dk abO:=by
 obtain _|fuel:=fuel
 ·exact mZ
 refine mT fuel underlying61 λcs hl hf=>?_;obtain⟨x0,k0,l0⟩:=gS 0 rfl rfl hf;obtain⟨x1,k1,l1⟩:=gS 1 rfl rfl hf;obtain⟨x2,k2,l2⟩:=gB 2 rfl rfl hf;obtain⟨x3,k3,l3⟩:=gB 3 rfl rfl hf;obtain⟨x4,k4,l4⟩:=gB 4 rfl rfl hf;refine⟨.mk x0 x1 x2 x3 x4,⟨k0,k1,k2,k3,k4⟩,?_⟩;simpa[sL,Dk]using LD.cat (o:=0) l0 (LD.cat l1 (LD.cat l2 (LD.cat l3 (LD.cat l4 (LD.fin (hl.trans kr))))))
theorem atk(fuel:Nat):eA fF prog W fuel 22 (sL 5 Dk) (kL abO):=mS underlying22 kr de aeI al9 fuel
theorem aov(fuel:Nat):eA fF prog W fuel 23 (sL 1 (λl:Bs=>[DV.str l])) (kL λy:Bs=>Ts y<=140737488351232):=mS (k:=1) underlying23 kr de (λ_=>rfl) (O8 underlying9) fuel
instance:Inhabited d6:=⟨ko⟩
inductive Dl:d6->Prop
 | mk (x0:Int) (x1:Bs) (x2:Int) (x3:Bool) (x4:List d6) (h0:(Lit.int .i64 x0).wf=hJ) (h1:Ts x1<=140737488351232) (h2:(Lit.int .i64 x2).wf=hJ) (h3:True) (h4:Ts x4<=maxLen) (g4:∀y,y∈x4->Dl y):Dl (.mk x0 x1 x2 x3 x4)
theorem O9(x:d6):(nk x).length=5:=by cases x;simp[nk]
theorem ajK(fuel:Nat):eA fF prog W fuel 96 nk Dl:=by
 induction fuel using Nat.strongRecOn with
 | _ fuel ih=>
  have arf:∀f,f<fuel->eA fF prog W f 40 (sL 5 nk) (kL Dl):=mK underlying40 kr de O9 λf h=>(ih f h);obtain _|fuel:=fuel
  ·exact mZ
  refine mT fuel underlying96 λcs hl hf=>?_;obtain⟨x0,k0,l0⟩:=gI 0 rfl rfl hf;obtain⟨x1,k1,l1⟩:=gS 1 rfl rfl hf;obtain⟨x2,k2,l2⟩:=gI 2 rfl rfl hf;obtain⟨x3,k3,l3⟩:=gB 3 rfl rfl hf;obtain⟨x4,k4,l4⟩:=gD 4 rfl (k:=1) kr (arf fuel om) hf;refine⟨.mk x0 x1 x2 x3 x4,.mk _ _ _ _ _ k0 k1 k2 k3 k4.1 k4.2,?_⟩;simpa[sL,nk,Ft]using LD.cat (o:=0) l0 (LD.cat l1 (LD.cat l2 (LD.cat l3 (LD.cat l4 (LD.fin (hl.trans kr))))))
def ajL(fuel:Nat):eA fF prog W fuel 96 nk Dl:=(ajK fuel)
theorem atl(fuel:Nat):eA fF prog W fuel 40 (sL 5 nk) (kL Dl):=mS underlying40 kr de O9 ajL fuel
theorem HJ(x:eX):(sW x).length=2:=by cases x;simp[sW]
instance:Inhabited eX:=⟨EG⟩
def Hp(v:eX):Prop:=(Lit.int .i64 v.fPos).wf=hJ/\(Ts v.fParts<=maxLen/\∀y,y∈v.fParts->Dl y)
theorem Pa(fuel:Nat):eA fF prog W fuel 42 sW Hp:=by
 obtain _|fuel:=fuel
 ·exact mZ
 refine mT fuel underlying42 λcs hl hf=>?_;obtain⟨x0,k0,l0⟩:=gI 0 rfl rfl hf;obtain⟨x1,k1,l1⟩:=gD 1 rfl (k:=1) kr (atl fuel) hf;refine⟨.mk x0 x1,⟨k0,k1⟩,?_⟩;simpa[sL,sW]using LD.cat (o:=0) l0 (LD.cat l1 (LD.fin (hl.trans kr)))
theorem Xx(x:tI):(uT x).length=4:=by cases x;simp[uT,HJ]
instance:Inhabited tI:=⟨abP⟩
def Pb(v:tI):Prop:=(Lit.int .i64 v.fPos).wf=hJ/\v.fName.length<=140737488351232/\Hp v.cg
theorem abQ(fuel:Nat):eA fF prog W fuel 225 uT Pb:=by
 obtain _|fuel:=fuel
 ·exact mZ
 refine mT fuel underlying225 λcs hl hf=>?_;obtain⟨x0,k0,l0⟩:=gI 0 rfl rfl hf;obtain⟨x1,k1,l1⟩:=gS 1 rfl rfl hf;obtain⟨x2,k2,l2⟩:=gD 2 rfl (k:=2) kr (Pa fuel) hf;refine⟨.mk x0 x1 x2,⟨k0,k1,k2⟩,?_⟩;simpa[sL,uT]using LD.cat (o:=0) l0 (LD.cat l1 (LD.cat l2 (LD.fin (hl.trans kr))))
theorem arh(fuel:Nat):eA fF prog W fuel 164 (sL 4 uT) (kL Pb):=mS underlying164 kr de Xx abQ fuel
theorem aow(fuel:Nat):eA fF prog W fuel 35 (sL 2 sW) (kL Hp):=mS underlying35 kr de HJ Pa fuel
theorem aak(x:w8):(w9 x).length=5:=by cases x;simp[w9,HJ]
instance:Inhabited w8:=⟨afR⟩
def TU(v:w8):Prop:=(Lit.int .i64 v.fPos).wf=hJ/\(Lit.int .i64 v.fFd).wf=hJ/\(Lit.int .i64 v.fOp).wf=hJ/\Hp v.Xy
theorem aeJ(fuel:Nat):eA fF prog W fuel 230 w9 TU:=by
 obtain _|fuel:=fuel
 ·exact mZ
 refine mT fuel underlying230 λcs hl hf=>?_;obtain⟨x0,k0,l0⟩:=gI 0 rfl rfl hf;obtain⟨x1,k1,l1⟩:=gI 1 rfl rfl hf;obtain⟨x2,k2,l2⟩:=gI 2 rfl rfl hf;obtain⟨x3,k3,l3⟩:=gD 3 rfl (k:=2) kr (Pa fuel) hf;refine⟨.mk x0 x1 x2 x3,⟨k0,k1,k2,k3⟩,?_⟩;simpa[sL,w9]using LD.cat (o:=0) l0 (LD.cat l1 (LD.cat l2 (LD.cat l3 (LD.fin (hl.trans kr)))))
theorem ari(fuel:Nat):eA fF prog W fuel 165 (sL 5 w9) (kL TU):=mS underlying165 kr de aak aeJ fuel
instance:Inhabited TNode:=⟨abR⟩
instance:Inhabited TItem:=⟨ajM⟩
mutual
inductive Dm:TNode->Prop
 | mk (x0:Int) (x1:Int) (x2:Bs) (x3:Bool) (x4:List tI) (x5:List eX) (x6:List w8) (x7:List TNode) (x8:List TItem) (h0:(Lit.int .i64 x0).wf=hJ) (h1:(Lit.int .i64 x1).wf=hJ) (h2:Ts x2<=140737488351232) (h3:True) (h4:(Ts x4<=maxLen/\∀y,y∈x4->Pb y)) (h5:(Ts x5<=maxLen/\∀y,y∈x5->Hp y)) (h6:(Ts x6<=maxLen/\∀y,y∈x6->TU y)) (h7:Ts x7<=maxLen) (g7:∀y,y∈x7->Dm y) (h8:Ts x8<=maxLen) (g8:∀y,y∈x8->RF y):Dm (.mk x0 x1 x2 x3 x4 x5 x6 x7 x8)
inductive RF:TItem->Prop
 | mk (x0:List eX) (x1:List TNode) (h0:(Ts x0<=maxLen/\∀y,y∈x0->Hp y)) (h1:Ts x1<=maxLen) (g1:∀y,y∈x1->Dm y):RF (.mk x0 x1)
end
theorem Pc(x:TNode):(pQ x).length=9:=by cases x;simp[pQ]
theorem abS(x:TItem):(sX x).length=2:=by cases x;simp[sX]
theorem ahs(fuel:Nat):eA fF prog W fuel 169 pQ Dm/\eA fF prog W fuel 234 sX RF:=by
 induction fuel using Nat.strongRecOn with
 | _ fuel ih=>
  have afS:∀f,f<fuel->eA fF prog W f 166 (sL 9 pQ) (kL Dm):=mK underlying166 kr de Pc λf h=>(ih f h).1;have apo:∀f,f<fuel->eA fF prog W f 167 (sL 2 sX) (kL RF):=mK underlying167 kr de abS λf h=>(ih f h).2;refine⟨?_,?_⟩
  ·obtain _|fuel:=fuel
   ·exact mZ
   refine mT fuel underlying169 λcs hl hf=>?_;obtain⟨x0,k0,l0⟩:=gI 0 rfl rfl hf;obtain⟨x1,k1,l1⟩:=gI 1 rfl rfl hf;obtain⟨x2,k2,l2⟩:=gS 2 rfl rfl hf;obtain⟨x3,k3,l3⟩:=gB 3 rfl rfl hf;obtain⟨x4,k4,l4⟩:=gD 4 rfl (k:=1) kr (arh fuel) hf;obtain⟨x5,k5,l5⟩:=gD 5 rfl (k:=1) kr (aow fuel) hf;obtain⟨x6,k6,l6⟩:=gD 6 rfl (k:=1) kr (ari fuel) hf;obtain⟨x7,k7,l7⟩:=gD 7 rfl (k:=1) kr (afS fuel om) hf;obtain⟨x8,k8,l8⟩:=gD 8 rfl (k:=1) kr (apo fuel om) hf;refine⟨.mk x0 x1 x2 x3 x4 x5 x6 x7 x8,.mk _ _ _ _ _ _ _ _ _ k0 k1 k2 k3 k4 k5 k6 k7.1 k7.2 k8.1 k8.2,?_⟩;simpa[sL,pQ,vn,vo]using LD.cat (o:=0) l0 (LD.cat l1 (LD.cat l2 (LD.cat l3 (LD.cat l4 (LD.cat l5 (LD.cat l6 (LD.cat l7 (LD.cat l8 (LD.fin (hl.trans kr))))))))))
  ·obtain _|fuel:=fuel
   ·exact mZ
   refine mT fuel underlying234 λcs hl hf=>?_;obtain⟨x0,k0,l0⟩:=gD 0 rfl (k:=1) kr (aow fuel) hf;obtain⟨x1,k1,l1⟩:=gD 1 rfl (k:=1) kr (afS fuel om) hf;refine⟨.mk x0 x1,.mk _ _ k0 k1.1 k1.2,?_⟩;simpa[sL,sX,vn,vo]using LD.cat (o:=0) l0 (LD.cat l1 (LD.fin (hl.trans kr)))
def aht(fuel:Nat):eA fF prog W fuel 169 pQ Dm:=(ahs fuel).1
theorem abT(x:z8):(Au x).length=10:=by cases x;simp[Au,Pc]
instance:Inhabited z8:=⟨ajN⟩
def Xz(v:z8):Prop:=Ts v.fName<=140737488351232/\Dm v.fBody
theorem ahu(fuel:Nat):eA fF prog W fuel 171 Au Xz:=by
 obtain _|fuel:=fuel
 ·exact mZ
 refine mT fuel underlying171 λcs hl hf=>?_;obtain⟨x0,k0,l0⟩:=gS 0 rfl rfl hf;obtain⟨x1,k1,l1⟩:=gD 1 rfl (k:=9) kr (aht fuel) hf;refine⟨.mk x0 x1,⟨k0,k1⟩,?_⟩;simpa[sL,Au]using LD.cat (o:=0) l0 (LD.cat l1 (LD.fin (hl.trans kr)))
theorem atm(fuel:Nat):eA fF prog W fuel 24 (sL 10 Au) (kL Xz):=mS underlying24 kr de abT ahu fuel
theorem aal(x:cD):(xb x).length=2:=by cases x;simp[xb]
instance:Inhabited cD:=⟨rZ⟩
def TW(v:cD):Prop:=Ts v.fName<=140737488351232/\v.cg.length<=140737488351232
theorem aeK(fuel:Nat):eA fF prog W fuel 159 xb TW:=by
 obtain _|fuel:=fuel
 ·exact mZ
 refine mT fuel underlying159 λcs hl hf=>?_;obtain⟨x0,k0,l0⟩:=gS 0 rfl rfl hf;obtain⟨x1,k1,l1⟩:=gS 1 rfl rfl hf;refine⟨.mk x0 x1,⟨k0,k1⟩,?_⟩;simpa[sL,xb]using LD.cat (o:=0) l0 (LD.cat l1 (LD.fin (hl.trans kr)))
theorem atn(fuel:Nat):eA fF prog W fuel 25 (sL 2 xb) (kL TW):=mS underlying25 kr de aal aeK fuel
theorem abU(x:BA):(Av x).length=2:=by cases x;simp[Av]
instance:Inhabited BA:=⟨ajO⟩
def XA(v:BA):Prop:=(Lit.int .i64 v.ama).wf=hJ/\v.XB.length<=140737488351232
theorem ahv(fuel:Nat):eA fF prog W fuel 162 Av XA:=by
 obtain _|fuel:=fuel
 ·exact mZ
 refine mT fuel underlying162 λcs hl hf=>?_;obtain⟨x0,k0,l0⟩:=gI 0 rfl rfl hf;obtain⟨x1,k1,l1⟩:=gS 1 rfl rfl hf;refine⟨.mk x0 x1,⟨k0,k1⟩,?_⟩;simpa[sL,Av]using LD.cat (o:=0) l0 (LD.cat l1 (LD.fin (hl.trans kr)))
theorem ato(fuel:Nat):eA fF prog W fuel 26 (sL 2 Av) (kL XA):=mS underlying26 kr de abU ahv fuel
instance:Inhabited oR:=⟨Ms⟩
def SY(v:oR):Prop:=(Lit.int .i64 v.Lb).wf=hJ/\(Lit.int .i64 v.Hq).wf=hJ
theorem aam(fuel:Nat):eA fF prog W fuel 28 BB SY:=by
 obtain _|fuel:=fuel
 ·exact mZ
 refine mT fuel underlying28 λcs hl hf=>?_;obtain⟨x0,k0,l0⟩:=gI 0 rfl rfl hf;obtain⟨x1,k1,l1⟩:=gI 1 rfl rfl hf;refine⟨.mk x0 x1,⟨k0,k1⟩,?_⟩;simpa[sL,BB]using LD.cat (o:=0) l0 (LD.cat l1 (LD.fin (hl.trans kr)))
instance:Inhabited eO:=⟨Lc⟩
def afT(v:eO):Prop:=Ts v.fName<=140737488351232/\(Ts v.bX<=maxLen/\∀y,y∈v.bX->abO y)/\(Ts v.dc<=maxLen/\∀y,y∈v.dc->Ts y<=140737488351232)/\(Ts v.vp<=maxLen/\∀y,y∈v.vp->Xz y)/\(Ts v.pR<=maxLen/\∀y,y∈v.pR->TW y)/\(Ts v.vq<=maxLen/\∀y,y∈v.vq->XA y)/\(Lit.int .i64 v.ir).wf=hJ/\(Lit.int .i64 v.gr).wf=hJ/\(Lit.int .i64 v.Dn).wf=hJ/\(Lit.int .i64 v.qo).wf=hJ/\v.uU.length<=140737488351232/\SY v.yy/\(Lit.int .i64 v.Ld).wf=hJ/\True
theorem ajP(fuel:Nat):eA fF prog W fuel 30 Aw afT:=by
 obtain _|fuel:=fuel
 ·exact mZ
 refine mT fuel underlying30 λcs hl hf=>?_;obtain⟨x0,k0,l0⟩:=gS 0 rfl rfl hf;obtain⟨x1,k1,l1⟩:=gD 1 rfl (k:=1) kr (atk fuel) hf;obtain⟨x2,k2,l2⟩:=gD 2 rfl (k:=1) kr (aov fuel) hf;obtain⟨x3,k3,l3⟩:=gD 3 rfl (k:=1) kr (atm fuel) hf;obtain⟨x4,k4,l4⟩:=gD 4 rfl (k:=1) kr (atn fuel) hf;obtain⟨x5,k5,l5⟩:=gD 5 rfl (k:=1) kr (ato fuel) hf;obtain⟨x6,k6,l6⟩:=gI 6 rfl rfl hf;obtain⟨x7,k7,l7⟩:=gI 7 rfl rfl hf;obtain⟨x8,k8,l8⟩:=gI 8 rfl rfl hf;obtain⟨x9,k9,l9⟩:=gI 9 rfl rfl hf;obtain⟨cA,k10,l10⟩:=gS 10 rfl rfl hf;obtain⟨gi,k11,l11⟩:=gD 11 rfl (k:=2) kr (aam fuel) hf;obtain⟨gm,k12,l12⟩:=gI 12 rfl rfl hf;obtain⟨gp,k13,l13⟩:=gB 13 rfl rfl hf;refine⟨.mk x0 x1 x2 x3 x4 x5 x6 x7 x8 x9 cA gi gm gp,⟨k0,k1,k2,k3,k4,k5,k6,k7,k8,k9,k10,k11,k12,k13⟩,?_⟩;simpa[sL,Aw]using LD.cat (o:=0) l0 (LD.cat l1 (LD.cat l2 (LD.cat l3 (LD.cat l4 (LD.cat l5 (LD.cat l6 (LD.cat l7 (LD.cat l8 (LD.cat l9 (LD.cat l10 (LD.cat l11 (LD.cat l12 (LD.cat l13 (LD.fin (hl.trans kr)))))))))))))))
theorem abV(x:aZ):(xg x).length=3:=by cases x;simp[xg]
instance:Inhabited aZ:=⟨cw⟩
def XC(v:aZ):Prop:=Ts v.bM<=140737488351232/\True/\v.fData.length<=140737488351232
theorem ajQ(fuel:Nat):eA fF prog W fuel 63 xg XC:=by
 obtain _|fuel:=fuel
 ·exact mZ
 refine mT fuel underlying63 λcs hl hf=>?_;obtain⟨x0,k0,l0⟩:=gS 0 rfl rfl hf;obtain⟨x1,k1,l1⟩:=gB 1 rfl rfl hf;obtain⟨x2,k2,l2⟩:=gS 2 rfl rfl hf;refine⟨.mk x0 x1 x2,⟨k0,k1,k2⟩,?_⟩;simpa[sL,xg]using LD.cat (o:=0) l0 (LD.cat l1 (LD.cat l2 (LD.fin (hl.trans kr))))
theorem atp(fuel:Nat):eA fF prog W fuel 31 (sL 3 xg) (kL XC):=mS underlying31 kr de abV ajQ fuel
theorem XD(x:cO):(qp x).length=2:=by cases x;simp[qp]
instance:Inhabited cO:=⟨xh⟩
def uv(v:cO):Prop:=Ts v.fText<=140737488351232/\(Lit.int .i64 v.gr).wf=hJ
theorem SP(fuel:Nat):eA fF prog W fuel 52 qp uv:=by
 obtain _|fuel:=fuel
 ·exact mZ
 refine mT fuel underlying52 λcs hl hf=>?_;obtain⟨x0,k0,l0⟩:=gS 0 rfl rfl hf;obtain⟨x1,k1,l1⟩:=gI 1 rfl rfl hf;refine⟨.mk x0 x1,⟨k0,k1⟩,?_⟩;simpa[sL,qp]using LD.cat (o:=0) l0 (LD.cat l1 (LD.fin (hl.trans kr)))
theorem atq(fuel:Nat):eA fF prog W fuel 32 (sL 2 qp) (kL uv):=mS underlying32 kr de XD SP fuel
instance:Inhabited wS:=⟨aox⟩
def K4(v:wS):Prop:=afT v.mY/\(Ts v.oV<=maxLen/\∀y,y∈v.oV->XC y)/\(Ts v.Le<=maxLen/\∀y,y∈v.Le->Ts y<=140737488351232)/\(Ts v.kf<=maxLen/\∀y,y∈v.kf->uv y)
theorem alU(fuel:Nat):eA fF prog W fuel 34 XE K4:=by
 obtain _|fuel:=fuel
 ·exact mZ
 refine mT fuel underlying34 λcs hl hf=>?_;obtain⟨x0,k0,l0⟩:=gD 0 rfl (k:=15) kr (ajP fuel) hf;obtain⟨x1,k1,l1⟩:=gD 1 rfl (k:=1) kr (atp fuel) hf;obtain⟨x2,k2,l2⟩:=gD 2 rfl (k:=1) kr (aov fuel) hf;obtain⟨x3,k3,l3⟩:=gD 3 rfl (k:=1) kr (atq fuel) hf;refine⟨.mk x0 x1 x2 x3,⟨k0,k1,k2,k3⟩,?_⟩;simpa[sL,XE]using LD.cat (o:=0) l0 (LD.cat l1 (LD.cat l2 (LD.cat l3 (LD.fin (hl.trans kr)))))
