import Derived.Test.YtjfbblgjjdgjdaaGreatDoorZ2
import Derived.Test.YtjfbblgjjdgjdaaGreatDoorCards
import Derived.Test.YtjfbblgjjdgjdaaGreatDoorTie
import Derived.ProofKit
import Derived.ShutString
import Derived.Lay
import Derived.HandedShaped
import Derived.Stop.LaidErr
open Option renaming some->iN,none->iF
open Bool renaming true->hJ
open Nat renaming beq->eI
open Go renaming Value->T1,FuncId->H5
open List renaming length->Ts
set_option linter.all false
namespace Go.Proofs.YtjfbblgjjdgjdaaGreatDoor
open Go.Proofs.Tryz
open Go.ChangeShapes Go.WideShapes Go.ChangeAt Go.RowKit Go.RT
theorem own:ownKnob Tryz.prog.godebug=iF:=by kernel_rfl
theorem laidOut:laidOutB prog=hJ:=by kernel_rfl
abbrev Gf:J (String×DataW Unit):=[("math/bits.deBruijn32tab",Rows.laid_math_bits_deBruijn32tab),("math/bits.deBruijn64tab",Rows.laid_math_bits_deBruijn64tab),("internal/strconv.uint64pow10",Rows.laid_internal_strconv_uint64pow10),("unicode/utf8.acceptRanges",Rows.laid_unicode_utf8_acceptRanges),("unicode/utf8.first",Rows.laid_unicode_utf8_first)]
theorem aeG:(Gf.filter λx=>x.2.handleName?.isNone)=Gf:=by kernel_rfl
theorem aah{W:U}{g:Nat}{v:T1}(h:W.cell? ⟨g,0,iF⟩=iN v):∃cs t m,W.heap[g]? = iN (.cells cs t m)/\cs[0]? = iN v:=by
 unfold World.cell? at h;split at h
 ·rename_i cs t m hh;exact⟨cs,t,m,hh,by simpa using h⟩
 ·cases h
theorem abH{W:U}(h:laidMetH prog Gf W)(hs:W.ShapedOpen prog):∀b p,E.gb b=iN p->∃cs t m,W.heap[b]? = iN (.cells cs t m)/\p cs:=by
 have h':laidMet prog Gf W:=h;intro b p hb;have hb:(cond (eI b 1) (iN (λcs:aK T1=>cs=(Lib.pow10Tab.map λz=>Value.int .u64 z).toArray)) (cond (eI b 0) (iN (λcs:aK T1=>∃m,cs[0]? = iN (Value.int .i64 m))) iF))=iN p:=hb;cases he:eI b 1<;>rw[he]at hb<;>simp only[aU,aJ]at hb
 rotate_left
 ·cases hb;have:=eY he;subst this;have ht:Lib.TabIs prog W "internal/strconv.uint64pow10" .u64 Lib.pow10Tab:=Lib.tabIs_of_head (rest:=_) (g:=1) (t:=423) (e:=287) (n:=20) kr kr underlying423 underlying287 kr kr h'.tail.tail
  unfold Lib.TabIs World.var? at ht;rw[show Tryz.prog.globalNamed "internal/strconv.uint64pow10" = iN 1 by kernel_rfl]at ht;simp only[aE]at ht;split at ht
  ·rename_i cs' t m hh;cases ht;exact⟨_,t,m,hh,rfl⟩
  ·cases ht
 cases Y9:eI b 0<;>rw[Y9]at hb<;>simp only[aU,aJ]at hb
 ·cases hb
 cases hb;have:=eY Y9;subst this;obtain⟨m,hm⟩:=cell_of_shapedOpen_int (g:=0) (t:=3) (k:=.i64) (zero:=#[.int .i64 0]) hs (zi kr) kr rfl kr kr underlying3;obtain⟨cs,t,m2,q1,q2⟩:=aah hm;exact⟨cs,t,m2,q1,m,q2⟩
noncomputable def Y2(os:Os):U:=World.laidAll prog os Gf
set_option maxRecDepth 100000 in
theorem aag(os:Os)(args:aK T1):laidMetH prog Gf ((Y2 os).forCall (λ_ _=>0) ⟨#[],args,[]⟩).memory:=laidMetH_of_parts (by rw[aeG];exact laidMet_laidAll args kr kr) kr
theorem aaf{H:Type}{enc:aL×T1->H}{a:Assume}{C:Checked}{os:Os}{f:H5}{fn:Func}{s:ChangeSpec}{conds:J PathCond}{apart fresh handsOn again:Bool}{X:U->aK T1->Prop}
  (hX:∀(w w':U)(args:aK T1),w.heap=w'.heap->X w args->X w' args)
  (own:ownKnob C.prog.godebug=iF) (started:os.Started) (noInit:C.prog.inits.idxOf? f=iF) (hfn:C.prog.funcs[f]? = iN fn)
  (witness:∃(w:U)(tape:Tape)(i:Input),w.os=os/\(w.forCall tape i).Shaped C.prog/\i.vars=[]/\Input.okWide C.prog (w.forCall tape i) .any w.heap.size f i /\
   ((s.pre enc C.prog fn conds apart (w.forCall tape i).memory i.args/\X (w.forCall tape i).memory i.args)/\sizedMet enc C.prog fn (OpenSpec.ofChange s) apart (w.forCall tape i).memory i.args)/\a.holds C.prog (lone (Frame.enter C.prog f i.args .normal) [] (w.forCall tape i)))
  (contract:∀(W:U)(base:Nat)(args:aK T1)(ds gs:J (DataW H))(before:J MemPlace),
   (∀(j:Nat) t v,fn.params[j]? = iN t->args[j]? = iN v->Value.okWide C.prog W .any base t v) ->
   DataW.Whole enc C.prog fn.params.toList s.vars apart W args.toList ds gs before ->
   X W args->W.ShapedOpen C.prog->(DataW.weightsEach C.prog (fn.params.toList++(OpenSpec.ofChange s).bare.plain.varTypes C.prog) (ds++gs)).all (·<=reachBytes)=hJ ->
   Calls C.prog f args W λe W'=>∃v,e=.returned v/\s.post enc C.prog fn apart fresh handsOn again W args v W') :
  ReturnsInHanded a C os f .any (λw args=>(s.pre enc C.prog fn conds apart w args/\X w args)/\sizedMet enc C.prog fn (OpenSpec.ofChange s) apart w args) (s.post enc C.prog fn apart fresh handsOn again):=by
 refine returnsInHanded_of_calls own started noInit witness ?_;intro w tape i _ hsh _ hok hpre _;obtain⟨_,_,_,fn',auV,_,_,_,_,hval⟩:=hok;have e:fn'=fn:=pO (auV.symm.trans hfn);subst e;obtain⟨⟨⟨ds,gs,before,hw,hc⟩,hx⟩,hz⟩:=hpre;have hw':=DataW.Whole.of_heap (w':=w.forCall tape i) (by rfl) hw;refine(contract (w.forCall tape i) w.heap.size i.args ds gs before hval hw' (hX _ _ _ (by rfl) hx) hsh (hz.weights hw)).mono λe W' ⟨v,he,hp⟩=>?_;subst he;exact ChangeSpec.post_blind hp
variable {H : Type} {fD : aL × T1 -> H} {W : U}
variable{t:aL}{α:Type}{ok:α->Prop}{enc:α->J DV}
def mT{fs:aK Field}(fuel:Nat)(ht:Tryz.prog.underlying t=iN (.struct fs))(hh:∀cs:J T1,Ts cs=Tryz.prog.cellsOf t->(∀f,f∈fs.toList->∃y,DataW.trod fD prog W 0 (λ_=>hJ) hJ fuel f.type ((cs.drop f.offset).take (Tryz.prog.cellsOf f.type))=iN y/\Jk prog f.type y.1)->∃x,ok x/\LD W (λb _=>b<W.heap.size) cs (enc x)):ez fD prog W (fuel+1) t enc ok:=λcs d ps h hw=>have q:=O2 ht h hw;hh cs q.1 q.2
theorem mZ:ez fD prog W 0 t enc ok:=by intro cs d ps h;cases h
def sL{α:Type}(k:Nat)(enc:α->J DV)(vs:J α):J DV:=[DV.slice k (vs.map enc)]
def kL{α:Type}(ok:α->Prop)(vs:J α):Prop:=Ts vs<=maxLen/\∀y,y∈vs->ok y
def mS{e:aL}{k:Nat}[Inhabited α](ht:Tryz.prog.underlying t=iN (.slice e))(hk:Tryz.prog.cellsOf e=k)(hkp:0<k)(hlen:∀x,Ts (enc x)=k)(he:∀fuel,ez fD prog W fuel e enc ok):∀fuel,ez fD prog W fuel t (sL k enc) (kL ok)|0=>mZ|n+1=>SV ht hk hkp hlen (he n)
theorem mK{e:aL}{k:Nat}[Inhabited α]{n:Nat}(ht:Tryz.prog.underlying t=iN (.slice e))(hk:Tryz.prog.cellsOf e=k)(hkp:0<k)(hlen:∀x,Ts (enc x)=k)(he:∀fuel,fuel<n->ez fD prog W fuel e enc ok):∀fuel,fuel<n->ez fD prog W fuel t (sL k enc) (kL ok)|0,_=>mZ|n+1,h=>SV ht hk hkp hlen (he n om)
variable {fs : aK Field} {fuel : Nat} {cs : J T1} (j : Nat) {f : Field}
theorem gS(hf:fs[j]? = iN f)(e:f.type=9)(h:∀f,f∈fs.toList->∃y,DataW.trod fD prog W 0 (λ_=>hJ) hJ fuel f.type ((cs.drop f.offset).take (Tryz.prog.cellsOf f.type))=iN y/\Jk prog f.type y.1):∃x:Bs,(Ts x<=140737488351232)/\LD W (λb _=>b<W.heap.size) ((cs.drop f.offset).take 1) [DV.str x]:=gA j hf (by rw[e];kernel_rfl) (e▸O3 underlying9 fuel) h
theorem gI(hf:fs[j]? = iN f)(e:f.type=3)(h:∀f,f∈fs.toList->∃y,DataW.trod fD prog W 0 (λ_=>hJ) hJ fuel f.type ((cs.drop f.offset).take (Tryz.prog.cellsOf f.type))=iN y/\Jk prog f.type y.1):∃x:Int,((Lit.int .i64 x).wf=hJ)/\LD W (λb _=>b<W.heap.size) ((cs.drop f.offset).take 1) [DV.int .i64 x]:=gA j hf (by rw[e];kernel_rfl) (e▸Y3 underlying3 fuel) h
theorem gB(hf:fs[j]? = iN f)(e:f.type=4)(h:∀f,f∈fs.toList->∃y,DataW.trod fD prog W 0 (λ_=>hJ) hJ fuel f.type ((cs.drop f.offset).take (Tryz.prog.cellsOf f.type))=iN y/\Jk prog f.type y.1):∃x:Bool,(True)/\LD W (λb _=>b<W.heap.size) ((cs.drop f.offset).take 1) [DV.bool x]:=gA j hf (by rw[e];kernel_rfl) (e▸ahr underlying4 fuel) h
theorem aeH(x:bP):(Dl x).length=5:=by cases x;simp[Dl]
instance:Inhabited bP:=⟨eB⟩
def abM(v:bP):Prop:=Ts v.fName<=140737488351232/\v.cj.length<=140737488351232/\True/\True/\True
theorem al6(fuel:Nat):ez fD prog W fuel 61 Dl abM:=by
 obtain _|fuel:=fuel
 ·exact mZ
 refine mT fuel underlying61 λcs hl hf=>?_;obtain⟨x0,k0,l0⟩:=gS 0 rfl rfl hf;obtain⟨x1,k1,l1⟩:=gS 1 rfl rfl hf;obtain⟨x2,k2,l2⟩:=gB 2 rfl rfl hf;obtain⟨x3,k3,l3⟩:=gB 3 rfl rfl hf;obtain⟨x4,k4,l4⟩:=gB 4 rfl rfl hf;refine⟨.mk x0 x1 x2 x3 x4,⟨k0,k1,k2,k3,k4⟩,?_⟩;simpa[sL,Dl]using LD.cat (o:=0) l0 (LD.cat l1 (LD.cat l2 (LD.cat l3 (LD.cat l4 (LD.fin (hl.trans kr))))))
theorem atm(fuel:Nat):ez fD prog W fuel 22 (sL 5 Dl) (kL abM):=mS underlying22 kr de aeH al6 fuel
theorem aou(fuel:Nat):ez fD prog W fuel 23 (sL 1 (λl:Bs=>[DV.str l])) (kL λy:Bs=>Ts y<=140737488351232):=mS (k:=1) underlying23 kr de (λ_=>rfl) (O3 underlying9) fuel
instance:Inhabited d6:=⟨kz⟩
inductive Dm:d6->Prop
 | mk (x0:Int) (x1:Bs) (x2:Int) (x3:Bool) (x4:List d6) (h0:(Lit.int .i64 x0).wf=hJ) (h1:Ts x1<=140737488351232) (h2:(Lit.int .i64 x2).wf=hJ) (h3:True) (h4:Ts x4<=maxLen) (g4:∀y,y∈x4->Dm y):Dm (.mk x0 x1 x2 x3 x4)
theorem O4(x:d6):(nr x).length=5:=by cases x;simp[nr]
theorem ajJ(fuel:Nat):ez fD prog W fuel 96 nr Dm:=by
 induction fuel using Nat.strongRecOn with
 | _ fuel ih=>
  have arf:∀f,f<fuel->ez fD prog W f 40 (sL 5 nr) (kL Dm):=mK underlying40 kr de O4 λf h=>(ih f h);obtain _|fuel:=fuel
  ·exact mZ
  refine mT fuel underlying96 λcs hl hf=>?_;obtain⟨x0,k0,l0⟩:=gI 0 rfl rfl hf;obtain⟨x1,k1,l1⟩:=gS 1 rfl rfl hf;obtain⟨x2,k2,l2⟩:=gI 2 rfl rfl hf;obtain⟨x3,k3,l3⟩:=gB 3 rfl rfl hf;obtain⟨x4,k4,l4⟩:=gA 4 rfl (k:=1) kr (arf fuel om) hf;refine⟨.mk x0 x1 x2 x3 x4,.mk _ _ _ _ _ k0 k1 k2 k3 k4.1 k4.2,?_⟩;simpa[sL,nr,Fu]using LD.cat (o:=0) l0 (LD.cat l1 (LD.cat l2 (LD.cat l3 (LD.cat l4 (LD.fin (hl.trans kr))))))
def ajK(fuel:Nat):ez fD prog W fuel 96 nr Dm:=(ajJ fuel)
theorem atn(fuel:Nat):ez fD prog W fuel 40 (sL 5 nr) (kL Dm):=mS underlying40 kr de O4 ajK fuel
theorem HK(x:eM):(s8 x).length=2:=by cases x;simp[s8]
instance:Inhabited eM:=⟨EG⟩
def Ho(v:eM):Prop:=(Lit.int .i64 v.fPos).wf=hJ/\(Ts v.fParts<=maxLen/\∀y,y∈v.fParts->Dm y)
theorem O5(fuel:Nat):ez fD prog W fuel 42 s8 Ho:=by
 obtain _|fuel:=fuel
 ·exact mZ
 refine mT fuel underlying42 λcs hl hf=>?_;obtain⟨x0,k0,l0⟩:=gI 0 rfl rfl hf;obtain⟨x1,k1,l1⟩:=gA 1 rfl (k:=1) kr (atn fuel) hf;refine⟨.mk x0 x1,⟨k0,k1⟩,?_⟩;simpa[sL,s8]using LD.cat (o:=0) l0 (LD.cat l1 (LD.fin (hl.trans kr)))
theorem Xv(x:tO):(uU x).length=4:=by cases x;simp[uU,HK]
instance:Inhabited tO:=⟨abN⟩
def O6(v:tO):Prop:=(Lit.int .i64 v.fPos).wf=hJ/\v.fName.length<=140737488351232/\Ho v.cj
theorem abO(fuel:Nat):ez fD prog W fuel 225 uU O6:=by
 obtain _|fuel:=fuel
 ·exact mZ
 refine mT fuel underlying225 λcs hl hf=>?_;obtain⟨x0,k0,l0⟩:=gI 0 rfl rfl hf;obtain⟨x1,k1,l1⟩:=gS 1 rfl rfl hf;obtain⟨x2,k2,l2⟩:=gA 2 rfl (k:=2) kr (O5 fuel) hf;refine⟨.mk x0 x1 x2,⟨k0,k1,k2⟩,?_⟩;simpa[sL,uU]using LD.cat (o:=0) l0 (LD.cat l1 (LD.cat l2 (LD.fin (hl.trans kr))))
theorem arh(fuel:Nat):ez fD prog W fuel 164 (sL 4 uU) (kL O6):=mS underlying164 kr de Xv abO fuel
theorem aov(fuel:Nat):ez fD prog W fuel 35 (sL 2 s8) (kL Ho):=mS underlying35 kr de HK O5 fuel
theorem aai(x:w8):(w9 x).length=5:=by cases x;simp[w9,HK]
instance:Inhabited w8:=⟨afR⟩
def TR(v:w8):Prop:=(Lit.int .i64 v.fPos).wf=hJ/\(Lit.int .i64 v.fFd).wf=hJ/\(Lit.int .i64 v.fOp).wf=hJ/\Ho v.Xw
theorem aeI(fuel:Nat):ez fD prog W fuel 230 w9 TR:=by
 obtain _|fuel:=fuel
 ·exact mZ
 refine mT fuel underlying230 λcs hl hf=>?_;obtain⟨x0,k0,l0⟩:=gI 0 rfl rfl hf;obtain⟨x1,k1,l1⟩:=gI 1 rfl rfl hf;obtain⟨x2,k2,l2⟩:=gI 2 rfl rfl hf;obtain⟨x3,k3,l3⟩:=gA 3 rfl (k:=2) kr (O5 fuel) hf;refine⟨.mk x0 x1 x2 x3,⟨k0,k1,k2,k3⟩,?_⟩;simpa[sL,w9]using LD.cat (o:=0) l0 (LD.cat l1 (LD.cat l2 (LD.cat l3 (LD.fin (hl.trans kr)))))
theorem ari(fuel:Nat):ez fD prog W fuel 165 (sL 5 w9) (kL TR):=mS underlying165 kr de aai aeI fuel
instance:Inhabited TNode:=⟨abP⟩
instance:Inhabited TItem:=⟨ajL⟩
mutual
inductive Dn:TNode->Prop
 | mk (x0:Int) (x1:Int) (x2:Bs) (x3:Bool) (x4:List tO) (x5:List eM) (x6:List w8) (x7:List TNode) (x8:List TItem) (h0:(Lit.int .i64 x0).wf=hJ) (h1:(Lit.int .i64 x1).wf=hJ) (h2:Ts x2<=140737488351232) (h3:True) (h4:(Ts x4<=maxLen/\∀y,y∈x4->O6 y)) (h5:(Ts x5<=maxLen/\∀y,y∈x5->Ho y)) (h6:(Ts x6<=maxLen/\∀y,y∈x6->TR y)) (h7:Ts x7<=maxLen) (g7:∀y,y∈x7->Dn y) (h8:Ts x8<=maxLen) (g8:∀y,y∈x8->Rz y):Dn (.mk x0 x1 x2 x3 x4 x5 x6 x7 x8)
inductive Rz:TItem->Prop
 | mk (x0:List eM) (x1:List TNode) (h0:(Ts x0<=maxLen/\∀y,y∈x0->Ho y)) (h1:Ts x1<=maxLen) (g1:∀y,y∈x1->Dn y):Rz (.mk x0 x1)
end
theorem O7(x:TNode):(pS x).length=9:=by cases x;simp[pS]
theorem abQ(x:TItem):(tc x).length=2:=by cases x;simp[tc]
theorem ahs(fuel:Nat):ez fD prog W fuel 169 pS Dn/\ez fD prog W fuel 234 tc Rz:=by
 induction fuel using Nat.strongRecOn with
 | _ fuel ih=>
  have afS:∀f,f<fuel->ez fD prog W f 166 (sL 9 pS) (kL Dn):=mK underlying166 kr de O7 λf h=>(ih f h).1;have apo:∀f,f<fuel->ez fD prog W f 167 (sL 2 tc) (kL Rz):=mK underlying167 kr de abQ λf h=>(ih f h).2;refine⟨?_,?_⟩
  ·obtain _|fuel:=fuel
   ·exact mZ
   refine mT fuel underlying169 λcs hl hf=>?_;obtain⟨x0,k0,l0⟩:=gI 0 rfl rfl hf;obtain⟨x1,k1,l1⟩:=gI 1 rfl rfl hf;obtain⟨x2,k2,l2⟩:=gS 2 rfl rfl hf;obtain⟨x3,k3,l3⟩:=gB 3 rfl rfl hf;obtain⟨x4,k4,l4⟩:=gA 4 rfl (k:=1) kr (arh fuel) hf;obtain⟨x5,k5,l5⟩:=gA 5 rfl (k:=1) kr (aov fuel) hf;obtain⟨x6,k6,l6⟩:=gA 6 rfl (k:=1) kr (ari fuel) hf;obtain⟨x7,k7,l7⟩:=gA 7 rfl (k:=1) kr (afS fuel om) hf;obtain⟨x8,k8,l8⟩:=gA 8 rfl (k:=1) kr (apo fuel om) hf;refine⟨.mk x0 x1 x2 x3 x4 x5 x6 x7 x8,.mk _ _ _ _ _ _ _ _ _ k0 k1 k2 k3 k4 k5 k6 k7.1 k7.2 k8.1 k8.2,?_⟩;simpa[sL,pS,vp,vq]using LD.cat (o:=0) l0 (LD.cat l1 (LD.cat l2 (LD.cat l3 (LD.cat l4 (LD.cat l5 (LD.cat l6 (LD.cat l7 (LD.cat l8 (LD.fin (hl.trans kr))))))))))
  ·obtain _|fuel:=fuel
   ·exact mZ
   refine mT fuel underlying234 λcs hl hf=>?_;obtain⟨x0,k0,l0⟩:=gA 0 rfl (k:=1) kr (aov fuel) hf;obtain⟨x1,k1,l1⟩:=gA 1 rfl (k:=1) kr (afS fuel om) hf;refine⟨.mk x0 x1,.mk _ _ k0 k1.1 k1.2,?_⟩;simpa[sL,tc,vp,vq]using LD.cat (o:=0) l0 (LD.cat l1 (LD.fin (hl.trans kr)))
def aht(fuel:Nat):ez fD prog W fuel 169 pS Dn:=(ahs fuel).1
theorem abR(x:Ac):(Ax x).length=10:=by cases x;simp[Ax,O7]
instance:Inhabited Ac:=⟨ajM⟩
def Xx(v:Ac):Prop:=Ts v.fName<=140737488351232/\Dn v.fBody
theorem ahu(fuel:Nat):ez fD prog W fuel 171 Ax Xx:=by
 obtain _|fuel:=fuel
 ·exact mZ
 refine mT fuel underlying171 λcs hl hf=>?_;obtain⟨x0,k0,l0⟩:=gS 0 rfl rfl hf;obtain⟨x1,k1,l1⟩:=gA 1 rfl (k:=9) kr (aht fuel) hf;refine⟨.mk x0 x1,⟨k0,k1⟩,?_⟩;simpa[sL,Ax]using LD.cat (o:=0) l0 (LD.cat l1 (LD.fin (hl.trans kr)))
theorem ato(fuel:Nat):ez fD prog W fuel 24 (sL 10 Ax) (kL Xx):=mS underlying24 kr de abR ahu fuel
theorem aaj(x:cC):(xb x).length=2:=by cases x;simp[xb]
instance:Inhabited cC:=⟨su⟩
def TT(v:cC):Prop:=Ts v.fName<=140737488351232/\v.cj.length<=140737488351232
theorem aeJ(fuel:Nat):ez fD prog W fuel 159 xb TT:=by
 obtain _|fuel:=fuel
 ·exact mZ
 refine mT fuel underlying159 λcs hl hf=>?_;obtain⟨x0,k0,l0⟩:=gS 0 rfl rfl hf;obtain⟨x1,k1,l1⟩:=gS 1 rfl rfl hf;refine⟨.mk x0 x1,⟨k0,k1⟩,?_⟩;simpa[sL,xb]using LD.cat (o:=0) l0 (LD.cat l1 (LD.fin (hl.trans kr)))
theorem atp(fuel:Nat):ez fD prog W fuel 25 (sL 2 xb) (kL TT):=mS underlying25 kr de aaj aeJ fuel
theorem abS(x:BA):(Ay x).length=2:=by cases x;simp[Ay]
instance:Inhabited BA:=⟨ajN⟩
def Xy(v:BA):Prop:=(Lit.int .i64 v.al7).wf=hJ/\v.Xz.length<=140737488351232
theorem ahv(fuel:Nat):ez fD prog W fuel 162 Ay Xy:=by
 obtain _|fuel:=fuel
 ·exact mZ
 refine mT fuel underlying162 λcs hl hf=>?_;obtain⟨x0,k0,l0⟩:=gI 0 rfl rfl hf;obtain⟨x1,k1,l1⟩:=gS 1 rfl rfl hf;refine⟨.mk x0 x1,⟨k0,k1⟩,?_⟩;simpa[sL,Ay]using LD.cat (o:=0) l0 (LD.cat l1 (LD.fin (hl.trans kr)))
theorem atq(fuel:Nat):ez fD prog W fuel 26 (sL 2 Ay) (kL Xy):=mS underlying26 kr de abS ahv fuel
instance:Inhabited oW:=⟨Mr⟩
def SW(v:oW):Prop:=(Lit.int .i64 v.La).wf=hJ/\(Lit.int .i64 v.Hp).wf=hJ
theorem aak(fuel:Nat):ez fD prog W fuel 28 BB SW:=by
 obtain _|fuel:=fuel
 ·exact mZ
 refine mT fuel underlying28 λcs hl hf=>?_;obtain⟨x0,k0,l0⟩:=gI 0 rfl rfl hf;obtain⟨x1,k1,l1⟩:=gI 1 rfl rfl hf;refine⟨.mk x0 x1,⟨k0,k1⟩,?_⟩;simpa[sL,BB]using LD.cat (o:=0) l0 (LD.cat l1 (LD.fin (hl.trans kr)))
instance:Inhabited eP:=⟨Lb⟩
def afT(v:eP):Prop:=Ts v.fName<=140737488351232/\(Ts v.b8<=maxLen/\∀y,y∈v.b8->abM y)/\(Ts v.cZ<=maxLen/\∀y,y∈v.cZ->Ts y<=140737488351232)/\(Ts v.vr<=maxLen/\∀y,y∈v.vr->Xx y)/\(Ts v.pT<=maxLen/\∀y,y∈v.pT->TT y)/\(Ts v.vu<=maxLen/\∀y,y∈v.vu->Xy y)/\(Lit.int .i64 v.iw).wf=hJ/\(Lit.int .i64 v.ic).wf=hJ/\(Lit.int .i64 v.Dp).wf=hJ/\(Lit.int .i64 v.qq).wf=hJ/\v.uV.length<=140737488351232/\SW v.yx/\(Lit.int .i64 v.Lc).wf=hJ/\True
theorem ajO(fuel:Nat):ez fD prog W fuel 30 Az afT:=by
 obtain _|fuel:=fuel
 ·exact mZ
 refine mT fuel underlying30 λcs hl hf=>?_;obtain⟨x0,k0,l0⟩:=gS 0 rfl rfl hf;obtain⟨x1,k1,l1⟩:=gA 1 rfl (k:=1) kr (atm fuel) hf;obtain⟨x2,k2,l2⟩:=gA 2 rfl (k:=1) kr (aou fuel) hf;obtain⟨x3,k3,l3⟩:=gA 3 rfl (k:=1) kr (ato fuel) hf;obtain⟨x4,k4,l4⟩:=gA 4 rfl (k:=1) kr (atp fuel) hf;obtain⟨x5,k5,l5⟩:=gA 5 rfl (k:=1) kr (atq fuel) hf;obtain⟨x6,k6,l6⟩:=gI 6 rfl rfl hf;obtain⟨x7,k7,l7⟩:=gI 7 rfl rfl hf;obtain⟨x8,k8,l8⟩:=gI 8 rfl rfl hf;obtain⟨x9,k9,l9⟩:=gI 9 rfl rfl hf;obtain⟨cz,k10,l10⟩:=gS 10 rfl rfl hf;obtain⟨gi,k11,l11⟩:=gA 11 rfl (k:=2) kr (aak fuel) hf;obtain⟨gm,k12,l12⟩:=gI 12 rfl rfl hf;obtain⟨gp,k13,l13⟩:=gB 13 rfl rfl hf;refine⟨.mk x0 x1 x2 x3 x4 x5 x6 x7 x8 x9 cz gi gm gp,⟨k0,k1,k2,k3,k4,k5,k6,k7,k8,k9,k10,k11,k12,k13⟩,?_⟩;simpa[sL,Az]using LD.cat (o:=0) l0 (LD.cat l1 (LD.cat l2 (LD.cat l3 (LD.cat l4 (LD.cat l5 (LD.cat l6 (LD.cat l7 (LD.cat l8 (LD.cat l9 (LD.cat l10 (LD.cat l11 (LD.cat l12 (LD.cat l13 (LD.fin (hl.trans kr)))))))))))))))
theorem abT(x:aZ):(xg x).length=3:=by cases x;simp[xg]
instance:Inhabited aZ:=⟨cw⟩
def XA(v:aZ):Prop:=Ts v.bN<=140737488351232/\True/\v.fData.length<=140737488351232
theorem ajP(fuel:Nat):ez fD prog W fuel 63 xg XA:=by
 obtain _|fuel:=fuel
 ·exact mZ
 refine mT fuel underlying63 λcs hl hf=>?_;obtain⟨x0,k0,l0⟩:=gS 0 rfl rfl hf;obtain⟨x1,k1,l1⟩:=gB 1 rfl rfl hf;obtain⟨x2,k2,l2⟩:=gS 2 rfl rfl hf;refine⟨.mk x0 x1 x2,⟨k0,k1,k2⟩,?_⟩;simpa[sL,xg]using LD.cat (o:=0) l0 (LD.cat l1 (LD.cat l2 (LD.fin (hl.trans kr))))
theorem atr(fuel:Nat):ez fD prog W fuel 31 (sL 3 xg) (kL XA):=mS underlying31 kr de abT ajP fuel
theorem XB(x:fh):(qt x).length=2:=by cases x;simp[qt]
instance:Inhabited fh:=⟨xh⟩
def O8(v:fh):Prop:=Ts v.fText<=140737488351232/\(Lit.int .i64 v.ic).wf=hJ
theorem aeK(fuel:Nat):ez fD prog W fuel 52 qt O8:=by
 obtain _|fuel:=fuel
 ·exact mZ
 refine mT fuel underlying52 λcs hl hf=>?_;obtain⟨x0,k0,l0⟩:=gS 0 rfl rfl hf;obtain⟨x1,k1,l1⟩:=gI 1 rfl rfl hf;refine⟨.mk x0 x1,⟨k0,k1⟩,?_⟩;simpa[sL,qt]using LD.cat (o:=0) l0 (LD.cat l1 (LD.fin (hl.trans kr)))
theorem att(fuel:Nat):ez fD prog W fuel 32 (sL 2 qt) (kL O8):=mS underlying32 kr de XB aeK fuel
instance:Inhabited wV:=⟨aow⟩
def K3(v:wV):Prop:=afT v.mJ/\(Ts v.sI<=maxLen/\∀y,y∈v.sI->XA y)/\(Ts v.Ld<=maxLen/\∀y,y∈v.Ld->Ts y<=140737488351232)/\(Ts v.kM<=maxLen/\∀y,y∈v.kM->O8 y)
theorem alS(fuel:Nat):ez fD prog W fuel 34 XC K3:=by
 obtain _|fuel:=fuel
 ·exact mZ
 refine mT fuel underlying34 λcs hl hf=>?_;obtain⟨x0,k0,l0⟩:=gA 0 rfl (k:=15) kr (ajO fuel) hf;obtain⟨x1,k1,l1⟩:=gA 1 rfl (k:=1) kr (atr fuel) hf;obtain⟨x2,k2,l2⟩:=gA 2 rfl (k:=1) kr (aou fuel) hf;obtain⟨x3,k3,l3⟩:=gA 3 rfl (k:=1) kr (att fuel) hf;refine⟨.mk x0 x1 x2 x3,⟨k0,k1,k2,k3⟩,?_⟩;simpa[sL,XC]using LD.cat (o:=0) l0 (LD.cat l1 (LD.cat l2 (LD.cat l3 (LD.fin (hl.trans kr)))))
