import Derived.Test.YthkbglhnagkpcaaGreatDoorZ2
import Derived.Test.YthkbglhnagkpcaaGreatDoorCards
import Derived.Test.YthkbglhnagkpcaaGreatDoorTie
import Derived.ProofKit
import Derived.ShutString
import Derived.Lay
import Derived.HandedShaped
import Derived.Stop.LaidErr
open Option renaming some->iN,none->iF
open Bool renaming true->eQ
open Nat renaming beq->dO
open Go renaming Value->R0,FuncId->H4
open List renaming length->Sx
set_option linter.all false
namespace Go.Proofs.YthkbglhnagkpcaaGreatDoor
open Go.Proofs.Tryz
open Go.ChangeShapes Go.WideShapes Go.ChangeAt Go.RowKit Go.RT
theorem own:ownKnob Tryz.prog.godebug=iF:=by kernel_rfl
theorem laidOut:laidOutB prog=eQ:=by kernel_rfl
abbrev GG:J (String×DataW Unit):=[("math/bits.deBruijn32tab",Rows.laid_math_bits_deBruijn32tab),("math/bits.deBruijn64tab",Rows.laid_math_bits_deBruijn64tab),("internal/strconv.uint64pow10",Rows.laid_internal_strconv_uint64pow10),("unicode/utf8.acceptRanges",Rows.laid_unicode_utf8_acceptRanges),("unicode/utf8.first",Rows.laid_unicode_utf8_first)]
theorem afh:(GG.filter λx=>x.2.handleName?.isNone)=GG:=by kernel_rfl
theorem aaO{W:U}{g:Nat}{v:R0}(h:W.cell? ⟨g,0,iF⟩=iN v):∃cs t m,W.heap[g]? = iN (.cells cs t m)/\cs[0]? = iN v:=by
 unfold World.cell? at h;split at h
 .rename_i cs t m hh;exact⟨cs,t,m,hh,by simpa using h⟩
 .cases h
theorem acf{W:U}(h:laidMetH prog GG W)(hs:W.ShapedOpen prog):∀b p,E.gb b=iN p->∃cs t m,W.heap[b]? = iN (.cells cs t m)/\p cs:=by
 have h':laidMet prog GG W:=h;intro b p hb;have hb:(cond (dO b 1) (iN (λcs:aJ R0=>cs=(Lib.pow10Tab.map λz=>Value.int .u64 z).toArray)) (cond (dO b 0) (iN (λcs:aJ R0=>∃m,cs[0]? = iN (Value.int .i64 m))) iF))=iN p:=hb;cases he:dO b 1<;>rw[he]at hb<;>simp only[aQ,aI]at hb
 rotate_left
 .cases hb;have:=fm he;subst this;have ht:Lib.TabIs prog W "internal/strconv.uint64pow10" .u64 Lib.pow10Tab:=Lib.tabIs_of_head (rest:=_) (g:=1) (t:=432) (e:=297) (n:=20) kr kr underlying432 underlying297 kr kr h'.tail.tail
  unfold Lib.TabIs World.var? at ht;rw[show Tryz.prog.globalNamed "internal/strconv.uint64pow10" = iN 1 by kernel_rfl]at ht;simp only[aC]at ht;split at ht
  .rename_i cs' t m hh;cases ht;exact⟨_,t,m,hh,rfl⟩
  .cases ht
 cases ZW:dO b 0<;>rw[ZW]at hb<;>simp only[aQ,aI]at hb
 .cases hb
 cases hb;have:=fm ZW;subst this;obtain⟨m,hm⟩:=cell_of_shapedOpen_int (g:=0) (t:=3) (k:=.i64) (zero:=#[.int .i64 0]) hs (DA kr) kr rfl kr kr underlying3;obtain⟨cs,t,m2,q1,q2⟩:=aaO hm;exact⟨cs,t,m2,q1,m,q2⟩
noncomputable def ZP(os:Os):U:=World.laidAll prog os GG
set_option maxRecDepth 100000 in
theorem aaN(os:Os)(args:aJ R0):laidMetH prog GG ((ZP os).forCall (λ_ _=>0) ⟨#[],args,[]⟩).memory:=laidMetH_of_parts (by rw[afh];exact laidMet_laidAll args kr kr) kr
theorem aaM{H:Type}{enc:aK×R0->H}{a:Assume}{C:Checked}{os:Os}{f:H4}{fn:Func}{s:ChangeSpec}{conds:J PathCond}{apart fresh handsOn again:Bool}{X:U->aJ R0->Prop}
  (hX:∀(w w':U)(args:aJ R0),w.heap=w'.heap->X w args->X w' args)
  (own:ownKnob C.prog.godebug=iF) (started:os.Started) (noInit:C.prog.inits.idxOf? f=iF) (hfn:C.prog.funcs[f]? = iN fn)
  (witness:∃(w:U)(tape:Tape)(i:Input),w.os=os/\(w.forCall tape i).Shaped C.prog/\i.vars=[]/\Input.okWide C.prog (w.forCall tape i) .any w.heap.size f i /\
   ((s.pre enc C.prog fn conds apart (w.forCall tape i).memory i.args/\X (w.forCall tape i).memory i.args)/\sizedMet enc C.prog fn (OpenSpec.ofChange s) apart (w.forCall tape i).memory i.args)/\a.holds C.prog (lone (Frame.enter C.prog f i.args .normal) [] (w.forCall tape i)))
  (contract:∀(W:U)(base:Nat)(args:aJ R0)(ds gs:J (DataW H))(before:J MemPlace),
   (∀(j:Nat) t v,fn.params[j]? = iN t->args[j]? = iN v->Value.okWide C.prog W .any base t v) ->
   DataW.Whole enc C.prog fn.params.toList s.vars apart W args.toList ds gs before ->
   X W args->W.ShapedOpen C.prog->(DataW.weightsEach C.prog (fn.params.toList++(OpenSpec.ofChange s).bare.plain.varTypes C.prog) (ds++gs)).all (·<=reachBytes)=eQ ->
   Calls C.prog f args W λe W'=>∃v,e=.returned v/\s.post enc C.prog fn apart fresh handsOn again W args v W') :
  ReturnsInHanded a C os f .any (λw args=>(s.pre enc C.prog fn conds apart w args/\X w args)/\sizedMet enc C.prog fn (OpenSpec.ofChange s) apart w args) (s.post enc C.prog fn apart fresh handsOn again):=by
 refine returnsInHanded_of_calls own started noInit witness ?_;intro w tape i _ hsh _ hok hpre _;obtain⟨_,_,_,fn',avf,_,_,_,_,hval⟩:=hok;have e:fn'=fn:=o4 (avf.symm.trans hfn);subst e;obtain⟨⟨⟨ds,gs,before,hw,hc⟩,hx⟩,hz⟩:=hpre;have hw':=DataW.Whole.of_heap (w':=w.forCall tape i) (by rfl) hw;refine(contract (w.forCall tape i) w.heap.size i.args ds gs before hval hw' (hX _ _ _ (by rfl) hx) hsh (hz.weights hw)).mono λe W' ⟨v,he,hp⟩=>?_;subst he;exact ChangeSpec.post_blind hp
variable {H : Type} {fG : aK × R0 -> H} {W : U}
variable{t:aK}{α:Type}{ok:α->Prop}{enc:α->J DV}
def mT{fs:aJ Field}(fuel:Nat)(ht:Tryz.prog.underlying t=iN (.struct fs))(hh:∀cs:J R0,Sx cs=Tryz.prog.cellsOf t->(∀f,f∈fs.toList->∃y,DataW.trod fG prog W 0 (λ_=>eQ) eQ fuel f.type ((cs.drop f.offset).take (Tryz.prog.cellsOf f.type))=iN y/\JS prog f.type y.1)->∃x,ok x/\LD W (λb _=>b<W.heap.size) cs (enc x)):eB fG prog W (fuel+1) t enc ok:=λcs d ps h hw=>have q:=P8 ht h hw;hh cs q.1 q.2
theorem mZ:eB fG prog W 0 t enc ok:=by intro cs d ps h;cases h
def sL{α:Type}(k:Nat)(enc:α->J DV)(vs:J α):J DV:=[DV.slice k (vs.map enc)]
def kL{α:Type}(ok:α->Prop)(vs:J α):Prop:=Sx vs<=maxLen/\∀y,y∈vs->ok y
def mS{e:aK}{k:Nat}[Inhabited α](ht:Tryz.prog.underlying t=iN (.slice e))(hk:Tryz.prog.cellsOf e=k)(hkp:0<k)(hlen:∀x,Sx (enc x)=k)(he:∀fuel,eB fG prog W fuel e enc ok):∀fuel,eB fG prog W fuel t (sL k enc) (kL ok)|0=>mZ|n+1=>TR ht hk hkp hlen (he n)
theorem mK{e:aK}{k:Nat}[Inhabited α]{n:Nat}(ht:Tryz.prog.underlying t=iN (.slice e))(hk:Tryz.prog.cellsOf e=k)(hkp:0<k)(hlen:∀x,Sx (enc x)=k)(he:∀fuel,fuel<n->eB fG prog W fuel e enc ok):∀fuel,fuel<n->eB fG prog W fuel t (sL k enc) (kL ok)|0,_=>mZ|n+1,h=>TR ht hk hkp hlen (he n om)
variable {fs : aJ Field} {fuel : Nat} {cs : J R0} (j : Nat) {f : Field}
theorem gS(hf:fs[j]? = iN f)(e:f.type=9)(h:∀f,f∈fs.toList->∃y,DataW.trod fG prog W 0 (λ_=>eQ) eQ fuel f.type ((cs.drop f.offset).take (Tryz.prog.cellsOf f.type))=iN y/\JS prog f.type y.1):∃x:Bs,(Sx x<=140737488351232)/\LD W (λb _=>b<W.heap.size) ((cs.drop f.offset).take 1) [DV.str x]:=gH j hf (by rw[e];kernel_rfl) (e▸P9 underlying9 fuel) h
theorem gI(hf:fs[j]? = iN f)(e:f.type=3)(h:∀f,f∈fs.toList->∃y,DataW.trod fG prog W 0 (λ_=>eQ) eQ fuel f.type ((cs.drop f.offset).take (Tryz.prog.cellsOf f.type))=iN y/\JS prog f.type y.1):∃x:Int,((Lit.int .i64 x).wf=eQ)/\LD W (λb _=>b<W.heap.size) ((cs.drop f.offset).take 1) [DV.int .i64 x]:=gH j hf (by rw[e];kernel_rfl) (e▸akf underlying3 fuel) h
theorem gB(hf:fs[j]? = iN f)(e:f.type=4)(h:∀f,f∈fs.toList->∃y,DataW.trod fG prog W 0 (λ_=>eQ) eQ fuel f.type ((cs.drop f.offset).take (Tryz.prog.cellsOf f.type))=iN y/\JS prog f.type y.1):∃x:Bool,(True)/\LD W (λb _=>b<W.heap.size) ((cs.drop f.offset).take 1) [DV.bool x]:=gH j hf (by rw[e];kernel_rfl) (e▸ah0 underlying4 fuel) h
theorem afi(x:bP):(DJ x).length=5:=by cases x;simp[DJ]
instance:Inhabited bP:=⟨eH⟩
def ack(v:bP):Prop:=Sx v.fName<=140737488351232/\v.cg.length<=140737488351232/\True/\True/\True
theorem amD(fuel:Nat):eB fG prog W fuel 56 DJ ack:=by
 obtain _|fuel:=fuel
 .exact mZ
 refine mT fuel underlying56 λcs hl hf=>?_;obtain⟨x0,k0,l0⟩:=gS 0 rfl rfl hf;obtain⟨x1,k1,l1⟩:=gS 1 rfl rfl hf;obtain⟨x2,k2,l2⟩:=gB 2 rfl rfl hf;obtain⟨x3,k3,l3⟩:=gB 3 rfl rfl hf;obtain⟨x4,k4,l4⟩:=gB 4 rfl rfl hf;refine⟨.mk x0 x1 x2 x3 x4,⟨k0,k1,k2,k3,k4⟩,?_⟩;simpa[sL,DJ]using LD.cat (o:=0) l0 (LD.cat l1 (LD.cat l2 (LD.cat l3 (LD.cat l4 (LD.fin (hl.trans kr))))))
theorem atK(fuel:Nat):eB fG prog W fuel 22 (sL 5 DJ) (kL ack):=mS underlying22 kr de afi amD fuel
theorem aoX(fuel:Nat):eB fG prog W fuel 23 (sL 1 (λl:Bs=>[DV.str l])) (kL λy:Bs=>Sx y<=140737488351232):=mS (k:=1) underlying23 kr de (λ_=>rfl) (P9 underlying9) fuel
instance:Inhabited d6:=⟨mM⟩
inductive DK:d6->Prop
 | mk (x0:Int) (x1:Bs) (x2:Int) (x3:Bool) (x4:List d6) (h0:(Lit.int .i64 x0).wf=eQ) (h1:Sx x1<=140737488351232) (h2:(Lit.int .i64 x2).wf=eQ) (h3:True) (h4:Sx x4<=maxLen) (g4:∀y,y∈x4->DK y):DK (.mk x0 x1 x2 x3 x4)
theorem Qa(x:d6):(nw x).length=5:=by cases x;simp[nw]
theorem ah1(fuel:Nat):eB fG prog W fuel 116 nw DK:=by
 induction fuel using Nat.strongRecOn with
 | _ fuel ih=>
  have arE:∀f,f<fuel->eB fG prog W f 60 (sL 5 nw) (kL DK):=mK underlying60 kr de Qa λf h=>(ih f h);obtain _|fuel:=fuel
  .exact mZ
  refine mT fuel underlying116 λcs hl hf=>?_;obtain⟨x0,k0,l0⟩:=gI 0 rfl rfl hf;obtain⟨x1,k1,l1⟩:=gS 1 rfl rfl hf;obtain⟨x2,k2,l2⟩:=gI 2 rfl rfl hf;obtain⟨x3,k3,l3⟩:=gB 3 rfl rfl hf;obtain⟨x4,k4,l4⟩:=gH 4 rfl (k:=1) kr (arE fuel om) hf;refine⟨.mk x0 x1 x2 x3 x4,.mk _ _ _ _ _ k0 k1 k2 k3 k4.1 k4.2,?_⟩;simpa[sL,nw,FN]using LD.cat (o:=0) l0 (LD.cat l1 (LD.cat l2 (LD.cat l3 (LD.cat l4 (LD.fin (hl.trans kr))))))
def ah2(fuel:Nat):eB fG prog W fuel 116 nw DK:=(ah1 fuel)
theorem atL(fuel:Nat):eB fG prog W fuel 60 (sL 5 nw) (kL DK):=mS underlying60 kr de Qa ah2 fuel
theorem Il(x:gj):(tA x).length=2:=by cases x;simp[tA]
instance:Inhabited gj:=⟨E4⟩
def HN(v:gj):Prop:=(Lit.int .i64 v.fPos).wf=eQ/\(Sx v.fParts<=maxLen/\∀y,y∈v.fParts->DK y)
theorem Qb(fuel:Nat):eB fG prog W fuel 62 tA HN:=by
 obtain _|fuel:=fuel
 .exact mZ
 refine mT fuel underlying62 λcs hl hf=>?_;obtain⟨x0,k0,l0⟩:=gI 0 rfl rfl hf;obtain⟨x1,k1,l1⟩:=gH 1 rfl (k:=1) kr (atL fuel) hf;refine⟨.mk x0 x1,⟨k0,k1⟩,?_⟩;simpa[sL,tA]using LD.cat (o:=0) l0 (LD.cat l1 (LD.fin (hl.trans kr)))
theorem Yj(x:uc):(vm x).length=4:=by cases x;simp[vm,Il]
instance:Inhabited uc:=⟨acm⟩
def Qc(v:uc):Prop:=(Lit.int .i64 v.fPos).wf=eQ/\v.fName.length<=140737488351232/\HN v.cg
theorem acn(fuel:Nat):eB fG prog W fuel 234 vm Qc:=by
 obtain _|fuel:=fuel
 .exact mZ
 refine mT fuel underlying234 λcs hl hf=>?_;obtain⟨x0,k0,l0⟩:=gI 0 rfl rfl hf;obtain⟨x1,k1,l1⟩:=gS 1 rfl rfl hf;obtain⟨x2,k2,l2⟩:=gH 2 rfl (k:=2) kr (Qb fuel) hf;refine⟨.mk x0 x1 x2,⟨k0,k1,k2⟩,?_⟩;simpa[sL,vm]using LD.cat (o:=0) l0 (LD.cat l1 (LD.cat l2 (LD.fin (hl.trans kr))))
theorem arF(fuel:Nat):eB fG prog W fuel 168 (sL 4 vm) (kL Qc):=mS underlying168 kr de Yj acn fuel
theorem aoY(fuel:Nat):eB fG prog W fuel 35 (sL 2 tA) (kL HN):=mS underlying35 kr de Il Qb fuel
theorem aaP(x:xI):(xJ x).length=5:=by cases x;simp[xJ,Il]
instance:Inhabited xI:=⟨agu⟩
def UI(v:xI):Prop:=(Lit.int .i64 v.fPos).wf=eQ/\(Lit.int .i64 v.fFd).wf=eQ/\(Lit.int .i64 v.fOp).wf=eQ/\HN v.Yk
theorem afj(fuel:Nat):eB fG prog W fuel 239 xJ UI:=by
 obtain _|fuel:=fuel
 .exact mZ
 refine mT fuel underlying239 λcs hl hf=>?_;obtain⟨x0,k0,l0⟩:=gI 0 rfl rfl hf;obtain⟨x1,k1,l1⟩:=gI 1 rfl rfl hf;obtain⟨x2,k2,l2⟩:=gI 2 rfl rfl hf;obtain⟨x3,k3,l3⟩:=gH 3 rfl (k:=2) kr (Qb fuel) hf;refine⟨.mk x0 x1 x2 x3,⟨k0,k1,k2,k3⟩,?_⟩;simpa[sL,xJ]using LD.cat (o:=0) l0 (LD.cat l1 (LD.cat l2 (LD.cat l3 (LD.fin (hl.trans kr)))))
theorem arG(fuel:Nat):eB fG prog W fuel 169 (sL 5 xJ) (kL UI):=mS underlying169 kr de aaP afj fuel
instance:Inhabited TNode:=⟨aco⟩
instance:Inhabited TItem:=⟨akg⟩
mutual
inductive DL:TNode->Prop
 | mk (x0:Int) (x1:Int) (x2:Bs) (x3:Bool) (x4:List uc) (x5:List gj) (x6:List xI) (x7:List TNode) (x8:List TItem) (h0:(Lit.int .i64 x0).wf=eQ) (h1:(Lit.int .i64 x1).wf=eQ) (h2:Sx x2<=140737488351232) (h3:True) (h4:(Sx x4<=maxLen/\∀y,y∈x4->Qc y)) (h5:(Sx x5<=maxLen/\∀y,y∈x5->HN y)) (h6:(Sx x6<=maxLen/\∀y,y∈x6->UI y)) (h7:Sx x7<=maxLen) (g7:∀y,y∈x7->DL y) (h8:Sx x8<=maxLen) (g8:∀y,y∈x8->SK y):DL (.mk x0 x1 x2 x3 x4 x5 x6 x7 x8)
inductive SK:TItem->Prop
 | mk (x0:List gj) (x1:List TNode) (h0:(Sx x0<=maxLen/\∀y,y∈x0->HN y)) (h1:Sx x1<=maxLen) (g1:∀y,y∈x1->DL y):SK (.mk x0 x1)
end
theorem Qd(x:TNode):(p5 x).length=9:=by cases x;simp[p5]
theorem acp(x:TItem):(tB x).length=2:=by cases x;simp[tB]
theorem ah3(fuel:Nat):eB fG prog W fuel 173 p5 DL/\eB fG prog W fuel 243 tB SK:=by
 induction fuel using Nat.strongRecOn with
 | _ fuel ih=>
  have agv:∀f,f<fuel->eB fG prog W f 170 (sL 9 p5) (kL DL):=mK underlying170 kr de Qd λf h=>(ih f h).1;have apT:∀f,f<fuel->eB fG prog W f 171 (sL 2 tB) (kL SK):=mK underlying171 kr de acp λf h=>(ih f h).2;refine⟨?_,?_⟩
  .obtain _|fuel:=fuel
   .exact mZ
   refine mT fuel underlying173 λcs hl hf=>?_;obtain⟨x0,k0,l0⟩:=gI 0 rfl rfl hf;obtain⟨x1,k1,l1⟩:=gI 1 rfl rfl hf;obtain⟨x2,k2,l2⟩:=gS 2 rfl rfl hf;obtain⟨x3,k3,l3⟩:=gB 3 rfl rfl hf;obtain⟨x4,k4,l4⟩:=gH 4 rfl (k:=1) kr (arF fuel) hf;obtain⟨x5,k5,l5⟩:=gH 5 rfl (k:=1) kr (aoY fuel) hf;obtain⟨x6,k6,l6⟩:=gH 6 rfl (k:=1) kr (arG fuel) hf;obtain⟨x7,k7,l7⟩:=gH 7 rfl (k:=1) kr (agv fuel om) hf;obtain⟨x8,k8,l8⟩:=gH 8 rfl (k:=1) kr (apT fuel om) hf;refine⟨.mk x0 x1 x2 x3 x4 x5 x6 x7 x8,.mk _ _ _ _ _ _ _ _ _ k0 k1 k2 k3 k4 k5 k6 k7.1 k7.2 k8.1 k8.2,?_⟩;simpa[sL,p5,vP,vQ]using LD.cat (o:=0) l0 (LD.cat l1 (LD.cat l2 (LD.cat l3 (LD.cat l4 (LD.cat l5 (LD.cat l6 (LD.cat l7 (LD.cat l8 (LD.fin (hl.trans kr))))))))))
  .obtain _|fuel:=fuel
   .exact mZ
   refine mT fuel underlying243 λcs hl hf=>?_;obtain⟨x0,k0,l0⟩:=gH 0 rfl (k:=1) kr (aoY fuel) hf;obtain⟨x1,k1,l1⟩:=gH 1 rfl (k:=1) kr (agv fuel om) hf;refine⟨.mk x0 x1,.mk _ _ k0 k1.1 k1.2,?_⟩;simpa[sL,tB,vP,vQ]using LD.cat (o:=0) l0 (LD.cat l1 (LD.fin (hl.trans kr)))
def ah4(fuel:Nat):eB fG prog W fuel 173 p5 DL:=(ah3 fuel).1
theorem acq(x:Ap):(AM x).length=10:=by cases x;simp[AM,Qd]
instance:Inhabited Ap:=⟨akh⟩
def Yl(v:Ap):Prop:=Sx v.fName<=140737488351232/\DL v.fBody
theorem ah5(fuel:Nat):eB fG prog W fuel 175 AM Yl:=by
 obtain _|fuel:=fuel
 .exact mZ
 refine mT fuel underlying175 λcs hl hf=>?_;obtain⟨x0,k0,l0⟩:=gS 0 rfl rfl hf;obtain⟨x1,k1,l1⟩:=gH 1 rfl (k:=9) kr (ah4 fuel) hf;refine⟨.mk x0 x1,⟨k0,k1⟩,?_⟩;simpa[sL,AM]using LD.cat (o:=0) l0 (LD.cat l1 (LD.fin (hl.trans kr)))
theorem atM(fuel:Nat):eB fG prog W fuel 24 (sL 10 AM) (kL Yl):=mS underlying24 kr de acq ah5 fuel
theorem aaQ(x:cA):(xK x).length=2:=by cases x;simp[xK]
instance:Inhabited cA:=⟨sK⟩
def UJ(v:cA):Prop:=Sx v.fName<=140737488351232/\v.cg.length<=140737488351232
theorem afk(fuel:Nat):eB fG prog W fuel 163 xK UJ:=by
 obtain _|fuel:=fuel
 .exact mZ
 refine mT fuel underlying163 λcs hl hf=>?_;obtain⟨x0,k0,l0⟩:=gS 0 rfl rfl hf;obtain⟨x1,k1,l1⟩:=gS 1 rfl rfl hf;refine⟨.mk x0 x1,⟨k0,k1⟩,?_⟩;simpa[sL,xK]using LD.cat (o:=0) l0 (LD.cat l1 (LD.fin (hl.trans kr)))
theorem atN(fuel:Nat):eB fG prog W fuel 25 (sL 2 xK) (kL UJ):=mS underlying25 kr de aaQ afk fuel
theorem acr(x:BV):(AN x).length=2:=by cases x;simp[AN]
instance:Inhabited BV:=⟨aki⟩
def Ym(v:BV):Prop:=(Lit.int .i64 v.amE).wf=eQ/\v.Yn.length<=140737488351232
theorem ah6(fuel:Nat):eB fG prog W fuel 166 AN Ym:=by
 obtain _|fuel:=fuel
 .exact mZ
 refine mT fuel underlying166 λcs hl hf=>?_;obtain⟨x0,k0,l0⟩:=gI 0 rfl rfl hf;obtain⟨x1,k1,l1⟩:=gS 1 rfl rfl hf;refine⟨.mk x0 x1,⟨k0,k1⟩,?_⟩;simpa[sL,AN]using LD.cat (o:=0) l0 (LD.cat l1 (LD.fin (hl.trans kr)))
theorem atO(fuel:Nat):eB fG prog W fuel 26 (sL 2 AN) (kL Ym):=mS underlying26 kr de acr ah6 fuel
instance:Inhabited nQ:=⟨Na⟩
def TT(v:nQ):Prop:=(Lit.int .i64 v.LS).wf=eQ/\(Lit.int .i64 v.HO).wf=eQ
theorem aaR(fuel:Nat):eB fG prog W fuel 28 BZ TT:=by
 obtain _|fuel:=fuel
 .exact mZ
 refine mT fuel underlying28 λcs hl hf=>?_;obtain⟨x0,k0,l0⟩:=gI 0 rfl rfl hf;obtain⟨x1,k1,l1⟩:=gI 1 rfl rfl hf;refine⟨.mk x0 x1,⟨k0,k1⟩,?_⟩;simpa[sL,BZ]using LD.cat (o:=0) l0 (LD.cat l1 (LD.fin (hl.trans kr)))
instance:Inhabited eS:=⟨LU⟩
def agw(v:eS):Prop:=Sx v.fName<=140737488351232/\(Sx v.bR<=maxLen/\∀y,y∈v.bR->ack y)/\(Sx v.cZ<=maxLen/\∀y,y∈v.cZ->Sx y<=140737488351232)/\(Sx v.vR<=maxLen/\∀y,y∈v.vR->Yl y)/\(Sx v.p6<=maxLen/\∀y,y∈v.p6->UJ y)/\(Sx v.vS<=maxLen/\∀y,y∈v.vS->Ym y)/\(Lit.int .i64 v.gw).wf=eQ/\(Lit.int .i64 v.gC).wf=eQ/\(Lit.int .i64 v.DM).wf=eQ/\(Lit.int .i64 v.qy).wf=eQ/\v.ud.length<=140737488351232/\TT v.yT/\(Lit.int .i64 v.LV).wf=eQ/\True
theorem akj(fuel:Nat):eB fG prog W fuel 30 AP agw:=by
 obtain _|fuel:=fuel
 .exact mZ
 refine mT fuel underlying30 λcs hl hf=>?_;obtain⟨x0,k0,l0⟩:=gS 0 rfl rfl hf;obtain⟨x1,k1,l1⟩:=gH 1 rfl (k:=1) kr (atK fuel) hf;obtain⟨x2,k2,l2⟩:=gH 2 rfl (k:=1) kr (aoX fuel) hf;obtain⟨x3,k3,l3⟩:=gH 3 rfl (k:=1) kr (atM fuel) hf;obtain⟨x4,k4,l4⟩:=gH 4 rfl (k:=1) kr (atN fuel) hf;obtain⟨x5,k5,l5⟩:=gH 5 rfl (k:=1) kr (atO fuel) hf;obtain⟨x6,k6,l6⟩:=gI 6 rfl rfl hf;obtain⟨x7,k7,l7⟩:=gI 7 rfl rfl hf;obtain⟨x8,k8,l8⟩:=gI 8 rfl rfl hf;obtain⟨x9,k9,l9⟩:=gI 9 rfl rfl hf;obtain⟨cw,k10,l10⟩:=gS 10 rfl rfl hf;obtain⟨gz,k11,l11⟩:=gH 11 rfl (k:=2) kr (aaR fuel) hf;obtain⟨fZ,k12,l12⟩:=gI 12 rfl rfl hf;obtain⟨ga,k13,l13⟩:=gB 13 rfl rfl hf;refine⟨.mk x0 x1 x2 x3 x4 x5 x6 x7 x8 x9 cw gz fZ ga,⟨k0,k1,k2,k3,k4,k5,k6,k7,k8,k9,k10,k11,k12,k13⟩,?_⟩;simpa[sL,AP]using LD.cat (o:=0) l0 (LD.cat l1 (LD.cat l2 (LD.cat l3 (LD.cat l4 (LD.cat l5 (LD.cat l6 (LD.cat l7 (LD.cat l8 (LD.cat l9 (LD.cat l10 (LD.cat l11 (LD.cat l12 (LD.cat l13 (LD.fin (hl.trans kr)))))))))))))))
theorem acs(x:aN):(xL x).length=3:=by cases x;simp[xL]
instance:Inhabited aN:=⟨cj⟩
def Yo(v:aN):Prop:=Sx v.bJ<=140737488351232/\True/\v.fData.length<=140737488351232
theorem akk(fuel:Nat):eB fG prog W fuel 58 xL Yo:=by
 obtain _|fuel:=fuel
 .exact mZ
 refine mT fuel underlying58 λcs hl hf=>?_;obtain⟨x0,k0,l0⟩:=gS 0 rfl rfl hf;obtain⟨x1,k1,l1⟩:=gB 1 rfl rfl hf;obtain⟨x2,k2,l2⟩:=gS 2 rfl rfl hf;refine⟨.mk x0 x1 x2,⟨k0,k1,k2⟩,?_⟩;simpa[sL,xL]using LD.cat (o:=0) l0 (LD.cat l1 (LD.cat l2 (LD.fin (hl.trans kr))))
theorem atP(fuel:Nat):eB fG prog W fuel 31 (sL 3 xL) (kL Yo):=mS underlying31 kr de acs akk fuel
theorem Yp(x:iI):(qz x).length=2:=by cases x;simp[qz]
instance:Inhabited iI:=⟨DN⟩
def Qe(v:iI):Prop:=Sx v.fText<=140737488351232/\(Lit.int .i64 v.gC).wf=eQ
theorem afl(fuel:Nat):eB fG prog W fuel 51 qz Qe:=by
 obtain _|fuel:=fuel
 .exact mZ
 refine mT fuel underlying51 λcs hl hf=>?_;obtain⟨x0,k0,l0⟩:=gS 0 rfl rfl hf;obtain⟨x1,k1,l1⟩:=gI 1 rfl rfl hf;refine⟨.mk x0 x1,⟨k0,k1⟩,?_⟩;simpa[sL,qz]using LD.cat (o:=0) l0 (LD.cat l1 (LD.fin (hl.trans kr)))
theorem atQ(fuel:Nat):eB fG prog W fuel 32 (sL 2 qz) (kL Qe):=mS underlying32 kr de Yp afl fuel
instance:Inhabited xB:=⟨aoZ⟩
def LJ(v:xB):Prop:=agw v.oy/\(Sx v.ry<=maxLen/\∀y,y∈v.ry->Yo y)/\(Sx v.LW<=maxLen/\∀y,y∈v.LW->Sx y<=140737488351232)/\(Sx v.jq<=maxLen/\∀y,y∈v.jq->Qe y)
theorem amo(fuel:Nat):eB fG prog W fuel 34 Yq LJ:=by
 obtain _|fuel:=fuel
 .exact mZ
 refine mT fuel underlying34 λcs hl hf=>?_;obtain⟨x0,k0,l0⟩:=gH 0 rfl (k:=15) kr (akj fuel) hf;obtain⟨x1,k1,l1⟩:=gH 1 rfl (k:=1) kr (atP fuel) hf;obtain⟨x2,k2,l2⟩:=gH 2 rfl (k:=1) kr (aoX fuel) hf;obtain⟨x3,k3,l3⟩:=gH 3 rfl (k:=1) kr (atQ fuel) hf;refine⟨.mk x0 x1 x2 x3,⟨k0,k1,k2,k3⟩,?_⟩;simpa[sL,Yq]using LD.cat (o:=0) l0 (LD.cat l1 (LD.cat l2 (LD.cat l3 (LD.fin (hl.trans kr)))))
