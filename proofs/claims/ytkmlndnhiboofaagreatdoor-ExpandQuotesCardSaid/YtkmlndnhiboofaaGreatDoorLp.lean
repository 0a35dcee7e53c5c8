import Derived.Test.YtkmlndnhiboofaaGreatDoorRk
import Derived.Test.YtkmlndnhiboofaaGreatDoorZ2
import Derived.Test.YtkmlndnhiboofaaGreatDoorRows
import Derived.Test.YtkmlndnhiboofaaGreatDoorCards
import Derived.Test.YtkmlndnhiboofaaGreatDoorTie
import Derived.WalkKit
import Derived.ProofKit
import Derived.OpenShut
import Derived.ShutString
import Derived.ChangeOld
import Derived.LaidLaws
import Derived.LaidHandle
import Derived.Lay
import Derived.Shelf.Vars
import Derived.HandedShaped
import Derived.Stop.LaidErr
import Derived.Stop.Joined
import Derived.JoinedOf
import Derived.SevenTiedAt
import Derived.Lib.LaidTab
open Option renaming some->W0,none->WP
open Bool renaming true->WF
open Nat renaming beq->ST
set_option linter.all false
namespace Go.Proofs.YtkmlndnhiboofaaGreatDoor
open Go.Proofs.Tryz
open Go.ChangeShapes Go.WideShapes Go.ChangeAt Go.RowKit Go.RT
theorem own:ownKnob Tryz.prog.godebug=WP:=by kernel_rfl
theorem laidOut:laidOutB prog=WF:=by kernel_rfl
abbrev Ff:J (String×DataW Unit):=[("math/bits.deBruijn32tab",Rows.laid_math_bits_deBruijn32tab),("math/bits.deBruijn64tab",Rows.laid_math_bits_deBruijn64tab),("internal/strconv.uint64pow10",Rows.laid_internal_strconv_uint64pow10),("unicode/utf8.acceptRanges",Rows.laid_unicode_utf8_acceptRanges),("unicode/utf8.first",Rows.laid_unicode_utf8_first)]
theorem acD:(Ff.filter λx=>x.2.handleName?.isNone)=Ff:=by kernel_rfl
theorem Yy{W:U}{g:Nat}{v:Value}(h:W.cell? ⟨g,0,WP⟩=W0 v):∃cs t m,W.heap[g]? = W0 (.cells cs t m)/\cs[0]? = W0 v:=by
 unfold World.cell? at h;split at h
 ·rename_i cs t m hh
  exact⟨cs,t,m,hh,by simpa using h⟩
 ·cases h
theorem ZU{W:U}(h:laidMetH prog Ff W)(hs:W.ShapedOpen prog):∀b p,E.gb b=W0 p->∃cs t m,W.heap[b]? = W0 (.cells cs t m)/\p cs:=by
 have h':laidMet prog Ff W:=h;intro b p hb;have hb:(cond (ST b 1) (W0 (λcs:aJ Value=>cs=(Lib.pow10Tab.map λz=>Value.int .u64 z).toArray)) (cond (ST b 0) (W0 (λcs:aJ Value=>∃m,cs[0]? = W0 (Value.int .i64 m))) WP))=W0 p:=hb;cases he:ST b 1<;>rw[he]at hb<;>simp only[aY,aM]at hb
 rotate_left
 ·cases hb
  have:=eM he;subst this
  have ht:Lib.TabIs prog W "internal/strconv.uint64pow10" .u64 Lib.pow10Tab:=Lib.tabIs_of_head (rest:=_) (g:=1) (t:=420) (e:=284) (n:=20) kr kr underlying420 underlying284 kr kr h'.tail.tail
  unfold Lib.TabIs World.var? at ht
  rw[show Tryz.prog.globalNamed "internal/strconv.uint64pow10" = W0 1 by kernel_rfl]at ht
  simp only[aD]at ht;split at ht
  ·rename_i cs' t m hh
   cases ht;exact⟨_,t,m,hh,rfl⟩
  ·cases ht
 cases Xu:ST b 0<;>rw[Xu]at hb<;>simp only[aY,aM]at hb
 ·cases hb
 cases hb;have:=eM Xu;subst this;obtain⟨m,hm⟩:=cell_of_shapedOpen_int (g:=0) (t:=3) (k:=.i64) (zero:=#[.int .i64 0]) hs (Cm kr) kr rfl kr kr underlying3;obtain⟨cs,t,m2,q1,q2⟩:=Yy hm;exact⟨cs,t,m2,q1,m,q2⟩
noncomputable def Xn(os:Os):U:=World.laidAll prog os Ff
set_option maxRecDepth 100000 in
theorem Yx(os:Os)(args:aJ Value):laidMetH prog Ff ((Xn os).forCall (λ_ _=>0) ⟨#[],args,[]⟩).memory:=
 laidMetH_of_parts (by rw[acD];exact laidMet_laidAll args kr kr) kr
theorem Yw{H:Type}{enc:aK×Value->H}{a:Assume}{C:Checked}{os:Os}{f:FuncId}{fn:Func}{s:ChangeSpec}{conds:J PathCond}{apart fresh handsOn again:Bool}{X:U->aJ Value->Prop}
  (hX:∀(w w':U)(args:aJ Value),w.heap=w'.heap->X w args->X w' args)
  (own:ownKnob C.prog.godebug=WP) (started:os.Started) (noInit:C.prog.inits.idxOf? f=WP) (hfn:C.prog.funcs[f]? = W0 fn)
  (witness:∃(w:U)(tape:Tape)(i:Input),w.os=os/\(w.forCall tape i).Shaped C.prog/\i.vars=[]/\Input.okWide C.prog (w.forCall tape i) .any w.heap.size f i /\
   ((s.pre enc C.prog fn conds apart (w.forCall tape i).memory i.args/\X (w.forCall tape i).memory i.args)/\sizedMet enc C.prog fn (OpenSpec.ofChange s) apart (w.forCall tape i).memory i.args)/\a.holds C.prog (lone (Frame.enter C.prog f i.args .normal) [] (w.forCall tape i)))
  (contract:∀(W:U)(base:Nat)(args:aJ Value)(ds gs:J (DataW H))(before:J MemPlace),
   (∀(j:Nat) t v,fn.params[j]? = W0 t->args[j]? = W0 v->Value.okWide C.prog W .any base t v) ->
   DataW.Whole enc C.prog fn.params.toList s.vars apart W args.toList ds gs before ->
   X W args->W.ShapedOpen C.prog->(DataW.weightsEach C.prog (fn.params.toList++(OpenSpec.ofChange s).bare.plain.varTypes C.prog) (ds++gs)).all (·<=reachBytes)=WF ->
   Calls C.prog f args W λe W'=>∃v,e=.returned v/\s.post enc C.prog fn apart fresh handsOn again W args v W') :
  ReturnsInHanded a C os f .any (λw args=>(s.pre enc C.prog fn conds apart w args/\X w args)/\sizedMet enc C.prog fn (OpenSpec.ofChange s) apart w args) (s.post enc C.prog fn apart fresh handsOn again):=by
 refine returnsInHanded_of_calls own started noInit witness ?_;intro w tape i _ hsh _ hok hpre _;obtain⟨_,_,_,fn',ar1,_,_,_,_,hval⟩:=hok;have e:fn'=fn:=rQ (ar1.symm.trans hfn);subst e;obtain⟨⟨⟨ds,gs,before,hw,hc⟩,hx⟩,hz⟩:=hpre;have hw':=DataW.Whole.of_heap (w':=w.forCall tape i) (by rfl) hw;refine(contract (w.forCall tape i) w.heap.size i.args ds gs before hval hw' (hX _ _ _ (by rfl) hx) hsh (hz.weights hw)).mono λe W' ⟨v,he,hp⟩=>?_;subst he;exact ChangeSpec.post_blind hp
variable {H : Type} {eZ : aK × Value -> H} {W : U}
variable{t:aK}{α:Type}{ok:α->Prop}{enc:α->J DV}
theorem mT{fs:aJ Field}(fuel:Nat)(ht:Tryz.prog.underlying t=W0 (.struct fs))(hh:∀cs:J Value,cs.length=Tryz.prog.cellsOf t->(∀f,f∈fs.toList->∃y,DataW.trod eZ prog W 0 (λ_=>WF) WF fuel f.type ((cs.drop f.offset).take (Tryz.prog.cellsOf f.type))=W0 y/\Ik prog f.type y.1)->∃x,ok x/\LD W (λb _=>b<W.heap.size) cs (enc x)):eo eZ prog W (fuel+1) t enc ok:=λcs d ps h hw=>have q:=NL ht h hw;hh cs q.1 q.2
theorem mZ:eo eZ prog W 0 t enc ok:=by intro cs d ps h;cases h
def sL{α:Type}(k:Nat)(enc:α->J DV)(vs:J α):J DV:=[DV.slice k (vs.map enc)]
def kL{α:Type}(ok:α->Prop)(vs:J α):Prop:=vs.length<=maxLen/\∀y,y∈vs->ok y
theorem mS{e:aK}{k:Nat}[Inhabited α](ht:Tryz.prog.underlying t=W0 (.slice e))(hk:Tryz.prog.cellsOf e=k)(hkp:0<k)(hlen:∀x,(enc x).length=k)(he:∀fuel,eo eZ prog W fuel e enc ok):∀fuel,eo eZ prog W fuel t (sL k enc) (kL ok)
 | 0=>mZ
 | n+1=>Rf ht hk hkp hlen (he n)
theorem mK{e:aK}{k:Nat}[Inhabited α]{n:Nat}(ht:Tryz.prog.underlying t=W0 (.slice e))(hk:Tryz.prog.cellsOf e=k)(hkp:0<k)(hlen:∀x,(enc x).length=k)(he:∀fuel,fuel<n->eo eZ prog W fuel e enc ok):∀fuel,fuel<n->eo eZ prog W fuel t (sL k enc) (kL ok)
 | 0,_=>mZ
 | n+1,h=>Rf ht hk hkp hlen (he n om)
variable {fs : aJ Field} {fuel : Nat} {cs : J Value} (j : Nat) {f : Field}
theorem gS(hf:fs[j]? = W0 f)(e:f.type=9)(h:∀f,f∈fs.toList->∃y,DataW.trod eZ prog W 0 (λ_=>WF) WF fuel f.type ((cs.drop f.offset).take (Tryz.prog.cellsOf f.type))=W0 y/\Ik prog f.type y.1):∃x:Bs,(x.length<=140737488351232)/\LD W (λb _=>b<W.heap.size) ((cs.drop f.offset).take 1) [DV.str x]:=fX j hf (by rw[e];kernel_rfl) (e▸NM underlying9 fuel) h
theorem gI(hf:fs[j]? = W0 f)(e:f.type=3)(h:∀f,f∈fs.toList->∃y,DataW.trod eZ prog W 0 (λ_=>WF) WF fuel f.type ((cs.drop f.offset).take (Tryz.prog.cellsOf f.type))=W0 y/\Ik prog f.type y.1):∃x:Int,((Lit.int .i64 x).wf=WF)/\LD W (λb _=>b<W.heap.size) ((cs.drop f.offset).take 1) [DV.int .i64 x]:=fX j hf (by rw[e];kernel_rfl) (e▸ahn underlying3 fuel) h
theorem gB(hf:fs[j]? = W0 f)(e:f.type=4)(h:∀f,f∈fs.toList->∃y,DataW.trod eZ prog W 0 (λ_=>WF) WF fuel f.type ((cs.drop f.offset).take (Tryz.prog.cellsOf f.type))=W0 y/\Ik prog f.type y.1):∃x:Bool,(True)/\LD W (λb _=>b<W.heap.size) ((cs.drop f.offset).take 1) [DV.bool x]:=fX j hf (by rw[e];kernel_rfl) (e▸afg underlying4 fuel) h
theorem acE(x:bO):(Cu x).length=5:=by cases x;simp[Cu]
instance:Inhabited bO:=⟨fP⟩
def Z1(v:bO):Prop:=v.fName.length<=140737488351232/\v.bS.length<=140737488351232/\True/\True/\True
theorem ajI(fuel:Nat):eo eZ prog W fuel 61 Cu Z1:=by
 obtain _|fuel:=fuel
 ·exact mZ
 refine mT fuel underlying61 λcs hl hf=>?_;obtain⟨x0,k0,l0⟩:=gS 0 rfl rfl hf;obtain⟨x1,k1,l1⟩:=gS 1 rfl rfl hf;obtain⟨x2,k2,l2⟩:=gB 2 rfl rfl hf;obtain⟨x3,k3,l3⟩:=gB 3 rfl rfl hf;obtain⟨x4,k4,l4⟩:=gB 4 rfl rfl hf;refine⟨.mk x0 x1 x2 x3 x4,⟨k0,k1,k2,k3,k4⟩,?_⟩;simpa[sL,Cu]using LD.cat (o:=0) l0 (LD.cat l1 (LD.cat l2 (LD.cat l3 (LD.cat l4 (LD.fin (hl.trans kr))))))
theorem aqq(fuel:Nat):eo eZ prog W fuel 22 (sL 5 Cu) (kL Z1):=mS underlying22 kr de acE ajI fuel
theorem alX(fuel:Nat):eo eZ prog W fuel 23 (sL 1 (λl:Bs=>[DV.str l])) (kL λy:Bs=>y.length<=140737488351232):=mS (k:=1) underlying23 kr de (λ_=>rfl) (NM underlying9) fuel
instance:Inhabited TPart:=⟨iP⟩
inductive Cv:TPart->Prop
 | mk (x0:Int) (x1:Bs) (x2:Int) (x3:Bool) (x4:List TPart) (h0:(Lit.int .i64 x0).wf=WF) (h1:x1.length<=140737488351232) (h2:(Lit.int .i64 x2).wf=WF) (h3:True) (h4:x4.length<=maxLen) (g4:∀y,y∈x4->Cv y):Cv (.mk x0 x1 x2 x3 x4)
theorem NN(x:TPart):(mm x).length=5:=by cases x;simp[mm]
theorem aho(fuel:Nat):eo eZ prog W fuel 43 mm Cv:=by
 induction fuel using Nat.strongRecOn with
 | _ fuel ih=>
  have aov:∀f,f<fuel->eo eZ prog W f 39 (sL 5 mm) (kL Cv):=mK underlying39 kr de NN λf h=>(ih f h);obtain _|fuel:=fuel
  ·exact mZ
  refine mT fuel underlying43 λcs hl hf=>?_;obtain⟨x0,k0,l0⟩:=gI 0 rfl rfl hf;obtain⟨x1,k1,l1⟩:=gS 1 rfl rfl hf;obtain⟨x2,k2,l2⟩:=gI 2 rfl rfl hf;obtain⟨x3,k3,l3⟩:=gB 3 rfl rfl hf;obtain⟨x4,k4,l4⟩:=fX 4 rfl (k:=1) kr (aov fuel om) hf;refine⟨.mk x0 x1 x2 x3 x4,.mk _ _ _ _ _ k0 k1 k2 k3 k4.1 k4.2,?_⟩;simpa[sL,mm,En]using LD.cat (o:=0) l0 (LD.cat l1 (LD.cat l2 (LD.cat l3 (LD.cat l4 (LD.fin (hl.trans kr))))))
theorem ahp(fuel:Nat):eo eZ prog W fuel 43 mm Cv:=(aho fuel)
theorem aqr(fuel:Nat):eo eZ prog W fuel 39 (sL 5 mm) (kL Cv):=mS underlying39 kr de NN ahp fuel
theorem GB(x:jc):(rT x).length=2:=by cases x;simp[rT]
instance:Inhabited jc:=⟨yQ⟩
def Gb(v:jc):Prop:=(Lit.int .i64 v.fPos).wf=WF/\(v.fParts.length<=maxLen/\∀y,y∈v.fParts->Cv y)
theorem NO(fuel:Nat):eo eZ prog W fuel 41 rT Gb:=by
 obtain _|fuel:=fuel
 ·exact mZ
 refine mT fuel underlying41 λcs hl hf=>?_;obtain⟨x0,k0,l0⟩:=gI 0 rfl rfl hf;obtain⟨x1,k1,l1⟩:=fX 1 rfl (k:=1) kr (aqr fuel) hf;refine⟨.mk x0 x1,⟨k0,k1⟩,?_⟩;simpa[sL,rT]using LD.cat (o:=0) l0 (LD.cat l1 (LD.fin (hl.trans kr)))
theorem VM(x:sR):(uj x).length=4:=by cases x;simp[uj,GB]
instance:Inhabited sR:=⟨Z2⟩
def NP(v:sR):Prop:=(Lit.int .i64 v.fPos).wf=WF/\v.fName.length<=140737488351232/\Gb v.bS
theorem Z3(fuel:Nat):eo eZ prog W fuel 222 uj NP:=by
 obtain _|fuel:=fuel
 ·exact mZ
 refine mT fuel underlying222 λcs hl hf=>?_;obtain⟨x0,k0,l0⟩:=gI 0 rfl rfl hf;obtain⟨x1,k1,l1⟩:=gS 1 rfl rfl hf;obtain⟨x2,k2,l2⟩:=fX 2 rfl (k:=2) kr (NO fuel) hf;refine⟨.mk x0 x1 x2,⟨k0,k1,k2⟩,?_⟩;simpa[sL,uj]using LD.cat (o:=0) l0 (LD.cat l1 (LD.cat l2 (LD.fin (hl.trans kr))))
theorem aow(fuel:Nat):eo eZ prog W fuel 161 (sL 4 uj) (kL NP):=mS underlying161 kr de VM Z3 fuel
theorem alY(fuel:Nat):eo eZ prog W fuel 35 (sL 2 rT) (kL Gb):=mS underlying35 kr de GB NO fuel
theorem Yz(x:v8):(we x).length=5:=by cases x;simp[we,GB]
instance:Inhabited v8:=⟨adO⟩
def Sh(v:v8):Prop:=(Lit.int .i64 v.fPos).wf=WF/\(Lit.int .i64 v.fFd).wf=WF/\(Lit.int .i64 v.fOp).wf=WF/\Gb v.VN
theorem acF(fuel:Nat):eo eZ prog W fuel 227 we Sh:=by
 obtain _|fuel:=fuel
 ·exact mZ
 refine mT fuel underlying227 λcs hl hf=>?_;obtain⟨x0,k0,l0⟩:=gI 0 rfl rfl hf;obtain⟨x1,k1,l1⟩:=gI 1 rfl rfl hf;obtain⟨x2,k2,l2⟩:=gI 2 rfl rfl hf;obtain⟨x3,k3,l3⟩:=fX 3 rfl (k:=2) kr (NO fuel) hf;refine⟨.mk x0 x1 x2 x3,⟨k0,k1,k2,k3⟩,?_⟩;simpa[sL,we]using LD.cat (o:=0) l0 (LD.cat l1 (LD.cat l2 (LD.cat l3 (LD.fin (hl.trans kr)))))
theorem aox(fuel:Nat):eo eZ prog W fuel 162 (sL 5 we) (kL Sh):=mS underlying162 kr de Yz acF fuel
instance:Inhabited TNode:=⟨Z4⟩
instance:Inhabited TItem:=⟨ahq⟩
mutual
inductive Cw:TNode->Prop
 | mk (x0:Int) (x1:Int) (x2:Bs) (x3:Bool) (x4:List sR) (x5:List jc) (x6:List v8) (x7:List TNode) (x8:List TItem) (h0:(Lit.int .i64 x0).wf=WF) (h1:(Lit.int .i64 x1).wf=WF) (h2:x2.length<=140737488351232) (h3:True) (h4:(x4.length<=maxLen/\∀y,y∈x4->NP y)) (h5:(x5.length<=maxLen/\∀y,y∈x5->Gb y)) (h6:(x6.length<=maxLen/\∀y,y∈x6->Sh y)) (h7:x7.length<=maxLen) (g7:∀y,y∈x7->Cw y) (h8:x8.length<=maxLen) (g8:∀y,y∈x8->P0 y):Cw (.mk x0 x1 x2 x3 x4 x5 x6 x7 x8)
inductive P0:TItem->Prop
 | mk (x0:List jc) (x1:List TNode) (h0:(x0.length<=maxLen/\∀y,y∈x0->Gb y)) (h1:x1.length<=maxLen) (g1:∀y,y∈x1->Cw y):P0 (.mk x0 x1)
end
theorem NQ(x:TNode):(oN x).length=9:=by cases x;simp[oN]
theorem Z5(x:TItem):(rU x).length=2:=by cases x;simp[rU]
theorem afh(fuel:Nat):eo eZ prog W fuel 166 oN Cw/\eo eZ prog W fuel 231 rU P0:=by
 induction fuel using Nat.strongRecOn with
 | _ fuel ih=>
  have adP:∀f,f<fuel->eo eZ prog W f 163 (sL 9 oN) (kL Cw):=mK underlying163 kr de NQ λf h=>(ih f h).1;have amH:∀f,f<fuel->eo eZ prog W f 164 (sL 2 rU) (kL P0):=mK underlying164 kr de Z5 λf h=>(ih f h).2;refine⟨?_,?_⟩
  ·obtain _|fuel:=fuel
   ·exact mZ
   refine mT fuel underlying166 λcs hl hf=>?_;obtain⟨x0,k0,l0⟩:=gI 0 rfl rfl hf;obtain⟨x1,k1,l1⟩:=gI 1 rfl rfl hf;obtain⟨x2,k2,l2⟩:=gS 2 rfl rfl hf;obtain⟨x3,k3,l3⟩:=gB 3 rfl rfl hf;obtain⟨x4,k4,l4⟩:=fX 4 rfl (k:=1) kr (aow fuel) hf;obtain⟨x5,k5,l5⟩:=fX 5 rfl (k:=1) kr (alY fuel) hf;obtain⟨x6,k6,l6⟩:=fX 6 rfl (k:=1) kr (aox fuel) hf;obtain⟨x7,k7,l7⟩:=fX 7 rfl (k:=1) kr (adP fuel om) hf;obtain⟨x8,k8,l8⟩:=fX 8 rfl (k:=1) kr (amH fuel om) hf;refine⟨.mk x0 x1 x2 x3 x4 x5 x6 x7 x8,.mk _ _ _ _ _ _ _ _ _ k0 k1 k2 k3 k4 k5 k6 k7.1 k7.2 k8.1 k8.2,?_⟩;simpa[sL,oN,uE,uF]using LD.cat (o:=0) l0 (LD.cat l1 (LD.cat l2 (LD.cat l3 (LD.cat l4 (LD.cat l5 (LD.cat l6 (LD.cat l7 (LD.cat l8 (LD.fin (hl.trans kr))))))))))
  ·obtain _|fuel:=fuel
   ·exact mZ
   refine mT fuel underlying231 λcs hl hf=>?_;obtain⟨x0,k0,l0⟩:=fX 0 rfl (k:=1) kr (alY fuel) hf;obtain⟨x1,k1,l1⟩:=fX 1 rfl (k:=1) kr (adP fuel om) hf;refine⟨.mk x0 x1,.mk _ _ k0 k1.1 k1.2,?_⟩;simpa[sL,rU,uE,uF]using LD.cat (o:=0) l0 (LD.cat l1 (LD.fin (hl.trans kr)))
theorem afi(fuel:Nat):eo eZ prog W fuel 166 oN Cw:=(afh fuel).1
theorem Z6(x:zA):(zS x).length=10:=by cases x;simp[zS,NQ]
instance:Inhabited zA:=⟨ahr⟩
def VO(v:zA):Prop:=v.fName.length<=140737488351232/\Cw v.fBody
theorem afj(fuel:Nat):eo eZ prog W fuel 168 zS VO:=by
 obtain _|fuel:=fuel
 ·exact mZ
 refine mT fuel underlying168 λcs hl hf=>?_;obtain⟨x0,k0,l0⟩:=gS 0 rfl rfl hf;obtain⟨x1,k1,l1⟩:=fX 1 rfl (k:=9) kr (afi fuel) hf;refine⟨.mk x0 x1,⟨k0,k1⟩,?_⟩;simpa[sL,zS]using LD.cat (o:=0) l0 (LD.cat l1 (LD.fin (hl.trans kr)))
theorem aqs(fuel:Nat):eo eZ prog W fuel 24 (sL 10 zS) (kL VO):=mS underlying24 kr de Z6 afj fuel
theorem YA(x:cw):(wh x).length=2:=by cases x;simp[wh]
instance:Inhabited cw:=⟨qU⟩
def Si(v:cw):Prop:=v.fName.length<=140737488351232/\v.bS.length<=140737488351232
theorem acG(fuel:Nat):eo eZ prog W fuel 156 wh Si:=by
 obtain _|fuel:=fuel
 ·exact mZ
 refine mT fuel underlying156 λcs hl hf=>?_;obtain⟨x0,k0,l0⟩:=gS 0 rfl rfl hf;obtain⟨x1,k1,l1⟩:=gS 1 rfl rfl hf;refine⟨.mk x0 x1,⟨k0,k1⟩,?_⟩;simpa[sL,wh]using LD.cat (o:=0) l0 (LD.cat l1 (LD.fin (hl.trans kr)))
theorem aqt(fuel:Nat):eo eZ prog W fuel 25 (sL 2 wh) (kL Si):=mS underlying25 kr de YA acG fuel
theorem Z7(x:AK):(zT x).length=2:=by cases x;simp[zT]
instance:Inhabited AK:=⟨ahs⟩
def VP(v:AK):Prop:=(Lit.int .i64 v.ajJ).wf=WF/\v.VQ.length<=140737488351232
theorem afk(fuel:Nat):eo eZ prog W fuel 159 zT VP:=by
 obtain _|fuel:=fuel
 ·exact mZ
 refine mT fuel underlying159 λcs hl hf=>?_;obtain⟨x0,k0,l0⟩:=gI 0 rfl rfl hf;obtain⟨x1,k1,l1⟩:=gS 1 rfl rfl hf;refine⟨.mk x0 x1,⟨k0,k1⟩,?_⟩;simpa[sL,zT]using LD.cat (o:=0) l0 (LD.cat l1 (LD.fin (hl.trans kr)))
theorem aqu(fuel:Nat):eo eZ prog W fuel 26 (sL 2 zT) (kL VP):=mS underlying26 kr de Z7 afk fuel
instance:Inhabited nQ:=⟨K6⟩
def Rg(v:nQ):Prop:=(Lit.int .i64 v.TB).wf=WF/\(Lit.int .i64 v.P7).wf=WF
theorem YB(fuel:Nat):eo eZ prog W fuel 28 AL Rg:=by
 obtain _|fuel:=fuel
 ·exact mZ
 refine mT fuel underlying28 λcs hl hf=>?_;obtain⟨x0,k0,l0⟩:=gI 0 rfl rfl hf;obtain⟨x1,k1,l1⟩:=gI 1 rfl rfl hf;refine⟨.mk x0 x1,⟨k0,k1⟩,?_⟩;simpa[sL,AL]using LD.cat (o:=0) l0 (LD.cat l1 (LD.fin (hl.trans kr)))
instance:Inhabited eU:=⟨Kb⟩
def adQ(v:eU):Prop:=v.fName.length<=140737488351232/\(v.bV.length<=maxLen/\∀y,y∈v.bV->Z1 y)/\(v.cU.length<=maxLen/\∀y,y∈v.cU->y.length<=140737488351232)/\(v.yR.length<=maxLen/\∀y,y∈v.yR->VO y)/\(v.rV.length<=maxLen/\∀y,y∈v.rV->Si y)/\(v.yS.length<=maxLen/\∀y,y∈v.yS->VP y)/\(Lit.int .i64 v.jM).wf=WF/\(Lit.int .i64 v.ir).wf=WF/\(Lit.int .i64 v.GC).wf=WF/\(Lit.int .i64 v.rA).wf=WF/\v.GD.length<=140737488351232/\Rg v.Kc/\(Lit.int .i64 v.TC).wf=WF/\True
theorem aht(fuel:Nat):eo eZ prog W fuel 30 zU adQ:=by
 obtain _|fuel:=fuel
 ·exact mZ
 refine mT fuel underlying30 λcs hl hf=>?_;obtain⟨x0,k0,l0⟩:=gS 0 rfl rfl hf;obtain⟨x1,k1,l1⟩:=fX 1 rfl (k:=1) kr (aqq fuel) hf;obtain⟨x2,k2,l2⟩:=fX 2 rfl (k:=1) kr (alX fuel) hf;obtain⟨x3,k3,l3⟩:=fX 3 rfl (k:=1) kr (aqs fuel) hf;obtain⟨x4,k4,l4⟩:=fX 4 rfl (k:=1) kr (aqt fuel) hf;obtain⟨x5,k5,l5⟩:=fX 5 rfl (k:=1) kr (aqu fuel) hf;obtain⟨x6,k6,l6⟩:=gI 6 rfl rfl hf;obtain⟨x7,k7,l7⟩:=gI 7 rfl rfl hf;obtain⟨x8,k8,l8⟩:=gI 8 rfl rfl hf;obtain⟨x9,k9,l9⟩:=gI 9 rfl rfl hf;obtain⟨cm,k10,l10⟩:=gS 10 rfl rfl hf;obtain⟨fQ,k11,l11⟩:=fX 11 rfl (k:=2) kr (YB fuel) hf;obtain⟨gm,k12,l12⟩:=gI 12 rfl rfl hf;obtain⟨fO,k13,l13⟩:=gB 13 rfl rfl hf;refine⟨.mk x0 x1 x2 x3 x4 x5 x6 x7 x8 x9 cm fQ gm fO,⟨k0,k1,k2,k3,k4,k5,k6,k7,k8,k9,k10,k11,k12,k13⟩,?_⟩;simpa[sL,zU]using LD.cat (o:=0) l0 (LD.cat l1 (LD.cat l2 (LD.cat l3 (LD.cat l4 (LD.cat l5 (LD.cat l6 (LD.cat l7 (LD.cat l8 (LD.cat l9 (LD.cat l10 (LD.cat l11 (LD.cat l12 (LD.cat l13 (LD.fin (hl.trans kr)))))))))))))))
theorem Z8(x:bF):(wk x).length=3:=by cases x;simp[wk]
instance:Inhabited bF:=⟨b8⟩
def VR(v:bF):Prop:=v.cj.length<=140737488351232/\True/\v.fData.length<=140737488351232
theorem ahu(fuel:Nat):eo eZ prog W fuel 63 wk VR:=by
 obtain _|fuel:=fuel
 ·exact mZ
 refine mT fuel underlying63 λcs hl hf=>?_;obtain⟨x0,k0,l0⟩:=gS 0 rfl rfl hf;obtain⟨x1,k1,l1⟩:=gB 1 rfl rfl hf;obtain⟨x2,k2,l2⟩:=gS 2 rfl rfl hf;refine⟨.mk x0 x1 x2,⟨k0,k1,k2⟩,?_⟩;simpa[sL,wk]using LD.cat (o:=0) l0 (LD.cat l1 (LD.cat l2 (LD.fin (hl.trans kr))))
theorem aqv(fuel:Nat):eo eZ prog W fuel 31 (sL 3 wk) (kL VR):=mS underlying31 kr de Z8 ahu fuel
theorem VS(x:gU):(pK x).length=2:=by cases x;simp[pK]
instance:Inhabited gU:=⟨Cy⟩
def NS(v:gU):Prop:=v.fText.length<=140737488351232/\(Lit.int .i64 v.ir).wf=WF
theorem acH(fuel:Nat):eo eZ prog W fuel 56 pK NS:=by
 obtain _|fuel:=fuel
 ·exact mZ
 refine mT fuel underlying56 λcs hl hf=>?_;obtain⟨x0,k0,l0⟩:=gS 0 rfl rfl hf;obtain⟨x1,k1,l1⟩:=gI 1 rfl rfl hf;refine⟨.mk x0 x1,⟨k0,k1⟩,?_⟩;simpa[sL,pK]using LD.cat (o:=0) l0 (LD.cat l1 (LD.fin (hl.trans kr)))
theorem aqw(fuel:Nat):eo eZ prog W fuel 32 (sL 2 pK) (kL NS):=mS underlying32 kr de VS acH fuel
instance:Inhabited vl:=⟨alZ⟩
def J4(v:vl):Prop:=adQ v.rW/\(v.qh.length<=maxLen/\∀y,y∈v.qh->VR y)/\(v.Ke.length<=maxLen/\∀y,y∈v.Ke->y.length<=140737488351232)/\(v.j8.length<=maxLen/\∀y,y∈v.j8->NS y)
theorem aju(fuel:Nat):eo eZ prog W fuel 34 VU J4:=by
 obtain _|fuel:=fuel
 ·exact mZ
 refine mT fuel underlying34 λcs hl hf=>?_;obtain⟨x0,k0,l0⟩:=fX 0 rfl (k:=15) kr (aht fuel) hf;obtain⟨x1,k1,l1⟩:=fX 1 rfl (k:=1) kr (aqv fuel) hf;obtain⟨x2,k2,l2⟩:=fX 2 rfl (k:=1) kr (alX fuel) hf;obtain⟨x3,k3,l3⟩:=fX 3 rfl (k:=1) kr (aqw fuel) hf;refine⟨.mk x0 x1 x2 x3,⟨k0,k1,k2,k3⟩,?_⟩;simpa[sL,VU]using LD.cat (o:=0) l0 (LD.cat l1 (LD.cat l2 (LD.cat l3 (LD.fin (hl.trans kr)))))
end Go.Proofs.YtkmlndnhiboofaaGreatDoor
