import Derived.Test.YtpgbhdldcmcenaaGreatDoorRk
import Derived.Test.YtpgbhdldcmcenaaGreatDoorZ2
import Derived.Test.YtpgbhdldcmcenaaGreatDoorRows
import Derived.Test.YtpgbhdldcmcenaaGreatDoorCards
import Derived.Test.YtpgbhdldcmcenaaGreatDoorTie
import Derived.WalkKit
import Derived.ProofKit
import Derived.OpenShut
import Derived.ShutString
import Derived.ChangeOld
import Derived.LaidLaws
import Derived.LaidHandle
import Derived.Lay
import Derived.Shelf.Vars
import Derived.HandedShaped
import Derived.Stop.LaidErr
import Derived.Stop.Joined
import Derived.JoinedOf
import Derived.SevenTiedAt
import Derived.Lib.LaidTab
set_option linter.all false
namespace Go.Proofs.YtpgbhdldcmcenaaGreatDoor
open Go.Proofs.Tryz
open Go.ChangeShapes Go.WideShapes Go.ChangeAt Go.RowKit Go.RT
theorem own:ownKnob Tryz.prog.godebug=none:=by kernel_rfl
theorem laidOut:laidOutB prog=true:=by kernel_rfl
abbrev E0:J (String×DataW Unit):=[("math/bits.deBruijn32tab",Rows.laid_math_bits_deBruijn32tab),("math/bits.deBruijn64tab",Rows.laid_math_bits_deBruijn64tab),("internal/strconv.uint64pow10",Rows.laid_internal_strconv_uint64pow10),("unicode/utf8.acceptRanges",Rows.laid_unicode_utf8_acceptRanges),("unicode/utf8.first",Rows.laid_unicode_utf8_first)]
theorem abV:(E0.filter fun x=>x.2.handleName?.isNone)=E0:=by kernel_rfl
theorem XO{W:U}{g:Nat}{v:Value}(h:W.cell? ⟨g,0,none⟩=some v):∃cs t m,W.heap[g]? = some (.cells cs t m)/\cs[0]? = some v:=by
 unfold World.cell? at h;split at h
 ·rename_i cs t m hh
  exact⟨cs,t,m,hh,by simpa using h⟩
 ·cases h
theorem Za{W:U}(h:laidMetH prog E0 W)(hs:W.ShapedOpen prog):∀b p,E.gb b=some p->∃cs t m,W.heap[b]? = some (.cells cs t m)/\p cs:=by
 have h':laidMet prog E0 W:=h;intro b p hb;have hb:(cond (Nat.beq b 1) (some (fun cs:aG Value=>cs=(Lib.pow10Tab.map fun z=>Value.int .u64 z).toArray)) (cond (Nat.beq b 0) (some (fun cs:aG Value=>∃m,cs[0]? = some (Value.int .i64 m))) none))=some p:=hb;cases he:Nat.beq b 1<;>rw [he] at hb<;>simp only [aZ,aK] at hb
 rotate_left
 ·cases hb
  have:=eM he;subst this
  have ht:Lib.TabIs prog W "internal/strconv.uint64pow10" .u64 Lib.pow10Tab:=Lib.tabIs_of_head (rest:=_) (g:=1) (t:=421) (e:=285) (n:=20) kr kr underlying421 underlying285 kr kr h'.tail.tail
  unfold Lib.TabIs World.var? at ht
  rw [show Tryz.prog.globalNamed "internal/strconv.uint64pow10" = some 1 by kernel_rfl] at ht
  simp only [aC] at ht;split at ht
  ·rename_i cs' t m hh
   cases ht;exact⟨_,t,m,hh,rfl⟩
  ·cases ht
 cases WH:Nat.beq b 0<;>rw [WH] at hb<;>simp only [aZ,aK] at hb
 ·cases hb
 cases hb;have:=eM WH;subst this;obtain⟨m,hm⟩:=cell_of_shapedOpen_int (g:=0) (t:=3) (k:=.i64) (zero:=#[.int .i64 0]) hs (Ae kr) kr rfl kr kr underlying3;obtain⟨cs,t,m2,q1,q2⟩:=XO hm;exact⟨cs,t,m2,q1,m,q2⟩
noncomputable def WA(os:Os):U:=World.laidAll prog os E0
set_option maxRecDepth 100000 in
theorem XN(os:Os)(args:aG Value):laidMetH prog E0 ((WA os).forCall (fun _ _=>0) ⟨#[],args,[]⟩).memory:=
 laidMetH_of_parts (by rw [abV];exact laidMet_laidAll args kr kr) kr
theorem XM{H:Type}{enc:aI×Value->H}{a:Assume}{C:Checked}{os:Os}{f:FuncId}{fn:Func}{s:ChangeSpec}{conds:J PathCond}{apart fresh handsOn again:Bool}{X:U->aG Value->Prop}
  (hX:∀(w w':U)(args:aG Value),w.heap=w'.heap->X w args->X w' args)
  (own:ownKnob C.prog.godebug=none) (started:os.Started) (noInit:C.prog.inits.idxOf? f=none) (hfn:C.prog.funcs[f]? = some fn)
  (witness:∃(w:U)(tape:Tape)(i:Input),w.os=os/\(w.forCall tape i).Shaped C.prog/\i.vars=[]/\Input.okWide C.prog (w.forCall tape i) .any w.heap.size f i /\
   ((s.pre enc C.prog fn conds apart (w.forCall tape i).memory i.args/\X (w.forCall tape i).memory i.args)/\sizedMet enc C.prog fn (OpenSpec.ofChange s) apart (w.forCall tape i).memory i.args)/\a.holds C.prog (lone (Frame.enter C.prog f i.args .normal) [] (w.forCall tape i)))
  (contract:∀(W:U)(base:Nat)(args:aG Value)(ds gs:J (DataW H))(before:J MemPlace),
   (∀(j:Nat) t v,fn.params[j]? = some t->args[j]? = some v->Value.okWide C.prog W .any base t v) ->
   DataW.Whole enc C.prog fn.params.toList s.vars apart W args.toList ds gs before ->
   X W args->W.ShapedOpen C.prog->(DataW.weightsEach C.prog (fn.params.toList++(OpenSpec.ofChange s).bare.plain.varTypes C.prog) (ds++gs)).all (·<=reachBytes)=true ->
   Calls C.prog f args W fun e W'=>∃v,e=.returned v/\s.post enc C.prog fn apart fresh handsOn again W args v W') :
  ReturnsInHanded a C os f .any (fun w args=>(s.pre enc C.prog fn conds apart w args/\X w args)/\sizedMet enc C.prog fn (OpenSpec.ofChange s) apart w args) (s.post enc C.prog fn apart fresh handsOn again):=by
 refine returnsInHanded_of_calls own started noInit witness ?_;intro w tape i _ hsh _ hok hpre _;obtain⟨_,_,_,fn',aqG,_,_,_,_,hval⟩:=hok;have e:fn'=fn:=qE (aqG.symm.trans hfn);subst e;obtain⟨⟨⟨ds,gs,before,hw,hc⟩,hx⟩,hz⟩:=hpre;have hw':=DataW.Whole.of_heap (w':=w.forCall tape i) (by rfl) hw;refine (contract (w.forCall tape i) w.heap.size i.args ds gs before hval hw' (hX _ _ _ (by rfl) hx) hsh (hz.weights hw)).mono fun e W' ⟨v,he,hp⟩=>?_;subst he;exact ChangeSpec.post_blind hp
variable {H : Type} {eW : aI × Value -> H} {W : U}
variable{t:aI}{α:Type}{ok:α->Prop}{enc:α->J DV}
theorem mT{fs:aG Field}(fuel:Nat)(ht:Tryz.prog.underlying t=some (.struct fs))(hh:∀cs:J Value,cs.length=Tryz.prog.cellsOf t->(∀f,f∈fs.toList->∃y,DataW.trod eW prog W 0 (fun _=>true) true fuel f.type ((cs.drop f.offset).take (Tryz.prog.cellsOf f.type))=some y/\HV prog f.type y.1)->∃x,ok x/\LD W (fun b _=>b<W.heap.size) cs (enc x)):dZ eW prog W (fuel+1) t enc ok:=fun cs d ps h hw=>have q:=Nl ht h hw;hh cs q.1 q.2
theorem mZ:dZ eW prog W 0 t enc ok:=by intro cs d ps h;cases h
def sL{α:Type}(k:Nat)(enc:α->J DV)(vs:J α):J DV:=[DV.slice k (vs.map enc)]
def kL{α:Type}(ok:α->Prop)(vs:J α):Prop:=vs.length<=maxLen/\∀y,y∈vs->ok y
theorem mS{e:aI}{k:Nat}[Inhabited α](ht:Tryz.prog.underlying t=some (.slice e))(hk:Tryz.prog.cellsOf e=k)(hkp:0<k)(hlen:∀x,(enc x).length=k)(he:∀fuel,dZ eW prog W fuel e enc ok):∀fuel,dZ eW prog W fuel t (sL k enc) (kL ok)
 | 0=>mZ
 | n+1=>QG ht hk hkp hlen (he n)
theorem mK{e:aI}{k:Nat}[Inhabited α]{n:Nat}(ht:Tryz.prog.underlying t=some (.slice e))(hk:Tryz.prog.cellsOf e=k)(hkp:0<k)(hlen:∀x,(enc x).length=k)(he:∀fuel,fuel<n->dZ eW prog W fuel e enc ok):∀fuel,fuel<n->dZ eW prog W fuel t (sL k enc) (kL ok)
 | 0,_=>mZ
 | n+1,h=>QG ht hk hkp hlen (he n om)
variable {fs : aG Field} {fuel : Nat} {cs : J Value} (j : Nat) {f : Field}
theorem gS(hf:fs[j]? = some f)(e:f.type=9)(h:∀f,f∈fs.toList->∃y,DataW.trod eW prog W 0 (fun _=>true) true fuel f.type ((cs.drop f.offset).take (Tryz.prog.cellsOf f.type))=some y/\HV prog f.type y.1):∃x:Bs,(x.length<=140737488351232)/\LD W (fun b _=>b<W.heap.size) ((cs.drop f.offset).take 1) [DV.str x]:=fY j hf (by rw [e];kernel_rfl) (e▸Nn underlying9 fuel) h
theorem gI(hf:fs[j]? = some f)(e:f.type=3)(h:∀f,f∈fs.toList->∃y,DataW.trod eW prog W 0 (fun _=>true) true fuel f.type ((cs.drop f.offset).take (Tryz.prog.cellsOf f.type))=some y/\HV prog f.type y.1):∃x:Int,((Lit.int .i64 x).wf=true)/\LD W (fun b _=>b<W.heap.size) ((cs.drop f.offset).take 1) [DV.int .i64 x]:=fY j hf (by rw [e];kernel_rfl) (e▸agI underlying3 fuel) h
theorem gB(hf:fs[j]? = some f)(e:f.type=4)(h:∀f,f∈fs.toList->∃y,DataW.trod eW prog W 0 (fun _=>true) true fuel f.type ((cs.drop f.offset).take (Tryz.prog.cellsOf f.type))=some y/\HV prog f.type y.1):∃x:Bool,(True)/\LD W (fun b _=>b<W.heap.size) ((cs.drop f.offset).take 1) [DV.bool x]:=fY j hf (by rw [e];kernel_rfl) (e▸aeB underlying4 fuel) h
theorem abW(x:bO):(Cf x).length=5:=by cases x;simp [Cf]
instance:Inhabited bO:=⟨eo⟩
def Zh(v:bO):Prop:=v.fName.length<=140737488351232/\v.bS.length<=140737488351232/\True/\True/\True
theorem aiW(fuel:Nat):dZ eW prog W fuel 64 Cf Zh:=by
 obtain _|fuel:=fuel
 ·exact mZ
 refine mT fuel underlying64 fun cs hl hf=>?_;obtain⟨x0,k0,l0⟩:=gS 0 rfl rfl hf;obtain⟨x1,k1,l1⟩:=gS 1 rfl rfl hf;obtain⟨x2,k2,l2⟩:=gB 2 rfl rfl hf;obtain⟨x3,k3,l3⟩:=gB 3 rfl rfl hf;obtain⟨x4,k4,l4⟩:=gB 4 rfl rfl hf;refine⟨.mk x0 x1 x2 x3 x4,⟨k0,k1,k2,k3,k4⟩,?_⟩;simpa [sL,Cf] using LD.cat (o:=0) l0 (LD.cat l1 (LD.cat l2 (LD.cat l3 (LD.cat l4 (LD.fin (hl.trans kr))))))
theorem apj(fuel:Nat):dZ eW prog W fuel 22 (sL 5 Cf) (kL Zh):=mS underlying22 kr de abW aiW fuel
theorem ak5(fuel:Nat):dZ eW prog W fuel 23 (sL 1 (fun l:Bs=>[DV.str l])) (kL fun y:Bs=>y.length<=140737488351232):=mS (k:=1) underlying23 kr de (fun _=>rfl) (Nn underlying9) fuel
instance:Inhabited TPart:=⟨iM⟩
inductive Cg:TPart->Prop
 | mk (x0:Int) (x1:Bs) (x2:Int) (x3:Bool) (x4:List TPart) (h0:(Lit.int .i64 x0).wf=true) (h1:x1.length<=140737488351232) (h2:(Lit.int .i64 x2).wf=true) (h3:True) (h4:x4.length<=maxLen) (g4:∀y,y∈x4->Cg y):Cg (.mk x0 x1 x2 x3 x4)
theorem Np(x:TPart):(lY x).length=5:=by cases x;simp [lY]
theorem agJ(fuel:Nat):dZ eW prog W fuel 74 lY Cg:=by
 induction fuel using Nat.strongRecOn with
 | _ fuel ih=>
  have anv:∀f,f<fuel->dZ eW prog W f 49 (sL 5 lY) (kL Cg):=mK underlying49 kr de Np fun f h=>(ih f h);obtain _|fuel:=fuel
  ·exact mZ
  refine mT fuel underlying74 fun cs hl hf=>?_;obtain⟨x0,k0,l0⟩:=gI 0 rfl rfl hf;obtain⟨x1,k1,l1⟩:=gS 1 rfl rfl hf;obtain⟨x2,k2,l2⟩:=gI 2 rfl rfl hf;obtain⟨x3,k3,l3⟩:=gB 3 rfl rfl hf;obtain⟨x4,k4,l4⟩:=fY 4 rfl (k:=1) kr (anv fuel om) hf;refine⟨.mk x0 x1 x2 x3 x4,.mk _ _ _ _ _ k0 k1 k2 k3 k4.1 k4.2,?_⟩;simpa [sL,lY,D8] using LD.cat (o:=0) l0 (LD.cat l1 (LD.cat l2 (LD.cat l3 (LD.cat l4 (LD.fin (hl.trans kr))))))
theorem agK(fuel:Nat):dZ eW prog W fuel 74 lY Cg:=(agJ fuel)
theorem apk(fuel:Nat):dZ eW prog W fuel 49 (sL 5 lY) (kL Cg):=mS underlying49 kr de Np agK fuel
theorem Gl(x:iK):(rE x).length=2:=by cases x;simp [rE]
instance:Inhabited iK:=⟨vF⟩
def FZ(v:iK):Prop:=(Lit.int .i64 v.fPos).wf=true/\(v.fParts.length<=maxLen/\∀y,y∈v.fParts->Cg y)
theorem Nq(fuel:Nat):dZ eW prog W fuel 51 rE FZ:=by
 obtain _|fuel:=fuel
 ·exact mZ
 refine mT fuel underlying51 fun cs hl hf=>?_;obtain⟨x0,k0,l0⟩:=gI 0 rfl rfl hf;obtain⟨x1,k1,l1⟩:=fY 1 rfl (k:=1) kr (apk fuel) hf;refine⟨.mk x0 x1,⟨k0,k1⟩,?_⟩;simpa [sL,rE] using LD.cat (o:=0) l0 (LD.cat l1 (LD.fin (hl.trans kr)))
theorem Va(x:sD):(tT x).length=4:=by cases x;simp [tT,Gl]
instance:Inhabited sD:=⟨Zi⟩
def Nr(v:sD):Prop:=(Lit.int .i64 v.fPos).wf=true/\v.fName.length<=140737488351232/\FZ v.bS
theorem Zj(fuel:Nat):dZ eW prog W fuel 223 tT Nr:=by
 obtain _|fuel:=fuel
 ·exact mZ
 refine mT fuel underlying223 fun cs hl hf=>?_;obtain⟨x0,k0,l0⟩:=gI 0 rfl rfl hf;obtain⟨x1,k1,l1⟩:=gS 1 rfl rfl hf;obtain⟨x2,k2,l2⟩:=fY 2 rfl (k:=2) kr (Nq fuel) hf;refine⟨.mk x0 x1 x2,⟨k0,k1,k2⟩,?_⟩;simpa [sL,tT] using LD.cat (o:=0) l0 (LD.cat l1 (LD.cat l2 (LD.fin (hl.trans kr))))
theorem anw(fuel:Nat):dZ eW prog W fuel 163 (sL 4 tT) (kL Nr):=mS underlying163 kr de Va Zj fuel
theorem ak6(fuel:Nat):dZ eW prog W fuel 35 (sL 2 rE) (kL FZ):=mS underlying35 kr de Gl Nq fuel
theorem XP(x:vG):(vJ x).length=5:=by cases x;simp [vJ,Gl]
instance:Inhabited vG:=⟨ac6⟩
def RG(v:vG):Prop:=(Lit.int .i64 v.fPos).wf=true/\(Lit.int .i64 v.fFd).wf=true/\(Lit.int .i64 v.fOp).wf=true/\FZ v.Vb
theorem abX(fuel:Nat):dZ eW prog W fuel 228 vJ RG:=by
 obtain _|fuel:=fuel
 ·exact mZ
 refine mT fuel underlying228 fun cs hl hf=>?_;obtain⟨x0,k0,l0⟩:=gI 0 rfl rfl hf;obtain⟨x1,k1,l1⟩:=gI 1 rfl rfl hf;obtain⟨x2,k2,l2⟩:=gI 2 rfl rfl hf;obtain⟨x3,k3,l3⟩:=fY 3 rfl (k:=2) kr (Nq fuel) hf;refine⟨.mk x0 x1 x2 x3,⟨k0,k1,k2,k3⟩,?_⟩;simpa [sL,vJ] using LD.cat (o:=0) l0 (LD.cat l1 (LD.cat l2 (LD.cat l3 (LD.fin (hl.trans kr)))))
theorem anx(fuel:Nat):dZ eW prog W fuel 164 (sL 5 vJ) (kL RG):=mS underlying164 kr de XP abX fuel
instance:Inhabited TNode:=⟨Zk⟩
instance:Inhabited TItem:=⟨agL⟩
mutual
inductive Ch:TNode->Prop
 | mk (x0:Int) (x1:Int) (x2:Bs) (x3:Bool) (x4:List sD) (x5:List iK) (x6:List vG) (x7:List TNode) (x8:List TItem) (h0:(Lit.int .i64 x0).wf=true) (h1:(Lit.int .i64 x1).wf=true) (h2:x2.length<=140737488351232) (h3:True) (h4:(x4.length<=maxLen/\∀y,y∈x4->Nr y)) (h5:(x5.length<=maxLen/\∀y,y∈x5->FZ y)) (h6:(x6.length<=maxLen/\∀y,y∈x6->RG y)) (h7:x7.length<=maxLen) (g7:∀y,y∈x7->Ch y) (h8:x8.length<=maxLen) (g8:∀y,y∈x8->Pw y):Ch (.mk x0 x1 x2 x3 x4 x5 x6 x7 x8)
inductive Pw:TItem->Prop
 | mk (x0:List iK) (x1:List TNode) (h0:(x0.length<=maxLen/\∀y,y∈x0->FZ y)) (h1:x1.length<=maxLen) (g1:∀y,y∈x1->Ch y):Pw (.mk x0 x1)
end
theorem Ns(x:TNode):(oG x).length=9:=by cases x;simp [oG]
theorem Zl(x:TItem):(rF x).length=2:=by cases x;simp [rF]
theorem aeC(fuel:Nat):dZ eW prog W fuel 168 oG Ch/\dZ eW prog W fuel 232 rF Pw:=by
 induction fuel using Nat.strongRecOn with
 | _ fuel ih=>
  have ac7:∀f,f<fuel->dZ eW prog W f 165 (sL 9 oG) (kL Ch):=mK underlying165 kr de Ns fun f h=>(ih f h).1;have alR:∀f,f<fuel->dZ eW prog W f 166 (sL 2 rF) (kL Pw):=mK underlying166 kr de Zl fun f h=>(ih f h).2;refine⟨?_,?_⟩
  ·obtain _|fuel:=fuel
   ·exact mZ
   refine mT fuel underlying168 fun cs hl hf=>?_;obtain⟨x0,k0,l0⟩:=gI 0 rfl rfl hf;obtain⟨x1,k1,l1⟩:=gI 1 rfl rfl hf;obtain⟨x2,k2,l2⟩:=gS 2 rfl rfl hf;obtain⟨x3,k3,l3⟩:=gB 3 rfl rfl hf;obtain⟨x4,k4,l4⟩:=fY 4 rfl (k:=1) kr (anw fuel) hf;obtain⟨x5,k5,l5⟩:=fY 5 rfl (k:=1) kr (ak6 fuel) hf;obtain⟨x6,k6,l6⟩:=fY 6 rfl (k:=1) kr (anx fuel) hf;obtain⟨x7,k7,l7⟩:=fY 7 rfl (k:=1) kr (ac7 fuel om) hf;obtain⟨x8,k8,l8⟩:=fY 8 rfl (k:=1) kr (alR fuel om) hf;refine⟨.mk x0 x1 x2 x3 x4 x5 x6 x7 x8,.mk _ _ _ _ _ _ _ _ _ k0 k1 k2 k3 k4 k5 k6 k7.1 k7.2 k8.1 k8.2,?_⟩;simpa [sL,oG,uo,uq] using LD.cat (o:=0) l0 (LD.cat l1 (LD.cat l2 (LD.cat l3 (LD.cat l4 (LD.cat l5 (LD.cat l6 (LD.cat l7 (LD.cat l8 (LD.fin (hl.trans kr))))))))))
  ·obtain _|fuel:=fuel
   ·exact mZ
   refine mT fuel underlying232 fun cs hl hf=>?_;obtain⟨x0,k0,l0⟩:=fY 0 rfl (k:=1) kr (ak6 fuel) hf;obtain⟨x1,k1,l1⟩:=fY 1 rfl (k:=1) kr (ac7 fuel om) hf;refine⟨.mk x0 x1,.mk _ _ k0 k1.1 k1.2,?_⟩;simpa [sL,rF,uo,uq] using LD.cat (o:=0) l0 (LD.cat l1 (LD.fin (hl.trans kr)))
theorem aeD(fuel:Nat):dZ eW prog W fuel 168 oG Ch:=(aeC fuel).1
theorem Zm(x:za):(zD x).length=10:=by cases x;simp [zD,Ns]
instance:Inhabited za:=⟨agM⟩
def Vc(v:za):Prop:=v.fName.length<=140737488351232/\Ch v.fBody
theorem aeE(fuel:Nat):dZ eW prog W fuel 170 zD Vc:=by
 obtain _|fuel:=fuel
 ·exact mZ
 refine mT fuel underlying170 fun cs hl hf=>?_;obtain⟨x0,k0,l0⟩:=gS 0 rfl rfl hf;obtain⟨x1,k1,l1⟩:=fY 1 rfl (k:=9) kr (aeD fuel) hf;refine⟨.mk x0 x1,⟨k0,k1⟩,?_⟩;simpa [sL,zD] using LD.cat (o:=0) l0 (LD.cat l1 (LD.fin (hl.trans kr)))
theorem apl(fuel:Nat):dZ eW prog W fuel 24 (sL 10 zD) (kL Vc):=mS underlying24 kr de Zm aeE fuel
theorem XQ(x:cm):(vK x).length=2:=by cases x;simp [vK]
instance:Inhabited cm:=⟨qM⟩
def RH(v:cm):Prop:=v.fName.length<=140737488351232/\v.bS.length<=140737488351232
theorem abY(fuel:Nat):dZ eW prog W fuel 158 vK RH:=by
 obtain _|fuel:=fuel
 ·exact mZ
 refine mT fuel underlying158 fun cs hl hf=>?_;obtain⟨x0,k0,l0⟩:=gS 0 rfl rfl hf;obtain⟨x1,k1,l1⟩:=gS 1 rfl rfl hf;refine⟨.mk x0 x1,⟨k0,k1⟩,?_⟩;simpa [sL,vK] using LD.cat (o:=0) l0 (LD.cat l1 (LD.fin (hl.trans kr)))
theorem apm(fuel:Nat):dZ eW prog W fuel 25 (sL 2 vK) (kL RH):=mS underlying25 kr de XQ abY fuel
theorem Zn(x:Av):(zE x).length=2:=by cases x;simp [zE]
instance:Inhabited Av:=⟨agN⟩
def Ve(v:Av):Prop:=(Lit.int .i64 v.aiX).wf=true/\v.Vf.length<=140737488351232
theorem aeF(fuel:Nat):dZ eW prog W fuel 161 zE Ve:=by
 obtain _|fuel:=fuel
 ·exact mZ
 refine mT fuel underlying161 fun cs hl hf=>?_;obtain⟨x0,k0,l0⟩:=gI 0 rfl rfl hf;obtain⟨x1,k1,l1⟩:=gS 1 rfl rfl hf;refine⟨.mk x0 x1,⟨k0,k1⟩,?_⟩;simpa [sL,zE] using LD.cat (o:=0) l0 (LD.cat l1 (LD.fin (hl.trans kr)))
theorem apn(fuel:Nat):dZ eW prog W fuel 26 (sL 2 zE) (kL Ve):=mS underlying26 kr de Zn aeF fuel
instance:Inhabited nP:=⟨KQ⟩
def QH(v:nP):Prop:=(Lit.int .i64 v.JS).wf=true/\(Lit.int .i64 v.F0).wf=true
theorem XR(fuel:Nat):dZ eW prog W fuel 28 Aw QH:=by
 obtain _|fuel:=fuel
 ·exact mZ
 refine mT fuel underlying28 fun cs hl hf=>?_;obtain⟨x0,k0,l0⟩:=gI 0 rfl rfl hf;obtain⟨x1,k1,l1⟩:=gI 1 rfl rfl hf;refine⟨.mk x0 x1,⟨k0,k1⟩,?_⟩;simpa [sL,Aw] using LD.cat (o:=0) l0 (LD.cat l1 (LD.fin (hl.trans kr)))
instance:Inhabited eH:=⟨JT⟩
def ac8(v:eH):Prop:=v.fName.length<=140737488351232/\(v.bQ.length<=maxLen/\∀y,y∈v.bQ->Zh y)/\(v.cK.length<=maxLen/\∀y,y∈v.cK->y.length<=140737488351232)/\(v.ur.length<=maxLen/\∀y,y∈v.ur->Vc y)/\(v.oH.length<=maxLen/\∀y,y∈v.oH->RH y)/\(v.uu.length<=maxLen/\∀y,y∈v.uu->Ve y)/\(Lit.int .i64 v.eB).wf=true/\(Lit.int .i64 v.fK).wf=true/\(Lit.int .i64 v.Ci).wf=true/\(Lit.int .i64 v.pz).wf=true/\v.KR.length<=140737488351232/\QH v.xb/\(Lit.int .i64 v.JU).wf=true/\True
theorem agO(fuel:Nat):dZ eW prog W fuel 30 zF ac8:=by
 obtain _|fuel:=fuel
 ·exact mZ
 refine mT fuel underlying30 fun cs hl hf=>?_;obtain⟨x0,k0,l0⟩:=gS 0 rfl rfl hf;obtain⟨x1,k1,l1⟩:=fY 1 rfl (k:=1) kr (apj fuel) hf;obtain⟨x2,k2,l2⟩:=fY 2 rfl (k:=1) kr (ak5 fuel) hf;obtain⟨x3,k3,l3⟩:=fY 3 rfl (k:=1) kr (apl fuel) hf;obtain⟨x4,k4,l4⟩:=fY 4 rfl (k:=1) kr (apm fuel) hf;obtain⟨x5,k5,l5⟩:=fY 5 rfl (k:=1) kr (apn fuel) hf;obtain⟨x6,k6,l6⟩:=gI 6 rfl rfl hf;obtain⟨x7,k7,l7⟩:=gI 7 rfl rfl hf;obtain⟨x8,k8,l8⟩:=gI 8 rfl rfl hf;obtain⟨x9,k9,l9⟩:=gI 9 rfl rfl hf;obtain⟨cq,k10,l10⟩:=gS 10 rfl rfl hf;obtain⟨fR,k11,l11⟩:=fY 11 rfl (k:=2) kr (XR fuel) hf;obtain⟨fq,k12,l12⟩:=gI 12 rfl rfl hf;obtain⟨fT,k13,l13⟩:=gB 13 rfl rfl hf;refine⟨.mk x0 x1 x2 x3 x4 x5 x6 x7 x8 x9 cq fR fq fT,⟨k0,k1,k2,k3,k4,k5,k6,k7,k8,k9,k10,k11,k12,k13⟩,?_⟩;simpa [sL,zF] using LD.cat (o:=0) l0 (LD.cat l1 (LD.cat l2 (LD.cat l3 (LD.cat l4 (LD.cat l5 (LD.cat l6 (LD.cat l7 (LD.cat l8 (LD.cat l9 (LD.cat l10 (LD.cat l11 (LD.cat l12 (LD.cat l13 (LD.fin (hl.trans kr)))))))))))))))
theorem Zo(x:bE):(vM x).length=3:=by cases x;simp [vM]
instance:Inhabited bE:=⟨bW⟩
def zP(v:bE):Prop:=v.cg.length<=140737488351232/\True/\v.fData.length<=140737488351232
theorem agP(fuel:Nat):dZ eW prog W fuel 60 vM zP:=by
 obtain _|fuel:=fuel
 ·exact mZ
 refine mT fuel underlying60 fun cs hl hf=>?_;obtain⟨x0,k0,l0⟩:=gS 0 rfl rfl hf;obtain⟨x1,k1,l1⟩:=gB 1 rfl rfl hf;obtain⟨x2,k2,l2⟩:=gS 2 rfl rfl hf;refine⟨.mk x0 x1 x2,⟨k0,k1,k2⟩,?_⟩;simpa [sL,vM] using LD.cat (o:=0) l0 (LD.cat l1 (LD.cat l2 (LD.fin (hl.trans kr))))
theorem ak0(fuel:Nat):dZ eW prog W fuel 31 (sL 3 vM) (kL zP):=mS underlying31 kr de Zo agP fuel
theorem Vg(x:ia):(pE x).length=2:=by cases x;simp [pE]
instance:Inhabited ia:=⟨Cj⟩
def Nt(v:ia):Prop:=v.fText.length<=140737488351232/\(Lit.int .i64 v.fK).wf=true
theorem abZ(fuel:Nat):dZ eW prog W fuel 56 pE Nt:=by
 obtain _|fuel:=fuel
 ·exact mZ
 refine mT fuel underlying56 fun cs hl hf=>?_;obtain⟨x0,k0,l0⟩:=gS 0 rfl rfl hf;obtain⟨x1,k1,l1⟩:=gI 1 rfl rfl hf;refine⟨.mk x0 x1,⟨k0,k1⟩,?_⟩;simpa [sL,pE] using LD.cat (o:=0) l0 (LD.cat l1 (LD.fin (hl.trans kr)))
theorem apo(fuel:Nat):dZ eW prog W fuel 32 (sL 2 pE) (kL Nt):=mS underlying32 kr de Vg abZ fuel
instance:Inhabited uZ:=⟨ak7⟩
def JH(v:uZ):Prop:=ac8 v.mJ/\(v.p7.length<=maxLen/\∀y,y∈v.p7->zP y)/\(v.JV.length<=maxLen/\∀y,y∈v.JV->y.length<=140737488351232)/\(v.jV.length<=maxLen/\∀y,y∈v.jV->Nt y)
theorem aiH(fuel:Nat):dZ eW prog W fuel 34 Vh JH:=by
 obtain _|fuel:=fuel
 ·exact mZ
 refine mT fuel underlying34 fun cs hl hf=>?_;obtain⟨x0,k0,l0⟩:=fY 0 rfl (k:=15) kr (agO fuel) hf;obtain⟨x1,k1,l1⟩:=fY 1 rfl (k:=1) kr (ak0 fuel) hf;obtain⟨x2,k2,l2⟩:=fY 2 rfl (k:=1) kr (ak5 fuel) hf;obtain⟨x3,k3,l3⟩:=fY 3 rfl (k:=1) kr (apo fuel) hf;refine⟨.mk x0 x1 x2 x3,⟨k0,k1,k2,k3⟩,?_⟩;simpa [sL,Vh] using LD.cat (o:=0) l0 (LD.cat l1 (LD.cat l2 (LD.cat l3 (LD.fin (hl.trans kr)))))
end Go.Proofs.YtpgbhdldcmcenaaGreatDoor
