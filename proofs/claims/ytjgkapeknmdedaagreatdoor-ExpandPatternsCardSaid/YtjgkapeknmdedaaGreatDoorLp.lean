import Derived.Test.YtjgkapeknmdedaaGreatDoorRk
import Derived.Test.YtjgkapeknmdedaaGreatDoorZ2
import Derived.Test.YtjgkapeknmdedaaGreatDoorRows
import Derived.Test.YtjgkapeknmdedaaGreatDoorCards
import Derived.Test.YtjgkapeknmdedaaGreatDoorTie
import Derived.WalkKit
import Derived.ProofKit
import Derived.OpenShut
import Derived.ShutString
import Derived.ChangeOld
import Derived.LaidLaws
import Derived.LaidHandle
import Derived.Lay
import Derived.Shelf.Vars
import Derived.HandedShaped
import Derived.Stop.LaidErr
import Derived.Stop.Joined
import Derived.JoinedOf
import Derived.SevenTiedAt
import Derived.Lib.LaidTab
set_option linter.all false
namespace Go.Proofs.YtjgkapeknmdedaaGreatDoor
open Go.ChangeShapes Go.WideShapes Go.ChangeAt Go.RowKit Go.RT
theorem own:ownKnob Tryz.prog.godebug=none:=by kernel_rfl
theorem laidOut:laidOutB Tryz.prog=true:=by kernel_rfl
abbrev D9:J (String×DataW Unit):=[("math/bits.deBruijn32tab",Rows.laid_math_bits_deBruijn32tab),("math/bits.deBruijn64tab",Rows.laid_math_bits_deBruijn64tab),("internal/strconv.uint64pow10",Rows.laid_internal_strconv_uint64pow10),("unicode/utf8.acceptRanges",Rows.laid_unicode_utf8_acceptRanges),("unicode/utf8.first",Rows.laid_unicode_utf8_first)]
theorem aa2:(D9.filter fun x=>x.2.handleName?.isNone)=D9:=by kernel_rfl
theorem WN{W:U}{g:Nat}{v:Value}(h:W.cell? ⟨g,0,none⟩=some v):∃cs t m,W.heap[g]? = some (.cells cs t m)/\cs[0]? = some v:=by
 unfold World.cell? at h;split at h
 ·rename_i cs t m hh
  exact⟨cs,t,m,hh,by simpa using h⟩
 ·cases h
theorem Ye{W:U}(h:laidMetH Tryz.prog D9 W)(hs:W.ShapedOpen Tryz.prog):∀b p,E.gb b=some p->∃cs t m,W.heap[b]? = some (.cells cs t m)/\p cs:=by
 have h':laidMet Tryz.prog D9 W:=h;intro b p hb;have hb:(cond (Nat.beq b 1) (some (fun cs:aI Value=>cs=(Lib.pow10Tab.map fun z=>Value.int .u64 z).toArray)) (cond (Nat.beq b 0) (some (fun cs:aI Value=>∃m,cs[0]? = some (Value.int .i64 m))) none))=some p:=hb;cases he:Nat.beq b 1<;>rw [he] at hb<;>simp only [bf,aO] at hb
 rotate_left
 ·cases hb
  have:=eo he;subst this
  have ht:Lib.TabIs Tryz.prog W "internal/strconv.uint64pow10" .u64 Lib.pow10Tab:=Lib.tabIs_of_head (rest:=_) (g:=1) (t:=428) (e:=282) (n:=20) kr kr Tryz.underlying428 Tryz.underlying282 kr kr h'.tail.tail
  unfold Lib.TabIs World.var? at ht
  rw [show Tryz.prog.globalNamed "internal/strconv.uint64pow10" = some 1 by kernel_rfl] at ht
  simp only [aD] at ht;split at ht
  ·rename_i cs' t m hh
   cases ht;exact⟨_,t,m,hh,rfl⟩
  ·cases ht
 cases VK:Nat.beq b 0<;>rw [VK] at hb<;>simp only [bf,aO] at hb
 ·cases hb
 cases hb;have:=eo VK;subst this;obtain⟨m,hm⟩:=cell_of_shapedOpen_int (g:=0) (t:=3) (k:=.i64) (zero:=#[.int .i64 0]) hs (yX kr) kr rfl kr kr Tryz.underlying3;obtain⟨cs,t,m2,q1,q2⟩:=WN hm;exact⟨cs,t,m2,q1,m,q2⟩
noncomputable def VF(os:Os):U:=World.laidAll Tryz.prog os D9
set_option maxRecDepth 100000 in
theorem WM(os:Os)(args:aI Value):laidMetH Tryz.prog D9 ((VF os).forCall (fun _ _=>0) ⟨#[],args,[]⟩).memory:=
 laidMetH_of_parts (by rw [aa2];exact laidMet_laidAll args kr kr) kr
theorem WL{H:Type}{enc:aC×Value->H}{a:Assume}{C:Checked}{os:Os}{f:FuncId}{fn:Func}{s:ChangeSpec}{conds:J PathCond}{apart fresh handsOn again:Bool}{X:U->aI Value->Prop}
  (hX:∀(w w':U)(args:aI Value),w.heap=w'.heap->X w args->X w' args)
  (own:ownKnob C.prog.godebug=none) (started:os.Started) (noInit:C.prog.inits.idxOf? f=none) (hfn:C.prog.funcs[f]? = some fn)
  (witness:∃(w:U)(tape:Tape)(i:Input),w.os=os/\(w.forCall tape i).Shaped C.prog/\i.vars=[]/\Input.okWide C.prog (w.forCall tape i) .any w.heap.size f i /\
   ((s.pre enc C.prog fn conds apart (w.forCall tape i).memory i.args/\X (w.forCall tape i).memory i.args)/\sizedMet enc C.prog fn (OpenSpec.ofChange s) apart (w.forCall tape i).memory i.args)/\a.holds C.prog (lone (Frame.enter C.prog f i.args .normal) [] (w.forCall tape i)))
  (contract:∀(W:U)(base:Nat)(args:aI Value)(ds gs:J (DataW H))(before:J MemPlace),
   (∀(j:Nat) t v,fn.params[j]? = some t->args[j]? = some v->Value.okWide C.prog W .any base t v) ->
   DataW.Whole enc C.prog fn.params.toList s.vars apart W args.toList ds gs before ->
   X W args->W.ShapedOpen C.prog->(DataW.weightsEach C.prog (fn.params.toList++(OpenSpec.ofChange s).bare.plain.varTypes C.prog) (ds++gs)).all (·<=reachBytes)=true ->
   Calls C.prog f args W fun e W'=>∃v,e=.returned v/\s.post enc C.prog fn apart fresh handsOn again W args v W') :
  ReturnsInHanded a C os f .any (fun w args=>(s.pre enc C.prog fn conds apart w args/\X w args)/\sizedMet enc C.prog fn (OpenSpec.ofChange s) apart w args) (s.post enc C.prog fn apart fresh handsOn again):=by
 refine returnsInHanded_of_calls own started noInit witness ?_;intro w tape i _ hsh _ hok hpre _;obtain⟨_,_,_,fn',ao5,_,_,_,_,hval⟩:=hok;have e:fn'=fn:=uv (ao5.symm.trans hfn);subst e;obtain⟨⟨⟨ds,gs,before,hw,hc⟩,hx⟩,hz⟩:=hpre;have hw':=DataW.Whole.of_heap (w':=w.forCall tape i) (by rfl) hw;refine (contract (w.forCall tape i) w.heap.size i.args ds gs before hval hw' (hX _ _ _ (by rfl) hx) hsh (hz.weights hw)).mono fun e W' ⟨v,he,hp⟩=>?_;subst he;exact ChangeSpec.post_blind hp
variable {H : Type} {eH : aC × Value -> H} {W : U}
theorem mT{t:aC}{fs:aI Field}{α:Type}{enc:α->J DV}{ok:α->Prop}(fuel:Nat)(ht:Tryz.prog.underlying t=some (.struct fs))(hh:∀cs:J Value,cs.length=Tryz.prog.cellsOf t->(∀f,f∈fs.toList->∃y,DataW.trod eH Tryz.prog W 0 (fun _=>true) true fuel f.type ((cs.drop f.offset).take (Tryz.prog.cellsOf f.type))=some y/\G4 Tryz.prog f.type y.1)->∃x,ok x/\LD W (fun b _=>b<W.heap.size) cs (enc x)):dL eH Tryz.prog W (fuel+1) t enc ok:=fun cs d ps h hw=>have q:=My ht h hw;hh cs q.1 q.2
theorem mZ{t:aC}{α:Type}{enc:α->J DV}{ok:α->Prop}:dL eH Tryz.prog W 0 t enc ok:=by intro cs d ps h;cases h
def sL{α:Type}(k:Nat)(enc:α->J DV)(vs:J α):J DV:=[DV.slice k (vs.map enc)]
def kL{α:Type}(ok:α->Prop)(vs:J α):Prop:=vs.length<=maxLen/\∀y,y∈vs->ok y
theorem mS{t e:aC}{k:Nat}{α:Type}[Inhabited α]{enc:α->J DV}{ok:α->Prop}(ht:Tryz.prog.underlying t=some (.slice e))(hk:Tryz.prog.cellsOf e=k)(hkp:0<k)(hlen:∀x,(enc x).length=k)(he:∀fuel,dL eH Tryz.prog W fuel e enc ok):∀fuel,dL eH Tryz.prog W fuel t (sL k enc) (kL ok)
 | 0=>mZ
 | n+1=>PD ht hk hkp hlen (he n)
theorem mK{t e:aC}{k:Nat}{α:Type}[Inhabited α]{enc:α->J DV}{ok:α->Prop}{n:Nat}(ht:Tryz.prog.underlying t=some (.slice e))(hk:Tryz.prog.cellsOf e=k)(hkp:0<k)(hlen:∀x,(enc x).length=k)(he:∀fuel,fuel<n->dL eH Tryz.prog W fuel e enc ok):∀fuel,fuel<n->dL eH Tryz.prog W fuel t (sL k enc) (kL ok)
 | 0,_=>mZ
 | n+1,h=>PD ht hk hkp hlen (he n om)
variable {fs : aI Field} {fuel : Nat} {cs : J Value} (j : Nat) {f : Field}
theorem gS(hf:fs[j]? = some f)(e:f.type=9)(h:∀f,f∈fs.toList->∃y,DataW.trod eH Tryz.prog W 0 (fun _=>true) true fuel f.type ((cs.drop f.offset).take (Tryz.prog.cellsOf f.type))=some y/\G4 Tryz.prog f.type y.1):∃x:Bs,(x.length<=140737488351232)/\LD W (fun b _=>b<W.heap.size) ((cs.drop f.offset).take 1) [DV.str x]:=fH j hf (by rw [e];kernel_rfl) (e▸Mz Tryz.underlying9 fuel) h
theorem gI(hf:fs[j]? = some f)(e:f.type=3)(h:∀f,f∈fs.toList->∃y,DataW.trod eH Tryz.prog W 0 (fun _=>true) true fuel f.type ((cs.drop f.offset).take (Tryz.prog.cellsOf f.type))=some y/\G4 Tryz.prog f.type y.1):∃x:Int,((Lit.int .i64 x).wf=true)/\LD W (fun b _=>b<W.heap.size) ((cs.drop f.offset).take 1) [DV.int .i64 x]:=fH j hf (by rw [e];kernel_rfl) (e▸afJ Tryz.underlying3 fuel) h
theorem gB(hf:fs[j]? = some f)(e:f.type=4)(h:∀f,f∈fs.toList->∃y,DataW.trod eH Tryz.prog W 0 (fun _=>true) true fuel f.type ((cs.drop f.offset).take (Tryz.prog.cellsOf f.type))=some y/\G4 Tryz.prog f.type y.1):∃x:Bool,(True)/\LD W (fun b _=>b<W.heap.size) ((cs.drop f.offset).take 1) [DV.bool x]:=fH j hf (by rw [e];kernel_rfl) (e▸adC Tryz.underlying4 fuel) h
theorem aa3(x:bC):(Bj x).length=5:=by cases x;simp [Bj]
instance:Inhabited bC:=⟨dP⟩
def Yl(v:bC):Prop:=v.fName.length<=140737488351232/\v.bK.length<=140737488351232/\True/\True/\True
theorem ahK(fuel:Nat):dL eH Tryz.prog W fuel 61 Bj Yl:=by
 obtain _|fuel:=fuel
 ·exact mZ
 refine mT fuel Tryz.underlying61 fun cs hl hf=>?_;obtain⟨x0,k0,l0⟩:=gS 0 rfl rfl hf;obtain⟨x1,k1,l1⟩:=gS 1 rfl rfl hf;obtain⟨x2,k2,l2⟩:=gB 2 rfl rfl hf;obtain⟨x3,k3,l3⟩:=gB 3 rfl rfl hf;obtain⟨x4,k4,l4⟩:=gB 4 rfl rfl hf;refine⟨.mk x0 x1 x2 x3 x4,⟨k0,k1,k2,k3,k4⟩,?_⟩;simpa [sL,Bj] using LD.cat (o:=0) l0 (LD.cat l1 (LD.cat l2 (LD.cat l3 (LD.cat l4 (LD.fin (hl.trans kr))))))
theorem anS(fuel:Nat):dL eH Tryz.prog W fuel 22 (sL 5 Bj) (kL Yl):=mS Tryz.underlying22 kr de aa3 ahK fuel
theorem ajL(fuel:Nat):dL eH Tryz.prog W fuel 23 (sL 1 (fun l:Bs=>[DV.str l])) (kL fun y:Bs=>y.length<=140737488351232):=mS (k:=1) Tryz.underlying23 kr de (fun _=>rfl) (Mz Tryz.underlying9) fuel
instance:Inhabited TPart:=⟨kO⟩
inductive Bl:TPart->Prop
 | mk (x0:Int) (x1:Bs) (x2:Int) (x3:Bool) (x4:List TPart) (h0:(Lit.int .i64 x0).wf=true) (h1:x1.length<=140737488351232) (h2:(Lit.int .i64 x2).wf=true) (h3:True) (h4:x4.length<=maxLen) (g4:∀y,y∈x4->Bl y):Bl (.mk x0 x1 x2 x3 x4)
theorem MA(x:TPart):(lu x).length=5:=by cases x;simp [lu]
theorem adD(fuel:Nat):dL eH Tryz.prog W fuel 119 lu Bl:=by
 induction fuel using Nat.strongRecOn with
 | _ fuel ih=>
  have al1:∀f,f<fuel->dL eH Tryz.prog W f 45 (sL 5 lu) (kL Bl):=mK Tryz.underlying45 kr de MA fun f h=>(ih f h);obtain _|fuel:=fuel
  ·exact mZ
  refine mT fuel Tryz.underlying119 fun cs hl hf=>?_;obtain⟨x0,k0,l0⟩:=gI 0 rfl rfl hf;obtain⟨x1,k1,l1⟩:=gS 1 rfl rfl hf;obtain⟨x2,k2,l2⟩:=gI 2 rfl rfl hf;obtain⟨x3,k3,l3⟩:=gB 3 rfl rfl hf;obtain⟨x4,k4,l4⟩:=fH 4 rfl (k:=1) kr (al1 fuel om) hf;refine⟨.mk x0 x1 x2 x3 x4,.mk _ _ _ _ _ k0 k1 k2 k3 k4.1 k4.2,?_⟩;simpa [sL,lu,Dd] using LD.cat (o:=0) l0 (LD.cat l1 (LD.cat l2 (LD.cat l3 (LD.cat l4 (LD.fin (hl.trans kr))))))
theorem adE(fuel:Nat):dL eH Tryz.prog W fuel 119 lu Bl:=(adD fuel)
theorem anT(fuel:Nat):dL eH Tryz.prog W fuel 45 (sL 5 lu) (kL Bl):=mS Tryz.underlying45 kr de MA adE fuel
theorem Fv(x:iE):(qx x).length=2:=by cases x;simp [qx]
instance:Inhabited iE:=⟨wS⟩
def E9(v:iE):Prop:=(Lit.int .i64 v.fPos).wf=true/\(v.fParts.length<=maxLen/\∀y,y∈v.fParts->Bl y)
theorem MB(fuel:Nat):dL eH Tryz.prog W fuel 47 qx E9:=by
 obtain _|fuel:=fuel
 ·exact mZ
 refine mT fuel Tryz.underlying47 fun cs hl hf=>?_;obtain⟨x0,k0,l0⟩:=gI 0 rfl rfl hf;obtain⟨x1,k1,l1⟩:=fH 1 rfl (k:=1) kr (anT fuel) hf;refine⟨.mk x0 x1,⟨k0,k1⟩,?_⟩;simpa [sL,qx] using LD.cat (o:=0) l0 (LD.cat l1 (LD.fin (hl.trans kr)))
theorem Uj(x:q9):(sK x).length=4:=by cases x;simp [sK,Fv]
instance:Inhabited q9:=⟨Ym⟩
def MC(v:q9):Prop:=(Lit.int .i64 v.fPos).wf=true/\v.fName.length<=140737488351232/\E9 v.bK
theorem Yn(fuel:Nat):dL eH Tryz.prog W fuel 211 sK MC:=by
 obtain _|fuel:=fuel
 ·exact mZ
 refine mT fuel Tryz.underlying211 fun cs hl hf=>?_;obtain⟨x0,k0,l0⟩:=gI 0 rfl rfl hf;obtain⟨x1,k1,l1⟩:=gS 1 rfl rfl hf;obtain⟨x2,k2,l2⟩:=fH 2 rfl (k:=2) kr (MB fuel) hf;refine⟨.mk x0 x1 x2,⟨k0,k1,k2⟩,?_⟩;simpa [sL,sK] using LD.cat (o:=0) l0 (LD.cat l1 (LD.cat l2 (LD.fin (hl.trans kr))))
theorem al2(fuel:Nat):dL eH Tryz.prog W fuel 151 (sL 4 sK) (kL MC):=mS Tryz.underlying151 kr de Uj Yn fuel
theorem ajM(fuel:Nat):dL eH Tryz.prog W fuel 35 (sL 2 qx) (kL E9):=mS Tryz.underlying35 kr de Fv MB fuel
theorem WO(x:uF):(uG x).length=5:=by cases x;simp [uG,Fv]
instance:Inhabited uF:=⟨acd⟩
def Qt(v:uF):Prop:=(Lit.int .i64 v.fPos).wf=true/\(Lit.int .i64 v.fFd).wf=true/\(Lit.int .i64 v.fOp).wf=true/\E9 v.Uk
theorem aa4(fuel:Nat):dL eH Tryz.prog W fuel 216 uG Qt:=by
 obtain _|fuel:=fuel
 ·exact mZ
 refine mT fuel Tryz.underlying216 fun cs hl hf=>?_;obtain⟨x0,k0,l0⟩:=gI 0 rfl rfl hf;obtain⟨x1,k1,l1⟩:=gI 1 rfl rfl hf;obtain⟨x2,k2,l2⟩:=gI 2 rfl rfl hf;obtain⟨x3,k3,l3⟩:=fH 3 rfl (k:=2) kr (MB fuel) hf;refine⟨.mk x0 x1 x2 x3,⟨k0,k1,k2,k3⟩,?_⟩;simpa [sL,uG] using LD.cat (o:=0) l0 (LD.cat l1 (LD.cat l2 (LD.cat l3 (LD.fin (hl.trans kr)))))
theorem al3(fuel:Nat):dL eH Tryz.prog W fuel 152 (sL 5 uG) (kL Qt):=mS Tryz.underlying152 kr de WO aa4 fuel
instance:Inhabited TNode:=⟨Yo⟩
instance:Inhabited TItem:=⟨afK⟩
mutual
inductive Bn:TNode->Prop
 | mk (x0:Int) (x1:Int) (x2:Bs) (x3:Bool) (x4:List q9) (x5:List iE) (x6:List uF) (x7:List TNode) (x8:List TItem) (h0:(Lit.int .i64 x0).wf=true) (h1:(Lit.int .i64 x1).wf=true) (h2:x2.length<=140737488351232) (h3:True) (h4:(x4.length<=maxLen/\∀y,y∈x4->MC y)) (h5:(x5.length<=maxLen/\∀y,y∈x5->E9 y)) (h6:(x6.length<=maxLen/\∀y,y∈x6->Qt y)) (h7:x7.length<=maxLen) (g7:∀y,y∈x7->Bn y) (h8:x8.length<=maxLen) (g8:∀y,y∈x8->OG y):Bn (.mk x0 x1 x2 x3 x4 x5 x6 x7 x8)
inductive OG:TItem->Prop
 | mk (x0:List iE) (x1:List TNode) (h0:(x0.length<=maxLen/\∀y,y∈x0->E9 y)) (h1:x1.length<=maxLen) (g1:∀y,y∈x1->Bn y):OG (.mk x0 x1)
end
theorem MD(x:TNode):(nE x).length=9:=by cases x;simp [nE]
theorem Yp(x:TItem):(qy x).length=2:=by cases x;simp [qy]
theorem adF(fuel:Nat):dL eH Tryz.prog W fuel 156 nE Bn/\dL eH Tryz.prog W fuel 220 qy OG:=by
 induction fuel using Nat.strongRecOn with
 | _ fuel ih=>
  have ace:∀f,f<fuel->dL eH Tryz.prog W f 153 (sL 9 nE) (kL Bn):=mK Tryz.underlying153 kr de MD fun f h=>(ih f h).1;have aku:∀f,f<fuel->dL eH Tryz.prog W f 154 (sL 2 qy) (kL OG):=mK Tryz.underlying154 kr de Yp fun f h=>(ih f h).2;refine⟨?_,?_⟩
  ·obtain _|fuel:=fuel
   ·exact mZ
   refine mT fuel Tryz.underlying156 fun cs hl hf=>?_;obtain⟨x0,k0,l0⟩:=gI 0 rfl rfl hf;obtain⟨x1,k1,l1⟩:=gI 1 rfl rfl hf;obtain⟨x2,k2,l2⟩:=gS 2 rfl rfl hf;obtain⟨x3,k3,l3⟩:=gB 3 rfl rfl hf;obtain⟨x4,k4,l4⟩:=fH 4 rfl (k:=1) kr (al2 fuel) hf;obtain⟨x5,k5,l5⟩:=fH 5 rfl (k:=1) kr (ajM fuel) hf;obtain⟨x6,k6,l6⟩:=fH 6 rfl (k:=1) kr (al3 fuel) hf;obtain⟨x7,k7,l7⟩:=fH 7 rfl (k:=1) kr (ace fuel om) hf;obtain⟨x8,k8,l8⟩:=fH 8 rfl (k:=1) kr (aku fuel om) hf;refine⟨.mk x0 x1 x2 x3 x4 x5 x6 x7 x8,.mk _ _ _ _ _ _ _ _ _ k0 k1 k2 k3 k4 k5 k6 k7.1 k7.2 k8.1 k8.2,?_⟩;simpa [sL,nE,tc,td] using LD.cat (o:=0) l0 (LD.cat l1 (LD.cat l2 (LD.cat l3 (LD.cat l4 (LD.cat l5 (LD.cat l6 (LD.cat l7 (LD.cat l8 (LD.fin (hl.trans kr))))))))))
  ·obtain _|fuel:=fuel
   ·exact mZ
   refine mT fuel Tryz.underlying220 fun cs hl hf=>?_;obtain⟨x0,k0,l0⟩:=fH 0 rfl (k:=1) kr (ajM fuel) hf;obtain⟨x1,k1,l1⟩:=fH 1 rfl (k:=1) kr (ace fuel om) hf;refine⟨.mk x0 x1,.mk _ _ k0 k1.1 k1.2,?_⟩;simpa [sL,qy,tc,td] using LD.cat (o:=0) l0 (LD.cat l1 (LD.fin (hl.trans kr)))
theorem adG(fuel:Nat):dL eH Tryz.prog W fuel 156 nE Bn:=(adF fuel).1
theorem Yq(x:xI):(yl x).length=10:=by cases x;simp [yl,MD]
instance:Inhabited xI:=⟨afL⟩
def Ul(v:xI):Prop:=v.fName.length<=140737488351232/\Bn v.fBody
theorem adH(fuel:Nat):dL eH Tryz.prog W fuel 158 yl Ul:=by
 obtain _|fuel:=fuel
 ·exact mZ
 refine mT fuel Tryz.underlying158 fun cs hl hf=>?_;obtain⟨x0,k0,l0⟩:=gS 0 rfl rfl hf;obtain⟨x1,k1,l1⟩:=fH 1 rfl (k:=9) kr (adG fuel) hf;refine⟨.mk x0 x1,⟨k0,k1⟩,?_⟩;simpa [sL,yl] using LD.cat (o:=0) l0 (LD.cat l1 (LD.fin (hl.trans kr)))
theorem anU(fuel:Nat):dL eH Tryz.prog W fuel 24 (sL 10 yl) (kL Ul):=mS Tryz.underlying24 kr de Yq adH fuel
theorem WR(x:b8):(uH x).length=2:=by cases x;simp [uH]
instance:Inhabited b8:=⟨p4⟩
def Qu(v:b8):Prop:=v.fName.length<=140737488351232/\v.bK.length<=140737488351232
theorem aa5(fuel:Nat):dL eH Tryz.prog W fuel 146 uH Qu:=by
 obtain _|fuel:=fuel
 ·exact mZ
 refine mT fuel Tryz.underlying146 fun cs hl hf=>?_;obtain⟨x0,k0,l0⟩:=gS 0 rfl rfl hf;obtain⟨x1,k1,l1⟩:=gS 1 rfl rfl hf;refine⟨.mk x0 x1,⟨k0,k1⟩,?_⟩;simpa [sL,uH] using LD.cat (o:=0) l0 (LD.cat l1 (LD.fin (hl.trans kr)))
theorem anV(fuel:Nat):dL eH Tryz.prog W fuel 25 (sL 2 uH) (kL Qu):=mS Tryz.underlying25 kr de WR aa5 fuel
theorem Yr(x:zl):(ym x).length=2:=by cases x;simp [ym]
instance:Inhabited zl:=⟨afM⟩
def Um(v:zl):Prop:=(Lit.int .i64 v.ahL).wf=true/\v.Un.length<=140737488351232
theorem adI(fuel:Nat):dL eH Tryz.prog W fuel 149 ym Um:=by
 obtain _|fuel:=fuel
 ·exact mZ
 refine mT fuel Tryz.underlying149 fun cs hl hf=>?_;obtain⟨x0,k0,l0⟩:=gI 0 rfl rfl hf;obtain⟨x1,k1,l1⟩:=gS 1 rfl rfl hf;refine⟨.mk x0 x1,⟨k0,k1⟩,?_⟩;simpa [sL,ym] using LD.cat (o:=0) l0 (LD.cat l1 (LD.fin (hl.trans kr)))
theorem anW(fuel:Nat):dL eH Tryz.prog W fuel 26 (sL 2 ym) (kL Um):=mS Tryz.underlying26 kr de Yr adI fuel
instance:Inhabited lN:=⟨J7⟩
def PE(v:lN):Prop:=(Lit.int .i64 v.I8).wf=true/\(Lit.int .i64 v.Fa).wf=true
theorem WS(fuel:Nat):dL eH Tryz.prog W fuel 28 zm PE:=by
 obtain _|fuel:=fuel
 ·exact mZ
 refine mT fuel Tryz.underlying28 fun cs hl hf=>?_;obtain⟨x0,k0,l0⟩:=gI 0 rfl rfl hf;obtain⟨x1,k1,l1⟩:=gI 1 rfl rfl hf;refine⟨.mk x0 x1,⟨k0,k1⟩,?_⟩;simpa [sL,zm] using LD.cat (o:=0) l0 (LD.cat l1 (LD.fin (hl.trans kr)))
instance:Inhabited dX:=⟨I9⟩
def acf(v:dX):Prop:=v.fName.length<=140737488351232/\(v.bR.length<=maxLen/\∀y,y∈v.bR->Yl y)/\(v.cD.length<=maxLen/\∀y,y∈v.cD->y.length<=140737488351232)/\(v.tf.length<=maxLen/\∀y,y∈v.tf->Ul y)/\(v.nF.length<=maxLen/\∀y,y∈v.nF->Qu y)/\(v.tg.length<=maxLen/\∀y,y∈v.tg->Um y)/\(Lit.int .i64 v.iu).wf=true/\(Lit.int .i64 v.fC).wf=true/\(Lit.int .i64 v.Bo).wf=true/\(Lit.int .i64 v.oa).wf=true/\v.J8.length<=140737488351232/\PE v.vA/\(Lit.int .i64 v.Ja).wf=true/\True
theorem afN(fuel:Nat):dL eH Tryz.prog W fuel 30 yo acf:=by
 obtain _|fuel:=fuel
 ·exact mZ
 refine mT fuel Tryz.underlying30 fun cs hl hf=>?_;obtain⟨x0,k0,l0⟩:=gS 0 rfl rfl hf;obtain⟨x1,k1,l1⟩:=fH 1 rfl (k:=1) kr (anS fuel) hf;obtain⟨x2,k2,l2⟩:=fH 2 rfl (k:=1) kr (ajL fuel) hf;obtain⟨x3,k3,l3⟩:=fH 3 rfl (k:=1) kr (anU fuel) hf;obtain⟨x4,k4,l4⟩:=fH 4 rfl (k:=1) kr (anV fuel) hf;obtain⟨x5,k5,l5⟩:=fH 5 rfl (k:=1) kr (anW fuel) hf;obtain⟨x6,k6,l6⟩:=gI 6 rfl rfl hf;obtain⟨x7,k7,l7⟩:=gI 7 rfl rfl hf;obtain⟨x8,k8,l8⟩:=gI 8 rfl rfl hf;obtain⟨x9,k9,l9⟩:=gI 9 rfl rfl hf;obtain⟨bX,k10,l10⟩:=gS 10 rfl rfl hf;obtain⟨fB,k11,l11⟩:=fH 11 rfl (k:=2) kr (WS fuel) hf;obtain⟨fu,k12,l12⟩:=gI 12 rfl rfl hf;obtain⟨fy,k13,l13⟩:=gB 13 rfl rfl hf;refine⟨.mk x0 x1 x2 x3 x4 x5 x6 x7 x8 x9 bX fB fu fy,⟨k0,k1,k2,k3,k4,k5,k6,k7,k8,k9,k10,k11,k12,k13⟩,?_⟩;simpa [sL,yo] using LD.cat (o:=0) l0 (LD.cat l1 (LD.cat l2 (LD.cat l3 (LD.cat l4 (LD.cat l5 (LD.cat l6 (LD.cat l7 (LD.cat l8 (LD.cat l9 (LD.cat l10 (LD.cat l11 (LD.cat l12 (LD.cat l13 (LD.fin (hl.trans kr)))))))))))))))
theorem Ys(x:bu):(uI x).length=3:=by cases x;simp [uI]
instance:Inhabited bu:=⟨bP⟩
def Uo(v:bu):Prop:=v.bW.length<=140737488351232/\True/\v.fData.length<=140737488351232
theorem afO(fuel:Nat):dL eH Tryz.prog W fuel 63 uI Uo:=by
 obtain _|fuel:=fuel
 ·exact mZ
 refine mT fuel Tryz.underlying63 fun cs hl hf=>?_;obtain⟨x0,k0,l0⟩:=gS 0 rfl rfl hf;obtain⟨x1,k1,l1⟩:=gB 1 rfl rfl hf;obtain⟨x2,k2,l2⟩:=gS 2 rfl rfl hf;refine⟨.mk x0 x1 x2,⟨k0,k1,k2⟩,?_⟩;simpa [sL,uI] using LD.cat (o:=0) l0 (LD.cat l1 (LD.cat l2 (LD.fin (hl.trans kr))))
theorem anX(fuel:Nat):dL eH Tryz.prog W fuel 31 (sL 3 uI) (kL Uo):=mS Tryz.underlying31 kr de Ys afO fuel
theorem Up(x:ga):(oc x).length=2:=by cases x;simp [oc]
instance:Inhabited ga:=⟨Bp⟩
def ME(v:ga):Prop:=v.fText.length<=140737488351232/\(Lit.int .i64 v.fC).wf=true
theorem aa6(fuel:Nat):dL eH Tryz.prog W fuel 56 oc ME:=by
 obtain _|fuel:=fuel
 ·exact mZ
 refine mT fuel Tryz.underlying56 fun cs hl hf=>?_;obtain⟨x0,k0,l0⟩:=gS 0 rfl rfl hf;obtain⟨x1,k1,l1⟩:=gI 1 rfl rfl hf;refine⟨.mk x0 x1,⟨k0,k1⟩,?_⟩;simpa [sL,oc] using LD.cat (o:=0) l0 (LD.cat l1 (LD.fin (hl.trans kr)))
theorem anY(fuel:Nat):dL eH Tryz.prog W fuel 32 (sL 2 oc) (kL ME):=mS Tryz.underlying32 kr de Up aa6 fuel
instance:Inhabited uy:=⟨ajN⟩
def IX(v:uy):Prop:=acf v.nG/\(v.oW.length<=maxLen/\∀y,y∈v.oW->Uo y)/\(v.Jb.length<=maxLen/\∀y,y∈v.Jb->y.length<=140737488351232)/\(v.jE.length<=maxLen/\∀y,y∈v.jE->ME y)
theorem ahw(fuel:Nat):dL eH Tryz.prog W fuel 34 Uq IX:=by
 obtain _|fuel:=fuel
 ·exact mZ
 refine mT fuel Tryz.underlying34 fun cs hl hf=>?_;obtain⟨x0,k0,l0⟩:=fH 0 rfl (k:=15) kr (afN fuel) hf;obtain⟨x1,k1,l1⟩:=fH 1 rfl (k:=1) kr (anX fuel) hf;obtain⟨x2,k2,l2⟩:=fH 2 rfl (k:=1) kr (ajL fuel) hf;obtain⟨x3,k3,l3⟩:=fH 3 rfl (k:=1) kr (anY fuel) hf;refine⟨.mk x0 x1 x2 x3,⟨k0,k1,k2,k3⟩,?_⟩;simpa [sL,Uq] using LD.cat (o:=0) l0 (LD.cat l1 (LD.cat l2 (LD.cat l3 (LD.fin (hl.trans kr)))))
end Go.Proofs.YtjgkapeknmdedaaGreatDoor
