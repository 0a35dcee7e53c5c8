import Derived.Test.YthkbglhnagkpcaaGreatDoorTy
import Derived.Test.YthkbglhnagkpcaaGreatDoorSo
open Array renaming replicate->lA
open Nat renaming ble->iO,beq->dO,blt->bY
open Option renaming some->iN,none->iF
open Bool renaming true->eQ,false->eK
open Decidable renaming decide->eJ
open Int renaming toNat->eI
open Go.IntKind renaming wrap->dE
open Go renaming undef->H5,FuncId->H4
open List renaming length->Sx
set_option linter.all false
set_option maxRecDepth 100000
namespace Go.Proofs.YthkbglhnagkpcaaGreatDoor
open Go.Proofs.Tryz
open Go.RT
noncomputable section
variable (F : Nat)
def sR:=ZQ
def Tt:bL E:=ibC E 365 F
theorem PX:(Tt F).Ok pg:=att (λargs w=>by rw[run_callFunc_extern func365 kr kr kr (e:=Extern.BytealgIndexByte.indexByte) kr]) F
def afd(F:Nat):bL E:=⟨⟨229,[.one (.dat .str)],[],[],⟨.one (.any),[],[],[]⟩,iF,[]⟩,λ_=>iF⟩
def PY:(afd F).Ok pg:=λx y h=>nomatch (show iF=iN y from h)
def stringslite_IndexByte(a0:Bs)(a1:Int):O Int:=wx (wm (sR F a0 a1))
def Jz:bL E:=⟨sh 312 [oS,.one (.dat (.int .u8))] oI,u2 (stringslite_IndexByte F)⟩
def xC:(Jz F).Ok pg:=dx F lf (cm (PX F) iG) func312
def strings_IndexByte(a0:Bs)(a1:Int):O Int:=wx (wm (stringslite_IndexByte F a0 a1))
def Pk:bL E:=⟨sh 341 [oS,.one (.dat (.int .u8))] oI,u2 (strings_IndexByte F)⟩
def BM:(Pk F).Ok pg:=dx F lf (cm (xC F) iG) func341
def tX(F:Nat)(a0:Int):O Bool:=wx (wv (wa (0<=a0)<|ws (eJ (a0<55296))) λx1=>wo x1<|wv (wa (57343<a0)<|ws (eJ (a0<=1114111))) λx2=>wo x2<|ws eK)
def UD:bL E:=⟨sh 364 [.one (.dat (.int .i32))] oB,tX F⟩
def Tu:(UD F).Ok pg:=dx F (qa (qs (qs (.region [rb 6 9]) (.cond lf (qs (.region [rb 6 16]) lf))) lf)) iG func364
def kf(a0:Bs)(a1:Int):O Int:=wx (wt a0.length λe=>wt (Sx (nM a1):Int) λd=>wt (aE (d-1)) λc=>wt (((nM a1).getD c.toNat 0).toNat:Int) λf=>wv (wa (0<=a1)<|ws (eJ (a1<128))) λx1=>wc x1 (wm (strings_IndexByte F a0 (dE .u8 a1)))<|wc (a1==65533) (iq Bs Int (λkP a b=>wt b.toNat λg=>wc (bY g a.length) (wc (((dec a g).1:Int)==65533) (ws ((g:Nat):Int))<|ww<|kP (a,((g+(dec a g).2:Nat):Int)))<|ws (-1)) F (a0,((0:Nat):Int)))<|wb (tX F a1) λx5=>wc (!x5) (ws (-1))<|wl Int (λwS x6=>wt (aE (x6+1)) λh=>wc (x6<e) (ww<|jj (σ:=Int) (rq (0<=x6&&x6<e) (rq (0<=c&&c<d) (cond (((a0.getD x6.toNat 0).toNat:Int)!=f) (rq (0<=h&&(h<=e&&(e:Int)<=(e:Int))) (rq (0<=c&&c<d) ((strings_IndexByte F (sl a0 h (e:Int)) f).bind λx9=>cond (x9<0) (iN (.inr (-1))) (iN (.inl (aE (x6+aE (x9+1)))))))) (iN (.inl x6))))) λx8=>ck (σ:=Int) (λUE cw=>cond (cw<d) (rq (0<=aE (x8-cw)&&aE (x8-cw)<e) (rq (0<=aE (c-cw)&&aE (c-cw)<d) (cond (((a0.getD (aE (x8-cw)).toNat 0).toNat:Int)!=(((nM a1).getD (aE (c-cw)).toNat 0).toNat:Int)) iF (UE (aE (cw+1)))))) (iN (aE (x8-c)))) F 1)<|ws (-1)) F c)
def Pm:bL E:=⟨sh 310 [oS,.one (.dat (.int .i32))] oI,u2 (kf F)⟩
def M5:(Pm F).Ok pg:=dx F (qa (qs (.region [rb 6 166]) (.cond lf (qa (.cond (qs (qa (.loop [] ⟨[],[iN (.iter)],[],[]⟩ lf)) lf) (qa (.cond lf (qa (qa (qa (qa (qs (.loop [] (ct [(9,oI)]) (qa (.seq [] (iN ((ct [(9,oI)]),eQ)) (qs (.draw [⟨eQ,7,iF⟩]) (.cond (qs (.draw [⟨eQ,7,iF⟩,⟨eK,2,iF⟩]) lf) lf)) (qs (qa (.loop [] (ct [(12,oI)]) (qa (qs (qs (.draw [⟨eQ,11,iF⟩]) lf) lf)))) lf)))) lf)))))))))))) (cm (BM F) (cm (Tu F) iG)) func310
def strings_shouldUseASCIISet(F:Nat)(a0:Int):O Bool:=iN (eJ (8<a0))
def E3:bL E:=⟨sh 311 [oI] oB,strings_shouldUseASCIISet F⟩
def DC:(E3 F).Ok pg:=dx F lf iG func311
def strings_IndexAny(a0 a1:Bs):O Int:=wx (wt (Sx a1:Int) λe=>wt (dE .i32 ((a1.getD 0 0).toNat:Int)) λc=>wc (a1==[]) (ws (-1))<|wc (e==1) (wq (0<e)<|wv (wc (128<=c) (ws 65533)<|ws c) λx1=>wm (kf F a0 x1))<|wb (strings_shouldUseASCIISet F (Sx a0:Int)) λx3=>wc x3 wn<|iq Bs Int (λzL a b=>wt b.toNat λd=>wc (bY d a.length) (wb (kf F a1 ((dec a d).1:Int)) λx6=>wc (0<=x6) (ws ((d:Nat):Int))<|ww<|zL (a,((d+(dec a d).2:Nat):Int)))<|ws (-1)) F (a0,((0:Nat):Int)))
def PZ:bL E:=⟨sh 250 [oS,oS] oI,u2 (strings_IndexAny F)⟩
def Pn:(PZ F).Ok pg:=dx F (qa (qa (qs (qa (.cond (qa (.seq [] (iN ((ct [(5,.one (.dat (.int .i32)))]),eK)) lf lf)) lf)) (qa (qs (qa (.loop [] ⟨[],[iN (.iter)],[],[]⟩ lf)) lf))))) (cm (M5 F) (cm (DC F) (cm (PY F) iG))) func250
end
open Go.RT Go.RowKit Go.Maps Go.Sort Go.Shelf
open Go.Proofs (encStr)
theorem aro:Builder.Extra prog Tryz.ZR:={
 sizeBuilder:=by kernel_rfl
 liesBuilder:=by kernel_rfl
 t5:=underlying5
 a5:=Tryz.isAgg5
 z5:=Tryz.sizeOf5
 v5:=Tryz.zeroValue5
 infoByte:=by kernel_rfl
 cellsByte:=by kernel_rfl
 sizeByte:=by kernel_rfl
 neB5:=by decide}
theorem aj5:acg prog 72:=⟨ri func72 kr kr,λbk o c xs sep w h1 h2 h3 h4 h5=>Any.strings_Join Tryz.aoT aro bk o c xs sep w h1 h2 h3 h4 h5,λa c sep w=>Any.strings_Join_none Tryz.aoT aro a c sep w⟩
theorem atu:aoU prog 257:=⟨ri func257 kr kr,λs c w h=>Any.strings_LastIndexByte Tryz.au5 s c h w⟩
theorem arp:aj6 prog 75:=⟨ri func75 kr kr,λblk cap ss w h1 h2 h3=>AnyM.slices_Sort_string Tryz.abS blk 0 cap ss w h1 h2 h3,λp cap w=>AnyM.slices_Sort_string_none Tryz.abS p cap w⟩
theorem ZS{w:U}{G:bC}(hP:rj E w G):∃m,w.cell? ⟨0,0,iF⟩=iN (.int .i64 m):=by obtain⟨cs,t,m,h1,n,h2⟩:=(hP 0 _ rfl).1;exact⟨n,by simp[World.cell?,h1,h2]⟩
theorem splitAt:agn E prog 120 9:=
 ⟨ri func120 kr kr,λs sep w G hP h1 h2=>by
  obtain⟨m,hm⟩:=ZS hP;exact Any.strings_Split Tryz.arq kr s sep m w h1 hm h2,
  λs sep h=>Lib.splitB_all sep h 0 _ s rfl,λs sep h=>Lib.countB_le sep h s.size s (eE _)⟩
theorem cutAt:aoV E prog 123:=
 ⟨ri func123 kr kr,λs sep w G hP h=>by
  obtain⟨m,hm⟩:=ZS hP;exact Any.strings_Cut Tryz.au6 s sep m w h hm⟩
def ach(F:Nat)(s cs:Bs):O Int:=cond (iO s.length 8) (strings_IndexAny F s cs)
 (rq (eJ (Sx s<4294967281)&&(eJ (2<=Sx cs)&&(eJ (Sx cs<4294967281)&&cs.all λb=>eJ (b.toNat<128)))) (iN (Lib.indexAny s cs)))
def ars(E:TEnv)(f:H4)(F:Nat):bL E:=⟨⟨f,[.one (.dat .str),.one (.dat .str)],[],[],⟨.one (.dat (.int .i64)),[],[],[]⟩,iF,[]⟩,λ(x:Bs×Bs)=>ach F x.1 x.2⟩
theorem art(F:Nat):(ars E 250 F).Ok prog:=by
 have key:∀(s cs:Bs)(y:Int),ach F s cs=iN y->mI (E:=E) prog 250 [.dat .str s,.dat .str cs] [] [] [] ⟨eQ,.dat (.int .i64) y,[],[],[],[]⟩:=by
  intro s cs y hy;unfold ach at hy;cases hb:iO s.length 8<;>rw[hb]at hy<;>simp only[aQ,aI]at hy
  .obtain⟨h1,h2⟩:=dX hy;rw[cH,cH,cH,fO,fO,fO,pW]at h1;obtain⟨c1,c2,c3,c4⟩:=h1;cases h2;have h8:8<Sx s:=by
    rcases Nat.lt_or_ge 8 s.length with h|h
    .exact h
    .rw[abr h]at hb;cases hb
   refine Et (ri func250 kr kr) λw G args hP hv=>⟨_,λw G=>.int w G .i64 (Lib.indexAny s cs),?_⟩;obtain⟨u,us,ha,wU,sS⟩:=hv.cons_inv;obtain⟨u2,VN,tY,Ge,LL⟩:=sS.cons_inv;have LL:VN=[]:=by simpa only[bO]using LL
   have e1:=wU.iQ;have e2:=Ge.iQ;subst e1 e2 LL tY;have ha:args=#[mkStr s,mkStr cs]:=by apply VG;exact ha
   subst ha;have hz:=zero_of_info (P:=prog) (t:=Tryz.ago.t 116) (v:=.agg (lA 256 (.bool eK))) (n:=256) kr;refine(Any.strings_IndexAny_long Tryz.iaL hz.1 hz.2 ⟨⟨s⟩⟩ ⟨⟨cs⟩⟩ w c2 h8 c1 c3 λj b hb=>by simpa using c4 b (jQ hb)).mono λe w' hh=>?_;obtain⟨q1,q2⟩:=hh;refine⟨q1,?_⟩;rw[q2];exact((Below.refl _ _).alloc (eE _) _).alloc si _
  .exact Pn F (s,cs) y hy
 intro x y hy;exact key x.1 x.2 y hy
theorem au7:VO prog 305:=⟨ri func305 kr kr,λblk cap zs w h1 h2=>AnyE.slices_Reverse Tryz.au8 (Value.int .u8) (λ_=>rfl) blk 0 cap zs w h1 h2⟩
noncomputable abbrev cX:Cx E:=⟨prog,Ie,[],[],iF⟩
abbrev vI(n:Int):TV E:=.dat (.int .i64) n
abbrev vB(b:Bool):TV E:=.dat .bool b
abbrev vL(l:J aA):TV E:=.dat (.bx (.ext 17)) l
abbrev vH(xs:J (J aA))(cap:Nat):TV E:=.iU 0 (Sx xs+1) cap
abbrev nR(cap aF:Nat)(xs:J (J aA))(last:J aA):gu E:=.mH 80 cap (.bx (.ext 17)) xs (.cz 0 aF (.ext 17) last)
abbrev gR(aF:Nat):cU:=⟨aF,123,2⟩
noncomputable abbrev cR(c:Code)(p:fu)(s:TS E)(js:J Nat):=Go.RT.runT cX 0 c p s (proj js)
def cP:Code->J Bool->Code|.seq a _,eK::p=>cP a p|.seq _ b,eQ::p=>cP b p|.cond _ a _,eK::p=>cP a p|.cond _ _ b,eQ::p=>cP b p|.block _ a,eK::p=>cP a p|.loop a,eK::p=>cP a p|c,_=>c
def bts:Nat->Nat->J Bool|0,_=>[]|k+1,n=>dO (n / 2^k%2) 1::bts k n
noncomputable abbrev cB(k n:Nat):Code:=cP (Tryz.f57.body.getD .skip) (bts k n)
theorem atv(l:J aA):cR (cB 1 0) (.leaf) (SS (E:=E) 85 [(0,vL l)] [] []) [0]=iN ([iN (vL l)],[],[],[],[]):=by kernel_rfl
theorem atw(l:J aA)(cap aF:Nat)(xs:J (J aA))(last:J aA):cR (cB 4 12) (.leaf) (SS (E:=E) 85 [(0,vL l),(3,vH xs cap)] [nR cap aF xs last] [gR aF]) [0,3,4]=iN ([iN (vL l),iN (vH xs cap),iN (vI 0)],[nR cap aF xs last],[gR aF],[],[]):=by kernel_rfl
theorem atx(l:J aA)(i cap aF:Nat)(xs:J (J aA))(last:J aA):cR (cB 8 208) (.leaf) (SS (E:=E) 85 [(0,vL l),(3,vH xs cap),(4,vI ((i:Nat):Int))] [nR cap aF xs last] [gR aF]) [0,3,4,10]=iN ([iN (vL l),iN (vH xs cap),iN (vI ((i:Nat):Int)),iN (vB (eJ (((i:Nat):Int)<(Sx l:Int))))],[nR cap aF xs last],[gR aF],[],[]):=by kernel_rfl
theorem aty(l:J aA)(i cap aF:Nat)(xs:J (J aA))(last:J aA):cR (cB 11 1680) (.leaf) (SS (E:=E) 85 [(0,vL l),(3,vH xs cap),(4,vI ((i:Nat):Int))] [nR cap aF xs last] [gR aF]) [0,3,4,34]=rq ((eJ (0<=((i:Nat):Int)))&&(eJ (((i:Nat):Int)<(Sx l:Int)))) (cond (((l.getD (eI ((i:Nat):Int)) dw).aH) != 0)
 (rq ((eJ (0<=((i:Nat):Int)))&&(eJ (((i:Nat):Int)<(Sx l:Int)))) (cond (((l.getD (eI ((i:Nat):Int)) dw).aH) != 1)
 (rq ((eJ (0<=((i:Nat):Int)))&&(eJ (((i:Nat):Int)<(Sx l:Int)))) (iN ([iN (vL l),iN (vH xs cap),iN (vI ((i:Nat):Int)),iN (vB (((l.getD (eI ((i:Nat):Int)) dw).aH) != 2))],[nR cap aF xs last],[gR aF],[],[])))
 (iN ([iN (vL l),iN (vH xs cap),iN (vI ((i:Nat):Int)),iN (vB eK)],[nR cap aF xs last],[gR aF],[],[]))))
 (iN ([iN (vL l),iN (vH xs cap),iN (vI ((i:Nat):Int)),iN (vB eK)],[nR cap aF xs last],[gR aF],[],[]))):=by kernel_rfl
theorem atz(l:J aA)(i cap aF:Nat)(xs:J (J aA))(last:J aA):cR (cB 11 1682) (.leaf) (SS (E:=E) 85 [(0,vL l),(3,vH xs cap),(4,vI ((i:Nat):Int))] [nR cap aF xs last] [gR aF]) [0,3,4,5]=iN ([iN (vL l),iN (vH xs cap),iN (vI ((i:Nat):Int)),iN (vI 0)],[nR cap aF xs last],[gR aF],[],[]):=by kernel_rfl
theorem atA(l:J aA)(i k cap aF:Nat)(xs:J (J aA))(last:J aA):cR (cB 15 26928) (.leaf) (SS (E:=E) 85 [(0,vL l),(3,vH xs cap),(4,vI ((i:Nat):Int)),(5,vI ((k:Nat):Int))] [nR cap aF xs last] [gR aF]) [0,3,4,5,42]=rq ((eJ (0<=((i:Nat):Int)))&&(eJ (((i:Nat):Int)<(Sx l:Int)))) (iN ([iN (vL l),iN (vH xs cap),iN (vI ((i:Nat):Int)),iN (vI ((k:Nat):Int)),iN (vB (eJ (((k:Nat):Int)<(Sx ((l.getD (eI ((i:Nat):Int)) dw).fText):Int))))],[nR cap aF xs last],[gR aF],[],[])):=by kernel_rfl
theorem atB(l:J aA)(i k cap aF:Nat)(xs:J (J aA))(last:J aA):cR (cB 17 107720) (.leaf) (SS (E:=E) 85 [(0,vL l),(3,vH xs cap),(4,vI ((i:Nat):Int)),(5,vI ((k:Nat):Int))] [nR cap aF xs last] [gR aF]) [0,3,4,5,52]=rq ((eJ (0<=((i:Nat):Int)))&&(eJ (((i:Nat):Int)<(Sx l:Int)))) (rq ((eJ (0<=((k:Nat):Int)))&&(eJ (((k:Nat):Int)<(Sx ((l.getD (eI ((i:Nat):Int)) dw).fText):Int)))) (iN ([iN (vL l),iN (vH xs cap),iN (vI ((i:Nat):Int)),iN (vI ((k:Nat):Int)),iN (vB (((((l.getD (eI ((i:Nat):Int)) dw).fText).getD (eI ((k:Nat):Int)) 0).toNat:Int)==47))],[nR cap aF xs last],[gR aF],[],[]))):=by kernel_rfl
theorem aru(l:J aA)(i k cap aF:Nat)(xs:J (J aA))(last:J aA):cR (cB 18 215443) (.eY [0] [28] [⟨[(0,eQ),(1,eQ),(2,eQ),(3,eQ),(4,eQ),(5,eQ),(6,eQ),(7,eQ),(8,eQ),(9,eQ),(10,eQ),(11,eQ),(12,eQ),(13,eQ),(14,eQ),(15,eQ),(16,eQ),(17,eQ),(18,eQ),(19,eQ),(20,eQ),(21,eQ),(22,eQ),(23,eQ),(24,eQ),(25,eK),(26,eK),(27,eK),(28,eK)],iF⟩]) (SS (E:=E) 85 [(0,vL l),(3,vH xs cap),(4,vI ((i:Nat):Int)),(5,vI ((k:Nat):Int))] [nR cap aF xs last] [gR aF]) [0,3,4,5]=rq ((eJ (0<=aE (((Sx xs+1:Nat):Int)-1)))&&(eJ (aE (((Sx xs+1:Nat):Int)-1)<((Sx xs+1:Nat):Int)))) (rq (dO (eI (aE (((Sx xs+1:Nat):Int)-1))) xs.length) (rq ((eJ (0<=((i:Nat):Int)))&&(eJ (((i:Nat):Int)<(Sx l:Int)))) (rq ((eJ (0<=((k:Nat):Int)))&&((eJ (((k:Nat):Int)<=aE (((k:Nat):Int)+1)))&&(eJ (aE (((k:Nat):Int)+1)<=(Sx ((l.getD (eI ((i:Nat):Int)) dw).fText):Int))))) (rq ((eJ (0<=((i:Nat):Int)))&&(eJ (((i:Nat):Int)<(Sx l:Int)))) (rq ((dO aF aF)&&((eJ (Sx last+Sx ([(aA.mk (sl ((l.getD (eI ((i:Nat):Int)) dw).fText) ((k:Nat):Int) (aE (((k:Nat):Int)+1))) ((l.getD (eI ((i:Nat):Int)) dw).aH))]:J aA)<=9223372036854775807))&&(eJ ((Sx last+Sx ([(aA.mk (sl ((l.getD (eI ((i:Nat):Int)) dw).fText) ((k:Nat):Int) (aE (((k:Nat):Int)+1))) ((l.getD (eI ((i:Nat):Int)) dw).aH))]:J aA))*24<=140737488355328)))) (rq ((eJ (0<=aE (((Sx xs+1:Nat):Int)-1)))&&(eJ (aE (((Sx xs+1:Nat):Int)-1)<((Sx xs+1:Nat):Int)))) (rq (dO (eI (aE (((Sx xs+1:Nat):Int)-1))) xs.length) (iN ([iN (vL l),iN (vH xs cap),iN (vI ((i:Nat):Int)),iN (vI ((k:Nat):Int))],[.mH 80 cap (.bx (.ext 17)) xs (.cz 0 (aF+1) (.ext 17) (last++([(aA.mk (sl ((l.getD (eI ((i:Nat):Int)) dw).fText) ((k:Nat):Int) (aE (((k:Nat):Int)+1))) ((l.getD (eI ((i:Nat):Int)) dw).aH))]:J aA)))],[⟨aF+1,123,2⟩,⟨0,123,2⟩],[],[]))))))))):=by kernel_rfl
theorem atC(l:J aA)(i k cap aF:Nat)(xs:J (J aA))(last:J aA):cR (cB 15 26931) (.leaf) (SS (E:=E) 85 [(0,vL l),(3,vH xs cap),(4,vI ((i:Nat):Int)),(5,vI ((k:Nat):Int))] [nR cap aF xs last] [gR aF]) [0,3,4,5]=iN ([iN (vL l),iN (vH xs cap),iN (vI ((i:Nat):Int)),iN (vI (aE (((k:Nat):Int)+1)))],[nR cap aF xs last],[gR aF],[],[]):=by kernel_rfl
theorem atD(l:J aA)(i cap aF:Nat)(xs:J (J aA))(last:J aA):cR (cB 8 211) (.leaf) (SS (E:=E) 85 [(0,vL l),(3,vH xs cap),(4,vI ((i:Nat):Int))] [nR cap aF xs last] [gR aF]) [0,3,4]=iN ([iN (vL l),iN (vH xs cap),iN (vI (aE (((i:Nat):Int)+1)))],[nR cap aF xs last],[gR aF],[],[]):=by kernel_rfl
theorem arv(l:J aA)(i cap aF:Nat)(xs:J (J aA))(last:J aA):cR (cB 4 14) (.leaf) (SS (E:=E) 85 [(0,vL l),(3,vH xs cap),(4,vI ((i:Nat):Int))] [nR cap aF xs last] [gR aF]) [0,2]=iN ([iN (vL l),iN (vH xs cap)],[nR cap aF xs last],[gR aF],[],[]):=by kernel_rfl
def kK(c:Int)(o:J (J aA)×J aA)(b:UInt8):J (J aA)×J aA:=cond (b==47) (o.1++[o.2],[]) (o.1,o.2++[aA.mk [b] c])
def vc(o:J (J aA)×J aA)(r:aA):J (J aA)×J aA:=cond (r.aH != 0&&(r.aH != 1&&r.aH != 2)) o (r.fText.foldl (kK r.aH) o)
def gA(l:J aA):J (J aA)×J aA:=l.foldl vc ([],[])
def iV(l:J aA):J (J aA):=(gA l).1++[(gA l).2]
def bH(l:J aA):Nat:=(l.map λr=>Sx r.fText).sum
def JN(F:Nat)(l:J aA):O (J (J aA)):=rq (eJ (Sx l<=1000000000)&&eJ (bH l<=1000000000)) (iN (iV l))
def Ig(o:J (J aA)×J aA):Nat:=Sx o.1+Sx o.2
theorem amq(c:Int)(o:J (J aA)×J aA)(b:UInt8):Ig (kK c o b)<=Ig o+1:=by unfold kK Ig;cases (b==47)<;>simp<;>omega
theorem UF(c:Int):∀(t:Bs)(o:J (J aA)×J aA),Ig (t.foldl (kK c) o)<=Ig o+Sx t|[],o=>by simp|b::t,o=>by have h1:=UF c t (kK c o b);have h2:=amq c o b;simp only[sE,sB];omega
theorem amr(o:J (J aA)×J aA)(r:aA):Ig (vc o r)<=Ig o+Sx r.fText:=by
 unfold vc;cases (r.aH != 0&&(r.aH != 1&&r.aH != 2))
 .exact UF _ _ _
 .simp
theorem UG:∀(l:J aA)(o:J (J aA)×J aA),Ig (l.foldl vc o)<=Ig o+bH l|[],o=>by simp[bH]|r::l,o=>by have h1:=UG l (vc o r);have h2:=amr o r;simp only[sE,bH,jb,MT]at h1⊢;omega
theorem pZ(l:J aA)(i:Nat)(h:i<Sx l):bH (l.take (i+1))=bH (l.take i)+l[i].fText.length:=by unfold bH;rw[ku h,lZ,Sv];simp
theorem tw(l:J aA)(i:Nat):bH (l.take i)<=bH l:=by
 unfold bH
 conv=>rhs;rw[<-DB i l]
 rw[lZ,Sv];omega
theorem VP(l:J aA)(i:Nat)(h:i<Sx l):gA (l.take (i+1))=vc (gA (l.take i)) l[i]:=by unfold gA;rw[ku h,PK];rfl
theorem Yg(c:Int)(t:Bs)(o:J (J aA)×J aA)(k:Nat)(h:k<Sx t):(t.take (k+1)).foldl (kK c) o=kK c ((t.take k).foldl (kK c) o) t[k]:=by rw[ku h,PK];rfl
abbrev iD:Ty:=.ext 17
def vN:(⟨prog,Ie,[],[],iF⟩:Cx E).Ok:=⟨DE,iG,mixed,goN,P0⟩
def stI(l:J aA)(i:Nat)(o:J (J aA)×J aA)(cap aF:Nat):TS E:=SS (E:=E) 85 [(0,.dat (.bx iD) l),(3,.iU 0 (Sx o.1+1) cap),(4,.dat (.int .i64) ((i:Nat):Int))] [.mH 80 cap (.bx iD) o.1 (.cz 0 aF iD o.2)] [⟨aF,123,2⟩]
def TP(l:J aA)(i k:Nat)(o:J (J aA)×J aA)(cap aF:Nat):TS E:=SS (E:=E) 85 [(0,.dat (.bx iD) l),(3,.iU 0 (Sx o.1+1) cap),(4,.dat (.int .i64) ((i:Nat):Int)),(5,.dat (.int .i64) ((k:Nat):Int))] [.mH 80 cap (.bx iD) o.1 (.cz 0 aF iD o.2)] [⟨aF,123,2⟩]
theorem abT{l:J aA}{i:Nat}(h:i<Sx l):l.getD (eI (i:Int)) dw=l[i]:=by simp[List.getD,h]
theorem atE{l:Bs}{i:Nat}(h:i<Sx l):l.getD (eI (i:Int)) 0=l[i]:=by simp[List.getD,h]
theorem VQ{i n:Nat}(h:i<n):(eJ (0<=(i:Int))&&eJ ((i:Int)<(n:Int)))=eQ:=by rw[eT om,eT om];rfl
section
variable {w0 : U} {G0 : bC} {l : J aA}
theorem eIB:(cB 13 6732)=.seq (.seq (cB 15 26928) (.cond (.tmp 42) .skip (.exit 2))) (.seq (.block 3 (cB 16 53860)) (cB 15 26931)):=by kernel_rfl
theorem eB3:(cB 16 53860)=.seq (cB 17 107720) (.cond (.tmp 52) (cB 18 215442) (cB 18 215443)):=by kernel_rfl
theorem eB1:(cB 9 420)=.seq (.seq (cB 11 1680) (.cond (.tmp 34) (.exit 1) .skip)) (.seq (cB 11 1682) (.block 2 (.loop (cB 13 6732)))):=by kernel_rfl
theorem eOB:(cB 6 52)=.seq (.seq (cB 8 208) (.cond (.tmp 10) .skip (.exit 0))) (.seq (.block 1 (cB 9 420)) (cB 8 211)):=by kernel_rfl
theorem eC:(Tryz.f57.body.getD .skip)=.seq (cB 1 0) (.seq (cB 2 2) (.seq (.seq (cB 4 12) (.block 0 (.loop (cB 6 52)))) (.seq (cB 4 14) .ret))):=by kernel_rfl
theorem ams(hi:G0.i=[])(hg:G0.g=[]){i k cap aF:Nat}{o:J (J aA)×J aA}(h1:i<Sx l)(h2:k<l[i].fText.length)(h3:Ig o<=1000000000)(h4:l[i].fText.length<=1000000000)(hb:(l[i].fText[k]==47)=eK):
  AW prog w0 G0 (cB 18 215443) (TP l i k o cap aF) (λx s=>x=.normal/\∃cap' xD,s=TP l i k (kK l[i].aH o l[i].fText[k]) cap' xD):=by
 have hw:=aru l i k cap aF o.1 o.2;have hlx:Sx o.1+Sx o.2<=1000000000:=h3;have e1:aE (((Sx o.1+1:Nat):Int)-1)=(Sx o.1:Int):=by rw[bQ om];omega
 have e2:(Sx o.1:Int).toNat=Sx o.1:=bN _
 rw[e1,e2,abT h1,bM om,cy (VQ (n:=Sx o.1+1) om),cy (PV _),cy (VQ h1),vO om om om,cy (VQ h1),
  cy (by rw[PV,eT aM,eT aM];rfl),cy (VQ (n:=Sx o.1+1) om),cy (PV _)]at hw
 have OB:sl l[i].fText (k:Int) ((k+1:Nat):Int)=[l[i].fText[k]]:=by unfold sl;rw[bN,bN,ku h2,List.drop_left' (by rw[pX];omega)]
 rw[OB]at hw;intro a w G hr;refine wp_mono (AW.rt vN hi (m':=[(0,.dat (.bx iD) l),(3,.iU 0 (Sx o.1+1) cap),(4,.dat (.int .i64) ((i:Nat):Int)),(5,.dat (.int .i64) ((k:Nat):Int))]) hw a w G hr) λe a' w' hp=>?_;obtain⟨x,s,G',he,hr',rfl,rfl⟩:=hp
 have hr2:=hr'.amt hg (by
  intro p hp;simp only[gL,BJ,BK]at hp;rcases hp with rfl|rfl|rfl|rfl
  .exact .inl ⟨_,_,rfl⟩
  .exact .inr ⟨_,_,_,rfl⟩
  .exact .inl ⟨_,_,rfl⟩
  .exact .inl ⟨_,_,rfl⟩)
 cases e<;>try (exact he.elim)
 refine⟨.normal,_,_,trivial,hr2,rfl,cap,aF+1,?_⟩;unfold kK TP;rw[hb];rfl
theorem amu(hi:G0.i=[]){i k cap aF:Nat}{o:J (J aA)×J aA}(h1:i<Sx l)(h2:k<l[i].fText.length)(h3:Ig o<=1000000000)(hb:(l[i].fText[k]==47)=eQ):
  AW prog w0 G0 (cB 18 215442) (TP l i k o cap aF) (λx s=>x=.normal/\∃cap' xD,s=TP l i k (kK l[i].aH o l[i].fText[k]) cap' xD):=by
 have hlx:Sx o.1+Sx o.2<=1000000000:=h3;have hw:=AW.amv (w0:=w0) (G0:=G0) (P:=prog) (c:=(cB 18 215442)) DE (n:=85) (t:=84) (e:=80) (e2:=123) (j3:=3) (Gf:=53) (Ih:=54) (P7:=55) kr kr (cl:={callee:=.builtin .append,args:=#[.tmp 53,.tmp 54],argTypes:=#[84,84]}) rfl rfl rfl
  (j1:=1) (j2:=24) (z:=.slice iF 0 0) kr (ie:=⟨.slice 123,1,24,.slice iF 0 0⟩) kr rfl rfl iD (m0:=[(0,.dat (.bx iD) l),(4,.dat (.int .i64) ((i:Nat):Int)),(5,.dat (.int .i64) ((k:Nat):Int))]) (by
   intro p hp;simp only[gL,BJ,BK]at hp;rcases hp with rfl|rfl|rfl<;>exact⟨_,_,rfl⟩) ⟨om,om,om,om⟩ hi (cap:=cap) (aF:=aF) (xs:=o.1) (last:=o.2) rfl (by show(Sx o.1+2)*24<=_;omega) (by show o.1.length+2<=_;omega) (by
   intro c' p hp;simp only[tq,pY,gL,BJ,BK]at hp;rcases hp with rfl|rfl|rfl|rfl<;>rfl) (by
   intro p hp;simp only[gL,BJ,BK]at hp;rcases hp with rfl|rfl|rfl<;>rfl)
 refine AW.sub hi (m':=[(0,.dat (.bx iD) l),(4,.dat (.int .i64) ((i:Nat):Int)),(5,.dat (.int .i64) ((k:Nat):Int))]++[(3,.iU 0 (Sx o.1+1) cap)]) (by
   intro p hp;simp only[tq,pY,gL,BJ,BK]at hp;rcases hp with rfl|rfl|rfl|rfl<;>rfl) ?_
 intro a w G hr;refine wp_mono (hw a w G hr) λe a' w' hp=>?_;obtain⟨x,s,G',he,hr',rfl,c',rfl⟩:=hp;have hs:kK l[i].aH o l[i].fText[k]=(o.1++[o.2],[]):=by unfold kK;rw[hb];rfl
 have hr2:=hr'.au9 hi (m':=[(0,.dat (.bx iD) l),(3,.iU 0 (Sx o.1+2) c'),(4,.dat (.int .i64) ((i:Nat):Int)),(5,.dat (.int .i64) ((k:Nat):Int))]) (by
   intro p hp;simp only[gL,BJ,BK]at hp;rcases hp with rfl|rfl|rfl|rfl<;>rfl)
 cases e<;>try (exact he.elim)
 refine⟨.normal,_,_,trivial,hr2,rfl,c',aF+1,?_⟩;rw[hs];unfold TP;simp only[ov,sB,H9];rfl
theorem apI(hi:G0.i=[])(hg:G0.g=[]){i k cap aF:Nat}{o:J (J aA)×J aA}(h1:i<Sx l)(h2:k<=l[i].fText.length)(h3:Ig o<=1000000000)(h4:l[i].fText.length<=1000000000):
  AW prog w0 G0 (cB 13 6732) (TP l i k o cap aF) (λx s=>(x=.normal/\∃h:k<l[i].fText.length,∃cap' xD,s=TP l i (k+1) (kK l[i].aH o l[i].fText[k]) cap' xD)\/(x=.exit 2/\k=l[i].fText.length/\s=stI l i o cap aF)):=by
 rw[eIB];refine AW.seq ?_;have hw7:=atA l i k cap aF o.1 o.2;rw[cy (VQ h1),abT h1]at hw7;refine AW.FL (Q':=λx s=>s=_) (AW.rt vN hi (m':=[(0,.dat (.bx iD) l),(3,.iU 0 (Sx o.1+1) cap),(4,.dat (.int .i64) ((i:Nat):Int)),(5,.dat (.int .i64) ((k:Nat):Int)),(42,.dat .bool (eJ (((k:Nat):Int)<(l[i].fText.length:Int))))]) hw7) ?_;rintro _ rfl;refine AW.cond (b:=eJ (((k:Nat):Int)<(l[i].fText.length:Int))) rfl ?_;by_cases hk:k<l[i].fText.length
 .rw[eT (show((k:Nat):Int)<(l[i].fText.length:Int) by omega),if_pos rfl];refine AW.skip (.inl ⟨rfl,?_⟩);refine AW.FL (Q':=λx s=>∃cap' xD,s=TP l i k (kK l[i].aH o l[i].fText[k]) cap' xD) ?_ ?_
  .refine AW.block ?_;rw[eB3];have hw9:=atB l i k cap aF o.1 o.2;rw[cy (VQ h1),abT h1,cy (VQ hk),atE hk,oP _ 47 om]at hw9
   refine AW.sub hi (m':=[(0,.dat (.bx iD) l),(3,.iU 0 (Sx o.1+1) cap),(4,.dat (.int .i64) ((i:Nat):Int)),(5,.dat (.int .i64) ((k:Nat):Int))]) (by
    intro p hp;simp only[gL,BJ,BK]at hp;rcases hp with rfl|rfl|rfl|rfl<;>rfl) ?_
   refine AW.FL (Q':=λx s=>s=_) (AW.rt vN hi (m':=[(0,.dat (.bx iD) l),(3,.iU 0 (Sx o.1+1) cap),(4,.dat (.int .i64) ((i:Nat):Int)),(5,.dat (.int .i64) ((k:Nat):Int)),(52,.dat .bool (l[i].fText[k]==47))]) hw9) ?_;rintro _ rfl;refine AW.cond (b:=(l[i].fText[k]==47)) rfl ?_
   refine AW.sub hi (m':=[(0,.dat (.bx iD) l),(3,.iU 0 (Sx o.1+1) cap),(4,.dat (.int .i64) ((i:Nat):Int)),(5,.dat (.int .i64) ((k:Nat):Int))]) (by
    intro p hp;simp only[gL,BJ,BK]at hp;rcases hp with rfl|rfl|rfl|rfl<;>rfl) ?_
   cases hb:(l[i].fText[k]==47)with
   | true=>rw[if_pos rfl];exact(amu hi h1 hk h3 hb).mono λx s hq=>.inr ⟨(λe=>by rw[hq.1]at e;cases e),hq.1,hq.2⟩
   | false=>rw[if_neg de];exact(ams hi hg h1 hk h3 h4 hb).mono λx s hq=>.inr ⟨(λe=>by rw[hq.1]at e;cases e),hq.1,hq.2⟩
  .rintro _ ⟨cap',xD,rfl⟩;have hw8:=atC l i k cap' xD (kK l[i].aH o l[i].fText[k]).1 (kK l[i].aH o l[i].fText[k]).2;rw[bM om]at hw8;refine(AW.rt vN hi (m':=[(0,.dat (.bx iD) l),(3,.iU 0 ((kK l[i].aH o l[i].fText[k]).1.length+1) cap'),(4,.dat (.int .i64) ((i:Nat):Int)),(5,.dat (.int .i64) ((k+1:Nat):Int))]) hw8).mono ?_;rintro x s ⟨rfl,rfl⟩;exact .inl ⟨rfl,hk,cap',xD,rfl⟩
 .rw[vb (show ¬ ((k:Nat):Int)<(l[i].fText.length:Int) by omega),if_neg de]
  refine AW.sub hi (m':=[(0,.dat (.bx iD) l),(3,.iU 0 (Sx o.1+1) cap),(4,.dat (.int .i64) ((i:Nat):Int))]) (by
    intro p hp;simp only[gL,BJ,BK]at hp;rcases hp with rfl|rfl|rfl<;>rfl) ?_
  exact AW.exit (.inr ⟨(λe=>by cases e),.inr ⟨rfl,om,rfl⟩⟩)
theorem apJ(hi:G0.i=[])(hg:G0.g=[]){i cap aF:Nat}(h1:i<Sx l)(h3:bH l<=1000000000):
  AW prog w0 G0 (.block 1 (cB 9 420)) (stI l i (gA (l.take i)) cap aF) (λx s=>x=.normal/\∃cap' xD,s=stI l i (gA (l.take (i+1))) cap' xD):=by
 have hsz:=pZ l i h1;have hle:=tw l (i+1);have hO:Ig (gA (l.take i))<=bH (l.take i):=by have:=UG (l.take i) ([],[]);simpa[gA,Ig]using this
 have h4:l[i].fText.length<=1000000000:=om;refine AW.block ?_;rw[eB1];refine AW.seq ?_;have hw5:=aty l i cap aF (gA (l.take i)).1 (gA (l.take i)).2;rw[cy (VQ h1),abT h1]at hw5;simp only[cy (VQ h1)]at hw5;obtain⟨b,hb⟩:∃b,b=(l[i].aH != 0&&(l[i].aH != 1&&l[i].aH != 2)):=⟨_,rfl⟩;refine AW.FL (Q':=λx s=>s=_) (AW.rt vN hi (m':=[(0,.dat (.bx iD) l),(3,.iU 0 ((gA (l.take i)).1.length+1) cap),(4,.dat (.int .i64) ((i:Nat):Int)),(34,.dat .bool b)]) (H':=[.mH 80 cap (.bx iD) (gA (l.take i)).1 (.cz 0 aF iD (gA (l.take i)).2)]) (g':=[⟨aF,123,2⟩]) (hw5.trans ?_)) ?_
 .rw[hb];cases (l[i].aH != 0)
  .rfl
  .cases (l[i].aH != 1)
   .rfl
   .rfl
 rintro _ rfl;refine AW.cond (b:=b) rfl ?_
 refine AW.sub hi (m':=[(0,.dat (.bx iD) l),(3,.iU 0 ((gA (l.take i)).1.length+1) cap),(4,.dat (.int .i64) ((i:Nat):Int))]) (by
   intro p hp;simp only[gL,BJ,BK]at hp;rcases hp with rfl|rfl|rfl<;>rfl) ?_
 cases ZT:b with
 | true=>rw[if_pos rfl];refine AW.exit (.inr ⟨(λe=>by cases e),.inl ⟨rfl,rfl,cap,aF,?_⟩⟩);rw[VP l i h1];unfold vc;rw[<-hb,ZT];rfl
 | false=>
  rw[if_neg de];refine AW.skip (.inl ⟨rfl,?_⟩);have hw6:=atz l i cap aF (gA (l.take i)).1 (gA (l.take i)).2;refine AW.FL (Q':=λx s=>s=_) (AW.rt vN hi (m':=[(0,.dat (.bx iD) l),(3,.iU 0 ((gA (l.take i)).1.length+1) cap),(4,.dat (.int .i64) ((i:Nat):Int)),(5,.dat (.int .i64) 0)]) hw6) ?_;rintro _ rfl;refine AW.block ?_;refine AW.loop (ι:=Nat×Nat×Nat) (λx=>TP l i x.1 ((l[i].fText.take x.1).foldl (kK l[i].aH) (gA (l.take i))) x.2.1 x.2.2) (λx=>x.1<=l[i].fText.length) (λx=>l[i].fText.length-x.1) (0,cap,aF) (fF _) rfl ?_;rintro⟨k,ava,avb⟩ hk;dsimp only at hk⊢
  refine(apI hi hg h1 hk (by
   have:=UF l[i].aH (l[i].fText.take k) (gA (l.take i));have h5:(l[i].fText.take k).length<=l[i].fText.length:=by rw[pX];omega
   omega) h4).mono ?_
  rintro x s (⟨rfl,hlt,cap',xD,rfl⟩|⟨rfl,hke,rfl⟩)
  .exact .inl ⟨rfl,(k+1,cap',xD),hlt,by dsimp only;omega,by rw[Yg _ _ _ _ hlt]⟩
  .subst hke;refine .inr ⟨λe=>(by cases e),.inl ⟨rfl,.inr ⟨λe=>(by cases e),rfl,ava,avb,?_⟩⟩⟩;rw[VP l i h1,nW];unfold vc;rw[<-hb,ZT];rfl
theorem amw(hi:G0.i=[])(hg:G0.g=[])(h2:Sx l<=1000000000)(h3:bH l<=1000000000):
  AW prog w0 G0 (Tryz.f57.body.getD .skip) (SS (E:=E) 85 [(0,.dat (.bx iD) l)] [] []) (λx s=>x=.ret/\∃cap aF,s=SS (E:=E) 85 [(0,.dat (.bx iD) l),(2,.iU 0 ((gA l).1.length+1) cap)] [.mH 80 cap (.bx iD) (gA l).1 (.cz 0 aF iD (gA l).2)] [⟨aF,123,2⟩]):=by
 rw[eC];refine AW.FL (Q':=λx s=>s=_) (AW.rt vN hi (m':=[(0,.dat (.bx iD) l)]) (atv l)) ?_;rintro _ rfl
 refine AW.FL (Q':=λx s=>s=_) (AW.arw (c:=(cB 2 2)) (n:=85) (t:=84) (e:=80) 123 (j3:=3) (j6:=6) kr kr (j1:=1) (j2:=24) (z:=.slice iF 0 0) kr (ie:=⟨.slice 123,1,24,.slice iF 0 0⟩) kr rfl iD
  (m':=[(0,.dat (.bx iD) l),(3,.iU 0 1 1)]) om hi (by
   intro p hp;simp only[gL,BJ,BK]at hp;rcases hp with rfl|rfl<;>rfl)) ?_
 rintro _ rfl;refine AW.FL (Q':=λx s=>∃cap aF,s=stI l l.length (gA l) cap aF) ?_ ?_
 .refine AW.FL (Q':=λx s=>s=stI l 0 (gA (l.take 0)) 1 0) ((AW.rt vN hi (m':=[(0,.dat (.bx iD) l),(3,.iU 0 1 1),(4,.dat (.int .i64) 0)]) (atw l 1 0 [] [])).mono λx s hq=>hq) ?_;rintro _ rfl;refine AW.block ?_;refine AW.loop (ι:=Nat×Nat×Nat) (λx=>stI l x.1 (gA (l.take x.1)) x.2.1 x.2.2) (λx=>x.1<=Sx l) (λx=>Sx l-x.1) (0,1,0) (fF _) rfl ?_;rintro⟨i,cap,aF⟩ hil;dsimp only at hil⊢;rw[eOB];refine AW.seq ?_;refine AW.FL (Q':=λx s=>s=_) (AW.rt vN hi (m':=[(0,.dat (.bx iD) l),(3,.iU 0 ((gA (l.take i)).1.length+1) cap),(4,.dat (.int .i64) ((i:Nat):Int)),(10,.dat .bool (eJ (((i:Nat):Int)<(Sx l:Int))))]) (atx l i cap aF (gA (l.take i)).1 (gA (l.take i)).2)) ?_;rintro _ rfl;refine AW.cond (b:=eJ (((i:Nat):Int)<(Sx l:Int))) rfl ?_
  refine AW.sub hi (m':=[(0,.dat (.bx iD) l),(3,.iU 0 ((gA (l.take i)).1.length+1) cap),(4,.dat (.int .i64) ((i:Nat):Int))]) (by
   intro p hp;simp only[gL,BJ,BK]at hp;rcases hp with rfl|rfl|rfl<;>rfl) ?_
  by_cases h1:i<Sx l
  .rw[eT (show((i:Nat):Int)<(Sx l:Int) by omega),if_pos rfl];refine AW.skip (.inl ⟨rfl,?_⟩);refine AW.FL (apJ hi hg h1 h3) ?_;rintro _ ⟨cap',xD,rfl⟩;have hw4:=atD l i cap' xD (gA (l.take (i+1))).1 (gA (l.take (i+1))).2;rw[bM om]at hw4;refine(AW.rt vN hi (m':=[(0,.dat (.bx iD) l),(3,.iU 0 ((gA (l.take (i+1))).1.length+1) cap'),(4,.dat (.int .i64) ((i+1:Nat):Int))]) hw4).mono ?_;rintro x s ⟨rfl,rfl⟩;exact .inl ⟨rfl,(i+1,cap',xD),h1,by dsimp only;omega,rfl⟩
  .rw[vb (show ¬ ((i:Nat):Int)<(Sx l:Int) by omega),if_neg de];obtain rfl:i=Sx l:=om;refine AW.exit (.inr ⟨λe=>(by cases e),.inr ⟨λe=>(by cases e),.inl ⟨rfl,rfl,cap,aF,?_⟩⟩⟩);rw[nW];rfl
 .rintro _ ⟨cap,aF,rfl⟩;refine AW.FL (Q':=λx s=>s=_) (AW.rt vN hi (m':=[(0,.dat (.bx iD) l),(2,.iU 0 ((gA l).1.length+1) cap)]) (arv l l.length cap aF (gA l).1 (gA l).2)) ?_;rintro _ rfl;exact AW.ret ⟨rfl,cap,aF,rfl⟩
end
def aoW(E:TEnv)(ix:Nat)(f:H4)(F:Nat)(m:Nat->J ((Ty.ext ix).den E.D)->O (J (J ((Ty.ext ix).den E.D)))):bL E:=⟨⟨f,[.one (.dat (.bx (.ext ix)))],[],[],⟨.one (.dat (.bx (.bx (.ext ix)))),[],[],[]⟩,iF,[]⟩,λ(x:J ((Ty.ext ix).den E.D))=>m F x⟩
theorem apK(F:Nat):(aoW E 17 57 F JN).Ok prog:=by
 have key:∀(l:J aA)(y:J (J aA)),JN F l=iN y->mI (E:=E) prog 57 [.dat (.bx iD) l] [] [] [] ⟨eQ,.dat (.bx (.bx iD)) y,[],[],[],[]⟩:=by
  intro l y hy;obtain⟨h1,h2⟩:=dX hy;rw[cH,fO,fO]at h1;cases h2;intro w G args hP hB hS hV;have hi:G.i=[]:=H8 hB.len;have hg:G.g=[]:=by have:=hB.gs;simpa using this
  have Ii:=Rel.M6 (n:=Tryz.f57.ntmps) hP hB hS hV;have hb:Tryz.f57.body=iN (Tryz.f57.body.getD .skip):=by kernel_rfl
  refine ve func57 hb kr (calls_of_wp func57 hb ?_);have fC:Rel E w G (SS (E:=E) 85 [(0,.dat (.bx iD) l)] [] []) _ w G:=Ii;refine wp_mono (amw (l:=l) hi hg h1.1 h1.2 _ w G fC) λe a' w' hp=>?_;obtain⟨x,s,G',he,hr,rfl,cap,aF,rfl⟩:=hp;have KZ:a'.defers=[]:=by have:=hr.defers;cases hd:a'.defers with|nil=>rfl|cons d ds=>rw[hd]at this;exact this.elim
  obtain⟨v,hv,hrun⟩:=BN (fn:=Tryz.f57) vN hr (ds:=[.iU 0 ((gA l).1.length+1) cap]) kr;obtain⟨G2,q1,q2,q3,q4⟩:=apL (j:=2) hr hi hg rfl;cases e<;>try (exact he.elim)
  have OC:v=a'.tmps.getD 2 H5:=by have h3:=hr.tmps 2 (.iU 0 ((gA l).1.length+1) cap) rfl;simp only[sJ,VT]at hv h3;obtain⟨b,wU,xE⟩:=hv;obtain⟨b',sS,mJ⟩:=h3;rw[xE]at mJ;cases mJ;rw[wU,sS]
  subst OC;exact⟨KZ,_,hrun,_,G2,rfl,q1,q2,q3,q4,λq b hq=>by rw[hi]at hq;cases hq⟩
 intro x y hy;exact key x y hy
