import Derived.Test.YtjfbblgjjdgjdaaGreatDoorTy
import Derived.Test.YtjfbblgjjdgjdaaGreatDoorSo
open Array renaming replicate->lA
open Nat renaming ble->iO,beq->eI,blt->dE
open Option renaming some->iN,none->iF
open Bool renaming true->hJ,false->eQ
open Decidable renaming decide->eK
open Int renaming toNat->eJ
open Go.IntKind renaming wrap->dO
open Go renaming undef->M2,FuncId->H5
open List renaming length->Ts
set_option linter.all false
set_option maxRecDepth 100000
namespace Go.Proofs.YtjfbblgjjdgjdaaGreatDoor
open Go.Proofs.Tryz
open Go.RT
noncomputable section
variable (F : Nat)
def sD:=Y4
def Sq:bQ E:=ibC E 356 F
theorem OY:(Sq F).Ok pg:=as4 (λargs w=>by rw[run_callFunc_extern func356 kr kr kr (e:=Extern.BytealgIndexByte.indexByte) kr]) F
def aeC(F:Nat):bQ E:=⟨⟨218,[.one (.dat .str)],[],[],⟨.one (.any),[],[],[]⟩,iF,[]⟩,λ_=>iF⟩
def OZ:(aeC F).Ok pg:=λx y h=>nomatch (show iF=iN y from h)
def stringslite_IndexByte(a0:Bs)(a1:Int):O Int:=wx (wm (sD F a0 a1))
def I4:bQ E:=⟨sh 302 [oS,.one (.dat (.int .u8))] oI,u2 (stringslite_IndexByte F)⟩
def wW:(I4 F).Ok pg:=dG F lf (cu (OY F) iQ) func302
def strings_IndexByte(a0:Bs)(a1:Int):O Int:=wx (wm (stringslite_IndexByte F a0 a1))
def Ot:bQ E:=⟨sh 332 [oS,.one (.dat (.int .u8))] oI,u2 (strings_IndexByte F)⟩
def Bq:(Ot F).Ok pg:=dG F lf (cu (wW F) iQ) func332
def tK(F:Nat)(a0:Int):O Bool:=wx (wv (wa (0<=a0)<|ws (eK (a0<55296))) λx1=>wo x1<|wv (wa (57343<a0)<|ws (eK (a0<=1114111))) λx2=>wo x2<|ws eQ)
def TN:bQ E:=⟨sh 355 [.one (.dat (.int .i32))] oB,tK F⟩
def Sr:(TN F).Ok pg:=dG F (qa (qs (qs (.region [rb 6 9]) (.cond lf (qs (.region [rb 6 16]) lf))) lf)) iQ func355
def kf(a0:Bs)(a1:Int):O Int:=wx (wt a0.length λe=>wt (Ts (nL a1):Int) λd=>wt (aD (d-1)) λc=>wt (((nL a1).getD c.toNat 0).toNat:Int) λf=>wv (wa (0<=a1)<|ws (eK (a1<128))) λx1=>wc x1 (wm (strings_IndexByte F a0 (dO .u8 a1)))<|wc (a1==65533) (iR Bs Int (λlP a b=>wt b.toNat λg=>wc (dE g a.length) (wc (((dec a g).1:Int)==65533) (ws ((g:Nat):Int))<|ww<|lP (a,((g+(dec a g).2:Nat):Int)))<|ws (-1)) F (a0,((0:Nat):Int)))<|wb (tK F a1) λx5=>wc (!x5) (ws (-1))<|wl Int (λyY x6=>wt (aD (x6+1)) λh=>wc (x6<e) (ww<|jj (σ:=Int) (rq (0<=x6&&x6<e) (rq (0<=c&&c<d) (cond (((a0.getD x6.toNat 0).toNat:Int)!=f) (rq (0<=h&&(h<=e&&(e:Int)<=(e:Int))) (rq (0<=c&&c<d) ((strings_IndexByte F (sl a0 h (e:Int)) f).bind λx9=>cond (x9<0) (iN (.inr (-1))) (iN (.inl (aD (x6+aD (x9+1)))))))) (iN (.inl x6))))) λx8=>bX (σ:=Int) (λahi cz=>cond (cz<d) (rq (0<=aD (x8-cz)&&aD (x8-cz)<e) (rq (0<=aD (c-cz)&&aD (c-cz)<d) (cond (((a0.getD (aD (x8-cz)).toNat 0).toNat:Int)!=(((nL a1).getD (aD (c-cz)).toNat 0).toNat:Int)) iF (ahi (aD (cz+1)))))) (iN (aD (x8-c)))) F 1)<|ws (-1)) F c)
def Ou:bQ E:=⟨sh 300 [oS,.one (.dat (.int .i32))] oI,u2 (kf F)⟩
def Mm:(Ou F).Ok pg:=dG F (qa (qs (.region [rb 6 166]) (.cond lf (qa (.cond (qs (qa (.loop [] ⟨[],[iN (.iter)],[],[]⟩ lf)) lf) (qa (.cond lf (qa (qa (qa (qa (qs (.loop [] (ct [(9,oI)]) (qa (.seq [] (iN ((ct [(9,oI)]),hJ)) (qs (.draw [⟨hJ,7,iF⟩]) (.cond (qs (.draw [⟨hJ,7,iF⟩,⟨eQ,2,iF⟩]) lf) lf)) (qs (qa (.loop [] (ct [(12,oI)]) (qa (qs (qs (.draw [⟨hJ,11,iF⟩]) lf) lf)))) lf)))) lf)))))))))))) (cu (Bq F) (cu (Sr F) iQ)) func300
def strings_shouldUseASCIISet(F:Nat)(a0:Int):O Bool:=iN (eK (8<a0))
def EC:bQ E:=⟨sh 301 [oI] oB,strings_shouldUseASCIISet F⟩
def Df:(EC F).Ok pg:=dG F lf iQ func301
def strings_IndexAny(a0 a1:Bs):O Int:=wx (wt (Ts a1:Int) λe=>wt (dO .i32 ((a1.getD 0 0).toNat:Int)) λc=>wc (a1==[]) (ws (-1))<|wc (e==1) (wq (0<e)<|wv (wc (128<=c) (ws 65533)<|ws c) λx1=>wm (kf F a0 x1))<|wb (strings_shouldUseASCIISet F (Ts a0:Int)) λx3=>wc x3 wn<|iR Bs Int (λzx a b=>wt b.toNat λd=>wc (dE d a.length) (wb (kf F a1 ((dec a d).1:Int)) λx6=>wc (0<=x6) (ws ((d:Nat):Int))<|ww<|zx (a,((d+(dec a d).2:Nat):Int)))<|ws (-1)) F (a0,((0:Nat):Int)))
def O0:bQ E:=⟨sh 239 [oS,oS] oI,u2 (strings_IndexAny F)⟩
def Ov:(O0 F).Ok pg:=dG F (qa (qa (qs (qa (.cond (qa (.seq [] (iN ((ct [(5,.one (.dat (.int .i32)))]),eQ)) lf lf)) lf)) (qa (qs (qa (.loop [] ⟨[],[iN (.iter)],[],[]⟩ lf)) lf))))) (cu (Mm F) (cu (Df F) (cu (OZ F) iQ))) func239
end
open Go.RT Go.RowKit Go.Maps Go.Sort Go.Shelf
open Go.Proofs (encStr)
theorem aqZ:Builder.Extra prog Tryz.Y5:={
 sizeBuilder:=by kernel_rfl
 liesBuilder:=by kernel_rfl
 t5:=underlying5
 a5:=Tryz.isAgg5
 z5:=Tryz.sizeOf5
 v5:=Tryz.zeroValue5
 infoByte:=by kernel_rfl
 cellsByte:=by kernel_rfl
 sizeByte:=by kernel_rfl
 neB5:=by decide}
theorem ajz:abI prog 70:=⟨qQ func70 kr kr,λbk o c xs sep w h1 h2 h3 h4 h5=>Any.strings_Join Tryz.aoq aqZ bk o c xs sep w h1 h2 h3 h4 h5,λa c sep w=>Any.strings_Join_none Tryz.aoq aqZ a c sep w⟩
theorem as5:aor prog 246:=⟨qQ func246 kr kr,λs c w h=>Any.strings_LastIndexByte Tryz.auL s c h w⟩
theorem aq0:ajA prog 73:=⟨qQ func73 kr kr,λblk cap ss w h1 h2 h3=>AnyM.slices_Sort_string Tryz.abk blk 0 cap ss w h1 h2 h3,λp cap w=>AnyM.slices_Sort_string_none Tryz.abk p cap w⟩
theorem Y6{w:U}{G:bB}(hP:qR E w G):∃m,w.cell? ⟨0,0,iF⟩=iN (.int .i64 m):=by obtain⟨cs,t,m,h1,n,h2⟩:=(hP 0 _ rfl).1;exact⟨n,by simp[World.cell?,h1,h2]⟩
theorem splitAt:afL E prog 114 9:=
 ⟨qQ func114 kr kr,λs sep w G hP h1 h2=>by
  obtain⟨m,hm⟩:=Y6 hP;exact Any.strings_Split Tryz.aq1 kr s sep m w h1 hm h2,
  λs sep h=>Lib.splitB_all sep h 0 _ s rfl,λs sep h=>Lib.countB_le sep h s.size s (eo _)⟩
theorem cutAt:aos E prog 117:=
 ⟨qQ func117 kr kr,λs sep w G hP h=>by
  obtain⟨m,hm⟩:=Y6 hP;exact Any.strings_Cut Tryz.auM s sep m w h hm⟩
def abJ(F:Nat)(s cs:Bs):O Int:=cond (iO s.length 8) (strings_IndexAny F s cs)
 (rq (eK (Ts s<4294967281)&&(eK (2<=Ts cs)&&(eK (Ts cs<4294967281)&&cs.all λb=>eK (b.toNat<128)))) (iN (Lib.indexAny s cs)))
def aq2(E:TEnv)(f:H5)(F:Nat):bQ E:=⟨⟨f,[.one (.dat .str),.one (.dat .str)],[],[],⟨.one (.dat (.int .i64)),[],[],[]⟩,iF,[]⟩,λ(x:Bs×Bs)=>abJ F x.1 x.2⟩
theorem aq3(F:Nat):(aq2 E 239 F).Ok prog:=by
 have key:∀(s cs:Bs)(y:Int),abJ F s cs=iN y->mL (E:=E) prog 239 [.dat .str s,.dat .str cs] [] [] [] ⟨hJ,.dat (.int .i64) y,[],[],[],[]⟩:=by
  intro s cs y hy;unfold abJ at hy;cases hb:iO s.length 8<;>rw[hb]at hy<;>simp only[aU,aJ]at hy
  ·obtain⟨h1,h2⟩:=dX hy;rw[cK,cK,cK,fW,fW,fW,pP]at h1;obtain⟨c1,c2,c3,c4⟩:=h1;cases h2;have h8:8<Ts s:=by
    rcases abb 8 s.length with h|h
    ·exact h
    ·rw[aaT h]at hb;cases hb
   refine D5 (qQ func239 kr kr) λw G args hP hv=>⟨_,λw G=>.int w G .i64 (Lib.indexAny s cs),?_⟩;obtain⟨u,us,ha,wk,sE⟩:=hv.cons_inv;obtain⟨u2,U5,tL,FQ,K5⟩:=sE.cons_inv;have K5:U5=[]:=by simpa only[bO]using K5
   have e1:=wk.iS;have e2:=FQ.iS;subst e1 e2 K5 tL;have ha:args=#[mkStr s,mkStr cs]:=by apply UQ;exact ha
   subst ha;have hz:=zero_of_info (P:=prog) (t:=Tryz.afM.t 116) (v:=.agg (lA 256 (.bool eQ))) (n:=256) kr;refine(Any.strings_IndexAny_long Tryz.iaL hz.1 hz.2 ⟨⟨s⟩⟩ ⟨⟨cs⟩⟩ w c2 h8 c1 c3 λj b hb=>by simpa using c4 b (jR hb)).mono λe w' hh=>?_;obtain⟨q1,q2⟩:=hh;refine⟨q1,?_⟩;rw[q2];exact((Below.refl _ _).alloc (eo _) _).alloc si _
  ·exact Ov F (s,cs) y hy
 intro x y hy;exact key x.1 x.2 y hy
theorem auN:U6 prog 295:=⟨qQ func295 kr kr,λblk cap zs w h1 h2=>AnyE.slices_Reverse Tryz.auO (Value.int .u8) (λ_=>rfl) blk 0 cap zs w h1 h2⟩
noncomputable abbrev cX:Cx E:=⟨prog,Jh,[],[],iF⟩
abbrev vI(n:Int):TV E:=.dat (.int .i64) n
abbrev vB(b:Bool):TV E:=.dat .bool b
abbrev vL(l:J aB):TV E:=.dat (.bz (.ext 17)) l
abbrev vH(xs:J (J aB))(cap:Nat):TV E:=.iW 0 (Ts xs+1) cap
abbrev nR(cap aG:Nat)(xs:J (J aB))(last:J aB):gf E:=.mI 75 cap (.bz (.ext 17)) xs (.cH 0 aG (.ext 17) last)
abbrev gR(aG:Nat):cV:=⟨aG,113,2⟩
noncomputable abbrev cR(c:Code)(p:fu)(s:TS E)(js:J Nat):=Go.RT.runT cX 0 c p s (proj js)
def cP:Code->J Bool->Code|.seq a _,eQ::p=>cP a p|.seq _ b,hJ::p=>cP b p|.cond _ a _,eQ::p=>cP a p|.cond _ _ b,hJ::p=>cP b p|.block _ a,eQ::p=>cP a p|.loop a,eQ::p=>cP a p|c,_=>c
def bts:Nat->Nat->J Bool|0,_=>[]|k+1,n=>eI (n / 2^k%2) 1::bts k n
noncomputable abbrev cB(k n:Nat):Code:=cP (Tryz.f48.body.getD .skip) (bts k n)
theorem as6(l:J aB):cR (cB 1 0) (.leaf) (SS (E:=E) 85 [(0,vL l)] [] []) [0]=iN ([iN (vL l)],[],[],[],[]):=by kernel_rfl
theorem as7(l:J aB)(cap aG:Nat)(xs:J (J aB))(last:J aB):cR (cB 4 12) (.leaf) (SS (E:=E) 85 [(0,vL l),(3,vH xs cap)] [nR cap aG xs last] [gR aG]) [0,3,4]=iN ([iN (vL l),iN (vH xs cap),iN (vI 0)],[nR cap aG xs last],[gR aG],[],[]):=by kernel_rfl
theorem as8(l:J aB)(i cap aG:Nat)(xs:J (J aB))(last:J aB):cR (cB 8 208) (.leaf) (SS (E:=E) 85 [(0,vL l),(3,vH xs cap),(4,vI ((i:Nat):Int))] [nR cap aG xs last] [gR aG]) [0,3,4,10]=iN ([iN (vL l),iN (vH xs cap),iN (vI ((i:Nat):Int)),iN (vB (eK (((i:Nat):Int)<(Ts l:Int))))],[nR cap aG xs last],[gR aG],[],[]):=by kernel_rfl
theorem as9(l:J aB)(i cap aG:Nat)(xs:J (J aB))(last:J aB):cR (cB 11 1680) (.leaf) (SS (E:=E) 85 [(0,vL l),(3,vH xs cap),(4,vI ((i:Nat):Int))] [nR cap aG xs last] [gR aG]) [0,3,4,34]=rq ((eK (0<=((i:Nat):Int)))&&(eK (((i:Nat):Int)<(Ts l:Int)))) (cond (((l.getD (eJ ((i:Nat):Int)) dx).aI) != 0)
 (rq ((eK (0<=((i:Nat):Int)))&&(eK (((i:Nat):Int)<(Ts l:Int)))) (cond (((l.getD (eJ ((i:Nat):Int)) dx).aI) != 1)
 (rq ((eK (0<=((i:Nat):Int)))&&(eK (((i:Nat):Int)<(Ts l:Int)))) (iN ([iN (vL l),iN (vH xs cap),iN (vI ((i:Nat):Int)),iN (vB (((l.getD (eJ ((i:Nat):Int)) dx).aI) != 2))],[nR cap aG xs last],[gR aG],[],[])))
 (iN ([iN (vL l),iN (vH xs cap),iN (vI ((i:Nat):Int)),iN (vB eQ)],[nR cap aG xs last],[gR aG],[],[]))))
 (iN ([iN (vL l),iN (vH xs cap),iN (vI ((i:Nat):Int)),iN (vB eQ)],[nR cap aG xs last],[gR aG],[],[]))):=by kernel_rfl
theorem ata(l:J aB)(i cap aG:Nat)(xs:J (J aB))(last:J aB):cR (cB 11 1682) (.leaf) (SS (E:=E) 85 [(0,vL l),(3,vH xs cap),(4,vI ((i:Nat):Int))] [nR cap aG xs last] [gR aG]) [0,3,4,5]=iN ([iN (vL l),iN (vH xs cap),iN (vI ((i:Nat):Int)),iN (vI 0)],[nR cap aG xs last],[gR aG],[],[]):=by kernel_rfl
theorem atb(l:J aB)(i k cap aG:Nat)(xs:J (J aB))(last:J aB):cR (cB 15 26928) (.leaf) (SS (E:=E) 85 [(0,vL l),(3,vH xs cap),(4,vI ((i:Nat):Int)),(5,vI ((k:Nat):Int))] [nR cap aG xs last] [gR aG]) [0,3,4,5,42]=rq ((eK (0<=((i:Nat):Int)))&&(eK (((i:Nat):Int)<(Ts l:Int)))) (iN ([iN (vL l),iN (vH xs cap),iN (vI ((i:Nat):Int)),iN (vI ((k:Nat):Int)),iN (vB (eK (((k:Nat):Int)<(Ts ((l.getD (eJ ((i:Nat):Int)) dx).fText):Int))))],[nR cap aG xs last],[gR aG],[],[])):=by kernel_rfl
theorem atc(l:J aB)(i k cap aG:Nat)(xs:J (J aB))(last:J aB):cR (cB 17 107720) (.leaf) (SS (E:=E) 85 [(0,vL l),(3,vH xs cap),(4,vI ((i:Nat):Int)),(5,vI ((k:Nat):Int))] [nR cap aG xs last] [gR aG]) [0,3,4,5,52]=rq ((eK (0<=((i:Nat):Int)))&&(eK (((i:Nat):Int)<(Ts l:Int)))) (rq ((eK (0<=((k:Nat):Int)))&&(eK (((k:Nat):Int)<(Ts ((l.getD (eJ ((i:Nat):Int)) dx).fText):Int)))) (iN ([iN (vL l),iN (vH xs cap),iN (vI ((i:Nat):Int)),iN (vI ((k:Nat):Int)),iN (vB (((((l.getD (eJ ((i:Nat):Int)) dx).fText).getD (eJ ((k:Nat):Int)) 0).toNat:Int)==47))],[nR cap aG xs last],[gR aG],[],[]))):=by kernel_rfl
theorem aq4(l:J aB)(i k cap aG:Nat)(xs:J (J aB))(last:J aB):cR (cB 18 215443) (.fM [0] [28] [⟨[(0,hJ),(1,hJ),(2,hJ),(3,hJ),(4,hJ),(5,hJ),(6,hJ),(7,hJ),(8,hJ),(9,hJ),(10,hJ),(11,hJ),(12,hJ),(13,hJ),(14,hJ),(15,hJ),(16,hJ),(17,hJ),(18,hJ),(19,hJ),(20,hJ),(21,hJ),(22,hJ),(23,hJ),(24,hJ),(25,eQ),(26,eQ),(27,eQ),(28,eQ)],iF⟩]) (SS (E:=E) 85 [(0,vL l),(3,vH xs cap),(4,vI ((i:Nat):Int)),(5,vI ((k:Nat):Int))] [nR cap aG xs last] [gR aG]) [0,3,4,5]=rq ((eK (0<=aD (((Ts xs+1:Nat):Int)-1)))&&(eK (aD (((Ts xs+1:Nat):Int)-1)<((Ts xs+1:Nat):Int)))) (rq (eI (eJ (aD (((Ts xs+1:Nat):Int)-1))) xs.length) (rq ((eK (0<=((i:Nat):Int)))&&(eK (((i:Nat):Int)<(Ts l:Int)))) (rq ((eK (0<=((k:Nat):Int)))&&((eK (((k:Nat):Int)<=aD (((k:Nat):Int)+1)))&&(eK (aD (((k:Nat):Int)+1)<=(Ts ((l.getD (eJ ((i:Nat):Int)) dx).fText):Int))))) (rq ((eK (0<=((i:Nat):Int)))&&(eK (((i:Nat):Int)<(Ts l:Int)))) (rq ((eI aG aG)&&((eK (Ts last+Ts ([(aB.mk (sl ((l.getD (eJ ((i:Nat):Int)) dx).fText) ((k:Nat):Int) (aD (((k:Nat):Int)+1))) ((l.getD (eJ ((i:Nat):Int)) dx).aI))]:J aB)<=9223372036854775807))&&(eK ((Ts last+Ts ([(aB.mk (sl ((l.getD (eJ ((i:Nat):Int)) dx).fText) ((k:Nat):Int) (aD (((k:Nat):Int)+1))) ((l.getD (eJ ((i:Nat):Int)) dx).aI))]:J aB))*24<=140737488355328)))) (rq ((eK (0<=aD (((Ts xs+1:Nat):Int)-1)))&&(eK (aD (((Ts xs+1:Nat):Int)-1)<((Ts xs+1:Nat):Int)))) (rq (eI (eJ (aD (((Ts xs+1:Nat):Int)-1))) xs.length) (iN ([iN (vL l),iN (vH xs cap),iN (vI ((i:Nat):Int)),iN (vI ((k:Nat):Int))],[.mI 75 cap (.bz (.ext 17)) xs (.cH 0 (aG+1) (.ext 17) (last++([(aB.mk (sl ((l.getD (eJ ((i:Nat):Int)) dx).fText) ((k:Nat):Int) (aD (((k:Nat):Int)+1))) ((l.getD (eJ ((i:Nat):Int)) dx).aI))]:J aB)))],[⟨aG+1,113,2⟩,⟨0,113,2⟩],[],[]))))))))):=by kernel_rfl
theorem atd(l:J aB)(i k cap aG:Nat)(xs:J (J aB))(last:J aB):cR (cB 15 26931) (.leaf) (SS (E:=E) 85 [(0,vL l),(3,vH xs cap),(4,vI ((i:Nat):Int)),(5,vI ((k:Nat):Int))] [nR cap aG xs last] [gR aG]) [0,3,4,5]=iN ([iN (vL l),iN (vH xs cap),iN (vI ((i:Nat):Int)),iN (vI (aD (((k:Nat):Int)+1)))],[nR cap aG xs last],[gR aG],[],[]):=by kernel_rfl
theorem ate(l:J aB)(i cap aG:Nat)(xs:J (J aB))(last:J aB):cR (cB 8 211) (.leaf) (SS (E:=E) 85 [(0,vL l),(3,vH xs cap),(4,vI ((i:Nat):Int))] [nR cap aG xs last] [gR aG]) [0,3,4]=iN ([iN (vL l),iN (vH xs cap),iN (vI (aD (((i:Nat):Int)+1)))],[nR cap aG xs last],[gR aG],[],[]):=by kernel_rfl
theorem aq5(l:J aB)(i cap aG:Nat)(xs:J (J aB))(last:J aB):cR (cB 4 14) (.leaf) (SS (E:=E) 85 [(0,vL l),(3,vH xs cap),(4,vI ((i:Nat):Int))] [nR cap aG xs last] [gR aG]) [0,2]=iN ([iN (vL l),iN (vH xs cap)],[nR cap aG xs last],[gR aG],[],[]):=by kernel_rfl
def mD(c:Int)(o:J (J aB)×J aB)(b:UInt8):J (J aB)×J aB:=cond (b==47) (o.1++[o.2],[]) (o.1,o.2++[aB.mk [b] c])
def wz(o:J (J aB)×J aB)(r:aB):J (J aB)×J aB:=cond (r.aI != 0&&(r.aI != 1&&r.aI != 2)) o (r.fText.foldl (mD r.aI) o)
def gj(l:J aB):J (J aB)×J aB:=l.foldl wz ([],[])
def rQ(l:J aB):J (J aB):=(gj l).1++[(gj l).2]
def bV(l:J aB):Nat:=(l.map λr=>Ts r.fText).sum
def Rv(F:Nat)(l:J aB):O (J (J aB)):=rq (eK (Ts l<=1000000000)&&eK (bV l<=1000000000)) (iN (rQ l))
def HE(o:J (J aB)×J aB):Nat:=Ts o.1+Ts o.2
theorem alT(c:Int)(o:J (J aB)×J aB)(b:UInt8):HE (mD c o b)<=HE o+1:=by unfold mD HE;cases (b==47)<;>simp<;>omega
theorem TO(c:Int):∀(t:Bs)(o:J (J aB)×J aB),HE (t.foldl (mD c) o)<=HE o+Ts t|[],o=>by simp|b::t,o=>by have h1:=TO c t (mD c o b);have h2:=alT c o b;simp only[v7,qi];omega
theorem alU(o:J (J aB)×J aB)(r:aB):HE (wz o r)<=HE o+Ts r.fText:=by
 unfold wz;cases (r.aI != 0&&(r.aI != 1&&r.aI != 2))
 ·exact TO _ _ _
 ·simp
theorem TP:∀(l:J aB)(o:J (J aB)×J aB),HE (l.foldl wz o)<=HE o+bV l|[],o=>by simp[bV]|r::l,o=>by have h1:=TP l (wz o r);have h2:=alU o r;simp only[v7,bV,jI,OW]at h1⊢;omega
theorem sn(l:J aB)(i:Nat)(h:i<Ts l):bV (l.take (i+1))=bV (l.take i)+l[i].fText.length:=by unfold bV;rw[lF h,pQ,UY];simp
theorem vO(l:J aB)(i:Nat):bV (l.take i)<=bV l:=by
 unfold bV
 conv=>rhs;rw[<-Hz i l]
 rw[pQ,UY];omega
theorem U7(l:J aB)(i:Nat)(h:i<Ts l):gj (l.take (i+1))=wz (gj (l.take i)) l[i]:=by unfold gj;rw[lF h,Mg];rfl
theorem Xs(c:Int)(t:Bs)(o:J (J aB)×J aB)(k:Nat)(h:k<Ts t):(t.take (k+1)).foldl (mD c) o=mD c ((t.take k).foldl (mD c) o) t[k]:=by rw[lF h,Mg];rfl
abbrev iC:Ty:=.ext 17
def vn:(⟨prog,Jh,[],[],iF⟩:Cx E).Ok:=⟨Fq,iQ,mixed,goN,SO⟩
def stI(l:J aB)(i:Nat)(o:J (J aB)×J aB)(cap aG:Nat):TS E:=SS (E:=E) 85 [(0,.dat (.bz iC) l),(3,.iW 0 (Ts o.1+1) cap),(4,.dat (.int .i64) ((i:Nat):Int))] [.mI 75 cap (.bz iC) o.1 (.cH 0 aG iC o.2)] [⟨aG,113,2⟩]
def SP(l:J aB)(i k:Nat)(o:J (J aB)×J aB)(cap aG:Nat):TS E:=SS (E:=E) 85 [(0,.dat (.bz iC) l),(3,.iW 0 (Ts o.1+1) cap),(4,.dat (.int .i64) ((i:Nat):Int)),(5,.dat (.int .i64) ((k:Nat):Int))] [.mI 75 cap (.bz iC) o.1 (.cH 0 aG iC o.2)] [⟨aG,113,2⟩]
theorem abl{l:J aB}{i:Nat}(h:i<Ts l):l.getD (eJ (i:Int)) dx=l[i]:=by simp[List.getD,h]
theorem atf{l:Bs}{i:Nat}(h:i<Ts l):l.getD (eJ (i:Int)) 0=l[i]:=by simp[List.getD,h]
theorem U8{i n:Nat}(h:i<n):(eK (0<=(i:Int))&&eK ((i:Int)<(n:Int)))=hJ:=by rw[eN om,eN om];rfl
section
variable {w0 : U} {G0 : bB} {l : J aB}
theorem eIB:(cB 13 6732)=.seq (.seq (cB 15 26928) (.cond (.tmp 42) .skip (.exit 2))) (.seq (.block 3 (cB 16 53860)) (cB 15 26931)):=by kernel_rfl
theorem eB3:(cB 16 53860)=.seq (cB 17 107720) (.cond (.tmp 52) (cB 18 215442) (cB 18 215443)):=by kernel_rfl
theorem eB1:(cB 9 420)=.seq (.seq (cB 11 1680) (.cond (.tmp 34) (.exit 1) .skip)) (.seq (cB 11 1682) (.block 2 (.loop (cB 13 6732)))):=by kernel_rfl
theorem eOB:(cB 6 52)=.seq (.seq (cB 8 208) (.cond (.tmp 10) .skip (.exit 0))) (.seq (.block 1 (cB 9 420)) (cB 8 211)):=by kernel_rfl
theorem eC:(Tryz.f48.body.getD .skip)=.seq (cB 1 0) (.seq (cB 2 2) (.seq (.seq (cB 4 12) (.block 0 (.loop (cB 6 52)))) (.seq (cB 4 14) .ret))):=by kernel_rfl
theorem alV(hi:G0.i=[])(hg:G0.g=[]){i k cap aG:Nat}{o:J (J aB)×J aB}(h1:i<Ts l)(h2:k<l[i].fText.length)(h3:HE o<=1000000000)(h4:l[i].fText.length<=1000000000)(hb:(l[i].fText[k]==47)=eQ):
  AW prog w0 G0 (cB 18 215443) (SP l i k o cap aG) (λx s=>x=.normal/\∃cap' wX,s=SP l i k (mD l[i].aI o l[i].fText[k]) cap' wX):=by
 have hw:=aq4 l i k cap aG o.1 o.2;have hlx:Ts o.1+Ts o.2<=1000000000:=h3;have e1:aD (((Ts o.1+1:Nat):Int)-1)=(Ts o.1:Int):=by rw[bL om];omega
 have e2:(Ts o.1:Int).toNat=Ts o.1:=cg _
 rw[e1,e2,abl h1,bW om,cE (U8 (n:=Ts o.1+1) om),cE (OS _),cE (U8 h1),wA om om om,cE (U8 h1),
  cE (by rw[OS,eN aR,eN aR];rfl),cE (U8 (n:=Ts o.1+1) om),cE (OS _)]at hw
 have NL:sl l[i].fText (k:Int) ((k+1:Nat):Int)=[l[i].fText[k]]:=by unfold sl;rw[cg,cg,lF h2,List.drop_left' (by rw[zh];omega)]
 rw[NL]at hw;intro a w G hr;refine wp_mono (AW.rt vn hi (m':=[(0,.dat (.bz iC) l),(3,.iW 0 (Ts o.1+1) cap),(4,.dat (.int .i64) ((i:Nat):Int)),(5,.dat (.int .i64) ((k:Nat):Int))]) hw a w G hr) λe a' w' hp=>?_;obtain⟨x,s,G',he,hr',rfl,rfl⟩:=hp
 have hr2:=hr'.alW hg (by
  intro p hp;simp only[hU,Dd,De]at hp;rcases hp with rfl|rfl|rfl|rfl
  ·exact .inl ⟨_,_,rfl⟩
  ·exact .inr ⟨_,_,_,rfl⟩
  ·exact .inl ⟨_,_,rfl⟩
  ·exact .inl ⟨_,_,rfl⟩)
 cases e<;>try (exact he.elim)
 refine⟨.normal,_,_,trivial,hr2,rfl,cap,aG+1,?_⟩;unfold mD SP;rw[hb];rfl
theorem alX(hi:G0.i=[]){i k cap aG:Nat}{o:J (J aB)×J aB}(h1:i<Ts l)(h2:k<l[i].fText.length)(h3:HE o<=1000000000)(hb:(l[i].fText[k]==47)=hJ):
  AW prog w0 G0 (cB 18 215442) (SP l i k o cap aG) (λx s=>x=.normal/\∃cap' wX,s=SP l i k (mD l[i].aI o l[i].fText[k]) cap' wX):=by
 have hlx:Ts o.1+Ts o.2<=1000000000:=h3;have hw:=AW.alY (w0:=w0) (G0:=G0) (P:=prog) (c:=(cB 18 215442)) Fq (n:=85) (t:=79) (e:=75) (e2:=113) (j3:=3) (FR:=53) (HF:=54) (O1:=55) kr kr (cl:={callee:=.builtin .append,args:=#[.tmp 53,.tmp 54],argTypes:=#[79,79]}) rfl rfl rfl
  (j1:=1) (j2:=24) (z:=.slice iF 0 0) kr (ie:=⟨.slice 113,1,24,.slice iF 0 0⟩) kr rfl rfl iC (m0:=[(0,.dat (.bz iC) l),(4,.dat (.int .i64) ((i:Nat):Int)),(5,.dat (.int .i64) ((k:Nat):Int))]) (by
   intro p hp;simp only[hU,Dd,De]at hp;rcases hp with rfl|rfl|rfl<;>exact⟨_,_,rfl⟩) ⟨om,om,om,om⟩ hi (cap:=cap) (aG:=aG) (xs:=o.1) (last:=o.2) rfl (by show(Ts o.1+2)*24<=_;omega) (by show o.1.length+2<=_;omega) (by
   intro c' p hp;simp only[rY,pN,hU,Dd,De]at hp;rcases hp with rfl|rfl|rfl|rfl<;>rfl) (by
   intro p hp;simp only[hU,Dd,De]at hp;rcases hp with rfl|rfl|rfl<;>rfl)
 refine AW.sub hi (m':=[(0,.dat (.bz iC) l),(4,.dat (.int .i64) ((i:Nat):Int)),(5,.dat (.int .i64) ((k:Nat):Int))]++[(3,.iW 0 (Ts o.1+1) cap)]) (by
   intro p hp;simp only[rY,pN,hU,Dd,De]at hp;rcases hp with rfl|rfl|rfl|rfl<;>rfl) ?_
 intro a w G hr;refine wp_mono (hw a w G hr) λe a' w' hp=>?_;obtain⟨x,s,G',he,hr',rfl,c',rfl⟩:=hp;have hs:mD l[i].aI o l[i].fText[k]=(o.1++[o.2],[]):=by unfold mD;rw[hb];rfl
 have hr2:=hr'.auP hi (m':=[(0,.dat (.bz iC) l),(3,.iW 0 (Ts o.1+2) c'),(4,.dat (.int .i64) ((i:Nat):Int)),(5,.dat (.int .i64) ((k:Nat):Int))]) (by
   intro p hp;simp only[hU,Dd,De]at hp;rcases hp with rfl|rfl|rfl|rfl<;>rfl)
 cases e<;>try (exact he.elim)
 refine⟨.normal,_,_,trivial,hr2,rfl,c',aG+1,?_⟩;rw[hs];unfold SP;simp only[nX,qi,Dc];rfl
theorem apc(hi:G0.i=[])(hg:G0.g=[]){i k cap aG:Nat}{o:J (J aB)×J aB}(h1:i<Ts l)(h2:k<=l[i].fText.length)(h3:HE o<=1000000000)(h4:l[i].fText.length<=1000000000):
  AW prog w0 G0 (cB 13 6732) (SP l i k o cap aG) (λx s=>(x=.normal/\∃h:k<l[i].fText.length,∃cap' wX,s=SP l i (k+1) (mD l[i].aI o l[i].fText[k]) cap' wX)\/(x=.exit 2/\k=l[i].fText.length/\s=stI l i o cap aG)):=by
 rw[eIB];refine AW.seq ?_;have hw7:=atb l i k cap aG o.1 o.2;rw[cE (U8 h1),abl h1]at hw7;refine AW.Fs (Q':=λx s=>s=_) (AW.rt vn hi (m':=[(0,.dat (.bz iC) l),(3,.iW 0 (Ts o.1+1) cap),(4,.dat (.int .i64) ((i:Nat):Int)),(5,.dat (.int .i64) ((k:Nat):Int)),(42,.dat .bool (eK (((k:Nat):Int)<(l[i].fText.length:Int))))]) hw7) ?_;rintro _ rfl;refine AW.cond (b:=eK (((k:Nat):Int)<(l[i].fText.length:Int))) rfl ?_;by_cases hk:k<l[i].fText.length
 ·rw[eN (show((k:Nat):Int)<(l[i].fText.length:Int) by omega),if_pos rfl];refine AW.skip (.inl ⟨rfl,?_⟩);refine AW.Fs (Q':=λx s=>∃cap' wX,s=SP l i k (mD l[i].aI o l[i].fText[k]) cap' wX) ?_ ?_
  ·refine AW.block ?_;rw[eB3];have hw9:=atc l i k cap aG o.1 o.2;rw[cE (U8 h1),abl h1,cE (U8 hk),atf hk,qo _ 47 om]at hw9
   refine AW.sub hi (m':=[(0,.dat (.bz iC) l),(3,.iW 0 (Ts o.1+1) cap),(4,.dat (.int .i64) ((i:Nat):Int)),(5,.dat (.int .i64) ((k:Nat):Int))]) (by
    intro p hp;simp only[hU,Dd,De]at hp;rcases hp with rfl|rfl|rfl|rfl<;>rfl) ?_
   refine AW.Fs (Q':=λx s=>s=_) (AW.rt vn hi (m':=[(0,.dat (.bz iC) l),(3,.iW 0 (Ts o.1+1) cap),(4,.dat (.int .i64) ((i:Nat):Int)),(5,.dat (.int .i64) ((k:Nat):Int)),(52,.dat .bool (l[i].fText[k]==47))]) hw9) ?_;rintro _ rfl;refine AW.cond (b:=(l[i].fText[k]==47)) rfl ?_
   refine AW.sub hi (m':=[(0,.dat (.bz iC) l),(3,.iW 0 (Ts o.1+1) cap),(4,.dat (.int .i64) ((i:Nat):Int)),(5,.dat (.int .i64) ((k:Nat):Int))]) (by
    intro p hp;simp only[hU,Dd,De]at hp;rcases hp with rfl|rfl|rfl|rfl<;>rfl) ?_
   cases hb:(l[i].fText[k]==47)with
   | true=>rw[if_pos rfl];exact(alX hi h1 hk h3 hb).mono λx s hq=>.inr ⟨(λe=>by rw[hq.1]at e;cases e),hq.1,hq.2⟩
   | false=>rw[if_neg de];exact(alV hi hg h1 hk h3 h4 hb).mono λx s hq=>.inr ⟨(λe=>by rw[hq.1]at e;cases e),hq.1,hq.2⟩
  ·rintro _ ⟨cap',wX,rfl⟩;have hw8:=atd l i k cap' wX (mD l[i].aI o l[i].fText[k]).1 (mD l[i].aI o l[i].fText[k]).2;rw[bW om]at hw8;refine(AW.rt vn hi (m':=[(0,.dat (.bz iC) l),(3,.iW 0 ((mD l[i].aI o l[i].fText[k]).1.length+1) cap'),(4,.dat (.int .i64) ((i:Nat):Int)),(5,.dat (.int .i64) ((k+1:Nat):Int))]) hw8).mono ?_;rintro x s ⟨rfl,rfl⟩;exact .inl ⟨rfl,hk,cap',wX,rfl⟩
 ·rw[sZ (show ¬ ((k:Nat):Int)<(l[i].fText.length:Int) by omega),if_neg de]
  refine AW.sub hi (m':=[(0,.dat (.bz iC) l),(3,.iW 0 (Ts o.1+1) cap),(4,.dat (.int .i64) ((i:Nat):Int))]) (by
    intro p hp;simp only[hU,Dd,De]at hp;rcases hp with rfl|rfl|rfl<;>rfl) ?_
  exact AW.exit (.inr ⟨(λe=>by cases e),.inr ⟨rfl,om,rfl⟩⟩)
theorem apd(hi:G0.i=[])(hg:G0.g=[]){i cap aG:Nat}(h1:i<Ts l)(h3:bV l<=1000000000):
  AW prog w0 G0 (.block 1 (cB 9 420)) (stI l i (gj (l.take i)) cap aG) (λx s=>x=.normal/\∃cap' wX,s=stI l i (gj (l.take (i+1))) cap' wX):=by
 have hsz:=sn l i h1;have hle:=vO l (i+1);have hO:HE (gj (l.take i))<=bV (l.take i):=by have:=TP (l.take i) ([],[]);simpa[gj,HE]using this
 have h4:l[i].fText.length<=1000000000:=om;refine AW.block ?_;rw[eB1];refine AW.seq ?_;have hw5:=as9 l i cap aG (gj (l.take i)).1 (gj (l.take i)).2;rw[cE (U8 h1),abl h1]at hw5;simp only[cE (U8 h1)]at hw5;obtain⟨b,hb⟩:∃b,b=(l[i].aI != 0&&(l[i].aI != 1&&l[i].aI != 2)):=⟨_,rfl⟩;refine AW.Fs (Q':=λx s=>s=_) (AW.rt vn hi (m':=[(0,.dat (.bz iC) l),(3,.iW 0 ((gj (l.take i)).1.length+1) cap),(4,.dat (.int .i64) ((i:Nat):Int)),(34,.dat .bool b)]) (H':=[.mI 75 cap (.bz iC) (gj (l.take i)).1 (.cH 0 aG iC (gj (l.take i)).2)]) (g':=[⟨aG,113,2⟩]) (hw5.trans ?_)) ?_
 ·rw[hb];cases (l[i].aI != 0)
  ·rfl
  ·cases (l[i].aI != 1)
   ·rfl
   ·rfl
 rintro _ rfl;refine AW.cond (b:=b) rfl ?_
 refine AW.sub hi (m':=[(0,.dat (.bz iC) l),(3,.iW 0 ((gj (l.take i)).1.length+1) cap),(4,.dat (.int .i64) ((i:Nat):Int))]) (by
   intro p hp;simp only[hU,Dd,De]at hp;rcases hp with rfl|rfl|rfl<;>rfl) ?_
 cases SQ:b with
 | true=>rw[if_pos rfl];refine AW.exit (.inr ⟨(λe=>by cases e),.inl ⟨rfl,rfl,cap,aG,?_⟩⟩);rw[U7 l i h1];unfold wz;rw[<-hb,SQ];rfl
 | false=>
  rw[if_neg de];refine AW.skip (.inl ⟨rfl,?_⟩);have hw6:=ata l i cap aG (gj (l.take i)).1 (gj (l.take i)).2;refine AW.Fs (Q':=λx s=>s=_) (AW.rt vn hi (m':=[(0,.dat (.bz iC) l),(3,.iW 0 ((gj (l.take i)).1.length+1) cap),(4,.dat (.int .i64) ((i:Nat):Int)),(5,.dat (.int .i64) 0)]) hw6) ?_;rintro _ rfl;refine AW.block ?_;refine AW.loop (ι:=Nat×Nat×Nat) (λx=>SP l i x.1 ((l[i].fText.take x.1).foldl (mD l[i].aI) (gj (l.take i))) x.2.1 x.2.2) (λx=>x.1<=l[i].fText.length) (λx=>l[i].fText.length-x.1) (0,cap,aG) (fq _) rfl ?_;rintro⟨k,auQ,auR⟩ hk;dsimp only at hk⊢
  refine(apc hi hg h1 hk (by
   have:=TO l[i].aI (l[i].fText.take k) (gj (l.take i));have h5:(l[i].fText.take k).length<=l[i].fText.length:=by rw[zh];omega
   omega) h4).mono ?_
  rintro x s (⟨rfl,hlt,cap',wX,rfl⟩|⟨rfl,hke,rfl⟩)
  ·exact .inl ⟨rfl,(k+1,cap',wX),hlt,by dsimp only;omega,by rw[Xs _ _ _ _ hlt]⟩
  ·subst hke;refine .inr ⟨λe=>(by cases e),.inl ⟨rfl,.inr ⟨λe=>(by cases e),rfl,auQ,auR,?_⟩⟩⟩;rw[U7 l i h1,s7];unfold wz;rw[<-hb,SQ];rfl
theorem alZ(hi:G0.i=[])(hg:G0.g=[])(h2:Ts l<=1000000000)(h3:bV l<=1000000000):
  AW prog w0 G0 (Tryz.f48.body.getD .skip) (SS (E:=E) 85 [(0,.dat (.bz iC) l)] [] []) (λx s=>x=.ret/\∃cap aG,s=SS (E:=E) 85 [(0,.dat (.bz iC) l),(2,.iW 0 ((gj l).1.length+1) cap)] [.mI 75 cap (.bz iC) (gj l).1 (.cH 0 aG iC (gj l).2)] [⟨aG,113,2⟩]):=by
 rw[eC];refine AW.Fs (Q':=λx s=>s=_) (AW.rt vn hi (m':=[(0,.dat (.bz iC) l)]) (as6 l)) ?_;rintro _ rfl
 refine AW.Fs (Q':=λx s=>s=_) (AW.aq6 (c:=(cB 2 2)) (n:=85) (t:=79) (e:=75) 113 (j3:=3) (j6:=6) kr kr (j1:=1) (j2:=24) (z:=.slice iF 0 0) kr (ie:=⟨.slice 113,1,24,.slice iF 0 0⟩) kr rfl iC
  (m':=[(0,.dat (.bz iC) l),(3,.iW 0 1 1)]) om hi (by
   intro p hp;simp only[hU,Dd,De]at hp;rcases hp with rfl|rfl<;>rfl)) ?_
 rintro _ rfl;refine AW.Fs (Q':=λx s=>∃cap aG,s=stI l l.length (gj l) cap aG) ?_ ?_
 ·refine AW.Fs (Q':=λx s=>s=stI l 0 (gj (l.take 0)) 1 0) ((AW.rt vn hi (m':=[(0,.dat (.bz iC) l),(3,.iW 0 1 1),(4,.dat (.int .i64) 0)]) (as7 l 1 0 [] [])).mono λx s hq=>hq) ?_;rintro _ rfl;refine AW.block ?_;refine AW.loop (ι:=Nat×Nat×Nat) (λx=>stI l x.1 (gj (l.take x.1)) x.2.1 x.2.2) (λx=>x.1<=Ts l) (λx=>Ts l-x.1) (0,1,0) (fq _) rfl ?_;rintro⟨i,cap,aG⟩ hil;dsimp only at hil⊢;rw[eOB];refine AW.seq ?_;refine AW.Fs (Q':=λx s=>s=_) (AW.rt vn hi (m':=[(0,.dat (.bz iC) l),(3,.iW 0 ((gj (l.take i)).1.length+1) cap),(4,.dat (.int .i64) ((i:Nat):Int)),(10,.dat .bool (eK (((i:Nat):Int)<(Ts l:Int))))]) (as8 l i cap aG (gj (l.take i)).1 (gj (l.take i)).2)) ?_;rintro _ rfl;refine AW.cond (b:=eK (((i:Nat):Int)<(Ts l:Int))) rfl ?_
  refine AW.sub hi (m':=[(0,.dat (.bz iC) l),(3,.iW 0 ((gj (l.take i)).1.length+1) cap),(4,.dat (.int .i64) ((i:Nat):Int))]) (by
   intro p hp;simp only[hU,Dd,De]at hp;rcases hp with rfl|rfl|rfl<;>rfl) ?_
  by_cases h1:i<Ts l
  ·rw[eN (show((i:Nat):Int)<(Ts l:Int) by omega),if_pos rfl];refine AW.skip (.inl ⟨rfl,?_⟩);refine AW.Fs (apd hi hg h1 h3) ?_;rintro _ ⟨cap',wX,rfl⟩;have hw4:=ate l i cap' wX (gj (l.take (i+1))).1 (gj (l.take (i+1))).2;rw[bW om]at hw4;refine(AW.rt vn hi (m':=[(0,.dat (.bz iC) l),(3,.iW 0 ((gj (l.take (i+1))).1.length+1) cap'),(4,.dat (.int .i64) ((i+1:Nat):Int))]) hw4).mono ?_;rintro x s ⟨rfl,rfl⟩;exact .inl ⟨rfl,(i+1,cap',wX),h1,by dsimp only;omega,rfl⟩
  ·rw[sZ (show ¬ ((i:Nat):Int)<(Ts l:Int) by omega),if_neg de];obtain rfl:i=Ts l:=om;refine AW.exit (.inr ⟨λe=>(by cases e),.inr ⟨λe=>(by cases e),.inl ⟨rfl,rfl,cap,aG,?_⟩⟩⟩);rw[s7];rfl
 ·rintro _ ⟨cap,aG,rfl⟩;refine AW.Fs (Q':=λx s=>s=_) (AW.rt vn hi (m':=[(0,.dat (.bz iC) l),(2,.iW 0 ((gj l).1.length+1) cap)]) (aq5 l l.length cap aG (gj l).1 (gj l).2)) ?_;rintro _ rfl;exact AW.ret ⟨rfl,cap,aG,rfl⟩
end
def aot(E:TEnv)(ix:Nat)(f:H5)(F:Nat)(m:Nat->J ((Ty.ext ix).den E.D)->O (J (J ((Ty.ext ix).den E.D)))):bQ E:=⟨⟨f,[.one (.dat (.bz (.ext ix)))],[],[],⟨.one (.dat (.bz (.bz (.ext ix)))),[],[],[]⟩,iF,[]⟩,λ(x:J ((Ty.ext ix).den E.D))=>m F x⟩
theorem ape(F:Nat):(aot E 17 48 F Rv).Ok prog:=by
 have key:∀(l:J aB)(y:J (J aB)),Rv F l=iN y->mL (E:=E) prog 48 [.dat (.bz iC) l] [] [] [] ⟨hJ,.dat (.bz (.bz iC)) y,[],[],[],[]⟩:=by
  intro l y hy;obtain⟨h1,h2⟩:=dX hy;rw[cK,fW,fW]at h1;cases h2;intro w G args hP hB hS hV;have hi:G.i=[]:=HA hB.len;have hg:G.g=[]:=by have:=hB.gs;simpa using this
  have HG:=Rel.Mn (n:=Tryz.f48.ntmps) hP hB hS hV;have hb:Tryz.f48.body=iN (Tryz.f48.body.getD .skip):=by kernel_rfl
  refine uM func48 hb kr (calls_of_wp func48 hb ?_);have fB:Rel E w G (SS (E:=E) 85 [(0,.dat (.bz iC) l)] [] []) _ w G:=HG;refine wp_mono (alZ (l:=l) hi hg h1.1 h1.2 _ w G fB) λe a' w' hp=>?_;obtain⟨x,s,G',he,hr,rfl,cap,aG,rfl⟩:=hp;have Kq:a'.defers=[]:=by have:=hr.defers;cases hd:a'.defers with|nil=>rfl|cons d ds=>rw[hd]at this;exact this.elim
  obtain⟨v,hv,hrun⟩:=Br (fn:=Tryz.f48) vn hr (ds:=[.iW 0 ((gj l).1.length+1) cap]) kr;obtain⟨G2,q1,q2,q3,q4⟩:=apf (j:=2) hr hi hg rfl;cases e<;>try (exact he.elim)
  have NM:v=a'.tmps.getD 2 M2:=by have h3:=hr.tmps 2 (.iW 0 ((gj l).1.length+1) cap) rfl;simp only[sr,VT]at hv h3;obtain⟨b,wk,wY⟩:=hv;obtain⟨b',sE,nP⟩:=h3;rw[wY]at nP;cases nP;rw[wk,sE]
  subst NM;exact⟨Kq,_,hrun,_,G2,rfl,q1,q2,q3,q4,λq b hq=>by rw[hi]at hq;cases hq⟩
 intro x y hy;exact key x y hy
