import Derived.Test.YtjfbblgjjdgjdaaGreatDoorTy
import Derived.Test.YtjfbblgjjdgjdaaGreatDoorSo
open Array renaming replicate->lA
open Nat renaming ble->iO,beq->eI,blt->dE
open Option renaming some->iN,none->iF
open Bool renaming true->hJ,false->eQ
open Decidable renaming decide->eK
open Int renaming toNat->eJ
open Go.IntKind renaming wrap->dO
open Go renaming undef->M2,FuncId->H5
open List renaming length->Ts
set_option linter.all false
set_option maxRecDepth 100000
namespace Go.Proofs.YtjfbblgjjdgjdaaGreatDoor
open Go.Proofs.Tryz
open Go.RT
noncomputable section
variable (F : Nat)
def sw:=Y6
def Sr:bQ E:=ibC E 356 F
theorem O3:(Sr F).Ok pg:=as3 (λargs w=>by rw[run_callFunc_extern func356 kr kr kr (e:=Extern.BytealgIndexByte.indexByte) kr]) F
def aeD(F:Nat):bQ E:=⟨⟨218,[.one (.dat .str)],[],[],⟨.one (.any),[],[],[]⟩,iF,[]⟩,λ_=>iF⟩
def O4:(aeD F).Ok pg:=λx y h=>nomatch (show iF=iN y from h)
def stringslite_IndexByte(a0:Bs)(a1:Int):O Int:=wx (wm (sw F a0 a1))
def I3:bQ E:=⟨sh 302 [oS,.one (.dat (.int .u8))] oI,u2 (stringslite_IndexByte F)⟩
def wU:(I3 F).Ok pg:=dG F lf (cu (O3 F) iP) func302
def strings_IndexByte(a0:Bs)(a1:Int):O Int:=wx (wm (stringslite_IndexByte F a0 a1))
def Ox:bQ E:=⟨sh 332 [oS,.one (.dat (.int .u8))] oI,u2 (strings_IndexByte F)⟩
def Bq:(Ox F).Ok pg:=dG F lf (cu (wU F) iP) func332
def tD(F:Nat)(a0:Int):O Bool:=wx (wv (wa (0<=a0)<|ws (eK (a0<55296))) λx1=>wo x1<|wv (wa (57343<a0)<|ws (eK (a0<=1114111))) λx2=>wo x2<|ws eQ)
def TP:bQ E:=⟨sh 355 [.one (.dat (.int .i32))] oB,tD F⟩
def Ss:(TP F).Ok pg:=dG F (qa (qs (qs (.region [rb 6 9]) (.cond lf (qs (.region [rb 6 16]) lf))) lf)) iP func355
def j8(a0:Bs)(a1:Int):O Int:=wx (wt a0.length λe=>wt (Ts (nI a1):Int) λd=>wt (aE (d-1)) λc=>wt (((nI a1).getD c.toNat 0).toNat:Int) λf=>wv (wa (0<=a1)<|ws (eK (a1<128))) λx1=>wc x1 (wm (strings_IndexByte F a0 (dO .u8 a1)))<|wc (a1==65533) (iJ Bs Int (λmD a b=>wt b.toNat λg=>wc (dE g a.length) (wc (((dec a g).1:Int)==65533) (ws ((g:Nat):Int))<|ww<|mD (a,((g+(dec a g).2:Nat):Int)))<|ws (-1)) F (a0,((0:Nat):Int)))<|wb (tD F a1) λx5=>wc (!x5) (ws (-1))<|wl Int (λyZ x6=>wt (aE (x6+1)) λh=>wc (x6<e) (ww<|jj (σ:=Int) (rq (0<=x6&&x6<e) (rq (0<=c&&c<d) (cond (((a0.getD x6.toNat 0).toNat:Int)!=f) (rq (0<=h&&(h<=e&&(e:Int)<=(e:Int))) (rq (0<=c&&c<d) ((strings_IndexByte F (sl a0 h (e:Int)) f).bind λx9=>cond (x9<0) (iN (.inr (-1))) (iN (.inl (aE (x6+aE (x9+1)))))))) (iN (.inl x6))))) λx8=>bW (σ:=Int) (λahi cA=>cond (cA<d) (rq (0<=aE (x8-cA)&&aE (x8-cA)<e) (rq (0<=aE (c-cA)&&aE (c-cA)<d) (cond (((a0.getD (aE (x8-cA)).toNat 0).toNat:Int)!=(((nI a1).getD (aE (c-cA)).toNat 0).toNat:Int)) iF (ahi (aE (cA+1)))))) (iN (aE (x8-c)))) F 1)<|ws (-1)) F c)
def Oy:bQ E:=⟨sh 300 [oS,.one (.dat (.int .i32))] oI,u2 (j8 F)⟩
def Mn:(Oy F).Ok pg:=dG F (qa (qs (.region [rb 6 166]) (.cond lf (qa (.cond (qs (qa (.loop [] ⟨[],[iN (.iter)],[],[]⟩ lf)) lf) (qa (.cond lf (qa (qa (qa (qa (qs (.loop [] (ct [(9,oI)]) (qa (.seq [] (iN ((ct [(9,oI)]),hJ)) (qs (.draw [⟨hJ,7,iF⟩]) (.cond (qs (.draw [⟨hJ,7,iF⟩,⟨eQ,2,iF⟩]) lf) lf)) (qs (qa (.loop [] (ct [(12,oI)]) (qa (qs (qs (.draw [⟨hJ,11,iF⟩]) lf) lf)))) lf)))) lf)))))))))))) (cu (Bq F) (cu (Ss F) iP)) func300
def strings_shouldUseASCIISet(F:Nat)(a0:Int):O Bool:=iN (eK (8<a0))
def EC:bQ E:=⟨sh 301 [oI] oB,strings_shouldUseASCIISet F⟩
def De:(EC F).Ok pg:=dG F lf iP func301
def strings_IndexAny(a0 a1:Bs):O Int:=wx (wt (Ts a1:Int) λe=>wt (dO .i32 ((a1.getD 0 0).toNat:Int)) λc=>wc (a1==[]) (ws (-1))<|wc (e==1) (wq (0<e)<|wv (wc (128<=c) (ws 65533)<|ws c) λx1=>wm (j8 F a0 x1))<|wb (strings_shouldUseASCIISet F (Ts a0:Int)) λx3=>wc x3 wn<|iJ Bs Int (λwV a b=>wt b.toNat λd=>wc (dE d a.length) (wb (j8 F a1 ((dec a d).1:Int)) λx6=>wc (0<=x6) (ws ((d:Nat):Int))<|ww<|wV (a,((d+(dec a d).2:Nat):Int)))<|ws (-1)) F (a0,((0:Nat):Int)))
def O5:bQ E:=⟨sh 239 [oS,oS] oI,u2 (strings_IndexAny F)⟩
def Oz:(O5 F).Ok pg:=dG F (qa (qa (qs (qa (.cond (qa (.seq [] (iN ((ct [(5,.one (.dat (.int .i32)))]),eQ)) lf lf)) lf)) (qa (qs (qa (.loop [] ⟨[],[iN (.iter)],[],[]⟩ lf)) lf))))) (cu (Mn F) (cu (De F) (cu (O4 F) iP))) func239
end
open Go.RT Go.RowKit Go.Maps Go.Sort Go.Shelf
open Go.Proofs (encStr)
theorem aqZ:Builder.Extra prog Tryz.Y7:={
 sizeBuilder:=by kernel_rfl
 liesBuilder:=by kernel_rfl
 t5:=underlying5
 a5:=Tryz.isAgg5
 z5:=Tryz.sizeOf5
 v5:=Tryz.zeroValue5
 infoByte:=by kernel_rfl
 cellsByte:=by kernel_rfl
 sizeByte:=by kernel_rfl
 neB5:=by decide}
theorem ajz:abJ prog 70:=⟨qO func70 kr kr,λbk o c xs sep w h1 h2 h3 h4 h5=>Any.strings_Join Tryz.aor aqZ bk o c xs sep w h1 h2 h3 h4 h5,λa c sep w=>Any.strings_Join_none Tryz.aor aqZ a c sep w⟩
theorem as4:aos prog 246:=⟨qO func246 kr kr,λs c w h=>Any.strings_LastIndexByte Tryz.auJ s c h w⟩
theorem aq0:ajA prog 73:=⟨qO func73 kr kr,λblk cap ss w h1 h2 h3=>AnyM.slices_Sort_string Tryz.abm blk 0 cap ss w h1 h2 h3,λp cap w=>AnyM.slices_Sort_string_none Tryz.abm p cap w⟩
theorem Y8{w:U}{G:bB}(hP:qP E w G):∃m,w.cell? ⟨0,0,iF⟩=iN (.int .i64 m):=by obtain⟨cs,t,m,h1,n,h2⟩:=(hP 0 _ rfl).1;exact⟨n,by simp[World.cell?,h1,h2]⟩
theorem splitAt:afL E prog 114 9:=
 ⟨qO func114 kr kr,λs sep w G hP h1 h2=>by
  obtain⟨m,hm⟩:=Y8 hP;exact Any.strings_Split Tryz.aq1 kr s sep m w h1 hm h2,
  λs sep h=>Lib.splitB_all sep h 0 _ s rfl,λs sep h=>Lib.countB_le sep h s.size s (ep _)⟩
theorem cutAt:aot E prog 117:=
 ⟨qO func117 kr kr,λs sep w G hP h=>by
  obtain⟨m,hm⟩:=Y8 hP;exact Any.strings_Cut Tryz.auK s sep m w h hm⟩
def abK(F:Nat)(s cs:Bs):O Int:=cond (iO s.length 8) (strings_IndexAny F s cs)
 (rq (eK (Ts s<4294967281)&&(eK (2<=Ts cs)&&(eK (Ts cs<4294967281)&&cs.all λb=>eK (b.toNat<128)))) (iN (Lib.indexAny s cs)))
def aq2(E:TEnv)(f:H5)(F:Nat):bQ E:=⟨⟨f,[.one (.dat .str),.one (.dat .str)],[],[],⟨.one (.dat (.int .i64)),[],[],[]⟩,iF,[]⟩,λ(x:Bs×Bs)=>abK F x.1 x.2⟩
theorem aq3(F:Nat):(aq2 E 239 F).Ok prog:=by
 have key:∀(s cs:Bs)(y:Int),abK F s cs=iN y->mF (E:=E) prog 239 [.dat .str s,.dat .str cs] [] [] [] ⟨hJ,.dat (.int .i64) y,[],[],[],[]⟩:=by
  intro s cs y hy;unfold abK at hy;cases hb:iO s.length 8<;>rw[hb]at hy<;>simp only[aS,aJ]at hy
  ·obtain⟨h1,h2⟩:=dY hy;rw[cL,cL,cL,fV,fV,fV,pN]at h1;obtain⟨c1,c2,c3,c4⟩:=h1;cases h2;have h8:8<Ts s:=by
    rcases abe 8 s.length with h|h
    ·exact h
    ·rw[aaV h]at hb;cases hb
   refine D5 (qO func239 kr kr) λw G args hP hv=>⟨_,λw G=>.int w G .i64 (Lib.indexAny s cs),?_⟩;obtain⟨u,us,ha,wh,sx⟩:=hv.cons_inv;obtain⟨u2,U7,tE,FP,K6⟩:=sx.cons_inv;have K6:U7=[]:=by simpa only[bN]using K6
   have e1:=wh.iQ;have e2:=FP.iQ;subst e1 e2 K6 tE;have ha:args=#[mkStr s,mkStr cs]:=by apply US;exact ha
   subst ha;have hz:=zero_of_info (P:=prog) (t:=Tryz.afM.t 116) (v:=.agg (lA 256 (.bool eQ))) (n:=256) kr;refine(Any.strings_IndexAny_long Tryz.iaL hz.1 hz.2 ⟨⟨s⟩⟩ ⟨⟨cs⟩⟩ w c2 h8 c1 c3 λj b hb=>by simpa using c4 b (jO hb)).mono λe w' hh=>?_;obtain⟨q1,q2⟩:=hh;refine⟨q1,?_⟩;rw[q2];exact((Below.refl _ _).alloc (ep _) _).alloc si _
  ·exact Oz F (s,cs) y hy
 intro x y hy;exact key x.1 x.2 y hy
theorem auL:U8 prog 295:=⟨qO func295 kr kr,λblk cap zs w h1 h2=>AnyE.slices_Reverse Tryz.auM (Value.int .u8) (λ_=>rfl) blk 0 cap zs w h1 h2⟩
noncomputable abbrev cX:Cx E:=⟨prog,Jg,[],[],iF⟩
abbrev vI(n:Int):TV E:=.dat (.int .i64) n
abbrev vB(b:Bool):TV E:=.dat .bool b
abbrev vL(l:J aB):TV E:=.dat (.bz (.ext 17)) l
abbrev vH(xs:J (J aB))(cap:Nat):TV E:=.iU 0 (Ts xs+1) cap
abbrev nR(cap aG:Nat)(xs:J (J aB))(last:J aB):gj E:=.mE 75 cap (.bz (.ext 17)) xs (.cG 0 aG (.ext 17) last)
abbrev gR(aG:Nat):cV:=⟨aG,113,2⟩
noncomputable abbrev cR(c:Code)(p:fq)(s:TS E)(js:J Nat):=Go.RT.runT cX 0 c p s (proj js)
def cP:Code->J Bool->Code|.seq a _,eQ::p=>cP a p|.seq _ b,hJ::p=>cP b p|.cond _ a _,eQ::p=>cP a p|.cond _ _ b,hJ::p=>cP b p|.block _ a,eQ::p=>cP a p|.loop a,eQ::p=>cP a p|c,_=>c
def bts:Nat->Nat->J Bool|0,_=>[]|k+1,n=>eI (n / 2^k%2) 1::bts k n
noncomputable abbrev cB(k n:Nat):Code:=cP (Tryz.f48.body.getD .skip) (bts k n)
theorem as5(l:J aB):cR (cB 1 0) (.leaf) (SS (E:=E) 85 [(0,vL l)] [] []) [0]=iN ([iN (vL l)],[],[],[],[]):=by kernel_rfl
theorem as6(l:J aB)(cap aG:Nat)(xs:J (J aB))(last:J aB):cR (cB 4 12) (.leaf) (SS (E:=E) 85 [(0,vL l),(3,vH xs cap)] [nR cap aG xs last] [gR aG]) [0,3,4]=iN ([iN (vL l),iN (vH xs cap),iN (vI 0)],[nR cap aG xs last],[gR aG],[],[]):=by kernel_rfl
theorem as7(l:J aB)(i cap aG:Nat)(xs:J (J aB))(last:J aB):cR (cB 8 208) (.leaf) (SS (E:=E) 85 [(0,vL l),(3,vH xs cap),(4,vI ((i:Nat):Int))] [nR cap aG xs last] [gR aG]) [0,3,4,10]=iN ([iN (vL l),iN (vH xs cap),iN (vI ((i:Nat):Int)),iN (vB (eK (((i:Nat):Int)<(Ts l:Int))))],[nR cap aG xs last],[gR aG],[],[]):=by kernel_rfl
theorem as8(l:J aB)(i cap aG:Nat)(xs:J (J aB))(last:J aB):cR (cB 11 1680) (.leaf) (SS (E:=E) 85 [(0,vL l),(3,vH xs cap),(4,vI ((i:Nat):Int))] [nR cap aG xs last] [gR aG]) [0,3,4,34]=rq ((eK (0<=((i:Nat):Int)))&&(eK (((i:Nat):Int)<(Ts l:Int)))) (cond (((l.getD (eJ ((i:Nat):Int)) dy).aI) != 0)
 (rq ((eK (0<=((i:Nat):Int)))&&(eK (((i:Nat):Int)<(Ts l:Int)))) (cond (((l.getD (eJ ((i:Nat):Int)) dy).aI) != 1)
 (rq ((eK (0<=((i:Nat):Int)))&&(eK (((i:Nat):Int)<(Ts l:Int)))) (iN ([iN (vL l),iN (vH xs cap),iN (vI ((i:Nat):Int)),iN (vB (((l.getD (eJ ((i:Nat):Int)) dy).aI) != 2))],[nR cap aG xs last],[gR aG],[],[])))
 (iN ([iN (vL l),iN (vH xs cap),iN (vI ((i:Nat):Int)),iN (vB eQ)],[nR cap aG xs last],[gR aG],[],[]))))
 (iN ([iN (vL l),iN (vH xs cap),iN (vI ((i:Nat):Int)),iN (vB eQ)],[nR cap aG xs last],[gR aG],[],[]))):=by kernel_rfl
theorem as9(l:J aB)(i cap aG:Nat)(xs:J (J aB))(last:J aB):cR (cB 11 1682) (.leaf) (SS (E:=E) 85 [(0,vL l),(3,vH xs cap),(4,vI ((i:Nat):Int))] [nR cap aG xs last] [gR aG]) [0,3,4,5]=iN ([iN (vL l),iN (vH xs cap),iN (vI ((i:Nat):Int)),iN (vI 0)],[nR cap aG xs last],[gR aG],[],[]):=by kernel_rfl
theorem ata(l:J aB)(i k cap aG:Nat)(xs:J (J aB))(last:J aB):cR (cB 15 26928) (.leaf) (SS (E:=E) 85 [(0,vL l),(3,vH xs cap),(4,vI ((i:Nat):Int)),(5,vI ((k:Nat):Int))] [nR cap aG xs last] [gR aG]) [0,3,4,5,42]=rq ((eK (0<=((i:Nat):Int)))&&(eK (((i:Nat):Int)<(Ts l:Int)))) (iN ([iN (vL l),iN (vH xs cap),iN (vI ((i:Nat):Int)),iN (vI ((k:Nat):Int)),iN (vB (eK (((k:Nat):Int)<(Ts ((l.getD (eJ ((i:Nat):Int)) dy).fText):Int))))],[nR cap aG xs last],[gR aG],[],[])):=by kernel_rfl
theorem atb(l:J aB)(i k cap aG:Nat)(xs:J (J aB))(last:J aB):cR (cB 17 107720) (.leaf) (SS (E:=E) 85 [(0,vL l),(3,vH xs cap),(4,vI ((i:Nat):Int)),(5,vI ((k:Nat):Int))] [nR cap aG xs last] [gR aG]) [0,3,4,5,52]=rq ((eK (0<=((i:Nat):Int)))&&(eK (((i:Nat):Int)<(Ts l:Int)))) (rq ((eK (0<=((k:Nat):Int)))&&(eK (((k:Nat):Int)<(Ts ((l.getD (eJ ((i:Nat):Int)) dy).fText):Int)))) (iN ([iN (vL l),iN (vH xs cap),iN (vI ((i:Nat):Int)),iN (vI ((k:Nat):Int)),iN (vB (((((l.getD (eJ ((i:Nat):Int)) dy).fText).getD (eJ ((k:Nat):Int)) 0).toNat:Int)==47))],[nR cap aG xs last],[gR aG],[],[]))):=by kernel_rfl
theorem aq4(l:J aB)(i k cap aG:Nat)(xs:J (J aB))(last:J aB):cR (cB 18 215443) (.fW [0] [28] [⟨[(0,hJ),(1,hJ),(2,hJ),(3,hJ),(4,hJ),(5,hJ),(6,hJ),(7,hJ),(8,hJ),(9,hJ),(10,hJ),(11,hJ),(12,hJ),(13,hJ),(14,hJ),(15,hJ),(16,hJ),(17,hJ),(18,hJ),(19,hJ),(20,hJ),(21,hJ),(22,hJ),(23,hJ),(24,hJ),(25,eQ),(26,eQ),(27,eQ),(28,eQ)],iF⟩]) (SS (E:=E) 85 [(0,vL l),(3,vH xs cap),(4,vI ((i:Nat):Int)),(5,vI ((k:Nat):Int))] [nR cap aG xs last] [gR aG]) [0,3,4,5]=rq ((eK (0<=aE (((Ts xs+1:Nat):Int)-1)))&&(eK (aE (((Ts xs+1:Nat):Int)-1)<((Ts xs+1:Nat):Int)))) (rq (eI (eJ (aE (((Ts xs+1:Nat):Int)-1))) xs.length) (rq ((eK (0<=((i:Nat):Int)))&&(eK (((i:Nat):Int)<(Ts l:Int)))) (rq ((eK (0<=((k:Nat):Int)))&&((eK (((k:Nat):Int)<=aE (((k:Nat):Int)+1)))&&(eK (aE (((k:Nat):Int)+1)<=(Ts ((l.getD (eJ ((i:Nat):Int)) dy).fText):Int))))) (rq ((eK (0<=((i:Nat):Int)))&&(eK (((i:Nat):Int)<(Ts l:Int)))) (rq ((eI aG aG)&&((eK (Ts last+Ts ([(aB.mk (sl ((l.getD (eJ ((i:Nat):Int)) dy).fText) ((k:Nat):Int) (aE (((k:Nat):Int)+1))) ((l.getD (eJ ((i:Nat):Int)) dy).aI))]:J aB)<=9223372036854775807))&&(eK ((Ts last+Ts ([(aB.mk (sl ((l.getD (eJ ((i:Nat):Int)) dy).fText) ((k:Nat):Int) (aE (((k:Nat):Int)+1))) ((l.getD (eJ ((i:Nat):Int)) dy).aI))]:J aB))*24<=140737488355328)))) (rq ((eK (0<=aE (((Ts xs+1:Nat):Int)-1)))&&(eK (aE (((Ts xs+1:Nat):Int)-1)<((Ts xs+1:Nat):Int)))) (rq (eI (eJ (aE (((Ts xs+1:Nat):Int)-1))) xs.length) (iN ([iN (vL l),iN (vH xs cap),iN (vI ((i:Nat):Int)),iN (vI ((k:Nat):Int))],[.mE 75 cap (.bz (.ext 17)) xs (.cG 0 (aG+1) (.ext 17) (last++([(aB.mk (sl ((l.getD (eJ ((i:Nat):Int)) dy).fText) ((k:Nat):Int) (aE (((k:Nat):Int)+1))) ((l.getD (eJ ((i:Nat):Int)) dy).aI))]:J aB)))],[⟨aG+1,113,2⟩,⟨0,113,2⟩],[],[]))))))))):=by kernel_rfl
theorem atc(l:J aB)(i k cap aG:Nat)(xs:J (J aB))(last:J aB):cR (cB 15 26931) (.leaf) (SS (E:=E) 85 [(0,vL l),(3,vH xs cap),(4,vI ((i:Nat):Int)),(5,vI ((k:Nat):Int))] [nR cap aG xs last] [gR aG]) [0,3,4,5]=iN ([iN (vL l),iN (vH xs cap),iN (vI ((i:Nat):Int)),iN (vI (aE (((k:Nat):Int)+1)))],[nR cap aG xs last],[gR aG],[],[]):=by kernel_rfl
theorem atd(l:J aB)(i cap aG:Nat)(xs:J (J aB))(last:J aB):cR (cB 8 211) (.leaf) (SS (E:=E) 85 [(0,vL l),(3,vH xs cap),(4,vI ((i:Nat):Int))] [nR cap aG xs last] [gR aG]) [0,3,4]=iN ([iN (vL l),iN (vH xs cap),iN (vI (aE (((i:Nat):Int)+1)))],[nR cap aG xs last],[gR aG],[],[]):=by kernel_rfl
theorem aq5(l:J aB)(i cap aG:Nat)(xs:J (J aB))(last:J aB):cR (cB 4 14) (.leaf) (SS (E:=E) 85 [(0,vL l),(3,vH xs cap),(4,vI ((i:Nat):Int))] [nR cap aG xs last] [gR aG]) [0,2]=iN ([iN (vL l),iN (vH xs cap)],[nR cap aG xs last],[gR aG],[],[]):=by kernel_rfl
def mw(c:Int)(o:J (J aB)×J aB)(b:UInt8):J (J aB)×J aB:=cond (b==47) (o.1++[o.2],[]) (o.1,o.2++[aB.mk [b] c])
def wk(o:J (J aB)×J aB)(r:aB):J (J aB)×J aB:=cond (r.aI != 0&&(r.aI != 1&&r.aI != 2)) o (r.fText.foldl (mw r.aI) o)
def gq(l:J aB):J (J aB)×J aB:=l.foldl wk ([],[])
def rK(l:J aB):J (J aB):=(gq l).1++[(gq l).2]
def bV(l:J aB):Nat:=(l.map λr=>Ts r.fText).sum
def Ry(F:Nat)(l:J aB):O (J (J aB)):=rq (eK (Ts l<=1000000000)&&eK (bV l<=1000000000)) (iN (rK l))
def HD(o:J (J aB)×J aB):Nat:=Ts o.1+Ts o.2
theorem alV(c:Int)(o:J (J aB)×J aB)(b:UInt8):HD (mw c o b)<=HD o+1:=by unfold mw HD;cases (b==47)<;>simp<;>omega
theorem TQ(c:Int):∀(t:Bs)(o:J (J aB)×J aB),HD (t.foldl (mw c) o)<=HD o+Ts t|[],o=>by simp|b::t,o=>by have h1:=TQ c t (mw c o b);have h2:=alV c o b;simp only[vZ,pM];omega
theorem alW(o:J (J aB)×J aB)(r:aB):HD (wk o r)<=HD o+Ts r.fText:=by
 unfold wk;cases (r.aI != 0&&(r.aI != 1&&r.aI != 2))
 ·exact TQ _ _ _
 ·simp
theorem TR:∀(l:J aB)(o:J (J aB)×J aB),HD (l.foldl wk o)<=HD o+bV l|[],o=>by simp[bV]|r::l,o=>by have h1:=TR l (wk o r);have h2:=alW o r;simp only[vZ,bV,jF,O0]at h1⊢;omega
theorem rX(l:J aB)(i:Nat)(h:i<Ts l):bV (l.take (i+1))=bV (l.take i)+l[i].fText.length:=by unfold bV;rw[kT h,pO,UZ];simp
theorem vM(l:J aB)(i:Nat):bV (l.take i)<=bV l:=by
 unfold bV
 conv=>rhs;rw[<-Kl i l]
 rw[pO,UZ];omega
theorem U9(l:J aB)(i:Nat)(h:i<Ts l):gq (l.take (i+1))=wk (gq (l.take i)) l[i]:=by unfold gq;rw[kT h,Mi];rfl
theorem Xu(c:Int)(t:Bs)(o:J (J aB)×J aB)(k:Nat)(h:k<Ts t):(t.take (k+1)).foldl (mw c) o=mw c ((t.take k).foldl (mw c) o) t[k]:=by rw[kT h,Mi];rfl
abbrev iA:Ty:=.ext 17
def vm:(⟨prog,Jg,[],[],iF⟩:Cx E).Ok:=⟨Fp,iP,mixed,goN,SQ⟩
def stI(l:J aB)(i:Nat)(o:J (J aB)×J aB)(cap aG:Nat):TS E:=SS (E:=E) 85 [(0,.dat (.bz iA) l),(3,.iU 0 (Ts o.1+1) cap),(4,.dat (.int .i64) ((i:Nat):Int))] [.mE 75 cap (.bz iA) o.1 (.cG 0 aG iA o.2)] [⟨aG,113,2⟩]
def SU(l:J aB)(i k:Nat)(o:J (J aB)×J aB)(cap aG:Nat):TS E:=SS (E:=E) 85 [(0,.dat (.bz iA) l),(3,.iU 0 (Ts o.1+1) cap),(4,.dat (.int .i64) ((i:Nat):Int)),(5,.dat (.int .i64) ((k:Nat):Int))] [.mE 75 cap (.bz iA) o.1 (.cG 0 aG iA o.2)] [⟨aG,113,2⟩]
theorem abn{l:J aB}{i:Nat}(h:i<Ts l):l.getD (eJ (i:Int)) dy=l[i]:=by simp[List.getD,h]
theorem ate{l:Bs}{i:Nat}(h:i<Ts l):l.getD (eJ (i:Int)) 0=l[i]:=by simp[List.getD,h]
theorem Va{i n:Nat}(h:i<n):(eK (0<=(i:Int))&&eK ((i:Int)<(n:Int)))=hJ:=by rw[eP om,eP om];rfl
section
variable {w0 : U} {G0 : bB} {l : J aB}
theorem eIB:(cB 13 6732)=.seq (.seq (cB 15 26928) (.cond (.tmp 42) .skip (.exit 2))) (.seq (.block 3 (cB 16 53860)) (cB 15 26931)):=by kernel_rfl
theorem eB3:(cB 16 53860)=.seq (cB 17 107720) (.cond (.tmp 52) (cB 18 215442) (cB 18 215443)):=by kernel_rfl
theorem eB1:(cB 9 420)=.seq (.seq (cB 11 1680) (.cond (.tmp 34) (.exit 1) .skip)) (.seq (cB 11 1682) (.block 2 (.loop (cB 13 6732)))):=by kernel_rfl
theorem eOB:(cB 6 52)=.seq (.seq (cB 8 208) (.cond (.tmp 10) .skip (.exit 0))) (.seq (.block 1 (cB 9 420)) (cB 8 211)):=by kernel_rfl
theorem eC:(Tryz.f48.body.getD .skip)=.seq (cB 1 0) (.seq (cB 2 2) (.seq (.seq (cB 4 12) (.block 0 (.loop (cB 6 52)))) (.seq (cB 4 14) .ret))):=by kernel_rfl
theorem alX(hi:G0.i=[])(hg:G0.g=[]){i k cap aG:Nat}{o:J (J aB)×J aB}(h1:i<Ts l)(h2:k<l[i].fText.length)(h3:HD o<=1000000000)(h4:l[i].fText.length<=1000000000)(hb:(l[i].fText[k]==47)=eQ):
  AW prog w0 G0 (cB 18 215443) (SU l i k o cap aG) (λx s=>x=.normal/\∃cap' wW,s=SU l i k (mw l[i].aI o l[i].fText[k]) cap' wW):=by
 have hw:=aq4 l i k cap aG o.1 o.2;have hlx:Ts o.1+Ts o.2<=1000000000:=h3;have e1:aE (((Ts o.1+1:Nat):Int)-1)=(Ts o.1:Int):=by rw[bO om];omega
 have e2:(Ts o.1:Int).toNat=Ts o.1:=b9 _
 rw[e1,e2,abn h1,bZ om,cy (Va (n:=Ts o.1+1) om),cy (OW _),cy (Va h1),wX om om om,cy (Va h1),
  cy (by rw[OW,eP aQ,eP aQ];rfl),cy (Va (n:=Ts o.1+1) om),cy (OW _)]at hw
 have NO:sl l[i].fText (k:Int) ((k+1:Nat):Int)=[l[i].fText[k]]:=by unfold sl;rw[b9,b9,kT h2,List.drop_left' (by rw[zi];omega)]
 rw[NO]at hw;intro a w G hr;refine wp_mono (AW.rt vm hi (m':=[(0,.dat (.bz iA) l),(3,.iU 0 (Ts o.1+1) cap),(4,.dat (.int .i64) ((i:Nat):Int)),(5,.dat (.int .i64) ((k:Nat):Int))]) hw a w G hr) λe a' w' hp=>?_;obtain⟨x,s,G',he,hr',rfl,rfl⟩:=hp
 have hr2:=hr'.alY hg (by
  intro p hp;simp only[hU,Dc,Dd]at hp;rcases hp with rfl|rfl|rfl|rfl
  ·exact .inl ⟨_,_,rfl⟩
  ·exact .inr ⟨_,_,_,rfl⟩
  ·exact .inl ⟨_,_,rfl⟩
  ·exact .inl ⟨_,_,rfl⟩)
 cases e<;>try (exact he.elim)
 refine⟨.normal,_,_,trivial,hr2,rfl,cap,aG+1,?_⟩;unfold mw SU;rw[hb];rfl
theorem alZ(hi:G0.i=[]){i k cap aG:Nat}{o:J (J aB)×J aB}(h1:i<Ts l)(h2:k<l[i].fText.length)(h3:HD o<=1000000000)(hb:(l[i].fText[k]==47)=hJ):
  AW prog w0 G0 (cB 18 215442) (SU l i k o cap aG) (λx s=>x=.normal/\∃cap' wW,s=SU l i k (mw l[i].aI o l[i].fText[k]) cap' wW):=by
 have hlx:Ts o.1+Ts o.2<=1000000000:=h3;have hw:=AW.al0 (w0:=w0) (G0:=G0) (P:=prog) (c:=(cB 18 215442)) Fp (n:=85) (t:=79) (e:=75) (e2:=113) (j3:=3) (FQ:=53) (HE:=54) (O6:=55) kr kr (cl:={callee:=.builtin .append,args:=#[.tmp 53,.tmp 54],argTypes:=#[79,79]}) rfl rfl rfl
  (j1:=1) (j2:=24) (z:=.slice iF 0 0) kr (ie:=⟨.slice 113,1,24,.slice iF 0 0⟩) kr rfl rfl iA (m0:=[(0,.dat (.bz iA) l),(4,.dat (.int .i64) ((i:Nat):Int)),(5,.dat (.int .i64) ((k:Nat):Int))]) (by
   intro p hp;simp only[hU,Dc,Dd]at hp;rcases hp with rfl|rfl|rfl<;>exact⟨_,_,rfl⟩) ⟨om,om,om,om⟩ hi (cap:=cap) (aG:=aG) (xs:=o.1) (last:=o.2) rfl (by show(Ts o.1+2)*24<=_;omega) (by show o.1.length+2<=_;omega) (by
   intro c' p hp;simp only[sU,oe,hU,Dc,Dd]at hp;rcases hp with rfl|rfl|rfl|rfl<;>rfl) (by
   intro p hp;simp only[hU,Dc,Dd]at hp;rcases hp with rfl|rfl|rfl<;>rfl)
 refine AW.sub hi (m':=[(0,.dat (.bz iA) l),(4,.dat (.int .i64) ((i:Nat):Int)),(5,.dat (.int .i64) ((k:Nat):Int))]++[(3,.iU 0 (Ts o.1+1) cap)]) (by
   intro p hp;simp only[sU,oe,hU,Dc,Dd]at hp;rcases hp with rfl|rfl|rfl|rfl<;>rfl) ?_
 intro a w G hr;refine wp_mono (hw a w G hr) λe a' w' hp=>?_;obtain⟨x,s,G',he,hr',rfl,c',rfl⟩:=hp;have hs:mw l[i].aI o l[i].fText[k]=(o.1++[o.2],[]):=by unfold mw;rw[hb];rfl
 have hr2:=hr'.auN hi (m':=[(0,.dat (.bz iA) l),(3,.iU 0 (Ts o.1+2) c'),(4,.dat (.int .i64) ((i:Nat):Int)),(5,.dat (.int .i64) ((k:Nat):Int))]) (by
   intro p hp;simp only[hU,Dc,Dd]at hp;rcases hp with rfl|rfl|rfl|rfl<;>rfl)
 cases e<;>try (exact he.elim)
 refine⟨.normal,_,_,trivial,hr2,rfl,c',aG+1,?_⟩;rw[hs];unfold SU;simp only[qg,pM,Da];rfl
theorem apd(hi:G0.i=[])(hg:G0.g=[]){i k cap aG:Nat}{o:J (J aB)×J aB}(h1:i<Ts l)(h2:k<=l[i].fText.length)(h3:HD o<=1000000000)(h4:l[i].fText.length<=1000000000):
  AW prog w0 G0 (cB 13 6732) (SU l i k o cap aG) (λx s=>(x=.normal/\∃h:k<l[i].fText.length,∃cap' wW,s=SU l i (k+1) (mw l[i].aI o l[i].fText[k]) cap' wW)\/(x=.exit 2/\k=l[i].fText.length/\s=stI l i o cap aG)):=by
 rw[eIB];refine AW.seq ?_;have hw7:=ata l i k cap aG o.1 o.2;rw[cy (Va h1),abn h1]at hw7;refine AW.Fq (Q':=λx s=>s=_) (AW.rt vm hi (m':=[(0,.dat (.bz iA) l),(3,.iU 0 (Ts o.1+1) cap),(4,.dat (.int .i64) ((i:Nat):Int)),(5,.dat (.int .i64) ((k:Nat):Int)),(42,.dat .bool (eK (((k:Nat):Int)<(l[i].fText.length:Int))))]) hw7) ?_;rintro _ rfl;refine AW.cond (b:=eK (((k:Nat):Int)<(l[i].fText.length:Int))) rfl ?_;by_cases hk:k<l[i].fText.length
 ·rw[eP (show((k:Nat):Int)<(l[i].fText.length:Int) by omega),if_pos rfl];refine AW.skip (.inl ⟨rfl,?_⟩);refine AW.Fq (Q':=λx s=>∃cap' wW,s=SU l i k (mw l[i].aI o l[i].fText[k]) cap' wW) ?_ ?_
  ·refine AW.block ?_;rw[eB3];have hw9:=atb l i k cap aG o.1 o.2;rw[cy (Va h1),abn h1,cy (Va hk),ate hk,qm _ 47 om]at hw9
   refine AW.sub hi (m':=[(0,.dat (.bz iA) l),(3,.iU 0 (Ts o.1+1) cap),(4,.dat (.int .i64) ((i:Nat):Int)),(5,.dat (.int .i64) ((k:Nat):Int))]) (by
    intro p hp;simp only[hU,Dc,Dd]at hp;rcases hp with rfl|rfl|rfl|rfl<;>rfl) ?_
   refine AW.Fq (Q':=λx s=>s=_) (AW.rt vm hi (m':=[(0,.dat (.bz iA) l),(3,.iU 0 (Ts o.1+1) cap),(4,.dat (.int .i64) ((i:Nat):Int)),(5,.dat (.int .i64) ((k:Nat):Int)),(52,.dat .bool (l[i].fText[k]==47))]) hw9) ?_;rintro _ rfl;refine AW.cond (b:=(l[i].fText[k]==47)) rfl ?_
   refine AW.sub hi (m':=[(0,.dat (.bz iA) l),(3,.iU 0 (Ts o.1+1) cap),(4,.dat (.int .i64) ((i:Nat):Int)),(5,.dat (.int .i64) ((k:Nat):Int))]) (by
    intro p hp;simp only[hU,Dc,Dd]at hp;rcases hp with rfl|rfl|rfl|rfl<;>rfl) ?_
   cases hb:(l[i].fText[k]==47)with
   | true=>rw[if_pos rfl];exact(alZ hi h1 hk h3 hb).mono λx s hq=>.inr ⟨(λe=>by rw[hq.1]at e;cases e),hq.1,hq.2⟩
   | false=>rw[if_neg de];exact(alX hi hg h1 hk h3 h4 hb).mono λx s hq=>.inr ⟨(λe=>by rw[hq.1]at e;cases e),hq.1,hq.2⟩
  ·rintro _ ⟨cap',wW,rfl⟩;have hw8:=atc l i k cap' wW (mw l[i].aI o l[i].fText[k]).1 (mw l[i].aI o l[i].fText[k]).2;rw[bZ om]at hw8;refine(AW.rt vm hi (m':=[(0,.dat (.bz iA) l),(3,.iU 0 ((mw l[i].aI o l[i].fText[k]).1.length+1) cap'),(4,.dat (.int .i64) ((i:Nat):Int)),(5,.dat (.int .i64) ((k+1:Nat):Int))]) hw8).mono ?_;rintro x s ⟨rfl,rfl⟩;exact .inl ⟨rfl,hk,cap',wW,rfl⟩
 ·rw[uH (show ¬ ((k:Nat):Int)<(l[i].fText.length:Int) by omega),if_neg de]
  refine AW.sub hi (m':=[(0,.dat (.bz iA) l),(3,.iU 0 (Ts o.1+1) cap),(4,.dat (.int .i64) ((i:Nat):Int))]) (by
    intro p hp;simp only[hU,Dc,Dd]at hp;rcases hp with rfl|rfl|rfl<;>rfl) ?_
  exact AW.exit (.inr ⟨(λe=>by cases e),.inr ⟨rfl,om,rfl⟩⟩)
theorem ape(hi:G0.i=[])(hg:G0.g=[]){i cap aG:Nat}(h1:i<Ts l)(h3:bV l<=1000000000):
  AW prog w0 G0 (.block 1 (cB 9 420)) (stI l i (gq (l.take i)) cap aG) (λx s=>x=.normal/\∃cap' wW,s=stI l i (gq (l.take (i+1))) cap' wW):=by
 have hsz:=rX l i h1;have hle:=vM l (i+1);have hO:HD (gq (l.take i))<=bV (l.take i):=by have:=TR (l.take i) ([],[]);simpa[gq,HD]using this
 have h4:l[i].fText.length<=1000000000:=om;refine AW.block ?_;rw[eB1];refine AW.seq ?_;have hw5:=as8 l i cap aG (gq (l.take i)).1 (gq (l.take i)).2;rw[cy (Va h1),abn h1]at hw5;simp only[cy (Va h1)]at hw5;obtain⟨b,hb⟩:∃b,b=(l[i].aI != 0&&(l[i].aI != 1&&l[i].aI != 2)):=⟨_,rfl⟩;refine AW.Fq (Q':=λx s=>s=_) (AW.rt vm hi (m':=[(0,.dat (.bz iA) l),(3,.iU 0 ((gq (l.take i)).1.length+1) cap),(4,.dat (.int .i64) ((i:Nat):Int)),(34,.dat .bool b)]) (H':=[.mE 75 cap (.bz iA) (gq (l.take i)).1 (.cG 0 aG iA (gq (l.take i)).2)]) (g':=[⟨aG,113,2⟩]) (hw5.trans ?_)) ?_
 ·rw[hb];cases (l[i].aI != 0)
  ·rfl
  ·cases (l[i].aI != 1)
   ·rfl
   ·rfl
 rintro _ rfl;refine AW.cond (b:=b) rfl ?_
 refine AW.sub hi (m':=[(0,.dat (.bz iA) l),(3,.iU 0 ((gq (l.take i)).1.length+1) cap),(4,.dat (.int .i64) ((i:Nat):Int))]) (by
   intro p hp;simp only[hU,Dc,Dd]at hp;rcases hp with rfl|rfl|rfl<;>rfl) ?_
 cases Y9:b with
 | true=>rw[if_pos rfl];refine AW.exit (.inr ⟨(λe=>by cases e),.inl ⟨rfl,rfl,cap,aG,?_⟩⟩);rw[U9 l i h1];unfold wk;rw[<-hb,Y9];rfl
 | false=>
  rw[if_neg de];refine AW.skip (.inl ⟨rfl,?_⟩);have hw6:=as9 l i cap aG (gq (l.take i)).1 (gq (l.take i)).2;refine AW.Fq (Q':=λx s=>s=_) (AW.rt vm hi (m':=[(0,.dat (.bz iA) l),(3,.iU 0 ((gq (l.take i)).1.length+1) cap),(4,.dat (.int .i64) ((i:Nat):Int)),(5,.dat (.int .i64) 0)]) hw6) ?_;rintro _ rfl;refine AW.block ?_;refine AW.loop (ι:=Nat×Nat×Nat) (λx=>SU l i x.1 ((l[i].fText.take x.1).foldl (mw l[i].aI) (gq (l.take i))) x.2.1 x.2.2) (λx=>x.1<=l[i].fText.length) (λx=>l[i].fText.length-x.1) (0,cap,aG) (fC _) rfl ?_;rintro⟨k,abL,auO⟩ hk;dsimp only at hk⊢
  refine(apd hi hg h1 hk (by
   have:=TQ l[i].aI (l[i].fText.take k) (gq (l.take i));have h5:(l[i].fText.take k).length<=l[i].fText.length:=by rw[zi];omega
   omega) h4).mono ?_
  rintro x s (⟨rfl,hlt,cap',wW,rfl⟩|⟨rfl,hke,rfl⟩)
  ·exact .inl ⟨rfl,(k+1,cap',wW),hlt,by dsimp only;omega,by rw[Xu _ _ _ _ hlt]⟩
  ·subst hke;refine .inr ⟨λe=>(by cases e),.inl ⟨rfl,.inr ⟨λe=>(by cases e),rfl,abL,auO,?_⟩⟩⟩;rw[U9 l i h1,sS];unfold wk;rw[<-hb,Y9];rfl
theorem al1(hi:G0.i=[])(hg:G0.g=[])(h2:Ts l<=1000000000)(h3:bV l<=1000000000):
  AW prog w0 G0 (Tryz.f48.body.getD .skip) (SS (E:=E) 85 [(0,.dat (.bz iA) l)] [] []) (λx s=>x=.ret/\∃cap aG,s=SS (E:=E) 85 [(0,.dat (.bz iA) l),(2,.iU 0 ((gq l).1.length+1) cap)] [.mE 75 cap (.bz iA) (gq l).1 (.cG 0 aG iA (gq l).2)] [⟨aG,113,2⟩]):=by
 rw[eC];refine AW.Fq (Q':=λx s=>s=_) (AW.rt vm hi (m':=[(0,.dat (.bz iA) l)]) (as5 l)) ?_;rintro _ rfl
 refine AW.Fq (Q':=λx s=>s=_) (AW.aq6 (c:=(cB 2 2)) (n:=85) (t:=79) (e:=75) 113 (j3:=3) (j6:=6) kr kr (j1:=1) (j2:=24) (z:=.slice iF 0 0) kr (ie:=⟨.slice 113,1,24,.slice iF 0 0⟩) kr rfl iA
  (m':=[(0,.dat (.bz iA) l),(3,.iU 0 1 1)]) om hi (by
   intro p hp;simp only[hU,Dc,Dd]at hp;rcases hp with rfl|rfl<;>rfl)) ?_
 rintro _ rfl;refine AW.Fq (Q':=λx s=>∃cap aG,s=stI l l.length (gq l) cap aG) ?_ ?_
 ·refine AW.Fq (Q':=λx s=>s=stI l 0 (gq (l.take 0)) 1 0) ((AW.rt vm hi (m':=[(0,.dat (.bz iA) l),(3,.iU 0 1 1),(4,.dat (.int .i64) 0)]) (as6 l 1 0 [] [])).mono λx s hq=>hq) ?_;rintro _ rfl;refine AW.block ?_;refine AW.loop (ι:=Nat×Nat×Nat) (λx=>stI l x.1 (gq (l.take x.1)) x.2.1 x.2.2) (λx=>x.1<=Ts l) (λx=>Ts l-x.1) (0,1,0) (fC _) rfl ?_;rintro⟨i,cap,aG⟩ hil;dsimp only at hil⊢;rw[eOB];refine AW.seq ?_;refine AW.Fq (Q':=λx s=>s=_) (AW.rt vm hi (m':=[(0,.dat (.bz iA) l),(3,.iU 0 ((gq (l.take i)).1.length+1) cap),(4,.dat (.int .i64) ((i:Nat):Int)),(10,.dat .bool (eK (((i:Nat):Int)<(Ts l:Int))))]) (as7 l i cap aG (gq (l.take i)).1 (gq (l.take i)).2)) ?_;rintro _ rfl;refine AW.cond (b:=eK (((i:Nat):Int)<(Ts l:Int))) rfl ?_
  refine AW.sub hi (m':=[(0,.dat (.bz iA) l),(3,.iU 0 ((gq (l.take i)).1.length+1) cap),(4,.dat (.int .i64) ((i:Nat):Int))]) (by
   intro p hp;simp only[hU,Dc,Dd]at hp;rcases hp with rfl|rfl|rfl<;>rfl) ?_
  by_cases h1:i<Ts l
  ·rw[eP (show((i:Nat):Int)<(Ts l:Int) by omega),if_pos rfl];refine AW.skip (.inl ⟨rfl,?_⟩);refine AW.Fq (ape hi hg h1 h3) ?_;rintro _ ⟨cap',wW,rfl⟩;have hw4:=atd l i cap' wW (gq (l.take (i+1))).1 (gq (l.take (i+1))).2;rw[bZ om]at hw4;refine(AW.rt vm hi (m':=[(0,.dat (.bz iA) l),(3,.iU 0 ((gq (l.take (i+1))).1.length+1) cap'),(4,.dat (.int .i64) ((i+1:Nat):Int))]) hw4).mono ?_;rintro x s ⟨rfl,rfl⟩;exact .inl ⟨rfl,(i+1,cap',wW),h1,by dsimp only;omega,rfl⟩
  ·rw[uH (show ¬ ((i:Nat):Int)<(Ts l:Int) by omega),if_neg de];obtain rfl:i=Ts l:=om;refine AW.exit (.inr ⟨λe=>(by cases e),.inr ⟨λe=>(by cases e),.inl ⟨rfl,rfl,cap,aG,?_⟩⟩⟩);rw[sS];rfl
 ·rintro _ ⟨cap,aG,rfl⟩;refine AW.Fq (Q':=λx s=>s=_) (AW.rt vm hi (m':=[(0,.dat (.bz iA) l),(2,.iU 0 ((gq l).1.length+1) cap)]) (aq5 l l.length cap aG (gq l).1 (gq l).2)) ?_;rintro _ rfl;exact AW.ret ⟨rfl,cap,aG,rfl⟩
end
def aou(E:TEnv)(ix:Nat)(f:H5)(F:Nat)(m:Nat->J ((Ty.ext ix).den E.D)->O (J (J ((Ty.ext ix).den E.D)))):bQ E:=⟨⟨f,[.one (.dat (.bz (.ext ix)))],[],[],⟨.one (.dat (.bz (.bz (.ext ix)))),[],[],[]⟩,iF,[]⟩,λ(x:J ((Ty.ext ix).den E.D))=>m F x⟩
theorem apf(F:Nat):(aou E 17 48 F Ry).Ok prog:=by
 have key:∀(l:J aB)(y:J (J aB)),Ry F l=iN y->mF (E:=E) prog 48 [.dat (.bz iA) l] [] [] [] ⟨hJ,.dat (.bz (.bz iA)) y,[],[],[],[]⟩:=by
  intro l y hy;obtain⟨h1,h2⟩:=dY hy;rw[cL,fV,fV]at h1;cases h2;intro w G args hP hB hS hV;have hi:G.i=[]:=HA hB.len;have hg:G.g=[]:=by have:=hB.gs;simpa using this
  have HF:=Rel.Mp (n:=Tryz.f48.ntmps) hP hB hS hV;have hb:Tryz.f48.body=iN (Tryz.f48.body.getD .skip):=by kernel_rfl
  refine uL func48 hb kr (calls_of_wp func48 hb ?_);have fB:Rel E w G (SS (E:=E) 85 [(0,.dat (.bz iA) l)] [] []) _ w G:=HF;refine wp_mono (al1 (l:=l) hi hg h1.1 h1.2 _ w G fB) λe a' w' hp=>?_;obtain⟨x,s,G',he,hr,rfl,cap,aG,rfl⟩:=hp;have Kr:a'.defers=[]:=by have:=hr.defers;cases hd:a'.defers with|nil=>rfl|cons d ds=>rw[hd]at this;exact this.elim
  obtain⟨v,hv,hrun⟩:=Br (fn:=Tryz.f48) vm hr (ds:=[.iU 0 ((gq l).1.length+1) cap]) kr;obtain⟨G2,q1,q2,q3,q4⟩:=apg (j:=2) hr hi hg rfl;cases e<;>try (exact he.elim)
  have NP:v=a'.tmps.getD 2 M2:=by have h3:=hr.tmps 2 (.iU 0 ((gq l).1.length+1) cap) rfl;simp only[rY,VT]at hv h3;obtain⟨b,wh,wY⟩:=hv;obtain⟨b',sx,nM⟩:=h3;rw[wY]at nM;cases nM;rw[wh,sx]
  subst NP;exact⟨Kr,_,hrun,_,G2,rfl,q1,q2,q3,q4,λq b hq=>by rw[hi]at hq;cases hq⟩
 intro x y hy;exact key x y hy
