import Derived.Test.YtkmlndnhiboofaaGreatDoorTy
import Derived.Test.YtkmlndnhiboofaaGreatDoorRk
import Derived.Test.YtkmlndnhiboofaaGreatDoorSo
open Option renaming some->W0,none->WP
open Bool renaming true->WF,false->UV
open Decidable renaming decide->T1
open Int renaming toNat->Ts
open Nat renaming beq->ST,blt->So
open Go.IntKind renaming wrap->Sx
set_option linter.all false
namespace Go.Proofs.YtkmlndnhiboofaaGreatDoor
open Go.Proofs.Tryz
open Go.RT
set_option maxRecDepth 100000
noncomputable section
variable (F : Nat)
def q9:=Xo
def QK:bJ E:=ibC E 353 F
theorem NG:(QK F).Ok pg:=ap9 (λargs w=>by rw[run_callFunc_extern func353 kr kr kr (e:=Extern.BytealgIndexByte.indexByte) kr]) F
def acz(F:Nat):bJ E:=⟨⟨215,[.one (.dat .str)],[],[],⟨.one (.any),[],[],[]⟩,WP,[]⟩,λ_=>WP⟩
theorem NH:(acz F).Ok pg:=λx y h=>nomatch (show WP=W0 y from h)
def stringslite_IndexByte(a0:Bs)(a1:Int):O Int:=wx (wm (q9 F a0 a1))
def HU:bJ E:=⟨sh 299 [oS,.one (.dat (.int .u8))] oI,u2 (stringslite_IndexByte F)⟩
theorem vT:(HU F).Ok pg:=dz F lf (bU (NG F) ig) func299
def strings_IndexByte(a0:Bs)(a1:Int):O Int:=wx (wm (stringslite_IndexByte F a0 a1))
def M5:bJ E:=⟨sh 329 [oS,.one (.dat (.int .u8))] oI,u2 (strings_IndexByte F)⟩
theorem Ay:(M5 F).Ok pg:=dz F lf (bU (vT F) ig) func329
def sK(F:Nat)(a0:Int):O Bool:=wx (wv (wa (0<=a0)<|ws (T1 (a0<55296))) λx1=>wo x1<|wv (wa (57343<a0)<|ws (T1 (a0<=1114111))) λx2=>wo x2<|ws UV)
def Sd:bJ E:=⟨sh 352 [.one (.dat (.int .i32))] oB,sK F⟩
theorem QL:(Sd F).Ok pg:=dz F (qa (qs (qs (.region [rb 6 9]) (.cond lf (qs (.region [rb 6 16]) lf))) lf)) ig func352
def jJ(a0:Bs)(a1:Int):O Int:=wx (wt a0.length λe=>wt ((mF a1).length:Int) λd=>wt (aC (d-1)) λc=>wt (((mF a1).getD c.toNat 0).toNat:Int) λf=>wv (wa (0<=a1)<|ws (T1 (a1<128))) λx1=>wc x1 (wm (strings_IndexByte F a0 (Sx .u8 a1)))<|wc (a1==65533) (ij Bs Int (λkH a b=>wt b.toNat λg=>wc (So g a.length) (wc (((dec a g).1:Int)==65533) (ws ((g:Nat):Int))<|ww<|kH (a,((g+(dec a g).2:Nat):Int)))<|ws (-1)) F (a0,((0:Nat):Int)))<|wb (sK F a1) λx5=>wc (!x5) (ws (-1))<|wl Int (λyp x6=>wt (aC (x6+1)) λh=>wc (x6<e) (ww<|jj (σ:=Int) (rq (0<=x6&&x6<e) (rq (0<=c&&c<d) (cond (((a0.getD x6.toNat 0).toNat:Int)!=f) (rq (0<=h&&(h<=e&&(e:Int)<=(e:Int))) (rq (0<=c&&c<d) ((strings_IndexByte F (sl a0 h (e:Int)) f).bind λx9=>cond (x9<0) (W0 (.inr (-1))) (W0 (.inl (aC (x6+aC (x9+1)))))))) (W0 (.inl x6))))) λx8=>bW (σ:=Int) (λae7 cm=>cond (cm<d) (rq (0<=aC (x8-cm)&&aC (x8-cm)<e) (rq (0<=aC (c-cm)&&aC (c-cm)<d) (cond (((a0.getD (aC (x8-cm)).toNat 0).toNat:Int)!=(((mF a1).getD (aC (c-cm)).toNat 0).toNat:Int)) WP (ae7 (aC (cm+1)))))) (W0 (aC (x8-c)))) F 1)<|ws (-1)) F c)
def M6:bJ E:=⟨sh 297 [oS,.one (.dat (.int .i32))] oI,u2 (jJ F)⟩
theorem K2:(M6 F).Ok pg:=dz F (qa (qs (.region [rb 6 166]) (.cond lf (qa (.cond (qs (qa (.loop [] ⟨[],[W0 (.iter)],[],[]⟩ lf)) lf) (qa (.cond lf (qa (qa (qa (qa (qs (.loop [] (ct [(9,oI)]) (qa (.seq [] (W0 ((ct [(9,oI)]),WF)) (qs (.draw [⟨WF,7,WP⟩]) (.cond (qs (.draw [⟨WF,7,WP⟩,⟨UV,2,WP⟩]) lf) lf)) (qs (qa (.loop [] (ct [(12,oI)]) (qa (qs (qs (.draw [⟨WF,11,WP⟩]) lf) lf)))) lf)))) lf)))))))))))) (bU (Ay F) (bU (QL F) ig)) func297
def strings_shouldUseASCIISet(F:Nat)(a0:Int):O Bool:=W0 (T1 (8<a0))
def DE:bJ E:=⟨sh 298 [oI] oB,strings_shouldUseASCIISet F⟩
theorem Cq:(DE F).Ok pg:=dz F lf ig func298
def strings_IndexAny(a0 a1:Bs):O Int:=wx (wt (a1.length:Int) λe=>wt (Sx .i32 ((a1.getD 0 0).toNat:Int)) λc=>wc (a1==[]) (ws (-1))<|wc (e==1) (wq (0<e)<|wv (wc (128<=c) (ws 65533)<|ws c) λx1=>wm (jJ F a0 x1))<|wb (strings_shouldUseASCIISet F (a0.length:Int)) λx3=>wc x3 wn<|ij Bs Int (λyM a b=>wt b.toNat λd=>wc (So d a.length) (wb (jJ F a1 ((dec a d).1:Int)) λx6=>wc (0<=x6) (ws ((d:Nat):Int))<|ww<|yM (a,((d+(dec a d).2:Nat):Int)))<|ws (-1)) F (a0,((0:Nat):Int)))
def NI:bJ E:=⟨sh 236 [oS,oS] oI,u2 (strings_IndexAny F)⟩
theorem M7:(NI F).Ok pg:=dz F (qa (qa (qs (qa (.cond (qa (.seq [] (W0 ((ct [(5,.one (.dat (.int .i32)))]),UV)) lf lf)) lf)) (qa (qs (qa (.loop [] ⟨[],[W0 (.iter)],[],[]⟩ lf)) lf))))) (bU (K2 F) (bU (Cq F) (bU (NH F) ig))) func236
end
open Go.RT Go.RowKit Go.Maps Go.Sort Go.Shelf
open Go.Proofs (encStr)
theorem aog:Builder.Extra prog Tryz.Xp:={
 sizeBuilder:=by kernel_rfl
 liesBuilder:=by kernel_rfl
 t5:=underlying5
 a5:=Tryz.isAgg5
 z5:=Tryz.sizeOf5
 v5:=Tryz.zeroValue5
 infoByte:=by kernel_rfl
 cellsByte:=by kernel_rfl
 sizeByte:=by kernel_rfl
 neB5:=by decide}
theorem ahd:ZV prog 67:=
 ⟨qd func67 kr kr,λbk o c xs sep w h1 h2 h3 h4 h5=>Any.strings_Join Tryz.alT aog bk o c xs sep w h1 h2 h3 h4 h5,λa c sep w=>Any.strings_Join_none Tryz.alT aog a c sep w⟩
theorem aqa:alU prog 243:=
 ⟨qd func243 kr kr,λs c w h=>Any.strings_LastIndexByte Tryz.arR s c h w⟩
theorem aoh:ahe prog 70:=
 ⟨qd func70 kr kr,λblk cap ss w h1 h2 h3=>AnyM.slices_Sort_string Tryz.Zx blk 0 cap ss w h1 h2 h3,λp cap w=>AnyM.slices_Sort_string_none Tryz.Zx p cap w⟩
theorem Xq{w:U}{G:bx}(hP:qf E w G):∃m,w.cell? ⟨0,0,WP⟩=W0 (.int .i64 m):=by
 obtain⟨cs,t,m,h1,n,h2⟩:=(hP 0 _ rfl).1;exact⟨n,by simp[World.cell?,h1,h2]⟩
theorem splitAt:adI E prog 111 9:=
 ⟨qd func111 kr kr,λs sep w G hP h1 h2=>by
  obtain⟨m,hm⟩:=Xq hP;exact Any.strings_Split Tryz.aoi kr s sep m w h1 hm h2,
  λs sep h=>Lib.splitB_all sep h 0 _ s rfl,λs sep h=>Lib.countB_le sep h s.size s (eu _)⟩
theorem cutAt:alV E prog 114:=
 ⟨qd func114 kr kr,λs sep w G hP h=>by
  obtain⟨m,hm⟩:=Xq hP;exact Any.strings_Cut Tryz.arS s sep m w h hm⟩
def ZW(F:Nat)(s cs:Bs):O Int:=cond (Nat.ble s.length 8) (strings_IndexAny F s cs)
 (rq (T1 (s.length<4294967281)&&(T1 (2<=cs.length)&&(T1 (cs.length<4294967281)&&cs.all λb=>T1 (b.toNat<128)))) (W0 (Lib.indexAny s cs)))
def aoj(E:TEnv)(f:FuncId)(F:Nat):bJ E:=⟨⟨f,[.one (.dat .str),.one (.dat .str)],[],[],⟨.one (.dat (.int .i64)),[],[],[]⟩,WP,[]⟩,λ(x:Bs×Bs)=>ZW F x.1 x.2⟩
set_option maxRecDepth 100000 in
theorem aok(F:Nat):(aoj E 236 F).Ok prog:=by
 have key:∀(s cs:Bs)(y:Int),ZW F s cs=W0 y->lK (E:=E) prog 236 [.dat .str s,.dat .str cs] [] [] [] ⟨WF,.dat (.int .i64) y,[],[],[],[]⟩:=by
  intro s cs y hy;unfold ZW at hy;cases hb:Nat.ble s.length 8<;>rw[hb]at hy<;>simp only[aY,aM]at hy
  ·obtain⟨h1,h2⟩:=dX hy
   rw[cH,cH,cH,eT,eT,eT,pE]at h1;obtain⟨c1,c2,c3,c4⟩:=h1;cases h2
   have h8:8<s.length:=by
    rcases Zu 8 s.length with h|h
    ·exact h
    ·rw[aeN h]at hb;cases hb
   refine Dc (qd func236 kr kr) λw G args hP hv=>⟨_,λw G=>.int w G .i64 (Lib.indexAny s cs),?_⟩;obtain⟨u,us,ha,vr,ri⟩:=hv.cons_inv;obtain⟨u2,Tr,sM,EO,J6⟩:=ri.cons_inv;have J6:Tr=[]:=by simpa only[bI]using J6
   have e1:=vr.iq;have e2:=EO.iq;subst e1 e2 J6 sM;have ha:args=#[mkStr s,mkStr cs]:=by apply Tm;exact ha
   subst ha;have hz:=zero_of_info (P:=prog) (t:=Tryz.adJ.t 116) (v:=.agg (Array.replicate 256 (.bool UV))) (n:=256) kr;refine(Any.strings_IndexAny_long Tryz.iaL hz.1 hz.2 ⟨⟨s⟩⟩ ⟨⟨cs⟩⟩ w c2 h8 c1 c3 λj b hb=>by simpa using c4 b (jx hb)).mono λe w' hh=>?_;obtain⟨q1,q2⟩:=hh;refine⟨q1,?_⟩;rw[q2];exact((Below.refl _ _).alloc (eu _) _).alloc si _
  ·exact M7 F (s,cs) y hy
 intro x y hy;exact key x.1 x.2 y hy
theorem arT:Tt prog 292:=
 ⟨qd func292 kr kr,λblk cap zs w h1 h2=>AnyE.slices_Reverse Tryz.arU (Value.int .u8) (λ_=>rfl) blk 0 cap zs w h1 h2⟩
noncomputable abbrev cX:Cx E:=⟨prog,Ii,[],[],WP⟩
abbrev vI(n:Int):TV E:=.dat (.int .i64) n
abbrev vB(b:Bool):TV E:=.dat .bool b
abbrev vL(l:J aB):TV E:=.dat (.bq (.ext 17)) l
abbrev vH(xs:J (J aB))(cap:Nat):TV E:=.iz 0 (xs.length+1) cap
abbrev nR(cap aF:Nat)(xs:J (J aB))(last:J aB):fK E:=.lI 83 cap (.bq (.ext 17)) xs (.cA 0 aF (.ext 17) last)
abbrev gR(aF:Nat):cL:=⟨aF,116,2⟩
noncomputable abbrev cR(c:Code)(p:dQ)(s:TS E)(js:J Nat):=Go.RT.runT cX 0 c p s (proj js)
def cP:Code->J Bool->Code
 | .seq a _,UV::p=>cP a p
 | .seq _ b,WF::p=>cP b p
 | .cond _ a _,UV::p=>cP a p
 | .cond _ _ b,WF::p=>cP b p
 | .block _ a,UV::p=>cP a p
 | .loop a,UV::p=>cP a p
 | c,_=>c
def bts:Nat->Nat->J Bool
 | 0,_=>[]
 | k+1,n=>ST (n / 2^k%2) 1::bts k n
noncomputable abbrev cB(k n:Nat):Code:=cP (Tryz.f52.body.getD .skip) (bts k n)
set_option maxRecDepth 100000 in
theorem aqb(l:J aB):cR (cB 1 0) (.leaf) (SS (E:=E) 85 [(0,vL l)] [] []) [0]=W0 ([W0 (vL l)],[],[],[],[]):=by kernel_rfl
set_option maxRecDepth 100000 in
theorem aqc(l:J aB)(cap aF:Nat)(xs:J (J aB))(last:J aB):cR (cB 4 12) (.leaf) (SS (E:=E) 85 [(0,vL l),(3,vH xs cap)] [nR cap aF xs last] [gR aF]) [0,3,4]=W0 ([W0 (vL l),W0 (vH xs cap),W0 (vI 0)],[nR cap aF xs last],[gR aF],[],[]):=by kernel_rfl
set_option maxRecDepth 100000 in
theorem aqd(l:J aB)(i cap aF:Nat)(xs:J (J aB))(last:J aB):cR (cB 8 208) (.leaf) (SS (E:=E) 85 [(0,vL l),(3,vH xs cap),(4,vI ((i:Nat):Int))] [nR cap aF xs last] [gR aF]) [0,3,4,10]=W0 ([W0 (vL l),W0 (vH xs cap),W0 (vI ((i:Nat):Int)),W0 (vB (T1 (((i:Nat):Int)<(l.length:Int))))],[nR cap aF xs last],[gR aF],[],[]):=by kernel_rfl
set_option maxRecDepth 100000 in
theorem aqe(l:J aB)(i cap aF:Nat)(xs:J (J aB))(last:J aB):cR (cB 11 1680) (.leaf) (SS (E:=E) 85 [(0,vL l),(3,vH xs cap),(4,vI ((i:Nat):Int))] [nR cap aF xs last] [gR aF]) [0,3,4,34]=rq ((T1 (0<=((i:Nat):Int)))&&(T1 (((i:Nat):Int)<(l.length:Int)))) (cond (((l.getD (Ts ((i:Nat):Int)) dw).aL) != 0)
 (rq ((T1 (0<=((i:Nat):Int)))&&(T1 (((i:Nat):Int)<(l.length:Int)))) (cond (((l.getD (Ts ((i:Nat):Int)) dw).aL) != 1)
 (rq ((T1 (0<=((i:Nat):Int)))&&(T1 (((i:Nat):Int)<(l.length:Int)))) (W0 ([W0 (vL l),W0 (vH xs cap),W0 (vI ((i:Nat):Int)),W0 (vB (((l.getD (Ts ((i:Nat):Int)) dw).aL) != 2))],[nR cap aF xs last],[gR aF],[],[])))
 (W0 ([W0 (vL l),W0 (vH xs cap),W0 (vI ((i:Nat):Int)),W0 (vB UV)],[nR cap aF xs last],[gR aF],[],[]))))
 (W0 ([W0 (vL l),W0 (vH xs cap),W0 (vI ((i:Nat):Int)),W0 (vB UV)],[nR cap aF xs last],[gR aF],[],[]))):=by kernel_rfl
set_option maxRecDepth 100000 in
theorem aqf(l:J aB)(i cap aF:Nat)(xs:J (J aB))(last:J aB):cR (cB 11 1682) (.leaf) (SS (E:=E) 85 [(0,vL l),(3,vH xs cap),(4,vI ((i:Nat):Int))] [nR cap aF xs last] [gR aF]) [0,3,4,5]=W0 ([W0 (vL l),W0 (vH xs cap),W0 (vI ((i:Nat):Int)),W0 (vI 0)],[nR cap aF xs last],[gR aF],[],[]):=by kernel_rfl
set_option maxRecDepth 100000 in
theorem aqg(l:J aB)(i k cap aF:Nat)(xs:J (J aB))(last:J aB):cR (cB 15 26928) (.leaf) (SS (E:=E) 85 [(0,vL l),(3,vH xs cap),(4,vI ((i:Nat):Int)),(5,vI ((k:Nat):Int))] [nR cap aF xs last] [gR aF]) [0,3,4,5,42]=rq ((T1 (0<=((i:Nat):Int)))&&(T1 (((i:Nat):Int)<(l.length:Int)))) (W0 ([W0 (vL l),W0 (vH xs cap),W0 (vI ((i:Nat):Int)),W0 (vI ((k:Nat):Int)),W0 (vB (T1 (((k:Nat):Int)<(((l.getD (Ts ((i:Nat):Int)) dw).fText).length:Int))))],[nR cap aF xs last],[gR aF],[],[])):=by kernel_rfl
set_option maxRecDepth 100000 in
theorem aqh(l:J aB)(i k cap aF:Nat)(xs:J (J aB))(last:J aB):cR (cB 17 107720) (.leaf) (SS (E:=E) 85 [(0,vL l),(3,vH xs cap),(4,vI ((i:Nat):Int)),(5,vI ((k:Nat):Int))] [nR cap aF xs last] [gR aF]) [0,3,4,5,52]=rq ((T1 (0<=((i:Nat):Int)))&&(T1 (((i:Nat):Int)<(l.length:Int)))) (rq ((T1 (0<=((k:Nat):Int)))&&(T1 (((k:Nat):Int)<(((l.getD (Ts ((i:Nat):Int)) dw).fText).length:Int)))) (W0 ([W0 (vL l),W0 (vH xs cap),W0 (vI ((i:Nat):Int)),W0 (vI ((k:Nat):Int)),W0 (vB (((((l.getD (Ts ((i:Nat):Int)) dw).fText).getD (Ts ((k:Nat):Int)) 0).toNat:Int)==47))],[nR cap aF xs last],[gR aF],[],[]))):=by kernel_rfl
set_option maxRecDepth 100000 in
theorem aol(l:J aB)(i k cap aF:Nat)(xs:J (J aB))(last:J aB):cR (cB 18 215443) (.fG [0] [28] [⟨[(0,WF),(1,WF),(2,WF),(3,WF),(4,WF),(5,WF),(6,WF),(7,WF),(8,WF),(9,WF),(10,WF),(11,WF),(12,WF),(13,WF),(14,WF),(15,WF),(16,WF),(17,WF),(18,WF),(19,WF),(20,WF),(21,WF),(22,WF),(23,WF),(24,WF),(25,UV),(26,UV),(27,UV),(28,UV)],WP⟩]) (SS (E:=E) 85 [(0,vL l),(3,vH xs cap),(4,vI ((i:Nat):Int)),(5,vI ((k:Nat):Int))] [nR cap aF xs last] [gR aF]) [0,3,4,5]=rq ((T1 (0<=aC (((xs.length+1:Nat):Int)-1)))&&(T1 (aC (((xs.length+1:Nat):Int)-1)<((xs.length+1:Nat):Int)))) (rq (ST (Ts (aC (((xs.length+1:Nat):Int)-1))) xs.length) (rq ((T1 (0<=((i:Nat):Int)))&&(T1 (((i:Nat):Int)<(l.length:Int)))) (rq ((T1 (0<=((k:Nat):Int)))&&((T1 (((k:Nat):Int)<=aC (((k:Nat):Int)+1)))&&(T1 (aC (((k:Nat):Int)+1)<=(((l.getD (Ts ((i:Nat):Int)) dw).fText).length:Int))))) (rq ((T1 (0<=((i:Nat):Int)))&&(T1 (((i:Nat):Int)<(l.length:Int)))) (rq ((ST aF aF)&&((T1 (last.length+([(aB.mk (sl ((l.getD (Ts ((i:Nat):Int)) dw).fText) ((k:Nat):Int) (aC (((k:Nat):Int)+1))) ((l.getD (Ts ((i:Nat):Int)) dw).aL))]:J aB).length<=9223372036854775807))&&(T1 ((last.length+([(aB.mk (sl ((l.getD (Ts ((i:Nat):Int)) dw).fText) ((k:Nat):Int) (aC (((k:Nat):Int)+1))) ((l.getD (Ts ((i:Nat):Int)) dw).aL))]:J aB).length)*24<=140737488355328)))) (rq ((T1 (0<=aC (((xs.length+1:Nat):Int)-1)))&&(T1 (aC (((xs.length+1:Nat):Int)-1)<((xs.length+1:Nat):Int)))) (rq (ST (Ts (aC (((xs.length+1:Nat):Int)-1))) xs.length) (W0 ([W0 (vL l),W0 (vH xs cap),W0 (vI ((i:Nat):Int)),W0 (vI ((k:Nat):Int))],[.lI 83 cap (.bq (.ext 17)) xs (.cA 0 (aF+1) (.ext 17) (last++([(aB.mk (sl ((l.getD (Ts ((i:Nat):Int)) dw).fText) ((k:Nat):Int) (aC (((k:Nat):Int)+1))) ((l.getD (Ts ((i:Nat):Int)) dw).aL))]:J aB)))],[⟨aF+1,116,2⟩,⟨0,116,2⟩],[],[]))))))))):=by kernel_rfl
set_option maxRecDepth 100000 in
theorem aqi(l:J aB)(i k cap aF:Nat)(xs:J (J aB))(last:J aB):cR (cB 15 26931) (.leaf) (SS (E:=E) 85 [(0,vL l),(3,vH xs cap),(4,vI ((i:Nat):Int)),(5,vI ((k:Nat):Int))] [nR cap aF xs last] [gR aF]) [0,3,4,5]=W0 ([W0 (vL l),W0 (vH xs cap),W0 (vI ((i:Nat):Int)),W0 (vI (aC (((k:Nat):Int)+1)))],[nR cap aF xs last],[gR aF],[],[]):=by kernel_rfl
set_option maxRecDepth 100000 in
theorem aqj(l:J aB)(i cap aF:Nat)(xs:J (J aB))(last:J aB):cR (cB 8 211) (.leaf) (SS (E:=E) 85 [(0,vL l),(3,vH xs cap),(4,vI ((i:Nat):Int))] [nR cap aF xs last] [gR aF]) [0,3,4]=W0 ([W0 (vL l),W0 (vH xs cap),W0 (vI (aC (((i:Nat):Int)+1)))],[nR cap aF xs last],[gR aF],[],[]):=by kernel_rfl
set_option maxRecDepth 100000 in
theorem aom(l:J aB)(i cap aF:Nat)(xs:J (J aB))(last:J aB):cR (cB 4 14) (.leaf) (SS (E:=E) 85 [(0,vL l),(3,vH xs cap),(4,vI ((i:Nat):Int))] [nR cap aF xs last] [gR aF]) [0,2]=W0 ([W0 (vL l),W0 (vH xs cap)],[nR cap aF xs last],[gR aF],[],[]):=by kernel_rfl
def mP(c:Int)(o:J (J aB)×J aB)(b:UInt8):J (J aB)×J aB:=cond (b==47) (o.1++[o.2],[]) (o.1,o.2++[aB.mk [b] c])
def Az(o:J (J aB)×J aB)(r:aB):J (J aB)×J aB:=cond (r.aL != 0&&(r.aL != 1&&r.aL != 2)) o (r.fText.foldl (mP r.aL) o)
def gr(l:J aB):J (J aB)×J aB:=l.foldl Az ([],[])
def AA(l:J aB):J (J aB):=(gr l).1++[(gr l).2]
def bX(l:J aB):Nat:=(l.map λr=>r.fText.length).sum
def Tu(F:Nat)(l:J aB):O (J (J aB)):=rq (T1 (l.length<=1000000000)&&T1 (bX l<=1000000000)) (W0 (AA l))
def Gu(o:J (J aB)×J aB):Nat:=o.1.length+o.2.length
theorem ajv(c:Int)(o:J (J aB)×J aB)(b:UInt8):Gu (mP c o b)<=Gu o+1:=by
 unfold mP Gu;cases (b==47)<;>simp<;>omega
theorem Se(c:Int):∀(t:Bs)(o:J (J aB)×J aB),Gu (t.foldl (mP c) o)<=Gu o+t.length
 | [],o=>by simp
 | b::t,o=>by
  have h1:=Se c t (mP c o b);have h2:=ajv c o b;simp only[vS,qL];omega
theorem ajw(o:J (J aB)×J aB)(r:aB):Gu (Az o r)<=Gu o+r.fText.length:=by
 unfold Az;cases (r.aL != 0&&(r.aL != 1&&r.aL != 2))
 ·exact Se _ _ _
 ·simp
theorem Sf:∀(l:J aB)(o:J (J aB)×J aB),Gu (l.foldl Az o)<=Gu o+bX l
 | [],o=>by simp[bX]
 | r::l,o=>by
  have h1:=Sf l (Az o r);have h2:=ajw o r;simp only[vS,bX,jY,PK]at h1⊢;omega
theorem qS(l:J aB)(i:Nat)(h:i<l.length):bX (l.take (i+1))=bX (l.take i)+l[i].fText.length:=by
 unfold bX;rw[mh h,vj,aeQ];simp
theorem uW(l:J aB)(i:Nat):bX (l.take i)<=bX l:=by
 unfold bX
 conv=>rhs;rw[<-KY i l]
 rw[vj,aeQ];omega
theorem Tv(l:J aB)(i:Nat)(h:i<l.length):gr (l.take (i+1))=Az (gr (l.take i)) l[i]:=by
 unfold gr;rw[mh h,Jr];rfl
theorem VH(c:Int)(t:Bs)(o:J (J aB)×J aB)(k:Nat)(h:k<t.length):(t.take (k+1)).foldl (mP c) o=mP c ((t.take k).foldl (mP c) o) t[k]:=by
 rw[mh h,Jr];rfl
abbrev gP:Ty:=.ext 17
theorem uD:(⟨prog,Ii,[],[],WP⟩:Cx E).Ok:=⟨Ek,ig,mixed,goN,Rc⟩
def stI(l:J aB)(i:Nat)(o:J (J aB)×J aB)(cap aF:Nat):TS E:=SS (E:=E) 85 [(0,.dat (.bq gP) l),(3,.iz 0 (o.1.length+1) cap),(4,.dat (.int .i64) ((i:Nat):Int))] [.lI 83 cap (.bq gP) o.1 (.cA 0 aF gP o.2)] [⟨aF,116,2⟩]
def Re(l:J aB)(i k:Nat)(o:J (J aB)×J aB)(cap aF:Nat):TS E:=SS (E:=E) 85 [(0,.dat (.bq gP) l),(3,.iz 0 (o.1.length+1) cap),(4,.dat (.int .i64) ((i:Nat):Int)),(5,.dat (.int .i64) ((k:Nat):Int))] [.lI 83 cap (.bq gP) o.1 (.cA 0 aF gP o.2)] [⟨aF,116,2⟩]
theorem Zy{l:J aB}{i:Nat}(h:i<l.length):l.getD (Ts (i:Int)) dw=l[i]:=by simp[List.getD,h]
theorem aqk{l:Bs}{i:Nat}(h:i<l.length):l.getD (Ts (i:Int)) 0=l[i]:=by simp[List.getD,h]
theorem Tw{i n:Nat}(h:i<n):(T1 (0<=(i:Int))&&T1 ((i:Int)<(n:Int)))=WF:=by rw[ei om,ei om];rfl
section
variable {w0 : U} {G0 : bx} {l : J aB}
theorem eIB:(cB 13 6732)=.seq (.seq (cB 15 26928) (.cond (.tmp 42) .skip (.exit 2))) (.seq (.block 3 (cB 16 53860)) (cB 15 26931)):=by kernel_rfl
theorem eB3:(cB 16 53860)=.seq (cB 17 107720) (.cond (.tmp 52) (cB 18 215442) (cB 18 215443)):=by kernel_rfl
theorem eB1:(cB 9 420)=.seq (.seq (cB 11 1680) (.cond (.tmp 34) (.exit 1) .skip)) (.seq (cB 11 1682) (.block 2 (.loop (cB 13 6732)))):=by kernel_rfl
theorem eOB:(cB 6 52)=.seq (.seq (cB 8 208) (.cond (.tmp 10) .skip (.exit 0))) (.seq (.block 1 (cB 9 420)) (cB 8 211)):=by kernel_rfl
theorem eC:(Tryz.f52.body.getD .skip)=.seq (cB 1 0) (.seq (cB 2 2) (.seq (.seq (cB 4 12) (.block 0 (.loop (cB 6 52)))) (.seq (cB 4 14) .ret))):=by kernel_rfl
theorem ajx(hi:G0.i=[])(hg:G0.g=[]){i k cap aF:Nat}{o:J (J aB)×J aB}(h1:i<l.length)(h2:k<l[i].fText.length)(h3:Gu o<=1000000000)(h4:l[i].fText.length<=1000000000)(hb:(l[i].fText[k]==47)=UV):
  AW prog w0 G0 (cB 18 215443) (Re l i k o cap aF) (λx s=>x=.normal/\∃cap' vU,s=Re l i k (mP l[i].aL o l[i].fText[k]) cap' vU):=by
 have hw:=aol l i k cap aF o.1 o.2;have hlx:o.1.length+o.2.length<=1000000000:=h3;have e1:aC (((o.1.length+1:Nat):Int)-1)=(o.1.length:Int):=by rw[bN om];omega
 have e2:(o.1.length:Int).toNat=o.1.length:=b9 _
 rw[e1,e2,Zy h1,cy om,cq (Tw (n:=o.1.length+1) om),cq (NF _),cq (Tw h1),vV om om om,cq (Tw h1),
  cq (by rw[NF,ei bp,ei bp];rfl),cq (Tw (n:=o.1.length+1) om),cq (NF _)]at hw
 have Mn:sl l[i].fText (k:Int) ((k+1:Nat):Int)=[l[i].fText[k]]:=by
  unfold sl;rw[b9,b9,mh h2,List.drop_left' (by rw[As];omega)]
 rw[Mn]at hw;intro a w G hr;refine wp_mono (AW.rt uD hi (m':=[(0,.dat (.bq gP) l),(3,.iz 0 (o.1.length+1) cap),(4,.dat (.int .i64) ((i:Nat):Int)),(5,.dat (.int .i64) ((k:Nat):Int))]) hw a w G hr) λe a' w' hp=>?_;obtain⟨x,s,G',he,hr',rfl,rfl⟩:=hp
 have hr2:=hr'.ajy hg (by
  intro p hp;simp only[iy,Co,Cp]at hp;rcases hp with rfl|rfl|rfl|rfl
  ·exact .inl ⟨_,_,rfl⟩
  ·exact .inr ⟨_,_,_,rfl⟩
  ·exact .inl ⟨_,_,rfl⟩
  ·exact .inl ⟨_,_,rfl⟩)
 cases e<;>try (exact he.elim)
 refine⟨.normal,_,_,trivial,hr2,rfl,cap,aF+1,?_⟩;unfold mP Re;rw[hb];rfl
theorem ajz(hi:G0.i=[]){i k cap aF:Nat}{o:J (J aB)×J aB}(h1:i<l.length)(h2:k<l[i].fText.length)(h3:Gu o<=1000000000)(hb:(l[i].fText[k]==47)=WF):
  AW prog w0 G0 (cB 18 215442) (Re l i k o cap aF) (λx s=>x=.normal/\∃cap' vU,s=Re l i k (mP l[i].aL o l[i].fText[k]) cap' vU):=by
 have hlx:o.1.length+o.2.length<=1000000000:=h3
 have hw:=AW.ajA (w0:=w0) (G0:=G0) (P:=prog) (c:=(cB 18 215442)) Ek (n:=85) (t:=87) (e:=83) (e2:=116) (j3:=3) (ER:=53) (Gv:=54) (NJ:=55) kr kr (cl:={callee:=.builtin .append,args:=#[.tmp 53,.tmp 54],argTypes:=#[87,87]}) rfl rfl rfl
  (j1:=1) (j2:=24) (z:=.slice WP 0 0) kr (ie:=⟨.slice 116,1,24,.slice WP 0 0⟩) kr rfl rfl gP (m0:=[(0,.dat (.bq gP) l),(4,.dat (.int .i64) ((i:Nat):Int)),(5,.dat (.int .i64) ((k:Nat):Int))]) (by
   intro p hp;simp only[iy,Co,Cp]at hp;rcases hp with rfl|rfl|rfl<;>exact⟨_,_,rfl⟩) ⟨om,om,om,om⟩ hi (cap:=cap) (aF:=aF) (xs:=o.1) (last:=o.2) rfl (by show(o.1.length+2)*24<=_;omega) (by show o.1.length+2<=_;omega) (by
   intro c' p hp;simp only[vO,p9,iy,Co,Cp]at hp;rcases hp with rfl|rfl|rfl|rfl<;>rfl) (by
   intro p hp;simp only[iy,Co,Cp]at hp;rcases hp with rfl|rfl|rfl<;>rfl)
 refine AW.sub hi (m':=[(0,.dat (.bq gP) l),(4,.dat (.int .i64) ((i:Nat):Int)),(5,.dat (.int .i64) ((k:Nat):Int))]++[(3,.iz 0 (o.1.length+1) cap)]) (by
   intro p hp;simp only[vO,p9,iy,Co,Cp]at hp;rcases hp with rfl|rfl|rfl|rfl<;>rfl) ?_
 intro a w G hr;refine wp_mono (hw a w G hr) λe a' w' hp=>?_;obtain⟨x,s,G',he,hr',rfl,c',rfl⟩:=hp;have hs:mP l[i].aL o l[i].fText[k]=(o.1++[o.2],[]):=by unfold mP;rw[hb];rfl
 have hr2:=hr'.arV hi (m':=[(0,.dat (.bq gP) l),(3,.iz 0 (o.1.length+2) c'),(4,.dat (.int .i64) ((i:Nat):Int)),(5,.dat (.int .i64) ((k:Nat):Int))]) (by
   intro p hp;simp only[iy,Co,Cp]at hp;rcases hp with rfl|rfl|rfl|rfl<;>rfl)
 cases e<;>try (exact he.elim)
 refine⟨.normal,_,_,trivial,hr2,rfl,c',aF+1,?_⟩;rw[hs];unfold Re;simp only[vi,qL,Ax];rfl
theorem amw(hi:G0.i=[])(hg:G0.g=[]){i k cap aF:Nat}{o:J (J aB)×J aB}(h1:i<l.length)(h2:k<=l[i].fText.length)(h3:Gu o<=1000000000)(h4:l[i].fText.length<=1000000000):
  AW prog w0 G0 (cB 13 6732) (Re l i k o cap aF) (λx s=>(x=.normal/\∃h:k<l[i].fText.length,∃cap' vU,s=Re l i (k+1) (mP l[i].aL o l[i].fText[k]) cap' vU)\/(x=.exit 2/\k=l[i].fText.length/\s=stI l i o cap aF)):=by
 rw[eIB];refine AW.seq ?_;have hw7:=aqg l i k cap aF o.1 o.2;rw[cq (Tw h1),Zy h1]at hw7;refine AW.El (Q':=λx s=>s=_) (AW.rt uD hi (m':=[(0,.dat (.bq gP) l),(3,.iz 0 (o.1.length+1) cap),(4,.dat (.int .i64) ((i:Nat):Int)),(5,.dat (.int .i64) ((k:Nat):Int)),(42,.dat .bool (T1 (((k:Nat):Int)<(l[i].fText.length:Int))))]) hw7) ?_;rintro _ rfl;refine AW.cond (b:=T1 (((k:Nat):Int)<(l[i].fText.length:Int))) rfl ?_;by_cases hk:k<l[i].fText.length
 ·rw[ei (show((k:Nat):Int)<(l[i].fText.length:Int) by omega),if_pos rfl]
  refine AW.skip (.inl ⟨rfl,?_⟩);refine AW.El (Q':=λx s=>∃cap' vU,s=Re l i k (mP l[i].aL o l[i].fText[k]) cap' vU) ?_ ?_
  ·refine AW.block ?_
   rw[eB3];have hw9:=aqh l i k cap aF o.1 o.2;rw[cq (Tw h1),Zy h1,cq (Tw hk),aqk hk,pF _ 47 om]at hw9
   refine AW.sub hi (m':=[(0,.dat (.bq gP) l),(3,.iz 0 (o.1.length+1) cap),(4,.dat (.int .i64) ((i:Nat):Int)),(5,.dat (.int .i64) ((k:Nat):Int))]) (by
    intro p hp;simp only[iy,Co,Cp]at hp;rcases hp with rfl|rfl|rfl|rfl<;>rfl) ?_
   refine AW.El (Q':=λx s=>s=_) (AW.rt uD hi (m':=[(0,.dat (.bq gP) l),(3,.iz 0 (o.1.length+1) cap),(4,.dat (.int .i64) ((i:Nat):Int)),(5,.dat (.int .i64) ((k:Nat):Int)),(52,.dat .bool (l[i].fText[k]==47))]) hw9) ?_;rintro _ rfl;refine AW.cond (b:=(l[i].fText[k]==47)) rfl ?_
   refine AW.sub hi (m':=[(0,.dat (.bq gP) l),(3,.iz 0 (o.1.length+1) cap),(4,.dat (.int .i64) ((i:Nat):Int)),(5,.dat (.int .i64) ((k:Nat):Int))]) (by
    intro p hp;simp only[iy,Co,Cp]at hp;rcases hp with rfl|rfl|rfl|rfl<;>rfl) ?_
   cases hb:(l[i].fText[k]==47)with
   | true=>
    rw[if_pos rfl]
    exact(ajz hi h1 hk h3 hb).mono λx s hq=>.inr ⟨(λe=>by rw[hq.1]at e;cases e),hq.1,hq.2⟩
   | false=>
    rw[if_neg de];exact(ajx hi hg h1 hk h3 h4 hb).mono λx s hq=>.inr ⟨(λe=>by rw[hq.1]at e;cases e),hq.1,hq.2⟩
  ·rintro _ ⟨cap',vU,rfl⟩
   have hw8:=aqi l i k cap' vU (mP l[i].aL o l[i].fText[k]).1 (mP l[i].aL o l[i].fText[k]).2;rw[cy om]at hw8;refine(AW.rt uD hi (m':=[(0,.dat (.bq gP) l),(3,.iz 0 ((mP l[i].aL o l[i].fText[k]).1.length+1) cap'),(4,.dat (.int .i64) ((i:Nat):Int)),(5,.dat (.int .i64) ((k+1:Nat):Int))]) hw8).mono ?_;rintro x s ⟨rfl,rfl⟩;exact .inl ⟨rfl,hk,cap',vU,rfl⟩
 ·rw[uc (show ¬ ((k:Nat):Int)<(l[i].fText.length:Int) by omega),if_neg de]
  refine AW.sub hi (m':=[(0,.dat (.bq gP) l),(3,.iz 0 (o.1.length+1) cap),(4,.dat (.int .i64) ((i:Nat):Int))]) (by
    intro p hp;simp only[iy,Co,Cp]at hp;rcases hp with rfl|rfl|rfl<;>rfl) ?_
  exact AW.exit (.inr ⟨(λe=>by cases e),.inr ⟨rfl,om,rfl⟩⟩)
theorem amx(hi:G0.i=[])(hg:G0.g=[]){i cap aF:Nat}(h1:i<l.length)(h3:bX l<=1000000000):
  AW prog w0 G0 (.block 1 (cB 9 420)) (stI l i (gr (l.take i)) cap aF) (λx s=>x=.normal/\∃cap' vU,s=stI l i (gr (l.take (i+1))) cap' vU):=by
 have hsz:=qS l i h1;have hle:=uW l (i+1);have hO:Gu (gr (l.take i))<=bX (l.take i):=by have:=Sf (l.take i) ([],[]);simpa[gr,Gu]using this
 have h4:l[i].fText.length<=1000000000:=om;refine AW.block ?_;rw[eB1];refine AW.seq ?_;have hw5:=aqe l i cap aF (gr (l.take i)).1 (gr (l.take i)).2;rw[cq (Tw h1),Zy h1]at hw5;simp only[cq (Tw h1)]at hw5;obtain⟨b,hb⟩:∃b,b=(l[i].aL != 0&&(l[i].aL != 1&&l[i].aL != 2)):=⟨_,rfl⟩;refine AW.El (Q':=λx s=>s=_) (AW.rt uD hi (m':=[(0,.dat (.bq gP) l),(3,.iz 0 ((gr (l.take i)).1.length+1) cap),(4,.dat (.int .i64) ((i:Nat):Int)),(34,.dat .bool b)]) (H':=[.lI 83 cap (.bq gP) (gr (l.take i)).1 (.cA 0 aF gP (gr (l.take i)).2)]) (g':=[⟨aF,116,2⟩]) (hw5.trans ?_)) ?_
 ·rw[hb]
  cases (l[i].aL != 0)
  ·rfl
  ·cases (l[i].aL != 1)
   ·rfl
   ·rfl
 rintro _ rfl;refine AW.cond (b:=b) rfl ?_
 refine AW.sub hi (m':=[(0,.dat (.bq gP) l),(3,.iz 0 ((gr (l.take i)).1.length+1) cap),(4,.dat (.int .i64) ((i:Nat):Int))]) (by
   intro p hp;simp only[iy,Co,Cp]at hp;rcases hp with rfl|rfl|rfl<;>rfl) ?_
 cases Xr:b with
 | true=>
  rw[if_pos rfl];refine AW.exit (.inr ⟨(λe=>by cases e),.inl ⟨rfl,rfl,cap,aF,?_⟩⟩);rw[Tv l i h1];unfold Az;rw[<-hb,Xr]
  rfl
 | false=>
  rw[if_neg de];refine AW.skip (.inl ⟨rfl,?_⟩);have hw6:=aqf l i cap aF (gr (l.take i)).1 (gr (l.take i)).2;refine AW.El (Q':=λx s=>s=_) (AW.rt uD hi (m':=[(0,.dat (.bq gP) l),(3,.iz 0 ((gr (l.take i)).1.length+1) cap),(4,.dat (.int .i64) ((i:Nat):Int)),(5,.dat (.int .i64) 0)]) hw6) ?_;rintro _ rfl;refine AW.block ?_;refine AW.loop (ι:=Nat×Nat×Nat) (λx=>Re l i x.1 ((l[i].fText.take x.1).foldl (mP l[i].aL) (gr (l.take i))) x.2.1 x.2.2) (λx=>x.1<=l[i].fText.length) (λx=>l[i].fText.length-x.1) (0,cap,aF) (gj _) rfl ?_;rintro⟨k,arW,arX⟩ hk;dsimp only at hk⊢
  refine(amw hi hg h1 hk (by
   have:=Se l[i].aL (l[i].fText.take k) (gr (l.take i));have h5:(l[i].fText.take k).length<=l[i].fText.length:=by rw[As];omega
   omega) h4).mono ?_
  rintro x s (⟨rfl,hlt,cap',vU,rfl⟩|⟨rfl,hke,rfl⟩)
  ·exact .inl ⟨rfl,(k+1,cap',vU),hlt,by dsimp only;omega,by rw[VH _ _ _ _ hlt]⟩
  ·subst hke
   refine .inr ⟨λe=>(by cases e),.inl ⟨rfl,.inr ⟨λe=>(by cases e),rfl,arW,arX,?_⟩⟩⟩;rw[Tv l i h1,vQ];unfold Az;rw[<-hb,Xr];rfl
theorem ajB(hi:G0.i=[])(hg:G0.g=[])(h2:l.length<=1000000000)(h3:bX l<=1000000000):
  AW prog w0 G0 (Tryz.f52.body.getD .skip) (SS (E:=E) 85 [(0,.dat (.bq gP) l)] [] []) (λx s=>x=.ret/\∃cap aF,s=SS (E:=E) 85 [(0,.dat (.bq gP) l),(2,.iz 0 ((gr l).1.length+1) cap)] [.lI 83 cap (.bq gP) (gr l).1 (.cA 0 aF gP (gr l).2)] [⟨aF,116,2⟩]):=by
 rw[eC];refine AW.El (Q':=λx s=>s=_) (AW.rt uD hi (m':=[(0,.dat (.bq gP) l)]) (aqb l)) ?_;rintro _ rfl
 refine AW.El (Q':=λx s=>s=_) (AW.aon (c:=(cB 2 2)) (n:=85) (t:=87) (e:=83) 116 (j3:=3) (j6:=6) kr kr (j1:=1) (j2:=24) (z:=.slice WP 0 0) kr (ie:=⟨.slice 116,1,24,.slice WP 0 0⟩) kr rfl gP
  (m':=[(0,.dat (.bq gP) l),(3,.iz 0 1 1)]) om hi (by
   intro p hp;simp only[iy,Co,Cp]at hp;rcases hp with rfl|rfl<;>rfl)) ?_
 rintro _ rfl;refine AW.El (Q':=λx s=>∃cap aF,s=stI l l.length (gr l) cap aF) ?_ ?_
 ·refine AW.El (Q':=λx s=>s=stI l 0 (gr (l.take 0)) 1 0) ((AW.rt uD hi (m':=[(0,.dat (.bq gP) l),(3,.iz 0 1 1),(4,.dat (.int .i64) 0)]) (aqc l 1 0 [] [])).mono λx s hq=>hq) ?_
  rintro _ rfl;refine AW.block ?_;refine AW.loop (ι:=Nat×Nat×Nat) (λx=>stI l x.1 (gr (l.take x.1)) x.2.1 x.2.2) (λx=>x.1<=l.length) (λx=>l.length-x.1) (0,1,0) (gj _) rfl ?_;rintro⟨i,cap,aF⟩ hil;dsimp only at hil⊢;rw[eOB];refine AW.seq ?_;refine AW.El (Q':=λx s=>s=_) (AW.rt uD hi (m':=[(0,.dat (.bq gP) l),(3,.iz 0 ((gr (l.take i)).1.length+1) cap),(4,.dat (.int .i64) ((i:Nat):Int)),(10,.dat .bool (T1 (((i:Nat):Int)<(l.length:Int))))]) (aqd l i cap aF (gr (l.take i)).1 (gr (l.take i)).2)) ?_;rintro _ rfl;refine AW.cond (b:=T1 (((i:Nat):Int)<(l.length:Int))) rfl ?_
  refine AW.sub hi (m':=[(0,.dat (.bq gP) l),(3,.iz 0 ((gr (l.take i)).1.length+1) cap),(4,.dat (.int .i64) ((i:Nat):Int))]) (by
   intro p hp;simp only[iy,Co,Cp]at hp;rcases hp with rfl|rfl|rfl<;>rfl) ?_
  by_cases h1:i<l.length
  ·rw[ei (show((i:Nat):Int)<(l.length:Int) by omega),if_pos rfl]
   refine AW.skip (.inl ⟨rfl,?_⟩);refine AW.El (amx hi hg h1 h3) ?_;rintro _ ⟨cap',vU,rfl⟩;have hw4:=aqj l i cap' vU (gr (l.take (i+1))).1 (gr (l.take (i+1))).2;rw[cy om]at hw4;refine(AW.rt uD hi (m':=[(0,.dat (.bq gP) l),(3,.iz 0 ((gr (l.take (i+1))).1.length+1) cap'),(4,.dat (.int .i64) ((i+1:Nat):Int))]) hw4).mono ?_;rintro x s ⟨rfl,rfl⟩;exact .inl ⟨rfl,(i+1,cap',vU),h1,by dsimp only;omega,rfl⟩
  ·rw[uc (show ¬ ((i:Nat):Int)<(l.length:Int) by omega),if_neg de]
   obtain rfl:i=l.length:=om;refine AW.exit (.inr ⟨λe=>(by cases e),.inr ⟨λe=>(by cases e),.inl ⟨rfl,rfl,cap,aF,?_⟩⟩⟩);rw[vQ];rfl
 ·rintro _ ⟨cap,aF,rfl⟩
  refine AW.El (Q':=λx s=>s=_) (AW.rt uD hi (m':=[(0,.dat (.bq gP) l),(2,.iz 0 ((gr l).1.length+1) cap)]) (aom l l.length cap aF (gr l).1 (gr l).2)) ?_;rintro _ rfl;exact AW.ret ⟨rfl,cap,aF,rfl⟩
end
def alW(E:TEnv)(ix:Nat)(f:FuncId)(F:Nat)(m:Nat->J ((Ty.ext ix).den E.D)->O (J (J ((Ty.ext ix).den E.D)))):bJ E:=⟨⟨f,[.one (.dat (.bq (.ext ix)))],[],[],⟨.one (.dat (.bq (.bq (.ext ix)))),[],[],[]⟩,WP,[]⟩,λ(x:J ((Ty.ext ix).den E.D))=>m F x⟩
set_option maxRecDepth 100000 in
theorem amy(F:Nat):(alW E 17 52 F Tu).Ok prog:=by
 have key:∀(l:J aB)(y:J (J aB)),Tu F l=W0 y->lK (E:=E) prog 52 [.dat (.bq gP) l] [] [] [] ⟨WF,.dat (.bq (.bq gP)) y,[],[],[],[]⟩:=by
  intro l y hy;obtain⟨h1,h2⟩:=dX hy;rw[cH,eT,eT]at h1;cases h2;intro w G args hP hB hS hV;have hi:G.i=[]:=Ei hB.len;have hg:G.g=[]:=by have:=hB.gs;simpa using this
  have Gw:=Rel.K3 (n:=Tryz.f52.ntmps) hP hB hS hV;have hb:Tryz.f52.body=W0 (Tryz.f52.body.getD .skip):=by kernel_rfl
  refine ud func52 hb kr (calls_of_wp func52 hb ?_);have eX:Rel E w G (SS (E:=E) 85 [(0,.dat (.bq gP) l)] [] []) _ w G:=Gw;refine wp_mono (ajB (l:=l) hi hg h1.1 h1.2 _ w G eX) λe a' w' hp=>?_;obtain⟨x,s,G',he,hr,rfl,cap,aF,rfl⟩:=hp
  have Ju:a'.defers=[]:=by
   have:=hr.defers
   cases hd:a'.defers with
   | nil=>rfl
   | cons d ds=>rw[hd]at this;exact this.elim
  obtain⟨v,hv,hrun⟩:=AB (fn:=Tryz.f52) uD hr (ds:=[.iz 0 ((gr l).1.length+1) cap]) kr;obtain⟨G2,q1,q2,q3,q4⟩:=amz (j:=2) hr hi hg rfl;cases e<;>try (exact he.elim)
  have Mp:v=a'.tmps.getD 2 undef:=by
   have h3:=hr.tmps 2 (.iz 0 ((gr l).1.length+1) cap) rfl;simp only[qT,VT]at hv h3;obtain⟨b,vr,vW⟩:=hv;obtain⟨b',ri,nP⟩:=h3;rw[vW]at nP;cases nP;rw[vr,ri]
  subst Mp;exact⟨Ju,_,hrun,_,G2,rfl,q1,q2,q3,q4,λq b hq=>by rw[hi]at hq;cases hq⟩
 intro x y hy;exact key x y hy
end Go.Proofs.YtkmlndnhiboofaaGreatDoor
