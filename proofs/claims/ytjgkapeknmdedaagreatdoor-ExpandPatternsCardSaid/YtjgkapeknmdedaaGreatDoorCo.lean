import Derived.Test.YtjgkapeknmdedaaGreatDoorTy
import Derived.Test.YtjgkapeknmdedaaGreatDoorRk
import Derived.Test.YtjgkapeknmdedaaGreatDoorSo
set_option linter.all false
namespace Go.Proofs.YtjgkapeknmdedaaGreatDoor
open Go.RT
set_option maxRecDepth 100000
noncomputable section
variable (F : Nat)
def GY:=ibF
def Pd:bB E:=ibC E 368 F
theorem Ms:(Pd F).Ok pg:=anB (fun args w=>run_callFunc_extern Tryz.func368 kr kr kr (e:=Extern.BytealgIndexByte.indexByte) kr args w) F
def aaY(F:Nat):bB E:=⟨⟨220,[.one (.dat .str)],[],[],⟨.one (.any),[],[],[]⟩,none,[]⟩,fun _=>none⟩
theorem Mu:(aaY F).Ok pg:=fun x y h=>nomatch (show none=some y from h)
def stringslite_IndexByte(a0:Bs)(a1:Int):O Int:=(GY F a0 a1).bind fun x1=>some x1
def GG:bB E:=⟨sh 324 [oS,.one (.dat (.int .u8))] oI,u2 (stringslite_IndexByte F)⟩
theorem uz:(GG F).Ok pg:=cY F lf (bM (Ms F) gO) Tryz.func324
def strings_IndexByte(a0:Bs)(a1:Int):O Int:=(stringslite_IndexByte F a0 a1).bind fun x1=>some x1
def LW:bB E:=⟨sh 334 [oS,.one (.dat (.int .u8))] oI,u2 (strings_IndexByte F)⟩
theorem y7:(LW F).Ok pg:=cY F lf (bM (uz F) gO) Tryz.func334
def IZ(F:Nat)(a0:Int):O Bool:=by refine(?g:WQ _) (wv (wa (0<=a0)<|ws (decide (a0<55296))) fun x1=>wo x1<|wv (wa (57343<a0)<|ws (decide (a0<=1114111))) fun x2=>wo x2<|ws false);exact fun{v}_=>v
def Qp:bB E:=⟨sh 367 [.one (.dat (.int .i32))] oB,IZ F⟩
theorem Pe:(Qp F).Ok pg:=cY F (qa (qs (qs (.region [rb 6 9]) (.cond lf (qs (.region [rb 6 16]) lf))) lf)) gO Tryz.func367
def wF(a0:Bs)(a1:Int):O Int:=by refine(?g:WQ _) (wt a0.length fun e=>wt ((I0 a1).length:Int) fun d=>wt (aB (d-1)) fun c=>wt (((I0 a1).getD c.toNat 0).toNat:Int) fun f=>wv (wa (0<=a1)<|ws (decide (a1<128))) fun x1=>wc x1 (wm (strings_IndexByte F a0 (IntKind.wrap .u8 a1)))<|wc (a1==65533) (gJ Bs Int (fun j7 a b=>wt b.toNat fun g=>wc (Nat.blt g a.length) (wc (((dec a g).1:Int)==65533) (ws ((g:Nat):Int))<|ww<|j7 (a,((g+(dec a g).2:Nat):Int)))<|ws (-1)) F (a0,((0:Nat):Int)))<|wb (IZ F a1) fun x5=>wc (!x5) (ws (-1))<|wl Int (fun v7 x6=>wt (aB (x6+1)) fun h=>wc (x6<e) (ww<|jj (σ:=Int) (rq (0<=x6&&x6<e) (rq (0<=c&&c<d) (cond (((a0.getD x6.toNat 0).toNat:Int)!=f) (rq (0<=h&&(h<=e&&(e:Int)<=(e:Int))) (rq (0<=c&&c<d) ((strings_IndexByte F (sl a0 h (e:Int)) f).bind fun x9=>cond (x9<0) (some (.inr (-1))) (some (.inl (aB (x6+aB (x9+1)))))))) (some (.inl x6))))) fun x8=>bV (σ:=Int) (fun ads bX=>cond (bX<d) (rq (0<=aB (x8-bX)&&aB (x8-bX)<e) (rq (0<=aB (c-bX)&&aB (c-bX)<d) (cond (((a0.getD (aB (x8-bX)).toNat 0).toNat:Int)!=(((I0 a1).getD (aB (c-bX)).toNat 0).toNat:Int)) none (ads (aB (bX+1)))))) (some (aB (x8-c)))) F 1)<|ws (-1)) F c);exact fun{v}_=>v
def LX:bB E:=⟨sh 322 [oS,.one (.dat (.int .i32))] oI,u2 (wF F)⟩
theorem J2:(LX F).Ok pg:=cY F (qa (qs (.region [rb 6 166]) (.cond lf (qa (.cond (qs (qa (.loop [] ⟨[],[some (.iter)],[],[]⟩ lf)) lf) (qa (.cond lf (qa (qa (qa (qa (qs (.loop [] (ct [(9,oI)]) (qa (.seq [] (some ((ct [(9,oI)]),true)) (qs (.draw [⟨true,7,none⟩]) (.cond (qs (.draw [⟨true,7,none⟩,⟨false,2,none⟩]) lf) lf)) (qs (qa (.loop [] (ct [(12,oI)]) (qa (qs (qs (.draw [⟨true,11,none⟩]) lf) lf)))) lf)))) lf)))))))))))) (bM (y7 F) (bM (Pe F) gO)) Tryz.func322
def strings_shouldUseASCIISet(F:Nat)(a0:Int):O Bool:=some (decide (8<a0))
def Cv:bB E:=⟨sh 323 [oI] oB,strings_shouldUseASCIISet F⟩
theorem Be:(Cv F).Ok pg:=cY F lf gO Tryz.func323
def strings_IndexAny(a0 a1:Bs):O Int:=by refine(?g:WQ _) (wt (a1.length:Int) fun e=>wt (IntKind.wrap .i32 ((a1.getD 0 0).toNat:Int)) fun c=>wc (a1==[]) (ws (-1))<|wc (e==1) (wq (0<e)<|wv (wc (128<=c) (ws 65533)<|ws c) fun x1=>wm (wF F a0 x1))<|wb (strings_shouldUseASCIISet F (a0.length:Int)) fun x3=>wc x3 wn<|gJ Bs Int (fun y9 a b=>wt b.toNat fun d=>wc (Nat.blt d a.length) (wb (wF F a1 ((dec a d).1:Int)) fun x6=>wc (0<=x6) (ws ((d:Nat):Int))<|ww<|y9 (a,((d+(dec a d).2:Nat):Int)))<|ws (-1)) F (a0,((0:Nat):Int)));exact fun{v}_=>v
def Mv:bB E:=⟨sh 260 [oS,oS] oI,u2 (strings_IndexAny F)⟩
theorem LY:(Mv F).Ok pg:=cY F (qa (qa (qs (qa (.cond (qa (.seq [] (some ((ct [(5,.one (.dat (.int .i32)))]),false)) lf lf)) lf)) (qa (qs (qa (.loop [] ⟨[],[some (.iter)],[],[]⟩ lf)) lf))))) (bM (J2 F) (bM (Be F) (bM (Mu F) gO))) Tryz.func260
end
open Go.RT Go.RowKit Go.Maps Go.Sort Go.Shelf
open Go.Proofs (encStr)
theorem alM:Builder.Extra Tryz.prog Tryz.VG:={
 sizeBuilder:=by kernel_rfl
 liesBuilder:=by kernel_rfl
 t5:=Tryz.underlying5
 a5:=Tryz.isAgg5
 z5:=Tryz.sizeOf5
 v5:=Tryz.zeroValue5
 infoByte:=by kernel_rfl
 cellsByte:=by kernel_rfl
 sizeByte:=by kernel_rfl
 neB5:=by decide}
theorem afz:Yf Tryz.prog 101:=
 ⟨oQ Tryz.func101 kr kr,fun bk o c xs sep w h1 h2 h3 h4 h5=>Any.strings_Join Tryz.ajH alM bk o c xs sep w h1 h2 h3 h4 h5,fun a c sep w=>Any.strings_Join_none Tryz.ajH alM a c sep w⟩
theorem anC:ajI Tryz.prog 267:=
 ⟨oQ Tryz.func267 kr kr,fun s c w h=>Any.strings_LastIndexByte Tryz.aoV s c h w⟩
theorem alN:afA Tryz.prog 104:=
 ⟨oQ Tryz.func104 kr kr,fun blk cap ss w h1 h2 h3=>AnyM.slices_Sort_string Tryz.XO blk 0 cap ss w h1 h2 h3,fun p cap w=>AnyM.slices_Sort_string_none Tryz.XO p cap w⟩
theorem VH{w:U}{G:aJ}(hP:oR E w G):∃m,w.cell? ⟨0,0,none⟩=some (.int .i64 m):=by
 obtain⟨cs,t,m,h1,n,h2⟩:=(hP 0 _ rfl).1;exact⟨n,by simp [World.cell?,h1,h2]⟩
theorem splitAt:ab3 E Tryz.prog 150 9:=
 ⟨oQ Tryz.func150 kr kr,fun s sep w G hP h1 h2=>by
  obtain⟨m,hm⟩:=VH hP;exact Any.strings_Split Tryz.alO kr s sep m w h1 hm h2,
  fun s sep h=>Lib.splitB_all sep h 0 _ s rfl,fun s sep h=>Lib.countB_le sep h s.size s (dY _)⟩
theorem cutAt:ajJ E Tryz.prog 153:=
 ⟨oQ Tryz.func153 kr kr,fun s sep w G hP h=>by
  obtain⟨m,hm⟩:=VH hP;exact Any.strings_Cut Tryz.aoW s sep m w h hm⟩
def adt(F:Nat)(s cs:Bs):O Int:=cond (Nat.ble s.length 8) (strings_IndexAny F s cs)
 (rq (decide (s.length<4294967281)&&(decide (2<=cs.length)&&(decide (cs.length<4294967281)&&cs.all fun b=>decide (b.toNat<128)))) (some (Lib.indexAny s cs)))
def alP(E:TEnv)(f:FuncId)(F:Nat):bB E:=⟨⟨f,[.one (.dat .str),.one (.dat .str)],[],[],⟨.one (.dat (.int .i64)),[],[],[]⟩,none,[]⟩,fun (x:Bs×Bs)=>adt F x.1 x.2⟩
set_option maxRecDepth 100000 in
theorem alQ(F:Nat):(alP E 260 F).Ok Tryz.prog:=by
 have key:∀(s cs:Bs)(y:Int),adt F s cs=some y->kN (E:=E) Tryz.prog 260 [.dat .str s,.dat .str cs] [] [] [] ⟨true,.dat (.int .i64) y,[],[],[],[]⟩:=by
  intro s cs y hy;unfold adt at hy;cases hb:Nat.ble s.length 8<;>rw [hb] at hy<;>simp only [bf,aO] at hy
  ·obtain⟨h1,h2⟩:=dB hy
   rw [cw,cw,cw,fq,fq,fq,mL] at h1;obtain⟨c1,c2,c3,c4⟩:=h1;cases h2
   have h8:8<s.length:=by
    rcases XJ 8 s.length with h|h
    ·exact h
    ·rw [Nat.ble_eq_true_of_le h] at hb;cases hb
   refine B1 (oQ Tryz.func260 kr kr) fun w G args hP hv=>⟨_,fun w G=>.int w G .i64 (Lib.indexAny s cs),?_⟩;obtain⟨u,us,ha,uc,qb⟩:=hv.cons_inv;obtain⟨u2,RG,qX,DG,I1⟩:=qb.cons_inv;have I1:RG=[]:=by simpa only [bD] using I1
   have e1:=uc.gL;have e2:=DG.gL;subst e1 e2 I1 qX;have ha:args=#[mkStr s,mkStr cs]:=by apply Rt;exact ha
   subst ha;have hz:=zero_of_info (P:=Tryz.prog) (t:=Tryz.ab4.t 116) (v:=.agg (Array.replicate 256 (.bool false))) (n:=256) kr;refine (Any.strings_IndexAny_long Tryz.iaL hz.1 hz.2 ⟨⟨s⟩⟩ ⟨⟨cs⟩⟩ w c2 h8 c1 c3 fun j b hb=>by simpa using c4 b (iV hb)).mono fun e w' hh=>?_;obtain⟨q1,q2⟩:=hh;refine⟨q1,?_⟩;rw [q2];exact ((Below.refl _ _).alloc (dY _) _).alloc si _
  ·exact LY F (s,cs) y hy
 intro x y hy;exact key x.1 x.2 y hy
theorem aoX:RH Tryz.prog 297:=
 ⟨oQ Tryz.func297 kr kr,fun blk cap zs w h1 h2=>AnyE.slices_Reverse Tryz.aoY (Value.int .u8) (fun _=>rfl) blk 0 cap zs w h1 h2⟩
noncomputable abbrev cX:Cx E:=⟨Tryz.prog,GZ,[],[],none⟩
abbrev vI(n:Int):TV E:=.dat (.int .i64) n
abbrev vB(b:Bool):TV E:=.dat .bool b
abbrev vL(l:J aH):TV E:=.dat (.aZ (.ext 17)) l
abbrev vH(xs:J (J aH))(cap:Nat):TV E:=.gP 0 (xs.length+1) cap
abbrev nR(cap aG:Nat)(xs:J (J aH))(last:J aH):eS E:=.kM 39 cap (.aZ (.ext 17)) xs (.ck 0 aG (.ext 17) last)
abbrev gR(aG:Nat):bQ:=⟨aG,85,2⟩
noncomputable abbrev cR(c:Code)(p:fG)(s:TS E)(js:J Nat):=Go.RT.runT cX 0 c p s (proj js)
def cP:Code->J Bool->Code
 | .seq a _,false::p=>cP a p
 | .seq _ b,true::p=>cP b p
 | .cond _ a _,false::p=>cP a p
 | .cond _ _ b,true::p=>cP b p
 | .block _ a,false::p=>cP a p
 | .loop a,false::p=>cP a p
 | c,_=>c
def bts:Nat->Nat->J Bool
 | 0,_=>[]
 | k+1,n=>Nat.beq (n / 2^k%2) 1::bts k n
noncomputable abbrev cB(k n:Nat):Code:=cP (Tryz.f58.body.getD .skip) (bts k n)
set_option maxRecDepth 100000 in
theorem anD(l:J aH):cR (cB 1 0) (.leaf) (SS (E:=E) 85 [(0,vL l)] [] []) [0]=some ([some (vL l)],[],[],[],[]):=by kernel_rfl
set_option maxRecDepth 100000 in
theorem anE(l:J aH)(cap aG:Nat)(xs:J (J aH))(last:J aH):cR (cB 4 12) (.leaf) (SS (E:=E) 85 [(0,vL l),(3,vH xs cap)] [nR cap aG xs last] [gR aG]) [0,3,4]=some ([some (vL l),some (vH xs cap),some (vI 0)],[nR cap aG xs last],[gR aG],[],[]):=by kernel_rfl
set_option maxRecDepth 100000 in
theorem anF(l:J aH)(i cap aG:Nat)(xs:J (J aH))(last:J aH):cR (cB 8 208) (.leaf) (SS (E:=E) 85 [(0,vL l),(3,vH xs cap),(4,vI ((i:Nat):Int))] [nR cap aG xs last] [gR aG]) [0,3,4,10]=some ([some (vL l),some (vH xs cap),some (vI ((i:Nat):Int)),some (vB (decide (((i:Nat):Int)<(l.length:Int))))],[nR cap aG xs last],[gR aG],[],[]):=by kernel_rfl
set_option maxRecDepth 100000 in
theorem anG(l:J aH)(i cap aG:Nat)(xs:J (J aH))(last:J aH):cR (cB 11 1680) (.leaf) (SS (E:=E) 85 [(0,vL l),(3,vH xs cap),(4,vI ((i:Nat):Int))] [nR cap aG xs last] [gR aG]) [0,3,4,34]=rq ((decide (0<=((i:Nat):Int)))&&(decide (((i:Nat):Int)<(l.length:Int)))) (cond (((l.getD (Int.toNat ((i:Nat):Int)) cx).bO) != 0)
 (rq ((decide (0<=((i:Nat):Int)))&&(decide (((i:Nat):Int)<(l.length:Int)))) (cond (((l.getD (Int.toNat ((i:Nat):Int)) cx).bO) != 1)
 (rq ((decide (0<=((i:Nat):Int)))&&(decide (((i:Nat):Int)<(l.length:Int)))) (some ([some (vL l),some (vH xs cap),some (vI ((i:Nat):Int)),some (vB (((l.getD (Int.toNat ((i:Nat):Int)) cx).bO) != 2))],[nR cap aG xs last],[gR aG],[],[])))
 (some ([some (vL l),some (vH xs cap),some (vI ((i:Nat):Int)),some (vB false)],[nR cap aG xs last],[gR aG],[],[]))))
 (some ([some (vL l),some (vH xs cap),some (vI ((i:Nat):Int)),some (vB false)],[nR cap aG xs last],[gR aG],[],[]))):=by kernel_rfl
set_option maxRecDepth 100000 in
theorem anH(l:J aH)(i cap aG:Nat)(xs:J (J aH))(last:J aH):cR (cB 11 1682) (.leaf) (SS (E:=E) 85 [(0,vL l),(3,vH xs cap),(4,vI ((i:Nat):Int))] [nR cap aG xs last] [gR aG]) [0,3,4,5]=some ([some (vL l),some (vH xs cap),some (vI ((i:Nat):Int)),some (vI 0)],[nR cap aG xs last],[gR aG],[],[]):=by kernel_rfl
set_option maxRecDepth 100000 in
theorem anI(l:J aH)(i k cap aG:Nat)(xs:J (J aH))(last:J aH):cR (cB 15 26928) (.leaf) (SS (E:=E) 85 [(0,vL l),(3,vH xs cap),(4,vI ((i:Nat):Int)),(5,vI ((k:Nat):Int))] [nR cap aG xs last] [gR aG]) [0,3,4,5,42]=rq ((decide (0<=((i:Nat):Int)))&&(decide (((i:Nat):Int)<(l.length:Int)))) (some ([some (vL l),some (vH xs cap),some (vI ((i:Nat):Int)),some (vI ((k:Nat):Int)),some (vB (decide (((k:Nat):Int)<(((l.getD (Int.toNat ((i:Nat):Int)) cx).fText).length:Int))))],[nR cap aG xs last],[gR aG],[],[])):=by kernel_rfl
set_option maxRecDepth 100000 in
theorem anJ(l:J aH)(i k cap aG:Nat)(xs:J (J aH))(last:J aH):cR (cB 17 107720) (.leaf) (SS (E:=E) 85 [(0,vL l),(3,vH xs cap),(4,vI ((i:Nat):Int)),(5,vI ((k:Nat):Int))] [nR cap aG xs last] [gR aG]) [0,3,4,5,52]=rq ((decide (0<=((i:Nat):Int)))&&(decide (((i:Nat):Int)<(l.length:Int)))) (rq ((decide (0<=((k:Nat):Int)))&&(decide (((k:Nat):Int)<(((l.getD (Int.toNat ((i:Nat):Int)) cx).fText).length:Int)))) (some ([some (vL l),some (vH xs cap),some (vI ((i:Nat):Int)),some (vI ((k:Nat):Int)),some (vB (((((l.getD (Int.toNat ((i:Nat):Int)) cx).fText).getD (Int.toNat ((k:Nat):Int)) 0).toNat:Int)==47))],[nR cap aG xs last],[gR aG],[],[]))):=by kernel_rfl
set_option maxRecDepth 100000 in
theorem alR(l:J aH)(i k cap aG:Nat)(xs:J (J aH))(last:J aH):cR (cB 18 215443) (.eO [0] [28] [⟨[(0,true),(1,true),(2,true),(3,true),(4,true),(5,true),(6,true),(7,true),(8,true),(9,true),(10,true),(11,true),(12,true),(13,true),(14,true),(15,true),(16,true),(17,true),(18,true),(19,true),(20,true),(21,true),(22,true),(23,true),(24,true),(25,false),(26,false),(27,false),(28,false)],none⟩]) (SS (E:=E) 85 [(0,vL l),(3,vH xs cap),(4,vI ((i:Nat):Int)),(5,vI ((k:Nat):Int))] [nR cap aG xs last] [gR aG]) [0,3,4,5]=rq ((decide (0<=aB (((xs.length+1:Nat):Int)-1)))&&(decide (aB (((xs.length+1:Nat):Int)-1)<((xs.length+1:Nat):Int)))) (rq (Nat.beq (Int.toNat (aB (((xs.length+1:Nat):Int)-1))) xs.length) (rq ((decide (0<=((i:Nat):Int)))&&(decide (((i:Nat):Int)<(l.length:Int)))) (rq ((decide (0<=((k:Nat):Int)))&&((decide (((k:Nat):Int)<=aB (((k:Nat):Int)+1)))&&(decide (aB (((k:Nat):Int)+1)<=(((l.getD (Int.toNat ((i:Nat):Int)) cx).fText).length:Int))))) (rq ((decide (0<=((i:Nat):Int)))&&(decide (((i:Nat):Int)<(l.length:Int)))) (rq ((Nat.beq aG aG)&&((decide (last.length+([(aH.mk (sl ((l.getD (Int.toNat ((i:Nat):Int)) cx).fText) ((k:Nat):Int) (aB (((k:Nat):Int)+1))) ((l.getD (Int.toNat ((i:Nat):Int)) cx).bO))]:J aH).length<=9223372036854775807))&&(decide ((last.length+([(aH.mk (sl ((l.getD (Int.toNat ((i:Nat):Int)) cx).fText) ((k:Nat):Int) (aB (((k:Nat):Int)+1))) ((l.getD (Int.toNat ((i:Nat):Int)) cx).bO))]:J aH).length)*24<=140737488355328)))) (rq ((decide (0<=aB (((xs.length+1:Nat):Int)-1)))&&(decide (aB (((xs.length+1:Nat):Int)-1)<((xs.length+1:Nat):Int)))) (rq (Nat.beq (Int.toNat (aB (((xs.length+1:Nat):Int)-1))) xs.length) (some ([some (vL l),some (vH xs cap),some (vI ((i:Nat):Int)),some (vI ((k:Nat):Int))],[.kM 39 cap (.aZ (.ext 17)) xs (.ck 0 (aG+1) (.ext 17) (last++([(aH.mk (sl ((l.getD (Int.toNat ((i:Nat):Int)) cx).fText) ((k:Nat):Int) (aB (((k:Nat):Int)+1))) ((l.getD (Int.toNat ((i:Nat):Int)) cx).bO))]:J aH)))],[⟨aG+1,85,2⟩,⟨0,85,2⟩],[],[]))))))))):=by kernel_rfl
set_option maxRecDepth 100000 in
theorem anK(l:J aH)(i k cap aG:Nat)(xs:J (J aH))(last:J aH):cR (cB 15 26931) (.leaf) (SS (E:=E) 85 [(0,vL l),(3,vH xs cap),(4,vI ((i:Nat):Int)),(5,vI ((k:Nat):Int))] [nR cap aG xs last] [gR aG]) [0,3,4,5]=some ([some (vL l),some (vH xs cap),some (vI ((i:Nat):Int)),some (vI (aB (((k:Nat):Int)+1)))],[nR cap aG xs last],[gR aG],[],[]):=by kernel_rfl
set_option maxRecDepth 100000 in
theorem anL(l:J aH)(i cap aG:Nat)(xs:J (J aH))(last:J aH):cR (cB 8 211) (.leaf) (SS (E:=E) 85 [(0,vL l),(3,vH xs cap),(4,vI ((i:Nat):Int))] [nR cap aG xs last] [gR aG]) [0,3,4]=some ([some (vL l),some (vH xs cap),some (vI (aB (((i:Nat):Int)+1)))],[nR cap aG xs last],[gR aG],[],[]):=by kernel_rfl
set_option maxRecDepth 100000 in
theorem alS(l:J aH)(i cap aG:Nat)(xs:J (J aH))(last:J aH):cR (cB 4 14) (.leaf) (SS (E:=E) 85 [(0,vL l),(3,vH xs cap),(4,vI ((i:Nat):Int))] [nR cap aG xs last] [gR aG]) [0,2]=some ([some (vL l),some (vH xs cap)],[nR cap aG xs last],[gR aG],[],[]):=by kernel_rfl
def lV(c:Int)(o:J (J aH)×J aH)(b:UInt8):J (J aH)×J aH:=cond (b==47) (o.1++[o.2],[]) (o.1,o.2++[aH.mk [b] c])
def za(o:J (J aH)×J aH)(r:aH):J (J aH)×J aH:=cond (r.bO != 0&&(r.bO != 1&&r.bO != 2)) o (r.fText.foldl (lV r.bO) o)
def fP(l:J aH):J (J aH)×J aH:=l.foldl za ([],[])
def zb(l:J aH):J (J aH):=(fP l).1++[(fP l).2]
def cA(l:J aH):Nat:=(l.map fun r=>r.fText.length).sum
def RI(F:Nat)(l:J aH):O (J (J aH)):=rq (decide (l.length<=1000000000)&&decide (cA l<=1000000000)) (some (zb l))
def Fp(o:J (J aH)×J aH):Nat:=o.1.length+o.2.length
theorem ahx(c:Int)(o:J (J aH)×J aH)(b:UInt8):Fp (lV c o b)<=Fp o+1:=by
 unfold lV Fp;cases (b==47)<;>simp<;>omega
theorem Qq(c:Int):∀(t:Bs)(o:J (J aH)×J aH),Fp (t.foldl (lV c) o)<=Fp o+t.length
 | [],o=>by simp
 | b::t,o=>by
  have h1:=Qq c t (lV c o b);have h2:=ahx c o b;simp only [Da,C8];omega
theorem ahy(o:J (J aH)×J aH)(r:aH):Fp (za o r)<=Fp o+r.fText.length:=by
 unfold za;cases (r.bO != 0&&(r.bO != 1&&r.bO != 2))
 ·exact Qq _ _ _
 ·simp
theorem Qr:∀(l:J aH)(o:J (J aH)×J aH),Fp (l.foldl za o)<=Fp o+cA l
 | [],o=>by simp [cA]
 | r::l,o=>by
  have h1:=Qr l (za o r);have h2:=ahy o r;simp only [Da,cA,ld,XH] at h1⊢;omega
theorem pY(l:J aH)(i:Nat)(h:i<l.length):cA (l.take (i+1))=cA (l.take i)+l[i].fText.length:=by
 unfold cA;rw [pR h,JZ,adj];simp
theorem tJ(l:J aH)(i:Nat):cA (l.take i)<=cA l:=by
 unfold cA
 conv=>rhs;rw [<-Ow i l]
 rw [JZ,adj];omega
theorem RL(l:J aH)(i:Nat)(h:i<l.length):fP (l.take (i+1))=za (fP (l.take i)) l[i]:=by
 unfold fP;rw [pR h,T8];rfl
theorem Ug(c:Int)(t:Bs)(o:J (J aH)×J aH)(k:Nat)(h:k<t.length):(t.take (k+1)).foldl (lV c) o=lV c ((t.take k).foldl (lV c) o) t[k]:=by
 rw [pR h,T8];rfl
abbrev gw:Ty:=.ext 17
theorem s8:(⟨Tryz.prog,GZ,[],[],none⟩:Cx E).Ok:=⟨Db,gO,mixed,goN,PA⟩
def stI(l:J aH)(i:Nat)(o:J (J aH)×J aH)(cap aG:Nat):TS E:=SS (E:=E) 85 [(0,.dat (.aZ gw) l),(3,.gP 0 (o.1.length+1) cap),(4,.dat (.int .i64) ((i:Nat):Int))] [.kM 39 cap (.aZ gw) o.1 (.ck 0 aG gw o.2)] [⟨aG,85,2⟩]
def PB(l:J aH)(i k:Nat)(o:J (J aH)×J aH)(cap aG:Nat):TS E:=SS (E:=E) 85 [(0,.dat (.aZ gw) l),(3,.gP 0 (o.1.length+1) cap),(4,.dat (.int .i64) ((i:Nat):Int)),(5,.dat (.int .i64) ((k:Nat):Int))] [.kM 39 cap (.aZ gw) o.1 (.ck 0 aG gw o.2)] [⟨aG,85,2⟩]
theorem XP{l:J aH}{i:Nat}(h:i<l.length):l.getD (Int.toNat (i:Int)) cx=l[i]:=by simp [List.getD,h]
theorem anM{l:Bs}{i:Nat}(h:i<l.length):l.getD (Int.toNat (i:Int)) 0=l[i]:=by simp [List.getD,h]
theorem RM{i n:Nat}(h:i<n):(decide (0<=(i:Int))&&decide ((i:Int)<(n:Int)))=true:=by rw [dN om,dN om];rfl
section
variable {w0 : U} {G0 : aJ} {l : J aH}
theorem eIB:(cB 13 6732)=.seq (.seq (cB 15 26928) (.cond (.tmp 42) .skip (.exit 2))) (.seq (.block 3 (cB 16 53860)) (cB 15 26931)):=by kernel_rfl
theorem eB3:(cB 16 53860)=.seq (cB 17 107720) (.cond (.tmp 52) (cB 18 215442) (cB 18 215443)):=by kernel_rfl
theorem eB1:(cB 9 420)=.seq (.seq (cB 11 1680) (.cond (.tmp 34) (.exit 1) .skip)) (.seq (cB 11 1682) (.block 2 (.loop (cB 13 6732)))):=by kernel_rfl
theorem eOB:(cB 6 52)=.seq (.seq (cB 8 208) (.cond (.tmp 10) .skip (.exit 0))) (.seq (.block 1 (cB 9 420)) (cB 8 211)):=by kernel_rfl
theorem eC:(Tryz.f58.body.getD .skip)=.seq (cB 1 0) (.seq (cB 2 2) (.seq (.seq (cB 4 12) (.block 0 (.loop (cB 6 52)))) (.seq (cB 4 14) .ret))):=by kernel_rfl
theorem ahz(hi:G0.i=[])(hg:G0.g=[]){i k cap aG:Nat}{o:J (J aH)×J aH}(h1:i<l.length)(h2:k<l[i].fText.length)(h3:Fp o<=1000000000)(h4:l[i].fText.length<=1000000000)(hb:(l[i].fText[k]==47)=false):
  AW Tryz.prog w0 G0 (cB 18 215443) (PB l i k o cap aG) (fun x s=>x=.normal/\∃cap' uA,s=PB l i k (lV l[i].bO o l[i].fText[k]) cap' uA):=by
 have hw:=alR l i k cap aG o.1 o.2;have hlx:o.1.length+o.2.length<=1000000000:=h3;have e1:aB (((o.1.length+1:Nat):Int)-1)=(o.1.length:Int):=by rw [bI om];omega
 have e2:(o.1.length:Int).toNat=o.1.length:=bL _
 rw [e1,e2,XP h1,cG om,cE (RM (n:=o.1.length+1) om),cE (Mm _),cE (RM h1),Cw om om om,cE (RM h1),
  cE (by rw [Mm,dN bE,dN bE];rfl),cE (RM (n:=o.1.length+1) om),cE (Mm _)] at hw
 have PC:sl l[i].fText (k:Int) ((k+1:Nat):Int)=[l[i].fText[k]]:=by
  unfold sl;rw [bL,bL,pR h2,List.drop_left' (by rw [Fm];omega)]
 rw [PC] at hw;intro a w G hr;refine wp_mono (AW.rt s8 hi (m':=[(0,.dat (.aZ gw) l),(3,.gP 0 (o.1.length+1) cap),(4,.dat (.int .i64) ((i:Nat):Int)),(5,.dat (.int .i64) ((k:Nat):Int))]) hw a w G hr) fun e a' w' hp=>?_;obtain⟨x,s,G',he,hr',rfl,rfl⟩:=hp
 have hr2:=hr'.ahA hg (by
  intro p hp;simp only [gY,Bb,Bc] at hp;rcases hp with rfl|rfl|rfl|rfl
  ·exact .inl ⟨_,_,rfl⟩
  ·exact .inr ⟨_,_,_,rfl⟩
  ·exact .inl ⟨_,_,rfl⟩
  ·exact .inl ⟨_,_,rfl⟩)
 cases e<;>try (exact he.elim)
 refine⟨.normal,_,_,trivial,hr2,rfl,cap,aG+1,?_⟩;unfold lV PB;rw [hb];rfl
theorem ahB(hi:G0.i=[]){i k cap aG:Nat}{o:J (J aH)×J aH}(h1:i<l.length)(h2:k<l[i].fText.length)(h3:Fp o<=1000000000)(hb:(l[i].fText[k]==47)=true):
  AW Tryz.prog w0 G0 (cB 18 215442) (PB l i k o cap aG) (fun x s=>x=.normal/\∃cap' uA,s=PB l i k (lV l[i].bO o l[i].fText[k]) cap' uA):=by
 have hlx:o.1.length+o.2.length<=1000000000:=h3
 have hw:=AW.ahC (w0:=w0) (G0:=G0) (P:=Tryz.prog) (c:=(cB 18 215442)) Db (n:=85) (t:=92) (e:=39) (e2:=85) (j3:=3) (DH:=53) (Fq:=54) (Mw:=55) kr kr (cl:={callee:=.builtin .append,args:=#[.tmp 53,.tmp 54],argTypes:=#[92,92]}) rfl rfl rfl
  (j1:=1) (j2:=24) (z:=.slice none 0 0) kr (ie:=⟨.slice 85,1,24,.slice none 0 0⟩) kr rfl rfl gw (m0:=[(0,.dat (.aZ gw) l),(4,.dat (.int .i64) ((i:Nat):Int)),(5,.dat (.int .i64) ((k:Nat):Int))]) (by
   intro p hp;simp only [gY,Bb,Bc] at hp;rcases hp with rfl|rfl|rfl<;>exact⟨_,_,rfl⟩) ⟨om,om,om,om⟩ hi (cap:=cap) (aG:=aG) (xs:=o.1) (last:=o.2) rfl (by show (o.1.length+2)*24<=_;omega) (by show o.1.length+2<=_;omega) (by
   intro c' p hp;simp only [yh,pS,gY,Bb,Bc] at hp;rcases hp with rfl|rfl|rfl|rfl<;>rfl) (by
   intro p hp;simp only [gY,Bb,Bc] at hp;rcases hp with rfl|rfl|rfl<;>rfl)
 refine AW.sub hi (m':=[(0,.dat (.aZ gw) l),(4,.dat (.int .i64) ((i:Nat):Int)),(5,.dat (.int .i64) ((k:Nat):Int))]++[(3,.gP 0 (o.1.length+1) cap)]) (by
   intro p hp;simp only [yh,pS,gY,Bb,Bc] at hp;rcases hp with rfl|rfl|rfl|rfl<;>rfl) ?_
 intro a w G hr;refine wp_mono (hw a w G hr) fun e a' w' hp=>?_;obtain⟨x,s,G',he,hr',rfl,c',rfl⟩:=hp;have hs:lV l[i].bO o l[i].fText[k]=(o.1++[o.2],[]):=by unfold lV;rw [hb];rfl
 have hr2:=hr'.aoZ hi (m':=[(0,.dat (.aZ gw) l),(3,.gP 0 (o.1.length+2) c'),(4,.dat (.int .i64) ((i:Nat):Int)),(5,.dat (.int .i64) ((k:Nat):Int))]) (by
   intro p hp;simp only [gY,Bb,Bc] at hp;rcases hp with rfl|rfl|rfl|rfl<;>rfl)
 cases e<;>try (exact he.elim)
 refine⟨.normal,_,_,trivial,hr2,rfl,c',aG+1,?_⟩;rw [hs];unfold PB;simp only [yb,C8,JY];rfl
theorem akj(hi:G0.i=[])(hg:G0.g=[]){i k cap aG:Nat}{o:J (J aH)×J aH}(h1:i<l.length)(h2:k<=l[i].fText.length)(h3:Fp o<=1000000000)(h4:l[i].fText.length<=1000000000):
  AW Tryz.prog w0 G0 (cB 13 6732) (PB l i k o cap aG) (fun x s=>(x=.normal/\∃h:k<l[i].fText.length,∃cap' uA,s=PB l i (k+1) (lV l[i].bO o l[i].fText[k]) cap' uA)\/(x=.exit 2/\k=l[i].fText.length/\s=stI l i o cap aG)):=by
 rw [eIB];refine AW.seq ?_;have hw7:=anI l i k cap aG o.1 o.2;rw [cE (RM h1),XP h1] at hw7;refine AW.Dc (Q':=fun x s=>s=_) (AW.rt s8 hi (m':=[(0,.dat (.aZ gw) l),(3,.gP 0 (o.1.length+1) cap),(4,.dat (.int .i64) ((i:Nat):Int)),(5,.dat (.int .i64) ((k:Nat):Int)),(42,.dat .bool (decide (((k:Nat):Int)<(l[i].fText.length:Int))))]) hw7) ?_;rintro _ rfl;refine AW.cond (b:=decide (((k:Nat):Int)<(l[i].fText.length:Int))) rfl ?_;by_cases hk:k<l[i].fText.length
 ·rw [dN (show ((k:Nat):Int)<(l[i].fText.length:Int) by omega),if_pos rfl]
  refine AW.skip (.inl ⟨rfl,?_⟩);refine AW.Dc (Q':=fun x s=>∃cap' uA,s=PB l i k (lV l[i].bO o l[i].fText[k]) cap' uA) ?_ ?_
  ·refine AW.block ?_
   rw [eB3];have hw9:=anJ l i k cap aG o.1 o.2;rw [cE (RM h1),XP h1,cE (RM hk),anM hk,qN _ 47 om] at hw9
   refine AW.sub hi (m':=[(0,.dat (.aZ gw) l),(3,.gP 0 (o.1.length+1) cap),(4,.dat (.int .i64) ((i:Nat):Int)),(5,.dat (.int .i64) ((k:Nat):Int))]) (by
    intro p hp;simp only [gY,Bb,Bc] at hp;rcases hp with rfl|rfl|rfl|rfl<;>rfl) ?_
   refine AW.Dc (Q':=fun x s=>s=_) (AW.rt s8 hi (m':=[(0,.dat (.aZ gw) l),(3,.gP 0 (o.1.length+1) cap),(4,.dat (.int .i64) ((i:Nat):Int)),(5,.dat (.int .i64) ((k:Nat):Int)),(52,.dat .bool (l[i].fText[k]==47))]) hw9) ?_;rintro _ rfl;refine AW.cond (b:=(l[i].fText[k]==47)) rfl ?_
   refine AW.sub hi (m':=[(0,.dat (.aZ gw) l),(3,.gP 0 (o.1.length+1) cap),(4,.dat (.int .i64) ((i:Nat):Int)),(5,.dat (.int .i64) ((k:Nat):Int))]) (by
    intro p hp;simp only [gY,Bb,Bc] at hp;rcases hp with rfl|rfl|rfl|rfl<;>rfl) ?_
   cases hb:(l[i].fText[k]==47) with
   | true=>
    rw [if_pos rfl]
    exact (ahB hi h1 hk h3 hb).mono fun x s hq=>.inr ⟨(fun e=>by rw [hq.1] at e;cases e),hq.1,hq.2⟩
   | false=>
    rw [if_neg de];exact (ahz hi hg h1 hk h3 h4 hb).mono fun x s hq=>.inr ⟨(fun e=>by rw [hq.1] at e;cases e),hq.1,hq.2⟩
  ·rintro _ ⟨cap',uA,rfl⟩
   have hw8:=anK l i k cap' uA (lV l[i].bO o l[i].fText[k]).1 (lV l[i].bO o l[i].fText[k]).2;rw [cG om] at hw8;refine (AW.rt s8 hi (m':=[(0,.dat (.aZ gw) l),(3,.gP 0 ((lV l[i].bO o l[i].fText[k]).1.length+1) cap'),(4,.dat (.int .i64) ((i:Nat):Int)),(5,.dat (.int .i64) ((k+1:Nat):Int))]) hw8).mono ?_;rintro x s ⟨rfl,rfl⟩;exact .inl ⟨rfl,hk,cap',uA,rfl⟩
 ·rw [sB (show ¬ ((k:Nat):Int)<(l[i].fText.length:Int) by omega),if_neg de]
  refine AW.sub hi (m':=[(0,.dat (.aZ gw) l),(3,.gP 0 (o.1.length+1) cap),(4,.dat (.int .i64) ((i:Nat):Int))]) (by
    intro p hp;simp only [gY,Bb,Bc] at hp;rcases hp with rfl|rfl|rfl<;>rfl) ?_
  exact AW.exit (.inr ⟨(fun e=>by cases e),.inr ⟨rfl,om,rfl⟩⟩)
theorem akk(hi:G0.i=[])(hg:G0.g=[]){i cap aG:Nat}(h1:i<l.length)(h3:cA l<=1000000000):
  AW Tryz.prog w0 G0 (.block 1 (cB 9 420)) (stI l i (fP (l.take i)) cap aG) (fun x s=>x=.normal/\∃cap' uA,s=stI l i (fP (l.take (i+1))) cap' uA):=by
 have hsz:=pY l i h1;have hle:=tJ l (i+1);have hO:Fp (fP (l.take i))<=cA (l.take i):=by have:=Qr (l.take i) ([],[]);simpa [fP,Fp] using this
 have h4:l[i].fText.length<=1000000000:=om;refine AW.block ?_;rw [eB1];refine AW.seq ?_;have hw5:=anG l i cap aG (fP (l.take i)).1 (fP (l.take i)).2;rw [cE (RM h1),XP h1] at hw5;simp only [cE (RM h1)] at hw5;obtain⟨b,hb⟩:∃b,b=(l[i].bO != 0&&(l[i].bO != 1&&l[i].bO != 2)):=⟨_,rfl⟩;refine AW.Dc (Q':=fun x s=>s=_) (AW.rt s8 hi (m':=[(0,.dat (.aZ gw) l),(3,.gP 0 ((fP (l.take i)).1.length+1) cap),(4,.dat (.int .i64) ((i:Nat):Int)),(34,.dat .bool b)]) (H':=[.kM 39 cap (.aZ gw) (fP (l.take i)).1 (.ck 0 aG gw (fP (l.take i)).2)]) (g':=[⟨aG,85,2⟩]) (hw5.trans ?_)) ?_
 ·rw [hb]
  cases (l[i].bO != 0)
  ·rfl
  ·cases (l[i].bO != 1)
   ·rfl
   ·rfl
 rintro _ rfl;refine AW.cond (b:=b) rfl ?_
 refine AW.sub hi (m':=[(0,.dat (.aZ gw) l),(3,.gP 0 ((fP (l.take i)).1.length+1) cap),(4,.dat (.int .i64) ((i:Nat):Int))]) (by
   intro p hp;simp only [gY,Bb,Bc] at hp;rcases hp with rfl|rfl|rfl<;>rfl) ?_
 cases hbb:b with
 | true=>
  rw [if_pos rfl];refine AW.exit (.inr ⟨(fun e=>by cases e),.inl ⟨rfl,rfl,cap,aG,?_⟩⟩);rw [RL l i h1];unfold za;rw [<-hb,hbb]
  rfl
 | false=>
  rw [if_neg de];refine AW.skip (.inl ⟨rfl,?_⟩);have hw6:=anH l i cap aG (fP (l.take i)).1 (fP (l.take i)).2;refine AW.Dc (Q':=fun x s=>s=_) (AW.rt s8 hi (m':=[(0,.dat (.aZ gw) l),(3,.gP 0 ((fP (l.take i)).1.length+1) cap),(4,.dat (.int .i64) ((i:Nat):Int)),(5,.dat (.int .i64) 0)]) hw6) ?_;rintro _ rfl;refine AW.block ?_;refine AW.loop (ι:=Nat×Nat×Nat) (fun x=>PB l i x.1 ((l[i].fText.take x.1).foldl (lV l[i].bO) (fP (l.take i))) x.2.1 x.2.2) (fun x=>x.1<=l[i].fText.length) (fun x=>l[i].fText.length-x.1) (0,cap,aG) (eR _) rfl ?_;rintro⟨k,ao0,ao1⟩ hk;dsimp only at hk⊢
  refine (akj hi hg h1 hk (by
   have:=Qq l[i].bO (l[i].fText.take k) (fP (l.take i));have h5:(l[i].fText.take k).length<=l[i].fText.length:=by rw [Fm];omega
   omega) h4).mono ?_
  rintro x s (⟨rfl,hlt,cap',uA,rfl⟩|⟨rfl,hke,rfl⟩)
  ·exact .inl ⟨rfl,(k+1,cap',uA),hlt,by dsimp only;omega,by rw [Ug _ _ _ _ hlt]⟩
  ·subst hke
   refine .inr ⟨fun e=>(by cases e),.inl ⟨rfl,.inr ⟨fun e=>(by cases e),rfl,ao0,ao1,?_⟩⟩⟩;rw [RL l i h1,yf];unfold za;rw [<-hb,hbb];rfl
theorem ahD(hi:G0.i=[])(hg:G0.g=[])(h2:l.length<=1000000000)(h3:cA l<=1000000000):
  AW Tryz.prog w0 G0 (Tryz.f58.body.getD .skip) (SS (E:=E) 85 [(0,.dat (.aZ gw) l)] [] []) (fun x s=>x=.ret/\∃cap aG,s=SS (E:=E) 85 [(0,.dat (.aZ gw) l),(2,.gP 0 ((fP l).1.length+1) cap)] [.kM 39 cap (.aZ gw) (fP l).1 (.ck 0 aG gw (fP l).2)] [⟨aG,85,2⟩]):=by
 rw [eC];refine AW.Dc (Q':=fun x s=>s=_) (AW.rt s8 hi (m':=[(0,.dat (.aZ gw) l)]) (anD l)) ?_;rintro _ rfl
 refine AW.Dc (Q':=fun x s=>s=_) (AW.alT (c:=(cB 2 2)) (n:=85) (t:=92) (e:=39) 85 (j3:=3) (j6:=6) kr kr (j1:=1) (j2:=24) (z:=.slice none 0 0) kr (ie:=⟨.slice 85,1,24,.slice none 0 0⟩) kr rfl gw
  (m':=[(0,.dat (.aZ gw) l),(3,.gP 0 1 1)]) om hi (by
   intro p hp;simp only [gY,Bb,Bc] at hp;rcases hp with rfl|rfl<;>rfl)) ?_
 rintro _ rfl;refine AW.Dc (Q':=fun x s=>∃cap aG,s=stI l l.length (fP l) cap aG) ?_ ?_
 ·refine AW.Dc (Q':=fun x s=>s=stI l 0 (fP (l.take 0)) 1 0) ((AW.rt s8 hi (m':=[(0,.dat (.aZ gw) l),(3,.gP 0 1 1),(4,.dat (.int .i64) 0)]) (anE l 1 0 [] [])).mono fun x s hq=>hq) ?_
  rintro _ rfl;refine AW.block ?_;refine AW.loop (ι:=Nat×Nat×Nat) (fun x=>stI l x.1 (fP (l.take x.1)) x.2.1 x.2.2) (fun x=>x.1<=l.length) (fun x=>l.length-x.1) (0,1,0) (eR _) rfl ?_;rintro⟨i,cap,aG⟩ hil;dsimp only at hil⊢;rw [eOB];refine AW.seq ?_;refine AW.Dc (Q':=fun x s=>s=_) (AW.rt s8 hi (m':=[(0,.dat (.aZ gw) l),(3,.gP 0 ((fP (l.take i)).1.length+1) cap),(4,.dat (.int .i64) ((i:Nat):Int)),(10,.dat .bool (decide (((i:Nat):Int)<(l.length:Int))))]) (anF l i cap aG (fP (l.take i)).1 (fP (l.take i)).2)) ?_;rintro _ rfl;refine AW.cond (b:=decide (((i:Nat):Int)<(l.length:Int))) rfl ?_
  refine AW.sub hi (m':=[(0,.dat (.aZ gw) l),(3,.gP 0 ((fP (l.take i)).1.length+1) cap),(4,.dat (.int .i64) ((i:Nat):Int))]) (by
   intro p hp;simp only [gY,Bb,Bc] at hp;rcases hp with rfl|rfl|rfl<;>rfl) ?_
  by_cases h1:i<l.length
  ·rw [dN (show ((i:Nat):Int)<(l.length:Int) by omega),if_pos rfl]
   refine AW.skip (.inl ⟨rfl,?_⟩);refine AW.Dc (akk hi hg h1 h3) ?_;rintro _ ⟨cap',uA,rfl⟩;have hw4:=anL l i cap' uA (fP (l.take (i+1))).1 (fP (l.take (i+1))).2;rw [cG om] at hw4;refine (AW.rt s8 hi (m':=[(0,.dat (.aZ gw) l),(3,.gP 0 ((fP (l.take (i+1))).1.length+1) cap'),(4,.dat (.int .i64) ((i+1:Nat):Int))]) hw4).mono ?_;rintro x s ⟨rfl,rfl⟩;exact .inl ⟨rfl,(i+1,cap',uA),h1,by dsimp only;omega,rfl⟩
  ·rw [sB (show ¬ ((i:Nat):Int)<(l.length:Int) by omega),if_neg de]
   obtain rfl:i=l.length:=om;refine AW.exit (.inr ⟨fun e=>(by cases e),.inr ⟨fun e=>(by cases e),.inl ⟨rfl,rfl,cap,aG,?_⟩⟩⟩);rw [yf];rfl
 ·rintro _ ⟨cap,aG,rfl⟩
  refine AW.Dc (Q':=fun x s=>s=_) (AW.rt s8 hi (m':=[(0,.dat (.aZ gw) l),(2,.gP 0 ((fP l).1.length+1) cap)]) (alS l l.length cap aG (fP l).1 (fP l).2)) ?_;rintro _ rfl;exact AW.ret ⟨rfl,cap,aG,rfl⟩
end
def ajK(E:TEnv)(ix:Nat)(f:FuncId)(F:Nat)(m:Nat->J ((Ty.ext ix).den E.D)->O (J (J ((Ty.ext ix).den E.D)))):bB E:=⟨⟨f,[.one (.dat (.aZ (.ext ix)))],[],[],⟨.one (.dat (.aZ (.aZ (.ext ix)))),[],[],[]⟩,none,[]⟩,fun (x:J ((Ty.ext ix).den E.D))=>m F x⟩
set_option maxRecDepth 100000 in
theorem akl(F:Nat):(ajK E 17 58 F RI).Ok Tryz.prog:=by
 have key:∀(l:J aH)(y:J (J aH)),RI F l=some y->kN (E:=E) Tryz.prog 58 [.dat (.aZ gw) l] [] [] [] ⟨true,.dat (.aZ (.aZ gw)) y,[],[],[],[]⟩:=by
  intro l y hy;obtain⟨h1,h2⟩:=dB hy;rw [cw,fq,fq] at h1;cases h2;intro w G args hP hB hS hV;have hi:G.i=[]:=C7 hB.len;have hg:G.g=[]:=by have:=hB.gs;simpa using this
  have Fs:=Rel.J3 (n:=Tryz.f58.ntmps) hP hB hS hV;have hb:Tryz.f58.body=some (Tryz.f58.body.getD .skip):=by kernel_rfl
  refine sD Tryz.func58 hb kr (calls_of_wp Tryz.func58 hb ?_);have eF:Rel E w G (SS (E:=E) 85 [(0,.dat (.aZ gw) l)] [] []) _ w G:=Fs;refine wp_mono (ahD (l:=l) hi hg h1.1 h1.2 _ w G eF) fun e a' w' hp=>?_;obtain⟨x,s,G',he,hr,rfl,cap,aG,rfl⟩:=hp
  have Ie:a'.defers=[]:=by
   have:=hr.defers
   cases hd:a'.defers with
   | nil=>rfl
   | cons d ds=>rw [hd] at this;exact this.elim
  obtain⟨v,hv,hrun⟩:=ze (fn:=Tryz.f58) s8 hr (ds:=[.gP 0 ((fP l).1.length+1) cap]) kr;obtain⟨G2,q1,q2,q3,q4⟩:=akm (j:=2) hr hi hg rfl;cases e<;>try (exact he.elim)
  have Le:v=a'.tmps.getD 2 undef:=by
   have h3:=hr.tmps 2 (.gP 0 ((fP l).1.length+1) cap) rfl;simp only [pZ,VT] at hv h3;obtain⟨b,uc,wO⟩:=hv;obtain⟨b',qb,oV⟩:=h3;rw [wO] at oV;cases oV;rw [uc,qb]
  subst Le;exact⟨Ie,_,hrun,_,G2,rfl,q1,q2,q3,q4,fun q b hq=>by rw [hi] at hq;cases hq⟩
 intro x y hy;exact key x y hy
end Go.Proofs.YtjgkapeknmdedaaGreatDoor
