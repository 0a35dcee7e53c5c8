import Derived.Test.YtlgmlcgjmcmmgaaGreatDoorTy
import Derived.Test.YtlgmlcgjmcmmgaaGreatDoorRk
import Derived.Test.YtlgmlcgjmcmmgaaGreatDoorSo
set_option linter.all false
namespace Go.Proofs.YtlgmlcgjmcmmgaaGreatDoor
open Go.RT
set_option maxRecDepth 100000
noncomputable section
variable (F : Nat)
def G8:=ibF
def O4:bB E:=ibC E 367 F
theorem Ms:(O4 F).Ok pg:=anD (fun args w=>run_callFunc_extern Tryz.func367 kr kr kr (e:=Extern.BytealgIndexByte.indexByte) kr args w) F
def aaS(F:Nat):bB E:=⟨⟨229,[.one (.dat .str)],[],[],⟨.one (.any),[],[],[]⟩,none,[]⟩,fun _=>none⟩
theorem Mu:(aaS F).Ok pg:=fun x y h=>nomatch (show none=some y from h)
def stringslite_IndexByte(a0:Bs)(a1:Int):O Int:=(G8 F a0 a1).bind fun x1=>some x1
def GO:bB E:=⟨sh 325 [oS,.one (.dat (.int .u8))] oI,u2 (stringslite_IndexByte F)⟩
theorem uD:(GO F).Ok pg:=cZ F lf (bL (Ms F) gU) Tryz.func325
def strings_IndexByte(a0:Bs)(a1:Int):O Int:=(stringslite_IndexByte F a0 a1).bind fun x1=>some x1
def LW:bB E:=⟨sh 335 [oS,.one (.dat (.int .u8))] oI,u2 (strings_IndexByte F)⟩
theorem y5:(LW F).Ok pg:=cZ F lf (bL (uD F) gU) Tryz.func335
def I3(F:Nat)(a0:Int):O Bool:=by refine(?g:WQ _) (wv (wa (0<=a0)<|ws (decide (a0<55296))) fun x1=>wo x1<|wv (wa (57343<a0)<|ws (decide (a0<=1114111))) fun x2=>wo x2<|ws false);exact fun{v}_=>v
def Qn:bB E:=⟨sh 366 [.one (.dat (.int .i32))] oB,I3 F⟩
theorem O5:(Qn F).Ok pg:=cZ F (qa (qs (qs (.region [rb 6 9]) (.cond lf (qs (.region [rb 6 16]) lf))) lf)) gU Tryz.func366
def wK(a0:Bs)(a1:Int):O Int:=by refine(?g:WQ _) (wt a0.length fun e=>wt ((I4 a1).length:Int) fun d=>wt (aB (d-1)) fun c=>wt (((I4 a1).getD c.toNat 0).toNat:Int) fun f=>wv (wa (0<=a1)<|ws (decide (a1<128))) fun x1=>wc x1 (wm (strings_IndexByte F a0 (IntKind.wrap .u8 a1)))<|wc (a1==65533) (gG Bs Int (fun kO a b=>wt b.toNat fun g=>wc (Nat.blt g a.length) (wc (((dec a g).1:Int)==65533) (ws ((g:Nat):Int))<|ww<|kO (a,((g+(dec a g).2:Nat):Int)))<|ws (-1)) F (a0,((0:Nat):Int)))<|wb (I3 F a1) fun x5=>wc (!x5) (ws (-1))<|wl Int (fun wk x6=>wt (aB (x6+1)) fun h=>wc (x6<e) (ww<|jj (σ:=Int) (rq (0<=x6&&x6<e) (rq (0<=c&&c<d) (cond (((a0.getD x6.toNat 0).toNat:Int)!=f) (rq (0<=h&&(h<=e&&(e:Int)<=(e:Int))) (rq (0<=c&&c<d) ((strings_IndexByte F (sl a0 h (e:Int)) f).bind fun x9=>cond (x9<0) (some (.inr (-1))) (some (.inl (aB (x6+aB (x9+1)))))))) (some (.inl x6))))) fun x8=>bU (σ:=Int) (fun adr bW=>cond (bW<d) (rq (0<=aB (x8-bW)&&aB (x8-bW)<e) (rq (0<=aB (c-bW)&&aB (c-bW)<d) (cond (((a0.getD (aB (x8-bW)).toNat 0).toNat:Int)!=(((I4 a1).getD (aB (c-bW)).toNat 0).toNat:Int)) none (adr (aB (bW+1)))))) (some (aB (x8-c)))) F 1)<|ws (-1)) F c);exact fun{v}_=>v
def LX:bB E:=⟨sh 323 [oS,.one (.dat (.int .i32))] oI,u2 (wK F)⟩
theorem J5:(LX F).Ok pg:=cZ F (qa (qs (.region [rb 6 166]) (.cond lf (qa (.cond (qs (qa (.loop [] ⟨[],[some (.iter)],[],[]⟩ lf)) lf) (qa (.cond lf (qa (qa (qa (qa (qs (.loop [] (ct [(9,oI)]) (qa (.seq [] (some ((ct [(9,oI)]),true)) (qs (.draw [⟨true,7,none⟩]) (.cond (qs (.draw [⟨true,7,none⟩,⟨false,2,none⟩]) lf) lf)) (qs (qa (.loop [] (ct [(12,oI)]) (qa (qs (qs (.draw [⟨true,11,none⟩]) lf) lf)))) lf)))) lf)))))))))))) (bL (y5 F) (bL (O5 F) gU)) Tryz.func323
def strings_shouldUseASCIISet(F:Nat)(a0:Int):O Bool:=some (decide (8<a0))
def CA:bB E:=⟨sh 324 [oI] oB,strings_shouldUseASCIISet F⟩
theorem Bg:(CA F).Ok pg:=cZ F lf gU Tryz.func324
def strings_IndexAny(a0 a1:Bs):O Int:=by refine(?g:WQ _) (wt (a1.length:Int) fun e=>wt (IntKind.wrap .i32 ((a1.getD 0 0).toNat:Int)) fun c=>wc (a1==[]) (ws (-1))<|wc (e==1) (wq (0<e)<|wv (wc (128<=c) (ws 65533)<|ws c) fun x1=>wm (wK F a0 x1))<|wb (strings_shouldUseASCIISet F (a0.length:Int)) fun x3=>wc x3 wn<|gG Bs Int (fun y6 a b=>wt b.toNat fun d=>wc (Nat.blt d a.length) (wb (wK F a1 ((dec a d).1:Int)) fun x6=>wc (0<=x6) (ws ((d:Nat):Int))<|ww<|y6 (a,((d+(dec a d).2:Nat):Int)))<|ws (-1)) F (a0,((0:Nat):Int)));exact fun{v}_=>v
def Mv:bB E:=⟨sh 265 [oS,oS] oI,u2 (strings_IndexAny F)⟩
theorem LY:(Mv F).Ok pg:=cZ F (qa (qa (qs (qa (.cond (qa (.seq [] (some ((ct [(5,.one (.dat (.int .i32)))]),false)) lf lf)) lf)) (qa (qs (qa (.loop [] ⟨[],[some (.iter)],[],[]⟩ lf)) lf))))) (bL (J5 F) (bL (Bg F) (bL (Mu F) gU))) Tryz.func265
end
open Go.RT Go.RowKit Go.Maps Go.Sort Go.Shelf
open Go.Proofs (encStr)
theorem alP:Builder.Extra Tryz.prog Tryz.VE:={
 sizeBuilder:=by kernel_rfl
 liesBuilder:=by kernel_rfl
 t5:=Tryz.underlying5
 a5:=Tryz.isAgg5
 z5:=Tryz.sizeOf5
 v5:=Tryz.zeroValue5
 infoByte:=by kernel_rfl
 cellsByte:=by kernel_rfl
 sizeByte:=by kernel_rfl
 neB5:=by decide}
theorem afx:Ya Tryz.prog 109:=
 ⟨oW Tryz.func109 kr kr,fun bk o c xs sep w h1 h2 h3 h4 h5=>Any.strings_Join Tryz.ajL alP bk o c xs sep w h1 h2 h3 h4 h5,fun a c sep w=>Any.strings_Join_none Tryz.ajL alP a c sep w⟩
theorem anE:ajM Tryz.prog 272:=
 ⟨oW Tryz.func272 kr kr,fun s c w h=>Any.strings_LastIndexByte Tryz.aoX s c h w⟩
theorem alQ:afy Tryz.prog 112:=
 ⟨oW Tryz.func112 kr kr,fun blk cap ss w h1 h2 h3=>AnyM.slices_Sort_string Tryz.XJ blk 0 cap ss w h1 h2 h3,fun p cap w=>AnyM.slices_Sort_string_none Tryz.XJ p cap w⟩
theorem VF{w:U}{G:aJ}(hP:oX E w G):∃m,w.cell? ⟨0,0,none⟩=some (.int .i64 m):=by
 obtain⟨cs,t,m,h1,n,h2⟩:=(hP 0 _ rfl).1;exact⟨n,by simp [World.cell?,h1,h2]⟩
theorem splitAt:abY E Tryz.prog 160 9:=
 ⟨oW Tryz.func160 kr kr,fun s sep w G hP h1 h2=>by
  obtain⟨m,hm⟩:=VF hP;exact Any.strings_Split Tryz.alR kr s sep m w h1 hm h2,
  fun s sep h=>Lib.splitB_all sep h 0 _ s rfl,fun s sep h=>Lib.countB_le sep h s.size s (ef _)⟩
theorem cutAt:ajN E Tryz.prog 163:=
 ⟨oW Tryz.func163 kr kr,fun s sep w G hP h=>by
  obtain⟨m,hm⟩:=VF hP;exact Any.strings_Cut Tryz.aoY s sep m w h hm⟩
def ads(F:Nat)(s cs:Bs):O Int:=cond (Nat.ble s.length 8) (strings_IndexAny F s cs)
 (rq (decide (s.length<4294967281)&&(decide (2<=cs.length)&&(decide (cs.length<4294967281)&&cs.all fun b=>decide (b.toNat<128)))) (some (Lib.indexAny s cs)))
def alS(E:TEnv)(f:FuncId)(F:Nat):bB E:=⟨⟨f,[.one (.dat .str),.one (.dat .str)],[],[],⟨.one (.dat (.int .i64)),[],[],[]⟩,none,[]⟩,fun (x:Bs×Bs)=>ads F x.1 x.2⟩
set_option maxRecDepth 100000 in
theorem alT(F:Nat):(alS E 265 F).Ok Tryz.prog:=by
 have key:∀(s cs:Bs)(y:Int),ads F s cs=some y->kS (E:=E) Tryz.prog 265 [.dat .str s,.dat .str cs] [] [] [] ⟨true,.dat (.int .i64) y,[],[],[],[]⟩:=by
  intro s cs y hy;unfold ads at hy;cases hb:Nat.ble s.length 8<;>rw [hb] at hy<;>simp only [bw,aU] at hy
  ·obtain⟨h1,h2⟩:=dG hy
   rw [cx,cx,cx,fW,fW,fW,oR] at h1;obtain⟨c1,c2,c3,c4⟩:=h1;cases h2
   have h8:8<s.length:=by
    rcases Nat.lt_or_ge 8 s.length with h|h
    ·exact h
    ·rw [Nat.ble_eq_true_of_le h] at hb;cases hb
   refine B4 (oW Tryz.func265 kr kr) fun w G args hP hv=>⟨_,fun w G=>.int w G .i64 (Lib.indexAny s cs),?_⟩;obtain⟨u,us,ha,uf,qd⟩:=hv.cons_inv;obtain⟨u2,Rv,q8,DH,I5⟩:=qd.cons_inv;have I5:Rv=[]:=by simpa only [bC] using I5
   have e1:=uf.gP;have e2:=DH.gP;subst e1 e2 I5 q8;have ha:args=#[mkStr s,mkStr cs]:=by apply Rl;exact ha
   subst ha;have hz:=zero_of_info (P:=Tryz.prog) (t:=Tryz.abZ.t 116) (v:=.agg (Array.replicate 256 (.bool false))) (n:=256) kr;refine (Any.strings_IndexAny_long Tryz.iaL hz.1 hz.2 ⟨⟨s⟩⟩ ⟨⟨cs⟩⟩ w c2 h8 c1 c3 fun j b hb=>by simpa using c4 b (iX hb)).mono fun e w' hh=>?_;obtain⟨q1,q2⟩:=hh;refine⟨q1,?_⟩;rw [q2];exact ((Below.refl _ _).alloc (ef _) _).alloc si _
  ·exact LY F (s,cs) y hy
 intro x y hy;exact key x.1 x.2 y hy
theorem aoZ:Rw Tryz.prog 298:=
 ⟨oW Tryz.func298 kr kr,fun blk cap zs w h1 h2=>AnyE.slices_Reverse Tryz.ao0 (Value.int .u8) (fun _=>rfl) blk 0 cap zs w h1 h2⟩
noncomputable abbrev cX:Cx E:=⟨Tryz.prog,G9,[],[],none⟩
abbrev vI(n:Int):TV E:=.dat (.int .i64) n
abbrev vB(b:Bool):TV E:=.dat .bool b
abbrev vL(l:J aG):TV E:=.dat (.aZ (.ext 17)) l
abbrev vH(xs:J (J aG))(cap:Nat):TV E:=.gV 0 (xs.length+1) cap
abbrev nR(cap aE:Nat)(xs:J (J aG))(last:J aG):eW E:=.kR 88 cap (.aZ (.ext 17)) xs (.cg 0 aE (.ext 17) last)
abbrev gR(aE:Nat):bO:=⟨aE,131,2⟩
noncomputable abbrev cR(c:Code)(p:di)(s:TS E)(js:J Nat):=Go.RT.runT cX 0 c p s (proj js)
def cP:Code->J Bool->Code
 | .seq a _,false::p=>cP a p
 | .seq _ b,true::p=>cP b p
 | .cond _ a _,false::p=>cP a p
 | .cond _ _ b,true::p=>cP b p
 | .block _ a,false::p=>cP a p
 | .loop a,false::p=>cP a p
 | c,_=>c
def bts:Nat->Nat->J Bool
 | 0,_=>[]
 | k+1,n=>Nat.beq (n / 2^k%2) 1::bts k n
noncomputable abbrev cB(k n:Nat):Code:=cP (Tryz.f61.body.getD .skip) (bts k n)
set_option maxRecDepth 100000 in
theorem anF(l:J aG):cR (cB 1 0) (.leaf) (SS (E:=E) 85 [(0,vL l)] [] []) [0]=some ([some (vL l)],[],[],[],[]):=by kernel_rfl
set_option maxRecDepth 100000 in
theorem anG(l:J aG)(cap aE:Nat)(xs:J (J aG))(last:J aG):cR (cB 4 12) (.leaf) (SS (E:=E) 85 [(0,vL l),(3,vH xs cap)] [nR cap aE xs last] [gR aE]) [0,3,4]=some ([some (vL l),some (vH xs cap),some (vI 0)],[nR cap aE xs last],[gR aE],[],[]):=by kernel_rfl
set_option maxRecDepth 100000 in
theorem anH(l:J aG)(i cap aE:Nat)(xs:J (J aG))(last:J aG):cR (cB 8 208) (.leaf) (SS (E:=E) 85 [(0,vL l),(3,vH xs cap),(4,vI ((i:Nat):Int))] [nR cap aE xs last] [gR aE]) [0,3,4,10]=some ([some (vL l),some (vH xs cap),some (vI ((i:Nat):Int)),some (vB (decide (((i:Nat):Int)<(l.length:Int))))],[nR cap aE xs last],[gR aE],[],[]):=by kernel_rfl
set_option maxRecDepth 100000 in
theorem anI(l:J aG)(i cap aE:Nat)(xs:J (J aG))(last:J aG):cR (cB 11 1680) (.leaf) (SS (E:=E) 85 [(0,vL l),(3,vH xs cap),(4,vI ((i:Nat):Int))] [nR cap aE xs last] [gR aE]) [0,3,4,34]=rq ((decide (0<=((i:Nat):Int)))&&(decide (((i:Nat):Int)<(l.length:Int)))) (cond (((l.getD (Int.toNat ((i:Nat):Int)) dc).bZ) != 0)
 (rq ((decide (0<=((i:Nat):Int)))&&(decide (((i:Nat):Int)<(l.length:Int)))) (cond (((l.getD (Int.toNat ((i:Nat):Int)) dc).bZ) != 1)
 (rq ((decide (0<=((i:Nat):Int)))&&(decide (((i:Nat):Int)<(l.length:Int)))) (some ([some (vL l),some (vH xs cap),some (vI ((i:Nat):Int)),some (vB (((l.getD (Int.toNat ((i:Nat):Int)) dc).bZ) != 2))],[nR cap aE xs last],[gR aE],[],[])))
 (some ([some (vL l),some (vH xs cap),some (vI ((i:Nat):Int)),some (vB false)],[nR cap aE xs last],[gR aE],[],[]))))
 (some ([some (vL l),some (vH xs cap),some (vI ((i:Nat):Int)),some (vB false)],[nR cap aE xs last],[gR aE],[],[]))):=by kernel_rfl
set_option maxRecDepth 100000 in
theorem anJ(l:J aG)(i cap aE:Nat)(xs:J (J aG))(last:J aG):cR (cB 11 1682) (.leaf) (SS (E:=E) 85 [(0,vL l),(3,vH xs cap),(4,vI ((i:Nat):Int))] [nR cap aE xs last] [gR aE]) [0,3,4,5]=some ([some (vL l),some (vH xs cap),some (vI ((i:Nat):Int)),some (vI 0)],[nR cap aE xs last],[gR aE],[],[]):=by kernel_rfl
set_option maxRecDepth 100000 in
theorem anK(l:J aG)(i k cap aE:Nat)(xs:J (J aG))(last:J aG):cR (cB 15 26928) (.leaf) (SS (E:=E) 85 [(0,vL l),(3,vH xs cap),(4,vI ((i:Nat):Int)),(5,vI ((k:Nat):Int))] [nR cap aE xs last] [gR aE]) [0,3,4,5,42]=rq ((decide (0<=((i:Nat):Int)))&&(decide (((i:Nat):Int)<(l.length:Int)))) (some ([some (vL l),some (vH xs cap),some (vI ((i:Nat):Int)),some (vI ((k:Nat):Int)),some (vB (decide (((k:Nat):Int)<(((l.getD (Int.toNat ((i:Nat):Int)) dc).fText).length:Int))))],[nR cap aE xs last],[gR aE],[],[])):=by kernel_rfl
set_option maxRecDepth 100000 in
theorem anL(l:J aG)(i k cap aE:Nat)(xs:J (J aG))(last:J aG):cR (cB 17 107720) (.leaf) (SS (E:=E) 85 [(0,vL l),(3,vH xs cap),(4,vI ((i:Nat):Int)),(5,vI ((k:Nat):Int))] [nR cap aE xs last] [gR aE]) [0,3,4,5,52]=rq ((decide (0<=((i:Nat):Int)))&&(decide (((i:Nat):Int)<(l.length:Int)))) (rq ((decide (0<=((k:Nat):Int)))&&(decide (((k:Nat):Int)<(((l.getD (Int.toNat ((i:Nat):Int)) dc).fText).length:Int)))) (some ([some (vL l),some (vH xs cap),some (vI ((i:Nat):Int)),some (vI ((k:Nat):Int)),some (vB (((((l.getD (Int.toNat ((i:Nat):Int)) dc).fText).getD (Int.toNat ((k:Nat):Int)) 0).toNat:Int)==47))],[nR cap aE xs last],[gR aE],[],[]))):=by kernel_rfl
set_option maxRecDepth 100000 in
theorem alU(l:J aG)(i k cap aE:Nat)(xs:J (J aG))(last:J aG):cR (cB 18 215443) (.eT [0] [28] [⟨[(0,true),(1,true),(2,true),(3,true),(4,true),(5,true),(6,true),(7,true),(8,true),(9,true),(10,true),(11,true),(12,true),(13,true),(14,true),(15,true),(16,true),(17,true),(18,true),(19,true),(20,true),(21,true),(22,true),(23,true),(24,true),(25,false),(26,false),(27,false),(28,false)],none⟩]) (SS (E:=E) 85 [(0,vL l),(3,vH xs cap),(4,vI ((i:Nat):Int)),(5,vI ((k:Nat):Int))] [nR cap aE xs last] [gR aE]) [0,3,4,5]=rq ((decide (0<=aB (((xs.length+1:Nat):Int)-1)))&&(decide (aB (((xs.length+1:Nat):Int)-1)<((xs.length+1:Nat):Int)))) (rq (Nat.beq (Int.toNat (aB (((xs.length+1:Nat):Int)-1))) xs.length) (rq ((decide (0<=((i:Nat):Int)))&&(decide (((i:Nat):Int)<(l.length:Int)))) (rq ((decide (0<=((k:Nat):Int)))&&((decide (((k:Nat):Int)<=aB (((k:Nat):Int)+1)))&&(decide (aB (((k:Nat):Int)+1)<=(((l.getD (Int.toNat ((i:Nat):Int)) dc).fText).length:Int))))) (rq ((decide (0<=((i:Nat):Int)))&&(decide (((i:Nat):Int)<(l.length:Int)))) (rq ((Nat.beq aE aE)&&((decide (last.length+([(aG.mk (sl ((l.getD (Int.toNat ((i:Nat):Int)) dc).fText) ((k:Nat):Int) (aB (((k:Nat):Int)+1))) ((l.getD (Int.toNat ((i:Nat):Int)) dc).bZ))]:J aG).length<=9223372036854775807))&&(decide ((last.length+([(aG.mk (sl ((l.getD (Int.toNat ((i:Nat):Int)) dc).fText) ((k:Nat):Int) (aB (((k:Nat):Int)+1))) ((l.getD (Int.toNat ((i:Nat):Int)) dc).bZ))]:J aG).length)*24<=140737488355328)))) (rq ((decide (0<=aB (((xs.length+1:Nat):Int)-1)))&&(decide (aB (((xs.length+1:Nat):Int)-1)<((xs.length+1:Nat):Int)))) (rq (Nat.beq (Int.toNat (aB (((xs.length+1:Nat):Int)-1))) xs.length) (some ([some (vL l),some (vH xs cap),some (vI ((i:Nat):Int)),some (vI ((k:Nat):Int))],[.kR 88 cap (.aZ (.ext 17)) xs (.cg 0 (aE+1) (.ext 17) (last++([(aG.mk (sl ((l.getD (Int.toNat ((i:Nat):Int)) dc).fText) ((k:Nat):Int) (aB (((k:Nat):Int)+1))) ((l.getD (Int.toNat ((i:Nat):Int)) dc).bZ))]:J aG)))],[⟨aE+1,131,2⟩,⟨0,131,2⟩],[],[]))))))))):=by kernel_rfl
set_option maxRecDepth 100000 in
theorem anM(l:J aG)(i k cap aE:Nat)(xs:J (J aG))(last:J aG):cR (cB 15 26931) (.leaf) (SS (E:=E) 85 [(0,vL l),(3,vH xs cap),(4,vI ((i:Nat):Int)),(5,vI ((k:Nat):Int))] [nR cap aE xs last] [gR aE]) [0,3,4,5]=some ([some (vL l),some (vH xs cap),some (vI ((i:Nat):Int)),some (vI (aB (((k:Nat):Int)+1)))],[nR cap aE xs last],[gR aE],[],[]):=by kernel_rfl
set_option maxRecDepth 100000 in
theorem anN(l:J aG)(i cap aE:Nat)(xs:J (J aG))(last:J aG):cR (cB 8 211) (.leaf) (SS (E:=E) 85 [(0,vL l),(3,vH xs cap),(4,vI ((i:Nat):Int))] [nR cap aE xs last] [gR aE]) [0,3,4]=some ([some (vL l),some (vH xs cap),some (vI (aB (((i:Nat):Int)+1)))],[nR cap aE xs last],[gR aE],[],[]):=by kernel_rfl
set_option maxRecDepth 100000 in
theorem alV(l:J aG)(i cap aE:Nat)(xs:J (J aG))(last:J aG):cR (cB 4 14) (.leaf) (SS (E:=E) 85 [(0,vL l),(3,vH xs cap),(4,vI ((i:Nat):Int))] [nR cap aE xs last] [gR aE]) [0,2]=some ([some (vL l),some (vH xs cap)],[nR cap aE xs last],[gR aE],[],[]):=by kernel_rfl
def mc(c:Int)(o:J (J aG)×J aG)(b:UInt8):J (J aG)×J aG:=cond (b==47) (o.1++[o.2],[]) (o.1,o.2++[aG.mk [b] c])
def y7(o:J (J aG)×J aG)(r:aG):J (J aG)×J aG:=cond (r.bZ != 0&&(r.bZ != 1&&r.bZ != 2)) o (r.fText.foldl (mc r.bZ) o)
def fX(l:J aG):J (J aG)×J aG:=l.foldl y7 ([],[])
def y9(l:J aG):J (J aG):=(fX l).1++[(fX l).2]
def cC(l:J aG):Nat:=(l.map fun r=>r.fText.length).sum
def Rx(F:Nat)(l:J aG):O (J (J aG)):=rq (decide (l.length<=1000000000)&&decide (cC l<=1000000000)) (some (y9 l))
def Fy(o:J (J aG)×J aG):Nat:=o.1.length+o.2.length
theorem ahx(c:Int)(o:J (J aG)×J aG)(b:UInt8):Fy (mc c o b)<=Fy o+1:=by
 unfold mc Fy;cases (b==47)<;>simp<;>omega
theorem Qo(c:Int):∀(t:Bs)(o:J (J aG)×J aG),Fy (t.foldl (mc c) o)<=Fy o+t.length
 | [],o=>by simp
 | b::t,o=>by
  have h1:=Qo c t (mc c o b);have h2:=ahx c o b;simp only [Dc,Dd];omega
theorem ahy(o:J (J aG)×J aG)(r:aG):Fy (y7 o r)<=Fy o+r.fText.length:=by
 unfold y7;cases (r.bZ != 0&&(r.bZ != 1&&r.bZ != 2))
 ·exact Qo _ _ _
 ·simp
theorem Qp:∀(l:J aG)(o:J (J aG)×J aG),Fy (l.foldl y7 o)<=Fy o+cC l
 | [],o=>by simp [cC]
 | r::l,o=>by
  have h1:=Qp l (y7 o r);have h2:=ahy o r;simp only [Dc,cC,lC,Xz] at h1⊢;omega
theorem p4(l:J aG)(i:Nat)(h:i<l.length):cC (l.take (i+1))=cC (l.take i)+l[i].fText.length:=by
 unfold cC;rw [qA h,J3,ac5];simp
theorem tL(l:J aG)(i:Nat):cC (l.take i)<=cC l:=by
 unfold cC
 conv=>rhs;rw [<-Ua i l]
 rw [J3,ac5];omega
theorem Ry(l:J aG)(i:Nat)(h:i<l.length):fX (l.take (i+1))=y7 (fX (l.take i)) l[i]:=by
 unfold fX;rw [qA h,Rq];rfl
theorem Uf(c:Int)(t:Bs)(o:J (J aG)×J aG)(k:Nat)(h:k<t.length):(t.take (k+1)).foldl (mc c) o=mc c ((t.take k).foldl (mc c) o) t[k]:=by
 rw [qA h,Rq];rfl
abbrev gD:Ty:=.ext 17
theorem tf:(⟨Tryz.prog,G9,[],[],none⟩:Cx E).Ok:=⟨De,gU,mixed,goN,Pq⟩
def stI(l:J aG)(i:Nat)(o:J (J aG)×J aG)(cap aE:Nat):TS E:=SS (E:=E) 85 [(0,.dat (.aZ gD) l),(3,.gV 0 (o.1.length+1) cap),(4,.dat (.int .i64) ((i:Nat):Int))] [.kR 88 cap (.aZ gD) o.1 (.cg 0 aE gD o.2)] [⟨aE,131,2⟩]
def Pr(l:J aG)(i k:Nat)(o:J (J aG)×J aG)(cap aE:Nat):TS E:=SS (E:=E) 85 [(0,.dat (.aZ gD) l),(3,.gV 0 (o.1.length+1) cap),(4,.dat (.int .i64) ((i:Nat):Int)),(5,.dat (.int .i64) ((k:Nat):Int))] [.kR 88 cap (.aZ gD) o.1 (.cg 0 aE gD o.2)] [⟨aE,131,2⟩]
theorem XK{l:J aG}{i:Nat}(h:i<l.length):l.getD (Int.toNat (i:Int)) dc=l[i]:=by simp [List.getD,h]
theorem anO{l:Bs}{i:Nat}(h:i<l.length):l.getD (Int.toNat (i:Int)) 0=l[i]:=by simp [List.getD,h]
theorem Rz{i n:Nat}(h:i<n):(decide (0<=(i:Int))&&decide ((i:Int)<(n:Int)))=true:=by rw [dQ om,dQ om];rfl
section
variable {w0 : U} {G0 : aJ} {l : J aG}
theorem eIB:(cB 13 6732)=.seq (.seq (cB 15 26928) (.cond (.tmp 42) .skip (.exit 2))) (.seq (.block 3 (cB 16 53860)) (cB 15 26931)):=by kernel_rfl
theorem eB3:(cB 16 53860)=.seq (cB 17 107720) (.cond (.tmp 52) (cB 18 215442) (cB 18 215443)):=by kernel_rfl
theorem eB1:(cB 9 420)=.seq (.seq (cB 11 1680) (.cond (.tmp 34) (.exit 1) .skip)) (.seq (cB 11 1682) (.block 2 (.loop (cB 13 6732)))):=by kernel_rfl
theorem eOB:(cB 6 52)=.seq (.seq (cB 8 208) (.cond (.tmp 10) .skip (.exit 0))) (.seq (.block 1 (cB 9 420)) (cB 8 211)):=by kernel_rfl
theorem eC:(Tryz.f61.body.getD .skip)=.seq (cB 1 0) (.seq (cB 2 2) (.seq (.seq (cB 4 12) (.block 0 (.loop (cB 6 52)))) (.seq (cB 4 14) .ret))):=by kernel_rfl
theorem ahz(hi:G0.i=[])(hg:G0.g=[]){i k cap aE:Nat}{o:J (J aG)×J aG}(h1:i<l.length)(h2:k<l[i].fText.length)(h3:Fy o<=1000000000)(h4:l[i].fText.length<=1000000000)(hb:(l[i].fText[k]==47)=false):
  AW Tryz.prog w0 G0 (cB 18 215443) (Pr l i k o cap aE) (fun x s=>x=.normal/\∃cap' uE,s=Pr l i k (mc l[i].bZ o l[i].fText[k]) cap' uE):=by
 have hw:=alU l i k cap aE o.1 o.2;have hlx:o.1.length+o.2.length<=1000000000:=h3;have e1:aB (((o.1.length+1:Nat):Int)-1)=(o.1.length:Int):=by rw [bI om];omega
 have e2:(o.1.length:Int).toNat=o.1.length:=ck _
 rw [e1,e2,XK h1,cG om,cE (Rz (n:=o.1.length+1) om),cE (Mj _),cE (Rz h1),CB om om om,cE (Rz h1),
  cE (by rw [Mj,dQ bH,dQ bH];rfl),cE (Rz (n:=o.1.length+1) om),cE (Mj _)] at hw
 have Pt:sl l[i].fText (k:Int) ((k+1:Nat):Int)=[l[i].fText[k]]:=by
  unfold sl;rw [ck,ck,qA h2,List.drop_left' (by rw [Qd];omega)]
 rw [Pt] at hw;intro a w G hr;refine wp_mono (AW.rt tf hi (m':=[(0,.dat (.aZ gD) l),(3,.gV 0 (o.1.length+1) cap),(4,.dat (.int .i64) ((i:Nat):Int)),(5,.dat (.int .i64) ((k:Nat):Int))]) hw a w G hr) fun e a' w' hp=>?_;obtain⟨x,s,G',he,hr',rfl,rfl⟩:=hp
 have hr2:=hr'.ahA hg (by
  intro p hp;simp only [ij,Be,Bf] at hp;rcases hp with rfl|rfl|rfl|rfl
  ·exact .inl ⟨_,_,rfl⟩
  ·exact .inr ⟨_,_,_,rfl⟩
  ·exact .inl ⟨_,_,rfl⟩
  ·exact .inl ⟨_,_,rfl⟩)
 cases e<;>try (exact he.elim)
 refine⟨.normal,_,_,trivial,hr2,rfl,cap,aE+1,?_⟩;unfold mc Pr;rw [hb];rfl
theorem ahB(hi:G0.i=[]){i k cap aE:Nat}{o:J (J aG)×J aG}(h1:i<l.length)(h2:k<l[i].fText.length)(h3:Fy o<=1000000000)(hb:(l[i].fText[k]==47)=true):
  AW Tryz.prog w0 G0 (cB 18 215442) (Pr l i k o cap aE) (fun x s=>x=.normal/\∃cap' uE,s=Pr l i k (mc l[i].bZ o l[i].fText[k]) cap' uE):=by
 have hlx:o.1.length+o.2.length<=1000000000:=h3
 have hw:=AW.ahC (w0:=w0) (G0:=G0) (P:=Tryz.prog) (c:=(cB 18 215442)) De (n:=85) (t:=92) (e:=88) (e2:=131) (j3:=3) (DI:=53) (Fz:=54) (Mw:=55) kr kr (cl:={callee:=.builtin .append,args:=#[.tmp 53,.tmp 54],argTypes:=#[92,92]}) rfl rfl rfl
  (j1:=1) (j2:=24) (z:=.slice none 0 0) kr (ie:=⟨.slice 131,1,24,.slice none 0 0⟩) kr rfl rfl gD (m0:=[(0,.dat (.aZ gD) l),(4,.dat (.int .i64) ((i:Nat):Int)),(5,.dat (.int .i64) ((k:Nat):Int))]) (by
   intro p hp;simp only [ij,Be,Bf] at hp;rcases hp with rfl|rfl|rfl<;>exact⟨_,_,rfl⟩) ⟨om,om,om,om⟩ hi (cap:=cap) (aE:=aE) (xs:=o.1) (last:=o.2) rfl (by show (o.1.length+2)*24<=_;omega) (by show o.1.length+2<=_;omega) (by
   intro c' p hp;simp only [yo,pV,ij,Be,Bf] at hp;rcases hp with rfl|rfl|rfl|rfl<;>rfl) (by
   intro p hp;simp only [ij,Be,Bf] at hp;rcases hp with rfl|rfl|rfl<;>rfl)
 refine AW.sub hi (m':=[(0,.dat (.aZ gD) l),(4,.dat (.int .i64) ((i:Nat):Int)),(5,.dat (.int .i64) ((k:Nat):Int))]++[(3,.gV 0 (o.1.length+1) cap)]) (by
   intro p hp;simp only [yo,pV,ij,Be,Bf] at hp;rcases hp with rfl|rfl|rfl|rfl<;>rfl) ?_
 intro a w G hr;refine wp_mono (hw a w G hr) fun e a' w' hp=>?_;obtain⟨x,s,G',he,hr',rfl,c',rfl⟩:=hp;have hs:mc l[i].bZ o l[i].fText[k]=(o.1++[o.2],[]):=by unfold mc;rw [hb];rfl
 have hr2:=hr'.ao1 hi (m':=[(0,.dat (.aZ gD) l),(3,.gV 0 (o.1.length+2) c'),(4,.dat (.int .i64) ((i:Nat):Int)),(5,.dat (.int .i64) ((k:Nat):Int))]) (by
   intro p hp;simp only [ij,Be,Bf] at hp;rcases hp with rfl|rfl|rfl|rfl<;>rfl)
 cases e<;>try (exact he.elim)
 refine⟨.normal,_,_,trivial,hr2,rfl,c',aE+1,?_⟩;rw [hs];unfold Pr;simp only [yq,Dd,Qh];rfl
theorem akk(hi:G0.i=[])(hg:G0.g=[]){i k cap aE:Nat}{o:J (J aG)×J aG}(h1:i<l.length)(h2:k<=l[i].fText.length)(h3:Fy o<=1000000000)(h4:l[i].fText.length<=1000000000):
  AW Tryz.prog w0 G0 (cB 13 6732) (Pr l i k o cap aE) (fun x s=>(x=.normal/\∃h:k<l[i].fText.length,∃cap' uE,s=Pr l i (k+1) (mc l[i].bZ o l[i].fText[k]) cap' uE)\/(x=.exit 2/\k=l[i].fText.length/\s=stI l i o cap aE)):=by
 rw [eIB];refine AW.seq ?_;have hw7:=anK l i k cap aE o.1 o.2;rw [cE (Rz h1),XK h1] at hw7;refine AW.Df (Q':=fun x s=>s=_) (AW.rt tf hi (m':=[(0,.dat (.aZ gD) l),(3,.gV 0 (o.1.length+1) cap),(4,.dat (.int .i64) ((i:Nat):Int)),(5,.dat (.int .i64) ((k:Nat):Int)),(42,.dat .bool (decide (((k:Nat):Int)<(l[i].fText.length:Int))))]) hw7) ?_;rintro _ rfl;refine AW.cond (b:=decide (((k:Nat):Int)<(l[i].fText.length:Int))) rfl ?_;by_cases hk:k<l[i].fText.length
 ·rw [dQ (show ((k:Nat):Int)<(l[i].fText.length:Int) by omega),if_pos rfl]
  refine AW.skip (.inl ⟨rfl,?_⟩);refine AW.Df (Q':=fun x s=>∃cap' uE,s=Pr l i k (mc l[i].bZ o l[i].fText[k]) cap' uE) ?_ ?_
  ·refine AW.block ?_
   rw [eB3];have hw9:=anL l i k cap aE o.1 o.2;rw [cE (Rz h1),XK h1,cE (Rz hk),anO hk,qR _ 47 om] at hw9
   refine AW.sub hi (m':=[(0,.dat (.aZ gD) l),(3,.gV 0 (o.1.length+1) cap),(4,.dat (.int .i64) ((i:Nat):Int)),(5,.dat (.int .i64) ((k:Nat):Int))]) (by
    intro p hp;simp only [ij,Be,Bf] at hp;rcases hp with rfl|rfl|rfl|rfl<;>rfl) ?_
   refine AW.Df (Q':=fun x s=>s=_) (AW.rt tf hi (m':=[(0,.dat (.aZ gD) l),(3,.gV 0 (o.1.length+1) cap),(4,.dat (.int .i64) ((i:Nat):Int)),(5,.dat (.int .i64) ((k:Nat):Int)),(52,.dat .bool (l[i].fText[k]==47))]) hw9) ?_;rintro _ rfl;refine AW.cond (b:=(l[i].fText[k]==47)) rfl ?_
   refine AW.sub hi (m':=[(0,.dat (.aZ gD) l),(3,.gV 0 (o.1.length+1) cap),(4,.dat (.int .i64) ((i:Nat):Int)),(5,.dat (.int .i64) ((k:Nat):Int))]) (by
    intro p hp;simp only [ij,Be,Bf] at hp;rcases hp with rfl|rfl|rfl|rfl<;>rfl) ?_
   cases hb:(l[i].fText[k]==47) with
   | true=>
    rw [if_pos rfl]
    exact (ahB hi h1 hk h3 hb).mono fun x s hq=>.inr ⟨(fun e=>by rw [hq.1] at e;cases e),hq.1,hq.2⟩
   | false=>
    rw [if_neg de];exact (ahz hi hg h1 hk h3 h4 hb).mono fun x s hq=>.inr ⟨(fun e=>by rw [hq.1] at e;cases e),hq.1,hq.2⟩
  ·rintro _ ⟨cap',uE,rfl⟩
   have hw8:=anM l i k cap' uE (mc l[i].bZ o l[i].fText[k]).1 (mc l[i].bZ o l[i].fText[k]).2;rw [cG om] at hw8;refine (AW.rt tf hi (m':=[(0,.dat (.aZ gD) l),(3,.gV 0 ((mc l[i].bZ o l[i].fText[k]).1.length+1) cap'),(4,.dat (.int .i64) ((i:Nat):Int)),(5,.dat (.int .i64) ((k+1:Nat):Int))]) hw8).mono ?_;rintro x s ⟨rfl,rfl⟩;exact .inl ⟨rfl,hk,cap',uE,rfl⟩
 ·rw [sD (show ¬ ((k:Nat):Int)<(l[i].fText.length:Int) by omega),if_neg de]
  refine AW.sub hi (m':=[(0,.dat (.aZ gD) l),(3,.gV 0 (o.1.length+1) cap),(4,.dat (.int .i64) ((i:Nat):Int))]) (by
    intro p hp;simp only [ij,Be,Bf] at hp;rcases hp with rfl|rfl|rfl<;>rfl) ?_
  exact AW.exit (.inr ⟨(fun e=>by cases e),.inr ⟨rfl,om,rfl⟩⟩)
theorem akl(hi:G0.i=[])(hg:G0.g=[]){i cap aE:Nat}(h1:i<l.length)(h3:cC l<=1000000000):
  AW Tryz.prog w0 G0 (.block 1 (cB 9 420)) (stI l i (fX (l.take i)) cap aE) (fun x s=>x=.normal/\∃cap' uE,s=stI l i (fX (l.take (i+1))) cap' uE):=by
 have hsz:=p4 l i h1;have hle:=tL l (i+1);have hO:Fy (fX (l.take i))<=cC (l.take i):=by have:=Qp (l.take i) ([],[]);simpa [fX,Fy] using this
 have h4:l[i].fText.length<=1000000000:=om;refine AW.block ?_;rw [eB1];refine AW.seq ?_;have hw5:=anI l i cap aE (fX (l.take i)).1 (fX (l.take i)).2;rw [cE (Rz h1),XK h1] at hw5;simp only [cE (Rz h1)] at hw5;obtain⟨b,hb⟩:∃b,b=(l[i].bZ != 0&&(l[i].bZ != 1&&l[i].bZ != 2)):=⟨_,rfl⟩;refine AW.Df (Q':=fun x s=>s=_) (AW.rt tf hi (m':=[(0,.dat (.aZ gD) l),(3,.gV 0 ((fX (l.take i)).1.length+1) cap),(4,.dat (.int .i64) ((i:Nat):Int)),(34,.dat .bool b)]) (H':=[.kR 88 cap (.aZ gD) (fX (l.take i)).1 (.cg 0 aE gD (fX (l.take i)).2)]) (g':=[⟨aE,131,2⟩]) (hw5.trans ?_)) ?_
 ·rw [hb]
  cases (l[i].bZ != 0)
  ·rfl
  ·cases (l[i].bZ != 1)
   ·rfl
   ·rfl
 rintro _ rfl;refine AW.cond (b:=b) rfl ?_
 refine AW.sub hi (m':=[(0,.dat (.aZ gD) l),(3,.gV 0 ((fX (l.take i)).1.length+1) cap),(4,.dat (.int .i64) ((i:Nat):Int))]) (by
   intro p hp;simp only [ij,Be,Bf] at hp;rcases hp with rfl|rfl|rfl<;>rfl) ?_
 cases hbb:b with
 | true=>
  rw [if_pos rfl];refine AW.exit (.inr ⟨(fun e=>by cases e),.inl ⟨rfl,rfl,cap,aE,?_⟩⟩);rw [Ry l i h1];unfold y7;rw [<-hb,hbb]
  rfl
 | false=>
  rw [if_neg de];refine AW.skip (.inl ⟨rfl,?_⟩);have hw6:=anJ l i cap aE (fX (l.take i)).1 (fX (l.take i)).2;refine AW.Df (Q':=fun x s=>s=_) (AW.rt tf hi (m':=[(0,.dat (.aZ gD) l),(3,.gV 0 ((fX (l.take i)).1.length+1) cap),(4,.dat (.int .i64) ((i:Nat):Int)),(5,.dat (.int .i64) 0)]) hw6) ?_;rintro _ rfl;refine AW.block ?_;refine AW.loop (ι:=Nat×Nat×Nat) (fun x=>Pr l i x.1 ((l[i].fText.take x.1).foldl (mc l[i].bZ) (fX (l.take i))) x.2.1 x.2.2) (fun x=>x.1<=l[i].fText.length) (fun x=>l[i].fText.length-x.1) (0,cap,aE) (fL _) rfl ?_;rintro⟨k,ao2,ao3⟩ hk;dsimp only at hk⊢
  refine (akk hi hg h1 hk (by
   have:=Qo l[i].bZ (l[i].fText.take k) (fX (l.take i));have h5:(l[i].fText.take k).length<=l[i].fText.length:=by rw [Qd];omega
   omega) h4).mono ?_
  rintro x s (⟨rfl,hlt,cap',uE,rfl⟩|⟨rfl,hke,rfl⟩)
  ·exact .inl ⟨rfl,(k+1,cap',uE),hlt,by dsimp only;omega,by rw [Uf _ _ _ _ hlt]⟩
  ·subst hke
   refine .inr ⟨fun e=>(by cases e),.inl ⟨rfl,.inr ⟨fun e=>(by cases e),rfl,ao2,ao3,?_⟩⟩⟩;rw [Ry l i h1,Bb];unfold y7;rw [<-hb,hbb];rfl
theorem ahD(hi:G0.i=[])(hg:G0.g=[])(h2:l.length<=1000000000)(h3:cC l<=1000000000):
  AW Tryz.prog w0 G0 (Tryz.f61.body.getD .skip) (SS (E:=E) 85 [(0,.dat (.aZ gD) l)] [] []) (fun x s=>x=.ret/\∃cap aE,s=SS (E:=E) 85 [(0,.dat (.aZ gD) l),(2,.gV 0 ((fX l).1.length+1) cap)] [.kR 88 cap (.aZ gD) (fX l).1 (.cg 0 aE gD (fX l).2)] [⟨aE,131,2⟩]):=by
 rw [eC];refine AW.Df (Q':=fun x s=>s=_) (AW.rt tf hi (m':=[(0,.dat (.aZ gD) l)]) (anF l)) ?_;rintro _ rfl
 refine AW.Df (Q':=fun x s=>s=_) (AW.alW (c:=(cB 2 2)) (n:=85) (t:=92) (e:=88) 131 (j3:=3) (j6:=6) kr kr (j1:=1) (j2:=24) (z:=.slice none 0 0) kr (ie:=⟨.slice 131,1,24,.slice none 0 0⟩) kr rfl gD
  (m':=[(0,.dat (.aZ gD) l),(3,.gV 0 1 1)]) om hi (by
   intro p hp;simp only [ij,Be,Bf] at hp;rcases hp with rfl|rfl<;>rfl)) ?_
 rintro _ rfl;refine AW.Df (Q':=fun x s=>∃cap aE,s=stI l l.length (fX l) cap aE) ?_ ?_
 ·refine AW.Df (Q':=fun x s=>s=stI l 0 (fX (l.take 0)) 1 0) ((AW.rt tf hi (m':=[(0,.dat (.aZ gD) l),(3,.gV 0 1 1),(4,.dat (.int .i64) 0)]) (anG l 1 0 [] [])).mono fun x s hq=>hq) ?_
  rintro _ rfl;refine AW.block ?_;refine AW.loop (ι:=Nat×Nat×Nat) (fun x=>stI l x.1 (fX (l.take x.1)) x.2.1 x.2.2) (fun x=>x.1<=l.length) (fun x=>l.length-x.1) (0,1,0) (fL _) rfl ?_;rintro⟨i,cap,aE⟩ hil;dsimp only at hil⊢;rw [eOB];refine AW.seq ?_;refine AW.Df (Q':=fun x s=>s=_) (AW.rt tf hi (m':=[(0,.dat (.aZ gD) l),(3,.gV 0 ((fX (l.take i)).1.length+1) cap),(4,.dat (.int .i64) ((i:Nat):Int)),(10,.dat .bool (decide (((i:Nat):Int)<(l.length:Int))))]) (anH l i cap aE (fX (l.take i)).1 (fX (l.take i)).2)) ?_;rintro _ rfl;refine AW.cond (b:=decide (((i:Nat):Int)<(l.length:Int))) rfl ?_
  refine AW.sub hi (m':=[(0,.dat (.aZ gD) l),(3,.gV 0 ((fX (l.take i)).1.length+1) cap),(4,.dat (.int .i64) ((i:Nat):Int))]) (by
   intro p hp;simp only [ij,Be,Bf] at hp;rcases hp with rfl|rfl|rfl<;>rfl) ?_
  by_cases h1:i<l.length
  ·rw [dQ (show ((i:Nat):Int)<(l.length:Int) by omega),if_pos rfl]
   refine AW.skip (.inl ⟨rfl,?_⟩);refine AW.Df (akl hi hg h1 h3) ?_;rintro _ ⟨cap',uE,rfl⟩;have hw4:=anN l i cap' uE (fX (l.take (i+1))).1 (fX (l.take (i+1))).2;rw [cG om] at hw4;refine (AW.rt tf hi (m':=[(0,.dat (.aZ gD) l),(3,.gV 0 ((fX (l.take (i+1))).1.length+1) cap'),(4,.dat (.int .i64) ((i+1:Nat):Int))]) hw4).mono ?_;rintro x s ⟨rfl,rfl⟩;exact .inl ⟨rfl,(i+1,cap',uE),h1,by dsimp only;omega,rfl⟩
  ·rw [sD (show ¬ ((i:Nat):Int)<(l.length:Int) by omega),if_neg de]
   obtain rfl:i=l.length:=om;refine AW.exit (.inr ⟨fun e=>(by cases e),.inr ⟨fun e=>(by cases e),.inl ⟨rfl,rfl,cap,aE,?_⟩⟩⟩);rw [Bb];rfl
 ·rintro _ ⟨cap,aE,rfl⟩
  refine AW.Df (Q':=fun x s=>s=_) (AW.rt tf hi (m':=[(0,.dat (.aZ gD) l),(2,.gV 0 ((fX l).1.length+1) cap)]) (alV l l.length cap aE (fX l).1 (fX l).2)) ?_;rintro _ rfl;exact AW.ret ⟨rfl,cap,aE,rfl⟩
end
def ajO(E:TEnv)(ix:Nat)(f:FuncId)(F:Nat)(m:Nat->J ((Ty.ext ix).den E.D)->O (J (J ((Ty.ext ix).den E.D)))):bB E:=⟨⟨f,[.one (.dat (.aZ (.ext ix)))],[],[],⟨.one (.dat (.aZ (.aZ (.ext ix)))),[],[],[]⟩,none,[]⟩,fun (x:J ((Ty.ext ix).den E.D))=>m F x⟩
set_option maxRecDepth 100000 in
theorem akm(F:Nat):(ajO E 17 61 F Rx).Ok Tryz.prog:=by
 have key:∀(l:J aG)(y:J (J aG)),Rx F l=some y->kS (E:=E) Tryz.prog 61 [.dat (.aZ gD) l] [] [] [] ⟨true,.dat (.aZ (.aZ gD)) y,[],[],[],[]⟩:=by
  intro l y hy;obtain⟨h1,h2⟩:=dG hy;rw [cx,fW,fW] at h1;cases h2;intro w G args hP hB hS hV;have hi:G.i=[]:=Db hB.len;have hg:G.g=[]:=by have:=hB.gs;simpa using this
  have FA:=Rel.J6 (n:=Tryz.f61.ntmps) hP hB hS hV;have hb:Tryz.f61.body=some (Tryz.f61.body.getD .skip):=by kernel_rfl
  refine sG Tryz.func61 hb kr (calls_of_wp Tryz.func61 hb ?_);have eL:Rel E w G (SS (E:=E) 85 [(0,.dat (.aZ gD) l)] [] []) _ w G:=FA;refine wp_mono (ahD (l:=l) hi hg h1.1 h1.2 _ w G eL) fun e a' w' hp=>?_;obtain⟨x,s,G',he,hr,rfl,cap,aE,rfl⟩:=hp
  have Im:a'.defers=[]:=by
   have:=hr.defers
   cases hd:a'.defers with
   | nil=>rfl
   | cons d ds=>rw [hd] at this;exact this.elim
  obtain⟨v,hv,hrun⟩:=za (fn:=Tryz.f61) tf hr (ds:=[.gV 0 ((fX l).1.length+1) cap]) kr;obtain⟨G2,q1,q2,q3,q4⟩:=akn (j:=2) hr hi hg rfl;cases e<;>try (exact he.elim)
  have Lh:v=a'.tmps.getD 2 undef:=by
   have h3:=hr.tmps 2 (.gV 0 ((fX l).1.length+1) cap) rfl;simp only [p5,VT] at hv h3;obtain⟨b,uf,wW⟩:=hv;obtain⟨b',qd,oY⟩:=h3;rw [wW] at oY;cases oY;rw [uf,qd]
  subst Lh;exact⟨Im,_,hrun,_,G2,rfl,q1,q2,q3,q4,fun q b hq=>by rw [hi] at hq;cases hq⟩
 intro x y hy;exact key x y hy
end Go.Proofs.YtlgmlcgjmcmmgaaGreatDoor
