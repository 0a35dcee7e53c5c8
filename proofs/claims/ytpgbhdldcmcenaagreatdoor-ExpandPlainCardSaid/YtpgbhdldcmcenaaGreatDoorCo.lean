import Derived.Test.YtpgbhdldcmcenaaGreatDoorTy
import Derived.Test.YtpgbhdldcmcenaaGreatDoorRk
import Derived.Test.YtpgbhdldcmcenaaGreatDoorSo
set_option linter.all false
namespace Go.Proofs.YtpgbhdldcmcenaaGreatDoor
open Go.Proofs.Tryz
open Go.RT
set_option maxRecDepth 100000
noncomputable section
variable (F : Nat)
def Ai:=ibF
def Qh:bJ E:=ibC E 354 F
theorem Ng:(Qh F).Ok pg:=ao2 (fun args w=>by rw [run_callFunc_extern func354 kr kr kr (e:=Extern.BytealgIndexByte.indexByte) kr]) F
def abR(F:Nat):bJ E:=⟨⟨216,[.one (.dat .str)],[],[],⟨.one (.any),[],[],[]⟩,none,[]⟩,fun _=>none⟩
theorem Nh:(abR F).Ok pg:=fun x y h=>nomatch (show none=some y from h)
def stringslite_IndexByte(a0:Bs)(a1:Int):O Int:=wx (wm (Ai F a0 a1))
def HG:bJ E:=⟨sh 300 [oS,.one (.dat (.int .u8))] oI,u2 (stringslite_IndexByte F)⟩
theorem vu:(HG F).Ok pg:=dx F lf (bU (Ng F) ij) func300
def strings_IndexByte(a0:Bs)(a1:Int):O Int:=wx (wm (stringslite_IndexByte F a0 a1))
def MI:bJ E:=⟨sh 330 [oS,.one (.dat (.int .u8))] oI,u2 (strings_IndexByte F)⟩
theorem Aj:(MI F).Ok pg:=dx F lf (bU (vu F) ij) func330
def JJ(F:Nat)(a0:Int):O Bool:=wx (wv (wa (0<=a0)<|ws (decide (a0<55296))) fun x1=>wo x1<|wv (wa (57343<a0)<|ws (decide (a0<=1114111))) fun x2=>wo x2<|ws false)
def Rz:bJ E:=⟨sh 353 [.one (.dat (.int .i32))] oB,JJ F⟩
theorem Qi:(Rz F).Ok pg:=dx F (qa (qs (qs (.region [rb 6 9]) (.cond lf (qs (.region [rb 6 16]) lf))) lf)) ij func353
def ym(a0:Bs)(a1:Int):O Int:=wx (wt a0.length fun e=>wt ((JK a1).length:Int) fun d=>wt (aB (d-1)) fun c=>wt (((JK a1).getD c.toNat 0).toNat:Int) fun f=>wv (wa (0<=a1)<|ws (decide (a1<128))) fun x1=>wc x1 (wm (strings_IndexByte F a0 (IntKind.wrap .u8 a1)))<|wc (a1==65533) (gV Bs Int (fun lu a b=>wt b.toNat fun g=>wc (Nat.blt g a.length) (wc (((dec a g).1:Int)==65533) (ws ((g:Nat):Int))<|ww<|lu (a,((g+(dec a g).2:Nat):Int)))<|ws (-1)) F (a0,((0:Nat):Int)))<|wb (JJ F a1) fun x5=>wc (!x5) (ws (-1))<|wl Int (fun xR x6=>wt (aB (x6+1)) fun h=>wc (x6<e) (ww<|jj (σ:=Int) (rq (0<=x6&&x6<e) (rq (0<=c&&c<d) (cond (((a0.getD x6.toNat 0).toNat:Int)!=f) (rq (0<=h&&(h<=e&&(e:Int)<=(e:Int))) (rq (0<=c&&c<d) ((strings_IndexByte F (sl a0 h (e:Int)) f).bind fun x9=>cond (x9<0) (some (.inr (-1))) (some (.inl (aB (x6+aB (x9+1)))))))) (some (.inl x6))))) fun x8=>b8 (σ:=Int) (fun aer cq=>cond (cq<d) (rq (0<=aB (x8-cq)&&aB (x8-cq)<e) (rq (0<=aB (c-cq)&&aB (c-cq)<d) (cond (((a0.getD (aB (x8-cq)).toNat 0).toNat:Int)!=(((JK a1).getD (aB (c-cq)).toNat 0).toNat:Int)) none (aer (aB (cq+1)))))) (some (aB (x8-c)))) F 1)<|ws (-1)) F c)
def MJ:bJ E:=⟨sh 298 [oS,.one (.dat (.int .i32))] oI,u2 (ym F)⟩
theorem KM:(MJ F).Ok pg:=dx F (qa (qs (.region [rb 6 166]) (.cond lf (qa (.cond (qs (qa (.loop [] ⟨[],[some (.iter)],[],[]⟩ lf)) lf) (qa (.cond lf (qa (qa (qa (qa (qs (.loop [] (ct [(9,oI)]) (qa (.seq [] (some ((ct [(9,oI)]),true)) (qs (.draw [⟨true,7,none⟩]) (.cond (qs (.draw [⟨true,7,none⟩,⟨false,2,none⟩]) lf) lf)) (qs (qa (.loop [] (ct [(12,oI)]) (qa (qs (qs (.draw [⟨true,11,none⟩]) lf) lf)))) lf)))) lf)))))))))))) (bU (Aj F) (bU (Qi F) ij)) func298
def strings_shouldUseASCIISet(F:Nat)(a0:Int):O Bool:=some (decide (8<a0))
def Dk:bJ E:=⟨sh 299 [oI] oB,strings_shouldUseASCIISet F⟩
theorem Cc:(Dk F).Ok pg:=dx F lf ij func299
def strings_IndexAny(a0 a1:Bs):O Int:=wx (wt (a1.length:Int) fun e=>wt (IntKind.wrap .i32 ((a1.getD 0 0).toNat:Int)) fun c=>wc (a1==[]) (ws (-1))<|wc (e==1) (wq (0<e)<|wv (wc (128<=c) (ws 65533)<|ws c) fun x1=>wm (ym F a0 x1))<|wb (strings_shouldUseASCIISet F (a0.length:Int)) fun x3=>wc x3 wn<|gV Bs Int (fun Ak a b=>wt b.toNat fun d=>wc (Nat.blt d a.length) (wb (ym F a1 ((dec a d).1:Int)) fun x6=>wc (0<=x6) (ws ((d:Nat):Int))<|ww<|Ak (a,((d+(dec a d).2:Nat):Int)))<|ws (-1)) F (a0,((0:Nat):Int)))
def Ni:bJ E:=⟨sh 237 [oS,oS] oI,u2 (strings_IndexAny F)⟩
theorem MK:(Ni F).Ok pg:=dx F (qa (qa (qs (qa (.cond (qa (.seq [] (some ((ct [(5,.one (.dat (.int .i32)))]),false)) lf lf)) lf)) (qa (qs (qa (.loop [] ⟨[],[some (.iter)],[],[]⟩ lf)) lf))))) (bU (KM F) (bU (Cc F) (bU (Nh F) ij))) func237
end
open Go.RT Go.RowKit Go.Maps Go.Sort Go.Shelf
open Go.Proofs (encStr)
theorem ang:Builder.Extra prog Tryz.WB:={
 sizeBuilder:=by kernel_rfl
 liesBuilder:=by kernel_rfl
 t5:=underlying5
 a5:=Tryz.isAgg5
 z5:=Tryz.sizeOf5
 v5:=Tryz.zeroValue5
 infoByte:=by kernel_rfl
 cellsByte:=by kernel_rfl
 sizeByte:=by kernel_rfl
 neB5:=by decide}
theorem agy:Zb prog 69:=
 ⟨p5 func69 kr kr,fun bk o c xs sep w h1 h2 h3 h4 h5=>Any.strings_Join Tryz.ak1 ang bk o c xs sep w h1 h2 h3 h4 h5,fun a c sep w=>Any.strings_Join_none Tryz.ak1 ang a c sep w⟩
theorem ao3:ak2 prog 244:=
 ⟨p5 func244 kr kr,fun s c w h=>Any.strings_LastIndexByte Tryz.aqw s c h w⟩
theorem anh:agz prog 72:=
 ⟨p5 func72 kr kr,fun blk cap ss w h1 h2 h3=>AnyM.slices_Sort_string Tryz.YM blk 0 cap ss w h1 h2 h3,fun p cap w=>AnyM.slices_Sort_string_none Tryz.YM p cap w⟩
theorem WC{w:U}{G:bq}(hP:p6 E w G):∃m,w.cell? ⟨0,0,none⟩=some (.int .i64 m):=by
 obtain⟨cs,t,m,h1,n,h2⟩:=(hP 0 _ rfl).1;exact⟨n,by simp [World.cell?,h1,h2]⟩
theorem splitAt:ac0 E prog 112 9:=
 ⟨p5 func112 kr kr,fun s sep w G hP h1 h2=>by
  obtain⟨m,hm⟩:=WC hP;exact Any.strings_Split Tryz.ani kr s sep m w h1 hm h2,
  fun s sep h=>Lib.splitB_all sep h 0 _ s rfl,fun s sep h=>Lib.countB_le sep h s.size s (ek _)⟩
theorem cutAt:ak3 E prog 115:=
 ⟨p5 func115 kr kr,fun s sep w G hP h=>by
  obtain⟨m,hm⟩:=WC hP;exact Any.strings_Cut Tryz.aqx s sep m w h hm⟩
def aes(F:Nat)(s cs:Bs):O Int:=cond (Nat.ble s.length 8) (strings_IndexAny F s cs)
 (rq (decide (s.length<4294967281)&&(decide (2<=cs.length)&&(decide (cs.length<4294967281)&&cs.all fun b=>decide (b.toNat<128)))) (some (Lib.indexAny s cs)))
def anj(E:TEnv)(f:FuncId)(F:Nat):bJ E:=⟨⟨f,[.one (.dat .str),.one (.dat .str)],[],[],⟨.one (.dat (.int .i64)),[],[],[]⟩,none,[]⟩,fun (x:Bs×Bs)=>aes F x.1 x.2⟩
set_option maxRecDepth 100000 in
theorem ank(F:Nat):(anj E 237 F).Ok prog:=by
 have key:∀(s cs:Bs)(y:Int),aes F s cs=some y->lE (E:=E) prog 237 [.dat .str s,.dat .str cs] [] [] [] ⟨true,.dat (.int .i64) y,[],[],[],[]⟩:=by
  intro s cs y hy;unfold aes at hy;cases hb:Nat.ble s.length 8<;>rw [hb] at hy<;>simp only [aZ,aK] at hy
  ·obtain⟨h1,h2⟩:=dQ hy
   rw [cE,cE,cE,fL,fL,fL,p4] at h1;obtain⟨c1,c2,c3,c4⟩:=h1;cases h2
   have h8:8<s.length:=by
    rcases Yz 8 s.length with h|h
    ·exact h
    ·rw [Nat.ble_eq_true_of_le h] at hb;cases hb
   refine CR (p5 func237 kr kr) fun w G args hP hv=>⟨_,fun w G=>.int w G .i64 (Lib.indexAny s cs),?_⟩;obtain⟨u,us,ha,ve,qS⟩:=hv.cons_inv;obtain⟨u2,SN,sw,Ew,JM⟩:=qS.cons_inv;have JM:SN=[]:=by simpa only [bI] using JM
   have e1:=ve.hU;have e2:=Ew.hU;subst e1 e2 JM sw;have ha:args=#[mkStr s,mkStr cs]:=by apply SI;exact ha
   subst ha;have hz:=zero_of_info (P:=prog) (t:=Tryz.ac1.t 116) (v:=.agg (Array.replicate 256 (.bool false))) (n:=256) kr;refine (Any.strings_IndexAny_long Tryz.iaL hz.1 hz.2 ⟨⟨s⟩⟩ ⟨⟨cs⟩⟩ w c2 h8 c1 c3 fun j b hb=>by simpa using c4 b (jo hb)).mono fun e w' hh=>?_;obtain⟨q1,q2⟩:=hh;refine⟨q1,?_⟩;rw [q2];exact ((Below.refl _ _).alloc (ek _) _).alloc si _
  ·exact MK F (s,cs) y hy
 intro x y hy;exact key x.1 x.2 y hy
theorem aqy:SO prog 293:=
 ⟨p5 func293 kr kr,fun blk cap zs w h1 h2=>AnyE.slices_Reverse Tryz.aqz (Value.int .u8) (fun _=>rfl) blk 0 cap zs w h1 h2⟩
noncomputable abbrev cX:Cx E:=⟨prog,HT,[],[],none⟩
abbrev vI(n:Int):TV E:=.dat (.int .i64) n
abbrev vB(b:Bool):TV E:=.dat .bool b
abbrev vL(l:J aD):TV E:=.dat (.bn (.ext 17)) l
abbrev vH(xs:J (J aD))(cap:Nat):TV E:=.iq 0 (xs.length+1) cap
abbrev nR(cap aF:Nat)(xs:J (J aD))(last:J aD):fM E:=.lC 81 cap (.bn (.ext 17)) xs (.cA 0 aF (.ext 17) last)
abbrev gR(aF:Nat):cH:=⟨aF,117,2⟩
noncomputable abbrev cR(c:Code)(p:dN)(s:TS E)(js:J Nat):=Go.RT.runT cX 0 c p s (proj js)
def cP:Code->J Bool->Code
 | .seq a _,false::p=>cP a p
 | .seq _ b,true::p=>cP b p
 | .cond _ a _,false::p=>cP a p
 | .cond _ _ b,true::p=>cP b p
 | .block _ a,false::p=>cP a p
 | .loop a,false::p=>cP a p
 | c,_=>c
def bts:Nat->Nat->J Bool
 | 0,_=>[]
 | k+1,n=>Nat.beq (n / 2^k%2) 1::bts k n
noncomputable abbrev cB(k n:Nat):Code:=cP (Tryz.f53.body.getD .skip) (bts k n)
set_option maxRecDepth 100000 in
theorem ao4(l:J aD):cR (cB 1 0) (.leaf) (SS (E:=E) 85 [(0,vL l)] [] []) [0]=some ([some (vL l)],[],[],[],[]):=by kernel_rfl
set_option maxRecDepth 100000 in
theorem ao5(l:J aD)(cap aF:Nat)(xs:J (J aD))(last:J aD):cR (cB 4 12) (.leaf) (SS (E:=E) 85 [(0,vL l),(3,vH xs cap)] [nR cap aF xs last] [gR aF]) [0,3,4]=some ([some (vL l),some (vH xs cap),some (vI 0)],[nR cap aF xs last],[gR aF],[],[]):=by kernel_rfl
set_option maxRecDepth 100000 in
theorem ao6(l:J aD)(i cap aF:Nat)(xs:J (J aD))(last:J aD):cR (cB 8 208) (.leaf) (SS (E:=E) 85 [(0,vL l),(3,vH xs cap),(4,vI ((i:Nat):Int))] [nR cap aF xs last] [gR aF]) [0,3,4,10]=some ([some (vL l),some (vH xs cap),some (vI ((i:Nat):Int)),some (vB (decide (((i:Nat):Int)<(l.length:Int))))],[nR cap aF xs last],[gR aF],[],[]):=by kernel_rfl
set_option maxRecDepth 100000 in
theorem ao7(l:J aD)(i cap aF:Nat)(xs:J (J aD))(last:J aD):cR (cB 11 1680) (.leaf) (SS (E:=E) 85 [(0,vL l),(3,vH xs cap),(4,vI ((i:Nat):Int))] [nR cap aF xs last] [gR aF]) [0,3,4,34]=rq ((decide (0<=((i:Nat):Int)))&&(decide (((i:Nat):Int)<(l.length:Int)))) (cond (((l.getD (Int.toNat ((i:Nat):Int)) di).aN) != 0)
 (rq ((decide (0<=((i:Nat):Int)))&&(decide (((i:Nat):Int)<(l.length:Int)))) (cond (((l.getD (Int.toNat ((i:Nat):Int)) di).aN) != 1)
 (rq ((decide (0<=((i:Nat):Int)))&&(decide (((i:Nat):Int)<(l.length:Int)))) (some ([some (vL l),some (vH xs cap),some (vI ((i:Nat):Int)),some (vB (((l.getD (Int.toNat ((i:Nat):Int)) di).aN) != 2))],[nR cap aF xs last],[gR aF],[],[])))
 (some ([some (vL l),some (vH xs cap),some (vI ((i:Nat):Int)),some (vB false)],[nR cap aF xs last],[gR aF],[],[]))))
 (some ([some (vL l),some (vH xs cap),some (vI ((i:Nat):Int)),some (vB false)],[nR cap aF xs last],[gR aF],[],[]))):=by kernel_rfl
set_option maxRecDepth 100000 in
theorem ao8(l:J aD)(i cap aF:Nat)(xs:J (J aD))(last:J aD):cR (cB 11 1682) (.leaf) (SS (E:=E) 85 [(0,vL l),(3,vH xs cap),(4,vI ((i:Nat):Int))] [nR cap aF xs last] [gR aF]) [0,3,4,5]=some ([some (vL l),some (vH xs cap),some (vI ((i:Nat):Int)),some (vI 0)],[nR cap aF xs last],[gR aF],[],[]):=by kernel_rfl
set_option maxRecDepth 100000 in
theorem ao9(l:J aD)(i k cap aF:Nat)(xs:J (J aD))(last:J aD):cR (cB 15 26928) (.leaf) (SS (E:=E) 85 [(0,vL l),(3,vH xs cap),(4,vI ((i:Nat):Int)),(5,vI ((k:Nat):Int))] [nR cap aF xs last] [gR aF]) [0,3,4,5,42]=rq ((decide (0<=((i:Nat):Int)))&&(decide (((i:Nat):Int)<(l.length:Int)))) (some ([some (vL l),some (vH xs cap),some (vI ((i:Nat):Int)),some (vI ((k:Nat):Int)),some (vB (decide (((k:Nat):Int)<(((l.getD (Int.toNat ((i:Nat):Int)) di).fText).length:Int))))],[nR cap aF xs last],[gR aF],[],[])):=by kernel_rfl
set_option maxRecDepth 100000 in
theorem apa(l:J aD)(i k cap aF:Nat)(xs:J (J aD))(last:J aD):cR (cB 17 107720) (.leaf) (SS (E:=E) 85 [(0,vL l),(3,vH xs cap),(4,vI ((i:Nat):Int)),(5,vI ((k:Nat):Int))] [nR cap aF xs last] [gR aF]) [0,3,4,5,52]=rq ((decide (0<=((i:Nat):Int)))&&(decide (((i:Nat):Int)<(l.length:Int)))) (rq ((decide (0<=((k:Nat):Int)))&&(decide (((k:Nat):Int)<(((l.getD (Int.toNat ((i:Nat):Int)) di).fText).length:Int)))) (some ([some (vL l),some (vH xs cap),some (vI ((i:Nat):Int)),some (vI ((k:Nat):Int)),some (vB (((((l.getD (Int.toNat ((i:Nat):Int)) di).fText).getD (Int.toNat ((k:Nat):Int)) 0).toNat:Int)==47))],[nR cap aF xs last],[gR aF],[],[]))):=by kernel_rfl
set_option maxRecDepth 100000 in
theorem anl(l:J aD)(i k cap aF:Nat)(xs:J (J aD))(last:J aD):cR (cB 18 215443) (.fF [0] [28] [⟨[(0,true),(1,true),(2,true),(3,true),(4,true),(5,true),(6,true),(7,true),(8,true),(9,true),(10,true),(11,true),(12,true),(13,true),(14,true),(15,true),(16,true),(17,true),(18,true),(19,true),(20,true),(21,true),(22,true),(23,true),(24,true),(25,false),(26,false),(27,false),(28,false)],none⟩]) (SS (E:=E) 85 [(0,vL l),(3,vH xs cap),(4,vI ((i:Nat):Int)),(5,vI ((k:Nat):Int))] [nR cap aF xs last] [gR aF]) [0,3,4,5]=rq ((decide (0<=aB (((xs.length+1:Nat):Int)-1)))&&(decide (aB (((xs.length+1:Nat):Int)-1)<((xs.length+1:Nat):Int)))) (rq (Nat.beq (Int.toNat (aB (((xs.length+1:Nat):Int)-1))) xs.length) (rq ((decide (0<=((i:Nat):Int)))&&(decide (((i:Nat):Int)<(l.length:Int)))) (rq ((decide (0<=((k:Nat):Int)))&&((decide (((k:Nat):Int)<=aB (((k:Nat):Int)+1)))&&(decide (aB (((k:Nat):Int)+1)<=(((l.getD (Int.toNat ((i:Nat):Int)) di).fText).length:Int))))) (rq ((decide (0<=((i:Nat):Int)))&&(decide (((i:Nat):Int)<(l.length:Int)))) (rq ((Nat.beq aF aF)&&((decide (last.length+([(aD.mk (sl ((l.getD (Int.toNat ((i:Nat):Int)) di).fText) ((k:Nat):Int) (aB (((k:Nat):Int)+1))) ((l.getD (Int.toNat ((i:Nat):Int)) di).aN))]:J aD).length<=9223372036854775807))&&(decide ((last.length+([(aD.mk (sl ((l.getD (Int.toNat ((i:Nat):Int)) di).fText) ((k:Nat):Int) (aB (((k:Nat):Int)+1))) ((l.getD (Int.toNat ((i:Nat):Int)) di).aN))]:J aD).length)*24<=140737488355328)))) (rq ((decide (0<=aB (((xs.length+1:Nat):Int)-1)))&&(decide (aB (((xs.length+1:Nat):Int)-1)<((xs.length+1:Nat):Int)))) (rq (Nat.beq (Int.toNat (aB (((xs.length+1:Nat):Int)-1))) xs.length) (some ([some (vL l),some (vH xs cap),some (vI ((i:Nat):Int)),some (vI ((k:Nat):Int))],[.lC 81 cap (.bn (.ext 17)) xs (.cA 0 (aF+1) (.ext 17) (last++([(aD.mk (sl ((l.getD (Int.toNat ((i:Nat):Int)) di).fText) ((k:Nat):Int) (aB (((k:Nat):Int)+1))) ((l.getD (Int.toNat ((i:Nat):Int)) di).aN))]:J aD)))],[⟨aF+1,117,2⟩,⟨0,117,2⟩],[],[]))))))))):=by kernel_rfl
set_option maxRecDepth 100000 in
theorem apb(l:J aD)(i k cap aF:Nat)(xs:J (J aD))(last:J aD):cR (cB 15 26931) (.leaf) (SS (E:=E) 85 [(0,vL l),(3,vH xs cap),(4,vI ((i:Nat):Int)),(5,vI ((k:Nat):Int))] [nR cap aF xs last] [gR aF]) [0,3,4,5]=some ([some (vL l),some (vH xs cap),some (vI ((i:Nat):Int)),some (vI (aB (((k:Nat):Int)+1)))],[nR cap aF xs last],[gR aF],[],[]):=by kernel_rfl
set_option maxRecDepth 100000 in
theorem apc(l:J aD)(i cap aF:Nat)(xs:J (J aD))(last:J aD):cR (cB 8 211) (.leaf) (SS (E:=E) 85 [(0,vL l),(3,vH xs cap),(4,vI ((i:Nat):Int))] [nR cap aF xs last] [gR aF]) [0,3,4]=some ([some (vL l),some (vH xs cap),some (vI (aB (((i:Nat):Int)+1)))],[nR cap aF xs last],[gR aF],[],[]):=by kernel_rfl
set_option maxRecDepth 100000 in
theorem anm(l:J aD)(i cap aF:Nat)(xs:J (J aD))(last:J aD):cR (cB 4 14) (.leaf) (SS (E:=E) 85 [(0,vL l),(3,vH xs cap),(4,vI ((i:Nat):Int))] [nR cap aF xs last] [gR aF]) [0,2]=some ([some (vL l),some (vH xs cap)],[nR cap aF xs last],[gR aF],[],[]):=by kernel_rfl
def mN(c:Int)(o:J (J aD)×J aD)(b:UInt8):J (J aD)×J aD:=cond (b==47) (o.1++[o.2],[]) (o.1,o.2++[aD.mk [b] c])
def Al(o:J (J aD)×J aD)(r:aD):J (J aD)×J aD:=cond (r.aN != 0&&(r.aN != 1&&r.aN != 2)) o (r.fText.foldl (mN r.aN) o)
def gp(l:J aD):J (J aD)×J aD:=l.foldl Al ([],[])
def Am(l:J aD):J (J aD):=(gp l).1++[(gp l).2]
def ck(l:J aD):Nat:=(l.map fun r=>r.fText.length).sum
def SP(F:Nat)(l:J aD):O (J (J aD)):=rq (decide (l.length<=1000000000)&&decide (ck l<=1000000000)) (some (Am l))
def Gh(o:J (J aD)×J aD):Nat:=o.1.length+o.2.length
theorem aiI(c:Int)(o:J (J aD)×J aD)(b:UInt8):Gh (mN c o b)<=Gh o+1:=by
 unfold mN Gh;cases (b==47)<;>simp<;>omega
theorem RC(c:Int):∀(t:Bs)(o:J (J aD)×J aD),Gh (t.foldl (mN c) o)<=Gh o+t.length
 | [],o=>by simp
 | b::t,o=>by
  have h1:=RC c t (mN c o b);have h2:=aiI c o b;simp only [yg,su];omega
theorem aiJ(o:J (J aD)×J aD)(r:aD):Gh (Al o r)<=Gh o+r.fText.length:=by
 unfold Al;cases (r.aN != 0&&(r.aN != 1&&r.aN != 2))
 ·exact RC _ _ _
 ·simp
theorem RE:∀(l:J aD)(o:J (J aD)×J aD),Gh (l.foldl Al o)<=Gh o+ck l
 | [],o=>by simp [ck]
 | r::l,o=>by
  have h1:=RE l (Al o r);have h2:=aiJ o r;simp only [yg,ck,jU,Po] at h1⊢;omega
theorem qK(l:J aD)(i:Nat)(h:i<l.length):ck (l.take (i+1))=ck (l.take i)+l[i].fText.length:=by
 unfold ck;rw [lB h,uY,aeb];simp
theorem uK(l:J aD)(i:Nat):ck (l.take i)<=ck l:=by
 unfold ck
 conv=>rhs;rw [<-Ru i l]
 rw [uY,aeb];omega
theorem SQ(l:J aD)(i:Nat)(h:i<l.length):gp (l.take (i+1))=Al (gp (l.take i)) l[i]:=by
 unfold gp;rw [lB h,Rv];rfl
theorem U6(c:Int)(t:Bs)(o:J (J aD)×J aD)(k:Nat)(h:k<t.length):(t.take (k+1)).foldl (mN c) o=mN c ((t.take k).foldl (mN c) o) t[k]:=by
 rw [lB h,Rv];rfl
abbrev gN:Ty:=.ext 17
theorem um:(⟨prog,HT,[],[],none⟩:Cx E).Ok:=⟨D5,ij,mixed,goN,QC⟩
def stI(l:J aD)(i:Nat)(o:J (J aD)×J aD)(cap aF:Nat):TS E:=SS (E:=E) 85 [(0,.dat (.bn gN) l),(3,.iq 0 (o.1.length+1) cap),(4,.dat (.int .i64) ((i:Nat):Int))] [.lC 81 cap (.bn gN) o.1 (.cA 0 aF gN o.2)] [⟨aF,117,2⟩]
def QD(l:J aD)(i k:Nat)(o:J (J aD)×J aD)(cap aF:Nat):TS E:=SS (E:=E) 85 [(0,.dat (.bn gN) l),(3,.iq 0 (o.1.length+1) cap),(4,.dat (.int .i64) ((i:Nat):Int)),(5,.dat (.int .i64) ((k:Nat):Int))] [.lC 81 cap (.bn gN) o.1 (.cA 0 aF gN o.2)] [⟨aF,117,2⟩]
theorem YN{l:J aD}{i:Nat}(h:i<l.length):l.getD (Int.toNat (i:Int)) di=l[i]:=by simp [List.getD,h]
theorem apd{l:Bs}{i:Nat}(h:i<l.length):l.getD (Int.toNat (i:Int)) 0=l[i]:=by simp [List.getD,h]
theorem SU{i n:Nat}(h:i<n):(decide (0<=(i:Int))&&decide ((i:Int)<(n:Int)))=true:=by rw [dW om,dW om];rfl
section
variable {w0 : U} {G0 : bq} {l : J aD}
theorem eIB:(cB 13 6732)=.seq (.seq (cB 15 26928) (.cond (.tmp 42) .skip (.exit 2))) (.seq (.block 3 (cB 16 53860)) (cB 15 26931)):=by kernel_rfl
theorem eB3:(cB 16 53860)=.seq (cB 17 107720) (.cond (.tmp 52) (cB 18 215442) (cB 18 215443)):=by kernel_rfl
theorem eB1:(cB 9 420)=.seq (.seq (cB 11 1680) (.cond (.tmp 34) (.exit 1) .skip)) (.seq (cB 11 1682) (.block 2 (.loop (cB 13 6732)))):=by kernel_rfl
theorem eOB:(cB 6 52)=.seq (.seq (cB 8 208) (.cond (.tmp 10) .skip (.exit 0))) (.seq (.block 1 (cB 9 420)) (cB 8 211)):=by kernel_rfl
theorem eC:(Tryz.f53.body.getD .skip)=.seq (cB 1 0) (.seq (cB 2 2) (.seq (.seq (cB 4 12) (.block 0 (.loop (cB 6 52)))) (.seq (cB 4 14) .ret))):=by kernel_rfl
theorem aiK(hi:G0.i=[])(hg:G0.g=[]){i k cap aF:Nat}{o:J (J aD)×J aD}(h1:i<l.length)(h2:k<l[i].fText.length)(h3:Gh o<=1000000000)(h4:l[i].fText.length<=1000000000)(hb:(l[i].fText[k]==47)=false):
  AW prog w0 G0 (cB 18 215443) (QD l i k o cap aF) (fun x s=>x=.normal/\∃cap' vw,s=QD l i k (mN l[i].aN o l[i].fText[k]) cap' vw):=by
 have hw:=anl l i k cap aF o.1 o.2;have hlx:o.1.length+o.2.length<=1000000000:=h3;have e1:aB (((o.1.length+1:Nat):Int)-1)=(o.1.length:Int):=by rw [bN om];omega
 have e2:(o.1.length:Int).toNat=o.1.length:=bZ _
 rw [e1,e2,YN h1,cw om,cC (SU (n:=o.1.length+1) om),cC (M9 _),cC (SU h1),xS om om om,cC (SU h1),
  cC (by rw [M9,dW bz,dW bz];rfl),cC (SU (n:=o.1.length+1) om),cC (M9 _)] at hw
 have QE:sl l[i].fText (k:Int) ((k+1:Nat):Int)=[l[i].fText[k]]:=by
  unfold sl;rw [bZ,bZ,lB h2,List.drop_left' (by rw [yj];omega)]
 rw [QE] at hw;intro a w G hr;refine wp_mono (AW.rt um hi (m':=[(0,.dat (.bn gN) l),(3,.iq 0 (o.1.length+1) cap),(4,.dat (.int .i64) ((i:Nat):Int)),(5,.dat (.int .i64) ((k:Nat):Int))]) hw a w G hr) fun e a' w' hp=>?_;obtain⟨x,s,G',he,hr',rfl,rfl⟩:=hp
 have hr2:=hr'.aiL hg (by
  intro p hp;simp only [iE,Ca,Cb] at hp;rcases hp with rfl|rfl|rfl|rfl
  ·exact .inl ⟨_,_,rfl⟩
  ·exact .inr ⟨_,_,_,rfl⟩
  ·exact .inl ⟨_,_,rfl⟩
  ·exact .inl ⟨_,_,rfl⟩)
 cases e<;>try (exact he.elim)
 refine⟨.normal,_,_,trivial,hr2,rfl,cap,aF+1,?_⟩;unfold mN QD;rw [hb];rfl
theorem aiM(hi:G0.i=[]){i k cap aF:Nat}{o:J (J aD)×J aD}(h1:i<l.length)(h2:k<l[i].fText.length)(h3:Gh o<=1000000000)(hb:(l[i].fText[k]==47)=true):
  AW prog w0 G0 (cB 18 215442) (QD l i k o cap aF) (fun x s=>x=.normal/\∃cap' vw,s=QD l i k (mN l[i].aN o l[i].fText[k]) cap' vw):=by
 have hlx:o.1.length+o.2.length<=1000000000:=h3
 have hw:=AW.aiN (w0:=w0) (G0:=G0) (P:=prog) (c:=(cB 18 215442)) D5 (n:=85) (t:=85) (e:=81) (e2:=117) (j3:=3) (Ey:=53) (Gi:=54) (Nj:=55) kr kr (cl:={callee:=.builtin .append,args:=#[.tmp 53,.tmp 54],argTypes:=#[85,85]}) rfl rfl rfl
  (j1:=1) (j2:=24) (z:=.slice none 0 0) kr (ie:=⟨.slice 117,1,24,.slice none 0 0⟩) kr rfl rfl gN (m0:=[(0,.dat (.bn gN) l),(4,.dat (.int .i64) ((i:Nat):Int)),(5,.dat (.int .i64) ((k:Nat):Int))]) (by
   intro p hp;simp only [iE,Ca,Cb] at hp;rcases hp with rfl|rfl|rfl<;>exact⟨_,_,rfl⟩) ⟨om,om,om,om⟩ hi (cap:=cap) (aF:=aF) (xs:=o.1) (last:=o.2) rfl (by show (o.1.length+2)*24<=_;omega) (by show o.1.length+2<=_;omega) (by
   intro c' p hp;simp only [zw,o9,iE,Ca,Cb] at hp;rcases hp with rfl|rfl|rfl|rfl<;>rfl) (by
   intro p hp;simp only [iE,Ca,Cb] at hp;rcases hp with rfl|rfl|rfl<;>rfl)
 refine AW.sub hi (m':=[(0,.dat (.bn gN) l),(4,.dat (.int .i64) ((i:Nat):Int)),(5,.dat (.int .i64) ((k:Nat):Int))]++[(3,.iq 0 (o.1.length+1) cap)]) (by
   intro p hp;simp only [zw,o9,iE,Ca,Cb] at hp;rcases hp with rfl|rfl|rfl|rfl<;>rfl) ?_
 intro a w G hr;refine wp_mono (hw a w G hr) fun e a' w' hp=>?_;obtain⟨x,s,G',he,hr',rfl,c',rfl⟩:=hp;have hs:mN l[i].aN o l[i].fText[k]=(o.1++[o.2],[]):=by unfold mN;rw [hb];rfl
 have hr2:=hr'.aqA hi (m':=[(0,.dat (.bn gN) l),(3,.iq 0 (o.1.length+2) c'),(4,.dat (.int .i64) ((i:Nat):Int)),(5,.dat (.int .i64) ((k:Nat):Int))]) (by
   intro p hp;simp only [iE,Ca,Cb] at hp;rcases hp with rfl|rfl|rfl|rfl<;>rfl)
 cases e<;>try (exact he.elim)
 refine⟨.normal,_,_,trivial,hr2,rfl,c',aF+1,?_⟩;rw [hs];unfold QD;simp only [tM,su,D4];rfl
theorem alG(hi:G0.i=[])(hg:G0.g=[]){i k cap aF:Nat}{o:J (J aD)×J aD}(h1:i<l.length)(h2:k<=l[i].fText.length)(h3:Gh o<=1000000000)(h4:l[i].fText.length<=1000000000):
  AW prog w0 G0 (cB 13 6732) (QD l i k o cap aF) (fun x s=>(x=.normal/\∃h:k<l[i].fText.length,∃cap' vw,s=QD l i (k+1) (mN l[i].aN o l[i].fText[k]) cap' vw)\/(x=.exit 2/\k=l[i].fText.length/\s=stI l i o cap aF)):=by
 rw [eIB];refine AW.seq ?_;have hw7:=ao9 l i k cap aF o.1 o.2;rw [cC (SU h1),YN h1] at hw7;refine AW.D6 (Q':=fun x s=>s=_) (AW.rt um hi (m':=[(0,.dat (.bn gN) l),(3,.iq 0 (o.1.length+1) cap),(4,.dat (.int .i64) ((i:Nat):Int)),(5,.dat (.int .i64) ((k:Nat):Int)),(42,.dat .bool (decide (((k:Nat):Int)<(l[i].fText.length:Int))))]) hw7) ?_;rintro _ rfl;refine AW.cond (b:=decide (((k:Nat):Int)<(l[i].fText.length:Int))) rfl ?_;by_cases hk:k<l[i].fText.length
 ·rw [dW (show ((k:Nat):Int)<(l[i].fText.length:Int) by omega),if_pos rfl]
  refine AW.skip (.inl ⟨rfl,?_⟩);refine AW.D6 (Q':=fun x s=>∃cap' vw,s=QD l i k (mN l[i].aN o l[i].fText[k]) cap' vw) ?_ ?_
  ·refine AW.block ?_
   rw [eB3];have hw9:=apa l i k cap aF o.1 o.2;rw [cC (SU h1),YN h1,cC (SU hk),apd hk,pn _ 47 om] at hw9
   refine AW.sub hi (m':=[(0,.dat (.bn gN) l),(3,.iq 0 (o.1.length+1) cap),(4,.dat (.int .i64) ((i:Nat):Int)),(5,.dat (.int .i64) ((k:Nat):Int))]) (by
    intro p hp;simp only [iE,Ca,Cb] at hp;rcases hp with rfl|rfl|rfl|rfl<;>rfl) ?_
   refine AW.D6 (Q':=fun x s=>s=_) (AW.rt um hi (m':=[(0,.dat (.bn gN) l),(3,.iq 0 (o.1.length+1) cap),(4,.dat (.int .i64) ((i:Nat):Int)),(5,.dat (.int .i64) ((k:Nat):Int)),(52,.dat .bool (l[i].fText[k]==47))]) hw9) ?_;rintro _ rfl;refine AW.cond (b:=(l[i].fText[k]==47)) rfl ?_
   refine AW.sub hi (m':=[(0,.dat (.bn gN) l),(3,.iq 0 (o.1.length+1) cap),(4,.dat (.int .i64) ((i:Nat):Int)),(5,.dat (.int .i64) ((k:Nat):Int))]) (by
    intro p hp;simp only [iE,Ca,Cb] at hp;rcases hp with rfl|rfl|rfl|rfl<;>rfl) ?_
   cases hb:(l[i].fText[k]==47) with
   | true=>
    rw [if_pos rfl]
    exact (aiM hi h1 hk h3 hb).mono fun x s hq=>.inr ⟨(fun e=>by rw [hq.1] at e;cases e),hq.1,hq.2⟩
   | false=>
    rw [if_neg de];exact (aiK hi hg h1 hk h3 h4 hb).mono fun x s hq=>.inr ⟨(fun e=>by rw [hq.1] at e;cases e),hq.1,hq.2⟩
  ·rintro _ ⟨cap',vw,rfl⟩
   have hw8:=apb l i k cap' vw (mN l[i].aN o l[i].fText[k]).1 (mN l[i].aN o l[i].fText[k]).2;rw [cw om] at hw8;refine (AW.rt um hi (m':=[(0,.dat (.bn gN) l),(3,.iq 0 ((mN l[i].aN o l[i].fText[k]).1.length+1) cap'),(4,.dat (.int .i64) ((i:Nat):Int)),(5,.dat (.int .i64) ((k+1:Nat):Int))]) hw8).mono ?_;rintro x s ⟨rfl,rfl⟩;exact .inl ⟨rfl,hk,cap',vw,rfl⟩
 ·rw [tK (show ¬ ((k:Nat):Int)<(l[i].fText.length:Int) by omega),if_neg de]
  refine AW.sub hi (m':=[(0,.dat (.bn gN) l),(3,.iq 0 (o.1.length+1) cap),(4,.dat (.int .i64) ((i:Nat):Int))]) (by
    intro p hp;simp only [iE,Ca,Cb] at hp;rcases hp with rfl|rfl|rfl<;>rfl) ?_
  exact AW.exit (.inr ⟨(fun e=>by cases e),.inr ⟨rfl,om,rfl⟩⟩)
theorem alH(hi:G0.i=[])(hg:G0.g=[]){i cap aF:Nat}(h1:i<l.length)(h3:ck l<=1000000000):
  AW prog w0 G0 (.block 1 (cB 9 420)) (stI l i (gp (l.take i)) cap aF) (fun x s=>x=.normal/\∃cap' vw,s=stI l i (gp (l.take (i+1))) cap' vw):=by
 have hsz:=qK l i h1;have hle:=uK l (i+1);have hO:Gh (gp (l.take i))<=ck (l.take i):=by have:=RE (l.take i) ([],[]);simpa [gp,Gh] using this
 have h4:l[i].fText.length<=1000000000:=om;refine AW.block ?_;rw [eB1];refine AW.seq ?_;have hw5:=ao7 l i cap aF (gp (l.take i)).1 (gp (l.take i)).2;rw [cC (SU h1),YN h1] at hw5;simp only [cC (SU h1)] at hw5;obtain⟨b,hb⟩:∃b,b=(l[i].aN != 0&&(l[i].aN != 1&&l[i].aN != 2)):=⟨_,rfl⟩;refine AW.D6 (Q':=fun x s=>s=_) (AW.rt um hi (m':=[(0,.dat (.bn gN) l),(3,.iq 0 ((gp (l.take i)).1.length+1) cap),(4,.dat (.int .i64) ((i:Nat):Int)),(34,.dat .bool b)]) (H':=[.lC 81 cap (.bn gN) (gp (l.take i)).1 (.cA 0 aF gN (gp (l.take i)).2)]) (g':=[⟨aF,117,2⟩]) (hw5.trans ?_)) ?_
 ·rw [hb]
  cases (l[i].aN != 0)
  ·rfl
  ·cases (l[i].aN != 1)
   ·rfl
   ·rfl
 rintro _ rfl;refine AW.cond (b:=b) rfl ?_
 refine AW.sub hi (m':=[(0,.dat (.bn gN) l),(3,.iq 0 ((gp (l.take i)).1.length+1) cap),(4,.dat (.int .i64) ((i:Nat):Int))]) (by
   intro p hp;simp only [iE,Ca,Cb] at hp;rcases hp with rfl|rfl|rfl<;>rfl) ?_
 cases hbb:b with
 | true=>
  rw [if_pos rfl];refine AW.exit (.inr ⟨(fun e=>by cases e),.inl ⟨rfl,rfl,cap,aF,?_⟩⟩);rw [SQ l i h1];unfold Al;rw [<-hb,hbb]
  rfl
 | false=>
  rw [if_neg de];refine AW.skip (.inl ⟨rfl,?_⟩);have hw6:=ao8 l i cap aF (gp (l.take i)).1 (gp (l.take i)).2;refine AW.D6 (Q':=fun x s=>s=_) (AW.rt um hi (m':=[(0,.dat (.bn gN) l),(3,.iq 0 ((gp (l.take i)).1.length+1) cap),(4,.dat (.int .i64) ((i:Nat):Int)),(5,.dat (.int .i64) 0)]) hw6) ?_;rintro _ rfl;refine AW.block ?_;refine AW.loop (ι:=Nat×Nat×Nat) (fun x=>QD l i x.1 ((l[i].fText.take x.1).foldl (mN l[i].aN) (gp (l.take i))) x.2.1 x.2.2) (fun x=>x.1<=l[i].fText.length) (fun x=>l[i].fText.length-x.1) (0,cap,aF) (eA _) rfl ?_;rintro⟨k,aqB,aqC⟩ hk;dsimp only at hk⊢
  refine (alG hi hg h1 hk (by
   have:=RC l[i].aN (l[i].fText.take k) (gp (l.take i));have h5:(l[i].fText.take k).length<=l[i].fText.length:=by rw [yj];omega
   omega) h4).mono ?_
  rintro x s (⟨rfl,hlt,cap',vw,rfl⟩|⟨rfl,hke,rfl⟩)
  ·exact .inl ⟨rfl,(k+1,cap',vw),hlt,by dsimp only;omega,by rw [U6 _ _ _ _ hlt]⟩
  ·subst hke
   refine .inr ⟨fun e=>(by cases e),.inl ⟨rfl,.inr ⟨fun e=>(by cases e),rfl,aqB,aqC,?_⟩⟩⟩;rw [SQ l i h1,yf];unfold Al;rw [<-hb,hbb];rfl
theorem aiO(hi:G0.i=[])(hg:G0.g=[])(h2:l.length<=1000000000)(h3:ck l<=1000000000):
  AW prog w0 G0 (Tryz.f53.body.getD .skip) (SS (E:=E) 85 [(0,.dat (.bn gN) l)] [] []) (fun x s=>x=.ret/\∃cap aF,s=SS (E:=E) 85 [(0,.dat (.bn gN) l),(2,.iq 0 ((gp l).1.length+1) cap)] [.lC 81 cap (.bn gN) (gp l).1 (.cA 0 aF gN (gp l).2)] [⟨aF,117,2⟩]):=by
 rw [eC];refine AW.D6 (Q':=fun x s=>s=_) (AW.rt um hi (m':=[(0,.dat (.bn gN) l)]) (ao4 l)) ?_;rintro _ rfl
 refine AW.D6 (Q':=fun x s=>s=_) (AW.ann (c:=(cB 2 2)) (n:=85) (t:=85) (e:=81) 117 (j3:=3) (j6:=6) kr kr (j1:=1) (j2:=24) (z:=.slice none 0 0) kr (ie:=⟨.slice 117,1,24,.slice none 0 0⟩) kr rfl gN
  (m':=[(0,.dat (.bn gN) l),(3,.iq 0 1 1)]) om hi (by
   intro p hp;simp only [iE,Ca,Cb] at hp;rcases hp with rfl|rfl<;>rfl)) ?_
 rintro _ rfl;refine AW.D6 (Q':=fun x s=>∃cap aF,s=stI l l.length (gp l) cap aF) ?_ ?_
 ·refine AW.D6 (Q':=fun x s=>s=stI l 0 (gp (l.take 0)) 1 0) ((AW.rt um hi (m':=[(0,.dat (.bn gN) l),(3,.iq 0 1 1),(4,.dat (.int .i64) 0)]) (ao5 l 1 0 [] [])).mono fun x s hq=>hq) ?_
  rintro _ rfl;refine AW.block ?_;refine AW.loop (ι:=Nat×Nat×Nat) (fun x=>stI l x.1 (gp (l.take x.1)) x.2.1 x.2.2) (fun x=>x.1<=l.length) (fun x=>l.length-x.1) (0,1,0) (eA _) rfl ?_;rintro⟨i,cap,aF⟩ hil;dsimp only at hil⊢;rw [eOB];refine AW.seq ?_;refine AW.D6 (Q':=fun x s=>s=_) (AW.rt um hi (m':=[(0,.dat (.bn gN) l),(3,.iq 0 ((gp (l.take i)).1.length+1) cap),(4,.dat (.int .i64) ((i:Nat):Int)),(10,.dat .bool (decide (((i:Nat):Int)<(l.length:Int))))]) (ao6 l i cap aF (gp (l.take i)).1 (gp (l.take i)).2)) ?_;rintro _ rfl;refine AW.cond (b:=decide (((i:Nat):Int)<(l.length:Int))) rfl ?_
  refine AW.sub hi (m':=[(0,.dat (.bn gN) l),(3,.iq 0 ((gp (l.take i)).1.length+1) cap),(4,.dat (.int .i64) ((i:Nat):Int))]) (by
   intro p hp;simp only [iE,Ca,Cb] at hp;rcases hp with rfl|rfl|rfl<;>rfl) ?_
  by_cases h1:i<l.length
  ·rw [dW (show ((i:Nat):Int)<(l.length:Int) by omega),if_pos rfl]
   refine AW.skip (.inl ⟨rfl,?_⟩);refine AW.D6 (alH hi hg h1 h3) ?_;rintro _ ⟨cap',vw,rfl⟩;have hw4:=apc l i cap' vw (gp (l.take (i+1))).1 (gp (l.take (i+1))).2;rw [cw om] at hw4;refine (AW.rt um hi (m':=[(0,.dat (.bn gN) l),(3,.iq 0 ((gp (l.take (i+1))).1.length+1) cap'),(4,.dat (.int .i64) ((i+1:Nat):Int))]) hw4).mono ?_;rintro x s ⟨rfl,rfl⟩;exact .inl ⟨rfl,(i+1,cap',vw),h1,by dsimp only;omega,rfl⟩
  ·rw [tK (show ¬ ((i:Nat):Int)<(l.length:Int) by omega),if_neg de]
   obtain rfl:i=l.length:=om;refine AW.exit (.inr ⟨fun e=>(by cases e),.inr ⟨fun e=>(by cases e),.inl ⟨rfl,rfl,cap,aF,?_⟩⟩⟩);rw [yf];rfl
 ·rintro _ ⟨cap,aF,rfl⟩
  refine AW.D6 (Q':=fun x s=>s=_) (AW.rt um hi (m':=[(0,.dat (.bn gN) l),(2,.iq 0 ((gp l).1.length+1) cap)]) (anm l l.length cap aF (gp l).1 (gp l).2)) ?_;rintro _ rfl;exact AW.ret ⟨rfl,cap,aF,rfl⟩
end
def ak4(E:TEnv)(ix:Nat)(f:FuncId)(F:Nat)(m:Nat->J ((Ty.ext ix).den E.D)->O (J (J ((Ty.ext ix).den E.D)))):bJ E:=⟨⟨f,[.one (.dat (.bn (.ext ix)))],[],[],⟨.one (.dat (.bn (.bn (.ext ix)))),[],[],[]⟩,none,[]⟩,fun (x:J ((Ty.ext ix).den E.D))=>m F x⟩
set_option maxRecDepth 100000 in
theorem alI(F:Nat):(ak4 E 17 53 F SP).Ok prog:=by
 have key:∀(l:J aD)(y:J (J aD)),SP F l=some y->lE (E:=E) prog 53 [.dat (.bn gN) l] [] [] [] ⟨true,.dat (.bn (.bn gN)) y,[],[],[],[]⟩:=by
  intro l y hy;obtain⟨h1,h2⟩:=dQ hy;rw [cE,fL,fL] at h1;cases h2;intro w G args hP hB hS hV;have hi:G.i=[]:=D3 hB.len;have hg:G.g=[]:=by have:=hB.gs;simpa using this
  have Gj:=Rel.KN (n:=Tryz.f53.ntmps) hP hB hS hV;have hb:Tryz.f53.body=some (Tryz.f53.body.getD .skip):=by kernel_rfl
  refine tN func53 hb kr (calls_of_wp func53 hb ?_);have eU:Rel E w G (SS (E:=E) 85 [(0,.dat (.bn gN) l)] [] []) _ w G:=Gj;refine wp_mono (aiO (l:=l) hi hg h1.1 h1.2 _ w G eU) fun e a' w' hp=>?_;obtain⟨x,s,G',he,hr,rfl,cap,aF,rfl⟩:=hp
  have I8:a'.defers=[]:=by
   have:=hr.defers
   cases hd:a'.defers with
   | nil=>rfl
   | cons d ds=>rw [hd] at this;exact this.elim
  obtain⟨v,hv,hrun⟩:=An (fn:=Tryz.f53) um hr (ds:=[.iq 0 ((gp l).1.length+1) cap]) kr;obtain⟨G2,q1,q2,q3,q4⟩:=alJ (j:=2) hr hi hg rfl;cases e<;>try (exact he.elim)
  have L8:v=a'.tmps.getD 2 undef:=by
   have h3:=hr.tmps 2 (.iq 0 ((gp l).1.length+1) cap) rfl;simp only [qL,VT] at hv h3;obtain⟨b,ve,vz⟩:=hv;obtain⟨b',qS,nN⟩:=h3;rw [vz] at nN;cases nN;rw [ve,qS]
  subst L8;exact⟨I8,_,hrun,_,G2,rfl,q1,q2,q3,q4,fun q b hq=>by rw [hi] at hq;cases hq⟩
 intro x y hy;exact key x y hy
end Go.Proofs.YtpgbhdldcmcenaaGreatDoor
