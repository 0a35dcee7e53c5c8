import Derived.Test.YthmndfnkdgmenaaGreatDoorTy
import Derived.Test.YthmndfnkdgmenaaGreatDoorRk
import Derived.Test.YthmndfnkdgmenaaGreatDoorSo
set_option linter.all false
namespace Go.Proofs.YthmndfnkdgmenaaGreatDoor
open Go.RT
set_option maxRecDepth 100000
noncomputable section
variable (F : Nat)
def Hq:=ibF
def Po:bB E:=ibC E 386 F
theorem MH:(Po F).Ok pg:=anJ (fun args w=>by rw [run_callFunc_extern Tryz.func386 kr kr kr (e:=Extern.BytealgIndexByte.indexByte) kr]) F
def aa8(F:Nat):bB E:=⟨⟨192,[.one (.dat .str)],[],[],⟨.one (.any),[],[],[]⟩,none,[]⟩,fun _=>none⟩
theorem MI:(aa8 F).Ok pg:=fun x y h=>nomatch (show none=some y from h)
def stringslite_IndexByte(a0:Bs)(a1:Int):O Int:=(Hq F a0 a1).bind fun x1=>some x1
def G6:bB E:=⟨sh 351 [oS,.one (.dat (.int .u8))] oI,u2 (stringslite_IndexByte F)⟩
theorem uP:(G6 F).Ok pg:=dc F lf (bM (MH F) gU) Tryz.func351
def strings_IndexByte(a0:Bs)(a1:Int):O Int:=(stringslite_IndexByte F a0 a1).bind fun x1=>some x1
def L9:bB E:=⟨sh 313 [oS,.one (.dat (.int .u8))] oI,u2 (strings_IndexByte F)⟩
theorem ze:(L9 F).Ok pg:=dc F lf (bM (uP F) gU) Tryz.func313
def Jg(F:Nat)(a0:Int):O Bool:=by refine(?g:WQ _) (wv (wa (0<=a0)<|ws (decide (a0<55296))) fun x1=>wo x1<|wv (wa (57343<a0)<|ws (decide (a0<=1114111))) fun x2=>wo x2<|ws false);exact fun{v}_=>v
def QA:bB E:=⟨sh 359 [.one (.dat (.int .i32))] oB,Jg F⟩
theorem Pp:(QA F).Ok pg:=dc F (qa (qs (qs (.region [rb 6 9]) (.cond lf (qs (.region [rb 6 16]) lf))) lf)) gU Tryz.func359
def wY(a0:Bs)(a1:Int):O Int:=by refine(?g:WQ _) (wt a0.length fun e=>wt ((Jh a1).length:Int) fun d=>wt (aB (d-1)) fun c=>wt (((Jh a1).getD c.toNat 0).toNat:Int) fun f=>wv (wa (0<=a1)<|ws (decide (a1<128))) fun x1=>wc x1 (wm (strings_IndexByte F a0 (IntKind.wrap .u8 a1)))<|wc (a1==65533) (gV Bs Int (fun kR a b=>wt b.toNat fun g=>wc (Nat.blt g a.length) (wc (((dec a g).1:Int)==65533) (ws ((g:Nat):Int))<|ww<|kR (a,((g+(dec a g).2:Nat):Int)))<|ws (-1)) F (a0,((0:Nat):Int)))<|wb (Jg F a1) fun x5=>wc (!x5) (ws (-1))<|wl Int (fun ux x6=>wt (aB (x6+1)) fun h=>wc (x6<e) (ww<|jj (σ:=Int) (rq (0<=x6&&x6<e) (rq (0<=c&&c<d) (cond (((a0.getD x6.toNat 0).toNat:Int)!=f) (rq (0<=h&&(h<=e&&(e:Int)<=(e:Int))) (rq (0<=c&&c<d) ((strings_IndexByte F (sl a0 h (e:Int)) f).bind fun x9=>cond (x9<0) (some (.inr (-1))) (some (.inl (aB (x6+aB (x9+1)))))))) (some (.inl x6))))) fun x8=>bV (σ:=Int) (fun adz bW=>cond (bW<d) (rq (0<=aB (x8-bW)&&aB (x8-bW)<e) (rq (0<=aB (c-bW)&&aB (c-bW)<d) (cond (((a0.getD (aB (x8-bW)).toNat 0).toNat:Int)!=(((Jh a1).getD (aB (c-bW)).toNat 0).toNat:Int)) none (adz (aB (bW+1)))))) (some (aB (x8-c)))) F 1)<|ws (-1)) F c);exact fun{v}_=>v
def Ma:bB E:=⟨sh 310 [oS,.one (.dat (.int .i32))] oI,u2 (wY F)⟩
theorem Kf:(Ma F).Ok pg:=dc F (qa (qs (.region [rb 6 166]) (.cond lf (qa (.cond (qs (qa (.loop [] ⟨[],[some (.iter)],[],[]⟩ lf)) lf) (qa (.cond lf (qa (qa (qa (qa (qs (.loop [] (ct [(9,oI)]) (qa (.seq [] (some ((ct [(9,oI)]),true)) (qs (.draw [⟨true,7,none⟩]) (.cond (qs (.draw [⟨true,7,none⟩,⟨false,2,none⟩]) lf) lf)) (qs (qa (.loop [] (ct [(12,oI)]) (qa (qs (qs (.draw [⟨true,11,none⟩]) lf) lf)))) lf)))) lf)))))))))))) (bM (ze F) (bM (Pp F) gU)) Tryz.func310
def strings_shouldUseASCIISet(F:Nat)(a0:Int):O Bool:=some (decide (8<a0))
def CI:bB E:=⟨sh 350 [oI] oB,strings_shouldUseASCIISet F⟩
theorem Bn:(CI F).Ok pg:=dc F lf gU Tryz.func350
def strings_IndexAny(a0 a1:Bs):O Int:=by refine(?g:WQ _) (wt (a1.length:Int) fun e=>wt (IntKind.wrap .i32 ((a1.getD 0 0).toNat:Int)) fun c=>wc (a1==[]) (ws (-1))<|wc (e==1) (wq (0<e)<|wv (wc (128<=c) (ws 65533)<|ws c) fun x1=>wm (wY F a0 x1))<|wb (strings_shouldUseASCIISet F (a0.length:Int)) fun x3=>wc x3 wn<|gV Bs Int (fun zf a b=>wt b.toNat fun d=>wc (Nat.blt d a.length) (wb (wY F a1 ((dec a d).1:Int)) fun x6=>wc (0<=x6) (ws ((d:Nat):Int))<|ww<|zf (a,((d+(dec a d).2:Nat):Int)))<|ws (-1)) F (a0,((0:Nat):Int)));exact fun{v}_=>v
def MJ:bB E:=⟨sh 294 [oS,oS] oI,u2 (strings_IndexAny F)⟩
theorem Mb:(MJ F).Ok pg:=dc F (qa (qa (qs (qa (.cond (qa (.seq [] (some ((ct [(5,.one (.dat (.int .i32)))]),false)) lf lf)) lf)) (qa (qs (qa (.loop [] ⟨[],[some (.iter)],[],[]⟩ lf)) lf))))) (bM (Kf F) (bM (Bn F) (bM (MI F) gU))) Tryz.func294
end
open Go.RT Go.RowKit Go.Maps Go.Sort Go.Shelf
open Go.Proofs (encStr)
theorem alV:Builder.Extra Tryz.prog Tryz.VU:={
 sizeBuilder:=by kernel_rfl
 liesBuilder:=by kernel_rfl
 t5:=Tryz.underlying5
 a5:=Tryz.isAgg5
 z5:=Tryz.sizeOf5
 v5:=Tryz.zeroValue5
 infoByte:=by kernel_rfl
 cellsByte:=by kernel_rfl
 sizeByte:=by kernel_rfl
 neB5:=by decide}
theorem afF:Yq Tryz.prog 121:=
 ⟨oZ Tryz.func121 kr kr,fun bk o c xs sep w h1 h2 h3 h4 h5=>Any.strings_Join Tryz.ajQ alV bk o c xs sep w h1 h2 h3 h4 h5,fun a c sep w=>Any.strings_Join_none Tryz.ajQ alV a c sep w⟩
theorem anK:ajR Tryz.prog 301:=
 ⟨oZ Tryz.func301 kr kr,fun s c w h=>Any.strings_LastIndexByte Tryz.ao7 s c h w⟩
theorem alW:afG Tryz.prog 124:=
 ⟨oZ Tryz.func124 kr kr,fun blk cap ss w h1 h2 h3=>AnyM.slices_Sort_string Tryz.X0 blk 0 cap ss w h1 h2 h3,fun p cap w=>AnyM.slices_Sort_string_none Tryz.X0 p cap w⟩
theorem VV{w:U}{G:aJ}(hP:o4 E w G):∃m,w.cell? ⟨0,0,none⟩=some (.int .i64 m):=by
 obtain⟨cs,t,m,h1,n,h2⟩:=(hP 0 _ rfl).1;exact⟨n,by simp [World.cell?,h1,h2]⟩
theorem splitAt:acf E Tryz.prog 175 9:=
 ⟨oZ Tryz.func175 kr kr,fun s sep w G hP h1 h2=>by
  obtain⟨m,hm⟩:=VV hP;exact Any.strings_Split Tryz.alX kr s sep m w h1 hm h2,
  fun s sep h=>Lib.splitB_all sep h 0 _ s rfl,fun s sep h=>Lib.countB_le sep h s.size s (eo _)⟩
theorem cutAt:ajS E Tryz.prog 178:=
 ⟨oZ Tryz.func178 kr kr,fun s sep w G hP h=>by
  obtain⟨m,hm⟩:=VV hP;exact Any.strings_Cut Tryz.ao8 s sep m w h hm⟩
def adA(F:Nat)(s cs:Bs):O Int:=cond (Nat.ble s.length 8) (strings_IndexAny F s cs)
 (rq (decide (s.length<4294967281)&&(decide (2<=cs.length)&&(decide (cs.length<4294967281)&&cs.all fun b=>decide (b.toNat<128)))) (some (Lib.indexAny s cs)))
def alY(E:TEnv)(f:FuncId)(F:Nat):bB E:=⟨⟨f,[.one (.dat .str),.one (.dat .str)],[],[],⟨.one (.dat (.int .i64)),[],[],[]⟩,none,[]⟩,fun (x:Bs×Bs)=>adA F x.1 x.2⟩
set_option maxRecDepth 100000 in
theorem alZ(F:Nat):(alY E 294 F).Ok Tryz.prog:=by
 have key:∀(s cs:Bs)(y:Int),adA F s cs=some y->kV (E:=E) Tryz.prog 294 [.dat .str s,.dat .str cs] [] [] [] ⟨true,.dat (.int .i64) y,[],[],[],[]⟩:=by
  intro s cs y hy;unfold adA at hy;cases hb:Nat.ble s.length 8<;>rw [hb] at hy<;>simp only [bq,aS] at hy
  ·obtain⟨h1,h2⟩:=dG hy
   rw [cx,cx,cx,fX,fX,fX,oX] at h1;obtain⟨c1,c2,c3,c4⟩:=h1;cases h2
   have h8:8<s.length:=by
    rcases XT 8 s.length with h|h
    ·exact h
    ·rw [Nat.ble_eq_true_of_le h] at hb;cases hb
   refine Cb (oZ Tryz.func294 kr kr) fun w G args hP hv=>⟨_,fun w G=>.int w G .i64 (Lib.indexAny s cs),?_⟩;obtain⟨u,us,ha,uy,qh⟩:=hv.cons_inv;obtain⟨u2,RU,ry,DP,Ji⟩:=qh.cons_inv;have Ji:RU=[]:=by simpa only [bD] using Ji
   have e1:=uy.gP;have e2:=DP.gP;subst e1 e2 Ji ry;have ha:args=#[mkStr s,mkStr cs]:=by apply RM;exact ha
   subst ha;have hz:=zero_of_info (P:=Tryz.prog) (t:=Tryz.acg.t 116) (v:=.agg (Array.replicate 256 (.bool false))) (n:=256) kr;refine (Any.strings_IndexAny_long Tryz.iaL hz.1 hz.2 ⟨⟨s⟩⟩ ⟨⟨cs⟩⟩ w c2 h8 c1 c3 fun j b hb=>by simpa using c4 b (iX hb)).mono fun e w' hh=>?_;obtain⟨q1,q2⟩:=hh;refine⟨q1,?_⟩;rw [q2];exact ((Below.refl _ _).alloc (eo _) _).alloc si _
  ·exact Mb F (s,cs) y hy
 intro x y hy;exact key x.1 x.2 y hy
theorem ao9:RW Tryz.prog 276:=
 ⟨oZ Tryz.func276 kr kr,fun blk cap zs w h1 h2=>AnyE.slices_Reverse Tryz.apa (Value.int .u8) (fun _=>rfl) blk 0 cap zs w h1 h2⟩
noncomputable abbrev cX:Cx E:=⟨Tryz.prog,Hr,[],[],none⟩
abbrev vI(n:Int):TV E:=.dat (.int .i64) n
abbrev vB(b:Bool):TV E:=.dat .bool b
abbrev vL(l:J aH):TV E:=.dat (.aZ (.ext 17)) l
abbrev vH(xs:J (J aH))(cap:Nat):TV E:=.gW 0 (xs.length+1) cap
abbrev nR(cap aF:Nat)(xs:J (J aH))(last:J aH):eZ E:=.kU 81 cap (.aZ (.ext 17)) xs (.cj 0 aF (.ext 17) last)
abbrev gR(aF:Nat):bQ:=⟨aF,118,2⟩
noncomputable abbrev cR(c:Code)(p:cZ)(s:TS E)(js:J Nat):=Go.RT.runT cX 0 c p s (proj js)
def cP:Code->J Bool->Code
 | .seq a _,false::p=>cP a p
 | .seq _ b,true::p=>cP b p
 | .cond _ a _,false::p=>cP a p
 | .cond _ _ b,true::p=>cP b p
 | .block _ a,false::p=>cP a p
 | .loop a,false::p=>cP a p
 | c,_=>c
def bts:Nat->Nat->J Bool
 | 0,_=>[]
 | k+1,n=>Nat.beq (n / 2^k%2) 1::bts k n
noncomputable abbrev cB(k n:Nat):Code:=cP (Tryz.f64.body.getD .skip) (bts k n)
set_option maxRecDepth 100000 in
theorem anL(l:J aH):cR (cB 1 0) (.leaf) (SS (E:=E) 85 [(0,vL l)] [] []) [0]=some ([some (vL l)],[],[],[],[]):=by kernel_rfl
set_option maxRecDepth 100000 in
theorem anM(l:J aH)(cap aF:Nat)(xs:J (J aH))(last:J aH):cR (cB 4 12) (.leaf) (SS (E:=E) 85 [(0,vL l),(3,vH xs cap)] [nR cap aF xs last] [gR aF]) [0,3,4]=some ([some (vL l),some (vH xs cap),some (vI 0)],[nR cap aF xs last],[gR aF],[],[]):=by kernel_rfl
set_option maxRecDepth 100000 in
theorem anN(l:J aH)(i cap aF:Nat)(xs:J (J aH))(last:J aH):cR (cB 8 208) (.leaf) (SS (E:=E) 85 [(0,vL l),(3,vH xs cap),(4,vI ((i:Nat):Int))] [nR cap aF xs last] [gR aF]) [0,3,4,10]=some ([some (vL l),some (vH xs cap),some (vI ((i:Nat):Int)),some (vB (decide (((i:Nat):Int)<(l.length:Int))))],[nR cap aF xs last],[gR aF],[],[]):=by kernel_rfl
set_option maxRecDepth 100000 in
theorem anO(l:J aH)(i cap aF:Nat)(xs:J (J aH))(last:J aH):cR (cB 11 1680) (.leaf) (SS (E:=E) 85 [(0,vL l),(3,vH xs cap),(4,vI ((i:Nat):Int))] [nR cap aF xs last] [gR aF]) [0,3,4,34]=rq ((decide (0<=((i:Nat):Int)))&&(decide (((i:Nat):Int)<(l.length:Int)))) (cond (((l.getD (Int.toNat ((i:Nat):Int)) dm).b8) != 0)
 (rq ((decide (0<=((i:Nat):Int)))&&(decide (((i:Nat):Int)<(l.length:Int)))) (cond (((l.getD (Int.toNat ((i:Nat):Int)) dm).b8) != 1)
 (rq ((decide (0<=((i:Nat):Int)))&&(decide (((i:Nat):Int)<(l.length:Int)))) (some ([some (vL l),some (vH xs cap),some (vI ((i:Nat):Int)),some (vB (((l.getD (Int.toNat ((i:Nat):Int)) dm).b8) != 2))],[nR cap aF xs last],[gR aF],[],[])))
 (some ([some (vL l),some (vH xs cap),some (vI ((i:Nat):Int)),some (vB false)],[nR cap aF xs last],[gR aF],[],[]))))
 (some ([some (vL l),some (vH xs cap),some (vI ((i:Nat):Int)),some (vB false)],[nR cap aF xs last],[gR aF],[],[]))):=by kernel_rfl
set_option maxRecDepth 100000 in
theorem anP(l:J aH)(i cap aF:Nat)(xs:J (J aH))(last:J aH):cR (cB 11 1682) (.leaf) (SS (E:=E) 85 [(0,vL l),(3,vH xs cap),(4,vI ((i:Nat):Int))] [nR cap aF xs last] [gR aF]) [0,3,4,5]=some ([some (vL l),some (vH xs cap),some (vI ((i:Nat):Int)),some (vI 0)],[nR cap aF xs last],[gR aF],[],[]):=by kernel_rfl
set_option maxRecDepth 100000 in
theorem anQ(l:J aH)(i k cap aF:Nat)(xs:J (J aH))(last:J aH):cR (cB 15 26928) (.leaf) (SS (E:=E) 85 [(0,vL l),(3,vH xs cap),(4,vI ((i:Nat):Int)),(5,vI ((k:Nat):Int))] [nR cap aF xs last] [gR aF]) [0,3,4,5,42]=rq ((decide (0<=((i:Nat):Int)))&&(decide (((i:Nat):Int)<(l.length:Int)))) (some ([some (vL l),some (vH xs cap),some (vI ((i:Nat):Int)),some (vI ((k:Nat):Int)),some (vB (decide (((k:Nat):Int)<(((l.getD (Int.toNat ((i:Nat):Int)) dm).fText).length:Int))))],[nR cap aF xs last],[gR aF],[],[])):=by kernel_rfl
set_option maxRecDepth 100000 in
theorem anR(l:J aH)(i k cap aF:Nat)(xs:J (J aH))(last:J aH):cR (cB 17 107720) (.leaf) (SS (E:=E) 85 [(0,vL l),(3,vH xs cap),(4,vI ((i:Nat):Int)),(5,vI ((k:Nat):Int))] [nR cap aF xs last] [gR aF]) [0,3,4,5,52]=rq ((decide (0<=((i:Nat):Int)))&&(decide (((i:Nat):Int)<(l.length:Int)))) (rq ((decide (0<=((k:Nat):Int)))&&(decide (((k:Nat):Int)<(((l.getD (Int.toNat ((i:Nat):Int)) dm).fText).length:Int)))) (some ([some (vL l),some (vH xs cap),some (vI ((i:Nat):Int)),some (vI ((k:Nat):Int)),some (vB (((((l.getD (Int.toNat ((i:Nat):Int)) dm).fText).getD (Int.toNat ((k:Nat):Int)) 0).toNat:Int)==47))],[nR cap aF xs last],[gR aF],[],[]))):=by kernel_rfl
set_option maxRecDepth 100000 in
theorem al0(l:J aH)(i k cap aF:Nat)(xs:J (J aH))(last:J aH):cR (cB 18 215443) (.eX [0] [28] [⟨[(0,true),(1,true),(2,true),(3,true),(4,true),(5,true),(6,true),(7,true),(8,true),(9,true),(10,true),(11,true),(12,true),(13,true),(14,true),(15,true),(16,true),(17,true),(18,true),(19,true),(20,true),(21,true),(22,true),(23,true),(24,true),(25,false),(26,false),(27,false),(28,false)],none⟩]) (SS (E:=E) 85 [(0,vL l),(3,vH xs cap),(4,vI ((i:Nat):Int)),(5,vI ((k:Nat):Int))] [nR cap aF xs last] [gR aF]) [0,3,4,5]=rq ((decide (0<=aB (((xs.length+1:Nat):Int)-1)))&&(decide (aB (((xs.length+1:Nat):Int)-1)<((xs.length+1:Nat):Int)))) (rq (Nat.beq (Int.toNat (aB (((xs.length+1:Nat):Int)-1))) xs.length) (rq ((decide (0<=((i:Nat):Int)))&&(decide (((i:Nat):Int)<(l.length:Int)))) (rq ((decide (0<=((k:Nat):Int)))&&((decide (((k:Nat):Int)<=aB (((k:Nat):Int)+1)))&&(decide (aB (((k:Nat):Int)+1)<=(((l.getD (Int.toNat ((i:Nat):Int)) dm).fText).length:Int))))) (rq ((decide (0<=((i:Nat):Int)))&&(decide (((i:Nat):Int)<(l.length:Int)))) (rq ((Nat.beq aF aF)&&((decide (last.length+([(aH.mk (sl ((l.getD (Int.toNat ((i:Nat):Int)) dm).fText) ((k:Nat):Int) (aB (((k:Nat):Int)+1))) ((l.getD (Int.toNat ((i:Nat):Int)) dm).b8))]:J aH).length<=9223372036854775807))&&(decide ((last.length+([(aH.mk (sl ((l.getD (Int.toNat ((i:Nat):Int)) dm).fText) ((k:Nat):Int) (aB (((k:Nat):Int)+1))) ((l.getD (Int.toNat ((i:Nat):Int)) dm).b8))]:J aH).length)*24<=140737488355328)))) (rq ((decide (0<=aB (((xs.length+1:Nat):Int)-1)))&&(decide (aB (((xs.length+1:Nat):Int)-1)<((xs.length+1:Nat):Int)))) (rq (Nat.beq (Int.toNat (aB (((xs.length+1:Nat):Int)-1))) xs.length) (some ([some (vL l),some (vH xs cap),some (vI ((i:Nat):Int)),some (vI ((k:Nat):Int))],[.kU 81 cap (.aZ (.ext 17)) xs (.cj 0 (aF+1) (.ext 17) (last++([(aH.mk (sl ((l.getD (Int.toNat ((i:Nat):Int)) dm).fText) ((k:Nat):Int) (aB (((k:Nat):Int)+1))) ((l.getD (Int.toNat ((i:Nat):Int)) dm).b8))]:J aH)))],[⟨aF+1,118,2⟩,⟨0,118,2⟩],[],[]))))))))):=by kernel_rfl
set_option maxRecDepth 100000 in
theorem anS(l:J aH)(i k cap aF:Nat)(xs:J (J aH))(last:J aH):cR (cB 15 26931) (.leaf) (SS (E:=E) 85 [(0,vL l),(3,vH xs cap),(4,vI ((i:Nat):Int)),(5,vI ((k:Nat):Int))] [nR cap aF xs last] [gR aF]) [0,3,4,5]=some ([some (vL l),some (vH xs cap),some (vI ((i:Nat):Int)),some (vI (aB (((k:Nat):Int)+1)))],[nR cap aF xs last],[gR aF],[],[]):=by kernel_rfl
set_option maxRecDepth 100000 in
theorem anT(l:J aH)(i cap aF:Nat)(xs:J (J aH))(last:J aH):cR (cB 8 211) (.leaf) (SS (E:=E) 85 [(0,vL l),(3,vH xs cap),(4,vI ((i:Nat):Int))] [nR cap aF xs last] [gR aF]) [0,3,4]=some ([some (vL l),some (vH xs cap),some (vI (aB (((i:Nat):Int)+1)))],[nR cap aF xs last],[gR aF],[],[]):=by kernel_rfl
set_option maxRecDepth 100000 in
theorem al1(l:J aH)(i cap aF:Nat)(xs:J (J aH))(last:J aH):cR (cB 4 14) (.leaf) (SS (E:=E) 85 [(0,vL l),(3,vH xs cap),(4,vI ((i:Nat):Int))] [nR cap aF xs last] [gR aF]) [0,2]=some ([some (vL l),some (vH xs cap)],[nR cap aF xs last],[gR aF],[],[]):=by kernel_rfl
def mh(c:Int)(o:J (J aH)×J aH)(b:UInt8):J (J aH)×J aH:=cond (b==47) (o.1++[o.2],[]) (o.1,o.2++[aH.mk [b] c])
def zg(o:J (J aH)×J aH)(r:aH):J (J aH)×J aH:=cond (r.b8 != 0&&(r.b8 != 1&&r.b8 != 2)) o (r.fText.foldl (mh r.b8) o)
def fY(l:J aH):J (J aH)×J aH:=l.foldl zg ([],[])
def zh(l:J aH):J (J aH):=(fY l).1++[(fY l).2]
def cz(l:J aH):Nat:=(l.map fun r=>r.fText.length).sum
def RX(F:Nat)(l:J aH):O (J (J aH)):=rq (decide (l.length<=1000000000)&&decide (cz l<=1000000000)) (some (zh l))
def FH(o:J (J aH)×J aH):Nat:=o.1.length+o.2.length
theorem ahF(c:Int)(o:J (J aH)×J aH)(b:UInt8):FH (mh c o b)<=FH o+1:=by
 unfold mh FH;cases (b==47)<;>simp<;>omega
theorem QB(c:Int):∀(t:Bs)(o:J (J aH)×J aH),FH (t.foldl (mh c) o)<=FH o+t.length
 | [],o=>by simp
 | b::t,o=>by
  have h1:=QB c t (mh c o b);have h2:=ahF c o b;simp only [Dk,Bh];omega
theorem ahG(o:J (J aH)×J aH)(r:aH):FH (zg o r)<=FH o+r.fText.length:=by
 unfold zg;cases (r.b8 != 0&&(r.b8 != 1&&r.b8 != 2))
 ·exact QB _ _ _
 ·simp
theorem QC:∀(l:J aH)(o:J (J aH)×J aH),FH (l.foldl zg o)<=FH o+cz l
 | [],o=>by simp [cz]
 | r::l,o=>by
  have h1:=QC l (zg o r);have h2:=ahG o r;simp only [Dk,cz,lD,XJ] at h1⊢;omega
theorem p7(l:J aH)(i:Nat)(h:i<l.length):cz (l.take (i+1))=cz (l.take i)+l[i].fText.length:=by
 unfold cz;rw [qB h,Kb,adq];simp
theorem tU(l:J aH)(i:Nat):cz (l.take i)<=cz l:=by
 unfold cz
 conv=>rhs;rw [<-Uh i l]
 rw [Kb,adq];omega
theorem RY(l:J aH)(i:Nat)(h:i<l.length):fY (l.take (i+1))=zg (fY (l.take i)) l[i]:=by
 unfold fY;rw [qB h,RE];rfl
theorem Ur(c:Int)(t:Bs)(o:J (J aH)×J aH)(k:Nat)(h:k<t.length):(t.take (k+1)).foldl (mh c) o=mh c ((t.take k).foldl (mh c) o) t[k]:=by
 rw [qB h,RE];rfl
abbrev gD:Ty:=.ext 17
theorem tw:(⟨Tryz.prog,Hr,[],[],none⟩:Cx E).Ok:=⟨Dl,gU,mixed,goN,PK⟩
def stI(l:J aH)(i:Nat)(o:J (J aH)×J aH)(cap aF:Nat):TS E:=SS (E:=E) 85 [(0,.dat (.aZ gD) l),(3,.gW 0 (o.1.length+1) cap),(4,.dat (.int .i64) ((i:Nat):Int))] [.kU 81 cap (.aZ gD) o.1 (.cj 0 aF gD o.2)] [⟨aF,118,2⟩]
def PM(l:J aH)(i k:Nat)(o:J (J aH)×J aH)(cap aF:Nat):TS E:=SS (E:=E) 85 [(0,.dat (.aZ gD) l),(3,.gW 0 (o.1.length+1) cap),(4,.dat (.int .i64) ((i:Nat):Int)),(5,.dat (.int .i64) ((k:Nat):Int))] [.kU 81 cap (.aZ gD) o.1 (.cj 0 aF gD o.2)] [⟨aF,118,2⟩]
theorem X3{l:J aH}{i:Nat}(h:i<l.length):l.getD (Int.toNat (i:Int)) dm=l[i]:=by simp [List.getD,h]
theorem anU{l:Bs}{i:Nat}(h:i<l.length):l.getD (Int.toNat (i:Int)) 0=l[i]:=by simp [List.getD,h]
theorem RZ{i n:Nat}(h:i<n):(decide (0<=(i:Int))&&decide ((i:Int)<(n:Int)))=true:=by rw [dQ om,dQ om];rfl
section
variable {w0 : U} {G0 : aJ} {l : J aH}
theorem eIB:(cB 13 6732)=.seq (.seq (cB 15 26928) (.cond (.tmp 42) .skip (.exit 2))) (.seq (.block 3 (cB 16 53860)) (cB 15 26931)):=by kernel_rfl
theorem eB3:(cB 16 53860)=.seq (cB 17 107720) (.cond (.tmp 52) (cB 18 215442) (cB 18 215443)):=by kernel_rfl
theorem eB1:(cB 9 420)=.seq (.seq (cB 11 1680) (.cond (.tmp 34) (.exit 1) .skip)) (.seq (cB 11 1682) (.block 2 (.loop (cB 13 6732)))):=by kernel_rfl
theorem eOB:(cB 6 52)=.seq (.seq (cB 8 208) (.cond (.tmp 10) .skip (.exit 0))) (.seq (.block 1 (cB 9 420)) (cB 8 211)):=by kernel_rfl
theorem eC:(Tryz.f64.body.getD .skip)=.seq (cB 1 0) (.seq (cB 2 2) (.seq (.seq (cB 4 12) (.block 0 (.loop (cB 6 52)))) (.seq (cB 4 14) .ret))):=by kernel_rfl
theorem ahH(hi:G0.i=[])(hg:G0.g=[]){i k cap aF:Nat}{o:J (J aH)×J aH}(h1:i<l.length)(h2:k<l[i].fText.length)(h3:FH o<=1000000000)(h4:l[i].fText.length<=1000000000)(hb:(l[i].fText[k]==47)=false):
  AW Tryz.prog w0 G0 (cB 18 215443) (PM l i k o cap aF) (fun x s=>x=.normal/\∃cap' uQ,s=PM l i k (mh l[i].b8 o l[i].fText[k]) cap' uQ):=by
 have hw:=al0 l i k cap aF o.1 o.2;have hlx:o.1.length+o.2.length<=1000000000:=h3;have e1:aB (((o.1.length+1:Nat):Int)-1)=(o.1.length:Int):=by rw [bG om];omega
 have e2:(o.1.length:Int).toNat=o.1.length:=bK _
 rw [e1,e2,X3 h1,cJ om,cD (RZ (n:=o.1.length+1) om),cD (MF _),cD (RZ h1),CJ om om om,cD (RZ h1),
  cD (by rw [MF,dQ bE,dQ bE];rfl),cD (RZ (n:=o.1.length+1) om),cD (MF _)] at hw
 have PN:sl l[i].fText (k:Int) ((k+1:Nat):Int)=[l[i].fText[k]]:=by
  unfold sl;rw [bK,bK,qB h2,List.drop_left' (by rw [MC];omega)]
 rw [PN] at hw;intro a w G hr;refine wp_mono (AW.rt tw hi (m':=[(0,.dat (.aZ gD) l),(3,.gW 0 (o.1.length+1) cap),(4,.dat (.int .i64) ((i:Nat):Int)),(5,.dat (.int .i64) ((k:Nat):Int))]) hw a w G hr) fun e a' w' hp=>?_;obtain⟨x,s,G',he,hr',rfl,rfl⟩:=hp
 have hr2:=hr'.ahI hg (by
  intro p hp;simp only [iq,Bi,Bj] at hp;rcases hp with rfl|rfl|rfl|rfl
  ·exact .inl ⟨_,_,rfl⟩
  ·exact .inr ⟨_,_,_,rfl⟩
  ·exact .inl ⟨_,_,rfl⟩
  ·exact .inl ⟨_,_,rfl⟩)
 cases e<;>try (exact he.elim)
 refine⟨.normal,_,_,trivial,hr2,rfl,cap,aF+1,?_⟩;unfold mh PM;rw [hb];rfl
theorem ahJ(hi:G0.i=[]){i k cap aF:Nat}{o:J (J aH)×J aH}(h1:i<l.length)(h2:k<l[i].fText.length)(h3:FH o<=1000000000)(hb:(l[i].fText[k]==47)=true):
  AW Tryz.prog w0 G0 (cB 18 215442) (PM l i k o cap aF) (fun x s=>x=.normal/\∃cap' uQ,s=PM l i k (mh l[i].b8 o l[i].fText[k]) cap' uQ):=by
 have hlx:o.1.length+o.2.length<=1000000000:=h3
 have hw:=AW.ahK (w0:=w0) (G0:=G0) (P:=Tryz.prog) (c:=(cB 18 215442)) Dl (n:=85) (t:=93) (e:=81) (e2:=118) (j3:=3) (DQ:=53) (FI:=54) (MK:=55) kr kr (cl:={callee:=.builtin .append,args:=#[.tmp 53,.tmp 54],argTypes:=#[93,93]}) rfl rfl rfl
  (j1:=1) (j2:=24) (z:=.slice none 0 0) kr (ie:=⟨.slice 118,1,24,.slice none 0 0⟩) kr rfl rfl gD (m0:=[(0,.dat (.aZ gD) l),(4,.dat (.int .i64) ((i:Nat):Int)),(5,.dat (.int .i64) ((k:Nat):Int))]) (by
   intro p hp;simp only [iq,Bi,Bj] at hp;rcases hp with rfl|rfl|rfl<;>exact⟨_,_,rfl⟩) ⟨om,om,om,om⟩ hi (cap:=cap) (aF:=aF) (xs:=o.1) (last:=o.2) rfl (by show (o.1.length+2)*24<=_;omega) (by show o.1.length+2<=_;omega) (by
   intro c' p hp;simp only [wW,pY,iq,Bi,Bj] at hp;rcases hp with rfl|rfl|rfl|rfl<;>rfl) (by
   intro p hp;simp only [iq,Bi,Bj] at hp;rcases hp with rfl|rfl|rfl<;>rfl)
 refine AW.sub hi (m':=[(0,.dat (.aZ gD) l),(4,.dat (.int .i64) ((i:Nat):Int)),(5,.dat (.int .i64) ((k:Nat):Int))]++[(3,.gW 0 (o.1.length+1) cap)]) (by
   intro p hp;simp only [wW,pY,iq,Bi,Bj] at hp;rcases hp with rfl|rfl|rfl|rfl<;>rfl) ?_
 intro a w G hr;refine wp_mono (hw a w G hr) fun e a' w' hp=>?_;obtain⟨x,s,G',he,hr',rfl,c',rfl⟩:=hp;have hs:mh l[i].b8 o l[i].fText[k]=(o.1++[o.2],[]):=by unfold mh;rw [hb];rfl
 have hr2:=hr'.apb hi (m':=[(0,.dat (.aZ gD) l),(3,.gW 0 (o.1.length+2) c'),(4,.dat (.int .i64) ((i:Nat):Int)),(5,.dat (.int .i64) ((k:Nat):Int))]) (by
   intro p hp;simp only [iq,Bi,Bj] at hp;rcases hp with rfl|rfl|rfl|rfl<;>rfl)
 cases e<;>try (exact he.elim)
 refine⟨.normal,_,_,trivial,hr2,rfl,c',aF+1,?_⟩;rw [hs];unfold PM;simp only [ug,Bh,Ka];rfl
theorem akr(hi:G0.i=[])(hg:G0.g=[]){i k cap aF:Nat}{o:J (J aH)×J aH}(h1:i<l.length)(h2:k<=l[i].fText.length)(h3:FH o<=1000000000)(h4:l[i].fText.length<=1000000000):
  AW Tryz.prog w0 G0 (cB 13 6732) (PM l i k o cap aF) (fun x s=>(x=.normal/\∃h:k<l[i].fText.length,∃cap' uQ,s=PM l i (k+1) (mh l[i].b8 o l[i].fText[k]) cap' uQ)\/(x=.exit 2/\k=l[i].fText.length/\s=stI l i o cap aF)):=by
 rw [eIB];refine AW.seq ?_;have hw7:=anQ l i k cap aF o.1 o.2;rw [cD (RZ h1),X3 h1] at hw7;refine AW.Dm (Q':=fun x s=>s=_) (AW.rt tw hi (m':=[(0,.dat (.aZ gD) l),(3,.gW 0 (o.1.length+1) cap),(4,.dat (.int .i64) ((i:Nat):Int)),(5,.dat (.int .i64) ((k:Nat):Int)),(42,.dat .bool (decide (((k:Nat):Int)<(l[i].fText.length:Int))))]) hw7) ?_;rintro _ rfl;refine AW.cond (b:=decide (((k:Nat):Int)<(l[i].fText.length:Int))) rfl ?_;by_cases hk:k<l[i].fText.length
 ·rw [dQ (show ((k:Nat):Int)<(l[i].fText.length:Int) by omega),if_pos rfl]
  refine AW.skip (.inl ⟨rfl,?_⟩);refine AW.Dm (Q':=fun x s=>∃cap' uQ,s=PM l i k (mh l[i].b8 o l[i].fText[k]) cap' uQ) ?_ ?_
  ·refine AW.block ?_
   rw [eB3];have hw9:=anR l i k cap aF o.1 o.2;rw [cD (RZ h1),X3 h1,cD (RZ hk),anU hk,qU _ 47 om] at hw9
   refine AW.sub hi (m':=[(0,.dat (.aZ gD) l),(3,.gW 0 (o.1.length+1) cap),(4,.dat (.int .i64) ((i:Nat):Int)),(5,.dat (.int .i64) ((k:Nat):Int))]) (by
    intro p hp;simp only [iq,Bi,Bj] at hp;rcases hp with rfl|rfl|rfl|rfl<;>rfl) ?_
   refine AW.Dm (Q':=fun x s=>s=_) (AW.rt tw hi (m':=[(0,.dat (.aZ gD) l),(3,.gW 0 (o.1.length+1) cap),(4,.dat (.int .i64) ((i:Nat):Int)),(5,.dat (.int .i64) ((k:Nat):Int)),(52,.dat .bool (l[i].fText[k]==47))]) hw9) ?_;rintro _ rfl;refine AW.cond (b:=(l[i].fText[k]==47)) rfl ?_
   refine AW.sub hi (m':=[(0,.dat (.aZ gD) l),(3,.gW 0 (o.1.length+1) cap),(4,.dat (.int .i64) ((i:Nat):Int)),(5,.dat (.int .i64) ((k:Nat):Int))]) (by
    intro p hp;simp only [iq,Bi,Bj] at hp;rcases hp with rfl|rfl|rfl|rfl<;>rfl) ?_
   cases hb:(l[i].fText[k]==47) with
   | true=>
    rw [if_pos rfl]
    exact (ahJ hi h1 hk h3 hb).mono fun x s hq=>.inr ⟨(fun e=>by rw [hq.1] at e;cases e),hq.1,hq.2⟩
   | false=>
    rw [if_neg de];exact (ahH hi hg h1 hk h3 h4 hb).mono fun x s hq=>.inr ⟨(fun e=>by rw [hq.1] at e;cases e),hq.1,hq.2⟩
  ·rintro _ ⟨cap',uQ,rfl⟩
   have hw8:=anS l i k cap' uQ (mh l[i].b8 o l[i].fText[k]).1 (mh l[i].b8 o l[i].fText[k]).2;rw [cJ om] at hw8;refine (AW.rt tw hi (m':=[(0,.dat (.aZ gD) l),(3,.gW 0 ((mh l[i].b8 o l[i].fText[k]).1.length+1) cap'),(4,.dat (.int .i64) ((i:Nat):Int)),(5,.dat (.int .i64) ((k+1:Nat):Int))]) hw8).mono ?_;rintro x s ⟨rfl,rfl⟩;exact .inl ⟨rfl,hk,cap',uQ,rfl⟩
 ·rw [sO (show ¬ ((k:Nat):Int)<(l[i].fText.length:Int) by omega),if_neg de]
  refine AW.sub hi (m':=[(0,.dat (.aZ gD) l),(3,.gW 0 (o.1.length+1) cap),(4,.dat (.int .i64) ((i:Nat):Int))]) (by
    intro p hp;simp only [iq,Bi,Bj] at hp;rcases hp with rfl|rfl|rfl<;>rfl) ?_
  exact AW.exit (.inr ⟨(fun e=>by cases e),.inr ⟨rfl,om,rfl⟩⟩)
theorem aks(hi:G0.i=[])(hg:G0.g=[]){i cap aF:Nat}(h1:i<l.length)(h3:cz l<=1000000000):
  AW Tryz.prog w0 G0 (.block 1 (cB 9 420)) (stI l i (fY (l.take i)) cap aF) (fun x s=>x=.normal/\∃cap' uQ,s=stI l i (fY (l.take (i+1))) cap' uQ):=by
 have hsz:=p7 l i h1;have hle:=tU l (i+1);have hO:FH (fY (l.take i))<=cz (l.take i):=by have:=QC (l.take i) ([],[]);simpa [fY,FH] using this
 have h4:l[i].fText.length<=1000000000:=om;refine AW.block ?_;rw [eB1];refine AW.seq ?_;have hw5:=anO l i cap aF (fY (l.take i)).1 (fY (l.take i)).2;rw [cD (RZ h1),X3 h1] at hw5;simp only [cD (RZ h1)] at hw5;obtain⟨b,hb⟩:∃b,b=(l[i].b8 != 0&&(l[i].b8 != 1&&l[i].b8 != 2)):=⟨_,rfl⟩;refine AW.Dm (Q':=fun x s=>s=_) (AW.rt tw hi (m':=[(0,.dat (.aZ gD) l),(3,.gW 0 ((fY (l.take i)).1.length+1) cap),(4,.dat (.int .i64) ((i:Nat):Int)),(34,.dat .bool b)]) (H':=[.kU 81 cap (.aZ gD) (fY (l.take i)).1 (.cj 0 aF gD (fY (l.take i)).2)]) (g':=[⟨aF,118,2⟩]) (hw5.trans ?_)) ?_
 ·rw [hb]
  cases (l[i].b8 != 0)
  ·rfl
  ·cases (l[i].b8 != 1)
   ·rfl
   ·rfl
 rintro _ rfl;refine AW.cond (b:=b) rfl ?_
 refine AW.sub hi (m':=[(0,.dat (.aZ gD) l),(3,.gW 0 ((fY (l.take i)).1.length+1) cap),(4,.dat (.int .i64) ((i:Nat):Int))]) (by
   intro p hp;simp only [iq,Bi,Bj] at hp;rcases hp with rfl|rfl|rfl<;>rfl) ?_
 cases hbb:b with
 | true=>
  rw [if_pos rfl];refine AW.exit (.inr ⟨(fun e=>by cases e),.inl ⟨rfl,rfl,cap,aF,?_⟩⟩);rw [RY l i h1];unfold zg;rw [<-hb,hbb]
  rfl
 | false=>
  rw [if_neg de];refine AW.skip (.inl ⟨rfl,?_⟩);have hw6:=anP l i cap aF (fY (l.take i)).1 (fY (l.take i)).2;refine AW.Dm (Q':=fun x s=>s=_) (AW.rt tw hi (m':=[(0,.dat (.aZ gD) l),(3,.gW 0 ((fY (l.take i)).1.length+1) cap),(4,.dat (.int .i64) ((i:Nat):Int)),(5,.dat (.int .i64) 0)]) hw6) ?_;rintro _ rfl;refine AW.block ?_;refine AW.loop (ι:=Nat×Nat×Nat) (fun x=>PM l i x.1 ((l[i].fText.take x.1).foldl (mh l[i].b8) (fY (l.take i))) x.2.1 x.2.2) (fun x=>x.1<=l[i].fText.length) (fun x=>l[i].fText.length-x.1) (0,cap,aF) (fO _) rfl ?_;rintro⟨k,apc,apd⟩ hk;dsimp only at hk⊢
  refine (akr hi hg h1 hk (by
   have:=QB l[i].b8 (l[i].fText.take k) (fY (l.take i));have h5:(l[i].fText.take k).length<=l[i].fText.length:=by rw [MC];omega
   omega) h4).mono ?_
  rintro x s (⟨rfl,hlt,cap',uQ,rfl⟩|⟨rfl,hke,rfl⟩)
  ·exact .inl ⟨rfl,(k+1,cap',uQ),hlt,by dsimp only;omega,by rw [Ur _ _ _ _ hlt]⟩
  ·subst hke
   refine .inr ⟨fun e=>(by cases e),.inl ⟨rfl,.inr ⟨fun e=>(by cases e),rfl,apc,apd,?_⟩⟩⟩;rw [RY l i h1,Bl];unfold zg;rw [<-hb,hbb];rfl
theorem ahL(hi:G0.i=[])(hg:G0.g=[])(h2:l.length<=1000000000)(h3:cz l<=1000000000):
  AW Tryz.prog w0 G0 (Tryz.f64.body.getD .skip) (SS (E:=E) 85 [(0,.dat (.aZ gD) l)] [] []) (fun x s=>x=.ret/\∃cap aF,s=SS (E:=E) 85 [(0,.dat (.aZ gD) l),(2,.gW 0 ((fY l).1.length+1) cap)] [.kU 81 cap (.aZ gD) (fY l).1 (.cj 0 aF gD (fY l).2)] [⟨aF,118,2⟩]):=by
 rw [eC];refine AW.Dm (Q':=fun x s=>s=_) (AW.rt tw hi (m':=[(0,.dat (.aZ gD) l)]) (anL l)) ?_;rintro _ rfl
 refine AW.Dm (Q':=fun x s=>s=_) (AW.al2 (c:=(cB 2 2)) (n:=85) (t:=93) (e:=81) 118 (j3:=3) (j6:=6) kr kr (j1:=1) (j2:=24) (z:=.slice none 0 0) kr (ie:=⟨.slice 118,1,24,.slice none 0 0⟩) kr rfl gD
  (m':=[(0,.dat (.aZ gD) l),(3,.gW 0 1 1)]) om hi (by
   intro p hp;simp only [iq,Bi,Bj] at hp;rcases hp with rfl|rfl<;>rfl)) ?_
 rintro _ rfl;refine AW.Dm (Q':=fun x s=>∃cap aF,s=stI l l.length (fY l) cap aF) ?_ ?_
 ·refine AW.Dm (Q':=fun x s=>s=stI l 0 (fY (l.take 0)) 1 0) ((AW.rt tw hi (m':=[(0,.dat (.aZ gD) l),(3,.gW 0 1 1),(4,.dat (.int .i64) 0)]) (anM l 1 0 [] [])).mono fun x s hq=>hq) ?_
  rintro _ rfl;refine AW.block ?_;refine AW.loop (ι:=Nat×Nat×Nat) (fun x=>stI l x.1 (fY (l.take x.1)) x.2.1 x.2.2) (fun x=>x.1<=l.length) (fun x=>l.length-x.1) (0,1,0) (fO _) rfl ?_;rintro⟨i,cap,aF⟩ hil;dsimp only at hil⊢;rw [eOB];refine AW.seq ?_;refine AW.Dm (Q':=fun x s=>s=_) (AW.rt tw hi (m':=[(0,.dat (.aZ gD) l),(3,.gW 0 ((fY (l.take i)).1.length+1) cap),(4,.dat (.int .i64) ((i:Nat):Int)),(10,.dat .bool (decide (((i:Nat):Int)<(l.length:Int))))]) (anN l i cap aF (fY (l.take i)).1 (fY (l.take i)).2)) ?_;rintro _ rfl;refine AW.cond (b:=decide (((i:Nat):Int)<(l.length:Int))) rfl ?_
  refine AW.sub hi (m':=[(0,.dat (.aZ gD) l),(3,.gW 0 ((fY (l.take i)).1.length+1) cap),(4,.dat (.int .i64) ((i:Nat):Int))]) (by
   intro p hp;simp only [iq,Bi,Bj] at hp;rcases hp with rfl|rfl|rfl<;>rfl) ?_
  by_cases h1:i<l.length
  ·rw [dQ (show ((i:Nat):Int)<(l.length:Int) by omega),if_pos rfl]
   refine AW.skip (.inl ⟨rfl,?_⟩);refine AW.Dm (aks hi hg h1 h3) ?_;rintro _ ⟨cap',uQ,rfl⟩;have hw4:=anT l i cap' uQ (fY (l.take (i+1))).1 (fY (l.take (i+1))).2;rw [cJ om] at hw4;refine (AW.rt tw hi (m':=[(0,.dat (.aZ gD) l),(3,.gW 0 ((fY (l.take (i+1))).1.length+1) cap'),(4,.dat (.int .i64) ((i+1:Nat):Int))]) hw4).mono ?_;rintro x s ⟨rfl,rfl⟩;exact .inl ⟨rfl,(i+1,cap',uQ),h1,by dsimp only;omega,rfl⟩
  ·rw [sO (show ¬ ((i:Nat):Int)<(l.length:Int) by omega),if_neg de]
   obtain rfl:i=l.length:=om;refine AW.exit (.inr ⟨fun e=>(by cases e),.inr ⟨fun e=>(by cases e),.inl ⟨rfl,rfl,cap,aF,?_⟩⟩⟩);rw [Bl];rfl
 ·rintro _ ⟨cap,aF,rfl⟩
  refine AW.Dm (Q':=fun x s=>s=_) (AW.rt tw hi (m':=[(0,.dat (.aZ gD) l),(2,.gW 0 ((fY l).1.length+1) cap)]) (al1 l l.length cap aF (fY l).1 (fY l).2)) ?_;rintro _ rfl;exact AW.ret ⟨rfl,cap,aF,rfl⟩
end
def ajT(E:TEnv)(ix:Nat)(f:FuncId)(F:Nat)(m:Nat->J ((Ty.ext ix).den E.D)->O (J (J ((Ty.ext ix).den E.D)))):bB E:=⟨⟨f,[.one (.dat (.aZ (.ext ix)))],[],[],⟨.one (.dat (.aZ (.aZ (.ext ix)))),[],[],[]⟩,none,[]⟩,fun (x:J ((Ty.ext ix).den E.D))=>m F x⟩
set_option maxRecDepth 100000 in
theorem akt(F:Nat):(ajT E 17 64 F RX).Ok Tryz.prog:=by
 have key:∀(l:J aH)(y:J (J aH)),RX F l=some y->kV (E:=E) Tryz.prog 64 [.dat (.aZ gD) l] [] [] [] ⟨true,.dat (.aZ (.aZ gD)) y,[],[],[],[]⟩:=by
  intro l y hy;obtain⟨h1,h2⟩:=dG hy;rw [cx,fX,fX] at h1;cases h2;intro w G args hP hB hS hV;have hi:G.i=[]:=Dj hB.len;have hg:G.g=[]:=by have:=hB.gs;simpa using this
  have FJ:=Rel.Kg (n:=Tryz.f64.ntmps) hP hB hS hV;have hb:Tryz.f64.body=some (Tryz.f64.body.getD .skip):=by kernel_rfl
  refine sP Tryz.func64 hb kr (calls_of_wp Tryz.func64 hb ?_);have eM:Rel E w G (SS (E:=E) 85 [(0,.dat (.aZ gD) l)] [] []) _ w G:=FJ;refine wp_mono (ahL (l:=l) hi hg h1.1 h1.2 _ w G eM) fun e a' w' hp=>?_;obtain⟨x,s,G',he,hr,rfl,cap,aF,rfl⟩:=hp
  have Iz:a'.defers=[]:=by
   have:=hr.defers
   cases hd:a'.defers with
   | nil=>rfl
   | cons d ds=>rw [hd] at this;exact this.elim
  obtain⟨v,hv,hrun⟩:=zi (fn:=Tryz.f64) tw hr (ds:=[.gW 0 ((fY l).1.length+1) cap]) kr;obtain⟨G2,q1,q2,q3,q4⟩:=aku (j:=2) hr hi hg rfl;cases e<;>try (exact he.elim)
  have Lv:v=a'.tmps.getD 2 undef:=by
   have h3:=hr.tmps 2 (.gW 0 ((fY l).1.length+1) cap) rfl;simp only [p8,VT] at hv h3;obtain⟨b,uy,xj⟩:=hv;obtain⟨b',qh,o5⟩:=h3;rw [xj] at o5;cases o5;rw [uy,qh]
  subst Lv;exact⟨Iz,_,hrun,_,G2,rfl,q1,q2,q3,q4,fun q b hq=>by rw [hi] at hq;cases hq⟩
 intro x y hy;exact key x y hy
end Go.Proofs.YthmndfnkdgmenaaGreatDoor
