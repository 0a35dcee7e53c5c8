import Derived.Test.YtkeibjejncpgnaaGreatDoorTy
import Derived.Test.YtkeibjejncpgnaaGreatDoorRk
import Derived.Test.YtkeibjejncpgnaaGreatDoorSo
set_option linter.all false
namespace Go.Proofs.YtkeibjejncpgnaaGreatDoor
open Go.RT
set_option maxRecDepth 100000
noncomputable section
def u9:=ibF
def L7 (F:Nat):an E:=ibC E 351 F
theorem Jt (F:Nat):(L7 F).Ok Tryz.prog:=al0 (fun args w=>run_callFunc_extern Tryz.func351 kr kr kr (e:=Extern.BytealgIndexByte.indexByte) kr args w) F
def abc (F:Nat):an E:=⟨⟨213,[.one (.dat .str)],[],[],⟨.one (.any),[],[],[]⟩,none,[]⟩,fun _=>none⟩
theorem Ju (F:Nat):(abc F).Ok Tryz.prog:=fun x y h=>nomatch (show none=some y from h)
def stringslite_IndexByte (F:Nat)  (a0:Bs) (a1:Int):Option Int :=
 (u9 F a0 a1).bind fun x1 =>
 some x1
def CK:bL:=⟨297,[.one (.dat .str),.one (.dat (.int .u8))],[],[],⟨.one (.dat (.int .i64)),[],[],[]⟩,none,[]⟩
def CM:dc:=.leaf
def CN (F:Nat):an E:=⟨CK,fun (x:Bs × Int)=>stringslite_IndexByte F x.1 x.2⟩
theorem qG (F:Nat):(CN F).Ok pg:=aD F CM (aj (Jt F) (aA)) Tryz.func297 kr fun x=>by kernel_rfl
def strings_IndexByte (F:Nat)  (a0:Bs) (a1:Int):Option Int :=
 (stringslite_IndexByte F a0 a1).bind fun x1 =>
 some x1
def IB:bL:=⟨327,[.one (.dat .str),.one (.dat (.int .u8))],[],[],⟨.one (.dat (.int .i64)),[],[],[]⟩,none,[]⟩
def IC:dc:=.leaf
def ID (F:Nat):an E:=⟨IB,fun (x:Bs × Int)=>strings_IndexByte F x.1 x.2⟩
theorem oD (F:Nat):(ID F).Ok pg:=aD F IC (aj (qG F) (aA)) Tryz.func327 kr fun x=>by kernel_rfl
def nt (F:Nat)  (a0:Int):Option Bool :=
 (cond (decide (0≤a0))
 (some (decide (a0<55296)))
 (some false):Option Bool).bind fun x1 =>
 cond x1
 (some true)
 ((cond (decide (57343<a0))
 (some (decide (a0≤1114111)))
 (some false):Option Bool).bind fun x2 =>
 cond x2
 (some true)
 (some false))
def NL:bL:=⟨350,[.one (.dat (.int .i32))],[],[],⟨.one (.dat .bool),[],[],[]⟩,none,[]⟩
def NM:dc:=qa (qs (qs (.region [(6,⟨[(9,.one (.dat .bool))],[],[],[]⟩,false)]) (.cond lf (qs (.region [(6,⟨[(16,.one (.dat .bool))],[],[],[]⟩,false)]) lf))) lf)
def NN (F:Nat):an E:=⟨NL,fun (x:Int)=>nt F x⟩
theorem L8 (F:Nat):(NN F).Ok pg:=aD F NM aA Tryz.func350 kr fun x=>by kernel_rfl
def fR (F:Nat)  (a0:Bs) (a1:Int):Option Int :=
 (cond (decide (0≤a1))
 (some (decide (a1<128)))
 (some false):Option Bool).bind fun x1 =>
 cond x1
 ((strings_IndexByte F a0 (IntKind.wrap .u8 a1)).bind fun x2 =>
 some x2)
 (cond (a1==65533)
 (aF (σ:=Bs × Int) (R:=Int) (fun iX x3 =>
 cond (Nat.blt (Int.toNat x3.2) x3.1.length)
 (cond (((dec x3.1 (Int.toNat x3.2)).1:Int)==65533)
 (some (((Int.toNat x3.2):Nat):Int))
 (iX (x3.1,((((Int.toNat x3.2)+(dec x3.1 (Int.toNat x3.2)).2):Nat):Int))))
 (some (-1))) F (a0,((0:Nat):Int)))
 ((nt F a1).bind fun x5 =>
 cond (!x5)
 (some (-1))
 (aF (σ:=Int) (R:=Int) (fun uC x6 =>
 cond (decide (x6<(a0.length:Int)))
 (jj (σ:=Int) (R:=Int) (rq ((decide (0≤x6))&&(decide (x6<(a0.length:Int)))) (rq ((decide (0≤ag (((cU a1).length:Int) - 1)))&&(decide (ag (((cU a1).length:Int) - 1)<((cU a1).length:Int)))) (cond (((a0.getD (Int.toNat x6) 0).toNat:Int) != (((cU a1).getD (Int.toNat (ag (((cU a1).length:Int) - 1))) 0).toNat:Int))
 (rq ((decide (0≤ag (x6+1)))&&((decide (ag (x6+1)≤(a0.length:Int)))&&(decide ((a0.length:Int)≤(a0.length:Int))))) (rq ((decide (0≤ag (((cU a1).length:Int) - 1)))&&(decide (ag (((cU a1).length:Int) - 1)<((cU a1).length:Int)))) ((strings_IndexByte F (sl a0 (ag (x6+1)) (a0.length:Int)) (((cU a1).getD (Int.toNat (ag (((cU a1).length:Int) - 1))) 0).toNat:Int)).bind fun x9 =>
 cond (decide (x9<0))
 (some (.inr (-1)))
 (some (.inl (ag (x6+(ag (x9+1)))))))))
 (some (.inl x6))))) fun x8 =>
 aF (σ:=Int) (R:=Int) (fun adM aW =>
 cond (decide (aW<((cU a1).length:Int)))
 (rq ((decide (0≤ag (x8 - aW)))&&(decide (ag (x8 - aW)<(a0.length:Int)))) (rq ((decide (0≤ag ((ag (((cU a1).length:Int) - 1)) - aW)))&&(decide (ag ((ag (((cU a1).length:Int) - 1)) - aW)<((cU a1).length:Int)))) (cond (((a0.getD (Int.toNat (ag (x8 - aW))) 0).toNat:Int) != (((cU a1).getD (Int.toNat (ag ((ag (((cU a1).length:Int) - 1)) - aW))) 0).toNat:Int))
 (none)
 (adM (ag (aW+1))))))
 (some (ag (x8 - (ag (((cU a1).length:Int) - 1)))))) F 1)
 (some (-1))) F (ag (((cU a1).length:Int) - 1)))))
def IE:bL:=⟨295,[.one (.dat .str),.one (.dat (.int .i32))],[],[],⟨.one (.dat (.int .i64)),[],[],[]⟩,none,[]⟩
def IG:dc:=qa (qs (.region [(6,⟨[(166,.one (.dat .bool))],[],[],[]⟩,false)]) (.cond lf (qa (.cond (qs (qa (.loop [] ⟨[],[some (.iter)],[],[]⟩ lf)) lf) (qa (.cond lf (qa (qa (qa (qa (qs (.loop [] ⟨[(9,.one (.dat (.int .i64)))],[],[],[]⟩ (qa (.seq [] (some (⟨[(9,.one (.dat (.int .i64)))],[],[],[]⟩,true)) (qs (.draw [⟨true,7,none⟩]) (.cond (qs (.draw [⟨true,7,none⟩,⟨false,2,none⟩]) lf) lf)) (qs (qa (.loop [] ⟨[(12,.one (.dat (.int .i64)))],[],[],[]⟩ (qa (qs (qs (.draw [⟨true,11,none⟩]) lf) lf)))) lf)))) lf)))))))))))
def II (F:Nat):an E:=⟨IE,fun (x:Bs × Int)=>fR F x.1 x.2⟩
theorem Gq (F:Nat):(II F).Ok pg:=aD F IG (aj (oD F) (aj (L8 F) (aA))) Tryz.func295 kr fun x=>by kernel_rfl
def strings_shouldUseASCIISet (F:Nat)  (a0:Int):Option Bool :=
 some (decide (8<a0))
def yV:bL:=⟨296,[.one (.dat (.int .i64))],[],[],⟨.one (.dat .bool),[],[],[]⟩,none,[]⟩
def yW:dc:=.leaf
def yX (F:Nat):an E:=⟨yV,fun (x:Int)=>strings_shouldUseASCIISet F x⟩
theorem xy (F:Nat):(yX F).Ok pg:=aD F yW aA Tryz.func296 kr fun x=>by kernel_rfl
def strings_IndexAny (F:Nat)  (a0:Bs) (a1:Bs):Option Int :=
 cond (a1==[])
 (some (-1))
 (cond ((a1.length:Int)==1)
 (rq (decide (0<(a1.length:Int))) ((cond (decide (128≤IntKind.wrap .i32 ((a1.getD 0 0).toNat:Int)))
 (some 65533)
 (some (IntKind.wrap .i32 ((a1.getD 0 0).toNat:Int))):Option Int).bind fun x1 =>
 (fR F a0 x1).bind fun x2 =>
 some x2))
 ((strings_shouldUseASCIISet F (a0.length:Int)).bind fun x3 =>
 cond x3
 (none)
 (aF (σ:=Bs × Int) (R:=Int) (fun tg x4 =>
 cond (Nat.blt (Int.toNat x4.2) x4.1.length)
 ((fR F a1 ((dec x4.1 (Int.toNat x4.2)).1:Int)).bind fun x6 =>
 cond (decide (0≤x6))
 (some (((Int.toNat x4.2):Nat):Int))
 (tg (x4.1,((((Int.toNat x4.2)+(dec x4.1 (Int.toNat x4.2)).2):Nat):Int))))
 (some (-1))) F (a0,((0:Nat):Int)))))
def Jv:bL:=⟨234,[.one (.dat .str),.one (.dat .str)],[],[],⟨.one (.dat (.int .i64)),[],[],[]⟩,none,[]⟩
def Jw:dc:=qa (qa (qs (qa (.cond (qa (.seq [] (some (⟨[(5,.one (.dat (.int .i32)))],[],[],[]⟩,false)) lf lf)) lf)) (qa (qs (qa (.loop [] ⟨[],[some (.iter)],[],[]⟩ lf)) lf))))
def Jx (F:Nat):an E:=⟨Jv,fun (x:Bs × Bs)=>strings_IndexAny F x.1 x.2⟩
theorem IJ (F:Nat):(Jx F).Ok pg:=aD F Jw (aj (Gq F) (aj (xy F) (aj (Ju F) (aA)))) Tryz.func234 kr fun x=>by kernel_rfl
end
open Go.RT Go.RowKit Go.Maps Go.Sort Go.Shelf
open Go.Proofs (encStr)
theorem akg:Builder.Extra Tryz.prog Tryz.US:={
 sizeBuilder:=by kernel_rfl
 liesBuilder:=by kernel_rfl
 t5:=Tryz.underlying5
 a5:=Tryz.isAgg5
 z5:=Tryz.sizeOf5
 v5:=Tryz.zeroValue5
 infoByte:=by kernel_rfl
 cellsByte:=by kernel_rfl
 sizeByte:=by kernel_rfl
 neB5:=by decide }
theorem afx:Yj Tryz.prog 65 :=
 ⟨mB Tryz.func65 kr kr,fun bk o c xs sep w h1 h2 h3 h4 h5=>Any.strings_Join Tryz.aiC akg bk o c xs sep w h1 h2 h3 h4 h5,fun a c sep w=>Any.strings_Join_none Tryz.aiC akg a c sep w⟩
theorem al1:aiD Tryz.prog 241 :=
 ⟨mB Tryz.func241 kr kr,fun s c w h=>Any.strings_LastIndexByte Tryz.anh s c h w⟩
theorem akh:afy Tryz.prog 68 :=
 ⟨mB Tryz.func68 kr kr,fun blk cap ss w h1 h2 h3=>AnyM.slices_Sort_string Tryz.XW blk 0 cap ss w h1 h2 h3,fun p cap w=>AnyM.slices_Sort_string_none Tryz.XW p cap w⟩
theorem UT {w:World} {G:au} (hP:kK E w G):∃m,w.cell? ⟨0,0,none⟩=some (.int .i64 m):=by
 obtain⟨cs,t,m,h1,n,h2⟩:=(hP 0 _ rfl).1;exact⟨n,by simp [World.cell?,h1,h2]⟩
theorem splitAt:acz E Tryz.prog 109 9 :=
 ⟨mB Tryz.func109 kr kr,fun s sep w G hP h1 h2=>by
  obtain⟨m,hm⟩:=UT hP;exact Any.strings_Split Tryz.aki kr s sep m w h1 hm h2,
  fun s sep h=>Lib.splitB_all sep h 0 _ s rfl,fun s sep h=>Lib.countB_le sep h s.size s (bM _)⟩
theorem cutAt:aiE E Tryz.prog 112 :=
 ⟨mB Tryz.func112 kr kr,fun s sep w G hP h=>by
  obtain⟨m,hm⟩:=UT hP;exact Any.strings_Cut Tryz.ani s sep m w h hm⟩
def Yk (F:Nat) (s cs:Bs):Option Int:=cond (Nat.ble s.length 8) (strings_IndexAny F s cs)
 (rq (decide (s.length<4294967281)&&(decide (2≤cs.length)&&(decide (cs.length<4294967281)&&cs.all fun b=>decide (b.toNat<128)))) (some (Lib.indexAny s cs)))
def akj (E:TEnv) (f:FuncId) (F:Nat):an E:=⟨⟨f,[.one (.dat .str),.one (.dat .str)],[],[],⟨.one (.dat (.int .i64)),[],[],[]⟩,none,[]⟩,fun (x:Bs × Bs)=>Yk F x.1 x.2⟩
set_option maxRecDepth 100000 in
theorem akk (F:Nat):(akj E 234 F).Ok Tryz.prog:=by
 have key:∀(s cs:Bs) (y:Int),Yk F s cs=some y→ia (E:=E) Tryz.prog 234 [.dat .str s,.dat .str cs] [] [] [] ⟨true,.dat (.int .i64) y,[],[],[],[]⟩:=by
  intro s cs y hy;unfold Yk at hy;cases hb:Nat.ble s.length 8<;>rw [hb] at hy<;>simp only [cond_true,cond_false] at hy
  ·obtain⟨h1,h2⟩:=b9 hy
   rw [aV,aV,aV,decide_eq_true_eq,decide_eq_true_eq,decide_eq_true_eq,nk] at h1;obtain⟨c1,c2,c3,c4⟩:=h1;cases h2
   have h8:8<s.length:=by
    rcases ur 8 s.length with h | h
    ·exact h
    ·rw [adK h] at hb;cases hb
   refine yq (mB Tryz.func234 kr kr) fun w G args hP hv=>⟨_,fun w G=>.int w G .i64 (Lib.indexAny s cs),?_⟩;obtain⟨u,us,ha,pF,kA⟩:=hv.cons_inv;obtain⟨u2,Dc,th,Af,qH⟩:=kA.cons_inv;have qH:Dc=[]:=by simpa only [aP] using qH
   have e1:=pF.ep;have e2:=Af.ep;subst e1 e2 qH th;have ha:args=#[mkStr s,mkStr cs]:=by apply nj;exact ha
   subst ha;have hz:=zero_of_info (P:=Tryz.prog) (t:=Tryz.acA.t 116) (v:=.agg (Array.replicate 256 (.bool false))) (n:=256) kr;refine (Any.strings_IndexAny_long Tryz.iaL hz.1 hz.2 ⟨⟨s⟩⟩ ⟨⟨cs⟩⟩ w c2 h8 c1 c3 fun j b hb=>by simpa using c4 b (ek hb)).mono fun e w' hh=>?_;obtain⟨q1,q2⟩:=hh;refine⟨q1,?_⟩;rw [q2];exact ((Below.refl _ _).alloc (bM _) _).alloc si _
  ·exact IJ F (s,cs) y hy
 intro x y hy;exact key x.1 x.2 y hy
def cP:Code→List Bool→Code
 | .seq a _,false::p=>cP a p
 | .seq _ b,true::p=>cP b p
 | .cond _ a _,false::p=>cP a p
 | .cond _ _ b,true::p=>cP b p
 | .block _ a,false::p=>cP a p
 | .loop a,false::p=>cP a p
 | c,_=>c
set_option maxRecDepth 100000 in
theorem al2 (l:List ah):Go.RT.runT (⟨Tryz.prog,tj,[],[],none⟩:Cx E) 0 (cP (Tryz.f50.body.getD .skip) [false]) (.leaf) (SS (E:=E) 85 [(0,.dat (.aG (.ext 17)) l)] [] []) (proj [0])=some ([some (.dat (.aG (.ext 17)) l)],[],[],[],[]):=by kernel_rfl
set_option maxRecDepth 100000 in
theorem al3 (l:List ah) (cap ai:Nat) (xs:List (List ah)) (last:List ah):Go.RT.runT (⟨Tryz.prog,tj,[],[],none⟩:Cx E) 0 (cP (Tryz.f50.body.getD .skip) [true,true,false,false]) (.leaf) (SS (E:=E) 85 [(0,.dat (.aG (.ext 17)) l),(3,.cI 0 (xs.length+1) cap)] [.dm 77 cap (.aG (.ext 17)) xs (.bn 0 ai (.ext 17) (last))] [⟨ai,114,2⟩]) (proj [0,3,4])=some ([some (.dat (.aG (.ext 17)) l),some (.cI 0 (xs.length+1) cap),some (.dat (.int .i64) 0)],[.dm 77 cap (.aG (.ext 17)) xs (.bn 0 ai (.ext 17) (last))],[⟨ai,114,2⟩],[],[]):=by kernel_rfl
set_option maxRecDepth 100000 in
theorem al4 (l:List ah) (i:Nat) (cap ai:Nat) (xs:List (List ah)) (last:List ah):Go.RT.runT (⟨Tryz.prog,tj,[],[],none⟩:Cx E) 0 (cP (Tryz.f50.body.getD .skip) [true,true,false,true,false,false,false,false]) (.leaf) (SS (E:=E) 85 [(0,.dat (.aG (.ext 17)) l),(3,.cI 0 (xs.length+1) cap),(4,.dat (.int .i64) ((i:Nat):Int))] [.dm 77 cap (.aG (.ext 17)) xs (.bn 0 ai (.ext 17) (last))] [⟨ai,114,2⟩]) (proj [0,3,4,10])=some ([some (.dat (.aG (.ext 17)) l),some (.cI 0 (xs.length+1) cap),some (.dat (.int .i64) ((i:Nat):Int)),some (.dat .bool (decide (((i:Nat):Int)<(l.length:Int))))],[.dm 77 cap (.aG (.ext 17)) xs (.bn 0 ai (.ext 17) (last))],[⟨ai,114,2⟩],[],[]):=by kernel_rfl
set_option maxRecDepth 100000 in
theorem al5 (l:List ah) (i:Nat) (cap ai:Nat) (xs:List (List ah)) (last:List ah):Go.RT.runT (⟨Tryz.prog,tj,[],[],none⟩:Cx E) 0 (cP (Tryz.f50.body.getD .skip) [true,true,false,true,false,false,true,false,false,false,false]) (.leaf) (SS (E:=E) 85 [(0,.dat (.aG (.ext 17)) l),(3,.cI 0 (xs.length+1) cap),(4,.dat (.int .i64) ((i:Nat):Int))] [.dm 77 cap (.aG (.ext 17)) xs (.bn 0 ai (.ext 17) (last))] [⟨ai,114,2⟩]) (proj [0,3,4,34])=rq ((decide (0≤((i:Nat):Int)))&&(decide (((i:Nat):Int)<(l.length:Int)))) (cond (((l.getD (Int.toNat ((i:Nat):Int)) aY).aC) != 0)
 (rq ((decide (0≤((i:Nat):Int)))&&(decide (((i:Nat):Int)<(l.length:Int)))) (cond (((l.getD (Int.toNat ((i:Nat):Int)) aY).aC) != 1)
 (rq ((decide (0≤((i:Nat):Int)))&&(decide (((i:Nat):Int)<(l.length:Int)))) (some ([some (.dat (.aG (.ext 17)) l),some (.cI 0 (xs.length+1) cap),some (.dat (.int .i64) ((i:Nat):Int)),some (.dat .bool (((l.getD (Int.toNat ((i:Nat):Int)) aY).aC) != 2))],[.dm 77 cap (.aG (.ext 17)) xs (.bn 0 ai (.ext 17) (last))],[⟨ai,114,2⟩],[],[])))
 (some ([some (.dat (.aG (.ext 17)) l),some (.cI 0 (xs.length+1) cap),some (.dat (.int .i64) ((i:Nat):Int)),some (.dat .bool false)],[.dm 77 cap (.aG (.ext 17)) xs (.bn 0 ai (.ext 17) (last))],[⟨ai,114,2⟩],[],[]))))
 (some ([some (.dat (.aG (.ext 17)) l),some (.cI 0 (xs.length+1) cap),some (.dat (.int .i64) ((i:Nat):Int)),some (.dat .bool false)],[.dm 77 cap (.aG (.ext 17)) xs (.bn 0 ai (.ext 17) (last))],[⟨ai,114,2⟩],[],[]))):=by kernel_rfl
set_option maxRecDepth 100000 in
theorem al6 (l:List ah) (i:Nat) (cap ai:Nat) (xs:List (List ah)) (last:List ah):Go.RT.runT (⟨Tryz.prog,tj,[],[],none⟩:Cx E) 0 (cP (Tryz.f50.body.getD .skip) [true,true,false,true,false,false,true,false,false,true,false]) (.leaf) (SS (E:=E) 85 [(0,.dat (.aG (.ext 17)) l),(3,.cI 0 (xs.length+1) cap),(4,.dat (.int .i64) ((i:Nat):Int))] [.dm 77 cap (.aG (.ext 17)) xs (.bn 0 ai (.ext 17) (last))] [⟨ai,114,2⟩]) (proj [0,3,4,5])=some ([some (.dat (.aG (.ext 17)) l),some (.cI 0 (xs.length+1) cap),some (.dat (.int .i64) ((i:Nat):Int)),some (.dat (.int .i64) 0)],[.dm 77 cap (.aG (.ext 17)) xs (.bn 0 ai (.ext 17) (last))],[⟨ai,114,2⟩],[],[]):=by kernel_rfl
set_option maxRecDepth 100000 in
theorem al7 (l:List ah) (i:Nat) (k:Nat) (cap ai:Nat) (xs:List (List ah)) (last:List ah):Go.RT.runT (⟨Tryz.prog,tj,[],[],none⟩:Cx E) 0 (cP (Tryz.f50.body.getD .skip) [true,true,false,true,false,false,true,false,false,true,true,false,false,false,false]) (.leaf) (SS (E:=E) 85 [(0,.dat (.aG (.ext 17)) l),(3,.cI 0 (xs.length+1) cap),(4,.dat (.int .i64) ((i:Nat):Int)),(5,.dat (.int .i64) ((k:Nat):Int))] [.dm 77 cap (.aG (.ext 17)) xs (.bn 0 ai (.ext 17) (last))] [⟨ai,114,2⟩]) (proj [0,3,4,5,42])=rq ((decide (0≤((i:Nat):Int)))&&(decide (((i:Nat):Int)<(l.length:Int)))) (some ([some (.dat (.aG (.ext 17)) l),some (.cI 0 (xs.length+1) cap),some (.dat (.int .i64) ((i:Nat):Int)),some (.dat (.int .i64) ((k:Nat):Int)),some (.dat .bool (decide (((k:Nat):Int)<(((l.getD (Int.toNat ((i:Nat):Int)) aY).fText).length:Int))))],[.dm 77 cap (.aG (.ext 17)) xs (.bn 0 ai (.ext 17) (last))],[⟨ai,114,2⟩],[],[])):=by kernel_rfl
set_option maxRecDepth 100000 in
theorem al8 (l:List ah) (i:Nat) (k:Nat) (cap ai:Nat) (xs:List (List ah)) (last:List ah):Go.RT.runT (⟨Tryz.prog,tj,[],[],none⟩:Cx E) 0 (cP (Tryz.f50.body.getD .skip) [true,true,false,true,false,false,true,false,false,true,true,false,false,true,false,false,false]) (.leaf) (SS (E:=E) 85 [(0,.dat (.aG (.ext 17)) l),(3,.cI 0 (xs.length+1) cap),(4,.dat (.int .i64) ((i:Nat):Int)),(5,.dat (.int .i64) ((k:Nat):Int))] [.dm 77 cap (.aG (.ext 17)) xs (.bn 0 ai (.ext 17) (last))] [⟨ai,114,2⟩]) (proj [0,3,4,5,52])=rq ((decide (0≤((i:Nat):Int)))&&(decide (((i:Nat):Int)<(l.length:Int)))) (rq ((decide (0≤((k:Nat):Int)))&&(decide (((k:Nat):Int)<(((l.getD (Int.toNat ((i:Nat):Int)) aY).fText).length:Int)))) (some ([some (.dat (.aG (.ext 17)) l),some (.cI 0 (xs.length+1) cap),some (.dat (.int .i64) ((i:Nat):Int)),some (.dat (.int .i64) ((k:Nat):Int)),some (.dat .bool (((((l.getD (Int.toNat ((i:Nat):Int)) aY).fText).getD (Int.toNat ((k:Nat):Int)) 0).toNat:Int)==47))],[.dm 77 cap (.aG (.ext 17)) xs (.bn 0 ai (.ext 17) (last))],[⟨ai,114,2⟩],[],[]))):=by kernel_rfl
set_option maxRecDepth 100000 in
theorem akl (l:List ah) (i:Nat) (k:Nat) (cap ai:Nat) (xs:List (List ah)) (last:List ah):Go.RT.runT (⟨Tryz.prog,tj,[],[],none⟩:Cx E) 0 (cP (Tryz.f50.body.getD .skip) [true,true,false,true,false,false,true,false,false,true,true,false,false,true,false,false,true,true]) (.di [0] [28] [⟨[(0,true),(1,true),(2,true),(3,true),(4,true),(5,true),(6,true),(7,true),(8,true),(9,true),(10,true),(11,true),(12,true),(13,true),(14,true),(15,true),(16,true),(17,true),(18,true),(19,true),(20,true),(21,true),(22,true),(23,true),(24,true),(25,false),(26,false),(27,false),(28,false)],none⟩]) (SS (E:=E) 85 [(0,.dat (.aG (.ext 17)) l),(3,.cI 0 (xs.length+1) cap),(4,.dat (.int .i64) ((i:Nat):Int)),(5,.dat (.int .i64) ((k:Nat):Int))] [.dm 77 cap (.aG (.ext 17)) xs (.bn 0 ai (.ext 17) (last))] [⟨ai,114,2⟩]) (proj [0,3,4,5])=rq ((decide (0≤ag (((xs.length+1:Nat):Int) - 1)))&&(decide (ag (((xs.length+1:Nat):Int) - 1)<((xs.length+1:Nat):Int)))) (rq (Nat.beq (Int.toNat (ag (((xs.length+1:Nat):Int) - 1))) xs.length) (rq ((decide (0≤((i:Nat):Int)))&&(decide (((i:Nat):Int)<(l.length:Int)))) (rq ((decide (0≤((k:Nat):Int)))&&((decide (((k:Nat):Int)≤ag (((k:Nat):Int)+1)))&&(decide (ag (((k:Nat):Int)+1)≤(((l.getD (Int.toNat ((i:Nat):Int)) aY).fText).length:Int))))) (rq ((decide (0≤((i:Nat):Int)))&&(decide (((i:Nat):Int)<(l.length:Int)))) (rq ((Nat.beq ai ai)&&((decide (last.length+([(ah.mk (sl ((l.getD (Int.toNat ((i:Nat):Int)) aY).fText) ((k:Nat):Int) (ag (((k:Nat):Int)+1))) ((l.getD (Int.toNat ((i:Nat):Int)) aY).aC))]:List ah).length≤9223372036854775807))&&(decide ((last.length+([(ah.mk (sl ((l.getD (Int.toNat ((i:Nat):Int)) aY).fText) ((k:Nat):Int) (ag (((k:Nat):Int)+1))) ((l.getD (Int.toNat ((i:Nat):Int)) aY).aC))]:List ah).length) * 24≤140737488355328)))) (rq ((decide (0≤ag (((xs.length+1:Nat):Int) - 1)))&&(decide (ag (((xs.length+1:Nat):Int) - 1)<((xs.length+1:Nat):Int)))) (rq (Nat.beq (Int.toNat (ag (((xs.length+1:Nat):Int) - 1))) xs.length) (some ([some (.dat (.aG (.ext 17)) l),some (.cI 0 (xs.length+1) cap),some (.dat (.int .i64) ((i:Nat):Int)),some (.dat (.int .i64) ((k:Nat):Int))],[.dm 77 cap (.aG (.ext 17)) xs (.bn 0 (ai+1) (.ext 17) (last++([(ah.mk (sl ((l.getD (Int.toNat ((i:Nat):Int)) aY).fText) ((k:Nat):Int) (ag (((k:Nat):Int)+1))) ((l.getD (Int.toNat ((i:Nat):Int)) aY).aC))]:List ah)))],[⟨ai+1,114,2⟩,⟨0,114,2⟩],[],[]))))))))):=by kernel_rfl
set_option maxRecDepth 100000 in
theorem al9 (l:List ah) (i:Nat) (k:Nat) (cap ai:Nat) (xs:List (List ah)) (last:List ah):Go.RT.runT (⟨Tryz.prog,tj,[],[],none⟩:Cx E) 0 (cP (Tryz.f50.body.getD .skip) [true,true,false,true,false,false,true,false,false,true,true,false,false,true,true]) (.leaf) (SS (E:=E) 85 [(0,.dat (.aG (.ext 17)) l),(3,.cI 0 (xs.length+1) cap),(4,.dat (.int .i64) ((i:Nat):Int)),(5,.dat (.int .i64) ((k:Nat):Int))] [.dm 77 cap (.aG (.ext 17)) xs (.bn 0 ai (.ext 17) (last))] [⟨ai,114,2⟩]) (proj [0,3,4,5])=some ([some (.dat (.aG (.ext 17)) l),some (.cI 0 (xs.length+1) cap),some (.dat (.int .i64) ((i:Nat):Int)),some (.dat (.int .i64) (ag (((k:Nat):Int)+1)))],[.dm 77 cap (.aG (.ext 17)) xs (.bn 0 ai (.ext 17) (last))],[⟨ai,114,2⟩],[],[]):=by kernel_rfl
set_option maxRecDepth 100000 in
theorem ama (l:List ah) (i:Nat) (cap ai:Nat) (xs:List (List ah)) (last:List ah):Go.RT.runT (⟨Tryz.prog,tj,[],[],none⟩:Cx E) 0 (cP (Tryz.f50.body.getD .skip) [true,true,false,true,false,false,true,true]) (.leaf) (SS (E:=E) 85 [(0,.dat (.aG (.ext 17)) l),(3,.cI 0 (xs.length+1) cap),(4,.dat (.int .i64) ((i:Nat):Int))] [.dm 77 cap (.aG (.ext 17)) xs (.bn 0 ai (.ext 17) (last))] [⟨ai,114,2⟩]) (proj [0,3,4])=some ([some (.dat (.aG (.ext 17)) l),some (.cI 0 (xs.length+1) cap),some (.dat (.int .i64) (ag (((i:Nat):Int)+1)))],[.dm 77 cap (.aG (.ext 17)) xs (.bn 0 ai (.ext 17) (last))],[⟨ai,114,2⟩],[],[]):=by kernel_rfl
set_option maxRecDepth 100000 in
theorem akm (l:List ah) (i:Nat) (cap ai:Nat) (xs:List (List ah)) (last:List ah):Go.RT.runT (⟨Tryz.prog,tj,[],[],none⟩:Cx E) 0 (cP (Tryz.f50.body.getD .skip) [true,true,true,false]) (.leaf) (SS (E:=E) 85 [(0,.dat (.aG (.ext 17)) l),(3,.cI 0 (xs.length+1) cap),(4,.dat (.int .i64) ((i:Nat):Int))] [.dm 77 cap (.aG (.ext 17)) xs (.bn 0 ai (.ext 17) (last))] [⟨ai,114,2⟩]) (proj [0,2])=some ([some (.dat (.aG (.ext 17)) l),some (.cI 0 (xs.length+1) cap)],[.dm 77 cap (.aG (.ext 17)) xs (.bn 0 ai (.ext 17) (last))],[⟨ai,114,2⟩],[],[]):=by kernel_rfl
def iW (c:Int) (o:List (List ah) × List ah) (b:UInt8):List (List ah) × List ah:=cond (b==47) (o.1++[o.2],[]) (o.1,o.2++[ah.mk [b] c])
def va (o:List (List ah) × List ah) (r:ah):List (List ah) × List ah:=cond (r.aC != 0&&(r.aC != 1&&r.aC != 2)) o (r.fText.foldl (iW r.aC) o)
def dG (l:List ah):List (List ah) × List ah:=l.foldl va ([],[])
def vb (l:List ah):List (List ah):=(dG l).1++[(dG l).2]
def bJ (l:List ah):Nat:=(l.map fun r=>r.fText.length).sum
def O7 (F:Nat) (l:List ah):Option (List (List ah)):=rq (decide (l.length≤1000000000)&&decide (bJ l≤1000000000)) (some (vb l))
def Bz (o:List (List ah) × List ah):Nat:=o.1.length+o.2.length
theorem agQ (c:Int) (o:List (List ah) × List ah) (b:UInt8):Bz (iW c o b)≤Bz o+1:=by
 unfold iW Bz;cases (b==47)<;>simp<;>omega
theorem NO (c:Int):∀(t:Bs) (o:List (List ah) × List ah),Bz (t.foldl (iW c) o)≤Bz o+t.length
 | [],o=>by simp
 | b::t,o=>by
  have h1:=NO c t (iW c o b);have h2:=agQ c o b;simp only [NI,jd];omega
theorem agR (o:List (List ah) × List ah) (r:ah):Bz (va o r)≤Bz o+r.fText.length:=by
 unfold va;cases (r.aC != 0&&(r.aC != 1&&r.aC != 2))
 ·exact NO _ _ _
 ·simp
theorem NP:∀(l:List ah) (o:List (List ah) × List ah),Bz (l.foldl va o)≤Bz o+bJ l
 | [],o=>by simp [bJ]
 | r::l,o=>by
  have h1:=NP l (va o r);have h2:=agR o r;simp only [NI,bJ,eV,O6] at h1 ⊢;omega
theorem tV (l:List ah) (i:Nat) (h:i<l.length):bJ (l.take (i+1))=bJ (l.take i)+l[i].fText.length:=by
 unfold bJ;rw [jT h,zH,adL];simp
theorem yu (l:List ah) (i:Nat):bJ (l.take i)≤bJ l:=by
 unfold bJ
 conv=>rhs;rw [←um i l]
 rw [zH,adL];omega
theorem O8 (l:List ah) (i:Nat) (h:i<l.length):dG (l.take (i+1))=va (dG (l.take i)) l[i]:=by
 unfold dG;rw [jT h,Lr];rfl
theorem Sf (c:Int) (t:Bs) (o:List (List ah) × List ah) (k:Nat) (h:k<t.length):(t.take (k+1)).foldl (iW c) o=iW c ((t.take k).foldl (iW c) o) t[k]:=by
 rw [jT h,Lr];rfl
abbrev dW:Ty:=.ext 17
theorem pG:(⟨Tryz.prog,tj,[],[],none⟩:Cx E).Ok:=⟨Ei,aA,mixed,goN,O9⟩
def stI (l:List ah) (i:Nat) (o:List (List ah) × List ah) (cap ai:Nat):TS E:=SS (E:=E) 85 [(0,.dat (.aG dW) l),(3,.cI 0 (o.1.length+1) cap),(4,.dat (.int .i64) ((i:Nat):Int))] [.dm 77 cap (.aG dW) o.1 (.bn 0 ai dW o.2)] [⟨ai,114,2⟩]
def MQ (l:List ah) (i k:Nat) (o:List (List ah) × List ah) (cap ai:Nat):TS E:=SS (E:=E) 85 [(0,.dat (.aG dW) l),(3,.cI 0 (o.1.length+1) cap),(4,.dat (.int .i64) ((i:Nat):Int)),(5,.dat (.int .i64) ((k:Nat):Int))] [.dm 77 cap (.aG dW) o.1 (.bn 0 ai dW o.2)] [⟨ai,114,2⟩]
theorem XX {l:List ah} {i:Nat} (h:i<l.length):l.getD (Int.toNat (i:Int)) aY=l[i]:=by simp [List.getD,h]
theorem amb {l:Bs} {i:Nat} (h:i<l.length):l.getD (Int.toNat (i:Int)) 0=l[i]:=by simp [List.getD,h]
theorem Pa {i n:Nat} (h:i<n):(decide (0≤(i:Int))&&decide ((i:Int)<(n:Int)))=true:=by rw [decide_eq_true om,decide_eq_true om];rfl
section
variable {w0 : World} {G0 : au} {l : List ah}
theorem eIB:(cP (Tryz.f50.body.getD .skip) [true,true,false,true,false,false,true,false,false,true,true,false,false])=.seq (.seq (cP (Tryz.f50.body.getD .skip) [true,true,false,true,false,false,true,false,false,true,true,false,false,false,false]) (.cond (.tmp 42) .skip (.exit 2))) (.seq (.block 3 (cP (Tryz.f50.body.getD .skip) [true,true,false,true,false,false,true,false,false,true,true,false,false,true,false,false])) (cP (Tryz.f50.body.getD .skip) [true,true,false,true,false,false,true,false,false,true,true,false,false,true,true])):=by kernel_rfl
theorem eB3:(cP (Tryz.f50.body.getD .skip) [true,true,false,true,false,false,true,false,false,true,true,false,false,true,false,false])=.seq (cP (Tryz.f50.body.getD .skip) [true,true,false,true,false,false,true,false,false,true,true,false,false,true,false,false,false]) (.cond (.tmp 52) (cP (Tryz.f50.body.getD .skip) [true,true,false,true,false,false,true,false,false,true,true,false,false,true,false,false,true,false]) (cP (Tryz.f50.body.getD .skip) [true,true,false,true,false,false,true,false,false,true,true,false,false,true,false,false,true,true])):=by kernel_rfl
theorem eB1:(cP (Tryz.f50.body.getD .skip) [true,true,false,true,false,false,true,false,false])=.seq (.seq (cP (Tryz.f50.body.getD .skip) [true,true,false,true,false,false,true,false,false,false,false]) (.cond (.tmp 34) (.exit 1) .skip)) (.seq (cP (Tryz.f50.body.getD .skip) [true,true,false,true,false,false,true,false,false,true,false]) (.block 2 (.loop (cP (Tryz.f50.body.getD .skip) [true,true,false,true,false,false,true,false,false,true,true,false,false])))):=by kernel_rfl
theorem eOB:(cP (Tryz.f50.body.getD .skip) [true,true,false,true,false,false])=.seq (.seq (cP (Tryz.f50.body.getD .skip) [true,true,false,true,false,false,false,false]) (.cond (.tmp 10) .skip (.exit 0))) (.seq (.block 1 (cP (Tryz.f50.body.getD .skip) [true,true,false,true,false,false,true,false,false])) (cP (Tryz.f50.body.getD .skip) [true,true,false,true,false,false,true,true])):=by kernel_rfl
theorem eC:(Tryz.f50.body.getD .skip)=.seq (cP (Tryz.f50.body.getD .skip) [false]) (.seq (cP (Tryz.f50.body.getD .skip) [true,false]) (.seq (.seq (cP (Tryz.f50.body.getD .skip) [true,true,false,false]) (.block 0 (.loop (cP (Tryz.f50.body.getD .skip) [true,true,false,true,false,false])))) (.seq (cP (Tryz.f50.body.getD .skip) [true,true,true,false]) .ret))):=by kernel_rfl
theorem agS (hi:G0.i=[]) (hg:G0.g=[]) {i k cap ai:Nat} {o:List (List ah) × List ah} (h1:i<l.length) (h2:k<l[i].fText.length) (h3:Bz o≤1000000000) (h4:l[i].fText.length≤1000000000) (hb:(l[i].fText[k]==47)=false) :
  AW Tryz.prog w0 G0 (cP (Tryz.f50.body.getD .skip) [true,true,false,true,false,false,true,false,false,true,true,false,false,true,false,false,true,true]) (MQ l i k o cap ai) (fun x s=>x=.normal∧∃cap' qI,s=MQ l i k (iW l[i].aC o l[i].fText[k]) cap' qI):=by
 have hw:=akl l i k cap ai o.1 o.2;have hlx:o.1.length+o.2.length≤1000000000:=h3;have e1:ag (((o.1.length+1:Nat):Int) - 1)=(o.1.length:Int):=by rw [cr om];omega
 have e2:(o.1.length:Int).toNat=o.1.length:=bf _
 rw [e1,e2,XX h1,fo om,eu (Pa (n:=o.1.length+1) om),eu (uY _),eu (Pa h1),Yl om om om,eu (Pa h1),
  eu (by rw [uY,decide_eq_true bx,decide_eq_true bx];rfl),eu (Pa (n:=o.1.length+1) om),eu (uY _)] at hw
 have hsl:sl l[i].fText (k:Int) ((k+1:Nat):Int)=[l[i].fText[k]]:=by
  unfold sl;rw [bf,bf,jT h2,List.drop_left' (by rw [gB];omega)]
 rw [hsl] at hw;intro a w G hr;refine wp_mono (AW.rt pG hi (m':=[(0,.dat (.aG dW) l),(3,.cI 0 (o.1.length+1) cap),(4,.dat (.int .i64) ((i:Nat):Int)),(5,.dat (.int .i64) ((k:Nat):Int))]) hw a w G hr) fun e a' w' hp=>?_;obtain⟨x,s,G',he,hr',rfl,rfl⟩:=hp
 have hr2:=hr'.agT hg (by
  intro p hp;simp only [fK,zJ,or_false] at hp;rcases hp with rfl | rfl | rfl | rfl
  ·exact .inl ⟨_,_,rfl⟩
  ·exact .inr ⟨_,_,_,rfl⟩
  ·exact .inl ⟨_,_,rfl⟩
  ·exact .inl ⟨_,_,rfl⟩)
 cases e<;>try (exact he.elim)
 refine⟨.normal,_,_,trivial,hr2,rfl,cap,ai+1,?_⟩;unfold iW MQ;rw [hb];rfl
theorem agU (hi:G0.i=[]) {i k cap ai:Nat} {o:List (List ah) × List ah} (h1:i<l.length) (h2:k<l[i].fText.length) (h3:Bz o≤1000000000) (hb:(l[i].fText[k]==47)=true) :
  AW Tryz.prog w0 G0 (cP (Tryz.f50.body.getD .skip) [true,true,false,true,false,false,true,false,false,true,true,false,false,true,false,false,true,false]) (MQ l i k o cap ai) (fun x s=>x=.normal∧∃cap' qI,s=MQ l i k (iW l[i].aC o l[i].fText[k]) cap' qI):=by
 have hlx:o.1.length+o.2.length≤1000000000:=h3
 have hw:=AW.agV (w0:=w0) (G0:=G0) (P:=Tryz.prog) (c:=(cP (Tryz.f50.body.getD .skip) [true,true,false,true,false,false,true,false,false,true,true,false,false,true,false,false,true,false])) Ei (n:=85) (t:=81) (e:=77) (e2:=114) (j3:=3) (Ag:=53) (BA:=54) (Jy:=55) kr kr (cl:={ callee:=.builtin .append,args:=#[.tmp 53,.tmp 54],argTypes:=#[81,81] }) rfl rfl rfl
  (j1:=1) (j2:=24) (z:=.slice none 0 0) kr (ie:=⟨.slice 114,1,24,.slice none 0 0⟩) kr rfl rfl dW (m0:=[(0,.dat (.aG dW) l),(4,.dat (.int .i64) ((i:Nat):Int)),(5,.dat (.int .i64) ((k:Nat):Int))]) (by
   intro p hp;simp only [fK,zJ,or_false] at hp;rcases hp with rfl | rfl | rfl<;>exact⟨_,_,rfl⟩) ⟨om,om,om,om⟩ hi (cap:=cap) (ai:=ai) (xs:=o.1) (last:=o.2) rfl (by show (o.1.length+2) * 24≤_;omega) (by show o.1.length+2≤_;omega) (by
   intro c' p hp;simp only [je,iV,fK,zJ,or_false] at hp;rcases hp with rfl | rfl | rfl | rfl<;>rfl) (by
   intro p hp;simp only [fK,zJ,or_false] at hp;rcases hp with rfl | rfl | rfl<;>rfl)
 refine AW.sub hi (m':=[(0,.dat (.aG dW) l),(4,.dat (.int .i64) ((i:Nat):Int)),(5,.dat (.int .i64) ((k:Nat):Int))]++[(3,.cI 0 (o.1.length+1) cap)]) (by
   intro p hp;simp only [je,iV,fK,zJ,or_false] at hp;rcases hp with rfl | rfl | rfl | rfl<;>rfl) ?_
 intro a w G hr;refine wp_mono (hw a w G hr) fun e a' w' hp=>?_;obtain⟨x,s,G',he,hr',rfl,c',rfl⟩:=hp;have hs:iW l[i].aC o l[i].fText[k]=(o.1++[o.2],[]):=by unfold iW;rw [hb];rfl
 have hr2:=hr'.anj hi (m':=[(0,.dat (.aG dW) l),(3,.cI 0 (o.1.length+2) c'),(4,.dat (.int .i64) ((i:Nat):Int)),(5,.dat (.int .i64) ((k:Nat):Int))]) (by
   intro p hp;simp only [fK,zJ,or_false] at hp;rcases hp with rfl | rfl | rfl | rfl<;>rfl)
 cases e<;>try (exact he.elim)
 refine⟨.normal,_,_,trivial,hr2,rfl,c',ai+1,?_⟩;rw [hs];unfold MQ;simp only [eW,jd,kg];rfl
theorem aja (hi:G0.i=[]) (hg:G0.g=[]) {i k cap ai:Nat} {o:List (List ah) × List ah} (h1:i<l.length) (h2:k≤l[i].fText.length) (h3:Bz o≤1000000000) (h4:l[i].fText.length≤1000000000) :
  AW Tryz.prog w0 G0 (cP (Tryz.f50.body.getD .skip) [true,true,false,true,false,false,true,false,false,true,true,false,false]) (MQ l i k o cap ai) (fun x s=>(x=.normal∧∃h:k<l[i].fText.length,∃cap' qI,s=MQ l i (k+1) (iW l[i].aC o l[i].fText[k]) cap' qI)∨(x=.exit 2∧k=l[i].fText.length∧s=stI l i o cap ai)):=by
 rw [eIB];refine AW.seq ?_;have hw7:=al7 l i k cap ai o.1 o.2;rw [eu (Pa h1),XX h1] at hw7;refine AW.zK (Q':=fun x s=>s=_) (AW.rt pG hi (m':=[(0,.dat (.aG dW) l),(3,.cI 0 (o.1.length+1) cap),(4,.dat (.int .i64) ((i:Nat):Int)),(5,.dat (.int .i64) ((k:Nat):Int)),(42,.dat .bool (decide (((k:Nat):Int)<(l[i].fText.length:Int))))]) hw7) ?_;rintro _ rfl;refine AW.cond (b:=decide (((k:Nat):Int)<(l[i].fText.length:Int))) rfl ?_;by_cases hk:k<l[i].fText.length
 ·rw [decide_eq_true (show ((k:Nat):Int)<(l[i].fText.length:Int) by omega),if_pos rfl]
  refine AW.skip (.inl ⟨rfl,?_⟩);refine AW.zK (Q':=fun x s=>∃cap' qI,s=MQ l i k (iW l[i].aC o l[i].fText[k]) cap' qI) ?_ ?_
  ·refine AW.block ?_
   rw [eB3];have hw9:=al8 l i k cap ai o.1 o.2;rw [eu (Pa h1),XX h1,eu (Pa hk),amb hk,mW _ 47 om] at hw9
   refine AW.sub hi (m':=[(0,.dat (.aG dW) l),(3,.cI 0 (o.1.length+1) cap),(4,.dat (.int .i64) ((i:Nat):Int)),(5,.dat (.int .i64) ((k:Nat):Int))]) (by
    intro p hp;simp only [fK,zJ,or_false] at hp;rcases hp with rfl | rfl | rfl | rfl<;>rfl) ?_
   refine AW.zK (Q':=fun x s=>s=_) (AW.rt pG hi (m':=[(0,.dat (.aG dW) l),(3,.cI 0 (o.1.length+1) cap),(4,.dat (.int .i64) ((i:Nat):Int)),(5,.dat (.int .i64) ((k:Nat):Int)),(52,.dat .bool (l[i].fText[k]==47))]) hw9) ?_;rintro _ rfl;refine AW.cond (b:=(l[i].fText[k]==47)) rfl ?_
   refine AW.sub hi (m':=[(0,.dat (.aG dW) l),(3,.cI 0 (o.1.length+1) cap),(4,.dat (.int .i64) ((i:Nat):Int)),(5,.dat (.int .i64) ((k:Nat):Int))]) (by
    intro p hp;simp only [fK,zJ,or_false] at hp;rcases hp with rfl | rfl | rfl | rfl<;>rfl) ?_
   cases hb:(l[i].fText[k]==47) with
   | true =>
    rw [if_pos rfl]
    exact (agU hi h1 hk h3 hb).mono fun x s hq=>.inr ⟨(fun e=>by rw [hq.1] at e;cases e),hq.1,hq.2⟩
   | false =>
    rw [if_neg de];exact (agS hi hg h1 hk h3 h4 hb).mono fun x s hq=>.inr ⟨(fun e=>by rw [hq.1] at e;cases e),hq.1,hq.2⟩
  ·rintro _ ⟨cap',qI,rfl⟩
   have hw8:=al9 l i k cap' qI (iW l[i].aC o l[i].fText[k]).1 (iW l[i].aC o l[i].fText[k]).2;rw [fo om] at hw8;refine (AW.rt pG hi (m':=[(0,.dat (.aG dW) l),(3,.cI 0 ((iW l[i].aC o l[i].fText[k]).1.length+1) cap'),(4,.dat (.int .i64) ((i:Nat):Int)),(5,.dat (.int .i64) ((k+1:Nat):Int))]) hw8).mono ?_;rintro x s ⟨rfl,rfl⟩;exact .inl ⟨rfl,hk,cap',qI,rfl⟩
 ·rw [decide_eq_false (show ¬ ((k:Nat):Int)<(l[i].fText.length:Int) by omega),if_neg de]
  refine AW.sub hi (m':=[(0,.dat (.aG dW) l),(3,.cI 0 (o.1.length+1) cap),(4,.dat (.int .i64) ((i:Nat):Int))]) (by
    intro p hp;simp only [fK,zJ,or_false] at hp;rcases hp with rfl | rfl | rfl<;>rfl) ?_
  exact AW.exit (.inr ⟨(fun e=>by cases e),.inr ⟨rfl,om,rfl⟩⟩)
theorem ajb (hi:G0.i=[]) (hg:G0.g=[]) {i cap ai:Nat} (h1:i<l.length) (h3:bJ l≤1000000000) :
  AW Tryz.prog w0 G0 (.block 1 (cP (Tryz.f50.body.getD .skip) [true,true,false,true,false,false,true,false,false])) (stI l i (dG (l.take i)) cap ai) (fun x s=>x=.normal∧∃cap' qI,s=stI l i (dG (l.take (i+1))) cap' qI):=by
 have hsz:=tV l i h1;have hle:=yu l (i+1);have hO:Bz (dG (l.take i))≤bJ (l.take i):=by have:=NP (l.take i) ([],[]);simpa [dG,Bz] using this
 have h4:l[i].fText.length≤1000000000:=om;refine AW.block ?_;rw [eB1];refine AW.seq ?_;have hw5:=al5 l i cap ai (dG (l.take i)).1 (dG (l.take i)).2;rw [eu (Pa h1),XX h1] at hw5;simp only [eu (Pa h1)] at hw5;obtain⟨b,hb⟩:∃b,b=(l[i].aC != 0&&(l[i].aC != 1&&l[i].aC != 2)):=⟨_,rfl⟩;refine AW.zK (Q':=fun x s=>s=_) (AW.rt pG hi (m':=[(0,.dat (.aG dW) l),(3,.cI 0 ((dG (l.take i)).1.length+1) cap),(4,.dat (.int .i64) ((i:Nat):Int)),(34,.dat .bool b)]) (H':=[.dm 77 cap (.aG dW) (dG (l.take i)).1 (.bn 0 ai dW (dG (l.take i)).2)]) (g':=[⟨ai,114,2⟩]) (hw5.trans ?_)) ?_
 ·rw [hb]
  cases (l[i].aC != 0)
  ·rfl
  ·cases (l[i].aC != 1)
   ·rfl
   ·rfl
 rintro _ rfl;refine AW.cond (b:=b) rfl ?_
 refine AW.sub hi (m':=[(0,.dat (.aG dW) l),(3,.cI 0 ((dG (l.take i)).1.length+1) cap),(4,.dat (.int .i64) ((i:Nat):Int))]) (by
   intro p hp;simp only [fK,zJ,or_false] at hp;rcases hp with rfl | rfl | rfl<;>rfl) ?_
 cases MR:b with
 | true =>
  rw [if_pos rfl];refine AW.exit (.inr ⟨(fun e=>by cases e),.inl ⟨rfl,rfl,cap,ai,?_⟩⟩);rw [O8 l i h1];unfold va;rw [←hb,MR]
  rfl
 | false =>
  rw [if_neg de];refine AW.skip (.inl ⟨rfl,?_⟩);have hw6:=al6 l i cap ai (dG (l.take i)).1 (dG (l.take i)).2;refine AW.zK (Q':=fun x s=>s=_) (AW.rt pG hi (m':=[(0,.dat (.aG dW) l),(3,.cI 0 ((dG (l.take i)).1.length+1) cap),(4,.dat (.int .i64) ((i:Nat):Int)),(5,.dat (.int .i64) 0)]) hw6) ?_;rintro _ rfl;refine AW.block ?_;refine AW.loop (ι:=Nat × Nat × Nat) (fun x=>MQ l i x.1 ((l[i].fText.take x.1).foldl (iW l[i].aC) (dG (l.take i))) x.2.1 x.2.2) (fun x=>x.1≤l[i].fText.length) (fun x=>l[i].fText.length - x.1) (0,cap,ai) (fT _) rfl ?_;rintro⟨k,ank,anl⟩ hk;dsimp only at hk ⊢
  refine (aja hi hg h1 hk (by
   have:=NO l[i].aC (l[i].fText.take k) (dG (l.take i));have h5:(l[i].fText.take k).length≤l[i].fText.length:=by rw [gB];omega
   omega) h4).mono ?_
  rintro x s (⟨rfl,hlt,cap',qI,rfl⟩ | ⟨rfl,hke,rfl⟩)
  ·exact .inl ⟨rfl,(k+1,cap',qI),hlt,by dsimp only;omega,by rw [Sf _ _ _ _ hlt]⟩
  ·subst hke
   refine .inr ⟨fun e=>(by cases e),.inl ⟨rfl,.inr ⟨fun e=>(by cases e),rfl,ank,anl,?_⟩⟩⟩;rw [O8 l i h1,Bx];unfold va;rw [←hb,MR];rfl
theorem agW (hi:G0.i=[]) (hg:G0.g=[]) (h2:l.length≤1000000000) (h3:bJ l≤1000000000) :
  AW Tryz.prog w0 G0 (Tryz.f50.body.getD .skip) (SS (E:=E) 85 [(0,.dat (.aG dW) l)] [] []) (fun x s=>x=.ret∧∃cap ai,s=SS (E:=E) 85 [(0,.dat (.aG dW) l),(2,.cI 0 ((dG l).1.length+1) cap)] [.dm 77 cap (.aG dW) (dG l).1 (.bn 0 ai dW (dG l).2)] [⟨ai,114,2⟩]):=by
 rw [eC];refine AW.zK (Q':=fun x s=>s=_) (AW.rt pG hi (m':=[(0,.dat (.aG dW) l)]) (al2 l)) ?_;rintro _ rfl
 refine AW.zK (Q':=fun x s=>s=_) (AW.akn (c:=(cP (Tryz.f50.body.getD .skip) [true,false])) (n:=85) (t:=81) (e:=77) 114 (j3:=3) (j6:=6) kr kr (j1:=1) (j2:=24) (z:=.slice none 0 0) kr (ie:=⟨.slice 114,1,24,.slice none 0 0⟩) kr rfl dW
  (m':=[(0,.dat (.aG dW) l),(3,.cI 0 1 1)]) om hi (by
   intro p hp;simp only [fK,zJ,or_false] at hp;rcases hp with rfl | rfl<;>rfl)) ?_
 rintro _ rfl;refine AW.zK (Q':=fun x s=>∃cap ai,s=stI l l.length (dG l) cap ai) ?_ ?_
 ·refine AW.zK (Q':=fun x s=>s=stI l 0 (dG (l.take 0)) 1 0) ((AW.rt pG hi (m':=[(0,.dat (.aG dW) l),(3,.cI 0 1 1),(4,.dat (.int .i64) 0)]) (al3 l 1 0 [] [])).mono fun x s hq=>hq) ?_
  rintro _ rfl;refine AW.block ?_;refine AW.loop (ι:=Nat × Nat × Nat) (fun x=>stI l x.1 (dG (l.take x.1)) x.2.1 x.2.2) (fun x=>x.1≤l.length) (fun x=>l.length - x.1) (0,1,0) (fT _) rfl ?_;rintro⟨i,cap,ai⟩ hil;dsimp only at hil ⊢;rw [eOB];refine AW.seq ?_;refine AW.zK (Q':=fun x s=>s=_) (AW.rt pG hi (m':=[(0,.dat (.aG dW) l),(3,.cI 0 ((dG (l.take i)).1.length+1) cap),(4,.dat (.int .i64) ((i:Nat):Int)),(10,.dat .bool (decide (((i:Nat):Int)<(l.length:Int))))]) (al4 l i cap ai (dG (l.take i)).1 (dG (l.take i)).2)) ?_;rintro _ rfl;refine AW.cond (b:=decide (((i:Nat):Int)<(l.length:Int))) rfl ?_
  refine AW.sub hi (m':=[(0,.dat (.aG dW) l),(3,.cI 0 ((dG (l.take i)).1.length+1) cap),(4,.dat (.int .i64) ((i:Nat):Int))]) (by
   intro p hp;simp only [fK,zJ,or_false] at hp;rcases hp with rfl | rfl | rfl<;>rfl) ?_
  by_cases h1:i<l.length
  ·rw [decide_eq_true (show ((i:Nat):Int)<(l.length:Int) by omega),if_pos rfl]
   refine AW.skip (.inl ⟨rfl,?_⟩);refine AW.zK (ajb hi hg h1 h3) ?_;rintro _ ⟨cap',qI,rfl⟩;have hw4:=ama l i cap' qI (dG (l.take (i+1))).1 (dG (l.take (i+1))).2;rw [fo om] at hw4;refine (AW.rt pG hi (m':=[(0,.dat (.aG dW) l),(3,.cI 0 ((dG (l.take (i+1))).1.length+1) cap'),(4,.dat (.int .i64) ((i+1:Nat):Int))]) hw4).mono ?_;rintro x s ⟨rfl,rfl⟩;exact .inl ⟨rfl,(i+1,cap',qI),h1,by dsimp only;omega,rfl⟩
  ·rw [decide_eq_false (show ¬ ((i:Nat):Int)<(l.length:Int) by omega),if_neg de]
   obtain rfl:i=l.length:=om;refine AW.exit (.inr ⟨fun e=>(by cases e),.inr ⟨fun e=>(by cases e),.inl ⟨rfl,rfl,cap,ai,?_⟩⟩⟩);rw [Bx];rfl
 ·rintro _ ⟨cap,ai,rfl⟩
  refine AW.zK (Q':=fun x s=>s=_) (AW.rt pG hi (m':=[(0,.dat (.aG dW) l),(2,.cI 0 ((dG l).1.length+1) cap)]) (akm l l.length cap ai (dG l).1 (dG l).2)) ?_;rintro _ rfl;exact AW.ret ⟨rfl,cap,ai,rfl⟩
end
def aiF (E:TEnv) (ix:Nat) (f:FuncId) (F:Nat) (m:Nat→List ((Ty.ext ix).den E.D)→Option (List (List ((Ty.ext ix).den E.D)))):an E:=⟨⟨f,[.one (.dat (.aG (.ext ix)))],[],[],⟨.one (.dat (.aG (.aG (.ext ix)))),[],[],[]⟩,none,[]⟩,fun (x:List ((Ty.ext ix).den E.D))=>m F x⟩
set_option maxRecDepth 100000 in
theorem ajc (F:Nat):(aiF E 17 50 F O7).Ok Tryz.prog:=by
 have key:∀(l:List ah) (y:List (List ah)),O7 F l=some y→ia (E:=E) Tryz.prog 50 [.dat (.aG dW) l] [] [] [] ⟨true,.dat (.aG (.aG dW)) y,[],[],[],[]⟩:=by
  intro l y hy;obtain⟨h1,h2⟩:=b9 hy;rw [aV,decide_eq_true_eq,decide_eq_true_eq] at h1;cases h2;intro w G args hP hB hS hV;have hi:G.i=[]:=oA hB.len;have hg:G.g=[]:=by have:=hB.gs;simpa using this
  have BB:=Rel.Gr (n:=Tryz.f50.ntmps) hP hB hS hV;have hb:Tryz.f50.body=some (Tryz.f50.body.getD .skip):=by kernel_rfl
  refine oF Tryz.func50 hb kr (calls_of_wp Tryz.func50 hb ?_);have cJ:Rel E w G (SS (E:=E) 85 [(0,.dat (.aG dW) l)] [] []) _ w G:=BB;refine wp_mono (agW (l:=l) hi hg h1.1 h1.2 _ w G cJ) fun e a' w' hp=>?_;obtain⟨x,s,G',he,hr,rfl,cap,ai,rfl⟩:=hp
  have Ej:a'.defers=[]:=by
   have:=hr.defers
   cases hd:a'.defers with
   | nil=>rfl
   | cons d ds=>rw [hd] at this;exact this.elim
  obtain⟨v,hv,hrun⟩:=vc (fn:=Tryz.f50) pG hr (ds:=[.cI 0 ((dG l).1.length+1) cap]) kr;obtain⟨G2,q1,q2,q3,q4⟩:=ajd (j:=2) hr hi hg rfl;cases e<;>try (exact he.elim)
  have HQ:v=a'.tmps.getD 2 undef:=by
   have h3:=hr.tmps 2 (.cI 0 ((dG l).1.length+1) cap) rfl;simp only [lM,VT] at hv h3;obtain⟨b,pF,sE⟩:=hv;obtain⟨b',kA,iz⟩:=h3;rw [sE] at iz;cases iz;rw [pF,kA]
  subst HQ;exact⟨Ej,_,hrun,_,G2,rfl,q1,q2,q3,q4,fun q b hq=>by rw [hi] at hq;cases hq⟩
 intro x y hy;exact key x y hy
end Go.Proofs.YtkeibjejncpgnaaGreatDoor
