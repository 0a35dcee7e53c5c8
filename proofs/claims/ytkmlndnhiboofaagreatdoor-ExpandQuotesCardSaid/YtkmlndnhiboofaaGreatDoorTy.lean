import Derived.Test.YtkmlndnhiboofaaGreatDoorSh
import Derived.Test.YtkmlndnhiboofaaGreatDoorRk
import Derived.Test.YtkmlndnhiboofaaGreatDoorChecked
open Option renaming some->W0,none->WP
open Bool renaming true->WF,false->UV
open Decidable renaming decide->T1
open Nat renaming beq->ST
set_option linter.all false
namespace Go.Proofs.YtkmlndnhiboofaaGreatDoor
open Go.Proofs.Tryz
open Go.RT Go.RowKit Go.Maps Go.Sort Go.Shelf
open Go.Proofs (encStr)
theorem apM(k:Nat):AnyZ.SortsIn prog Tryz.RH Fence.wide k:=
 ⟨λblk off cap ss W hH hblk hsz=>callsIn_wide.2 (AnyM.slices_Sort_string Tryz.Zx blk off cap ss W hH hblk hsz),
  λp cap W=>callsIn_wide.2 (AnyM.slices_Sort_string_none Tryz.Zx p cap W)⟩
theorem ali:abt prog 281 341 256 9:=by
 intro w b0 b n D0 R hc hown hmax hbytes
 have hseq:SeqGives Fence.wide 2 prog 341 #[.pointer (W0 ⟨b0,0,WP⟩)] encStr (λss=>ss.Perm (strKeys D0)) (Maps.size D0) w:=
  AnyZ.keys_gives (ρ:=Tryz.Yb) {Tryz.aq4 with} Fence.wide _ trivial rfl om b0 b n D0 _ (by
   have:=(Av.1 hc).1;omega) (by simp[World.cell?,hc]) hown
 have cS:=AnyZ.sorted_in Tryz.ani Fence.wide 5 trivial trivial trivial trivial rfl om (apM _) (enters_of func70 kr rfl) 341 #[.pointer (W0 ⟨b0,0,WP⟩)] trivial (enters_of func341 kr rfl) _ _ hmax hbytes _ hseq;change CallsIn _ _ prog 281 _ _ _ at cS;refine(callsIn_wide.1 cS).mono ?_;rintro e2 w2 ⟨v,ss,rfl,hS,hrow,-,hb⟩;exact⟨v,ss,rfl,hS,hrow,hb⟩
open Go.RT
abbrev aiQ:Ty:=(.pair (.int .i64) (.pair (.int .i64) (.pair (.int .i64) (.pair (.int .i64) (.pair (.int .i64) (.pair (.int .i64) (.pair (.int .i64) (.pair (.int .i64) .unit))))))))
structure bO where
 fName:List UInt8
 bS:List UInt8
 cY:Bool
 Gi:Bool
 rL:Bool
 deriving Inhabited,DecidableEq
def fP:bO:=.mk [] [] UV UV UV
def Cu(v:bO):J DV:=([.str v.fName])++([.str v.bS])++([.bool v.cY])++([.bool v.Gi])++([.bool v.rL])
inductive TPart where
 | mk (fKind:Int) (fText:List UInt8) (fOp:Int) (fColon:Bool) (fParts:List TPart)
def TPart.fKind:TPart->Int
 | .mk x _ _ _ _=>x
def TPart.fText:TPart->J UInt8
 | .mk _ x _ _ _=>x
def TPart.fOp:TPart->Int
 | .mk _ _ x _ _=>x
def TPart.fColon:TPart->Bool
 | .mk _ _ _ x _=>x
def TPart.fParts:TPart->J TPart
 | .mk _ _ _ _ x=>x
@[simp] theorem TPart.eta (v : TPart) : TPart.mk v.fKind v.fText v.fOp v.fColon v.fParts = v := by cases v; rfl
def iP:TPart:=.mk 0 [] 0 UV []
mutual
def mm:TPart->J DV
 | .mk fKind fText fOp fColon fParts=>([.int .i64 fKind])++([.str fText])++([.int .i64 fOp])++([.bool fColon])++([.slice 5 (IZ fParts)])
def IZ:J TPart->J (J DV)
 | []=>[]
 | x::xs=>mm x::IZ xs
end
theorem En:∀l,IZ l=l.map mm
 | []=>rfl
 | x::xs=>by simp only[IZ,jY,En xs]
structure jc where
 fPos:Int
 fParts:List TPart
def yQ:jc:=.mk 0 []
def rT(v:jc):J DV:=([.int .i64 v.fPos])++([.slice 5 (v.fParts.map mm)])
structure sR where
 fPos:Int
 fName:List UInt8
 bS:jc
def Z2:sR:=.mk 0 [] yQ
def uj(v:sR):J DV:=([.int .i64 v.fPos])++([.str v.fName])++(rT v.bS)
structure v8 where
 fPos:Int
 fFd:Int
 fOp:Int
 VN:jc
def adO:v8:=.mk 0 0 0 yQ
def we(v:v8):J DV:=([.int .i64 v.fPos])++([.int .i64 v.fFd])++([.int .i64 v.fOp])++(rT v.VN)
mutual
inductive TNode where
 | mk (fKind:Int) (fPos:Int) (fName:List UInt8) (fAll:Bool) (fAssigns:List sR) (fWords:List jc) (fRedirs:List v8) (fKids:List TNode) (fItems:List TItem)
inductive TItem where
 | mk (fPatterns:List jc) (fBody:List TNode)
end
def TNode.fKind:TNode->Int
 | .mk x _ _ _ _ _ _ _ _=>x
def TNode.fPos:TNode->Int
 | .mk _ x _ _ _ _ _ _ _=>x
def TNode.fName:TNode->J UInt8
 | .mk _ _ x _ _ _ _ _ _=>x
def TNode.fAll:TNode->Bool
 | .mk _ _ _ x _ _ _ _ _=>x
def TNode.fAssigns:TNode->J sR
 | .mk _ _ _ _ x _ _ _ _=>x
def TNode.fWords:TNode->J jc
 | .mk _ _ _ _ _ x _ _ _=>x
def TNode.fRedirs:TNode->J v8
 | .mk _ _ _ _ _ _ x _ _=>x
def TNode.fKids:TNode->J TNode
 | .mk _ _ _ _ _ _ _ x _=>x
def TNode.fItems:TNode->J TItem
 | .mk _ _ _ _ _ _ _ _ x=>x
@[simp] theorem TNode.eta (v : TNode) : TNode.mk v.fKind v.fPos v.fName v.fAll v.fAssigns v.fWords v.fRedirs v.fKids v.fItems = v := by cases v; rfl
def TItem.fPatterns:TItem->J jc
 | .mk x _=>x
def TItem.fBody:TItem->J TNode
 | .mk _ x=>x
@[simp] theorem TItem.eta (v : TItem) : TItem.mk v.fPatterns v.fBody = v := by cases v; rfl
def Z4:TNode:=.mk 0 0 [] UV [] [] [] [] []
def ahq:TItem:=.mk [] []
mutual
def oN:TNode->J DV
 | .mk fKind fPos fName fAll fAssigns fWords fRedirs fKids fItems=>([.int .i64 fKind])++([.int .i64 fPos])++([.str fName])++([.bool fAll])++([.slice 4 (fAssigns.map uj)])++([.slice 2 (fWords.map rT)])++([.slice 5 (fRedirs.map we)])++([.slice 9 (DZ fKids)])++([.slice 2 (I0 fItems)])
def rU:TItem->J DV
 | .mk fPatterns fBody=>([.slice 2 (fPatterns.map rT)])++([.slice 9 (DZ fBody)])
def DZ:J TNode->J (J DV)
 | []=>[]
 | x::xs=>oN x::DZ xs
def I0:J TItem->J (J DV)
 | []=>[]
 | x::xs=>rU x::I0 xs
end
theorem uE:∀l,DZ l=l.map oN
 | []=>rfl
 | x::xs=>by simp only[DZ,jY,uE xs]
theorem uF:∀l,I0 l=l.map rU
 | []=>rfl
 | x::xs=>by simp only[I0,jY,uF xs]
structure zA where
 fName:List UInt8
 fBody:TNode
def ahr:zA:=.mk [] Z4
def zS(v:zA):J DV:=([.str v.fName])++(oN v.fBody)
structure cw where
 fName:List UInt8
 bS:List UInt8
 deriving Inhabited,DecidableEq
def qU:cw:=.mk [] []
def wh(v:cw):J DV:=([.str v.fName])++([.str v.bS])
structure AK where
 ajJ:Int
 VQ:List UInt8
 deriving Inhabited,DecidableEq
def ahs:AK:=.mk 0 []
def zT(v:AK):J DV:=([.int .i64 v.ajJ])++([.str v.VQ])
structure nQ where
 TB:Int
 P7:Int
 deriving Inhabited,DecidableEq
def K6:nQ:=.mk 0 0
def AL(v:nQ):J DV:=([.int .i64 v.TB])++([.int .i64 v.P7])
structure eU where
 fName:List UInt8
 bV:List bO
 cU:List (List UInt8)
 yR:List zA
 rV:List cw
 yS:List AK
 jM:Int
 ir:Int
 GC:Int
 rA:Int
 GD:List UInt8
 Kc:nQ
 TC:Int
 aiR:Bool
def Kb:eU:=.mk [] [] [] [] [] [] 0 0 0 0 [] K6 0 UV
def zU(v:eU):J DV:=([.str v.fName])++([.slice 5 (v.bV.map Cu)])++([.slice 1 (v.cU.map (λv=>[.str v]))])++([.slice 10 (v.yR.map zS)])++([.slice 2 (v.rV.map wh)])++([.slice 2 (v.yS.map zT)])++([.int .i64 v.jM])++([.int .i64 v.ir])++([.int .i64 v.GC])++([.int .i64 v.rA])++([.str v.GD])++(AL v.Kc)++([.int .i64 v.TC])++([.bool v.aiR])
structure bF where
 cj:List UInt8
 oO:Bool
 fData:List UInt8
 deriving Inhabited,DecidableEq
def b8:bF:=.mk [] UV []
def wk(v:bF):J DV:=([.str v.cj])++([.bool v.oO])++([.str v.fData])
structure gU where
 fText:List UInt8
 ir:Int
 deriving Inhabited,DecidableEq
def Cy:gU:=.mk [] 0
def pK(v:gU):J DV:=([.str v.fText])++([.int .i64 v.ir])
structure vl where
 rW:eU
 qh:List bF
 Ke:List (List UInt8)
 j8:List gU
def alZ:vl:=.mk Kb [] [] []
def VU(v:vl):J DV:=(zU v.rW)++([.slice 3 (v.qh.map wk)])++([.slice 1 (v.Ke.map (λv=>[.str v]))])++([.slice 2 (v.j8.map pK)])
structure dy where
 fParts:List TPart
 Mr:Int
 fE:Int
def alj:dy:=.mk [] 0 0
def agQ(v:dy):J DV:=([.slice 5 (v.fParts.map mm)])++([.int .i64 v.Mr])++([.int .i64 v.fE])
structure bn where
 cx:eU
 eP:List gU
 fused:Int
 lV:Int
 fe:Int
 fZ:List UInt8
 nN:Bool
 zM:List UInt8
def anA:bn:=.mk Kb [] 0 0 0 [] UV []
def aiS(v:bn):J DV:=(zU v.cx)++([.slice 2 (v.eP.map pK)])++([.int .i64 v.fused])++([.int .i64 v.lV])++([.int .i64 v.fe])++([.str v.fZ])++([.bool v.nN])++([.str v.zM])
structure aB where
 fText:List UInt8
 aL:Int
 deriving Inhabited,DecidableEq
def dw:aB:=.mk [] 0
def anB(v:aB):J DV:=([.str v.fText])++([.int .i64 v.aL])
structure cg where
 fD:Bool
 C3:Bool
 kE:Bool
 deriving Inhabited,DecidableEq
def anC:cg:=.mk UV UV UV
def aiT(v:cg):J DV:=([.bool v.fD])++([.bool v.C3])++([.bool v.kE])
inductive TExpr where
 | mk (fOp:Int) (fN:Int) (fName:List UInt8) (fKids:List TExpr)
def TExpr.fOp:TExpr->Int
 | .mk x _ _ _=>x
def TExpr.fN:TExpr->Int
 | .mk _ x _ _=>x
def TExpr.fName:TExpr->J UInt8
 | .mk _ _ x _=>x
def TExpr.fKids:TExpr->J TExpr
 | .mk _ _ _ x=>x
@[simp] theorem TExpr.eta (v : TExpr) : TExpr.mk v.fOp v.fN v.fName v.fKids = v := by cases v; rfl
def dH:TExpr:=.mk 0 0 [] []
mutual
def Ht:TExpr->J DV
 | .mk fOp fN fName fKids=>([.int .i64 fOp])++([.int .i64 fN])++([.str fName])++([.slice 4 (I1 fKids)])
def I1:J TExpr->J (J DV)
 | []=>[]
 | x::xs=>Ht x::I1 xs
end
theorem MH:∀l,I1 l=l.map Ht
 | []=>rfl
 | x::xs=>by simp only[I1,jY,MH xs]
structure Gj where
 fs:List UInt8
 Yk:Int
 fe:Int
 O6:Int
 deriving Inhabited,DecidableEq
def alk:Gj:=.mk [] 0 0 0
def agR(v:Gj):J DV:=([.str v.fs])++([.int .i64 v.Yk])++([.int .i64 v.fe])++([.int .i64 v.O6])
structure fM where
 fb:Int
 lN:Bool
 deriving Inhabited,DecidableEq
def je:fM:=.mk 0 UV
def adz(v:fM):J DV:=([.int .u8 v.fb])++([.bool v.lN])
structure ck where
 qN:Int
 kz:Int
 deriving Inhabited,DecidableEq
def gE:ck:=.mk 0 0
def SW(v:ck):J DV:=([.int .u8 v.qN])++([.int .u8 v.kz])
structure aE where
 fKind:Int
 fText:List UInt8
 CD:Bool
 cY:List ck
 deriving Inhabited,DecidableEq
def gf:aE:=.mk 0 [] UV []
def RX(v:aE):J DV:=([.int .i64 v.fKind])++([.str v.fText])++([.bool v.CD])++([.slice 2 (v.cY.map SW)])
structure mq where
 fname:List UInt8
 sS:List ck
 deriving Inhabited,DecidableEq
def pZ:mq:=.mk [] []
def aiU(v:mq):J DV:=([.str v.fname])++([.slice 2 (v.sS.map SW)])
structure bH where
 dh:List UInt8
 dD:Int
 dN:Int
 deriving Inhabited,DecidableEq
def mC:bH:=.mk [] 0 0
def abV(v:bH):J DV:=([.str v.dh])++([.int .i64 v.dD])++([.int .i64 v.dN])
structure aO where
 cx:eU
 Vh:List bF
 eP:List gU
 lV:Int
 nN:Bool
 zM:List UInt8
 fZ:List UInt8
 w8:Int
def agS:aO:=.mk Kb [] [] 0 UV [] [] 0
def abW(v:aO):J DV:=(zU v.cx)++([.slice 3 (v.Vh.map wk)])++([.slice 2 (v.eP.map pK)])++([.int .i64 v.lV])++([.bool v.nN])++([.str v.zM])++([.str v.fZ])++([.int .i64 v.w8])
structure dm where
 fD:Bool
 kE:Bool
 dD:Int
 deriving Inhabited,DecidableEq
def apN:dm:=.mk UV UV 0
def alm(v:dm):J DV:=([.bool v.fD])++([.bool v.kE])++([.int .i64 v.dD])
structure dU where
 Yk:Int
 w8:Int
 deriving Inhabited,DecidableEq
def anD:dU:=.mk 0 0
def aiV(v:dU):J DV:=([.int .i64 v.Yk])++([.int .i64 v.w8])
structure fF where
 dN:Int
 O6:Int
 dh:List UInt8
 deriving Inhabited,DecidableEq
def aen:fF:=.mk 0 0 []
def Yl(v:fF):J DV:=([.int .i64 v.dN])++([.int .i64 v.O6])++([.str v.dh])
structure Gk where
 fs:List UInt8
 WH:fF
 deriving Inhabited,DecidableEq
def aln:Gk:=.mk [] aen
def agT(v:Gk):J DV:=([.str v.fs])++(Yl v.WH)
structure iw where
 Gg:List UInt8
 OU:Int
 fop:Int
 deriving Inhabited,DecidableEq
def z7:iw:=.mk [] 0 0
def agU(v:iw):J DV:=([.str v.Gg])++([.int .i64 v.OU])++([.int .i64 v.fop])
structure fq where
 fb:Int
 lN:Bool
 deriving Inhabited,DecidableEq
def cN:fq:=.mk 0 UV
def alo(v:fq):J DV:=([.int .u8 v.fb])++([.bool v.lN])
structure aX where
 dh:List UInt8
 dD:Int
 deriving Inhabited,DecidableEq
def mc:aX:=.mk [] 0
def YJ(v:aX):J DV:=([.str v.dh])++([.int .i64 v.dD])
structure dJ where
 I2:Int
 I3:List UInt8
 deriving Inhabited,DecidableEq
instance:BEq dJ:=⟨λa b=>(a.I2==b.I2&&(a.I3==b.I3&&WF))⟩
instance:LawfulBEq dJ:={
 eq_of_beq:=λ{a b} h=>by
  have h:(a.I2==b.I2&&(a.I3==b.I3&&WF))=WF:=h;simp only[cH,p7,and_true]at h;cases a;cases b;simp_all
 rfl:=λ{a}=>by
  show(a.I2==a.I2&&(a.I3==a.I3&&WF))=WF;simp}
def alp:dJ:=.mk 0 []
def agV(v:dJ):J DV:=([.int .i64 v.I2])++([.str v.I3])
structure bE where
 dh:List UInt8
 rX:List aE
 rY:Bool
 deriving Inhabited,DecidableEq
def JQ:bE:=.mk [] [] UV
def YK(v:bE):J DV:=([.str v.dh])++([.slice 4 (v.rX.map RX)])++([.bool v.rY])
structure iE where
 q8:List (List UInt8)
 rW:eU
 Dw:Bool
 agW:List UInt8
 SY:List UInt8
 ir:Int
def adA:iE:=.mk [] Kb UV [] [] 0
def YL(v:iE):J DV:=([.slice 1 (v.q8.map (λv=>[.str v]))])++(zU v.rW)++([.bool v.Dw])++([.str v.agW])++([.str v.SY])++([.int .i64 v.ir])
def ED:Nat->Type
 | 0=>vl
 | 1=>eU
 | 2=>bO
 | 3=>zA
 | 4=>TNode
 | 5=>sR
 | 6=>jc
 | 7=>TPart
 | 8=>v8
 | 9=>TItem
 | 10=>cw
 | 11=>AK
 | 12=>nQ
 | 13=>bF
 | 14=>gU
 | 15=>dy
 | 16=>bn
 | 17=>aB
 | 18=>cg
 | 19=>TExpr
 | 20=>Gj
 | 21=>fM
 | 22=>aE
 | 23=>ck
 | 24=>mq
 | 25=>bH
 | 26=>aO
 | 27=>dm
 | 28=>dU
 | 29=>fF
 | 30=>Gk
 | 31=>iw
 | 32=>fq
 | 33=>aX
 | 34=>dJ
 | 35=>bE
 | 36=>iE
 | _+37=>Unit
def Edf:Nat->Ty
 | 0=>(.pair (.ext 1) (.pair (.bq (.ext 13)) (.pair (.bq .str) (.pair (.bq (.ext 14)) .unit))))
 | 1=>(.pair .str (.pair (.bq (.ext 2)) (.pair (.bq .str) (.pair (.bq (.ext 3)) (.pair (.bq (.ext 10)) (.pair (.bq (.ext 11)) (.pair (.int .i64) (.pair (.int .i64) (.pair (.int .i64) (.pair (.int .i64) (.pair .str (.pair (.ext 12) (.pair (.int .i64) (.pair .bool .unit))))))))))))))
 | 2=>(.pair .str (.pair .str (.pair .bool (.pair .bool (.pair .bool .unit)))))
 | 3=>(.pair .str (.pair (.ext 4) .unit))
 | 4=>(.pair (.int .i64) (.pair (.int .i64) (.pair .str (.pair .bool (.pair (.bq (.ext 5)) (.pair (.bq (.ext 6)) (.pair (.bq (.ext 8)) (.pair (.bq (.ext 4)) (.pair (.bq (.ext 9)) .unit)))))))))
 | 5=>(.pair (.int .i64) (.pair .str (.pair (.ext 6) .unit)))
 | 6=>(.pair (.int .i64) (.pair (.bq (.ext 7)) .unit))
 | 7=>(.pair (.int .i64) (.pair .str (.pair (.int .i64) (.pair .bool (.pair (.bq (.ext 7)) .unit)))))
 | 8=>(.pair (.int .i64) (.pair (.int .i64) (.pair (.int .i64) (.pair (.ext 6) .unit))))
 | 9=>(.pair (.bq (.ext 6)) (.pair (.bq (.ext 4)) .unit))
 | 10=>(.pair .str (.pair .str .unit))
 | 11=>(.pair (.int .i64) (.pair .str .unit))
 | 12=>(.pair (.int .i64) (.pair (.int .i64) .unit))
 | 13=>(.pair .str (.pair .bool (.pair .str .unit)))
 | 14=>(.pair .str (.pair (.int .i64) .unit))
 | 15=>(.pair (.bq (.ext 7)) (.pair (.int .i64) (.pair (.int .i64) .unit)))
 | 16=>(.pair (.ext 1) (.pair (.bq (.ext 14)) (.pair (.int .i64) (.pair (.int .i64) (.pair (.int .i64) (.pair .str (.pair .bool (.pair .str .unit))))))))
 | 17=>(.pair .str (.pair (.int .i64) .unit))
 | 18=>(.pair .bool (.pair .bool (.pair .bool .unit)))
 | 19=>(.pair (.int .i64) (.pair (.int .i64) (.pair .str (.pair (.bq (.ext 19)) .unit))))
 | 20=>(.pair .str (.pair (.int .i64) (.pair (.int .i64) (.pair (.int .i64) .unit))))
 | 21=>(.pair (.int .u8) (.pair .bool .unit))
 | 22=>(.pair (.int .i64) (.pair .str (.pair .bool (.pair (.bq (.ext 23)) .unit))))
 | 23=>(.pair (.int .u8) (.pair (.int .u8) .unit))
 | 24=>(.pair .str (.pair (.bq (.ext 23)) .unit))
 | 25=>(.pair .str (.pair (.int .i64) (.pair (.int .i64) .unit)))
 | 26=>(.pair (.ext 1) (.pair (.bq (.ext 13)) (.pair (.bq (.ext 14)) (.pair (.int .i64) (.pair .bool (.pair .str (.pair .str (.pair (.int .i64) .unit))))))))
 | 27=>(.pair .bool (.pair .bool (.pair (.int .i64) .unit)))
 | 28=>(.pair (.int .i64) (.pair (.int .i64) .unit))
 | 29=>(.pair (.int .i64) (.pair (.int .i64) (.pair .str .unit)))
 | 30=>(.pair .str (.pair (.ext 29) .unit))
 | 31=>(.pair .str (.pair (.int .i64) (.pair (.int .i64) .unit)))
 | 32=>(.pair (.int .u8) (.pair .bool .unit))
 | 33=>(.pair .str (.pair (.int .i64) .unit))
 | 34=>(.pair (.int .i64) (.pair .str .unit))
 | 35=>(.pair .str (.pair (.bq (.ext 22)) (.pair .bool .unit)))
 | 36=>(.pair (.bq .str) (.pair (.ext 1) (.pair .bool (.pair .str (.pair .str (.pair (.int .i64) .unit))))))
 | _+37=>.unit
def arj:Nat->Nat
 | 0=>18
 | 1=>15
 | 2=>5
 | 3=>10
 | 4=>9
 | 5=>4
 | 6=>2
 | 7=>5
 | 8=>5
 | 9=>2
 | 10=>2
 | 11=>2
 | 12=>2
 | 13=>3
 | 14=>2
 | 15=>3
 | 16=>22
 | 17=>2
 | 18=>3
 | 19=>4
 | 20=>4
 | 21=>2
 | 22=>4
 | 23=>2
 | 24=>2
 | 25=>3
 | 26=>22
 | 27=>3
 | 28=>2
 | 29=>3
 | 30=>4
 | 31=>3
 | 32=>2
 | 33=>2
 | 34=>2
 | 35=>3
 | 36=>20
 | _+37=>0
def asM:(i:Nat)->ED i->J DV
 | 0,x=>VU x
 | 1,x=>zU x
 | 2,x=>Cu x
 | 3,x=>zS x
 | 4,x=>oN x
 | 5,x=>uj x
 | 6,x=>rT x
 | 7,x=>mm x
 | 8,x=>we x
 | 9,x=>rU x
 | 10,x=>wh x
 | 11,x=>zT x
 | 12,x=>AL x
 | 13,x=>wk x
 | 14,x=>pK x
 | 15,x=>agQ x
 | 16,x=>aiS x
 | 17,x=>anB x
 | 18,x=>aiT x
 | 19,x=>Ht x
 | 20,x=>agR x
 | 21,x=>adz x
 | 22,x=>RX x
 | 23,x=>SW x
 | 24,x=>aiU x
 | 25,x=>abV x
 | 26,x=>abW x
 | 27,x=>alm x
 | 28,x=>aiV x
 | 29,x=>Yl x
 | 30,x=>agT x
 | 31,x=>agU x
 | 32,x=>alo x
 | 33,x=>YJ x
 | 34,x=>agV x
 | 35,x=>YK x
 | 36,x=>YL x
 | _+37,_=>[]
def asN:(i:Nat)->ED i->(Edf i).den ED
 | 0,(x:vl)=>(x.rW,(x.qh,(x.Ke,(x.j8,()))))
 | 1,(x:eU)=>(x.fName,(x.bV,(x.cU,(x.yR,(x.rV,(x.yS,(x.jM,(x.ir,(x.GC,(x.rA,(x.GD,(x.Kc,(x.TC,(x.aiR,()))))))))))))))
 | 2,(x:bO)=>(x.fName,(x.bS,(x.cY,(x.Gi,(x.rL,())))))
 | 3,(x:zA)=>(x.fName,(x.fBody,()))
 | 4,(x:TNode)=>(x.fKind,(x.fPos,(x.fName,(x.fAll,(x.fAssigns,(x.fWords,(x.fRedirs,(x.fKids,(x.fItems,())))))))))
 | 5,(x:sR)=>(x.fPos,(x.fName,(x.bS,())))
 | 6,(x:jc)=>(x.fPos,(x.fParts,()))
 | 7,(x:TPart)=>(x.fKind,(x.fText,(x.fOp,(x.fColon,(x.fParts,())))))
 | 8,(x:v8)=>(x.fPos,(x.fFd,(x.fOp,(x.VN,()))))
 | 9,(x:TItem)=>(x.fPatterns,(x.fBody,()))
 | 10,(x:cw)=>(x.fName,(x.bS,()))
 | 11,(x:AK)=>(x.ajJ,(x.VQ,()))
 | 12,(x:nQ)=>(x.TB,(x.P7,()))
 | 13,(x:bF)=>(x.cj,(x.oO,(x.fData,())))
 | 14,(x:gU)=>(x.fText,(x.ir,()))
 | 15,(x:dy)=>(x.fParts,(x.Mr,(x.fE,())))
 | 16,(x:bn)=>(x.cx,(x.eP,(x.fused,(x.lV,(x.fe,(x.fZ,(x.nN,(x.zM,()))))))))
 | 17,(x:aB)=>(x.fText,(x.aL,()))
 | 18,(x:cg)=>(x.fD,(x.C3,(x.kE,())))
 | 19,(x:TExpr)=>(x.fOp,(x.fN,(x.fName,(x.fKids,()))))
 | 20,(x:Gj)=>(x.fs,(x.Yk,(x.fe,(x.O6,()))))
 | 21,(x:fM)=>(x.fb,(x.lN,()))
 | 22,(x:aE)=>(x.fKind,(x.fText,(x.CD,(x.cY,()))))
 | 23,(x:ck)=>(x.qN,(x.kz,()))
 | 24,(x:mq)=>(x.fname,(x.sS,()))
 | 25,(x:bH)=>(x.dh,(x.dD,(x.dN,())))
 | 26,(x:aO)=>(x.cx,(x.Vh,(x.eP,(x.lV,(x.nN,(x.zM,(x.fZ,(x.w8,()))))))))
 | 27,(x:dm)=>(x.fD,(x.kE,(x.dD,())))
 | 28,(x:dU)=>(x.Yk,(x.w8,()))
 | 29,(x:fF)=>(x.dN,(x.O6,(x.dh,())))
 | 30,(x:Gk)=>(x.fs,(x.WH,()))
 | 31,(x:iw)=>(x.Gg,(x.OU,(x.fop,())))
 | 32,(x:fq)=>(x.fb,(x.lN,()))
 | 33,(x:aX)=>(x.dh,(x.dD,()))
 | 34,(x:dJ)=>(x.I2,(x.I3,()))
 | 35,(x:bE)=>(x.dh,(x.rX,(x.rY,())))
 | 36,(x:iE)=>(x.q8,(x.rW,(x.Dw,(x.agW,(x.SY,(x.ir,()))))))
 | _+37,_=>()
def ark:(i:Nat)->(Edf i).den ED->ED i
 | 0,x=>vl.mk x.1 x.2.1 x.2.2.1 x.2.2.2.1
 | 1,x=>eU.mk x.1 x.2.1 x.2.2.1 x.2.2.2.1 x.2.2.2.2.1 x.2.2.2.2.2.1 x.2.2.2.2.2.2.1 x.2.2.2.2.2.2.2.1 x.2.2.2.2.2.2.2.2.1 x.2.2.2.2.2.2.2.2.2.1 x.2.2.2.2.2.2.2.2.2.2.1 x.2.2.2.2.2.2.2.2.2.2.2.1 x.2.2.2.2.2.2.2.2.2.2.2.2.1 x.2.2.2.2.2.2.2.2.2.2.2.2.2.1
 | 2,x=>bO.mk x.1 x.2.1 x.2.2.1 x.2.2.2.1 x.2.2.2.2.1
 | 3,x=>zA.mk x.1 x.2.1
 | 4,x=>TNode.mk x.1 x.2.1 x.2.2.1 x.2.2.2.1 x.2.2.2.2.1 x.2.2.2.2.2.1 x.2.2.2.2.2.2.1 x.2.2.2.2.2.2.2.1 x.2.2.2.2.2.2.2.2.1
 | 5,x=>sR.mk x.1 x.2.1 x.2.2.1
 | 6,x=>jc.mk x.1 x.2.1
 | 7,x=>TPart.mk x.1 x.2.1 x.2.2.1 x.2.2.2.1 x.2.2.2.2.1
 | 8,x=>v8.mk x.1 x.2.1 x.2.2.1 x.2.2.2.1
 | 9,x=>TItem.mk x.1 x.2.1
 | 10,x=>cw.mk x.1 x.2.1
 | 11,x=>AK.mk x.1 x.2.1
 | 12,x=>nQ.mk x.1 x.2.1
 | 13,x=>bF.mk x.1 x.2.1 x.2.2.1
 | 14,x=>gU.mk x.1 x.2.1
 | 15,x=>dy.mk x.1 x.2.1 x.2.2.1
 | 16,x=>bn.mk x.1 x.2.1 x.2.2.1 x.2.2.2.1 x.2.2.2.2.1 x.2.2.2.2.2.1 x.2.2.2.2.2.2.1 x.2.2.2.2.2.2.2.1
 | 17,x=>aB.mk x.1 x.2.1
 | 18,x=>cg.mk x.1 x.2.1 x.2.2.1
 | 19,x=>TExpr.mk x.1 x.2.1 x.2.2.1 x.2.2.2.1
 | 20,x=>Gj.mk x.1 x.2.1 x.2.2.1 x.2.2.2.1
 | 21,x=>fM.mk x.1 x.2.1
 | 22,x=>aE.mk x.1 x.2.1 x.2.2.1 x.2.2.2.1
 | 23,x=>ck.mk x.1 x.2.1
 | 24,x=>mq.mk x.1 x.2.1
 | 25,x=>bH.mk x.1 x.2.1 x.2.2.1
 | 26,x=>aO.mk x.1 x.2.1 x.2.2.1 x.2.2.2.1 x.2.2.2.2.1 x.2.2.2.2.2.1 x.2.2.2.2.2.2.1 x.2.2.2.2.2.2.2.1
 | 27,x=>dm.mk x.1 x.2.1 x.2.2.1
 | 28,x=>dU.mk x.1 x.2.1
 | 29,x=>fF.mk x.1 x.2.1 x.2.2.1
 | 30,x=>Gk.mk x.1 x.2.1
 | 31,x=>iw.mk x.1 x.2.1 x.2.2.1
 | 32,x=>fq.mk x.1 x.2.1
 | 33,x=>aX.mk x.1 x.2.1
 | 34,x=>dJ.mk x.1 x.2.1
 | 35,x=>bE.mk x.1 x.2.1 x.2.2.1
 | 36,x=>iE.mk x.1 x.2.1 x.2.2.1 x.2.2.2.1 x.2.2.2.2.1 x.2.2.2.2.2.1
 | _+37,_=>()
def asO:(i:Nat)->ED i
 | 0=>alZ
 | 1=>Kb
 | 2=>fP
 | 3=>ahr
 | 4=>Z4
 | 5=>Z2
 | 6=>yQ
 | 7=>iP
 | 8=>adO
 | 9=>ahq
 | 10=>qU
 | 11=>ahs
 | 12=>K6
 | 13=>b8
 | 14=>Cy
 | 15=>alj
 | 16=>anA
 | 17=>dw
 | 18=>anC
 | 19=>dH
 | 20=>alk
 | 21=>je
 | 22=>gf
 | 23=>gE
 | 24=>pZ
 | 25=>mC
 | 26=>agS
 | 27=>apN
 | 28=>anD
 | 29=>aen
 | 30=>aln
 | 31=>z7
 | 32=>cN
 | 33=>mc
 | 34=>alp
 | 35=>JQ
 | 36=>adA
 | _+37=>()
def Egb(b:Nat):O (aJ Value->Prop):=cond (ST b 1) (W0 (λcs=>cs=(Lib.pow10Tab.map λz=>Value.int .u64 z).toArray)) (cond (ST b 0) (W0 (λcs=>∃m,cs[0]? = W0 (Value.int .i64 m))) WP)
def Eyd(y:Nat)(Y:YD):Prop:=cond (ST y 3000000) (Y=UT 1 Tryz.f38 [WF,WF,WF,WF,UV,WF]) (False)
def alq(y:Nat):O Nat:=cond (ST y 3000000) (W0 1) (WP)
def Ezc(e:aK):Bool:=(!(ST e 441)&&(!(ST e 440)&&(!(ST e 6)&&(!(ST e 5)&&WF))))
def E:TEnv:=⟨ED,Edf,arj,asM,asN,ark,asO,Egb,Eyd,alq,Ezc⟩
theorem amm:∀(i:Nat)(x:E.D i),E.enc i x=(E.df i).cells E (E.AV i x)
 | 0,x=>by kernel_rfl
 | 1,x=>by kernel_rfl
 | 2,x=>rfl
 | 3,x=>by cases x with|mk y0 y1=>cases y1;kernel_rfl
 | 4,x=>by cases x;show oN _=_;simp only[oN,uE,uF];rfl
 | 5,x=>by kernel_rfl
 | 6,x=>rfl
 | 7,x=>by cases x;show mm _=_;simp only[mm,En];rfl
 | 8,x=>by kernel_rfl
 | 9,x=>by cases x;show rU _=_;simp only[rU,uE,uF];rfl
 | 10,x=>rfl
 | 11,x=>rfl
 | 12,x=>rfl
 | 13,x=>rfl
 | 14,x=>rfl
 | 15,x=>rfl
 | 16,x=>by kernel_rfl
 | 17,x=>rfl
 | 18,x=>rfl
 | 19,x=>by cases x;show Ht _=_;simp only[Ht,MH];rfl
 | 20,x=>rfl
 | 21,x=>rfl
 | 22,x=>rfl
 | 23,x=>rfl
 | 24,x=>rfl
 | 25,x=>rfl
 | 26,x=>by kernel_rfl
 | 27,x=>rfl
 | 28,x=>rfl
 | 29,x=>rfl
 | 30,x=>by kernel_rfl
 | 31,x=>rfl
 | 32,x=>rfl
 | 33,x=>rfl
 | 34,x=>rfl
 | 35,x=>rfl
 | 36,x=>by kernel_rfl
 | _+37,_=>rfl
theorem apO:∀(i:Nat)(y:(E.df i).den E.D),E.AV i (E.fold i y)=y:=by
 intro i
 iterate 37 (rcases i with _|i;· intro _;rfl)
 intro _;rfl
theorem apP:∀(i:Nat),E.size i=(E.df i).size E:=by
 intro i
 iterate 37 (rcases i with _|i;· rfl)
 rfl
theorem arl:∀(i:Nat)(x:E.D i),(E.enc i x).length=E.size i:=by
 intro i
 iterate 37 (rcases i with _|i;· intro x;rw[amm];first|rfl|(cases x with|mk y0 y1=>cases y1;rfl))
 intro _;rfl
theorem arn:∀(y:Nat)(Y:YD)(n:Nat),E.yd y Y->E.ydn y=W0 n->Y.params.size=n:=by
 intro y Y n h1 h2;have h1:Eyd y Y:=h1;have h2:alq y=W0 n:=h2;unfold Eyd at h1;unfold alq at h2;by_cases hb0:ST y 3000000=WF
 ·rw[hb0,aY]at h1 h2
  rw[h1];exact(rQ h2)▸(show(UT 1 Tryz.f38 [WF,WF,WF,WF,UV,WF]).params.size=1 by kernel_rfl)
 rw[Bool.not_eq_true]at hb0;rw[hb0,aM]at h1 h2;exact h1.elim
theorem Ek:E.Ok:=⟨amm,apO,apP,arl,arn⟩
def Ii:aK->O Ty:=λt=>(([(3,(.int .i64)),(4,.bool),(5,(.int .u8)),(9,.str),(21,(.int .i32)),(22,(.bq (.ext 2))),(23,(.bq .str)),(24,(.bq (.ext 3))),(25,(.bq (.ext 10))),(26,(.bq (.ext 11))),(27,(.ext 12)),(28,(.ext 12)),(29,(.ext 1)),(30,(.ext 1)),(31,(.bq (.ext 13))),(32,(.bq (.ext 14))),(33,(.ext 0)),(34,(.ext 0)),(35,(.bq (.ext 6))),(39,(.bq (.ext 7))),(40,(.ext 6)),(41,(.ext 6)),(42,(.ext 7)),(43,(.ext 7)),(46,(.ext 36)),(47,(.ext 36)),(48,(.int .i64)),(55,(.ext 14)),(56,(.ext 14)),(60,(.ext 2)),(61,(.ext 2)),(62,(.ext 13)),(63,(.ext 13)),(74,(.ext 27)),(75,(.ext 27)),(83,(.bq (.ext 17))),(85,(.ext 18)),(86,(.ext 18)),(87,(.bq (.bq (.ext 17)))),(90,(.ext 16)),(91,(.ext 16)),(94,(.ext 26)),(95,(.ext 26)),(104,(.ext 15)),(105,(.ext 15)),(110,(.bq (.bq (.ext 25)))),(112,(.bq (.ext 25))),(115,(.ext 17)),(116,(.ext 17)),(119,(.bq (.ext 22))),(124,(.bq (.bq (.ext 33)))),(126,(.bq (.ext 33))),(130,(.bq (.int .u8))),(141,(.bq (.ext 35))),(147,(.ext 35)),(148,(.ext 35)),(155,(.ext 10)),(156,(.ext 10)),(158,(.ext 11)),(159,(.ext 11)),(161,(.bq (.ext 5))),(162,(.bq (.ext 8))),(163,(.bq (.ext 4))),(164,(.bq (.ext 9))),(165,(.ext 4)),(166,(.ext 4)),(167,(.ext 3)),(168,(.ext 3)),(180,(.ext 25)),(181,(.ext 25)),(184,(.bq (.ext 23))),(185,(.ext 22)),(186,(.ext 22)),(188,(.bq (.ext 21))),(193,(.ext 21)),(194,(.ext 21)),(197,(.ext 33)),(198,(.ext 33)),(207,(.bq (.ext 32))),(211,(.ext 32)),(212,(.ext 32)),(215,(.ext 34)),(216,(.ext 34)),(221,(.ext 5)),(222,(.ext 5)),(226,(.ext 8)),(227,(.ext 8)),(230,(.ext 9)),(231,(.ext 9)),(238,(.bq (.ext 10))),(239,(.ext 10)),(269,(.ext 23)),(270,(.ext 23)),(284,(.int .u64)),(288,(.bq (.ext 19))),(289,(.ext 19)),(290,(.ext 19)),(299,(.bq (.ext 24))),(301,(.ext 24)),(302,(.ext 24)),(339,(.ext 20)),(340,(.ext 20)),(347,(.bq .bool)),(352,(.ext 28)),(353,(.ext 28)),(356,(.ext 29)),(357,(.ext 29)),(359,(.ext 30)),(360,(.ext 30)),(401,aiQ),(413,(.bq (.ext 31))),(415,(.ext 31)),(416,(.ext 31))]:J (Nat×Ty)).find? λp=>ST p.1 t).map (·.2)
theorem mixed:Tryz.prog.follows .mixedOrders=WF:=by kernel_rfl
noncomputable abbrev pg:=prog
set_option maxRecDepth 100000 in
theorem dz{Γ:J (bJ E)}{C:bJ E}{fn:Func}(F:Nat)(pl:dQ)(hΓ:∀C'∈Γ,C'.Ok pg)(hf:pg.funcs[C.s.f]? = W0 fn)(hn:(fn.name == "runtime.NumGoroutine")=UV:=by kernel_rfl)(h:∀x,abj ⟨pg,Ii,Γ,[],WP⟩ F C.s fn pl x=C.m x:=by intro x;kernel_rfl):C.Ok pg:=bJ.ZN (X:=⟨pg,Ii,Γ,[],WP⟩) (F:=F) ⟨Ek,hΓ,mixed,goN,Rc⟩ (pl:=pl) hf hn h
theorem tA{C:bJ E}(h:∀x,C.m x=WP):C.Ok pg:=λx y e=>nomatch (h x).symm.trans e
abbrev lf:dQ:=.leaf
abbrev qs(a b:dQ):dQ:=.seq [] WP a b
abbrev qa(b:dQ):dQ:=.seq [] WP .leaf b
def dp(l:J Int):J (Nat×Bool):=l.map λ
 | .ofNat n=>(n,WF)
 | .negSucc n=>(n,UV)
abbrev Bs:=J UInt8
abbrev u2{a b c:Type}(q:a->b->c)(x:a×b):c:=q x.1 x.2
abbrev u3{a b c d:Type}(q:a->b->c->d)(x:a×b×c):d:=q x.1 x.2.1 x.2.2
abbrev u4{a b c d e:Type}(q:a->b->c->d->e)(x:a×b×c×d):e:=q x.1 x.2.1 x.2.2.1 x.2.2.2
abbrev u5{a b c d e f:Type}(q:a->b->c->d->e->f)(x:a×b×c×d×e):f:=q x.1 x.2.1 x.2.2.1 x.2.2.2.1 x.2.2.2.2
abbrev u6{a b c d e f g:Type}(q:a->b->c->d->e->f->g)(x:a×b×c×d×e×f):g:=q x.1 x.2.1 x.2.2.1 x.2.2.2.1 x.2.2.2.2.1 x.2.2.2.2.2
abbrev u7{a b c d e f g h:Type}(q:a->b->c->d->e->f->g->h)(x:a×b×c×d×e×f×g):h:=q x.1 x.2.1 x.2.2.1 x.2.2.2.1 x.2.2.2.2.1 x.2.2.2.2.2.1 x.2.2.2.2.2.2
abbrev u8{a b c d e f g h i:Type}(q:a->b->c->d->e->f->g->h->i)(x:a×b×c×d×e×f×g×h):i:=q x.1 x.2.1 x.2.2.1 x.2.2.2.1 x.2.2.2.2.1 x.2.2.2.2.2.1 x.2.2.2.2.2.2.1 x.2.2.2.2.2.2.2
abbrev oE(n:Nat):PT:=.one (.dat (.ext n))
abbrev oL(n:Nat):PT:=.one (.dat (.bq (.ext n)))
abbrev oB:PT:=.one (.dat .bool)
abbrev oI:PT:=.one (.dat (.int .i64))
abbrev oU:PT:=.one (.dat (.int .u64))
abbrev oS:PT:=.one (.dat .str)
abbrev oT:PT:=.one (.dat (.bq .str))
def sh(f:Nat)(a:J PT)(r:PT):di:=⟨f,a,[],[],⟨r,[],[],[]⟩,WP,[]⟩
def ct(l:J (Nat×PT)):Cut:=⟨l,[],[],[]⟩
def rb(a b:Nat):Nat×Cut×Bool:=(a,ct [(b,oB)],UV)
def ro(a b:Nat)(t:PT):Nat×Cut×Bool:=(a,ct [(b,t)],UV)
def zW{A:Type}(_:A):Prop:=True
def wx{A:Type}{v:A}(_:zW v):A:=v
abbrev WQ(A:Type):=∀ {v:A},zW v->A
variable{A R S:Type}{x y:O R}{e:O A}{k:A -> O R}{b:Bool}
theorem ws(x:R):zW (W0 x):=trivial
theorem wn:zW (WP (α:=R)):=trivial
theorem ww(x:O R):zW x:=trivial
theorem wc(b:Bool)(_:zW x)(_:zW y):zW (cond b x y):=trivial
theorem wo(b:Bool){x:O Bool}(_:zW x):zW (cond b (W0 WF) x):=trivial
theorem wa(b:Bool){x:O Bool}(_:zW x):zW (cond b x (W0 UV)):=trivial
theorem wq(b:Bool)(_:zW x):zW (rq b x):=trivial
theorem wg(i:Int)(l:J A)(_:zW x):zW (rq (T1 (0<=i)&&T1 (i<l.length)) x):=trivial
theorem wi(l:J A)(i:Int)(d:A)(_:∀v,zW (k v)):zW (rq (T1 (0<=i)&&T1 (i<l.length)) (k (l.getD i.toNat d))):=trivial
theorem wb(e:O A)(_:∀v,zW (k v)):zW (e.bind k):=trivial
theorem wm(e:O A):zW (e.bind λx=>W0 x):=trivial
theorem kq(_:zW e):zW (e.bind λx=>W0 x):=trivial
theorem wv(_:zW e)(_:∀v,zW (k v)):zW (e.bind k):=trivial
theorem wu(A:Type){e:O A}{k:A->O R}(_:zW e)(_:∀v,zW (k v)):zW (e.bind k):=trivial
theorem wl(S:Type){f:(S->O R)->S->O R}(_:∀k v,zW (f k v))(F:Nat)(s:S):zW (bW f F s):=trivial
theorem wt(a:A)(_:∀v,zW (k v)):zW (k a):=trivial
theorem wp(m:Nat)(l r:J A){k:J A->O R}(_:∀v,zW (k v)):zW (rq (T1 (l.length+r.length<=9223372036854775807)&&T1 ((l.length+r.length)*m<=140737488355328)) (k (l++r))):=trivial
theorem wj(l r:J A){k:J A->O R}(_:∀v,zW (k v)):zW (rq (T1 (l.length+r.length<=9223372036854775807)) (k (l++r))):=trivial
variable{A0 A1 A2 A3 A4 A5 A6 A7 A8:Type}
theorem dn(e:O (A0×A1)){k:A0->A1->O R}(_:∀a b,zW (k a b)):zW (e.bind λx=>k x.1 x.2):=trivial
theorem yu{e:O (A0×A1)}{k:A0->A1->O R}(_:zW e)(_:∀a b,zW (k a b)):zW (e.bind λx=>k x.1 x.2):=trivial
theorem wu2(A0 A1:Type){e:O (A0×A1)}{k:A0->A1->O R}(_:zW e)(_:∀a b,zW (k a b)):zW (e.bind λx=>k x.1 x.2):=trivial
theorem ij(A0 A1:Type){f:((A0×A1)->O R)->A0->A1->O R}(_:∀k a b,zW (f k a b))(F:Nat)(s:A0×A1):zW (bW (λk x=>f k x.1 x.2) F s):=trivial
theorem mY(e:O (A0×A1×A2)){k:A0->A1->A2->O R}(_:∀a b c,zW (k a b c)):zW (e.bind λx=>k x.1 x.2.1 x.2.2):=trivial
theorem RY{e:O (A0×A1×A2)}{k:A0->A1->A2->O R}(_:zW e)(_:∀a b c,zW (k a b c)):zW (e.bind λx=>k x.1 x.2.1 x.2.2):=trivial
theorem uP(A0 A1 A2:Type){f:((A0×A1×A2)->O R)->A0->A1->A2->O R}(_:∀k a b c,zW (f k a b c))(F:Nat)(s:A0×A1×A2):zW (bW (λk x=>f k x.1 x.2.1 x.2.2) F s):=trivial
theorem KB(e:O (A0×A1×A2×A3)){k:A0->A1->A2->A3->O R}(_:∀a b c d,zW (k a b c d)):zW (e.bind λx=>k x.1 x.2.1 x.2.2.1 x.2.2.2):=trivial
theorem wv4{e:O (A0×A1×A2×A3)}{k:A0->A1->A2->A3->O R}(_:zW e)(_:∀a b c d,zW (k a b c d)):zW (e.bind λx=>k x.1 x.2.1 x.2.2.1 x.2.2.2):=trivial
theorem wl4(A0 A1 A2 A3:Type){f:((A0×A1×A2×A3)->O R)->A0->A1->A2->A3->O R}(_:∀k a b c d,zW (f k a b c d))(F:Nat)(s:A0×A1×A2×A3):zW (bW (λk x=>f k x.1 x.2.1 x.2.2.1 x.2.2.2) F s):=trivial
theorem Ao(e:O (A0×A1×A2×A3×A4)){k:A0->A1->A2->A3->A4->O R}(_:∀a b c d e,zW (k a b c d e)):zW (e.bind λx=>k x.1 x.2.1 x.2.2.1 x.2.2.2.1 x.2.2.2.2):=trivial
theorem wv5{e:O (A0×A1×A2×A3×A4)}{k:A0->A1->A2->A3->A4->O R}(_:zW e)(_:∀a b c d e,zW (k a b c d e)):zW (e.bind λx=>k x.1 x.2.1 x.2.2.1 x.2.2.2.1 x.2.2.2.2):=trivial
theorem wb6(e:O (A0×A1×A2×A3×A4×A5)){k:A0->A1->A2->A3->A4->A5->O R}(_:∀a b c d e g,zW (k a b c d e g)):zW (e.bind λx=>k x.1 x.2.1 x.2.2.1 x.2.2.2.1 x.2.2.2.2.1 x.2.2.2.2.2):=trivial
theorem wl7(A0 A1 A2 A3 A4 A5 A6:Type){f:((A0×A1×A2×A3×A4×A5×A6)->O R)->A0->A1->A2->A3->A4->A5->A6->O R}(_:∀k a b c d e g h,zW (f k a b c d e g h))(F:Nat)(s:A0×A1×A2×A3×A4×A5×A6):zW (bW (λk x=>f k x.1 x.2.1 x.2.2.1 x.2.2.2.1 x.2.2.2.2.1 x.2.2.2.2.2.1 x.2.2.2.2.2.2) F s):=trivial
theorem wl8(A0 A1 A2 A3 A4 A5 A6 A7:Type){f:((A0×A1×A2×A3×A4×A5×A6×A7)->O R)->A0->A1->A2->A3->A4->A5->A6->A7->O R}(_:∀k a b c d e g h i,zW (f k a b c d e g h i))(F:Nat)(s:A0×A1×A2×A3×A4×A5×A6×A7):zW (bW (λk x=>f k x.1 x.2.1 x.2.2.1 x.2.2.2.1 x.2.2.2.2.1 x.2.2.2.2.2.1 x.2.2.2.2.2.2.1 x.2.2.2.2.2.2.2) F s):=trivial
end Go.Proofs.YtkmlndnhiboofaaGreatDoor
