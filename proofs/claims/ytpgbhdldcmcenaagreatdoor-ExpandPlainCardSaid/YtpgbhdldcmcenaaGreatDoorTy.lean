import Derived.Test.YtpgbhdldcmcenaaGreatDoorSh
import Derived.Test.YtpgbhdldcmcenaaGreatDoorRk
import Derived.Test.YtpgbhdldcmcenaaGreatDoorChecked
set_option linter.all false
namespace Go.Proofs.YtpgbhdldcmcenaaGreatDoor
open Go.Proofs.Tryz
open Go.RT Go.RowKit Go.Maps Go.Sort Go.Shelf
open Go.Proofs (encStr)
theorem aoJ(k:Nat):AnyZ.SortsIn prog Tryz.Ra Fence.wide k:=
 ⟨fun blk off cap ss W hH hblk hsz=>callsIn_wide.2 (AnyM.slices_Sort_string Tryz.YM blk off cap ss W hH hblk hsz),
  fun p cap W=>callsIn_wide.2 (AnyM.slices_Sort_string_none Tryz.YM p cap W)⟩
theorem ako:aaO prog 282 342 257 9:=by
 intro w b0 b n D0 R hc hown hmax hbytes
 have hseq:SeqGives Fence.wide 2 prog 342 #[.pointer (some ⟨b0,0,none⟩)] encStr (fun ss=>ss.Perm (strKeys D0)) (Maps.size D0) w:=
  AnyZ.keys_gives (ρ:=Tryz.Xp) {Tryz.apV with} Fence.wide _ trivial rfl om b0 b n D0 _ (by
   have:=(Ag.1 hc).1;omega) (by simp [World.cell?,hc]) hown
 have cS:=AnyZ.sorted_in Tryz.amn Fence.wide 5 trivial trivial trivial trivial rfl om (aoJ _) (enters_of func72 kr rfl) 342 #[.pointer (some ⟨b0,0,none⟩)] trivial (enters_of func342 kr rfl) _ _ hmax hbytes _ hseq;change CallsIn _ _ prog 282 _ _ _ at cS;refine (callsIn_wide.1 cS).mono ?_;rintro e2 w2 ⟨v,ss,rfl,hS,hrow,-,hb⟩;exact⟨v,ss,rfl,hS,hrow,hb⟩
open Go.RT
abbrev ah9:Ty:=(.pair (.int .i64) (.pair (.int .i64) (.pair (.int .i64) (.pair (.int .i64) (.pair (.int .i64) (.pair (.int .i64) (.pair (.int .i64) (.pair (.int .i64) .unit))))))))
structure bO where
 fName:List UInt8
 bS:List UInt8
 cL:Bool
 uR:Bool
 lM:Bool
 deriving Inhabited,DecidableEq
def eo:bO:=.mk [] [] false false false
def Cf(v:bO):J DV:=([.str v.fName])++([.str v.bS])++([.bool v.cL])++([.bool v.uR])++([.bool v.lM])
inductive TPart where
 | mk (fKind:Int) (fText:List UInt8) (fOp:Int) (fColon:Bool) (fParts:List TPart)
def TPart.fKind:TPart->Int
 | .mk x _ _ _ _=>x
def TPart.fText:TPart->J UInt8
 | .mk _ x _ _ _=>x
def TPart.fOp:TPart->Int
 | .mk _ _ x _ _=>x
def TPart.fColon:TPart->Bool
 | .mk _ _ _ x _=>x
def TPart.fParts:TPart->J TPart
 | .mk _ _ _ _ x=>x
@[simp] theorem TPart.eta (v : TPart) : TPart.mk v.fKind v.fText v.fOp v.fColon v.fParts = v := by cases v; rfl
def iM:TPart:=.mk 0 [] 0 false []
mutual
def lY:TPart->J DV
 | .mk fKind fText fOp fColon fParts=>([.int .i64 fKind])++([.str fText])++([.int .i64 fOp])++([.bool fColon])++([.slice 5 (Ix fParts)])
def Ix:J TPart->J (J DV)
 | []=>[]
 | x::xs=>lY x::Ix xs
end
theorem D8:∀l,Ix l=l.map lY
 | []=>rfl
 | x::xs=>by simp only [Ix,jU,D8 xs]
structure iK where
 fPos:Int
 fParts:List TPart
def vF:iK:=.mk 0 []
def rE(v:iK):J DV:=([.int .i64 v.fPos])++([.slice 5 (v.fParts.map lY)])
structure sD where
 fPos:Int
 fName:List UInt8
 bS:iK
def Zi:sD:=.mk 0 [] vF
def tT(v:sD):J DV:=([.int .i64 v.fPos])++([.str v.fName])++(rE v.bS)
structure vG where
 fPos:Int
 fFd:Int
 fOp:Int
 Vb:iK
def ac6:vG:=.mk 0 0 0 vF
def vJ(v:vG):J DV:=([.int .i64 v.fPos])++([.int .i64 v.fFd])++([.int .i64 v.fOp])++(rE v.Vb)
mutual
inductive TNode where
 | mk (fKind:Int) (fPos:Int) (fName:List UInt8) (fAll:Bool) (fAssigns:List sD) (fWords:List iK) (fRedirs:List vG) (fKids:List TNode) (fItems:List TItem)
inductive TItem where
 | mk (fPatterns:List iK) (fBody:List TNode)
end
def TNode.fKind:TNode->Int
 | .mk x _ _ _ _ _ _ _ _=>x
def TNode.fPos:TNode->Int
 | .mk _ x _ _ _ _ _ _ _=>x
def TNode.fName:TNode->J UInt8
 | .mk _ _ x _ _ _ _ _ _=>x
def TNode.fAll:TNode->Bool
 | .mk _ _ _ x _ _ _ _ _=>x
def TNode.fAssigns:TNode->J sD
 | .mk _ _ _ _ x _ _ _ _=>x
def TNode.fWords:TNode->J iK
 | .mk _ _ _ _ _ x _ _ _=>x
def TNode.fRedirs:TNode->J vG
 | .mk _ _ _ _ _ _ x _ _=>x
def TNode.fKids:TNode->J TNode
 | .mk _ _ _ _ _ _ _ x _=>x
def TNode.fItems:TNode->J TItem
 | .mk _ _ _ _ _ _ _ _ x=>x
@[simp] theorem TNode.eta (v : TNode) : TNode.mk v.fKind v.fPos v.fName v.fAll v.fAssigns v.fWords v.fRedirs v.fKids v.fItems = v := by cases v; rfl
def TItem.fPatterns:TItem->J iK
 | .mk x _=>x
def TItem.fBody:TItem->J TNode
 | .mk _ x=>x
@[simp] theorem TItem.eta (v : TItem) : TItem.mk v.fPatterns v.fBody = v := by cases v; rfl
def Zk:TNode:=.mk 0 0 [] false [] [] [] [] []
def agL:TItem:=.mk [] []
mutual
def oG:TNode->J DV
 | .mk fKind fPos fName fAll fAssigns fWords fRedirs fKids fItems=>([.int .i64 fKind])++([.int .i64 fPos])++([.str fName])++([.bool fAll])++([.slice 4 (fAssigns.map tT)])++([.slice 2 (fWords.map rE)])++([.slice 5 (fRedirs.map vJ)])++([.slice 9 (DH fKids)])++([.slice 2 (Iy fItems)])
def rF:TItem->J DV
 | .mk fPatterns fBody=>([.slice 2 (fPatterns.map rE)])++([.slice 9 (DH fBody)])
def DH:J TNode->J (J DV)
 | []=>[]
 | x::xs=>oG x::DH xs
def Iy:J TItem->J (J DV)
 | []=>[]
 | x::xs=>rF x::Iy xs
end
theorem uo:∀l,DH l=l.map oG
 | []=>rfl
 | x::xs=>by simp only [DH,jU,uo xs]
theorem uq:∀l,Iy l=l.map rF
 | []=>rfl
 | x::xs=>by simp only [Iy,jU,uq xs]
structure za where
 fName:List UInt8
 fBody:TNode
def agM:za:=.mk [] Zk
def zD(v:za):J DV:=([.str v.fName])++(oG v.fBody)
structure cm where
 fName:List UInt8
 bS:List UInt8
 deriving Inhabited,DecidableEq
def qM:cm:=.mk [] []
def vK(v:cm):J DV:=([.str v.fName])++([.str v.bS])
structure Av where
 aiX:Int
 Vf:List UInt8
 deriving Inhabited,DecidableEq
def agN:Av:=.mk 0 []
def zE(v:Av):J DV:=([.int .i64 v.aiX])++([.str v.Vf])
structure nP where
 JS:Int
 F0:Int
 deriving Inhabited,DecidableEq
def KQ:nP:=.mk 0 0
def Aw(v:nP):J DV:=([.int .i64 v.JS])++([.int .i64 v.F0])
structure eH where
 fName:List UInt8
 bQ:List bO
 cK:List (List UInt8)
 ur:List za
 oH:List cm
 uu:List Av
 eB:Int
 fK:Int
 Ci:Int
 pz:Int
 KR:List UInt8
 xb:nP
 JU:Int
 Ux:Bool
def JT:eH:=.mk [] [] [] [] [] [] 0 0 0 0 [] KQ 0 false
def zF(v:eH):J DV:=([.str v.fName])++([.slice 5 (v.bQ.map Cf)])++([.slice 1 (v.cK.map (fun v=>[.str v]))])++([.slice 10 (v.ur.map zD)])++([.slice 2 (v.oH.map vK)])++([.slice 2 (v.uu.map zE)])++([.int .i64 v.eB])++([.int .i64 v.fK])++([.int .i64 v.Ci])++([.int .i64 v.pz])++([.str v.KR])++(Aw v.xb)++([.int .i64 v.JU])++([.bool v.Ux])
structure bE where
 cg:List UInt8
 oJ:Bool
 fData:List UInt8
 deriving Inhabited,DecidableEq
def bW:bE:=.mk [] false []
def vM(v:bE):J DV:=([.str v.cg])++([.bool v.oJ])++([.str v.fData])
structure ia where
 fText:List UInt8
 fK:Int
 deriving Inhabited,DecidableEq
def Cj:ia:=.mk [] 0
def pE(v:ia):J DV:=([.str v.fText])++([.int .i64 v.fK])
structure uZ where
 mJ:eH
 p7:List bE
 JV:List (List UInt8)
 jV:List ia
def ak7:uZ:=.mk JT [] [] []
def Vh(v:uZ):J DV:=(zF v.mJ)++([.slice 3 (v.p7.map vM)])++([.slice 1 (v.JV.map (fun v=>[.str v]))])++([.slice 2 (v.jV.map pE)])
structure dL where
 fParts:List TPart
 QF:Int
 fE:Int
def akp:dL:=.mk [] 0 0
def af9(v:dL):J DV:=([.slice 5 (v.fParts.map lY)])++([.int .i64 v.QF])++([.int .i64 v.fE])
structure bw where
 bX:eH
 eP:List ia
 fused:Int
 lN:Int
 fe:Int
 ga:List UInt8
 ov:Bool
 zm:List UInt8
def amF:bw:=.mk JT [] 0 0 0 [] false []
def aia(v:bw):J DV:=(zF v.bX)++([.slice 2 (v.eP.map pE)])++([.int .i64 v.fused])++([.int .i64 v.lN])++([.int .i64 v.fe])++([.str v.ga])++([.bool v.ov])++([.str v.zm])
structure aD where
 fText:List UInt8
 aN:Int
 deriving Inhabited,DecidableEq
def di:aD:=.mk [] 0
def amG(v:aD):J DV:=([.str v.fText])++([.int .i64 v.aN])
structure cQ where
 eR:Bool
 uf:Bool
 jB:Bool
 deriving Inhabited,DecidableEq
def amH:cQ:=.mk false false false
def aib(v:cQ):J DV:=([.bool v.eR])++([.bool v.uf])++([.bool v.jB])
inductive TExpr where
 | mk (fOp:Int) (fN:Int) (fName:List UInt8) (fKids:List TExpr)
def TExpr.fOp:TExpr->Int
 | .mk x _ _ _=>x
def TExpr.fN:TExpr->Int
 | .mk _ x _ _=>x
def TExpr.fName:TExpr->J UInt8
 | .mk _ _ x _=>x
def TExpr.fKids:TExpr->J TExpr
 | .mk _ _ _ x=>x
@[simp] theorem TExpr.eta (v : TExpr) : TExpr.mk v.fOp v.fN v.fName v.fKids = v := by cases v; rfl
def dB:TExpr:=.mk 0 0 [] []
mutual
def G5:TExpr->J DV
 | .mk fOp fN fName fKids=>([.int .i64 fOp])++([.int .i64 fN])++([.str fName])++([.slice 4 (Iz fKids)])
def Iz:J TExpr->J (J DV)
 | []=>[]
 | x::xs=>G5 x::Iz xs
end
theorem Mm:∀l,Iz l=l.map G5
 | []=>rfl
 | x::xs=>by simp only [Iz,jU,Mm xs]
structure Ga where
 fs:List UInt8
 Xy:Int
 fe:Int
 OM:Int
 deriving Inhabited,DecidableEq
def akq:Ga:=.mk [] 0 0 0
def aga(v:Ga):J DV:=([.str v.fs])++([.int .i64 v.Xy])++([.int .i64 v.fe])++([.int .i64 v.OM])
structure fP where
 fb:Int
 mA:Bool
 deriving Inhabited,DecidableEq
def iY:fP:=.mk 0 false
def acS(v:fP):J DV:=([.int .u8 v.fb])++([.bool v.mA])
structure cj where
 qG:Int
 kg:Int
 deriving Inhabited,DecidableEq
def gC:cj:=.mk 0 0
def Sn(v:cj):J DV:=([.int .u8 v.qG])++([.int .u8 v.kg])
structure aE where
 fKind:Int
 fText:List UInt8
 Cm:Bool
 cL:List cj
 deriving Inhabited,DecidableEq
def gi:aE:=.mk 0 [] false []
def Rj(v:aE):J DV:=([.int .i64 v.fKind])++([.str v.fText])++([.bool v.Cm])++([.slice 2 (v.cL.map Sn)])
structure mc where
 fname:List UInt8
 sF:List cj
 deriving Inhabited,DecidableEq
def pV:mc:=.mk [] []
def aic(v:mc):J DV:=([.str v.fname])++([.slice 2 (v.sF.map Sn)])
structure bH where
 dm:List UInt8
 dD:Int
 dI:Int
 deriving Inhabited,DecidableEq
def mu:bH:=.mk [] 0 0
def abg(v:bH):J DV:=([.str v.dm])++([.int .i64 v.dD])++([.int .i64 v.dI])
structure aL where
 bX:eH
 abh:List bE
 eP:List ia
 lN:Int
 ov:Bool
 zm:List UInt8
 ga:List UInt8
 wF:Int
def agb:aL:=.mk JT [] [] 0 false [] [] 0
def abj(v:aL):J DV:=(zF v.bX)++([.slice 3 (v.abh.map vM)])++([.slice 2 (v.eP.map pE)])++([.int .i64 v.lN])++([.bool v.ov])++([.str v.zm])++([.str v.ga])++([.int .i64 v.wF])
structure dh where
 eR:Bool
 jB:Bool
 dD:Int
 deriving Inhabited,DecidableEq
def aoK:dh:=.mk false false 0
def akr(v:dh):J DV:=([.bool v.eR])++([.bool v.jB])++([.int .i64 v.dD])
structure dP where
 Xy:Int
 wF:Int
 deriving Inhabited,DecidableEq
def amI:dP:=.mk 0 0
def aid(v:dP):J DV:=([.int .i64 v.Xy])++([.int .i64 v.wF])
structure fD where
 dI:Int
 OM:Int
 dm:List UInt8
 deriving Inhabited,DecidableEq
def adE:fD:=.mk 0 0 []
def Xz(v:fD):J DV:=([.int .i64 v.dI])++([.int .i64 v.OM])++([.str v.dm])
structure Gb where
 fs:List UInt8
 V2:fD
 deriving Inhabited,DecidableEq
def aks:Gb:=.mk [] adE
def agc(v:Gb):J DV:=([.str v.fs])++(Xz v.V2)
structure ig where
 F8:List UInt8
 Oz:Int
 fop:Int
 deriving Inhabited,DecidableEq
def zK:ig:=.mk [] 0 0
def agd(v:ig):J DV:=([.str v.F8])++([.int .i64 v.Oz])++([.int .i64 v.fop])
structure fB where
 fb:Int
 mA:Bool
 deriving Inhabited,DecidableEq
def cM:fB:=.mk 0 false
def akt(v:fB):J DV:=([.int .u8 v.fb])++([.bool v.mA])
structure aW where
 dm:List UInt8
 dD:Int
 deriving Inhabited,DecidableEq
def lV:aW:=.mk [] 0
def X0(v:aW):J DV:=([.str v.dm])++([.int .i64 v.dD])
structure dU where
 IA:Int
 IB:List UInt8
 deriving Inhabited,DecidableEq
instance:BEq dU:=⟨fun a b=>(a.IA==b.IA&&(a.IB==b.IB&&true))⟩
instance:LawfulBEq dU:={
 eq_of_beq:=fun {a b} h=>by
  have h:(a.IA==b.IA&&(a.IB==b.IB&&true))=true:=h;simp only [cE,uW,and_true] at h;cases a;cases b;simp_all
 rfl:=fun {a}=>by
  show (a.IA==a.IA&&(a.IB==a.IB&&true))=true;simp}
def aku:dU:=.mk 0 []
def age(v:dU):J DV:=([.int .i64 v.IA])++([.str v.IB])
structure bG where
 dm:List UInt8
 rG:List aE
 rH:Bool
 deriving Inhabited,DecidableEq
def Jt:bG:=.mk [] [] false
def X3(v:bG):J DV:=([.str v.dm])++([.slice 4 (v.rG.map Rj)])++([.bool v.rH])
structure gw where
 uS:List (List UInt8)
 mJ:eH
 Uy:Bool
 Uz:List UInt8
 G6:List UInt8
 fK:Int
def acT:gw:=.mk [] JT false [] [] 0
def X4(v:gw):J DV:=([.slice 1 (v.uS.map (fun v=>[.str v]))])++(zF v.mJ)++([.bool v.Uy])++([.str v.Uz])++([.str v.G6])++([.int .i64 v.fK])
def ED:Nat->Type
 | 0=>uZ
 | 1=>eH
 | 2=>bO
 | 3=>za
 | 4=>TNode
 | 5=>sD
 | 6=>iK
 | 7=>TPart
 | 8=>vG
 | 9=>TItem
 | 10=>cm
 | 11=>Av
 | 12=>nP
 | 13=>bE
 | 14=>ia
 | 15=>dL
 | 16=>bw
 | 17=>aD
 | 18=>cQ
 | 19=>TExpr
 | 20=>Ga
 | 21=>fP
 | 22=>aE
 | 23=>cj
 | 24=>mc
 | 25=>bH
 | 26=>aL
 | 27=>dh
 | 28=>dP
 | 29=>fD
 | 30=>Gb
 | 31=>ig
 | 32=>fB
 | 33=>aW
 | 34=>dU
 | 35=>bG
 | 36=>gw
 | _+37=>Unit
def Edf:Nat->Ty
 | 0=>(.pair (.ext 1) (.pair (.bn (.ext 13)) (.pair (.bn .str) (.pair (.bn (.ext 14)) .unit))))
 | 1=>(.pair .str (.pair (.bn (.ext 2)) (.pair (.bn .str) (.pair (.bn (.ext 3)) (.pair (.bn (.ext 10)) (.pair (.bn (.ext 11)) (.pair (.int .i64) (.pair (.int .i64) (.pair (.int .i64) (.pair (.int .i64) (.pair .str (.pair (.ext 12) (.pair (.int .i64) (.pair .bool .unit))))))))))))))
 | 2=>(.pair .str (.pair .str (.pair .bool (.pair .bool (.pair .bool .unit)))))
 | 3=>(.pair .str (.pair (.ext 4) .unit))
 | 4=>(.pair (.int .i64) (.pair (.int .i64) (.pair .str (.pair .bool (.pair (.bn (.ext 5)) (.pair (.bn (.ext 6)) (.pair (.bn (.ext 8)) (.pair (.bn (.ext 4)) (.pair (.bn (.ext 9)) .unit)))))))))
 | 5=>(.pair (.int .i64) (.pair .str (.pair (.ext 6) .unit)))
 | 6=>(.pair (.int .i64) (.pair (.bn (.ext 7)) .unit))
 | 7=>(.pair (.int .i64) (.pair .str (.pair (.int .i64) (.pair .bool (.pair (.bn (.ext 7)) .unit)))))
 | 8=>(.pair (.int .i64) (.pair (.int .i64) (.pair (.int .i64) (.pair (.ext 6) .unit))))
 | 9=>(.pair (.bn (.ext 6)) (.pair (.bn (.ext 4)) .unit))
 | 10=>(.pair .str (.pair .str .unit))
 | 11=>(.pair (.int .i64) (.pair .str .unit))
 | 12=>(.pair (.int .i64) (.pair (.int .i64) .unit))
 | 13=>(.pair .str (.pair .bool (.pair .str .unit)))
 | 14=>(.pair .str (.pair (.int .i64) .unit))
 | 15=>(.pair (.bn (.ext 7)) (.pair (.int .i64) (.pair (.int .i64) .unit)))
 | 16=>(.pair (.ext 1) (.pair (.bn (.ext 14)) (.pair (.int .i64) (.pair (.int .i64) (.pair (.int .i64) (.pair .str (.pair .bool (.pair .str .unit))))))))
 | 17=>(.pair .str (.pair (.int .i64) .unit))
 | 18=>(.pair .bool (.pair .bool (.pair .bool .unit)))
 | 19=>(.pair (.int .i64) (.pair (.int .i64) (.pair .str (.pair (.bn (.ext 19)) .unit))))
 | 20=>(.pair .str (.pair (.int .i64) (.pair (.int .i64) (.pair (.int .i64) .unit))))
 | 21=>(.pair (.int .u8) (.pair .bool .unit))
 | 22=>(.pair (.int .i64) (.pair .str (.pair .bool (.pair (.bn (.ext 23)) .unit))))
 | 23=>(.pair (.int .u8) (.pair (.int .u8) .unit))
 | 24=>(.pair .str (.pair (.bn (.ext 23)) .unit))
 | 25=>(.pair .str (.pair (.int .i64) (.pair (.int .i64) .unit)))
 | 26=>(.pair (.ext 1) (.pair (.bn (.ext 13)) (.pair (.bn (.ext 14)) (.pair (.int .i64) (.pair .bool (.pair .str (.pair .str (.pair (.int .i64) .unit))))))))
 | 27=>(.pair .bool (.pair .bool (.pair (.int .i64) .unit)))
 | 28=>(.pair (.int .i64) (.pair (.int .i64) .unit))
 | 29=>(.pair (.int .i64) (.pair (.int .i64) (.pair .str .unit)))
 | 30=>(.pair .str (.pair (.ext 29) .unit))
 | 31=>(.pair .str (.pair (.int .i64) (.pair (.int .i64) .unit)))
 | 32=>(.pair (.int .u8) (.pair .bool .unit))
 | 33=>(.pair .str (.pair (.int .i64) .unit))
 | 34=>(.pair (.int .i64) (.pair .str .unit))
 | 35=>(.pair .str (.pair (.bn (.ext 22)) (.pair .bool .unit)))
 | 36=>(.pair (.bn .str) (.pair (.ext 1) (.pair .bool (.pair .str (.pair .str (.pair (.int .i64) .unit))))))
 | _+37=>.unit
def ap8:Nat->Nat
 | 0=>18
 | 1=>15
 | 2=>5
 | 3=>10
 | 4=>9
 | 5=>4
 | 6=>2
 | 7=>5
 | 8=>5
 | 9=>2
 | 10=>2
 | 11=>2
 | 12=>2
 | 13=>3
 | 14=>2
 | 15=>3
 | 16=>22
 | 17=>2
 | 18=>3
 | 19=>4
 | 20=>4
 | 21=>2
 | 22=>4
 | 23=>2
 | 24=>2
 | 25=>3
 | 26=>22
 | 27=>3
 | 28=>2
 | 29=>3
 | 30=>4
 | 31=>3
 | 32=>2
 | 33=>2
 | 34=>2
 | 35=>3
 | 36=>20
 | _+37=>0
def arp:(i:Nat)->ED i->J DV
 | 0,x=>Vh x
 | 1,x=>zF x
 | 2,x=>Cf x
 | 3,x=>zD x
 | 4,x=>oG x
 | 5,x=>tT x
 | 6,x=>rE x
 | 7,x=>lY x
 | 8,x=>vJ x
 | 9,x=>rF x
 | 10,x=>vK x
 | 11,x=>zE x
 | 12,x=>Aw x
 | 13,x=>vM x
 | 14,x=>pE x
 | 15,x=>af9 x
 | 16,x=>aia x
 | 17,x=>amG x
 | 18,x=>aib x
 | 19,x=>G5 x
 | 20,x=>aga x
 | 21,x=>acS x
 | 22,x=>Rj x
 | 23,x=>Sn x
 | 24,x=>aic x
 | 25,x=>abg x
 | 26,x=>abj x
 | 27,x=>akr x
 | 28,x=>aid x
 | 29,x=>Xz x
 | 30,x=>agc x
 | 31,x=>agd x
 | 32,x=>akt x
 | 33,x=>X0 x
 | 34,x=>age x
 | 35,x=>X3 x
 | 36,x=>X4 x
 | _+37,_=>[]
def arq:(i:Nat)->ED i->(Edf i).den ED
 | 0,(x:uZ)=>(x.mJ,(x.p7,(x.JV,(x.jV,()))))
 | 1,(x:eH)=>(x.fName,(x.bQ,(x.cK,(x.ur,(x.oH,(x.uu,(x.eB,(x.fK,(x.Ci,(x.pz,(x.KR,(x.xb,(x.JU,(x.Ux,()))))))))))))))
 | 2,(x:bO)=>(x.fName,(x.bS,(x.cL,(x.uR,(x.lM,())))))
 | 3,(x:za)=>(x.fName,(x.fBody,()))
 | 4,(x:TNode)=>(x.fKind,(x.fPos,(x.fName,(x.fAll,(x.fAssigns,(x.fWords,(x.fRedirs,(x.fKids,(x.fItems,())))))))))
 | 5,(x:sD)=>(x.fPos,(x.fName,(x.bS,())))
 | 6,(x:iK)=>(x.fPos,(x.fParts,()))
 | 7,(x:TPart)=>(x.fKind,(x.fText,(x.fOp,(x.fColon,(x.fParts,())))))
 | 8,(x:vG)=>(x.fPos,(x.fFd,(x.fOp,(x.Vb,()))))
 | 9,(x:TItem)=>(x.fPatterns,(x.fBody,()))
 | 10,(x:cm)=>(x.fName,(x.bS,()))
 | 11,(x:Av)=>(x.aiX,(x.Vf,()))
 | 12,(x:nP)=>(x.JS,(x.F0,()))
 | 13,(x:bE)=>(x.cg,(x.oJ,(x.fData,())))
 | 14,(x:ia)=>(x.fText,(x.fK,()))
 | 15,(x:dL)=>(x.fParts,(x.QF,(x.fE,())))
 | 16,(x:bw)=>(x.bX,(x.eP,(x.fused,(x.lN,(x.fe,(x.ga,(x.ov,(x.zm,()))))))))
 | 17,(x:aD)=>(x.fText,(x.aN,()))
 | 18,(x:cQ)=>(x.eR,(x.uf,(x.jB,())))
 | 19,(x:TExpr)=>(x.fOp,(x.fN,(x.fName,(x.fKids,()))))
 | 20,(x:Ga)=>(x.fs,(x.Xy,(x.fe,(x.OM,()))))
 | 21,(x:fP)=>(x.fb,(x.mA,()))
 | 22,(x:aE)=>(x.fKind,(x.fText,(x.Cm,(x.cL,()))))
 | 23,(x:cj)=>(x.qG,(x.kg,()))
 | 24,(x:mc)=>(x.fname,(x.sF,()))
 | 25,(x:bH)=>(x.dm,(x.dD,(x.dI,())))
 | 26,(x:aL)=>(x.bX,(x.abh,(x.eP,(x.lN,(x.ov,(x.zm,(x.ga,(x.wF,()))))))))
 | 27,(x:dh)=>(x.eR,(x.jB,(x.dD,())))
 | 28,(x:dP)=>(x.Xy,(x.wF,()))
 | 29,(x:fD)=>(x.dI,(x.OM,(x.dm,())))
 | 30,(x:Gb)=>(x.fs,(x.V2,()))
 | 31,(x:ig)=>(x.F8,(x.Oz,(x.fop,())))
 | 32,(x:fB)=>(x.fb,(x.mA,()))
 | 33,(x:aW)=>(x.dm,(x.dD,()))
 | 34,(x:dU)=>(x.IA,(x.IB,()))
 | 35,(x:bG)=>(x.dm,(x.rG,(x.rH,())))
 | 36,(x:gw)=>(x.uS,(x.mJ,(x.Uy,(x.Uz,(x.G6,(x.fK,()))))))
 | _+37,_=>()
def ap9:(i:Nat)->(Edf i).den ED->ED i
 | 0,x=>uZ.mk x.1 x.2.1 x.2.2.1 x.2.2.2.1
 | 1,x=>eH.mk x.1 x.2.1 x.2.2.1 x.2.2.2.1 x.2.2.2.2.1 x.2.2.2.2.2.1 x.2.2.2.2.2.2.1 x.2.2.2.2.2.2.2.1 x.2.2.2.2.2.2.2.2.1 x.2.2.2.2.2.2.2.2.2.1 x.2.2.2.2.2.2.2.2.2.2.1 x.2.2.2.2.2.2.2.2.2.2.2.1 x.2.2.2.2.2.2.2.2.2.2.2.2.1 x.2.2.2.2.2.2.2.2.2.2.2.2.2.1
 | 2,x=>bO.mk x.1 x.2.1 x.2.2.1 x.2.2.2.1 x.2.2.2.2.1
 | 3,x=>za.mk x.1 x.2.1
 | 4,x=>TNode.mk x.1 x.2.1 x.2.2.1 x.2.2.2.1 x.2.2.2.2.1 x.2.2.2.2.2.1 x.2.2.2.2.2.2.1 x.2.2.2.2.2.2.2.1 x.2.2.2.2.2.2.2.2.1
 | 5,x=>sD.mk x.1 x.2.1 x.2.2.1
 | 6,x=>iK.mk x.1 x.2.1
 | 7,x=>TPart.mk x.1 x.2.1 x.2.2.1 x.2.2.2.1 x.2.2.2.2.1
 | 8,x=>vG.mk x.1 x.2.1 x.2.2.1 x.2.2.2.1
 | 9,x=>TItem.mk x.1 x.2.1
 | 10,x=>cm.mk x.1 x.2.1
 | 11,x=>Av.mk x.1 x.2.1
 | 12,x=>nP.mk x.1 x.2.1
 | 13,x=>bE.mk x.1 x.2.1 x.2.2.1
 | 14,x=>ia.mk x.1 x.2.1
 | 15,x=>dL.mk x.1 x.2.1 x.2.2.1
 | 16,x=>bw.mk x.1 x.2.1 x.2.2.1 x.2.2.2.1 x.2.2.2.2.1 x.2.2.2.2.2.1 x.2.2.2.2.2.2.1 x.2.2.2.2.2.2.2.1
 | 17,x=>aD.mk x.1 x.2.1
 | 18,x=>cQ.mk x.1 x.2.1 x.2.2.1
 | 19,x=>TExpr.mk x.1 x.2.1 x.2.2.1 x.2.2.2.1
 | 20,x=>Ga.mk x.1 x.2.1 x.2.2.1 x.2.2.2.1
 | 21,x=>fP.mk x.1 x.2.1
 | 22,x=>aE.mk x.1 x.2.1 x.2.2.1 x.2.2.2.1
 | 23,x=>cj.mk x.1 x.2.1
 | 24,x=>mc.mk x.1 x.2.1
 | 25,x=>bH.mk x.1 x.2.1 x.2.2.1
 | 26,x=>aL.mk x.1 x.2.1 x.2.2.1 x.2.2.2.1 x.2.2.2.2.1 x.2.2.2.2.2.1 x.2.2.2.2.2.2.1 x.2.2.2.2.2.2.2.1
 | 27,x=>dh.mk x.1 x.2.1 x.2.2.1
 | 28,x=>dP.mk x.1 x.2.1
 | 29,x=>fD.mk x.1 x.2.1 x.2.2.1
 | 30,x=>Gb.mk x.1 x.2.1
 | 31,x=>ig.mk x.1 x.2.1 x.2.2.1
 | 32,x=>fB.mk x.1 x.2.1
 | 33,x=>aW.mk x.1 x.2.1
 | 34,x=>dU.mk x.1 x.2.1
 | 35,x=>bG.mk x.1 x.2.1 x.2.2.1
 | 36,x=>gw.mk x.1 x.2.1 x.2.2.1 x.2.2.2.1 x.2.2.2.2.1 x.2.2.2.2.2.1
 | _+37,_=>()
def ars:(i:Nat)->ED i
 | 0=>ak7
 | 1=>JT
 | 2=>eo
 | 3=>agM
 | 4=>Zk
 | 5=>Zi
 | 6=>vF
 | 7=>iM
 | 8=>ac6
 | 9=>agL
 | 10=>qM
 | 11=>agN
 | 12=>KQ
 | 13=>bW
 | 14=>Cj
 | 15=>akp
 | 16=>amF
 | 17=>di
 | 18=>amH
 | 19=>dB
 | 20=>akq
 | 21=>iY
 | 22=>gi
 | 23=>gC
 | 24=>pV
 | 25=>mu
 | 26=>agb
 | 27=>aoK
 | 28=>amI
 | 29=>adE
 | 30=>aks
 | 31=>zK
 | 32=>cM
 | 33=>lV
 | 34=>aku
 | 35=>Jt
 | 36=>acT
 | _+37=>()
def Egb(b:Nat):O (aG Value->Prop):=cond (Nat.beq b 1) (some (fun cs=>cs=(Lib.pow10Tab.map fun z=>Value.int .u64 z).toArray)) (cond (Nat.beq b 0) (some (fun cs=>∃m,cs[0]? = some (Value.int .i64 m))) none)
def Eyd(y:Nat)(Y:YD):Prop:=cond (Nat.beq y 3000000) (Y=Ub 1 Tryz.f44 [true,true,true,true,false,true]) (False)
def akv(y:Nat):O Nat:=cond (Nat.beq y 3000000) (some 1) (none)
def Ezc(e:aI):Bool:=(!(Nat.beq e 442)&&(!(Nat.beq e 441)&&(!(Nat.beq e 6)&&(!(Nat.beq e 5)&&true))))
def E:TEnv:=⟨ED,Edf,ap8,arp,arq,ap9,ars,Egb,Eyd,akv,Ezc⟩
theorem alv:∀(i:Nat)(x:E.D i),E.enc i x=(E.df i).cells E (E.AE i x)
 | 0,x=>by kernel_rfl
 | 1,x=>by kernel_rfl
 | 2,x=>rfl
 | 3,x=>by cases x with|mk y0 y1=>cases y1;kernel_rfl
 | 4,x=>by cases x;show oG _=_;simp only [oG,uo,uq];rfl
 | 5,x=>by kernel_rfl
 | 6,x=>rfl
 | 7,x=>by cases x;show lY _=_;simp only [lY,D8];rfl
 | 8,x=>by kernel_rfl
 | 9,x=>by cases x;show rF _=_;simp only [rF,uo,uq];rfl
 | 10,x=>rfl
 | 11,x=>rfl
 | 12,x=>rfl
 | 13,x=>rfl
 | 14,x=>rfl
 | 15,x=>rfl
 | 16,x=>by kernel_rfl
 | 17,x=>rfl
 | 18,x=>rfl
 | 19,x=>by cases x;show G5 _=_;simp only [G5,Mm];rfl
 | 20,x=>rfl
 | 21,x=>rfl
 | 22,x=>rfl
 | 23,x=>rfl
 | 24,x=>rfl
 | 25,x=>rfl
 | 26,x=>by kernel_rfl
 | 27,x=>rfl
 | 28,x=>rfl
 | 29,x=>rfl
 | 30,x=>by kernel_rfl
 | 31,x=>rfl
 | 32,x=>rfl
 | 33,x=>rfl
 | 34,x=>rfl
 | 35,x=>rfl
 | 36,x=>by kernel_rfl
 | _+37,_=>rfl
theorem aoL:∀(i:Nat)(y:(E.df i).den E.D),E.AE i (E.fold i y)=y:=by
 intro i
 iterate 37 (rcases i with _|i;· intro _;rfl)
 intro _;rfl
theorem aoM:∀(i:Nat),E.size i=(E.df i).size E:=by
 intro i
 iterate 37 (rcases i with _|i;· rfl)
 rfl
theorem aqa:∀(i:Nat)(x:E.D i),(E.enc i x).length=E.size i:=by
 intro i
 iterate 37 (rcases i with _|i;· intro x;rw [alv];first|rfl|(cases x with|mk y0 y1=>cases y1;rfl))
 intro _;rfl
theorem aqb:∀(y:Nat)(Y:YD)(n:Nat),E.yd y Y->E.ydn y=some n->Y.params.size=n:=by
 intro y Y n h1 h2;have h1:Eyd y Y:=h1;have h2:akv y=some n:=h2;unfold Eyd at h1;unfold akv at h2;by_cases hb0:Nat.beq y 3000000=true
 ·rw [hb0,aZ] at h1 h2
  rw [h1];exact (qE h2)▸(show (Ub 1 Tryz.f44 [true,true,true,true,false,true]).params.size=1 by kernel_rfl)
 rw [Bool.not_eq_true] at hb0;rw [hb0,aK] at h1 h2;exact h1.elim
theorem D5:E.Ok:=⟨alv,aoL,aoM,aqa,aqb⟩
def HT:aI->O Ty:=fun t=>(([(3,(.int .i64)),(4,.bool),(5,(.int .u8)),(9,.str),(21,(.int .i32)),(22,(.bn (.ext 2))),(23,(.bn .str)),(24,(.bn (.ext 3))),(25,(.bn (.ext 10))),(26,(.bn (.ext 11))),(27,(.ext 12)),(28,(.ext 12)),(29,(.ext 1)),(30,(.ext 1)),(31,(.bn (.ext 13))),(32,(.bn (.ext 14))),(33,(.ext 0)),(34,(.ext 0)),(35,(.bn (.ext 6))),(41,(.ext 36)),(42,(.ext 36)),(43,(.int .i64)),(49,(.bn (.ext 7))),(50,(.ext 6)),(51,(.ext 6)),(55,(.ext 14)),(56,(.ext 14)),(59,(.ext 13)),(60,(.ext 13)),(63,(.ext 2)),(64,(.ext 2)),(73,(.ext 7)),(74,(.ext 7)),(81,(.bn (.ext 17))),(83,(.ext 18)),(84,(.ext 18)),(85,(.bn (.bn (.ext 17)))),(88,(.ext 16)),(89,(.ext 16)),(96,(.ext 27)),(97,(.ext 27)),(98,(.ext 26)),(99,(.ext 26)),(107,(.ext 15)),(108,(.ext 15)),(111,(.bn (.bn (.ext 25)))),(113,(.bn (.ext 25))),(116,(.ext 17)),(117,(.ext 17)),(120,(.bn (.ext 22))),(126,(.bn (.bn (.ext 33)))),(128,(.bn (.ext 33))),(132,(.bn (.int .u8))),(143,(.bn (.ext 35))),(149,(.ext 35)),(150,(.ext 35)),(157,(.ext 10)),(158,(.ext 10)),(160,(.ext 11)),(161,(.ext 11)),(163,(.bn (.ext 5))),(164,(.bn (.ext 8))),(165,(.bn (.ext 4))),(166,(.bn (.ext 9))),(167,(.ext 4)),(168,(.ext 4)),(169,(.ext 3)),(170,(.ext 3)),(181,(.ext 25)),(182,(.ext 25)),(185,(.bn (.ext 23))),(186,(.ext 22)),(187,(.ext 22)),(189,(.bn (.ext 21))),(194,(.ext 21)),(195,(.ext 21)),(198,(.ext 33)),(199,(.ext 33)),(208,(.bn (.ext 32))),(212,(.ext 32)),(213,(.ext 32)),(216,(.ext 34)),(217,(.ext 34)),(222,(.ext 5)),(223,(.ext 5)),(227,(.ext 8)),(228,(.ext 8)),(231,(.ext 9)),(232,(.ext 9)),(239,(.bn (.ext 10))),(240,(.ext 10)),(270,(.ext 23)),(271,(.ext 23)),(285,(.int .u64)),(289,(.bn (.ext 19))),(290,(.ext 19)),(291,(.ext 19)),(300,(.bn (.ext 24))),(302,(.ext 24)),(303,(.ext 24)),(340,(.ext 20)),(341,(.ext 20)),(348,(.bn .bool)),(353,(.ext 28)),(354,(.ext 28)),(357,(.ext 29)),(358,(.ext 29)),(360,(.ext 30)),(361,(.ext 30)),(402,ah9),(414,(.bn (.ext 31))),(416,(.ext 31)),(417,(.ext 31))]:J (Nat×Ty)).find? fun p=>Nat.beq p.1 t).map (·.2)
theorem mixed:Tryz.prog.follows .mixedOrders=true:=by kernel_rfl
noncomputable abbrev pg:=prog
set_option maxRecDepth 100000 in
theorem dx{Γ:J (bJ E)}{C:bJ E}{fn:Func}(F:Nat)(pl:dN)(hΓ:∀C'∈Γ,C'.Ok pg)(hf:pg.funcs[C.s.f]? = some fn)(hn:(fn.name == "runtime.NumGoroutine")=false:=by kernel_rfl)(h:∀x,aaF ⟨pg,HT,Γ,[],none⟩ F C.s fn pl x=C.m x:=by intro x;kernel_rfl):C.Ok pg:=bJ.Y2 (X:=⟨pg,HT,Γ,[],none⟩) (F:=F) ⟨D5,hΓ,mixed,goN,QC⟩ (pl:=pl) hf hn h
theorem s7{C:bJ E}(h:∀x,C.m x=none):C.Ok pg:=fun x y e=>nomatch (h x).symm.trans e
abbrev lf:dN:=.leaf
abbrev qs(a b:dN):dN:=.seq [] none a b
abbrev qa(b:dN):dN:=.seq [] none .leaf b
def dp(l:J Int):J (Nat×Bool):=l.map fun
 | .ofNat n=>(n,true)
 | .negSucc n=>(n,false)
abbrev Bs:=J UInt8
abbrev u2{a b c:Type}(q:a->b->c)(x:a×b):c:=q x.1 x.2
abbrev u3{a b c d:Type}(q:a->b->c->d)(x:a×b×c):d:=q x.1 x.2.1 x.2.2
abbrev u4{a b c d e:Type}(q:a->b->c->d->e)(x:a×b×c×d):e:=q x.1 x.2.1 x.2.2.1 x.2.2.2
abbrev u5{a b c d e f:Type}(q:a->b->c->d->e->f)(x:a×b×c×d×e):f:=q x.1 x.2.1 x.2.2.1 x.2.2.2.1 x.2.2.2.2
abbrev u6{a b c d e f g:Type}(q:a->b->c->d->e->f->g)(x:a×b×c×d×e×f):g:=q x.1 x.2.1 x.2.2.1 x.2.2.2.1 x.2.2.2.2.1 x.2.2.2.2.2
abbrev u7{a b c d e f g h:Type}(q:a->b->c->d->e->f->g->h)(x:a×b×c×d×e×f×g):h:=q x.1 x.2.1 x.2.2.1 x.2.2.2.1 x.2.2.2.2.1 x.2.2.2.2.2.1 x.2.2.2.2.2.2
abbrev u8{a b c d e f g h i:Type}(q:a->b->c->d->e->f->g->h->i)(x:a×b×c×d×e×f×g×h):i:=q x.1 x.2.1 x.2.2.1 x.2.2.2.1 x.2.2.2.2.1 x.2.2.2.2.2.1 x.2.2.2.2.2.2.1 x.2.2.2.2.2.2.2
abbrev oE(n:Nat):PT:=.one (.dat (.ext n))
abbrev oL(n:Nat):PT:=.one (.dat (.bn (.ext n)))
abbrev oB:PT:=.one (.dat .bool)
abbrev oI:PT:=.one (.dat (.int .i64))
abbrev oU:PT:=.one (.dat (.int .u64))
abbrev oS:PT:=.one (.dat .str)
abbrev oT:PT:=.one (.dat (.bn .str))
def sh(f:Nat)(a:J PT)(r:PT):dc:=⟨f,a,[],[],⟨r,[],[],[]⟩,none,[]⟩
def ct(l:J (Nat×PT)):Cut:=⟨l,[],[],[]⟩
def rb(a b:Nat):Nat×Cut×Bool:=(a,ct [(b,oB)],false)
def ro(a b:Nat)(t:PT):Nat×Cut×Bool:=(a,ct [(b,t)],false)
def zW{A:Type}(_:A):Prop:=True
def wx{A:Type}{v:A}(_:zW v):A:=v
abbrev WQ(A:Type):=∀ {v:A},zW v->A
variable{A R S:Type}{x y:O R}{e:O A}{k:A -> O R}{b:Bool}
theorem ws(x:R):zW (some x):=trivial
theorem wn:zW (none (α:=R)):=trivial
theorem ww(x:O R):zW x:=trivial
theorem wc(b:Bool)(_:zW x)(_:zW y):zW (cond b x y):=trivial
theorem wo(b:Bool){x:O Bool}(_:zW x):zW (cond b (some true) x):=trivial
theorem wa(b:Bool){x:O Bool}(_:zW x):zW (cond b x (some false)):=trivial
theorem wq(b:Bool)(_:zW x):zW (rq b x):=trivial
theorem wg(i:Int)(l:J A)(_:zW x):zW (rq (decide (0<=i)&&decide (i<l.length)) x):=trivial
theorem wi(l:J A)(i:Int)(d:A)(_:∀v,zW (k v)):zW (rq (decide (0<=i)&&decide (i<l.length)) (k (l.getD i.toNat d))):=trivial
theorem wb(e:O A)(_:∀v,zW (k v)):zW (e.bind k):=trivial
theorem wm(e:O A):zW (e.bind fun x=>some x):=trivial
theorem jR(_:zW e):zW (e.bind fun x=>some x):=trivial
theorem wv(_:zW e)(_:∀v,zW (k v)):zW (e.bind k):=trivial
theorem wu(A:Type){e:O A}{k:A->O R}(_:zW e)(_:∀v,zW (k v)):zW (e.bind k):=trivial
theorem wl(S:Type){f:(S->O R)->S->O R}(_:∀k v,zW (f k v))(F:Nat)(s:S):zW (b8 f F s):=trivial
theorem wt(a:A)(_:∀v,zW (k v)):zW (k a):=trivial
theorem wp(m:Nat)(l r:J A){k:J A->O R}(_:∀v,zW (k v)):zW (rq (decide (l.length+r.length<=9223372036854775807)&&decide ((l.length+r.length)*m<=140737488355328)) (k (l++r))):=trivial
theorem wj(l r:J A){k:J A->O R}(_:∀v,zW (k v)):zW (rq (decide (l.length+r.length<=9223372036854775807)) (k (l++r))):=trivial
variable{A0 A1 A2 A3 A4 A5 A6 A7 A8:Type}
theorem cY(e:O (A0×A1)){k:A0->A1->O R}(_:∀a b,zW (k a b)):zW (e.bind fun x=>k x.1 x.2):=trivial
theorem yT{e:O (A0×A1)}{k:A0->A1->O R}(_:zW e)(_:∀a b,zW (k a b)):zW (e.bind fun x=>k x.1 x.2):=trivial
theorem wu2(A0 A1:Type){e:O (A0×A1)}{k:A0->A1->O R}(_:zW e)(_:∀a b,zW (k a b)):zW (e.bind fun x=>k x.1 x.2):=trivial
theorem gV(A0 A1:Type){f:((A0×A1)->O R)->A0->A1->O R}(_:∀k a b,zW (f k a b))(F:Nat)(s:A0×A1):zW (b8 (fun k x=>f k x.1 x.2) F s):=trivial
theorem mV(e:O (A0×A1×A2)){k:A0->A1->A2->O R}(_:∀a b c,zW (k a b c)):zW (e.bind fun x=>k x.1 x.2.1 x.2.2):=trivial
theorem Rk{e:O (A0×A1×A2)}{k:A0->A1->A2->O R}(_:zW e)(_:∀a b c,zW (k a b c)):zW (e.bind fun x=>k x.1 x.2.1 x.2.2):=trivial
theorem uF(A0 A1 A2:Type){f:((A0×A1×A2)->O R)->A0->A1->A2->O R}(_:∀k a b c,zW (f k a b c))(F:Nat)(s:A0×A1×A2):zW (b8 (fun k x=>f k x.1 x.2.1 x.2.2) F s):=trivial
theorem Km(e:O (A0×A1×A2×A3)){k:A0->A1->A2->A3->O R}(_:∀a b c d,zW (k a b c d)):zW (e.bind fun x=>k x.1 x.2.1 x.2.2.1 x.2.2.2):=trivial
theorem wv4{e:O (A0×A1×A2×A3)}{k:A0->A1->A2->A3->O R}(_:zW e)(_:∀a b c d,zW (k a b c d)):zW (e.bind fun x=>k x.1 x.2.1 x.2.2.1 x.2.2.2):=trivial
theorem wl4(A0 A1 A2 A3:Type){f:((A0×A1×A2×A3)->O R)->A0->A1->A2->A3->O R}(_:∀k a b c d,zW (f k a b c d))(F:Nat)(s:A0×A1×A2×A3):zW (b8 (fun k x=>f k x.1 x.2.1 x.2.2.1 x.2.2.2) F s):=trivial
theorem Aa(e:O (A0×A1×A2×A3×A4)){k:A0->A1->A2->A3->A4->O R}(_:∀a b c d e,zW (k a b c d e)):zW (e.bind fun x=>k x.1 x.2.1 x.2.2.1 x.2.2.2.1 x.2.2.2.2):=trivial
theorem wv5{e:O (A0×A1×A2×A3×A4)}{k:A0->A1->A2->A3->A4->O R}(_:zW e)(_:∀a b c d e,zW (k a b c d e)):zW (e.bind fun x=>k x.1 x.2.1 x.2.2.1 x.2.2.2.1 x.2.2.2.2):=trivial
theorem wb6(e:O (A0×A1×A2×A3×A4×A5)){k:A0->A1->A2->A3->A4->A5->O R}(_:∀a b c d e g,zW (k a b c d e g)):zW (e.bind fun x=>k x.1 x.2.1 x.2.2.1 x.2.2.2.1 x.2.2.2.2.1 x.2.2.2.2.2):=trivial
theorem wl7(A0 A1 A2 A3 A4 A5 A6:Type){f:((A0×A1×A2×A3×A4×A5×A6)->O R)->A0->A1->A2->A3->A4->A5->A6->O R}(_:∀k a b c d e g h,zW (f k a b c d e g h))(F:Nat)(s:A0×A1×A2×A3×A4×A5×A6):zW (b8 (fun k x=>f k x.1 x.2.1 x.2.2.1 x.2.2.2.1 x.2.2.2.2.1 x.2.2.2.2.2.1 x.2.2.2.2.2.2) F s):=trivial
theorem wl8(A0 A1 A2 A3 A4 A5 A6 A7:Type){f:((A0×A1×A2×A3×A4×A5×A6×A7)->O R)->A0->A1->A2->A3->A4->A5->A6->A7->O R}(_:∀k a b c d e g h i,zW (f k a b c d e g h i))(F:Nat)(s:A0×A1×A2×A3×A4×A5×A6×A7):zW (b8 (fun k x=>f k x.1 x.2.1 x.2.2.1 x.2.2.2.1 x.2.2.2.2.1 x.2.2.2.2.2.1 x.2.2.2.2.2.2.1 x.2.2.2.2.2.2.2) F s):=trivial
end Go.Proofs.YtpgbhdldcmcenaaGreatDoor
