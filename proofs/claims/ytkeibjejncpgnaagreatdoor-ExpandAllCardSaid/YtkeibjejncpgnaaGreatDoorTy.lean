import Derived.Test.YtkeibjejncpgnaaGreatDoorSh
import Derived.Test.YtkeibjejncpgnaaGreatDoorRk
import Derived.Test.YtkeibjejncpgnaaGreatDoorChecked
set_option linter.all false
namespace Go.Proofs.YtkeibjejncpgnaaGreatDoor
open Go.RT Go.RowKit Go.Maps Go.Sort Go.Shelf
open Go.Proofs (encStr)
theorem alv (k:Nat):AnyZ.SortsIn Tryz.prog Tryz.Ng Fence.wide k :=
 ⟨fun blk off cap ss W hH hblk hsz=>callsIn_wide.2 (AnyM.slices_Sort_string Tryz.XW blk off cap ss W hH hblk hsz),
  fun p cap W=>callsIn_wide.2 (AnyM.slices_Sort_string_none Tryz.XW p cap W)⟩
theorem ah2:Z0 Tryz.prog 279 339 254 9:=by
 intro w b0 b n D0 R hc hown hmax hbytes
 have hseq:SeqGives Fence.wide 2 Tryz.prog 339 #[.pointer (some ⟨b0,0,none⟩)] encStr (fun ss=>ss.Perm (strKeys D0)) (Maps.size D0) w :=
  AnyZ.keys_gives (ρ:=Tryz.VA) { Tryz.amU with } Fence.wide _ trivial rfl om b0 b n D0 _ (by
   have:=(lF.1 hc).1;omega) (by simp [World.cell?,hc]) hown
 have cS:=AnyZ.sorted_in Tryz.ajL Fence.wide 5 trivial trivial trivial trivial rfl om (alv _) (enters_of Tryz.func68 kr rfl) 339 #[.pointer (some ⟨b0,0,none⟩)] trivial (enters_of Tryz.func339 kr rfl) _ _ hmax hbytes _ hseq;change CallsIn _ _ Tryz.prog 279 _ _ _ at cS;refine (callsIn_wide.1 cS).mono ?_;rintro e2 w2 ⟨v,ss,rfl,hS,hrow,-,hb⟩;exact⟨v,ss,rfl,hS,hrow,hb⟩
open Go.RT
structure bq where
 fName:List UInt8
 bN:List UInt8
 fq:Bool
 L3:Bool
 zg:Bool
 deriving Inhabited,DecidableEq
def cQ:bq:=.mk [] [] false false false
def pV (v:bq):List DV:=([.str v.fName])++([.str v.bN])++([.bool v.fq])++([.bool v.L3])++([.bool v.zg])
inductive TPart where
 | mk (fKind:Int) (fText:List UInt8) (fOp:Int) (fColon:Bool) (fParts:List TPart)
def TPart.fKind:TPart→Int
 | .mk x _ _ _ _=>x
def TPart.fText:TPart→List UInt8
 | .mk _ x _ _ _=>x
def TPart.fOp:TPart→Int
 | .mk _ _ x _ _=>x
def TPart.fColon:TPart→Bool
 | .mk _ _ _ x _=>x
def TPart.fParts:TPart→List TPart
 | .mk _ _ _ _ x=>x
@[simp] theorem TPart.eta (v : TPart) : TPart.mk v.fKind v.fText v.fOp v.fColon v.fParts = v := by cases v; rfl
def dn:TPart:=.mk 0 [] 0 false []
mutual
def fD:TPart→List DV
 | .mk fKind fText fOp fColon fParts=>([.int .i64 fKind])++([.str fText])++([.int .i64 fOp])++([.bool fColon])++([.slice 5 (DA fParts)])
def DA:List TPart→List (List DV)
 | []=>[]
 | x::xs=>fD x::DA xs
end
theorem zL:∀l,DA l=l.map fD
 | []=>rfl
 | x::xs=>by simp only [DA,eV,zL xs]
structure cD where
 fPos:Int
 fParts:List TPart
def tn:cD:=.mk 0 []
def gO (v:cD):List DV:=([.int .i64 v.fPos])++([.slice 5 (v.fParts.map fD)])
structure kI where
 fPos:Int
 fName:List UInt8
 bN:cD
def Yn:kI:=.mk 0 [] tn
def jq (v:kI):List DV:=([.int .i64 v.fPos])++([.str v.fName])++(gO v.bN)
structure nu where
 fPos:Int
 fFd:Int
 fOp:Int
 Sh:cD
def acB:nu:=.mk 0 0 0 tn
def kB (v:nu):List DV:=([.int .i64 v.fPos])++([.int .i64 v.fFd])++([.int .i64 v.fOp])++(gO v.Sh)
mutual
inductive TNode where
 | mk (fKind:Int) (fPos:Int) (fName:List UInt8) (fAll:Bool) (fAssigns:List kI) (fWords:List cD) (fRedirs:List nu) (fKids:List TNode) (fItems:List TItem)
inductive TItem where
 | mk (fPatterns:List cD) (fBody:List TNode)
end
def TNode.fKind:TNode→Int
 | .mk x _ _ _ _ _ _ _ _=>x
def TNode.fPos:TNode→Int
 | .mk _ x _ _ _ _ _ _ _=>x
def TNode.fName:TNode→List UInt8
 | .mk _ _ x _ _ _ _ _ _=>x
def TNode.fAll:TNode→Bool
 | .mk _ _ _ x _ _ _ _ _=>x
def TNode.fAssigns:TNode→List kI
 | .mk _ _ _ _ x _ _ _ _=>x
def TNode.fWords:TNode→List cD
 | .mk _ _ _ _ _ x _ _ _=>x
def TNode.fRedirs:TNode→List nu
 | .mk _ _ _ _ _ _ x _ _=>x
def TNode.fKids:TNode→List TNode
 | .mk _ _ _ _ _ _ _ x _=>x
def TNode.fItems:TNode→List TItem
 | .mk _ _ _ _ _ _ _ _ x=>x
@[simp] theorem TNode.eta (v : TNode) : TNode.mk v.fKind v.fPos v.fName v.fAll v.fAssigns v.fWords v.fRedirs v.fKids v.fItems = v := by cases v; rfl
def TItem.fPatterns:TItem→List cD
 | .mk x _=>x
def TItem.fBody:TItem→List TNode
 | .mk _ x=>x
@[simp] theorem TItem.eta (v : TItem) : TItem.mk v.fPatterns v.fBody = v := by cases v; rfl
def Yp:TNode:=.mk 0 0 [] false [] [] [] [] []
def afC:TItem:=.mk [] []
mutual
def gr:TNode→List DV
 | .mk fKind fPos fName fAll fAssigns fWords fRedirs fKids fItems=>([.int .i64 fKind])++([.int .i64 fPos])++([.str fName])++([.bool fAll])++([.slice 4 (fAssigns.map jq)])++([.slice 2 (fWords.map gO)])++([.slice 5 (fRedirs.map kB)])++([.slice 9 (zh fKids)])++([.slice 2 (DB fItems)])
def jf:TItem→List DV
 | .mk fPatterns fBody=>([.slice 2 (fPatterns.map gO)])++([.slice 9 (zh fBody)])
def zh:List TNode→List (List DV)
 | []=>[]
 | x::xs=>gr x::zh xs
def DB:List TItem→List (List DV)
 | []=>[]
 | x::xs=>jf x::DB xs
end
theorem pH:∀l,zh l=l.map gr
 | []=>rfl
 | x::xs=>by simp only [zh,eV,pH xs]
theorem pI:∀l,DB l=l.map jf
 | []=>rfl
 | x::xs=>by simp only [DB,eV,pI xs]
structure oH where
 fName:List UInt8
 fBody:TNode
def afD:oH:=.mk [] Yp
def mC (v:oH):List DV:=([.str v.fName])++(gr v.fBody)
structure aO where
 fName:List UInt8
 bN:List UInt8
 deriving Inhabited,DecidableEq
def eX:aO:=.mk [] []
def kC (v:aO):List DV:=([.str v.fName])++([.str v.bN])
structure rN where
 ag0:Int
 Sk:List UInt8
 deriving Inhabited,DecidableEq
def afE:rN:=.mk 0 []
def mD (v:rN):List DV:=([.int .i64 v.ag0])++([.str v.Sk])
structure gu where
 Pc:Int
 Lv:Int
 deriving Inhabited,DecidableEq
def Gt:gu:=.mk 0 0
def nv (v:gu):List DV:=([.int .i64 v.Pc])++([.int .i64 v.Lv])
structure cG where
 fName:List UInt8
 bG:List bq
 aJ:List (List UInt8)
 ve:List oH
 oJ:List aO
 vf:List rN
 hU:Int
 gm:Int
 NS:Int
 AB:Int
 JD:List UInt8
 Fc:gu
 Pd:Int
 agm:Bool
def Fb:cG:=.mk [] [] [] [] [] [] 0 0 0 0 [] Gt 0 false
def oK (v:cG):List DV:=([.str v.fName])++([.slice 5 (v.bG.map pV)])++([.slice 1 (v.aJ.map (fun v=>[.str v]))])++([.slice 10 (v.ve.map mC)])++([.slice 2 (v.oJ.map kC)])++([.slice 2 (v.vf.map mD)])++([.int .i64 v.hU])++([.int .i64 v.gm])++([.int .i64 v.NS])++([.int .i64 v.AB])++([.str v.JD])++(nv v.Fc)++([.int .i64 v.Pd])++([.bool v.agm])
structure aL where
 aU:List UInt8
 jg:Bool
 fData:List UInt8
 deriving Inhabited,DecidableEq
def aN:aL:=.mk [] false []
def kL (v:aL):List DV:=([.str v.aU])++([.bool v.jg])++([.str v.fData])
structure cZ where
 fText:List UInt8
 gm:Int
 deriving Inhabited,DecidableEq
def kM:cZ:=.mk [] 0
def gX (v:cZ):List DV:=([.str v.fText])++([.int .i64 v.gm])
structure qF where
 dS:cG
 fY:List aL
 Fe:List (List UInt8)
 fV:List cZ
def aiI:qF:=.mk Fb [] [] []
def Lw (v:qF):List DV:=(oK v.dS)++([.slice 3 (v.fY.map kL)])++([.slice 1 (v.Fe.map (fun v=>[.str v]))])++([.slice 2 (v.fV.map gX)])
structure bU where
 fParts:List TPart
 QA:Int
 fE:Int
def ah3:bU:=.mk [] 0 0
def ae4 (v:bU):List DV:=([.slice 5 (v.fParts.map fD)])++([.int .i64 v.QA])++([.int .i64 v.fE])
structure aX where
 bF:cG
 cO:List cZ
 fused:Int
 sg:Int
 fe:Int
 jW:List UInt8
 yI:Bool
 DC:List UInt8
def ajM:aX:=.mk Fb [] 0 0 0 [] false []
def agn (v:aX):List DV:=(oK v.bF)++([.slice 2 (v.cO.map gX)])++([.int .i64 v.fused])++([.int .i64 v.sg])++([.int .i64 v.fe])++([.str v.jW])++([.bool v.yI])++([.str v.DC])
structure ah where
 fText:List UInt8
 aC:Int
 deriving Inhabited,DecidableEq
def aY:ah:=.mk [] 0
def ajN (v:ah):List DV:=([.str v.fText])++([.int .i64 v.aC])
structure dB where
 jm:Bool
 G4:Bool
 pY:Bool
 deriving Inhabited,DecidableEq
def ajO:dB:=.mk false false false
def ago (v:dB):List DV:=([.bool v.jm])++([.bool v.G4])++([.bool v.pY])
inductive TExpr where
 | mk (fOp:Int) (fN:Int) (fName:List UInt8) (fKids:List TExpr)
def TExpr.fOp:TExpr→Int
 | .mk x _ _ _=>x
def TExpr.fN:TExpr→Int
 | .mk _ x _ _=>x
def TExpr.fName:TExpr→List UInt8
 | .mk _ _ x _=>x
def TExpr.fKids:TExpr→List TExpr
 | .mk _ _ _ x=>x
@[simp] theorem TExpr.eta (v : TExpr) : TExpr.mk v.fOp v.fN v.fName v.fKids = v := by cases v; rfl
def dU:TExpr:=.mk 0 0 [] []
mutual
def B2:TExpr→List DV
 | .mk fOp fN fName fKids=>([.int .i64 fOp])++([.int .i64 fN])++([.str fName])++([.slice 4 (DD fKids)])
def DD:List TExpr→List (List DV)
 | []=>[]
 | x::xs=>B2 x::DD xs
end
theorem Ia:∀l,DD l=l.map B2
 | []=>rfl
 | x::xs=>by simp only [DD,eV,Ia xs]
structure sj where
 fs:List UInt8
 VF:Int
 fe:Int
 Kx:Int
 deriving Inhabited,DecidableEq
def ah4:sj:=.mk [] 0 0 0
def ae5 (v:sj):List DV:=([.str v.fs])++([.int .i64 v.VF])++([.int .i64 v.fe])++([.int .i64 v.Kx])
structure cA where
 fb:Int
 gS:Bool
 deriving Inhabited,DecidableEq
def dY:cA:=.mk 0 false
def abZ (v:cA):List DV:=([.int .u8 v.fb])++([.bool v.gS])
structure bH where
 zM:Int
 rQ:Int
 deriving Inhabited,DecidableEq
def gJ:bH:=.mk 0 0
def Og (v:bH):List DV:=([.int .u8 v.zM])++([.int .u8 v.rQ])
structure av where
 fKind:Int
 fText:List UInt8
 Gw:Bool
 fq:List bH
 deriving Inhabited,DecidableEq
def bE:av:=.mk 0 [] false []
def Nh (v:av):List DV:=([.int .i64 v.fKind])++([.str v.fText])++([.bool v.Gw])++([.slice 2 (v.fq.map Og)])
structure j8 where
 fname:List UInt8
 Pr:List bH
 deriving Inhabited,DecidableEq
def Bo:j8:=.mk [] []
def agp (v:j8):List DV:=([.str v.fname])++([.slice 2 (v.Pr.map Og)])
structure aR where
 bR:List UInt8
 dh:Int
 ud:Int
 deriving Inhabited,DecidableEq
def eB:aR:=.mk [] 0 0
def Z5 (v:aR):List DV:=([.str v.bR])++([.int .i64 v.dh])++([.int .i64 v.ud])
structure aH where
 bF:cG
 Z6:List aL
 cO:List cZ
 sg:Int
 yI:Bool
 DC:List UInt8
 jW:List UInt8
 G5:Int
def ae6:aH:=.mk Fb [] [] 0 false [] [] 0
def Z7 (v:aH):List DV:=(oK v.bF)++([.slice 3 (v.Z6.map kL)])++([.slice 2 (v.cO.map gX)])++([.int .i64 v.sg])++([.bool v.yI])++([.str v.DC])++([.str v.jW])++([.int .i64 v.G5])
structure cm where
 jm:Bool
 pY:Bool
 dh:Int
 deriving Inhabited,DecidableEq
def alw:cm:=.mk false false 0
def ah5 (v:cm):List DV:=([.bool v.jm])++([.bool v.pY])++([.int .i64 v.dh])
structure dx where
 VF:Int
 G5:Int
 deriving Inhabited,DecidableEq
def ajP:dx:=.mk 0 0
def agq (v:dx):List DV:=([.int .i64 v.VF])++([.int .i64 v.G5])
structure ja where
 ud:Int
 Kx:Int
 bR:List UInt8
 deriving Inhabited,DecidableEq
def ac1:ja:=.mk 0 0 []
def VG (v:ja):List DV:=([.int .i64 v.ud])++([.int .i64 v.Kx])++([.str v.bR])
structure pZ where
 fs:List UInt8
 SY:ja
 deriving Inhabited,DecidableEq
def ah6:pZ:=.mk [] ac1
def ae7 (v:pZ):List DV:=([.str v.fs])++(VG v.SY)
structure ew where
 FF:List UInt8
 QB:Int
 fop:Int
 deriving Inhabited,DecidableEq
def mK:ew:=.mk [] 0 0
def ae8 (v:ew):List DV:=([.str v.FF])++([.int .i64 v.QB])++([.int .i64 v.fop])
structure ay where
 bR:List UInt8
 dh:Int
 deriving Inhabited,DecidableEq
def dy:ay:=.mk [] 0
def V4 (v:ay):List DV:=([.str v.bR])++([.int .i64 v.dh])
structure bB where
 DE:Int
 DF:List UInt8
 deriving Inhabited,DecidableEq
instance:BEq bB:=⟨fun a b=>(a.DE==b.DE&&(a.DF==b.DF&&true))⟩
instance:LawfulBEq bB:={
 eq_of_beq:=fun {a b} h=>by
  have h:(a.DE==b.DE&&(a.DF==b.DF&&true))=true:=h;simp only [aV,beq_iff_eq,and_true] at h;cases a;cases b;simp_all
 rfl:=fun {a}=>by
  show (a.DE==a.DE&&(a.DF==a.DF&&true))=true;simp }
def ah7:bB:=.mk 0 []
def ae9 (v:bB):List DV:=([.int .i64 v.DE])++([.str v.DF])
structure aI where
 bR:List UInt8
 jh:List av
 mG:Bool
 deriving Inhabited,DecidableEq
def gy:aI:=.mk [] [] false
def V5 (v:aI):List DV:=([.str v.bR])++([.slice 4 (v.jh.map Nh)])++([.bool v.mG])
structure fm where
 fb:Int
 gS:Bool
 deriving Inhabited,DecidableEq
def ey:fm:=.mk 0 false
def ah8 (v:fm):List DV:=([.int .u8 v.fb])++([.bool v.gS])
structure dX where
 uI:List (List UInt8)
 dS:cG
 afa:Bool
 afb:List UInt8
 Oh:List UInt8
 gm:Int
def ab0:dX:=.mk [] Fb false [] [] 0
def V6 (v:dX):List DV:=([.slice 1 (v.uI.map (fun v=>[.str v]))])++(oK v.dS)++([.bool v.afa])++([.str v.afb])++([.str v.Oh])++([.int .i64 v.gm])
def ED:Nat→Type
 | 0=>qF
 | 1=>cG
 | 2=>bq
 | 3=>oH
 | 4=>TNode
 | 5=>kI
 | 6=>cD
 | 7=>TPart
 | 8=>nu
 | 9=>TItem
 | 10=>aO
 | 11=>rN
 | 12=>gu
 | 13=>aL
 | 14=>cZ
 | 15=>bU
 | 16=>aX
 | 17=>ah
 | 18=>dB
 | 19=>TExpr
 | 20=>sj
 | 21=>cA
 | 22=>av
 | 23=>bH
 | 24=>j8
 | 25=>aR
 | 26=>aH
 | 27=>cm
 | 28=>dx
 | 29=>ja
 | 30=>pZ
 | 31=>ew
 | 32=>ay
 | 33=>bB
 | 34=>aI
 | 35=>fm
 | 36=>dX
 | _+37=>Unit
def Edf:Nat→Ty
 | 0=>(.pair (.ext 1) (.pair (.aG (.ext 13)) (.pair (.aG .str) (.pair (.aG (.ext 14)) .unit))))
 | 1=>(.pair .str (.pair (.aG (.ext 2)) (.pair (.aG .str) (.pair (.aG (.ext 3)) (.pair (.aG (.ext 10)) (.pair (.aG (.ext 11)) (.pair (.int .i64) (.pair (.int .i64) (.pair (.int .i64) (.pair (.int .i64) (.pair .str (.pair (.ext 12) (.pair (.int .i64) (.pair .bool .unit))))))))))))))
 | 2=>(.pair .str (.pair .str (.pair .bool (.pair .bool (.pair .bool .unit)))))
 | 3=>(.pair .str (.pair (.ext 4) .unit))
 | 4=>(.pair (.int .i64) (.pair (.int .i64) (.pair .str (.pair .bool (.pair (.aG (.ext 5)) (.pair (.aG (.ext 6)) (.pair (.aG (.ext 8)) (.pair (.aG (.ext 4)) (.pair (.aG (.ext 9)) .unit)))))))))
 | 5=>(.pair (.int .i64) (.pair .str (.pair (.ext 6) .unit)))
 | 6=>(.pair (.int .i64) (.pair (.aG (.ext 7)) .unit))
 | 7=>(.pair (.int .i64) (.pair .str (.pair (.int .i64) (.pair .bool (.pair (.aG (.ext 7)) .unit)))))
 | 8=>(.pair (.int .i64) (.pair (.int .i64) (.pair (.int .i64) (.pair (.ext 6) .unit))))
 | 9=>(.pair (.aG (.ext 6)) (.pair (.aG (.ext 4)) .unit))
 | 10=>(.pair .str (.pair .str .unit))
 | 11=>(.pair (.int .i64) (.pair .str .unit))
 | 12=>(.pair (.int .i64) (.pair (.int .i64) .unit))
 | 13=>(.pair .str (.pair .bool (.pair .str .unit)))
 | 14=>(.pair .str (.pair (.int .i64) .unit))
 | 15=>(.pair (.aG (.ext 7)) (.pair (.int .i64) (.pair (.int .i64) .unit)))
 | 16=>(.pair (.ext 1) (.pair (.aG (.ext 14)) (.pair (.int .i64) (.pair (.int .i64) (.pair (.int .i64) (.pair .str (.pair .bool (.pair .str .unit))))))))
 | 17=>(.pair .str (.pair (.int .i64) .unit))
 | 18=>(.pair .bool (.pair .bool (.pair .bool .unit)))
 | 19=>(.pair (.int .i64) (.pair (.int .i64) (.pair .str (.pair (.aG (.ext 19)) .unit))))
 | 20=>(.pair .str (.pair (.int .i64) (.pair (.int .i64) (.pair (.int .i64) .unit))))
 | 21=>(.pair (.int .u8) (.pair .bool .unit))
 | 22=>(.pair (.int .i64) (.pair .str (.pair .bool (.pair (.aG (.ext 23)) .unit))))
 | 23=>(.pair (.int .u8) (.pair (.int .u8) .unit))
 | 24=>(.pair .str (.pair (.aG (.ext 23)) .unit))
 | 25=>(.pair .str (.pair (.int .i64) (.pair (.int .i64) .unit)))
 | 26=>(.pair (.ext 1) (.pair (.aG (.ext 13)) (.pair (.aG (.ext 14)) (.pair (.int .i64) (.pair .bool (.pair .str (.pair .str (.pair (.int .i64) .unit))))))))
 | 27=>(.pair .bool (.pair .bool (.pair (.int .i64) .unit)))
 | 28=>(.pair (.int .i64) (.pair (.int .i64) .unit))
 | 29=>(.pair (.int .i64) (.pair (.int .i64) (.pair .str .unit)))
 | 30=>(.pair .str (.pair (.ext 29) .unit))
 | 31=>(.pair .str (.pair (.int .i64) (.pair (.int .i64) .unit)))
 | 32=>(.pair .str (.pair (.int .i64) .unit))
 | 33=>(.pair (.int .i64) (.pair .str .unit))
 | 34=>(.pair .str (.pair (.aG (.ext 22)) (.pair .bool .unit)))
 | 35=>(.pair (.int .u8) (.pair .bool .unit))
 | 36=>(.pair (.aG .str) (.pair (.ext 1) (.pair .bool (.pair .str (.pair .str (.pair (.int .i64) .unit))))))
 | _+37=>.unit
def amX:Nat→Nat
 | 0=>18
 | 1=>15
 | 2=>5
 | 3=>10
 | 4=>9
 | 5=>4
 | 6=>2
 | 7=>5
 | 8=>5
 | 9=>2
 | 10=>2
 | 11=>2
 | 12=>2
 | 13=>3
 | 14=>2
 | 15=>3
 | 16=>22
 | 17=>2
 | 18=>3
 | 19=>4
 | 20=>4
 | 21=>2
 | 22=>4
 | 23=>2
 | 24=>2
 | 25=>3
 | 26=>22
 | 27=>3
 | 28=>2
 | 29=>3
 | 30=>4
 | 31=>3
 | 32=>2
 | 33=>2
 | 34=>3
 | 35=>2
 | 36=>20
 | _+37=>0
def anV:(i:Nat)→ED i→List DV
 | 0,x=>Lw x
 | 1,x=>oK x
 | 2,x=>pV x
 | 3,x=>mC x
 | 4,x=>gr x
 | 5,x=>jq x
 | 6,x=>gO x
 | 7,x=>fD x
 | 8,x=>kB x
 | 9,x=>jf x
 | 10,x=>kC x
 | 11,x=>mD x
 | 12,x=>nv x
 | 13,x=>kL x
 | 14,x=>gX x
 | 15,x=>ae4 x
 | 16,x=>agn x
 | 17,x=>ajN x
 | 18,x=>ago x
 | 19,x=>B2 x
 | 20,x=>ae5 x
 | 21,x=>abZ x
 | 22,x=>Nh x
 | 23,x=>Og x
 | 24,x=>agp x
 | 25,x=>Z5 x
 | 26,x=>Z7 x
 | 27,x=>ah5 x
 | 28,x=>agq x
 | 29,x=>VG x
 | 30,x=>ae7 x
 | 31,x=>ae8 x
 | 32,x=>V4 x
 | 33,x=>ae9 x
 | 34,x=>V5 x
 | 35,x=>ah8 x
 | 36,x=>V6 x
 | _+37,_=>[]
def anW:(i:Nat)→ED i→(Edf i).den ED
 | 0,(x:qF)=>(x.dS,(x.fY,(x.Fe,(x.fV,()))))
 | 1,(x:cG)=>(x.fName,(x.bG,(x.aJ,(x.ve,(x.oJ,(x.vf,(x.hU,(x.gm,(x.NS,(x.AB,(x.JD,(x.Fc,(x.Pd,(x.agm,()))))))))))))))
 | 2,(x:bq)=>(x.fName,(x.bN,(x.fq,(x.L3,(x.zg,())))))
 | 3,(x:oH)=>(x.fName,(x.fBody,()))
 | 4,(x:TNode)=>(x.fKind,(x.fPos,(x.fName,(x.fAll,(x.fAssigns,(x.fWords,(x.fRedirs,(x.fKids,(x.fItems,())))))))))
 | 5,(x:kI)=>(x.fPos,(x.fName,(x.bN,())))
 | 6,(x:cD)=>(x.fPos,(x.fParts,()))
 | 7,(x:TPart)=>(x.fKind,(x.fText,(x.fOp,(x.fColon,(x.fParts,())))))
 | 8,(x:nu)=>(x.fPos,(x.fFd,(x.fOp,(x.Sh,()))))
 | 9,(x:TItem)=>(x.fPatterns,(x.fBody,()))
 | 10,(x:aO)=>(x.fName,(x.bN,()))
 | 11,(x:rN)=>(x.ag0,(x.Sk,()))
 | 12,(x:gu)=>(x.Pc,(x.Lv,()))
 | 13,(x:aL)=>(x.aU,(x.jg,(x.fData,())))
 | 14,(x:cZ)=>(x.fText,(x.gm,()))
 | 15,(x:bU)=>(x.fParts,(x.QA,(x.fE,())))
 | 16,(x:aX)=>(x.bF,(x.cO,(x.fused,(x.sg,(x.fe,(x.jW,(x.yI,(x.DC,()))))))))
 | 17,(x:ah)=>(x.fText,(x.aC,()))
 | 18,(x:dB)=>(x.jm,(x.G4,(x.pY,())))
 | 19,(x:TExpr)=>(x.fOp,(x.fN,(x.fName,(x.fKids,()))))
 | 20,(x:sj)=>(x.fs,(x.VF,(x.fe,(x.Kx,()))))
 | 21,(x:cA)=>(x.fb,(x.gS,()))
 | 22,(x:av)=>(x.fKind,(x.fText,(x.Gw,(x.fq,()))))
 | 23,(x:bH)=>(x.zM,(x.rQ,()))
 | 24,(x:j8)=>(x.fname,(x.Pr,()))
 | 25,(x:aR)=>(x.bR,(x.dh,(x.ud,())))
 | 26,(x:aH)=>(x.bF,(x.Z6,(x.cO,(x.sg,(x.yI,(x.DC,(x.jW,(x.G5,()))))))))
 | 27,(x:cm)=>(x.jm,(x.pY,(x.dh,())))
 | 28,(x:dx)=>(x.VF,(x.G5,()))
 | 29,(x:ja)=>(x.ud,(x.Kx,(x.bR,())))
 | 30,(x:pZ)=>(x.fs,(x.SY,()))
 | 31,(x:ew)=>(x.FF,(x.QB,(x.fop,())))
 | 32,(x:ay)=>(x.bR,(x.dh,()))
 | 33,(x:bB)=>(x.DE,(x.DF,()))
 | 34,(x:aI)=>(x.bR,(x.jh,(x.mG,())))
 | 35,(x:fm)=>(x.fb,(x.gS,()))
 | 36,(x:dX)=>(x.uI,(x.dS,(x.afa,(x.afb,(x.Oh,(x.gm,()))))))
 | _+37,_=>()
def amY:(i:Nat)→(Edf i).den ED→ED i
 | 0,x=>qF.mk x.1 x.2.1 x.2.2.1 x.2.2.2.1
 | 1,x=>cG.mk x.1 x.2.1 x.2.2.1 x.2.2.2.1 x.2.2.2.2.1 x.2.2.2.2.2.1 x.2.2.2.2.2.2.1 x.2.2.2.2.2.2.2.1 x.2.2.2.2.2.2.2.2.1 x.2.2.2.2.2.2.2.2.2.1 x.2.2.2.2.2.2.2.2.2.2.1 x.2.2.2.2.2.2.2.2.2.2.2.1 x.2.2.2.2.2.2.2.2.2.2.2.2.1 x.2.2.2.2.2.2.2.2.2.2.2.2.2.1
 | 2,x=>bq.mk x.1 x.2.1 x.2.2.1 x.2.2.2.1 x.2.2.2.2.1
 | 3,x=>oH.mk x.1 x.2.1
 | 4,x=>TNode.mk x.1 x.2.1 x.2.2.1 x.2.2.2.1 x.2.2.2.2.1 x.2.2.2.2.2.1 x.2.2.2.2.2.2.1 x.2.2.2.2.2.2.2.1 x.2.2.2.2.2.2.2.2.1
 | 5,x=>kI.mk x.1 x.2.1 x.2.2.1
 | 6,x=>cD.mk x.1 x.2.1
 | 7,x=>TPart.mk x.1 x.2.1 x.2.2.1 x.2.2.2.1 x.2.2.2.2.1
 | 8,x=>nu.mk x.1 x.2.1 x.2.2.1 x.2.2.2.1
 | 9,x=>TItem.mk x.1 x.2.1
 | 10,x=>aO.mk x.1 x.2.1
 | 11,x=>rN.mk x.1 x.2.1
 | 12,x=>gu.mk x.1 x.2.1
 | 13,x=>aL.mk x.1 x.2.1 x.2.2.1
 | 14,x=>cZ.mk x.1 x.2.1
 | 15,x=>bU.mk x.1 x.2.1 x.2.2.1
 | 16,x=>aX.mk x.1 x.2.1 x.2.2.1 x.2.2.2.1 x.2.2.2.2.1 x.2.2.2.2.2.1 x.2.2.2.2.2.2.1 x.2.2.2.2.2.2.2.1
 | 17,x=>ah.mk x.1 x.2.1
 | 18,x=>dB.mk x.1 x.2.1 x.2.2.1
 | 19,x=>TExpr.mk x.1 x.2.1 x.2.2.1 x.2.2.2.1
 | 20,x=>sj.mk x.1 x.2.1 x.2.2.1 x.2.2.2.1
 | 21,x=>cA.mk x.1 x.2.1
 | 22,x=>av.mk x.1 x.2.1 x.2.2.1 x.2.2.2.1
 | 23,x=>bH.mk x.1 x.2.1
 | 24,x=>j8.mk x.1 x.2.1
 | 25,x=>aR.mk x.1 x.2.1 x.2.2.1
 | 26,x=>aH.mk x.1 x.2.1 x.2.2.1 x.2.2.2.1 x.2.2.2.2.1 x.2.2.2.2.2.1 x.2.2.2.2.2.2.1 x.2.2.2.2.2.2.2.1
 | 27,x=>cm.mk x.1 x.2.1 x.2.2.1
 | 28,x=>dx.mk x.1 x.2.1
 | 29,x=>ja.mk x.1 x.2.1 x.2.2.1
 | 30,x=>pZ.mk x.1 x.2.1
 | 31,x=>ew.mk x.1 x.2.1 x.2.2.1
 | 32,x=>ay.mk x.1 x.2.1
 | 33,x=>bB.mk x.1 x.2.1
 | 34,x=>aI.mk x.1 x.2.1 x.2.2.1
 | 35,x=>fm.mk x.1 x.2.1
 | 36,x=>dX.mk x.1 x.2.1 x.2.2.1 x.2.2.2.1 x.2.2.2.2.1 x.2.2.2.2.2.1
 | _+37,_=>()
def anX:(i:Nat)→ED i
 | 0=>aiI
 | 1=>Fb
 | 2=>cQ
 | 3=>afD
 | 4=>Yp
 | 5=>Yn
 | 6=>tn
 | 7=>dn
 | 8=>acB
 | 9=>afC
 | 10=>eX
 | 11=>afE
 | 12=>Gt
 | 13=>aN
 | 14=>kM
 | 15=>ah3
 | 16=>ajM
 | 17=>aY
 | 18=>ajO
 | 19=>dU
 | 20=>ah4
 | 21=>dY
 | 22=>bE
 | 23=>gJ
 | 24=>Bo
 | 25=>eB
 | 26=>ae6
 | 27=>alw
 | 28=>ajP
 | 29=>ac1
 | 30=>ah6
 | 31=>mK
 | 32=>dy
 | 33=>ah7
 | 34=>gy
 | 35=>ey
 | 36=>ab0
 | _+37=>()
def akp:List Int:=[0,1,56,2,57,49,28,3,61,58,42,50,38,29,17,4,62,47,59,36,45,43,51,22,53,39,33,30,24,18,12,5,63,55,48,27,60,41,37,16,46,35,44,21,52,32,23,11,54,26,40,15,34,20,31,10,25,14,19,9,13,8,7,6]
def ako:List Int:=[0,1,28,2,29,14,24,3,30,22,20,15,25,17,4,8,31,27,13,23,21,19,16,7,26,12,18,6,11,5,10,9]
def Egt (b:Nat):Option ((t:Ty) × List (t.den ED)):=cond (Nat.beq b 4) (some ⟨(.int .u8),ako⟩) (cond (Nat.beq b 5) (some ⟨(.int .u8),akp⟩) none)
def Egb (b:Nat):Option (Array Value→Prop):=cond (Nat.beq b 1) (some (fun cs=>cs=(Lib.pow10Tab.map fun z=>Value.int .u64 z).toArray)) (cond (Nat.beq b 0) (some (fun cs=>∃m,cs[0]? = some (Value.int .i64 m))) none)
def Eyd (y:Nat) (Y:YD):Prop:=cond (Nat.beq y 3000000) (Y=Qw 1 Tryz.f36 [true,true,true,true,false,true]) (False)
def ah9 (y:Nat):Option Nat:=cond (Nat.beq y 3000000) (some 1) (none)
def Ezc (e:TypeId):Bool:=(!(Nat.beq e 439)&&(!(Nat.beq e 438)&&(!(Nat.beq e 6)&&(!(Nat.beq e 5)&&true))))
def E:TEnv:=⟨ED,Edf,amX,anV,anW,amY,anX,Egt,Egb,Eyd,ah9,Ezc⟩
theorem dN:∀(i:Nat) (x:E.D i),E.enc i x=(E.df i).cells E (E.vm i x)
 | 0,x=>by kernel_rfl
 | 1,x=>by kernel_rfl
 | 2,x=>rfl
 | 3,x=>by cases x with | mk y0 y1=>cases y1;kernel_rfl
 | 4,x=>by cases x;show gr _=_;simp only [gr,pH,pI];rfl
 | 5,x=>by kernel_rfl
 | 6,x=>rfl
 | 7,x=>by cases x;show fD _=_;simp only [fD,zL];rfl
 | 8,x=>by kernel_rfl
 | 9,x=>by cases x;show jf _=_;simp only [jf,pH,pI];rfl
 | 10,x=>rfl
 | 11,x=>rfl
 | 12,x=>rfl
 | 13,x=>rfl
 | 14,x=>rfl
 | 15,x=>rfl
 | 16,x=>by kernel_rfl
 | 17,x=>rfl
 | 18,x=>rfl
 | 19,x=>by cases x;show B2 _=_;simp only [B2,Ia];rfl
 | 20,x=>rfl
 | 21,x=>rfl
 | 22,x=>rfl
 | 23,x=>rfl
 | 24,x=>rfl
 | 25,x=>rfl
 | 26,x=>by kernel_rfl
 | 27,x=>rfl
 | 28,x=>rfl
 | 29,x=>rfl
 | 30,x=>by kernel_rfl
 | 31,x=>rfl
 | 32,x=>rfl
 | 33,x=>rfl
 | 34,x=>rfl
 | 35,x=>rfl
 | 36,x=>by kernel_rfl
 | _+37,_=>rfl
theorem alx:∀(i:Nat) (y:(E.df i).den E.D),E.vm i (E.fold i y)=y
 | 0,_=>rfl
 | 1,_=>rfl
 | 2,_=>rfl
 | 3,_=>rfl
 | 4,_=>rfl
 | 5,_=>rfl
 | 6,_=>rfl
 | 7,_=>rfl
 | 8,_=>rfl
 | 9,_=>rfl
 | 10,_=>rfl
 | 11,_=>rfl
 | 12,_=>rfl
 | 13,_=>rfl
 | 14,_=>rfl
 | 15,_=>rfl
 | 16,_=>rfl
 | 17,_=>rfl
 | 18,_=>rfl
 | 19,_=>rfl
 | 20,_=>rfl
 | 21,_=>rfl
 | 22,_=>rfl
 | 23,_=>rfl
 | 24,_=>rfl
 | 25,_=>rfl
 | 26,_=>rfl
 | 27,_=>rfl
 | 28,_=>rfl
 | 29,_=>rfl
 | 30,_=>rfl
 | 31,_=>rfl
 | 32,_=>rfl
 | 33,_=>rfl
 | 34,_=>rfl
 | 35,_=>rfl
 | 36,_=>rfl
 | _+37,_=>rfl
theorem aly:∀(i:Nat),E.size i=(E.df i).size E
 | 0=>rfl
 | 1=>rfl
 | 2=>rfl
 | 3=>rfl
 | 4=>rfl
 | 5=>rfl
 | 6=>rfl
 | 7=>rfl
 | 8=>rfl
 | 9=>rfl
 | 10=>rfl
 | 11=>rfl
 | 12=>rfl
 | 13=>rfl
 | 14=>rfl
 | 15=>rfl
 | 16=>rfl
 | 17=>rfl
 | 18=>rfl
 | 19=>rfl
 | 20=>rfl
 | 21=>rfl
 | 22=>rfl
 | 23=>rfl
 | 24=>rfl
 | 25=>rfl
 | 26=>rfl
 | 27=>rfl
 | 28=>rfl
 | 29=>rfl
 | 30=>rfl
 | 31=>rfl
 | 32=>rfl
 | 33=>rfl
 | 34=>rfl
 | 35=>rfl
 | 36=>rfl
 | _+37=>rfl
theorem amZ:∀(i:Nat) (x:E.D i),(E.enc i x).length=E.size i
 | 0,x=>by rw [dN];rfl
 | 1,x=>by rw [dN];rfl
 | 2,x=>by rw [dN];rfl
 | 3,x=>by rw [dN];cases x with | mk y0 y1=>cases y1;rfl
 | 4,x=>by rw [dN];rfl
 | 5,x=>by rw [dN];rfl
 | 6,x=>by rw [dN];rfl
 | 7,x=>by rw [dN];rfl
 | 8,x=>by rw [dN];rfl
 | 9,x=>by rw [dN];rfl
 | 10,x=>by rw [dN];rfl
 | 11,x=>by rw [dN];rfl
 | 12,x=>by rw [dN];rfl
 | 13,x=>by rw [dN];rfl
 | 14,x=>by rw [dN];rfl
 | 15,x=>by rw [dN];rfl
 | 16,x=>by rw [dN];rfl
 | 17,x=>by rw [dN];rfl
 | 18,x=>by rw [dN];rfl
 | 19,x=>by rw [dN];rfl
 | 20,x=>by rw [dN];rfl
 | 21,x=>by rw [dN];rfl
 | 22,x=>by rw [dN];rfl
 | 23,x=>by rw [dN];rfl
 | 24,x=>by rw [dN];rfl
 | 25,x=>by rw [dN];rfl
 | 26,x=>by rw [dN];rfl
 | 27,x=>by rw [dN];rfl
 | 28,x=>by rw [dN];rfl
 | 29,x=>by rw [dN];rfl
 | 30,x=>by rw [dN];rfl
 | 31,x=>by rw [dN];rfl
 | 32,x=>by rw [dN];rfl
 | 33,x=>by rw [dN];rfl
 | 34,x=>by rw [dN];rfl
 | 35,x=>by rw [dN];rfl
 | 36,x=>by rw [dN];rfl
 | _+37,_=>rfl
theorem am0:∀(y:Nat) (Y:YD) (n:Nat),E.yd y Y→E.ydn y=some n→Y.params.size=n:=by
 intro y Y n h1 h2;have h1:Eyd y Y:=h1;have h2:ah9 y=some n:=h2;unfold Eyd at h1;unfold ah9 at h2;by_cases hb0:Nat.beq y 3000000=true
 ·rw [hb0,cond_true] at h1 h2
  rw [h1];exact (gC h2)▸(show (Qw 1 Tryz.f36 [true,true,true,true,false,true]).params.size=1 by kernel_rfl)
 rw [Bool.not_eq_true] at hb0;rw [hb0,cond_false] at h1 h2;exact h1.elim
theorem Ei:E.Ok:=⟨dN,alx,aly,amZ,am0⟩
def tj:TypeId→Option Ty:=fun t=>(([(3,(.int .i64)),(4,.bool),(5,(.int .u8)),(9,.str),(21,(.int .i32)),(22,(.aG (.ext 2))),(23,(.aG .str)),(24,(.aG (.ext 3))),(25,(.aG (.ext 10))),(26,(.aG (.ext 11))),(27,(.ext 12)),(28,(.ext 12)),(29,(.ext 1)),(30,(.ext 1)),(31,(.aG (.ext 13))),(32,(.aG (.ext 14))),(33,(.ext 0)),(34,(.ext 0)),(35,(.aG (.ext 6))),(39,(.aG (.ext 7))),(40,(.ext 7)),(41,(.ext 7)),(42,(.ext 6)),(43,(.ext 6)),(45,(.ext 36)),(46,(.ext 36)),(47,(.int .i64)),(54,(.ext 14)),(55,(.ext 14)),(59,(.ext 2)),(60,(.ext 2)),(61,(.ext 13)),(62,(.ext 13)),(77,(.aG (.ext 17))),(79,(.ext 18)),(80,(.ext 18)),(81,(.aG (.aG (.ext 17)))),(84,(.ext 16)),(85,(.ext 16)),(90,(.ext 27)),(91,(.ext 27)),(92,(.ext 26)),(93,(.ext 26)),(102,(.ext 15)),(103,(.ext 15)),(108,(.aG (.aG (.ext 25)))),(110,(.aG (.ext 25))),(113,(.ext 17)),(114,(.ext 17)),(117,(.aG (.ext 22))),(122,(.aG (.aG (.ext 32)))),(124,(.aG (.ext 32))),(128,(.aG (.int .u8))),(139,(.aG (.ext 34))),(145,(.ext 34)),(146,(.ext 34)),(153,(.ext 10)),(154,(.ext 10)),(156,(.ext 11)),(157,(.ext 11)),(159,(.aG (.ext 5))),(160,(.aG (.ext 8))),(161,(.aG (.ext 4))),(162,(.aG (.ext 9))),(163,(.ext 4)),(164,(.ext 4)),(165,(.ext 3)),(166,(.ext 3)),(178,(.ext 25)),(179,(.ext 25)),(182,(.aG (.ext 23))),(183,(.ext 22)),(184,(.ext 22)),(186,(.aG (.ext 21))),(191,(.ext 21)),(192,(.ext 21)),(195,(.ext 32)),(196,(.ext 32)),(205,(.aG (.ext 35))),(209,(.ext 35)),(210,(.ext 35)),(213,(.ext 33)),(214,(.ext 33)),(219,(.ext 5)),(220,(.ext 5)),(224,(.ext 8)),(225,(.ext 8)),(228,(.ext 9)),(229,(.ext 9)),(236,(.aG (.ext 10))),(237,(.ext 10)),(267,(.ext 23)),(268,(.ext 23)),(282,(.int .u64)),(286,(.aG (.ext 19))),(287,(.ext 19)),(288,(.ext 19)),(297,(.aG (.ext 24))),(299,(.ext 24)),(300,(.ext 24)),(337,(.ext 20)),(338,(.ext 20)),(345,(.aG .bool)),(350,(.ext 28)),(351,(.ext 28)),(354,(.ext 29)),(355,(.ext 29)),(357,(.ext 30)),(358,(.ext 30)),(411,(.aG (.ext 31))),(413,(.ext 31)),(414,(.ext 31))]:List (Nat × Ty)).find? fun p=>Nat.beq p.1 t).map (·.2)
theorem mixed:Tryz.prog.follows .mixedOrders=true:=by kernel_rfl
noncomputable abbrev pg:=Tryz.prog
set_option maxRecDepth 100000 in
theorem aD {Γ:List (an E)} {C:an E} {fn:Func} (F:Nat) (pl:dc) (hΓ:∀C'∈Γ,C'.Ok pg) (hf:pg.funcs[C.s.f]? = some fn) (hn:(fn.name == "runtime.NumGoroutine")=false:=by kernel_rfl) (h:∀x,aeS ⟨pg,tj,Γ,[],none⟩ F C.s fn pl x=C.m x:=by intro x;kernel_rfl):C.Ok pg:=an.aiU (X:=⟨pg,tj,Γ,[],none⟩) (F:=F) ⟨Ei,hΓ,mixed,goN,O9⟩ (pl:=pl) hf hn h
theorem jb {C:an E} (h:∀x,C.m x=none):C.Ok pg:=fun x y e=>nomatch (h x).symm.trans e
abbrev lf:dc:=.leaf
abbrev qs (a b:dc):dc:=.seq [] none a b
abbrev qa (b:dc):dc:=.seq [] none .leaf b
def dp (l:List Int):List (Nat × Bool):=l.map fun
 | .ofNat n=>(n,true)
 | .negSucc n=>(n,false)
abbrev Bs:=List UInt8
abbrev u2 {a b c:Type} (q:a→b→c) (x:a × b):c:=q x.1 x.2
abbrev u3 {a b c d:Type} (q:a→b→c→d) (x:a × b × c):d:=q x.1 x.2.1 x.2.2
abbrev u4 {a b c d e:Type} (q:a→b→c→d→e) (x:a × b × c × d):e:=q x.1 x.2.1 x.2.2.1 x.2.2.2
abbrev u5 {a b c d e f:Type} (q:a→b→c→d→e→f) (x:a × b × c × d × e):f:=q x.1 x.2.1 x.2.2.1 x.2.2.2.1 x.2.2.2.2
abbrev u6 {a b c d e f g:Type} (q:a→b→c→d→e→f→g) (x:a × b × c × d × e × f):g:=q x.1 x.2.1 x.2.2.1 x.2.2.2.1 x.2.2.2.2.1 x.2.2.2.2.2
abbrev u7 {a b c d e f g h:Type} (q:a→b→c→d→e→f→g→h) (x:a × b × c × d × e × f × g):h:=q x.1 x.2.1 x.2.2.1 x.2.2.2.1 x.2.2.2.2.1 x.2.2.2.2.2.1 x.2.2.2.2.2.2
abbrev u8 {a b c d e f g h i:Type} (q:a→b→c→d→e→f→g→h→i) (x:a × b × c × d × e × f × g × h):i:=q x.1 x.2.1 x.2.2.1 x.2.2.2.1 x.2.2.2.2.1 x.2.2.2.2.2.1 x.2.2.2.2.2.2.1 x.2.2.2.2.2.2.2
abbrev oE (n:Nat):PT:=.one (.dat (.ext n))
abbrev oL (n:Nat):PT:=.one (.dat (.aG (.ext n)))
abbrev oB:PT:=.one (.dat .bool)
abbrev oI:PT:=.one (.dat (.int .i64))
abbrev oU:PT:=.one (.dat (.int .u64))
abbrev oS:PT:=.one (.dat .str)
abbrev oT:PT:=.one (.dat (.aG .str))
def sh (f:Nat) (a:List PT) (r:PT):bL:=⟨f,a,[],[],⟨r,[],[],[]⟩,none,[]⟩
def ct (l:List (Nat × PT)):Cut:=⟨l,[],[],[]⟩
def rb (a b:Nat):Nat × Cut × Bool:=(a,ct [(b,oB)],false)
def ro (a b:Nat) (t:PT):Nat × Cut × Bool:=(a,ct [(b,t)],false)
end Go.Proofs.YtkeibjejncpgnaaGreatDoor
