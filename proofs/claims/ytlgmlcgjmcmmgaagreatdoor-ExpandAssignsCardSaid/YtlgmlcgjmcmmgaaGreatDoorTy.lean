import Derived.Test.YtlgmlcgjmcmmgaaGreatDoorSh
import Derived.Test.YtlgmlcgjmcmmgaaGreatDoorRk
import Derived.Test.YtlgmlcgjmcmmgaaGreatDoorChecked
set_option linter.all false
namespace Go.Proofs.YtlgmlcgjmcmmgaaGreatDoor
open Go.RT Go.RowKit Go.Maps Go.Sort Go.Shelf
open Go.Proofs (encStr)
theorem anh(k:Nat):AnyZ.SortsIn Tryz.prog Tryz.PV Fence.wide k:=
 ⟨fun blk off cap ss W hH hblk hsz=>callsIn_wide.2 (AnyM.slices_Sort_string Tryz.XJ blk off cap ss W hH hblk hsz),
  fun p cap W=>callsIn_wide.2 (AnyM.slices_Sort_string_none Tryz.XJ p cap W)⟩
theorem ajg:ZY Tryz.prog 291 347 272 9:=by
 intro w b0 b n D0 R hc hown hmax hbytes
 have hseq:SeqGives Fence.wide 2 Tryz.prog 347 #[.pointer (some ⟨b0,0,none⟩)] encStr (fun ss=>ss.Perm (strKeys D0)) (Maps.size D0) w:=
  AnyZ.keys_gives (ρ:=Tryz.Wk) {Tryz.aox with} Fence.wide _ trivial rfl om b0 b n D0 _ (by
   have:=(yY.1 hc).1;omega) (by simp [World.cell?,hc]) hown
 have cS:=AnyZ.sorted_in Tryz.ak2 Fence.wide 5 trivial trivial trivial trivial rfl om (anh _) (enters_of Tryz.func112 kr rfl) 347 #[.pointer (some ⟨b0,0,none⟩)] trivial (enters_of Tryz.func347 kr rfl) _ _ hmax hbytes _ hseq;change CallsIn _ _ Tryz.prog 291 _ _ _ at cS;refine (callsIn_wide.1 cS).mono ?_;rintro e2 w2 ⟨v,ss,rfl,hS,hrow,-,hb⟩;exact⟨v,ss,rfl,hS,hrow,hb⟩
open Go.RT
abbrev aha:Ty:=(.pair (.int .i64) (.pair (.int .i64) (.pair (.int .i64) (.pair (.int .i64) (.pair (.int .i64) (.pair (.int .i64) (.pair (.int .i64) (.pair (.int .i64) .unit))))))))
structure bD where
 fName:List UInt8
 bJ:List UInt8
 cH:Bool
 tS:Bool
 kZ:Bool
 deriving Inhabited,DecidableEq
def dS:bD:=.mk [] [] false false false
def Bn(v:bD):J DV:=([.str v.fName])++([.str v.bJ])++([.bool v.cH])++([.bool v.tS])++([.bool v.kZ])
inductive TPart where
 | mk (fKind:Int) (fText:List UInt8) (fOp:Int) (fColon:Bool) (fParts:List TPart)
def TPart.fKind:TPart->Int
 | .mk x _ _ _ _=>x
def TPart.fText:TPart->J UInt8
 | .mk _ x _ _ _=>x
def TPart.fOp:TPart->Int
 | .mk _ _ x _ _=>x
def TPart.fColon:TPart->Bool
 | .mk _ _ _ x _=>x
def TPart.fParts:TPart->J TPart
 | .mk _ _ _ _ x=>x
@[simp] theorem TPart.eta (v : TPart) : TPart.mk v.fKind v.fText v.fOp v.fColon v.fParts = v := by cases v; rfl
def kT:TPart:=.mk 0 [] 0 false []
mutual
def lE:TPart->J DV
 | .mk fKind fText fOp fColon fParts=>([.int .i64 fKind])++([.str fText])++([.int .i64 fOp])++([.bool fColon])++([.slice 5 (HL fParts)])
def HL:J TPart->J (J DV)
 | []=>[]
 | x::xs=>lE x::HL xs
end
theorem Dh:∀l,HL l=l.map lE
 | []=>rfl
 | x::xs=>by simp only [HL,lC,Dh xs]
structure ja where
 fPos:Int
 fParts:List TPart
def w5:ja:=.mk 0 []
def qB(v:ja):J DV:=([.int .i64 v.fPos])++([.slice 5 (v.fParts.map lE)])
structure jO where
 fPos:Int
 fName:List UInt8
 bJ:ja
def uI:jO:=.mk 0 [] w5
def sO(v:jO):J DV:=([.int .i64 v.fPos])++([.str v.fName])++(qB v.bJ)
structure uJ where
 fPos:Int
 fFd:Int
 fOp:Int
 Uj:ja
def ab5:uJ:=.mk 0 0 0 w5
def uK(v:uJ):J DV:=([.int .i64 v.fPos])++([.int .i64 v.fFd])++([.int .i64 v.fOp])++(qB v.Uj)
mutual
inductive TNode where
 | mk (fKind:Int) (fPos:Int) (fName:List UInt8) (fAll:Bool) (fAssigns:List jO) (fWords:List ja) (fRedirs:List uJ) (fKids:List TNode) (fItems:List TItem)
inductive TItem where
 | mk (fPatterns:List ja) (fBody:List TNode)
end
def TNode.fKind:TNode->Int
 | .mk x _ _ _ _ _ _ _ _=>x
def TNode.fPos:TNode->Int
 | .mk _ x _ _ _ _ _ _ _=>x
def TNode.fName:TNode->J UInt8
 | .mk _ _ x _ _ _ _ _ _=>x
def TNode.fAll:TNode->Bool
 | .mk _ _ _ x _ _ _ _ _=>x
def TNode.fAssigns:TNode->J jO
 | .mk _ _ _ _ x _ _ _ _=>x
def TNode.fWords:TNode->J ja
 | .mk _ _ _ _ _ x _ _ _=>x
def TNode.fRedirs:TNode->J uJ
 | .mk _ _ _ _ _ _ x _ _=>x
def TNode.fKids:TNode->J TNode
 | .mk _ _ _ _ _ _ _ x _=>x
def TNode.fItems:TNode->J TItem
 | .mk _ _ _ _ _ _ _ _ x=>x
@[simp] theorem TNode.eta (v : TNode) : TNode.mk v.fKind v.fPos v.fName v.fAll v.fAssigns v.fWords v.fRedirs v.fKids v.fItems = v := by cases v; rfl
def TItem.fPatterns:TItem->J ja
 | .mk x _=>x
def TItem.fBody:TItem->J TNode
 | .mk _ x=>x
@[simp] theorem TItem.eta (v : TItem) : TItem.mk v.fPatterns v.fBody = v := by cases v; rfl
def Yh:TNode:=.mk 0 0 [] false [] [] [] [] []
def afI:TItem:=.mk [] []
mutual
def nJ:TNode->J DV
 | .mk fKind fPos fName fAll fAssigns fWords fRedirs fKids fItems=>([.int .i64 fKind])++([.int .i64 fPos])++([.str fName])++([.bool fAll])++([.slice 4 (fAssigns.map sO)])++([.slice 2 (fWords.map qB)])++([.slice 5 (fRedirs.map uK)])++([.slice 9 (CV fKids)])++([.slice 2 (HM fItems)])
def qC:TItem->J DV
 | .mk fPatterns fBody=>([.slice 2 (fPatterns.map qB)])++([.slice 9 (CV fBody)])
def CV:J TNode->J (J DV)
 | []=>[]
 | x::xs=>nJ x::CV xs
def HM:J TItem->J (J DV)
 | []=>[]
 | x::xs=>qC x::HM xs
end
theorem tg:∀l,CV l=l.map nJ
 | []=>rfl
 | x::xs=>by simp only [CV,lC,tg xs]
theorem th:∀l,HM l=l.map qC
 | []=>rfl
 | x::xs=>by simp only [HM,lC,th xs]
structure xQ where
 fName:List UInt8
 fBody:TNode
def afJ:xQ:=.mk [] Yh
def yw(v:xQ):J DV:=([.str v.fName])++(nJ v.fBody)
structure bV where
 fName:List UInt8
 bJ:List UInt8
 deriving Inhabited,DecidableEq
def p6:bV:=.mk [] []
def uL(v:bV):J DV:=([.str v.fName])++([.str v.bJ])
structure zj where
 ahM:Int
 Um:List UInt8
 deriving Inhabited,DecidableEq
def afK:zj:=.mk 0 []
def yx(v:zj):J DV:=([.int .i64 v.ahM])++([.str v.Um])
structure lT where
 Jc:Int
 Fe:Int
 deriving Inhabited,DecidableEq
def Ka:lT:=.mk 0 0
def zk(v:lT):J DV:=([.int .i64 v.Jc])++([.int .i64 v.Fe])
structure ec where
 fName:List UInt8
 bP:List bD
 cA:List (List UInt8)
 tj:List xQ
 nK:List bV
 tn:List zj
 iy:Int
 fC:Int
 Bq:Int
 og:Int
 Kb:List UInt8
 vG:lT
 Je:Int
 Tr:Bool
def Jd:ec:=.mk [] [] [] [] [] [] 0 0 0 0 [] Ka 0 false
def yy(v:ec):J DV:=([.str v.fName])++([.slice 5 (v.bP.map Bn)])++([.slice 1 (v.cA.map (fun v=>[.str v]))])++([.slice 10 (v.tj.map yw)])++([.slice 2 (v.nK.map uL)])++([.slice 2 (v.tn.map yx)])++([.int .i64 v.iy])++([.int .i64 v.fC])++([.int .i64 v.Bq])++([.int .i64 v.og])++([.str v.Kb])++(zk v.vG)++([.int .i64 v.Je])++([.bool v.Tr])
structure bt where
 bR:List UInt8
 nM:Bool
 fData:List UInt8
 deriving Inhabited,DecidableEq
def bN:bt:=.mk [] false []
def uM(v:bt):J DV:=([.str v.bR])++([.bool v.nM])++([.str v.fData])
structure gu where
 fText:List UInt8
 fC:Int
 deriving Inhabited,DecidableEq
def Br:gu:=.mk [] 0
def oh(v:gu):J DV:=([.str v.fText])++([.int .i64 v.fC])
structure uC where
 nL:ec
 oZ:List bt
 Jf:List (List UInt8)
 jF:List gu
def ajQ:uC:=.mk Jd [] [] []
def Up(v:uC):J DV:=(yy v.nL)++([.slice 3 (v.oZ.map uM)])++([.slice 1 (v.Jf.map (fun v=>[.str v]))])++([.slice 2 (v.jF.map oh)])
structure dV where
 fParts:List TPart
 RE:Int
 fE:Int
def ajh:dV:=.mk [] 0 0
def afe(v:dV):J DV:=([.slice 5 (v.fParts.map lE)])++([.int .i64 v.RE])++([.int .i64 v.fE])
structure aX where
 cq:ec
 eB:List gu
 fused:Int
 jV:Int
 fe:Int
 fy:List UInt8
 lu:Bool
 uq:List UInt8
def alj:aX:=.mk Jd [] 0 0 0 [] false []
def ahb(v:aX):J DV:=(yy v.cq)++([.slice 2 (v.eB.map oh)])++([.int .i64 v.fused])++([.int .i64 v.jV])++([.int .i64 v.fe])++([.str v.fy])++([.bool v.lu])++([.str v.uq])
structure aG where
 fText:List UInt8
 bZ:Int
 deriving Inhabited,DecidableEq
def dc:aG:=.mk [] 0
def alk(v:aG):J DV:=([.str v.fText])++([.int .i64 v.bZ])
structure dz where
 eY:Bool
 BS:Bool
 jW:Bool
 deriving Inhabited,DecidableEq
def alm:dz:=.mk false false false
def ahc(v:dz):J DV:=([.bool v.eY])++([.bool v.BS])++([.bool v.jW])
inductive TExpr where
 | mk (fOp:Int) (fN:Int) (fName:List UInt8) (fKids:List TExpr)
def TExpr.fOp:TExpr->Int
 | .mk x _ _ _=>x
def TExpr.fN:TExpr->Int
 | .mk _ x _ _=>x
def TExpr.fName:TExpr->J UInt8
 | .mk _ _ x _=>x
def TExpr.fKids:TExpr->J TExpr
 | .mk _ _ _ x=>x
@[simp] theorem TExpr.eta (v : TExpr) : TExpr.mk v.fOp v.fN v.fName v.fKids = v := by cases v; rfl
def dw:TExpr:=.mk 0 0 [] []
mutual
def Ge:TExpr->J DV
 | .mk fOp fN fName fKids=>([.int .i64 fOp])++([.int .i64 fN])++([.str fName])++([.slice 4 (HN fKids)])
def HN:J TExpr->J (J DV)
 | []=>[]
 | x::xs=>Ge x::HN xs
end
theorem Lx:∀l,HN l=l.map Ge
 | []=>rfl
 | x::xs=>by simp only [HN,lC,Lx xs]
structure Fl where
 fs:List UInt8
 Wt:Int
 fe:Int
 NT:Int
 deriving Inhabited,DecidableEq
def aji:Fl:=.mk [] 0 0 0
def aff(v:Fl):J DV:=([.str v.fs])++([.int .i64 v.Wt])++([.int .i64 v.fe])++([.int .i64 v.NT])
structure fu where
 fb:Int
 lQ:Bool
 deriving Inhabited,DecidableEq
def iJ:fu:=.mk 0 false
def abQ(v:fu):J DV:=([.int .u8 v.fb])++([.bool v.lQ])
structure bS where
 pW:Int
 jP:Int
 deriving Inhabited,DecidableEq
def gq:bS:=.mk 0 0
def QZ(v:bS):J DV:=([.int .u8 v.pW])++([.int .u8 v.jP])
structure aF where
 fKind:Int
 fText:List UInt8
 Bv:Bool
 cH:List bS
 deriving Inhabited,DecidableEq
def fQ:aF:=.mk 0 [] false []
def P9(v:aF):J DV:=([.int .i64 v.fKind])++([.str v.fText])++([.bool v.Bv])++([.slice 2 (v.cH.map QZ)])
structure lG where
 fname:List UInt8
 ry:List bS
 deriving Inhabited,DecidableEq
def oN:lG:=.mk [] []
def ahd(v:lG):J DV:=([.str v.fname])++([.slice 2 (v.ry.map QZ)])
structure cJ where
 fG:List UInt8
 mq:Int
 uo:Int
 deriving Inhabited,DecidableEq
def oA:cJ:=.mk [] 0 0
def aar(v:cJ):J DV:=([.str v.fG])++([.int .i64 v.mq])++([.int .i64 v.uo])
structure aM where
 cq:ec
 aas:List bt
 eB:List gu
 jV:Int
 lu:Bool
 uq:List UInt8
 fy:List UInt8
 Ai:Int
def afg:aM:=.mk Jd [] [] 0 false [] [] 0
def aat(v:aM):J DV:=(yy v.cq)++([.slice 3 (v.aas.map uM)])++([.slice 2 (v.eB.map oh)])++([.int .i64 v.jV])++([.bool v.lu])++([.str v.uq])++([.str v.fy])++([.int .i64 v.Ai])
structure cQ where
 eY:Bool
 jW:Bool
 mq:Int
 deriving Inhabited,DecidableEq
def ani:cQ:=.mk false false 0
def ajj(v:cQ):J DV:=([.bool v.eY])++([.bool v.jW])++([.int .i64 v.mq])
structure dD where
 Wt:Int
 Ai:Int
 deriving Inhabited,DecidableEq
def aln:dD:=.mk 0 0
def ahe(v:dD):J DV:=([.int .i64 v.Wt])++([.int .i64 v.Ai])
structure eZ where
 uo:Int
 NT:Int
 fG:List UInt8
 deriving Inhabited,DecidableEq
def acI:eZ:=.mk 0 0 []
def Wu(v:eZ):J DV:=([.int .i64 v.uo])++([.int .i64 v.NT])++([.str v.fG])
structure Fm where
 fs:List UInt8
 U6:eZ
 deriving Inhabited,DecidableEq
def ajk:Fm:=.mk [] acI
def afh(v:Fm):J DV:=([.str v.fs])++(Wu v.U6)
structure gT where
 Fj:List UInt8
 NH:Int
 Z3:Int
 deriving Inhabited,DecidableEq
def yD:gT:=.mk [] 0 0
def afi(v:gT):J DV:=([.str v.Fj])++([.int .i64 v.NH])++([.int .i64 v.Z3])
structure eG where
 fb:Int
 lQ:Bool
 deriving Inhabited,DecidableEq
def cz:eG:=.mk 0 false
def ajl(v:eG):J DV:=([.int .u8 v.fb])++([.bool v.lQ])
structure cK where
 fG:List UInt8
 mq:Int
 deriving Inhabited,DecidableEq
def qJ:cK:=.mk [] 0
def WV(v:cK):J DV:=([.str v.fG])++([.int .i64 v.mq])
structure dH where
 HO:Int
 HP:List UInt8
 deriving Inhabited,DecidableEq
instance:BEq dH:=⟨fun a b=>(a.HO==b.HO&&(a.HP==b.HP&&true))⟩
instance:LawfulBEq dH:={
 eq_of_beq:=fun {a b} h=>by
  have h:(a.HO==b.HO&&(a.HP==b.HP&&true))=true:=h;simp only [cx,tV,and_true] at h;cases a;cases b;simp_all
 rfl:=fun {a}=>by
  show (a.HO==a.HO&&(a.HP==a.HP&&true))=true;simp}
def ajm:dH:=.mk 0 []
def afj(v:dH):J DV:=([.int .i64 v.HO])++([.str v.HP])
structure bA where
 fG:List UInt8
 qD:List aF
 qE:Bool
 deriving Inhabited,DecidableEq
def IM:bA:=.mk [] [] false
def WW(v:bA):J DV:=([.str v.fG])++([.slice 4 (v.qD.map P9)])++([.bool v.qE])
structure eu where
 we:List (List UInt8)
 nL:ec
 Tt:Bool
 Tu:List UInt8
 Gf:List UInt8
 fC:Int
def abR:eu:=.mk [] Jd false [] [] 0
def WX(v:eu):J DV:=([.slice 1 (v.we.map (fun v=>[.str v]))])++(yy v.nL)++([.bool v.Tt])++([.str v.Tu])++([.str v.Gf])++([.int .i64 v.fC])
def ED:Nat->Type
 | 0=>uC
 | 1=>ec
 | 2=>bD
 | 3=>xQ
 | 4=>TNode
 | 5=>jO
 | 6=>ja
 | 7=>TPart
 | 8=>uJ
 | 9=>TItem
 | 10=>bV
 | 11=>zj
 | 12=>lT
 | 13=>bt
 | 14=>gu
 | 15=>dV
 | 16=>aX
 | 17=>aG
 | 18=>dz
 | 19=>TExpr
 | 20=>Fl
 | 21=>fu
 | 22=>aF
 | 23=>bS
 | 24=>lG
 | 25=>cJ
 | 26=>aM
 | 27=>cQ
 | 28=>dD
 | 29=>eZ
 | 30=>Fm
 | 31=>gT
 | 32=>eG
 | 33=>cK
 | 34=>dH
 | 35=>bA
 | 36=>eu
 | _+37=>Unit
def Edf:Nat->Ty
 | 0=>(.pair (.ext 1) (.pair (.aZ (.ext 13)) (.pair (.aZ .str) (.pair (.aZ (.ext 14)) .unit))))
 | 1=>(.pair .str (.pair (.aZ (.ext 2)) (.pair (.aZ .str) (.pair (.aZ (.ext 3)) (.pair (.aZ (.ext 10)) (.pair (.aZ (.ext 11)) (.pair (.int .i64) (.pair (.int .i64) (.pair (.int .i64) (.pair (.int .i64) (.pair .str (.pair (.ext 12) (.pair (.int .i64) (.pair .bool .unit))))))))))))))
 | 2=>(.pair .str (.pair .str (.pair .bool (.pair .bool (.pair .bool .unit)))))
 | 3=>(.pair .str (.pair (.ext 4) .unit))
 | 4=>(.pair (.int .i64) (.pair (.int .i64) (.pair .str (.pair .bool (.pair (.aZ (.ext 5)) (.pair (.aZ (.ext 6)) (.pair (.aZ (.ext 8)) (.pair (.aZ (.ext 4)) (.pair (.aZ (.ext 9)) .unit)))))))))
 | 5=>(.pair (.int .i64) (.pair .str (.pair (.ext 6) .unit)))
 | 6=>(.pair (.int .i64) (.pair (.aZ (.ext 7)) .unit))
 | 7=>(.pair (.int .i64) (.pair .str (.pair (.int .i64) (.pair .bool (.pair (.aZ (.ext 7)) .unit)))))
 | 8=>(.pair (.int .i64) (.pair (.int .i64) (.pair (.int .i64) (.pair (.ext 6) .unit))))
 | 9=>(.pair (.aZ (.ext 6)) (.pair (.aZ (.ext 4)) .unit))
 | 10=>(.pair .str (.pair .str .unit))
 | 11=>(.pair (.int .i64) (.pair .str .unit))
 | 12=>(.pair (.int .i64) (.pair (.int .i64) .unit))
 | 13=>(.pair .str (.pair .bool (.pair .str .unit)))
 | 14=>(.pair .str (.pair (.int .i64) .unit))
 | 15=>(.pair (.aZ (.ext 7)) (.pair (.int .i64) (.pair (.int .i64) .unit)))
 | 16=>(.pair (.ext 1) (.pair (.aZ (.ext 14)) (.pair (.int .i64) (.pair (.int .i64) (.pair (.int .i64) (.pair .str (.pair .bool (.pair .str .unit))))))))
 | 17=>(.pair .str (.pair (.int .i64) .unit))
 | 18=>(.pair .bool (.pair .bool (.pair .bool .unit)))
 | 19=>(.pair (.int .i64) (.pair (.int .i64) (.pair .str (.pair (.aZ (.ext 19)) .unit))))
 | 20=>(.pair .str (.pair (.int .i64) (.pair (.int .i64) (.pair (.int .i64) .unit))))
 | 21=>(.pair (.int .u8) (.pair .bool .unit))
 | 22=>(.pair (.int .i64) (.pair .str (.pair .bool (.pair (.aZ (.ext 23)) .unit))))
 | 23=>(.pair (.int .u8) (.pair (.int .u8) .unit))
 | 24=>(.pair .str (.pair (.aZ (.ext 23)) .unit))
 | 25=>(.pair .str (.pair (.int .i64) (.pair (.int .i64) .unit)))
 | 26=>(.pair (.ext 1) (.pair (.aZ (.ext 13)) (.pair (.aZ (.ext 14)) (.pair (.int .i64) (.pair .bool (.pair .str (.pair .str (.pair (.int .i64) .unit))))))))
 | 27=>(.pair .bool (.pair .bool (.pair (.int .i64) .unit)))
 | 28=>(.pair (.int .i64) (.pair (.int .i64) .unit))
 | 29=>(.pair (.int .i64) (.pair (.int .i64) (.pair .str .unit)))
 | 30=>(.pair .str (.pair (.ext 29) .unit))
 | 31=>(.pair .str (.pair (.int .i64) (.pair (.int .i64) .unit)))
 | 32=>(.pair (.int .u8) (.pair .bool .unit))
 | 33=>(.pair .str (.pair (.int .i64) .unit))
 | 34=>(.pair (.int .i64) (.pair .str .unit))
 | 35=>(.pair .str (.pair (.aZ (.ext 22)) (.pair .bool .unit)))
 | 36=>(.pair (.aZ .str) (.pair (.ext 1) (.pair .bool (.pair .str (.pair .str (.pair (.int .i64) .unit))))))
 | _+37=>.unit
def aoK:Nat->Nat
 | 0=>18
 | 1=>15
 | 2=>5
 | 3=>10
 | 4=>9
 | 5=>4
 | 6=>2
 | 7=>5
 | 8=>5
 | 9=>2
 | 10=>2
 | 11=>2
 | 12=>2
 | 13=>3
 | 14=>2
 | 15=>3
 | 16=>22
 | 17=>2
 | 18=>3
 | 19=>4
 | 20=>4
 | 21=>2
 | 22=>4
 | 23=>2
 | 24=>2
 | 25=>3
 | 26=>22
 | 27=>3
 | 28=>2
 | 29=>3
 | 30=>4
 | 31=>3
 | 32=>2
 | 33=>2
 | 34=>2
 | 35=>3
 | 36=>20
 | _+37=>0
def apP:(i:Nat)->ED i->J DV
 | 0,x=>Up x
 | 1,x=>yy x
 | 2,x=>Bn x
 | 3,x=>yw x
 | 4,x=>nJ x
 | 5,x=>sO x
 | 6,x=>qB x
 | 7,x=>lE x
 | 8,x=>uK x
 | 9,x=>qC x
 | 10,x=>uL x
 | 11,x=>yx x
 | 12,x=>zk x
 | 13,x=>uM x
 | 14,x=>oh x
 | 15,x=>afe x
 | 16,x=>ahb x
 | 17,x=>alk x
 | 18,x=>ahc x
 | 19,x=>Ge x
 | 20,x=>aff x
 | 21,x=>abQ x
 | 22,x=>P9 x
 | 23,x=>QZ x
 | 24,x=>ahd x
 | 25,x=>aar x
 | 26,x=>aat x
 | 27,x=>ajj x
 | 28,x=>ahe x
 | 29,x=>Wu x
 | 30,x=>afh x
 | 31,x=>afi x
 | 32,x=>ajl x
 | 33,x=>WV x
 | 34,x=>afj x
 | 35,x=>WW x
 | 36,x=>WX x
 | _+37,_=>[]
def apQ:(i:Nat)->ED i->(Edf i).den ED
 | 0,(x:uC)=>(x.nL,(x.oZ,(x.Jf,(x.jF,()))))
 | 1,(x:ec)=>(x.fName,(x.bP,(x.cA,(x.tj,(x.nK,(x.tn,(x.iy,(x.fC,(x.Bq,(x.og,(x.Kb,(x.vG,(x.Je,(x.Tr,()))))))))))))))
 | 2,(x:bD)=>(x.fName,(x.bJ,(x.cH,(x.tS,(x.kZ,())))))
 | 3,(x:xQ)=>(x.fName,(x.fBody,()))
 | 4,(x:TNode)=>(x.fKind,(x.fPos,(x.fName,(x.fAll,(x.fAssigns,(x.fWords,(x.fRedirs,(x.fKids,(x.fItems,())))))))))
 | 5,(x:jO)=>(x.fPos,(x.fName,(x.bJ,())))
 | 6,(x:ja)=>(x.fPos,(x.fParts,()))
 | 7,(x:TPart)=>(x.fKind,(x.fText,(x.fOp,(x.fColon,(x.fParts,())))))
 | 8,(x:uJ)=>(x.fPos,(x.fFd,(x.fOp,(x.Uj,()))))
 | 9,(x:TItem)=>(x.fPatterns,(x.fBody,()))
 | 10,(x:bV)=>(x.fName,(x.bJ,()))
 | 11,(x:zj)=>(x.ahM,(x.Um,()))
 | 12,(x:lT)=>(x.Jc,(x.Fe,()))
 | 13,(x:bt)=>(x.bR,(x.nM,(x.fData,())))
 | 14,(x:gu)=>(x.fText,(x.fC,()))
 | 15,(x:dV)=>(x.fParts,(x.RE,(x.fE,())))
 | 16,(x:aX)=>(x.cq,(x.eB,(x.fused,(x.jV,(x.fe,(x.fy,(x.lu,(x.uq,()))))))))
 | 17,(x:aG)=>(x.fText,(x.bZ,()))
 | 18,(x:dz)=>(x.eY,(x.BS,(x.jW,())))
 | 19,(x:TExpr)=>(x.fOp,(x.fN,(x.fName,(x.fKids,()))))
 | 20,(x:Fl)=>(x.fs,(x.Wt,(x.fe,(x.NT,()))))
 | 21,(x:fu)=>(x.fb,(x.lQ,()))
 | 22,(x:aF)=>(x.fKind,(x.fText,(x.Bv,(x.cH,()))))
 | 23,(x:bS)=>(x.pW,(x.jP,()))
 | 24,(x:lG)=>(x.fname,(x.ry,()))
 | 25,(x:cJ)=>(x.fG,(x.mq,(x.uo,())))
 | 26,(x:aM)=>(x.cq,(x.aas,(x.eB,(x.jV,(x.lu,(x.uq,(x.fy,(x.Ai,()))))))))
 | 27,(x:cQ)=>(x.eY,(x.jW,(x.mq,())))
 | 28,(x:dD)=>(x.Wt,(x.Ai,()))
 | 29,(x:eZ)=>(x.uo,(x.NT,(x.fG,())))
 | 30,(x:Fm)=>(x.fs,(x.U6,()))
 | 31,(x:gT)=>(x.Fj,(x.NH,(x.Z3,())))
 | 32,(x:eG)=>(x.fb,(x.lQ,()))
 | 33,(x:cK)=>(x.fG,(x.mq,()))
 | 34,(x:dH)=>(x.HO,(x.HP,()))
 | 35,(x:bA)=>(x.fG,(x.qD,(x.qE,())))
 | 36,(x:eu)=>(x.we,(x.nL,(x.Tt,(x.Tu,(x.Gf,(x.fC,()))))))
 | _+37,_=>()
def aoL:(i:Nat)->(Edf i).den ED->ED i
 | 0,x=>uC.mk x.1 x.2.1 x.2.2.1 x.2.2.2.1
 | 1,x=>ec.mk x.1 x.2.1 x.2.2.1 x.2.2.2.1 x.2.2.2.2.1 x.2.2.2.2.2.1 x.2.2.2.2.2.2.1 x.2.2.2.2.2.2.2.1 x.2.2.2.2.2.2.2.2.1 x.2.2.2.2.2.2.2.2.2.1 x.2.2.2.2.2.2.2.2.2.2.1 x.2.2.2.2.2.2.2.2.2.2.2.1 x.2.2.2.2.2.2.2.2.2.2.2.2.1 x.2.2.2.2.2.2.2.2.2.2.2.2.2.1
 | 2,x=>bD.mk x.1 x.2.1 x.2.2.1 x.2.2.2.1 x.2.2.2.2.1
 | 3,x=>xQ.mk x.1 x.2.1
 | 4,x=>TNode.mk x.1 x.2.1 x.2.2.1 x.2.2.2.1 x.2.2.2.2.1 x.2.2.2.2.2.1 x.2.2.2.2.2.2.1 x.2.2.2.2.2.2.2.1 x.2.2.2.2.2.2.2.2.1
 | 5,x=>jO.mk x.1 x.2.1 x.2.2.1
 | 6,x=>ja.mk x.1 x.2.1
 | 7,x=>TPart.mk x.1 x.2.1 x.2.2.1 x.2.2.2.1 x.2.2.2.2.1
 | 8,x=>uJ.mk x.1 x.2.1 x.2.2.1 x.2.2.2.1
 | 9,x=>TItem.mk x.1 x.2.1
 | 10,x=>bV.mk x.1 x.2.1
 | 11,x=>zj.mk x.1 x.2.1
 | 12,x=>lT.mk x.1 x.2.1
 | 13,x=>bt.mk x.1 x.2.1 x.2.2.1
 | 14,x=>gu.mk x.1 x.2.1
 | 15,x=>dV.mk x.1 x.2.1 x.2.2.1
 | 16,x=>aX.mk x.1 x.2.1 x.2.2.1 x.2.2.2.1 x.2.2.2.2.1 x.2.2.2.2.2.1 x.2.2.2.2.2.2.1 x.2.2.2.2.2.2.2.1
 | 17,x=>aG.mk x.1 x.2.1
 | 18,x=>dz.mk x.1 x.2.1 x.2.2.1
 | 19,x=>TExpr.mk x.1 x.2.1 x.2.2.1 x.2.2.2.1
 | 20,x=>Fl.mk x.1 x.2.1 x.2.2.1 x.2.2.2.1
 | 21,x=>fu.mk x.1 x.2.1
 | 22,x=>aF.mk x.1 x.2.1 x.2.2.1 x.2.2.2.1
 | 23,x=>bS.mk x.1 x.2.1
 | 24,x=>lG.mk x.1 x.2.1
 | 25,x=>cJ.mk x.1 x.2.1 x.2.2.1
 | 26,x=>aM.mk x.1 x.2.1 x.2.2.1 x.2.2.2.1 x.2.2.2.2.1 x.2.2.2.2.2.1 x.2.2.2.2.2.2.1 x.2.2.2.2.2.2.2.1
 | 27,x=>cQ.mk x.1 x.2.1 x.2.2.1
 | 28,x=>dD.mk x.1 x.2.1
 | 29,x=>eZ.mk x.1 x.2.1 x.2.2.1
 | 30,x=>Fm.mk x.1 x.2.1
 | 31,x=>gT.mk x.1 x.2.1 x.2.2.1
 | 32,x=>eG.mk x.1 x.2.1
 | 33,x=>cK.mk x.1 x.2.1
 | 34,x=>dH.mk x.1 x.2.1
 | 35,x=>bA.mk x.1 x.2.1 x.2.2.1
 | 36,x=>eu.mk x.1 x.2.1 x.2.2.1 x.2.2.2.1 x.2.2.2.2.1 x.2.2.2.2.2.1
 | _+37,_=>()
def apR:(i:Nat)->ED i
 | 0=>ajQ
 | 1=>Jd
 | 2=>dS
 | 3=>afJ
 | 4=>Yh
 | 5=>uI
 | 6=>w5
 | 7=>kT
 | 8=>ab5
 | 9=>afI
 | 10=>p6
 | 11=>afK
 | 12=>Ka
 | 13=>bN
 | 14=>Br
 | 15=>ajh
 | 16=>alj
 | 17=>dc
 | 18=>alm
 | 19=>dw
 | 20=>aji
 | 21=>iJ
 | 22=>fQ
 | 23=>gq
 | 24=>oN
 | 25=>oA
 | 26=>afg
 | 27=>ani
 | 28=>aln
 | 29=>acI
 | 30=>ajk
 | 31=>yD
 | 32=>cz
 | 33=>qJ
 | 34=>ajm
 | 35=>IM
 | 36=>abR
 | _+37=>()
def Egb(b:Nat):O (aI Value->Prop):=cond (Nat.beq b 1) (some (fun cs=>cs=(Lib.pow10Tab.map fun z=>Value.int .u64 z).toArray)) (cond (Nat.beq b 0) (some (fun cs=>∃m,cs[0]? = some (Value.int .i64 m))) none)
def Eyd(y:Nat)(Y:YD):Prop:=cond (Nat.beq y 3000000) (Y=S4 1 Tryz.f66 [true,true,true,true,false,true]) (False)
def ajn(y:Nat):O Nat:=cond (Nat.beq y 3000000) (some 1) (none)
def Ezc(e:aC):Bool:=(!(Nat.beq e 445)&&(!(Nat.beq e 444)&&(!(Nat.beq e 6)&&(!(Nat.beq e 5)&&true))))
def E:TEnv:=⟨ED,Edf,aoK,apP,apQ,aoL,apR,Egb,Eyd,ajn,Ezc⟩
theorem akc:∀(i:Nat)(x:E.D i),E.enc i x=(E.df i).cells E (E.zw i x)
 | 0,x=>by kernel_rfl
 | 1,x=>by kernel_rfl
 | 2,x=>rfl
 | 3,x=>by cases x with|mk y0 y1=>cases y1;kernel_rfl
 | 4,x=>by cases x;show nJ _=_;simp only [nJ,tg,th];rfl
 | 5,x=>by kernel_rfl
 | 6,x=>rfl
 | 7,x=>by cases x;show lE _=_;simp only [lE,Dh];rfl
 | 8,x=>by kernel_rfl
 | 9,x=>by cases x;show qC _=_;simp only [qC,tg,th];rfl
 | 10,x=>rfl
 | 11,x=>rfl
 | 12,x=>rfl
 | 13,x=>rfl
 | 14,x=>rfl
 | 15,x=>rfl
 | 16,x=>by kernel_rfl
 | 17,x=>rfl
 | 18,x=>rfl
 | 19,x=>by cases x;show Ge _=_;simp only [Ge,Lx];rfl
 | 20,x=>rfl
 | 21,x=>rfl
 | 22,x=>rfl
 | 23,x=>rfl
 | 24,x=>rfl
 | 25,x=>rfl
 | 26,x=>by kernel_rfl
 | 27,x=>rfl
 | 28,x=>rfl
 | 29,x=>rfl
 | 30,x=>by kernel_rfl
 | 31,x=>rfl
 | 32,x=>rfl
 | 33,x=>rfl
 | 34,x=>rfl
 | 35,x=>rfl
 | 36,x=>by kernel_rfl
 | _+37,_=>rfl
theorem anj:∀(i:Nat)(y:(E.df i).den E.D),E.zw i (E.fold i y)=y:=by
 intro i
 iterate 37 (rcases i with _|i;· intro _;rfl)
 intro _;rfl
theorem ank:∀(i:Nat),E.size i=(E.df i).size E:=by
 intro i
 iterate 37 (rcases i with _|i;· rfl)
 rfl
theorem aoM:∀(i:Nat)(x:E.D i),(E.enc i x).length=E.size i:=by
 intro i
 iterate 37 (rcases i with _|i;· intro x;rw [akc];first|rfl|(cases x with|mk y0 y1=>cases y1;rfl))
 intro _;rfl
theorem aoN:∀(y:Nat)(Y:YD)(n:Nat),E.yd y Y->E.ydn y=some n->Y.params.size=n:=by
 intro y Y n h1 h2;have h1:Eyd y Y:=h1;have h2:ajn y=some n:=h2;unfold Eyd at h1;unfold ajn at h2;by_cases hb0:Nat.beq y 3000000=true
 ·rw [hb0,bw] at h1 h2
  rw [h1];exact (uy h2)▸(show (S4 1 Tryz.f66 [true,true,true,true,false,true]).params.size=1 by kernel_rfl)
 rw [Bool.not_eq_true] at hb0;rw [hb0,aU] at h1 h2;exact h1.elim
theorem De:E.Ok:=⟨akc,anj,ank,aoM,aoN⟩
def G9:aC->O Ty:=fun t=>(([(3,(.int .i64)),(4,.bool),(5,(.int .u8)),(9,.str),(21,(.int .i32)),(22,(.aZ (.ext 2))),(23,(.aZ .str)),(24,(.aZ (.ext 3))),(25,(.aZ (.ext 10))),(26,(.aZ (.ext 11))),(27,(.ext 12)),(28,(.ext 12)),(29,(.ext 1)),(30,(.ext 1)),(31,(.aZ (.ext 13))),(32,(.aZ (.ext 14))),(33,(.ext 0)),(34,(.ext 0)),(35,(.aZ (.ext 6))),(40,(.aZ (.ext 5))),(41,(.aZ (.ext 7))),(42,(.ext 6)),(43,(.ext 6)),(44,(.ext 5)),(45,(.ext 5)),(46,(.ext 36)),(47,(.ext 36)),(48,(.int .i64)),(57,(.ext 14)),(58,(.ext 14)),(62,(.ext 2)),(63,(.ext 2)),(64,(.ext 13)),(65,(.ext 13)),(73,(.ext 27)),(74,(.ext 27)),(88,(.aZ (.ext 17))),(90,(.ext 18)),(91,(.ext 18)),(92,(.aZ (.aZ (.ext 17)))),(95,(.ext 16)),(96,(.ext 16)),(102,(.ext 26)),(103,(.ext 26)),(116,(.ext 15)),(117,(.ext 15)),(121,(.ext 7)),(122,(.ext 7)),(123,(.aZ (.aZ (.ext 25)))),(125,(.aZ (.ext 25))),(130,(.ext 17)),(131,(.ext 17)),(134,(.aZ (.ext 22))),(140,(.aZ (.int .u8))),(154,(.ext 10)),(155,(.ext 10)),(157,(.ext 11)),(158,(.ext 11)),(160,(.aZ (.ext 8))),(161,(.aZ (.ext 4))),(162,(.aZ (.ext 9))),(163,(.ext 4)),(164,(.ext 4)),(165,(.ext 3)),(166,(.ext 3)),(179,(.ext 25)),(180,(.ext 25)),(183,(.aZ (.ext 23))),(184,(.ext 22)),(185,(.ext 22)),(187,(.aZ (.ext 21))),(192,(.ext 21)),(193,(.ext 21)),(196,(.aZ (.aZ (.ext 33)))),(198,(.aZ (.ext 33))),(204,(.aZ (.ext 35))),(210,(.ext 35)),(211,(.ext 35)),(222,(.ext 8)),(223,(.ext 8)),(226,(.ext 9)),(227,(.ext 9)),(233,(.aZ (.ext 10))),(234,(.ext 10)),(249,(.ext 33)),(250,(.ext 33)),(258,(.aZ (.ext 32))),(262,(.ext 32)),(263,(.ext 32)),(266,(.ext 34)),(267,(.ext 34)),(283,(.aZ (.ext 19))),(284,(.ext 19)),(285,(.ext 19)),(290,(.int .u64)),(292,(.ext 23)),(293,(.ext 23)),(294,(.aZ (.ext 24))),(296,(.ext 24)),(297,(.ext 24)),(333,(.ext 20)),(334,(.ext 20)),(341,(.aZ .bool)),(359,(.ext 28)),(360,(.ext 28)),(363,(.ext 29)),(364,(.ext 29)),(366,(.ext 30)),(367,(.ext 30)),(405,aha),(417,(.aZ (.ext 31))),(419,(.ext 31)),(420,(.ext 31))]:J (Nat×Ty)).find? fun p=>Nat.beq p.1 t).map (·.2)
theorem mixed:Tryz.prog.follows .mixedOrders=true:=by kernel_rfl
noncomputable abbrev pg:=Tryz.prog
set_option maxRecDepth 100000 in
theorem cZ{Γ:J (bB E)}{C:bB E}{fn:Func}(F:Nat)(pl:di)(hΓ:∀C'∈Γ,C'.Ok pg)(hf:pg.funcs[C.s.f]? = some fn)(hn:(fn.name == "runtime.NumGoroutine")=false:=by kernel_rfl)(h:∀x,ZM ⟨pg,G9,Γ,[],none⟩ F C.s fn pl x=C.m x:=by intro x;kernel_rfl):C.Ok pg:=bB.X0 (X:=⟨pg,G9,Γ,[],none⟩) (F:=F) ⟨De,hΓ,mixed,goN,Pq⟩ (pl:=pl) hf hn h
theorem rR{C:bB E}(h:∀x,C.m x=none):C.Ok pg:=fun x y e=>nomatch (h x).symm.trans e
abbrev lf:di:=.leaf
abbrev qs(a b:di):di:=.seq [] none a b
abbrev qa(b:di):di:=.seq [] none .leaf b
def dp(l:J Int):J (Nat×Bool):=l.map fun
 | .ofNat n=>(n,true)
 | .negSucc n=>(n,false)
abbrev Bs:=J UInt8
abbrev u2{a b c:Type}(q:a->b->c)(x:a×b):c:=q x.1 x.2
abbrev u3{a b c d:Type}(q:a->b->c->d)(x:a×b×c):d:=q x.1 x.2.1 x.2.2
abbrev u4{a b c d e:Type}(q:a->b->c->d->e)(x:a×b×c×d):e:=q x.1 x.2.1 x.2.2.1 x.2.2.2
abbrev u5{a b c d e f:Type}(q:a->b->c->d->e->f)(x:a×b×c×d×e):f:=q x.1 x.2.1 x.2.2.1 x.2.2.2.1 x.2.2.2.2
abbrev u6{a b c d e f g:Type}(q:a->b->c->d->e->f->g)(x:a×b×c×d×e×f):g:=q x.1 x.2.1 x.2.2.1 x.2.2.2.1 x.2.2.2.2.1 x.2.2.2.2.2
abbrev u7{a b c d e f g h:Type}(q:a->b->c->d->e->f->g->h)(x:a×b×c×d×e×f×g):h:=q x.1 x.2.1 x.2.2.1 x.2.2.2.1 x.2.2.2.2.1 x.2.2.2.2.2.1 x.2.2.2.2.2.2
abbrev u8{a b c d e f g h i:Type}(q:a->b->c->d->e->f->g->h->i)(x:a×b×c×d×e×f×g×h):i:=q x.1 x.2.1 x.2.2.1 x.2.2.2.1 x.2.2.2.2.1 x.2.2.2.2.2.1 x.2.2.2.2.2.2.1 x.2.2.2.2.2.2.2
abbrev oE(n:Nat):PT:=.one (.dat (.ext n))
abbrev oL(n:Nat):PT:=.one (.dat (.aZ (.ext n)))
abbrev oB:PT:=.one (.dat .bool)
abbrev oI:PT:=.one (.dat (.int .i64))
abbrev oU:PT:=.one (.dat (.int .u64))
abbrev oS:PT:=.one (.dat .str)
abbrev oT:PT:=.one (.dat (.aZ .str))
def sh(f:Nat)(a:J PT)(r:PT):cN:=⟨f,a,[],[],⟨r,[],[],[]⟩,none,[]⟩
def ct(l:J (Nat×PT)):Cut:=⟨l,[],[],[]⟩
def rb(a b:Nat):Nat×Cut×Bool:=(a,ct [(b,oB)],false)
def ro(a b:Nat)(t:PT):Nat×Cut×Bool:=(a,ct [(b,t)],false)
def zW{A:Type}(_:A):Prop:=True
abbrev WQ(A:Type):=∀ {v:A},zW v->A
section
variable {A R S : Type} {x y : O R} {e : O A} {k : A -> O R} {b : Bool}
theorem ws(x:R):zW (some x):=trivial
theorem wn:zW (none (α:=R)):=trivial
theorem ww(x:O R):zW x:=trivial
theorem wc(b:Bool)(_:zW x)(_:zW y):zW (cond b x y):=trivial
theorem wo(b:Bool){x:O Bool}(_:zW x):zW (cond b (some true) x):=trivial
theorem wa(b:Bool){x:O Bool}(_:zW x):zW (cond b x (some false)):=trivial
theorem wq(b:Bool)(_:zW x):zW (rq b x):=trivial
theorem wg(i:Int)(l:J A)(_:zW x):zW (rq (decide (0<=i)&&decide (i<l.length)) x):=trivial
theorem wi(l:J A)(i:Int)(d:A)(_:∀v,zW (k v)):zW (rq (decide (0<=i)&&decide (i<l.length)) (k (l.getD i.toNat d))):=trivial
theorem wb(e:O A)(_:∀v,zW (k v)):zW (e.bind k):=trivial
theorem wm(e:O A):zW (e.bind fun x=>some x):=trivial
theorem jw(_:zW e):zW (e.bind fun x=>some x):=trivial
theorem wv(_:zW e)(_:∀v,zW (k v)):zW (e.bind k):=trivial
theorem wu(A:Type){e:O A}{k:A->O R}(_:zW e)(_:∀v,zW (k v)):zW (e.bind k):=trivial
theorem wl(S:Type){f:(S->O R)->S->O R}(_:∀k v,zW (f k v))(F:Nat)(s:S):zW (bU f F s):=trivial
theorem wt(a:A)(_:∀v,zW (k v)):zW (k a):=trivial
theorem wp(m:Nat)(l r:J A){k:J A->O R}(_:∀v,zW (k v)):zW (rq (decide (l.length+r.length<=9223372036854775807)&&decide ((l.length+r.length)*m<=140737488355328)) (k (l++r))):=trivial
theorem wj(l r:J A){k:J A->O R}(_:∀v,zW (k v)):zW (rq (decide (l.length+r.length<=9223372036854775807)) (k (l++r))):=trivial
end
section
variable {R : Type}
variable {A0 A1 : Type}
theorem cY(e:O (A0×A1)){k:A0->A1->O R}(_:∀a b,zW (k a b)):zW (e.bind fun x=>k x.1 x.2):=trivial
theorem xF{e:O (A0×A1)}{k:A0->A1->O R}(_:zW e)(_:∀a b,zW (k a b)):zW (e.bind fun x=>k x.1 x.2):=trivial
theorem wu2(A0 A1:Type){e:O (A0×A1)}{k:A0->A1->O R}(_:zW e)(_:∀a b,zW (k a b)):zW (e.bind fun x=>k x.1 x.2):=trivial
theorem gG(A0 A1:Type){f:((A0×A1)->O R)->A0->A1->O R}(_:∀k a b,zW (f k a b))(F:Nat)(s:A0×A1):zW (bU (fun k x=>f k x.1 x.2) F s):=trivial
variable {A2 : Type}
theorem mu(e:O (A0×A1×A2)){k:A0->A1->A2->O R}(_:∀a b c,zW (k a b c)):zW (e.bind fun x=>k x.1 x.2.1 x.2.2):=trivial
theorem Qa{e:O (A0×A1×A2)}{k:A0->A1->A2->O R}(_:zW e)(_:∀a b c,zW (k a b c)):zW (e.bind fun x=>k x.1 x.2.1 x.2.2):=trivial
theorem tG(A0 A1 A2:Type){f:((A0×A1×A2)->O R)->A0->A1->A2->O R}(_:∀k a b c,zW (f k a b c))(F:Nat)(s:A0×A1×A2):zW (bU (fun k x=>f k x.1 x.2.1 x.2.2) F s):=trivial
variable {A3 : Type}
theorem Lz(e:O (A0×A1×A2×A3)){k:A0->A1->A2->A3->O R}(_:∀a b c d,zW (k a b c d)):zW (e.bind fun x=>k x.1 x.2.1 x.2.2.1 x.2.2.2):=trivial
theorem wv4{e:O (A0×A1×A2×A3)}{k:A0->A1->A2->A3->O R}(_:zW e)(_:∀a b c d,zW (k a b c d)):zW (e.bind fun x=>k x.1 x.2.1 x.2.2.1 x.2.2.2):=trivial
theorem wl4(A0 A1 A2 A3:Type){f:((A0×A1×A2×A3)->O R)->A0->A1->A2->A3->O R}(_:∀k a b c d,zW (f k a b c d))(F:Nat)(s:A0×A1×A2×A3):zW (bU (fun k x=>f k x.1 x.2.1 x.2.2.1 x.2.2.2) F s):=trivial
variable {A4 : Type}
theorem yU(e:O (A0×A1×A2×A3×A4)){k:A0->A1->A2->A3->A4->O R}(_:∀a b c d e,zW (k a b c d e)):zW (e.bind fun x=>k x.1 x.2.1 x.2.2.1 x.2.2.2.1 x.2.2.2.2):=trivial
theorem wv5{e:O (A0×A1×A2×A3×A4)}{k:A0->A1->A2->A3->A4->O R}(_:zW e)(_:∀a b c d e,zW (k a b c d e)):zW (e.bind fun x=>k x.1 x.2.1 x.2.2.1 x.2.2.2.1 x.2.2.2.2):=trivial
variable {A5 : Type}
theorem wb6(e:O (A0×A1×A2×A3×A4×A5)){k:A0->A1->A2->A3->A4->A5->O R}(_:∀a b c d e g,zW (k a b c d e g)):zW (e.bind fun x=>k x.1 x.2.1 x.2.2.1 x.2.2.2.1 x.2.2.2.2.1 x.2.2.2.2.2):=trivial
variable {A6 : Type}
theorem wl7(A0 A1 A2 A3 A4 A5 A6:Type){f:((A0×A1×A2×A3×A4×A5×A6)->O R)->A0->A1->A2->A3->A4->A5->A6->O R}(_:∀k a b c d e g h,zW (f k a b c d e g h))(F:Nat)(s:A0×A1×A2×A3×A4×A5×A6):zW (bU (fun k x=>f k x.1 x.2.1 x.2.2.1 x.2.2.2.1 x.2.2.2.2.1 x.2.2.2.2.2.1 x.2.2.2.2.2.2) F s):=trivial
variable {A7 : Type}
theorem wl8(A0 A1 A2 A3 A4 A5 A6 A7:Type){f:((A0×A1×A2×A3×A4×A5×A6×A7)->O R)->A0->A1->A2->A3->A4->A5->A6->A7->O R}(_:∀k a b c d e g h i,zW (f k a b c d e g h i))(F:Nat)(s:A0×A1×A2×A3×A4×A5×A6×A7):zW (bU (fun k x=>f k x.1 x.2.1 x.2.2.1 x.2.2.2.1 x.2.2.2.2.1 x.2.2.2.2.2.1 x.2.2.2.2.2.2.1 x.2.2.2.2.2.2.2) F s):=trivial
variable {A8 : Type}
end
end Go.Proofs.YtlgmlcgjmcmmgaaGreatDoor
