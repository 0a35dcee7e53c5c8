import Derived.Test.YthmndfnkdgmenaaGreatDoorSh
import Derived.Test.YthmndfnkdgmenaaGreatDoorRk
import Derived.Test.YthmndfnkdgmenaaGreatDoorChecked
set_option linter.all false
namespace Go.Proofs.YthmndfnkdgmenaaGreatDoor
open Go.RT Go.RowKit Go.Maps Go.Sort Go.Shelf
open Go.Proofs (encStr)
theorem ano(k:Nat):AnyZ.SortsIn Tryz.prog Tryz.Qi Fence.wide k:=
 ⟨fun blk off cap ss W hH hblk hsz=>callsIn_wide.2 (AnyM.slices_Sort_string Tryz.X0 blk off cap ss W hH hblk hsz),
  fun p cap W=>callsIn_wide.2 (AnyM.slices_Sort_string_none Tryz.X0 p cap W)⟩
theorem ajm:aag Tryz.prog 265 325 224 9:=by
 intro w b0 b n D0 R hc hown hmax hbytes
 have hseq:SeqGives Fence.wide 2 Tryz.prog 325 #[.pointer (some ⟨b0,0,none⟩)] encStr (fun ss=>ss.Perm (strKeys D0)) (Maps.size D0) w:=
  AnyZ.keys_gives (ρ:=Tryz.Wy) {Tryz.aoC with} Fence.wide _ trivial rfl om b0 b n D0 _ (by
   have:=(za.1 hc).1;omega) (by simp [World.cell?,hc]) hown
 have cS:=AnyZ.sorted_in Tryz.ala Fence.wide 5 trivial trivial trivial trivial rfl om (ano _) (enters_of Tryz.func124 kr rfl) 325 #[.pointer (some ⟨b0,0,none⟩)] trivial (enters_of Tryz.func325 kr rfl) _ _ hmax hbytes _ hseq;change CallsIn _ _ Tryz.prog 265 _ _ _ at cS;refine (callsIn_wide.1 cS).mono ?_;rintro e2 w2 ⟨v,ss,rfl,hS,hrow,-,hb⟩;exact⟨v,ss,rfl,hS,hrow,hb⟩
open Go.RT
abbrev ahi:Ty:=(.pair (.int .i64) (.pair (.int .i64) (.pair (.int .i64) (.pair (.int .i64) (.pair (.int .i64) (.pair (.int .i64) (.pair (.int .i64) (.pair (.int .i64) .unit))))))))
structure bC where
 fName:List UInt8
 bL:List UInt8
 cE:Bool
 uc:Bool
 lq:Bool
 deriving Inhabited,DecidableEq
def dW:bC:=.mk [] [] false false false
def Bv(v:bC):J DV:=([.str v.fName])++([.str v.bL])++([.bool v.cE])++([.bool v.uc])++([.bool v.lq])
inductive TPart where
 | mk (fKind:Int) (fText:List UInt8) (fOp:Int) (fColon:Bool) (fParts:List TPart)
def TPart.fKind:TPart->Int
 | .mk x _ _ _ _=>x
def TPart.fText:TPart->J UInt8
 | .mk _ x _ _ _=>x
def TPart.fOp:TPart->Int
 | .mk _ _ x _ _=>x
def TPart.fColon:TPart->Bool
 | .mk _ _ _ x _=>x
def TPart.fParts:TPart->J TPart
 | .mk _ _ _ _ x=>x
@[simp] theorem TPart.eta (v : TPart) : TPart.mk v.fKind v.fText v.fOp v.fColon v.fParts = v := by cases v; rfl
def jZ:TPart:=.mk 0 [] 0 false []
mutual
def lF:TPart->J DV
 | .mk fKind fText fOp fColon fParts=>([.int .i64 fKind])++([.str fText])++([.int .i64 fOp])++([.bool fColon])++([.slice 5 (HW fParts)])
def HW:J TPart->J (J DV)
 | []=>[]
 | x::xs=>lF x::HW xs
end
theorem Dp:∀l,HW l=l.map lF
 | []=>rfl
 | x::xs=>by simp only [HW,lD,Dp xs]
structure fZ where
 fPos:Int
 fParts:List TPart
def xu:fZ:=.mk 0 []
def qC(v:fZ):J DV:=([.int .i64 v.fPos])++([.slice 5 (v.fParts.map lF)])
structure rB where
 fPos:Int
 fName:List UInt8
 bL:fZ
def Yx:rB:=.mk 0 [] xu
def sX(v:rB):J DV:=([.int .i64 v.fPos])++([.str v.fName])++(qC v.bL)
structure uU where
 fPos:Int
 fFd:Int
 fOp:Int
 Uw:fZ
def acm:uU:=.mk 0 0 0 xu
def uV(v:uU):J DV:=([.int .i64 v.fPos])++([.int .i64 v.fFd])++([.int .i64 v.fOp])++(qC v.Uw)
mutual
inductive TNode where
 | mk (fKind:Int) (fPos:Int) (fName:List UInt8) (fAll:Bool) (fAssigns:List rB) (fWords:List fZ) (fRedirs:List uU) (fKids:List TNode) (fItems:List TItem)
inductive TItem where
 | mk (fPatterns:List fZ) (fBody:List TNode)
end
def TNode.fKind:TNode->Int
 | .mk x _ _ _ _ _ _ _ _=>x
def TNode.fPos:TNode->Int
 | .mk _ x _ _ _ _ _ _ _=>x
def TNode.fName:TNode->J UInt8
 | .mk _ _ x _ _ _ _ _ _=>x
def TNode.fAll:TNode->Bool
 | .mk _ _ _ x _ _ _ _ _=>x
def TNode.fAssigns:TNode->J rB
 | .mk _ _ _ _ x _ _ _ _=>x
def TNode.fWords:TNode->J fZ
 | .mk _ _ _ _ _ x _ _ _=>x
def TNode.fRedirs:TNode->J uU
 | .mk _ _ _ _ _ _ x _ _=>x
def TNode.fKids:TNode->J TNode
 | .mk _ _ _ _ _ _ _ x _=>x
def TNode.fItems:TNode->J TItem
 | .mk _ _ _ _ _ _ _ _ x=>x
@[simp] theorem TNode.eta (v : TNode) : TNode.mk v.fKind v.fPos v.fName v.fAll v.fAssigns v.fWords v.fRedirs v.fKids v.fItems = v := by cases v; rfl
def TItem.fPatterns:TItem->J fZ
 | .mk x _=>x
def TItem.fBody:TItem->J TNode
 | .mk _ x=>x
@[simp] theorem TItem.eta (v : TItem) : TItem.mk v.fPatterns v.fBody = v := by cases v; rfl
def Yz:TNode:=.mk 0 0 [] false [] [] [] [] []
def afQ:TItem:=.mk [] []
mutual
def nK:TNode->J DV
 | .mk fKind fPos fName fAll fAssigns fWords fRedirs fKids fItems=>([.int .i64 fKind])++([.int .i64 fPos])++([.str fName])++([.bool fAll])++([.slice 4 (fAssigns.map sX)])++([.slice 2 (fWords.map qC)])++([.slice 5 (fRedirs.map uV)])++([.slice 9 (C4 fKids)])++([.slice 2 (HX fItems)])
def qD:TItem->J DV
 | .mk fPatterns fBody=>([.slice 2 (fPatterns.map qC)])++([.slice 9 (C4 fBody)])
def C4:J TNode->J (J DV)
 | []=>[]
 | x::xs=>nK x::C4 xs
def HX:J TItem->J (J DV)
 | []=>[]
 | x::xs=>qD x::HX xs
end
theorem tA:∀l,C4 l=l.map nK
 | []=>rfl
 | x::xs=>by simp only [C4,lD,tA xs]
theorem tB:∀l,HX l=l.map qD
 | []=>rfl
 | x::xs=>by simp only [HX,lD,tB xs]
structure yb where
 fName:List UInt8
 fBody:TNode
def afR:yb:=.mk [] Yz
def yB(v:yb):J DV:=([.str v.fName])++(nK v.fBody)
structure bX where
 fName:List UInt8
 bL:List UInt8
 deriving Inhabited,DecidableEq
def p9:bX:=.mk [] []
def uW(v:bX):J DV:=([.str v.fName])++([.str v.bL])
structure zq where
 ahT:Int
 Uz:List UInt8
 deriving Inhabited,DecidableEq
def afS:zq:=.mk 0 []
def yC(v:zq):J DV:=([.int .i64 v.ahT])++([.str v.Uz])
structure lU where
 Jm:Int
 Fp:Int
 deriving Inhabited,DecidableEq
def Kj:lU:=.mk 0 0
def zu(v:lU):J DV:=([.int .i64 v.Jm])++([.int .i64 v.Fp])
structure dM where
 fName:List UInt8
 bN:List bC
 cC:List (List UInt8)
 tC:List yb
 nL:List bX
 tD:List zq
 iA:Int
 fH:Int
 Bz:Int
 oh:Int
 Kk:List UInt8
 vU:lU
 Jo:Int
 TE:Bool
def Jn:dM:=.mk [] [] [] [] [] [] 0 0 0 0 [] Kj 0 false
def yD(v:dM):J DV:=([.str v.fName])++([.slice 5 (v.bN.map Bv)])++([.slice 1 (v.cC.map (fun v=>[.str v]))])++([.slice 10 (v.tC.map yB)])++([.slice 2 (v.nL.map uW)])++([.slice 2 (v.tD.map yC)])++([.int .i64 v.iA])++([.int .i64 v.fH])++([.int .i64 v.Bz])++([.int .i64 v.oh])++([.str v.Kk])++(zu v.vU)++([.int .i64 v.Jo])++([.bool v.TE])
structure bu where
 bS:List UInt8
 nM:Bool
 fData:List UInt8
 deriving Inhabited,DecidableEq
def bP:bu:=.mk [] false []
def uX(v:bu):J DV:=([.str v.bS])++([.bool v.nM])++([.str v.fData])
structure fh where
 fText:List UInt8
 fH:Int
 deriving Inhabited,DecidableEq
def BA:fh:=.mk [] 0
def oq(v:fh):J DV:=([.str v.fText])++([.int .i64 v.fH])
structure uO where
 ou:dM
 o6:List bu
 Jp:List (List UInt8)
 ke:List fh
def ajW:uO:=.mk Jn [] [] []
def UC(v:uO):J DV:=(yD v.ou)++([.slice 3 (v.o6.map uX)])++([.slice 1 (v.Jp.map (fun v=>[.str v]))])++([.slice 2 (v.ke.map oq)])
structure dY where
 fParts:List TPart
 ML:Int
 fE:Int
def ajn:dY:=.mk [] 0 0
def afm(v:dY):J DV:=([.slice 5 (v.fParts.map lF)])++([.int .i64 v.ML])++([.int .i64 v.fE])
structure aX where
 ck:dM
 ek:List fh
 fused:Int
 jD:Int
 fe:Int
 fm:List UInt8
 kQ:Bool
 tn:List UInt8
def als:aX:=.mk Jn [] 0 0 0 [] false []
def ahj(v:aX):J DV:=(yD v.ck)++([.slice 2 (v.ek.map oq)])++([.int .i64 v.fused])++([.int .i64 v.jD])++([.int .i64 v.fe])++([.str v.fm])++([.bool v.kQ])++([.str v.tn])
structure aH where
 fText:List UInt8
 b8:Int
 deriving Inhabited,DecidableEq
def dm:aH:=.mk [] 0
def alu(v:aH):J DV:=([.str v.fText])++([.int .i64 v.b8])
structure dh where
 fq:Bool
 B1:Bool
 jV:Bool
 deriving Inhabited,DecidableEq
def alv:dh:=.mk false false false
def ahk(v:dh):J DV:=([.bool v.fq])++([.bool v.B1])++([.bool v.jV])
inductive TExpr where
 | mk (fOp:Int) (fN:Int) (fName:List UInt8) (fKids:List TExpr)
def TExpr.fOp:TExpr->Int
 | .mk x _ _ _=>x
def TExpr.fN:TExpr->Int
 | .mk _ x _ _=>x
def TExpr.fName:TExpr->J UInt8
 | .mk _ _ x _=>x
def TExpr.fKids:TExpr->J TExpr
 | .mk _ _ _ x=>x
@[simp] theorem TExpr.eta (v : TExpr) : TExpr.mk v.fOp v.fN v.fName v.fKids = v := by cases v; rfl
def dx:TExpr:=.mk 0 0 [] []
mutual
def Gr:TExpr->J DV
 | .mk fOp fN fName fKids=>([.int .i64 fOp])++([.int .i64 fN])++([.str fName])++([.slice 4 (HY fKids)])
def HY:J TExpr->J (J DV)
 | []=>[]
 | x::xs=>Gr x::HY xs
end
theorem LM:∀l,HY l=l.map Gr
 | []=>rfl
 | x::xs=>by simp only [HY,lD,LM xs]
structure Fx where
 fs:List UInt8
 WI:Int
 fe:Int
 N9:Int
 deriving Inhabited,DecidableEq
def ajo:Fx:=.mk [] 0 0 0
def afn(v:Fx):J DV:=([.str v.fs])++([.int .i64 v.WI])++([.int .i64 v.fe])++([.int .i64 v.N9])
structure fG where
 fb:Int
 lR:Bool
 deriving Inhabited,DecidableEq
def iL:fG:=.mk 0 false
def ab5(v:fG):J DV:=([.int .u8 v.fb])++([.bool v.lR])
structure bU where
 pZ:Int
 jP:Int
 deriving Inhabited,DecidableEq
def gr:bU:=.mk 0 0
def Rj(v:bU):J DV:=([.int .u8 v.pZ])++([.int .u8 v.jP])
structure aG where
 fKind:Int
 fText:List UInt8
 BD:Bool
 cE:List bU
 deriving Inhabited,DecidableEq
def fU:aG:=.mk 0 [] false []
def Qq(v:aG):J DV:=([.int .i64 v.fKind])++([.str v.fText])++([.bool v.BD])++([.slice 2 (v.cE.map Rj)])
structure lH where
 fname:List UInt8
 rD:List bU
 deriving Inhabited,DecidableEq
def oQ:lH:=.mk [] []
def ahl(v:lH):J DV:=([.str v.fname])++([.slice 2 (v.rD.map Rj)])
structure cG where
 fI:List UInt8
 mw:Int
 uD:Int
 deriving Inhabited,DecidableEq
def oD:cG:=.mk [] 0 0
def aaI(v:cG):J DV:=([.str v.fI])++([.int .i64 v.mw])++([.int .i64 v.uD])
structure aM where
 ck:dM
 TF:List bu
 ek:List fh
 jD:Int
 kQ:Bool
 tn:List UInt8
 fm:List UInt8
 yL:Int
def afo:aM:=.mk Jn [] [] 0 false [] [] 0
def aaJ(v:aM):J DV:=(yD v.ck)++([.slice 3 (v.TF.map uX)])++([.slice 2 (v.ek.map oq)])++([.int .i64 v.jD])++([.bool v.kQ])++([.str v.tn])++([.str v.fm])++([.int .i64 v.yL])
structure cM where
 fq:Bool
 jV:Bool
 mw:Int
 deriving Inhabited,DecidableEq
def anp:cM:=.mk false false 0
def ajp(v:cM):J DV:=([.bool v.fq])++([.bool v.jV])++([.int .i64 v.mw])
structure dD where
 WI:Int
 yL:Int
 deriving Inhabited,DecidableEq
def alw:dD:=.mk 0 0
def ahm(v:dD):J DV:=([.int .i64 v.WI])++([.int .i64 v.yL])
structure fu where
 uD:Int
 N9:Int
 fI:List UInt8
 deriving Inhabited,DecidableEq
def acV:fu:=.mk 0 0 []
def WJ(v:fu):J DV:=([.int .i64 v.uD])++([.int .i64 v.N9])++([.str v.fI])
structure Fy where
 fs:List UInt8
 Vk:fu
 deriving Inhabited,DecidableEq
def ajq:Fy:=.mk [] acV
def afp(v:Fy):J DV:=([.str v.fs])++(WJ v.Vk)
structure gT where
 Fv:List UInt8
 NW:Int
 fop:Int
 deriving Inhabited,DecidableEq
def yI:gT:=.mk [] 0 0
def afq(v:gT):J DV:=([.str v.Fv])++([.int .i64 v.NW])++([.int .i64 v.fop])
structure eG where
 fb:Int
 lR:Bool
 deriving Inhabited,DecidableEq
def cA:eG:=.mk 0 false
def ajr(v:eG):J DV:=([.int .u8 v.fb])++([.bool v.lR])
structure cH where
 fI:List UInt8
 mw:Int
 deriving Inhabited,DecidableEq
def qK:cH:=.mk [] 0
def Xc(v:cH):J DV:=([.str v.fI])++([.int .i64 v.mw])
structure dH where
 HZ:Int
 H6:List UInt8
 deriving Inhabited,DecidableEq
instance:BEq dH:=⟨fun a b=>(a.HZ==b.HZ&&(a.H6==b.H6&&true))⟩
instance:LawfulBEq dH:={
 eq_of_beq:=fun {a b} h=>by
  have h:(a.HZ==b.HZ&&(a.H6==b.H6&&true))=true:=h;simp only [cx,uh,and_true] at h;cases a;cases b;simp_all
 rfl:=fun {a}=>by
  show (a.HZ==a.HZ&&(a.H6==a.H6&&true))=true;simp}
def ajs:dH:=.mk 0 []
def afr(v:dH):J DV:=([.int .i64 v.HZ])++([.str v.H6])
structure bA where
 fI:List UInt8
 qE:List aG
 qF:Bool
 deriving Inhabited,DecidableEq
def I1:bA:=.mk [] [] false
def Xd(v:bA):J DV:=([.str v.fI])++([.slice 4 (v.qE.map Qq)])++([.bool v.qF])
structure ei where
 wH:List (List UInt8)
 ou:dM
 TG:Bool
 TH:List UInt8
 Gt:List UInt8
 fH:Int
def ab6:ei:=.mk [] Jn false [] [] 0
def Xe(v:ei):J DV:=([.slice 1 (v.wH.map (fun v=>[.str v]))])++(yD v.ou)++([.bool v.TG])++([.str v.TH])++([.str v.Gt])++([.int .i64 v.fH])
def ED:Nat->Type
 | 0=>uO
 | 1=>dM
 | 2=>bC
 | 3=>yb
 | 4=>TNode
 | 5=>rB
 | 6=>fZ
 | 7=>TPart
 | 8=>uU
 | 9=>TItem
 | 10=>bX
 | 11=>zq
 | 12=>lU
 | 13=>bu
 | 14=>fh
 | 15=>dY
 | 16=>aX
 | 17=>aH
 | 18=>dh
 | 19=>TExpr
 | 20=>Fx
 | 21=>fG
 | 22=>aG
 | 23=>bU
 | 24=>lH
 | 25=>cG
 | 26=>aM
 | 27=>cM
 | 28=>dD
 | 29=>fu
 | 30=>Fy
 | 31=>gT
 | 32=>eG
 | 33=>cH
 | 34=>dH
 | 35=>bA
 | 36=>ei
 | _+37=>Unit
def Edf:Nat->Ty
 | 0=>(.pair (.ext 1) (.pair (.aZ (.ext 13)) (.pair (.aZ .str) (.pair (.aZ (.ext 14)) .unit))))
 | 1=>(.pair .str (.pair (.aZ (.ext 2)) (.pair (.aZ .str) (.pair (.aZ (.ext 3)) (.pair (.aZ (.ext 10)) (.pair (.aZ (.ext 11)) (.pair (.int .i64) (.pair (.int .i64) (.pair (.int .i64) (.pair (.int .i64) (.pair .str (.pair (.ext 12) (.pair (.int .i64) (.pair .bool .unit))))))))))))))
 | 2=>(.pair .str (.pair .str (.pair .bool (.pair .bool (.pair .bool .unit)))))
 | 3=>(.pair .str (.pair (.ext 4) .unit))
 | 4=>(.pair (.int .i64) (.pair (.int .i64) (.pair .str (.pair .bool (.pair (.aZ (.ext 5)) (.pair (.aZ (.ext 6)) (.pair (.aZ (.ext 8)) (.pair (.aZ (.ext 4)) (.pair (.aZ (.ext 9)) .unit)))))))))
 | 5=>(.pair (.int .i64) (.pair .str (.pair (.ext 6) .unit)))
 | 6=>(.pair (.int .i64) (.pair (.aZ (.ext 7)) .unit))
 | 7=>(.pair (.int .i64) (.pair .str (.pair (.int .i64) (.pair .bool (.pair (.aZ (.ext 7)) .unit)))))
 | 8=>(.pair (.int .i64) (.pair (.int .i64) (.pair (.int .i64) (.pair (.ext 6) .unit))))
 | 9=>(.pair (.aZ (.ext 6)) (.pair (.aZ (.ext 4)) .unit))
 | 10=>(.pair .str (.pair .str .unit))
 | 11=>(.pair (.int .i64) (.pair .str .unit))
 | 12=>(.pair (.int .i64) (.pair (.int .i64) .unit))
 | 13=>(.pair .str (.pair .bool (.pair .str .unit)))
 | 14=>(.pair .str (.pair (.int .i64) .unit))
 | 15=>(.pair (.aZ (.ext 7)) (.pair (.int .i64) (.pair (.int .i64) .unit)))
 | 16=>(.pair (.ext 1) (.pair (.aZ (.ext 14)) (.pair (.int .i64) (.pair (.int .i64) (.pair (.int .i64) (.pair .str (.pair .bool (.pair .str .unit))))))))
 | 17=>(.pair .str (.pair (.int .i64) .unit))
 | 18=>(.pair .bool (.pair .bool (.pair .bool .unit)))
 | 19=>(.pair (.int .i64) (.pair (.int .i64) (.pair .str (.pair (.aZ (.ext 19)) .unit))))
 | 20=>(.pair .str (.pair (.int .i64) (.pair (.int .i64) (.pair (.int .i64) .unit))))
 | 21=>(.pair (.int .u8) (.pair .bool .unit))
 | 22=>(.pair (.int .i64) (.pair .str (.pair .bool (.pair (.aZ (.ext 23)) .unit))))
 | 23=>(.pair (.int .u8) (.pair (.int .u8) .unit))
 | 24=>(.pair .str (.pair (.aZ (.ext 23)) .unit))
 | 25=>(.pair .str (.pair (.int .i64) (.pair (.int .i64) .unit)))
 | 26=>(.pair (.ext 1) (.pair (.aZ (.ext 13)) (.pair (.aZ (.ext 14)) (.pair (.int .i64) (.pair .bool (.pair .str (.pair .str (.pair (.int .i64) .unit))))))))
 | 27=>(.pair .bool (.pair .bool (.pair (.int .i64) .unit)))
 | 28=>(.pair (.int .i64) (.pair (.int .i64) .unit))
 | 29=>(.pair (.int .i64) (.pair (.int .i64) (.pair .str .unit)))
 | 30=>(.pair .str (.pair (.ext 29) .unit))
 | 31=>(.pair .str (.pair (.int .i64) (.pair (.int .i64) .unit)))
 | 32=>(.pair (.int .u8) (.pair .bool .unit))
 | 33=>(.pair .str (.pair (.int .i64) .unit))
 | 34=>(.pair (.int .i64) (.pair .str .unit))
 | 35=>(.pair .str (.pair (.aZ (.ext 22)) (.pair .bool .unit)))
 | 36=>(.pair (.aZ .str) (.pair (.ext 1) (.pair .bool (.pair .str (.pair .str (.pair (.int .i64) .unit))))))
 | _+37=>.unit
def aoP:Nat->Nat
 | 0=>18
 | 1=>15
 | 2=>5
 | 3=>10
 | 4=>9
 | 5=>4
 | 6=>2
 | 7=>5
 | 8=>5
 | 9=>2
 | 10=>2
 | 11=>2
 | 12=>2
 | 13=>3
 | 14=>2
 | 15=>3
 | 16=>22
 | 17=>2
 | 18=>3
 | 19=>4
 | 20=>4
 | 21=>2
 | 22=>4
 | 23=>2
 | 24=>2
 | 25=>3
 | 26=>22
 | 27=>3
 | 28=>2
 | 29=>3
 | 30=>4
 | 31=>3
 | 32=>2
 | 33=>2
 | 34=>2
 | 35=>3
 | 36=>20
 | _+37=>0
def apZ:(i:Nat)->ED i->J DV
 | 0,x=>UC x
 | 1,x=>yD x
 | 2,x=>Bv x
 | 3,x=>yB x
 | 4,x=>nK x
 | 5,x=>sX x
 | 6,x=>qC x
 | 7,x=>lF x
 | 8,x=>uV x
 | 9,x=>qD x
 | 10,x=>uW x
 | 11,x=>yC x
 | 12,x=>zu x
 | 13,x=>uX x
 | 14,x=>oq x
 | 15,x=>afm x
 | 16,x=>ahj x
 | 17,x=>alu x
 | 18,x=>ahk x
 | 19,x=>Gr x
 | 20,x=>afn x
 | 21,x=>ab5 x
 | 22,x=>Qq x
 | 23,x=>Rj x
 | 24,x=>ahl x
 | 25,x=>aaI x
 | 26,x=>aaJ x
 | 27,x=>ajp x
 | 28,x=>ahm x
 | 29,x=>WJ x
 | 30,x=>afp x
 | 31,x=>afq x
 | 32,x=>ajr x
 | 33,x=>Xc x
 | 34,x=>afr x
 | 35,x=>Xd x
 | 36,x=>Xe x
 | _+37,_=>[]
def ap0:(i:Nat)->ED i->(Edf i).den ED
 | 0,(x:uO)=>(x.ou,(x.o6,(x.Jp,(x.ke,()))))
 | 1,(x:dM)=>(x.fName,(x.bN,(x.cC,(x.tC,(x.nL,(x.tD,(x.iA,(x.fH,(x.Bz,(x.oh,(x.Kk,(x.vU,(x.Jo,(x.TE,()))))))))))))))
 | 2,(x:bC)=>(x.fName,(x.bL,(x.cE,(x.uc,(x.lq,())))))
 | 3,(x:yb)=>(x.fName,(x.fBody,()))
 | 4,(x:TNode)=>(x.fKind,(x.fPos,(x.fName,(x.fAll,(x.fAssigns,(x.fWords,(x.fRedirs,(x.fKids,(x.fItems,())))))))))
 | 5,(x:rB)=>(x.fPos,(x.fName,(x.bL,())))
 | 6,(x:fZ)=>(x.fPos,(x.fParts,()))
 | 7,(x:TPart)=>(x.fKind,(x.fText,(x.fOp,(x.fColon,(x.fParts,())))))
 | 8,(x:uU)=>(x.fPos,(x.fFd,(x.fOp,(x.Uw,()))))
 | 9,(x:TItem)=>(x.fPatterns,(x.fBody,()))
 | 10,(x:bX)=>(x.fName,(x.bL,()))
 | 11,(x:zq)=>(x.ahT,(x.Uz,()))
 | 12,(x:lU)=>(x.Jm,(x.Fp,()))
 | 13,(x:bu)=>(x.bS,(x.nM,(x.fData,())))
 | 14,(x:fh)=>(x.fText,(x.fH,()))
 | 15,(x:dY)=>(x.fParts,(x.ML,(x.fE,())))
 | 16,(x:aX)=>(x.ck,(x.ek,(x.fused,(x.jD,(x.fe,(x.fm,(x.kQ,(x.tn,()))))))))
 | 17,(x:aH)=>(x.fText,(x.b8,()))
 | 18,(x:dh)=>(x.fq,(x.B1,(x.jV,())))
 | 19,(x:TExpr)=>(x.fOp,(x.fN,(x.fName,(x.fKids,()))))
 | 20,(x:Fx)=>(x.fs,(x.WI,(x.fe,(x.N9,()))))
 | 21,(x:fG)=>(x.fb,(x.lR,()))
 | 22,(x:aG)=>(x.fKind,(x.fText,(x.BD,(x.cE,()))))
 | 23,(x:bU)=>(x.pZ,(x.jP,()))
 | 24,(x:lH)=>(x.fname,(x.rD,()))
 | 25,(x:cG)=>(x.fI,(x.mw,(x.uD,())))
 | 26,(x:aM)=>(x.ck,(x.TF,(x.ek,(x.jD,(x.kQ,(x.tn,(x.fm,(x.yL,()))))))))
 | 27,(x:cM)=>(x.fq,(x.jV,(x.mw,())))
 | 28,(x:dD)=>(x.WI,(x.yL,()))
 | 29,(x:fu)=>(x.uD,(x.N9,(x.fI,())))
 | 30,(x:Fy)=>(x.fs,(x.Vk,()))
 | 31,(x:gT)=>(x.Fv,(x.NW,(x.fop,())))
 | 32,(x:eG)=>(x.fb,(x.lR,()))
 | 33,(x:cH)=>(x.fI,(x.mw,()))
 | 34,(x:dH)=>(x.HZ,(x.H6,()))
 | 35,(x:bA)=>(x.fI,(x.qE,(x.qF,())))
 | 36,(x:ei)=>(x.wH,(x.ou,(x.TG,(x.TH,(x.Gt,(x.fH,()))))))
 | _+37,_=>()
def aoQ:(i:Nat)->(Edf i).den ED->ED i
 | 0,x=>uO.mk x.1 x.2.1 x.2.2.1 x.2.2.2.1
 | 1,x=>dM.mk x.1 x.2.1 x.2.2.1 x.2.2.2.1 x.2.2.2.2.1 x.2.2.2.2.2.1 x.2.2.2.2.2.2.1 x.2.2.2.2.2.2.2.1 x.2.2.2.2.2.2.2.2.1 x.2.2.2.2.2.2.2.2.2.1 x.2.2.2.2.2.2.2.2.2.2.1 x.2.2.2.2.2.2.2.2.2.2.2.1 x.2.2.2.2.2.2.2.2.2.2.2.2.1 x.2.2.2.2.2.2.2.2.2.2.2.2.2.1
 | 2,x=>bC.mk x.1 x.2.1 x.2.2.1 x.2.2.2.1 x.2.2.2.2.1
 | 3,x=>yb.mk x.1 x.2.1
 | 4,x=>TNode.mk x.1 x.2.1 x.2.2.1 x.2.2.2.1 x.2.2.2.2.1 x.2.2.2.2.2.1 x.2.2.2.2.2.2.1 x.2.2.2.2.2.2.2.1 x.2.2.2.2.2.2.2.2.1
 | 5,x=>rB.mk x.1 x.2.1 x.2.2.1
 | 6,x=>fZ.mk x.1 x.2.1
 | 7,x=>TPart.mk x.1 x.2.1 x.2.2.1 x.2.2.2.1 x.2.2.2.2.1
 | 8,x=>uU.mk x.1 x.2.1 x.2.2.1 x.2.2.2.1
 | 9,x=>TItem.mk x.1 x.2.1
 | 10,x=>bX.mk x.1 x.2.1
 | 11,x=>zq.mk x.1 x.2.1
 | 12,x=>lU.mk x.1 x.2.1
 | 13,x=>bu.mk x.1 x.2.1 x.2.2.1
 | 14,x=>fh.mk x.1 x.2.1
 | 15,x=>dY.mk x.1 x.2.1 x.2.2.1
 | 16,x=>aX.mk x.1 x.2.1 x.2.2.1 x.2.2.2.1 x.2.2.2.2.1 x.2.2.2.2.2.1 x.2.2.2.2.2.2.1 x.2.2.2.2.2.2.2.1
 | 17,x=>aH.mk x.1 x.2.1
 | 18,x=>dh.mk x.1 x.2.1 x.2.2.1
 | 19,x=>TExpr.mk x.1 x.2.1 x.2.2.1 x.2.2.2.1
 | 20,x=>Fx.mk x.1 x.2.1 x.2.2.1 x.2.2.2.1
 | 21,x=>fG.mk x.1 x.2.1
 | 22,x=>aG.mk x.1 x.2.1 x.2.2.1 x.2.2.2.1
 | 23,x=>bU.mk x.1 x.2.1
 | 24,x=>lH.mk x.1 x.2.1
 | 25,x=>cG.mk x.1 x.2.1 x.2.2.1
 | 26,x=>aM.mk x.1 x.2.1 x.2.2.1 x.2.2.2.1 x.2.2.2.2.1 x.2.2.2.2.2.1 x.2.2.2.2.2.2.1 x.2.2.2.2.2.2.2.1
 | 27,x=>cM.mk x.1 x.2.1 x.2.2.1
 | 28,x=>dD.mk x.1 x.2.1
 | 29,x=>fu.mk x.1 x.2.1 x.2.2.1
 | 30,x=>Fy.mk x.1 x.2.1
 | 31,x=>gT.mk x.1 x.2.1 x.2.2.1
 | 32,x=>eG.mk x.1 x.2.1
 | 33,x=>cH.mk x.1 x.2.1
 | 34,x=>dH.mk x.1 x.2.1
 | 35,x=>bA.mk x.1 x.2.1 x.2.2.1
 | 36,x=>ei.mk x.1 x.2.1 x.2.2.1 x.2.2.2.1 x.2.2.2.2.1 x.2.2.2.2.2.1
 | _+37,_=>()
def ap1:(i:Nat)->ED i
 | 0=>ajW
 | 1=>Jn
 | 2=>dW
 | 3=>afR
 | 4=>Yz
 | 5=>Yx
 | 6=>xu
 | 7=>jZ
 | 8=>acm
 | 9=>afQ
 | 10=>p9
 | 11=>afS
 | 12=>Kj
 | 13=>bP
 | 14=>BA
 | 15=>ajn
 | 16=>als
 | 17=>dm
 | 18=>alv
 | 19=>dx
 | 20=>ajo
 | 21=>iL
 | 22=>fU
 | 23=>gr
 | 24=>oQ
 | 25=>oD
 | 26=>afo
 | 27=>anp
 | 28=>alw
 | 29=>acV
 | 30=>ajq
 | 31=>yI
 | 32=>cA
 | 33=>qK
 | 34=>ajs
 | 35=>I1
 | 36=>ab6
 | _+37=>()
def Egb(b:Nat):O (aI Value->Prop):=cond (Nat.beq b 1) (some (fun cs=>cs=(Lib.pow10Tab.map fun z=>Value.int .u64 z).toArray)) (cond (Nat.beq b 0) (some (fun cs=>∃m,cs[0]? = some (Value.int .i64 m))) none)
def Eyd(y:Nat)(Y:YD):Prop:=cond (Nat.beq y 3000000) (Y=Tf 1 Tryz.f78 [true,true,true,true,false,true]) (False)
def ajt(y:Nat):O Nat:=cond (Nat.beq y 3000000) (some 1) (none)
def Ezc(e:aD):Bool:=(!(Nat.beq e 444)&&(!(Nat.beq e 443)&&(!(Nat.beq e 6)&&(!(Nat.beq e 5)&&true))))
def E:TEnv:=⟨ED,Edf,aoP,apZ,ap0,aoQ,ap1,Egb,Eyd,ajt,Ezc⟩
theorem aki:∀(i:Nat)(x:E.D i),E.enc i x=(E.df i).cells E (E.zE i x)
 | 0,x=>by kernel_rfl
 | 1,x=>by kernel_rfl
 | 2,x=>rfl
 | 3,x=>by cases x with|mk y0 y1=>cases y1;kernel_rfl
 | 4,x=>by cases x;show nK _=_;simp only [nK,tA,tB];rfl
 | 5,x=>by kernel_rfl
 | 6,x=>rfl
 | 7,x=>by cases x;show lF _=_;simp only [lF,Dp];rfl
 | 8,x=>by kernel_rfl
 | 9,x=>by cases x;show qD _=_;simp only [qD,tA,tB];rfl
 | 10,x=>rfl
 | 11,x=>rfl
 | 12,x=>rfl
 | 13,x=>rfl
 | 14,x=>rfl
 | 15,x=>rfl
 | 16,x=>by kernel_rfl
 | 17,x=>rfl
 | 18,x=>rfl
 | 19,x=>by cases x;show Gr _=_;simp only [Gr,LM];rfl
 | 20,x=>rfl
 | 21,x=>rfl
 | 22,x=>rfl
 | 23,x=>rfl
 | 24,x=>rfl
 | 25,x=>rfl
 | 26,x=>by kernel_rfl
 | 27,x=>rfl
 | 28,x=>rfl
 | 29,x=>rfl
 | 30,x=>by kernel_rfl
 | 31,x=>rfl
 | 32,x=>rfl
 | 33,x=>rfl
 | 34,x=>rfl
 | 35,x=>rfl
 | 36,x=>by kernel_rfl
 | _+37,_=>rfl
theorem anq:∀(i:Nat)(y:(E.df i).den E.D),E.zE i (E.fold i y)=y:=by
 intro i
 iterate 37 (rcases i with _|i;· intro _;rfl)
 intro _;rfl
theorem anr:∀(i:Nat),E.size i=(E.df i).size E:=by
 intro i
 iterate 37 (rcases i with _|i;· rfl)
 rfl
theorem aoR:∀(i:Nat)(x:E.D i),(E.enc i x).length=E.size i:=by
 intro i
 iterate 37 (rcases i with _|i;· intro x;rw [aki];first|rfl|(cases x with|mk y0 y1=>cases y1;rfl))
 intro _;rfl
theorem aoS:∀(y:Nat)(Y:YD)(n:Nat),E.yd y Y->E.ydn y=some n->Y.params.size=n:=by
 intro y Y n h1 h2;have h1:Eyd y Y:=h1;have h2:ajt y=some n:=h2;unfold Eyd at h1;unfold ajt at h2;by_cases hb0:Nat.beq y 3000000=true
 ·rw [hb0,bq] at h1 h2
  rw [h1];exact (uK h2)▸(show (Tf 1 Tryz.f78 [true,true,true,true,false,true]).params.size=1 by kernel_rfl)
 rw [Bool.not_eq_true] at hb0;rw [hb0,aS] at h1 h2;exact h1.elim
theorem Dl:E.Ok:=⟨aki,anq,anr,aoR,aoS⟩
def Hr:aD->O Ty:=fun t=>(([(3,(.int .i64)),(4,.bool),(5,(.int .u8)),(9,.str),(21,(.int .i32)),(22,(.aZ (.ext 2))),(23,(.aZ .str)),(24,(.aZ (.ext 3))),(25,(.aZ (.ext 10))),(26,(.aZ (.ext 11))),(27,(.ext 12)),(28,(.ext 12)),(29,(.ext 1)),(30,(.ext 1)),(31,(.aZ (.ext 13))),(32,(.aZ (.ext 14))),(33,(.ext 0)),(34,(.ext 0)),(35,(.aZ (.ext 6))),(38,(.aZ (.ext 7))),(42,(.ext 36)),(43,(.ext 36)),(44,(.int .i64)),(47,(.ext 6)),(48,(.ext 6)),(55,(.ext 14)),(56,(.ext 14)),(60,(.ext 15)),(61,(.ext 15)),(63,(.ext 2)),(64,(.ext 2)),(65,(.ext 13)),(66,(.ext 13)),(73,(.ext 27)),(74,(.ext 27)),(81,(.aZ (.ext 17))),(87,(.ext 18)),(88,(.ext 18)),(93,(.aZ (.aZ (.ext 17)))),(96,(.ext 16)),(97,(.ext 16)),(102,(.ext 7)),(103,(.ext 7)),(108,(.ext 26)),(109,(.ext 26)),(114,(.aZ (.int .u8))),(117,(.ext 17)),(118,(.ext 17)),(128,(.aZ (.aZ (.ext 25)))),(130,(.aZ (.ext 25))),(137,(.aZ (.ext 22))),(150,(.ext 10)),(151,(.ext 10)),(153,(.ext 11)),(154,(.ext 11)),(156,(.aZ (.ext 5))),(157,(.aZ (.ext 8))),(158,(.aZ (.ext 4))),(159,(.aZ (.ext 9))),(160,(.ext 4)),(161,(.ext 4)),(162,(.ext 3)),(163,(.ext 3)),(171,(.ext 25)),(172,(.ext 25)),(175,(.aZ (.ext 23))),(176,(.ext 22)),(177,(.ext 22)),(179,(.aZ (.ext 21))),(184,(.ext 21)),(185,(.ext 21)),(191,(.aZ (.aZ (.ext 33)))),(193,(.aZ (.ext 33))),(199,(.aZ (.ext 35))),(205,(.ext 35)),(206,(.ext 35)),(211,(.ext 5)),(212,(.ext 5)),(216,(.ext 8)),(217,(.ext 8)),(220,(.ext 9)),(221,(.ext 9)),(223,(.aZ (.ext 10))),(225,(.ext 10)),(251,(.ext 33)),(252,(.ext 33)),(260,(.aZ (.ext 32))),(264,(.ext 32)),(265,(.ext 32)),(268,(.ext 34)),(269,(.ext 34)),(280,(.aZ (.ext 19))),(281,(.ext 19)),(282,(.ext 19)),(302,(.int .u64)),(303,(.ext 23)),(304,(.ext 23)),(305,(.aZ (.ext 24))),(307,(.ext 24)),(308,(.ext 24)),(333,(.ext 28)),(334,(.ext 28)),(337,(.ext 29)),(338,(.ext 29)),(340,(.ext 30)),(341,(.ext 30)),(363,(.ext 20)),(364,(.ext 20)),(370,(.aZ .bool)),(396,ahi),(410,(.aZ (.ext 31))),(412,(.ext 31)),(413,(.ext 31))]:J (Nat×Ty)).find? fun p=>Nat.beq p.1 t).map (·.2)
theorem mixed:Tryz.prog.follows .mixedOrders=true:=by kernel_rfl
noncomputable abbrev pg:=Tryz.prog
set_option maxRecDepth 100000 in
theorem dc{Γ:J (bB E)}{C:bB E}{fn:Func}(F:Nat)(pl:cZ)(hΓ:∀C'∈Γ,C'.Ok pg)(hf:pg.funcs[C.s.f]? = some fn)(hn:(fn.name == "runtime.NumGoroutine")=false:=by kernel_rfl)(h:∀x,Z4 ⟨pg,Hr,Γ,[],none⟩ F C.s fn pl x=C.m x:=by intro x;kernel_rfl):C.Ok pg:=bB.Yi (X:=⟨pg,Hr,Γ,[],none⟩) (F:=F) ⟨Dl,hΓ,mixed,goN,PK⟩ (pl:=pl) hf hn h
theorem rW{C:bB E}(h:∀x,C.m x=none):C.Ok pg:=fun x y e=>nomatch (h x).symm.trans e
abbrev lf:cZ:=.leaf
abbrev qs(a b:cZ):cZ:=.seq [] none a b
abbrev qa(b:cZ):cZ:=.seq [] none .leaf b
def dp(l:J Int):J (Nat×Bool):=l.map fun
 | .ofNat n=>(n,true)
 | .negSucc n=>(n,false)
abbrev Bs:=J UInt8
abbrev u2{a b c:Type}(q:a->b->c)(x:a×b):c:=q x.1 x.2
abbrev u3{a b c d:Type}(q:a->b->c->d)(x:a×b×c):d:=q x.1 x.2.1 x.2.2
abbrev u4{a b c d e:Type}(q:a->b->c->d->e)(x:a×b×c×d):e:=q x.1 x.2.1 x.2.2.1 x.2.2.2
abbrev u5{a b c d e f:Type}(q:a->b->c->d->e->f)(x:a×b×c×d×e):f:=q x.1 x.2.1 x.2.2.1 x.2.2.2.1 x.2.2.2.2
abbrev u6{a b c d e f g:Type}(q:a->b->c->d->e->f->g)(x:a×b×c×d×e×f):g:=q x.1 x.2.1 x.2.2.1 x.2.2.2.1 x.2.2.2.2.1 x.2.2.2.2.2
abbrev u7{a b c d e f g h:Type}(q:a->b->c->d->e->f->g->h)(x:a×b×c×d×e×f×g):h:=q x.1 x.2.1 x.2.2.1 x.2.2.2.1 x.2.2.2.2.1 x.2.2.2.2.2.1 x.2.2.2.2.2.2
abbrev u8{a b c d e f g h i:Type}(q:a->b->c->d->e->f->g->h->i)(x:a×b×c×d×e×f×g×h):i:=q x.1 x.2.1 x.2.2.1 x.2.2.2.1 x.2.2.2.2.1 x.2.2.2.2.2.1 x.2.2.2.2.2.2.1 x.2.2.2.2.2.2.2
abbrev oE(n:Nat):PT:=.one (.dat (.ext n))
abbrev oL(n:Nat):PT:=.one (.dat (.aZ (.ext n)))
abbrev oB:PT:=.one (.dat .bool)
abbrev oI:PT:=.one (.dat (.int .i64))
abbrev oU:PT:=.one (.dat (.int .u64))
abbrev oS:PT:=.one (.dat .str)
abbrev oT:PT:=.one (.dat (.aZ .str))
def sh(f:Nat)(a:J PT)(r:PT):cL:=⟨f,a,[],[],⟨r,[],[],[]⟩,none,[]⟩
def ct(l:J (Nat×PT)):Cut:=⟨l,[],[],[]⟩
def rb(a b:Nat):Nat×Cut×Bool:=(a,ct [(b,oB)],false)
def ro(a b:Nat)(t:PT):Nat×Cut×Bool:=(a,ct [(b,t)],false)
def zW{A:Type}(_:A):Prop:=True
def wx{A:Type}{v:A}(_:zW v):A:=v
abbrev WQ(A:Type):=∀ {v:A},zW v->A
section
variable {A R S : Type} {x y : O R} {e : O A} {k : A -> O R} {b : Bool}
theorem ws(x:R):zW (some x):=trivial
theorem wn:zW (none (α:=R)):=trivial
theorem ww(x:O R):zW x:=trivial
theorem wc(b:Bool)(_:zW x)(_:zW y):zW (cond b x y):=trivial
theorem wo(b:Bool){x:O Bool}(_:zW x):zW (cond b (some true) x):=trivial
theorem wa(b:Bool){x:O Bool}(_:zW x):zW (cond b x (some false)):=trivial
theorem wq(b:Bool)(_:zW x):zW (rq b x):=trivial
theorem wg(i:Int)(l:J A)(_:zW x):zW (rq (decide (0<=i)&&decide (i<l.length)) x):=trivial
theorem wi(l:J A)(i:Int)(d:A)(_:∀v,zW (k v)):zW (rq (decide (0<=i)&&decide (i<l.length)) (k (l.getD i.toNat d))):=trivial
theorem wb(e:O A)(_:∀v,zW (k v)):zW (e.bind k):=trivial
theorem wm(e:O A):zW (e.bind fun x=>some x):=trivial
theorem jw(_:zW e):zW (e.bind fun x=>some x):=trivial
theorem wv(_:zW e)(_:∀v,zW (k v)):zW (e.bind k):=trivial
theorem wu(A:Type){e:O A}{k:A->O R}(_:zW e)(_:∀v,zW (k v)):zW (e.bind k):=trivial
theorem wl(S:Type){f:(S->O R)->S->O R}(_:∀k v,zW (f k v))(F:Nat)(s:S):zW (bV f F s):=trivial
theorem wt(a:A)(_:∀v,zW (k v)):zW (k a):=trivial
theorem wp(m:Nat)(l r:J A){k:J A->O R}(_:∀v,zW (k v)):zW (rq (decide (l.length+r.length<=9223372036854775807)&&decide ((l.length+r.length)*m<=140737488355328)) (k (l++r))):=trivial
theorem wj(l r:J A){k:J A->O R}(_:∀v,zW (k v)):zW (rq (decide (l.length+r.length<=9223372036854775807)) (k (l++r))):=trivial
end
section
variable {R : Type}
variable {A0 A1 : Type}
theorem di(e:O (A0×A1)){k:A0->A1->O R}(_:∀a b,zW (k a b)):zW (e.bind fun x=>k x.1 x.2):=trivial
theorem vA{e:O (A0×A1)}{k:A0->A1->O R}(_:zW e)(_:∀a b,zW (k a b)):zW (e.bind fun x=>k x.1 x.2):=trivial
theorem wu2(A0 A1:Type){e:O (A0×A1)}{k:A0->A1->O R}(_:zW e)(_:∀a b,zW (k a b)):zW (e.bind fun x=>k x.1 x.2):=trivial
theorem gV(A0 A1:Type){f:((A0×A1)->O R)->A0->A1->O R}(_:∀k a b,zW (f k a b))(F:Nat)(s:A0×A1):zW (bV (fun k x=>f k x.1 x.2) F s):=trivial
variable {A2 : Type}
theorem lZ(e:O (A0×A1×A2)){k:A0->A1->A2->O R}(_:∀a b c,zW (k a b c)):zW (e.bind fun x=>k x.1 x.2.1 x.2.2):=trivial
theorem Qr{e:O (A0×A1×A2)}{k:A0->A1->A2->O R}(_:zW e)(_:∀a b c,zW (k a b c)):zW (e.bind fun x=>k x.1 x.2.1 x.2.2):=trivial
theorem tN(A0 A1 A2:Type){f:((A0×A1×A2)->O R)->A0->A1->A2->O R}(_:∀k a b c,zW (f k a b c))(F:Nat)(s:A0×A1×A2):zW (bV (fun k x=>f k x.1 x.2.1 x.2.2) F s):=trivial
variable {A3 : Type}
theorem LN(e:O (A0×A1×A2×A3)){k:A0->A1->A2->A3->O R}(_:∀a b c d,zW (k a b c d)):zW (e.bind fun x=>k x.1 x.2.1 x.2.2.1 x.2.2.2):=trivial
theorem wv4{e:O (A0×A1×A2×A3)}{k:A0->A1->A2->A3->O R}(_:zW e)(_:∀a b c d,zW (k a b c d)):zW (e.bind fun x=>k x.1 x.2.1 x.2.2.1 x.2.2.2):=trivial
theorem wl4(A0 A1 A2 A3:Type){f:((A0×A1×A2×A3)->O R)->A0->A1->A2->A3->O R}(_:∀k a b c d,zW (f k a b c d))(F:Nat)(s:A0×A1×A2×A3):zW (bV (fun k x=>f k x.1 x.2.1 x.2.2.1 x.2.2.2) F s):=trivial
variable {A4 : Type}
theorem y5(e:O (A0×A1×A2×A3×A4)){k:A0->A1->A2->A3->A4->O R}(_:∀a b c d e,zW (k a b c d e)):zW (e.bind fun x=>k x.1 x.2.1 x.2.2.1 x.2.2.2.1 x.2.2.2.2):=trivial
theorem wv5{e:O (A0×A1×A2×A3×A4)}{k:A0->A1->A2->A3->A4->O R}(_:zW e)(_:∀a b c d e,zW (k a b c d e)):zW (e.bind fun x=>k x.1 x.2.1 x.2.2.1 x.2.2.2.1 x.2.2.2.2):=trivial
variable {A5 : Type}
theorem wb6(e:O (A0×A1×A2×A3×A4×A5)){k:A0->A1->A2->A3->A4->A5->O R}(_:∀a b c d e g,zW (k a b c d e g)):zW (e.bind fun x=>k x.1 x.2.1 x.2.2.1 x.2.2.2.1 x.2.2.2.2.1 x.2.2.2.2.2):=trivial
variable {A6 : Type}
theorem wl7(A0 A1 A2 A3 A4 A5 A6:Type){f:((A0×A1×A2×A3×A4×A5×A6)->O R)->A0->A1->A2->A3->A4->A5->A6->O R}(_:∀k a b c d e g h,zW (f k a b c d e g h))(F:Nat)(s:A0×A1×A2×A3×A4×A5×A6):zW (bV (fun k x=>f k x.1 x.2.1 x.2.2.1 x.2.2.2.1 x.2.2.2.2.1 x.2.2.2.2.2.1 x.2.2.2.2.2.2) F s):=trivial
variable {A7 : Type}
theorem wl8(A0 A1 A2 A3 A4 A5 A6 A7:Type){f:((A0×A1×A2×A3×A4×A5×A6×A7)->O R)->A0->A1->A2->A3->A4->A5->A6->A7->O R}(_:∀k a b c d e g h i,zW (f k a b c d e g h i))(F:Nat)(s:A0×A1×A2×A3×A4×A5×A6×A7):zW (bV (fun k x=>f k x.1 x.2.1 x.2.2.1 x.2.2.2.1 x.2.2.2.2.1 x.2.2.2.2.2.1 x.2.2.2.2.2.2.1 x.2.2.2.2.2.2.2) F s):=trivial
variable {A8 : Type}
end
end Go.Proofs.YthmndfnkdgmenaaGreatDoor
