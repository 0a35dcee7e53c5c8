import Derived.Test.YthkbglhnagkpcaaGreatDoorSh
import Derived.Test.YthkbglhnagkpcaaGreatDoorRk
import Derived.Test.YthkbglhnagkpcaaGreatDoorChecked
open Option renaming some->iN,none->iF
open Bool renaming true->eQ,false->eK
open Decidable renaming decide->eJ
open Nat renaming beq->dO
open Go renaming Value->R0
open List renaming length->Sx
set_option linter.all false
namespace Go.Proofs.YthkbglhnagkpcaaGreatDoor
open Go.Proofs.Tryz
open Go.RT Go.RowKit Go.Maps Go.Sort Go.Shelf
open Go.Proofs (encStr)
def asV(k:Nat):AnyZ.SortsIn prog Tryz.Un Fence.wide k:=
 ⟨λblk off cap ss W hH hblk hsz=>callsIn_wide.2 (AnyM.slices_Sort_string Tryz.abS blk off cap ss W hH hblk hsz),
  λp cap W=>callsIn_wide.2 (AnyM.slices_Sort_string_none Tryz.abS p cap W)⟩
theorem aoi:ad2 prog 294 353 271 9:=by
 intro w b0 b n D0 R hc hown hmax hbytes;have hseq:SeqGives Fence.wide 2 prog 353 #[.pointer (iN ⟨b0,0,iF⟩)] encStr (λss=>ss.Perm (strKeys D0)) (Maps.size D0) w:=
  AnyZ.keys_gives (ρ:=Tryz.aav) {Tryz.auu with} Fence.wide _ trivial rfl om b0 b n D0 _ (by
   have:=(BH.1 hc).1;omega) (by simp[World.cell?,hc]) hown
 have cS:=AnyZ.sorted_in Tryz.aqr Fence.wide 5 trivial trivial trivial trivial rfl om (asV _) (enters_of func75 kr rfl) 353 #[.pointer (iN ⟨b0,0,iF⟩)] trivial (enters_of func353 kr rfl) _ _ hmax hbytes _ hseq;change CallsIn _ _ prog 294 _ _ _ at cS;refine(callsIn_wide.1 cS).mono ?_;rintro e2 w2 ⟨v,ss,rfl,hS,hrow,-,hb⟩;exact⟨v,ss,rfl,hS,hrow,hb⟩
open Go.RT
abbrev alJ:Ty:=(.pair (.int .i64) (.pair (.int .i64) (.pair (.int .i64) (.pair (.int .i64) (.pair (.int .i64) (.pair (.int .i64) (.pair (.int .i64) (.pair (.int .i64) .unit))))))))
structure bP where
 fName:List UInt8
 cg:List UInt8
 cJ:Bool
 wG:Bool
 mW:Bool
 deriving Inhabited,DecidableEq
def eH:bP:=.mk [] [] eK eK eK
def DJ(v:bP):J DV:=([.str v.fName])++([.str v.cg])++([.bool v.cJ])++([.bool v.wG])++([.bool v.mW])
inductive d6 where
 | mk (fKind:Int) (fText:List UInt8) (fOp:Int) (fColon:Bool) (fParts:List d6)
def d6.fKind:d6->Int|.mk x _ _ _ _=>x
def d6.fText:d6->J UInt8|.mk _ x _ _ _=>x
def d6.fOp:d6->Int|.mk _ _ x _ _=>x
def d6.fColon:d6->Bool|.mk _ _ _ x _=>x
def d6.fParts:d6->J d6|.mk _ _ _ _ x=>x
@[simp] theorem d6.eta (v : d6) : d6.mk v.fKind v.fText v.fOp v.fColon v.fParts = v := by cases v; rfl
def mM:d6:=.mk 0 [] 0 eK []
mutual
def nw:d6->J DV|.mk fKind fText fOp fColon fParts=>([.int .i64 fKind])++([.str fText])++([.int .i64 fOp])++([.bool fColon])++([.slice 5 (Kw fParts)])
def Kw:J d6->J (J DV)|[]=>[]|x::xs=>nw x::Kw xs
end
theorem FN:∀l,Kw l=l.map nw|[]=>rfl|x::xs=>by simp only[Kw,jb,FN xs]
structure gj where
 fPos:Int
 fParts:List d6
def E4:gj:=.mk 0 []
def tA(v:gj):J DV:=([.int .i64 v.fPos])++([.slice 5 (v.fParts.map nw)])
structure uc where
 fPos:Int
 fName:List UInt8
 cg:gj
def acm:uc:=.mk 0 [] E4
def vm(v:uc):J DV:=([.int .i64 v.fPos])++([.str v.fName])++(tA v.cg)
structure xI where
 fPos:Int
 fFd:Int
 fOp:Int
 Yk:gj
def agu:xI:=.mk 0 0 0 E4
def xJ(v:xI):J DV:=([.int .i64 v.fPos])++([.int .i64 v.fFd])++([.int .i64 v.fOp])++(tA v.Yk)
mutual
inductive TNode where
 | mk (fKind:Int) (fPos:Int) (fName:List UInt8) (fAll:Bool) (fAssigns:List uc) (fWords:List gj) (fRedirs:List xI) (fKids:List TNode) (fItems:List TItem)
inductive TItem where
 | mk (fPatterns:List gj) (fBody:List TNode)
end
def TNode.fKind:TNode->Int|.mk x _ _ _ _ _ _ _ _=>x
def TNode.fPos:TNode->Int|.mk _ x _ _ _ _ _ _ _=>x
def TNode.fName:TNode->J UInt8|.mk _ _ x _ _ _ _ _ _=>x
def TNode.fAll:TNode->Bool|.mk _ _ _ x _ _ _ _ _=>x
def TNode.fAssigns:TNode->J uc|.mk _ _ _ _ x _ _ _ _=>x
def TNode.fWords:TNode->J gj|.mk _ _ _ _ _ x _ _ _=>x
def TNode.fRedirs:TNode->J xI|.mk _ _ _ _ _ _ x _ _=>x
def TNode.fKids:TNode->J TNode|.mk _ _ _ _ _ _ _ x _=>x
def TNode.fItems:TNode->J TItem|.mk _ _ _ _ _ _ _ _ x=>x
@[simp] theorem TNode.eta (v : TNode) : TNode.mk v.fKind v.fPos v.fName v.fAll v.fAssigns v.fWords v.fRedirs v.fKids v.fItems = v := by cases v; rfl
def TItem.fPatterns:TItem->J gj|.mk x _=>x
def TItem.fBody:TItem->J TNode|.mk _ x=>x
@[simp] theorem TItem.eta (v : TItem) : TItem.mk v.fPatterns v.fBody = v := by cases v; rfl
def aco:TNode:=.mk 0 0 [] eK [] [] [] [] []
def akg:TItem:=.mk [] []
mutual
def p5:TNode->J DV|.mk fKind fPos fName fAll fAssigns fWords fRedirs fKids fItems=>([.int .i64 fKind])++([.int .i64 fPos])++([.str fName])++([.bool fAll])++([.slice 4 (fAssigns.map vm)])++([.slice 2 (fWords.map tA)])++([.slice 5 (fRedirs.map xJ)])++([.slice 9 (Fs fKids)])++([.slice 2 (Kx fItems)])
def tB:TItem->J DV|.mk fPatterns fBody=>([.slice 2 (fPatterns.map tA)])++([.slice 9 (Fs fBody)])
def Fs:J TNode->J (J DV)|[]=>[]|x::xs=>p5 x::Fs xs
def Kx:J TItem->J (J DV)|[]=>[]|x::xs=>tB x::Kx xs
end
theorem vP:∀l,Fs l=l.map p5|[]=>rfl|x::xs=>by simp only[Fs,jb,vP xs]
theorem vQ:∀l,Kx l=l.map tB|[]=>rfl|x::xs=>by simp only[Kx,jb,vQ xs]
structure Ap where
 fName:List UInt8
 fBody:TNode
def akh:Ap:=.mk [] aco
def AM(v:Ap):J DV:=([.str v.fName])++(p5 v.fBody)
structure cA where
 fName:List UInt8
 cg:List UInt8
 deriving Inhabited,DecidableEq
def sK:cA:=.mk [] []
def xK(v:cA):J DV:=([.str v.fName])++([.str v.cg])
structure BV where
 amE:Int
 Yn:List UInt8
 deriving Inhabited,DecidableEq
def aki:BV:=.mk 0 []
def AN(v:BV):J DV:=([.int .i64 v.amE])++([.str v.Yn])
structure nQ where
 LS:Int
 HO:Int
 deriving Inhabited,DecidableEq
def Na:nQ:=.mk 0 0
def BZ(v:nQ):J DV:=([.int .i64 v.LS])++([.int .i64 v.HO])
structure eS where
 fName:List UInt8
 bR:List bP
 cZ:List (List UInt8)
 vR:List Ap
 p6:List cA
 vS:List BV
 gw:Int
 gC:Int
 DM:Int
 qy:Int
 ud:List UInt8
 yT:nQ
 LV:Int
 XL:Bool
def LU:eS:=.mk [] [] [] [] [] [] 0 0 0 0 [] Na 0 eK
def AP(v:eS):J DV:=([.str v.fName])++([.slice 5 (v.bR.map DJ)])++([.slice 1 (v.cZ.map (λv=>[.str v]))])++([.slice 10 (v.vR.map AM)])++([.slice 2 (v.p6.map xK)])++([.slice 2 (v.vS.map AN)])++([.int .i64 v.gw])++([.int .i64 v.gC])++([.int .i64 v.DM])++([.int .i64 v.qy])++([.str v.ud])++(BZ v.yT)++([.int .i64 v.LV])++([.bool v.XL])
structure aN where
 bJ:List UInt8
 kQ:Bool
 fData:List UInt8
 deriving Inhabited,DecidableEq
def cj:aN:=.mk [] eK []
def xL(v:aN):J DV:=([.str v.bJ])++([.bool v.kQ])++([.str v.fData])
structure iI where
 fText:List UInt8
 gC:Int
 deriving Inhabited,DecidableEq
def DN:iI:=.mk [] 0
def qz(v:iI):J DV:=([.str v.fText])++([.int .i64 v.gC])
structure xB where
 oy:eS
 ry:List aN
 LW:List (List UInt8)
 jq:List iI
def aoZ:xB:=.mk LU [] [] []
def Yq(v:xB):J DV:=(AP v.oy)++([.slice 3 (v.ry.map xL)])++([.slice 1 (v.LW.map (λv=>[.str v]))])++([.slice 2 (v.jq.map qz)])
structure eO where
 fParts:List d6
 TQ:Int
 fE:Int
def aoj:eO:=.mk [] 0 0
def ajE(v:eO):J DV:=([.slice 5 (v.fParts.map nw)])++([.int .i64 v.TQ])++([.int .i64 v.fE])
structure aY where
 bI:eS
 fA:List iI
 fused:Int
 lE:Int
 fe:Int
 fX:List UInt8
 nh:Bool
 w6:List UInt8
def aqI:aY:=.mk LU [] 0 0 0 [] eK []
def alK(v:aY):J DV:=(AP v.bI)++([.slice 2 (v.fA.map qz)])++([.int .i64 v.fused])++([.int .i64 v.lE])++([.int .i64 v.fe])++([.str v.fX])++([.bool v.nh])++([.str v.w6])
structure aA where
 fText:List UInt8
 aH:Int
 deriving Inhabited,DecidableEq
def dw:aA:=.mk [] 0
def aqJ(v:aA):J DV:=([.str v.fText])++([.int .i64 v.aH])
structure dm where
 fY:Bool
 Eh:Bool
 lF:Bool
 deriving Inhabited,DecidableEq
def aqK:dm:=.mk eK eK eK
def alL(v:dm):J DV:=([.bool v.fY])++([.bool v.Eh])++([.bool v.lF])
inductive d5 where
 | mk (fOp:Int) (fN:Int) (fName:List UInt8) (fKids:List d5)
def d5.fOp:d5->Int|.mk x _ _ _=>x
def d5.fN:d5->Int|.mk _ x _ _=>x
def d5.fName:d5->J UInt8|.mk _ _ x _=>x
def d5.fKids:d5->J d5|.mk _ _ _ x=>x
@[simp] theorem d5.eta (v : d5) : d5.mk v.fOp v.fN v.fName v.fKids = v := by cases v; rfl
def dN:d5:=.mk 0 0 [] []
mutual
def I6:d5->J DV|.mk fOp fN fName fKids=>([.int .i64 fOp])++([.int .i64 fN])++([.str fName])++([.slice 4 (Ky fKids)])
def Ky:J d5->J (J DV)|[]=>[]|x::xs=>I6 x::Ky xs
end
theorem OW:∀l,Ky l=l.map I6|[]=>rfl|x::xs=>by simp only[Ky,jb,OW xs]
structure HY where
 fs:List UInt8
 fat:Int
 fe:Int
 Rz:Int
 deriving Inhabited,DecidableEq
def aok:HY:=.mk [] 0 0 0
def ajF(v:HY):J DV:=([.str v.fs])++([.int .i64 v.fat])++([.int .i64 v.fe])++([.int .i64 v.Rz])
structure ei where
 fb:Int
 lq:Bool
 deriving Inhabited,DecidableEq
def jA:ei:=.mk 0 eK
def agb(v:ei):J DV:=([.int .u8 v.fb])++([.bool v.lq])
structure cx where
 qA:Int
 kB:Int
 deriving Inhabited,DecidableEq
def gf:cx:=.mk 0 0
def Vj(v:cx):J DV:=([.int .u8 v.qA])++([.int .u8 v.kB])
structure aD where
 fKind:Int
 fText:List UInt8
 B8:Bool
 cJ:List cx
 deriving Inhabited,DecidableEq
def dL:aD:=.mk 0 [] eK []
def Uv(v:aD):J DV:=([.int .i64 v.fKind])++([.str v.fText])++([.bool v.B8])++([.slice 2 (v.cJ.map Vj)])
structure ny where
 fname:List UInt8
 uh:List cx
 deriving Inhabited,DecidableEq
def qX:ny:=.mk [] []
def alM(v:ny):J DV:=([.str v.fname])++([.slice 2 (v.uh.map Vj)])
structure bZ where
 aR:List UInt8
 dZ:Int
 eM:Int
 deriving Inhabited,DecidableEq
def oY:bZ:=.mk [] 0 0
def aet(v:bZ):J DV:=([.str v.aR])++([.int .i64 v.dZ])++([.int .i64 v.eM])
structure aO where
 bI:eS
 XM:List aN
 fA:List iI
 lE:Int
 nh:Bool
 w6:List UInt8
 fX:List UInt8
 yx:Int
def ajG:aO:=.mk LU [] [] 0 eK [] [] 0
def aeu(v:aO):J DV:=(AP v.bI)++([.slice 3 (v.XM.map xL)])++([.slice 2 (v.fA.map qz)])++([.int .i64 v.lE])++([.bool v.nh])++([.str v.w6])++([.str v.fX])++([.int .i64 v.yx])
structure dM where
 fY:Bool
 lF:Bool
 dZ:Int
 deriving Inhabited,DecidableEq
def asW:dM:=.mk eK eK 0
def aol(v:dM):J DV:=([.bool v.fY])++([.bool v.lF])++([.int .i64 v.dZ])
structure eo where
 fat:Int
 yx:Int
 deriving Inhabited,DecidableEq
def aqL:eo:=.mk 0 0
def alN(v:eo):J DV:=([.int .i64 v.fat])++([.int .i64 v.yx])
structure gi where
 eM:Int
 Rz:Int
 aR:List UInt8
 deriving Inhabited,DecidableEq
def ag3:gi:=.mk 0 0 []
def aaB(v:gi):J DV:=([.int .i64 v.eM])++([.int .i64 v.Rz])++([.str v.aR])
structure HZ where
 fs:List UInt8
 Ze:gi
 deriving Inhabited,DecidableEq
def aom:HZ:=.mk [] ag3
def ajH(v:HZ):J DV:=([.str v.fs])++(aaB v.Ze)
structure iT where
 HW:List UInt8
 Rk:Int
 fop:Int
 deriving Inhabited,DecidableEq
def AY:iT:=.mk [] 0 0
def ajI(v:iT):J DV:=([.str v.HW])++([.int .i64 v.Rk])++([.int .i64 v.fop])
structure fK where
 fb:Int
 lq:Bool
 deriving Inhabited,DecidableEq
def cO:fK:=.mk 0 eK
def aon(v:fK):J DV:=([.int .u8 v.fb])++([.bool v.lq])
structure bn where
 aR:List UInt8
 dZ:Int
 deriving Inhabited,DecidableEq
def nr:bn:=.mk [] 0
def aaZ(v:bn):J DV:=([.str v.aR])++([.int .i64 v.dZ])
structure cK where
 Kz:Int
 fh:List UInt8
 deriving Inhabited,DecidableEq
instance:BEq cK:=⟨λa b=>(a.Kz==b.Kz&&(a.fh==b.fh&&eQ))⟩
instance:LawfulBEq cK:={
 eq_of_beq:=λ{a b} h=>by have h:(a.Kz==b.Kz&&(a.fh==b.fh&&eQ))=eQ:=h;simp only[cH,tv,and_true]at h;cases a;cases b;simp_all
 rfl:=λ{a}=>by
  show(a.Kz==a.Kz&&(a.fh==a.fh&&eQ))=eQ;simp}
def aoo:cK:=.mk 0 []
def ajJ(v:cK):J DV:=([.int .i64 v.Kz])++([.str v.fh])
structure aP where
 aR:List UInt8
 jI:List aD
 dP:Bool
 deriving Inhabited,DecidableEq
def oR:aP:=.mk [] [] eK
def aa0(v:aP):J DV:=([.str v.aR])++([.slice 4 (v.jI.map Uv)])++([.bool v.dP])
structure fR where
 zn:List (List UInt8)
 oy:eS
 XN:Bool
 XO:List UInt8
 I7:List UInt8
 gC:Int
def agc:fR:=.mk [] LU eK [] [] 0
def aa1(v:fR):J DV:=([.slice 1 (v.zn.map (λv=>[.str v]))])++(AP v.oy)++([.bool v.XN])++([.str v.XO])++([.str v.I7])++([.int .i64 v.gC])
structure cN where
 fh:List UInt8
 aR:List UInt8
 deriving Inhabited,DecidableEq
def yy:cN:=.mk [] []
def aop(v:cN):J DV:=([.str v.fh])++([.str v.aR])
def ED:Nat->Type|0=>xB|1=>eS|2=>bP|3=>Ap|4=>TNode|5=>uc|6=>gj|7=>d6|8=>xI|9=>TItem|10=>cA|11=>BV|12=>nQ|13=>aN|14=>iI|15=>eO|16=>aY|17=>aA|18=>dm|19=>d5|20=>HY|21=>ei|22=>aD|23=>cx|24=>ny|25=>bZ|26=>aO|27=>dM|28=>eo|29=>gi|30=>HZ|31=>iT|32=>fK|33=>bn|34=>cK|35=>aP|36=>fR|37=>cN|_+38=>Unit
def Edf:Nat->Ty|0=>(.pair (.ext 1) (.pair (.bx (.ext 13)) (.pair (.bx .str) (.pair (.bx (.ext 14)) .unit))))|1=>(.pair .str (.pair (.bx (.ext 2)) (.pair (.bx .str) (.pair (.bx (.ext 3)) (.pair (.bx (.ext 10)) (.pair (.bx (.ext 11)) (.pair (.int .i64) (.pair (.int .i64) (.pair (.int .i64) (.pair (.int .i64) (.pair .str (.pair (.ext 12) (.pair (.int .i64) (.pair .bool .unit))))))))))))))|2=>(.pair .str (.pair .str (.pair .bool (.pair .bool (.pair .bool .unit)))))|3=>(.pair .str (.pair (.ext 4) .unit))|4=>(.pair (.int .i64) (.pair (.int .i64) (.pair .str (.pair .bool (.pair (.bx (.ext 5)) (.pair (.bx (.ext 6)) (.pair (.bx (.ext 8)) (.pair (.bx (.ext 4)) (.pair (.bx (.ext 9)) .unit)))))))))|5=>(.pair (.int .i64) (.pair .str (.pair (.ext 6) .unit)))|6=>(.pair (.int .i64) (.pair (.bx (.ext 7)) .unit))|7=>(.pair (.int .i64) (.pair .str (.pair (.int .i64) (.pair .bool (.pair (.bx (.ext 7)) .unit)))))|8=>(.pair (.int .i64) (.pair (.int .i64) (.pair (.int .i64) (.pair (.ext 6) .unit))))|9=>(.pair (.bx (.ext 6)) (.pair (.bx (.ext 4)) .unit))|10=>(.pair .str (.pair .str .unit))|11=>(.pair (.int .i64) (.pair .str .unit))|12=>(.pair (.int .i64) (.pair (.int .i64) .unit))|13=>(.pair .str (.pair .bool (.pair .str .unit)))|14=>(.pair .str (.pair (.int .i64) .unit))|15=>(.pair (.bx (.ext 7)) (.pair (.int .i64) (.pair (.int .i64) .unit)))|16=>(.pair (.ext 1) (.pair (.bx (.ext 14)) (.pair (.int .i64) (.pair (.int .i64) (.pair (.int .i64) (.pair .str (.pair .bool (.pair .str .unit))))))))|17=>(.pair .str (.pair (.int .i64) .unit))|18=>(.pair .bool (.pair .bool (.pair .bool .unit)))|19=>(.pair (.int .i64) (.pair (.int .i64) (.pair .str (.pair (.bx (.ext 19)) .unit))))|20=>(.pair .str (.pair (.int .i64) (.pair (.int .i64) (.pair (.int .i64) .unit))))|21=>(.pair (.int .u8) (.pair .bool .unit))|22=>(.pair (.int .i64) (.pair .str (.pair .bool (.pair (.bx (.ext 23)) .unit))))|23=>(.pair (.int .u8) (.pair (.int .u8) .unit))|24=>(.pair .str (.pair (.bx (.ext 23)) .unit))|25=>(.pair .str (.pair (.int .i64) (.pair (.int .i64) .unit)))|26=>(.pair (.ext 1) (.pair (.bx (.ext 13)) (.pair (.bx (.ext 14)) (.pair (.int .i64) (.pair .bool (.pair .str (.pair .str (.pair (.int .i64) .unit))))))))|27=>(.pair .bool (.pair .bool (.pair (.int .i64) .unit)))|28=>(.pair (.int .i64) (.pair (.int .i64) .unit))|29=>(.pair (.int .i64) (.pair (.int .i64) (.pair .str .unit)))|30=>(.pair .str (.pair (.ext 29) .unit))|31=>(.pair .str (.pair (.int .i64) (.pair (.int .i64) .unit)))|32=>(.pair (.int .u8) (.pair .bool .unit))|33=>(.pair .str (.pair (.int .i64) .unit))|34=>(.pair (.int .i64) (.pair .str .unit))|35=>(.pair .str (.pair (.bx (.ext 22)) (.pair .bool .unit)))|36=>(.pair (.bx .str) (.pair (.ext 1) (.pair .bool (.pair .str (.pair .str (.pair (.int .i64) .unit))))))|37=>(.pair .str (.pair .str .unit))|_+38=>.unit
def auH:Nat->Nat|0=>18|1=>15|2=>5|3=>10|4=>9|5=>4|6=>2|7=>5|8=>5|9=>2|10=>2|11=>2|12=>2|13=>3|14=>2|15=>3|16=>22|17=>2|18=>3|19=>4|20=>4|21=>2|22=>4|23=>2|24=>2|25=>3|26=>22|27=>3|28=>2|29=>3|30=>4|31=>3|32=>2|33=>2|34=>2|35=>3|36=>20|37=>2|_+38=>0
def avU:(i:Nat)->ED i->J DV|0,x=>Yq x|1,x=>AP x|2,x=>DJ x|3,x=>AM x|4,x=>p5 x|5,x=>vm x|6,x=>tA x|7,x=>nw x|8,x=>xJ x|9,x=>tB x|10,x=>xK x|11,x=>AN x|12,x=>BZ x|13,x=>xL x|14,x=>qz x|15,x=>ajE x|16,x=>alK x|17,x=>aqJ x|18,x=>alL x|19,x=>I6 x|20,x=>ajF x|21,x=>agb x|22,x=>Uv x|23,x=>Vj x|24,x=>alM x|25,x=>aet x|26,x=>aeu x|27,x=>aol x|28,x=>alN x|29,x=>aaB x|30,x=>ajH x|31,x=>ajI x|32,x=>aon x|33,x=>aaZ x|34,x=>ajJ x|35,x=>aa0 x|36,x=>aa1 x|37,x=>aop x|_+38,_=>[]
def avV:(i:Nat)->ED i->(Edf i).den ED|0,(x:xB)=>(x.oy,(x.ry,(x.LW,(x.jq,()))))|1,(x:eS)=>(x.fName,(x.bR,(x.cZ,(x.vR,(x.p6,(x.vS,(x.gw,(x.gC,(x.DM,(x.qy,(x.ud,(x.yT,(x.LV,(x.XL,()))))))))))))))|2,(x:bP)=>(x.fName,(x.cg,(x.cJ,(x.wG,(x.mW,())))))|3,(x:Ap)=>(x.fName,(x.fBody,()))|4,(x:TNode)=>(x.fKind,(x.fPos,(x.fName,(x.fAll,(x.fAssigns,(x.fWords,(x.fRedirs,(x.fKids,(x.fItems,())))))))))|5,(x:uc)=>(x.fPos,(x.fName,(x.cg,())))|6,(x:gj)=>(x.fPos,(x.fParts,()))|7,(x:d6)=>(x.fKind,(x.fText,(x.fOp,(x.fColon,(x.fParts,())))))|8,(x:xI)=>(x.fPos,(x.fFd,(x.fOp,(x.Yk,()))))|9,(x:TItem)=>(x.fPatterns,(x.fBody,()))|10,(x:cA)=>(x.fName,(x.cg,()))|11,(x:BV)=>(x.amE,(x.Yn,()))|12,(x:nQ)=>(x.LS,(x.HO,()))|13,(x:aN)=>(x.bJ,(x.kQ,(x.fData,())))|14,(x:iI)=>(x.fText,(x.gC,()))|15,(x:eO)=>(x.fParts,(x.TQ,(x.fE,())))|16,(x:aY)=>(x.bI,(x.fA,(x.fused,(x.lE,(x.fe,(x.fX,(x.nh,(x.w6,()))))))))|17,(x:aA)=>(x.fText,(x.aH,()))|18,(x:dm)=>(x.fY,(x.Eh,(x.lF,())))|19,(x:d5)=>(x.fOp,(x.fN,(x.fName,(x.fKids,()))))|20,(x:HY)=>(x.fs,(x.fat,(x.fe,(x.Rz,()))))|21,(x:ei)=>(x.fb,(x.lq,()))|22,(x:aD)=>(x.fKind,(x.fText,(x.B8,(x.cJ,()))))|23,(x:cx)=>(x.qA,(x.kB,()))|24,(x:ny)=>(x.fname,(x.uh,()))|25,(x:bZ)=>(x.aR,(x.dZ,(x.eM,())))|26,(x:aO)=>(x.bI,(x.XM,(x.fA,(x.lE,(x.nh,(x.w6,(x.fX,(x.yx,()))))))))|27,(x:dM)=>(x.fY,(x.lF,(x.dZ,())))|28,(x:eo)=>(x.fat,(x.yx,()))|29,(x:gi)=>(x.eM,(x.Rz,(x.aR,())))|30,(x:HZ)=>(x.fs,(x.Ze,()))|31,(x:iT)=>(x.HW,(x.Rk,(x.fop,())))|32,(x:fK)=>(x.fb,(x.lq,()))|33,(x:bn)=>(x.aR,(x.dZ,()))|34,(x:cK)=>(x.Kz,(x.fh,()))|35,(x:aP)=>(x.aR,(x.jI,(x.dP,())))|36,(x:fR)=>(x.zn,(x.oy,(x.XN,(x.XO,(x.I7,(x.gC,()))))))|37,(x:cN)=>(x.fh,(x.aR,()))|_+38,_=>()
def auI:(i:Nat)->(Edf i).den ED->ED i|0,x=>xB.mk x.1 x.2.1 x.2.2.1 x.2.2.2.1|1,x=>eS.mk x.1 x.2.1 x.2.2.1 x.2.2.2.1 x.2.2.2.2.1 x.2.2.2.2.2.1 x.2.2.2.2.2.2.1 x.2.2.2.2.2.2.2.1 x.2.2.2.2.2.2.2.2.1 x.2.2.2.2.2.2.2.2.2.1 x.2.2.2.2.2.2.2.2.2.2.1 x.2.2.2.2.2.2.2.2.2.2.2.1 x.2.2.2.2.2.2.2.2.2.2.2.2.1 x.2.2.2.2.2.2.2.2.2.2.2.2.2.1|2,x=>bP.mk x.1 x.2.1 x.2.2.1 x.2.2.2.1 x.2.2.2.2.1|3,x=>Ap.mk x.1 x.2.1|4,x=>TNode.mk x.1 x.2.1 x.2.2.1 x.2.2.2.1 x.2.2.2.2.1 x.2.2.2.2.2.1 x.2.2.2.2.2.2.1 x.2.2.2.2.2.2.2.1 x.2.2.2.2.2.2.2.2.1|5,x=>uc.mk x.1 x.2.1 x.2.2.1|6,x=>gj.mk x.1 x.2.1|7,x=>d6.mk x.1 x.2.1 x.2.2.1 x.2.2.2.1 x.2.2.2.2.1|8,x=>xI.mk x.1 x.2.1 x.2.2.1 x.2.2.2.1|9,x=>TItem.mk x.1 x.2.1|10,x=>cA.mk x.1 x.2.1|11,x=>BV.mk x.1 x.2.1|12,x=>nQ.mk x.1 x.2.1|13,x=>aN.mk x.1 x.2.1 x.2.2.1|14,x=>iI.mk x.1 x.2.1|15,x=>eO.mk x.1 x.2.1 x.2.2.1|16,x=>aY.mk x.1 x.2.1 x.2.2.1 x.2.2.2.1 x.2.2.2.2.1 x.2.2.2.2.2.1 x.2.2.2.2.2.2.1 x.2.2.2.2.2.2.2.1|17,x=>aA.mk x.1 x.2.1|18,x=>dm.mk x.1 x.2.1 x.2.2.1|19,x=>d5.mk x.1 x.2.1 x.2.2.1 x.2.2.2.1|20,x=>HY.mk x.1 x.2.1 x.2.2.1 x.2.2.2.1|21,x=>ei.mk x.1 x.2.1|22,x=>aD.mk x.1 x.2.1 x.2.2.1 x.2.2.2.1|23,x=>cx.mk x.1 x.2.1|24,x=>ny.mk x.1 x.2.1|25,x=>bZ.mk x.1 x.2.1 x.2.2.1|26,x=>aO.mk x.1 x.2.1 x.2.2.1 x.2.2.2.1 x.2.2.2.2.1 x.2.2.2.2.2.1 x.2.2.2.2.2.2.1 x.2.2.2.2.2.2.2.1|27,x=>dM.mk x.1 x.2.1 x.2.2.1|28,x=>eo.mk x.1 x.2.1|29,x=>gi.mk x.1 x.2.1 x.2.2.1|30,x=>HZ.mk x.1 x.2.1|31,x=>iT.mk x.1 x.2.1 x.2.2.1|32,x=>fK.mk x.1 x.2.1|33,x=>bn.mk x.1 x.2.1|34,x=>cK.mk x.1 x.2.1|35,x=>aP.mk x.1 x.2.1 x.2.2.1|36,x=>fR.mk x.1 x.2.1 x.2.2.1 x.2.2.2.1 x.2.2.2.2.1 x.2.2.2.2.2.1|37,x=>cN.mk x.1 x.2.1|_+38,_=>()
def avW:(i:Nat)->ED i|0=>aoZ|1=>LU|2=>eH|3=>akh|4=>aco|5=>acm|6=>E4|7=>mM|8=>agu|9=>akg|10=>sK|11=>aki|12=>Na|13=>cj|14=>DN|15=>aoj|16=>aqI|17=>dw|18=>aqK|19=>dN|20=>aok|21=>jA|22=>dL|23=>gf|24=>qX|25=>oY|26=>ajG|27=>asW|28=>aqL|29=>ag3|30=>aom|31=>AY|32=>cO|33=>nr|34=>aoo|35=>oR|36=>agc|37=>yy|_+38=>()
def Egb(b:Nat):O (aJ R0->Prop):=cond (dO b 1) (iN (λcs=>cs=(Lib.pow10Tab.map λz=>Value.int .u64 z).toArray)) (cond (dO b 0) (iN (λcs=>∃m,cs[0]? = iN (Value.int .i64 m))) iF)
def Eyd(y:Nat)(Y:YD):Prop:=cond (dO y 3000000) (Y=Xp 1 Tryz.f40 [eQ,eQ,eQ,eQ,eK,eQ]) (False)
def aoq(y:Nat):O Nat:=cond (dO y 3000000) (iN 1) (iF)
def Ezc(e:aK):Bool:=(!(dO e 453)&&(!(dO e 452)&&(!(dO e 6)&&(!(dO e 5)&&eQ))))
def E:TEnv:=⟨ED,Edf,auH,avU,avV,auI,avW,Egb,Eyd,aoq,Ezc⟩
theorem apq:∀(i:Nat)(x:E.D i),E.enc i x=(E.df i).cells E (E.Cc i x)
 | 0,x=>by kernel_rfl|1,x=>by kernel_rfl|2,x=>rfl|3,x=>by cases x with|mk y0 y1=>cases y1;kernel_rfl
 | 4,x=>by cases x;show p5 _=_;simp only[p5,vP,vQ];rfl
 | 5,x=>by kernel_rfl|6,x=>rfl|7,x=>by cases x;show nw _=_;simp only[nw,FN];rfl
 | 8,x=>by kernel_rfl|9,x=>by cases x;show tB _=_;simp only[tB,vP,vQ];rfl
 | 10,x=>rfl|11,x=>rfl|12,x=>rfl|13,x=>rfl|14,x=>rfl|15,x=>rfl|16,x=>by kernel_rfl|17,x=>rfl|18,x=>rfl|19,x=>by cases x;show I6 _=_;simp only[I6,OW];rfl
 | 20,x=>rfl|21,x=>rfl|22,x=>rfl|23,x=>rfl|24,x=>rfl|25,x=>rfl|26,x=>by kernel_rfl|27,x=>rfl|28,x=>rfl|29,x=>rfl|30,x=>by kernel_rfl|31,x=>rfl|32,x=>rfl|33,x=>rfl|34,x=>rfl|35,x=>rfl|36,x=>by kernel_rfl|37,x=>rfl|_+38,_=>rfl
theorem asX:∀(i:Nat)(y:(E.df i).den E.D),E.Cc i (E.fold i y)=y:=by
 intro i
 iterate 38 (rcases i with _|i;· intro _;rfl)
 intro _;rfl
theorem asY:∀(i:Nat),E.size i=(E.df i).size E:=by
 intro i
 iterate 38 (rcases i with _|i;· rfl)
 rfl
theorem auJ:∀(i:Nat)(x:E.D i),Sx (E.enc i x)=E.size i:=by
 intro i
 iterate 38 (rcases i with _|i;· intro x;rw[apq];first|rfl|(cases x with|mk y0 y1=>cases y1;rfl))
 intro _;rfl
theorem auK:∀(y:Nat)(Y:YD)(n:Nat),E.yd y Y->E.ydn y=iN n->Y.params.size=n:=by
 intro y Y n h1 h2;have h1:Eyd y Y:=h1;have h2:aoq y=iN n:=h2;unfold Eyd at h1;unfold aoq at h2;by_cases hb0:dO y 3000000=eQ
 .rw[hb0,aQ]at h1 h2;rw[h1];exact(o4 h2)▸(show(Xp 1 Tryz.f40 [eQ,eQ,eQ,eQ,eK,eQ]).params.size=1 by kernel_rfl)
 rw[Bool.not_eq_true]at hb0;rw[hb0,aI]at h1 h2;exact h1.elim
def DE:E.Ok:=⟨apq,asX,asY,auJ,auK⟩
def Ie:aK->O Ty:=λt=>(([(3,(.int .i64)),(4,.bool),(5,(.int .u8)),(9,.str),(21,(.int .i32)),(22,(.bx (.ext 2))),(23,(.bx .str)),(24,(.bx (.ext 3))),(25,(.bx (.ext 10))),(26,(.bx (.ext 11))),(27,(.ext 12)),(28,(.ext 12)),(29,(.ext 1)),(30,(.ext 1)),(31,(.bx (.ext 13))),(32,(.bx (.ext 14))),(33,(.ext 0)),(34,(.ext 0)),(35,(.bx (.ext 6))),(39,(.ext 36)),(40,(.ext 36)),(41,(.int .i64)),(50,(.ext 14)),(51,(.ext 14)),(55,(.ext 2)),(56,(.ext 2)),(57,(.ext 13)),(58,(.ext 13)),(60,(.bx (.ext 7))),(61,(.ext 6)),(62,(.ext 6)),(80,(.bx (.ext 17))),(82,(.ext 18)),(83,(.ext 18)),(84,(.bx (.bx (.ext 17)))),(87,(.ext 16)),(88,(.ext 16)),(93,(.ext 27)),(94,(.ext 27)),(95,(.ext 26)),(96,(.ext 26)),(109,(.ext 15)),(110,(.ext 15)),(115,(.ext 7)),(116,(.ext 7)),(117,(.bx (.bx (.ext 25)))),(119,(.bx (.ext 25))),(122,(.ext 17)),(123,(.ext 17)),(126,(.bx (.ext 22))),(131,(.bx (.bx (.ext 33)))),(133,(.bx (.ext 33))),(137,(.bx (.int .u8))),(148,(.bx (.ext 35))),(154,(.ext 35)),(155,(.ext 35)),(162,(.ext 10)),(163,(.ext 10)),(165,(.ext 11)),(166,(.ext 11)),(168,(.bx (.ext 5))),(169,(.bx (.ext 8))),(170,(.bx (.ext 4))),(171,(.bx (.ext 9))),(172,(.ext 4)),(173,(.ext 4)),(174,(.ext 3)),(175,(.ext 3)),(177,(.ext 37)),(178,(.ext 37)),(179,(.bx (.ext 37))),(192,(.ext 25)),(193,(.ext 25)),(196,(.bx (.ext 23))),(197,(.ext 22)),(198,(.ext 22)),(200,(.bx (.ext 21))),(205,(.ext 21)),(206,(.ext 21)),(209,(.ext 33)),(210,(.ext 33)),(219,(.bx (.ext 32))),(223,(.ext 32)),(224,(.ext 32)),(227,(.ext 34)),(228,(.ext 34)),(233,(.ext 5)),(234,(.ext 5)),(238,(.ext 8)),(239,(.ext 8)),(242,(.ext 9)),(243,(.ext 9)),(255,(.bx (.ext 10))),(256,(.ext 10)),(284,(.ext 23)),(285,(.ext 23)),(297,(.int .u64)),(298,(.bx .bool)),(303,(.bx (.ext 19))),(304,(.ext 19)),(305,(.ext 19)),(314,(.bx (.ext 24))),(316,(.ext 24)),(317,(.ext 24)),(354,(.ext 20)),(355,(.ext 20)),(365,(.ext 28)),(366,(.ext 28)),(369,(.ext 29)),(370,(.ext 29)),(372,(.ext 30)),(373,(.ext 30)),(413,alJ),(425,(.bx (.ext 31))),(427,(.ext 31)),(428,(.ext 31))]:J (Nat×Ty)).find? λp=>dO p.1 t).map (·.2)
theorem mixed:Tryz.prog.follows .mixedOrders=eQ:=by kernel_rfl
noncomputable abbrev pg:=prog
set_option maxRecDepth 100000 in
theorem dx{Γ:J (bL E)}{C:bL E}{fn:Func}(F:Nat)(pl:fu)(hΓ:∀C'∈Γ,C'.Ok pg)(hf:pg.funcs[C.s.f]? = iN fn)(hn:(fn.name == "runtime.NumGoroutine")=eK:=by kernel_rfl)(h:∀x,adS ⟨pg,Ie,Γ,[],iF⟩ F C.s fn pl x=C.m x:=by intro x;kernel_rfl):C.Ok pg:=bL.Xr (X:=⟨pg,Ie,Γ,[],iF⟩) (F:=F) ⟨DE,hΓ,mixed,goN,P0⟩ (pl:=pl) hf hn h
def uF{C:bL E}(h:∀x,C.m x=iF):C.Ok pg:=λx y e=>nomatch (h x).symm.trans e
abbrev lf:fu:=.leaf
abbrev qs(a b:fu):fu:=.seq [] iF a b
abbrev qa(b:fu):fu:=.seq [] iF .leaf b
def dp(l:J Int):J (Nat×Bool):=l.map λ|.ofNat n=>(n,eQ)|.negSucc n=>(n,eK)
abbrev Bs:=J UInt8
abbrev u2{a b c:Type}(q:a->b->c)(x:a×b):c:=q x.1 x.2
abbrev u3{a b c d:Type}(q:a->b->c->d)(x:a×b×c):d:=q x.1 x.2.1 x.2.2
abbrev u4{a b c d e:Type}(q:a->b->c->d->e)(x:a×b×c×d):e:=q x.1 x.2.1 x.2.2.1 x.2.2.2
abbrev u5{a b c d e f:Type}(q:a->b->c->d->e->f)(x:a×b×c×d×e):f:=q x.1 x.2.1 x.2.2.1 x.2.2.2.1 x.2.2.2.2
abbrev u6{a b c d e f g:Type}(q:a->b->c->d->e->f->g)(x:a×b×c×d×e×f):g:=q x.1 x.2.1 x.2.2.1 x.2.2.2.1 x.2.2.2.2.1 x.2.2.2.2.2
abbrev u7{a b c d e f g h:Type}(q:a->b->c->d->e->f->g->h)(x:a×b×c×d×e×f×g):h:=q x.1 x.2.1 x.2.2.1 x.2.2.2.1 x.2.2.2.2.1 x.2.2.2.2.2.1 x.2.2.2.2.2.2
abbrev u8{a b c d e f g h i:Type}(q:a->b->c->d->e->f->g->h->i)(x:a×b×c×d×e×f×g×h):i:=q x.1 x.2.1 x.2.2.1 x.2.2.2.1 x.2.2.2.2.1 x.2.2.2.2.2.1 x.2.2.2.2.2.2.1 x.2.2.2.2.2.2.2
abbrev oE(n:Nat):PT:=.one (.dat (.ext n))
abbrev oL(n:Nat):PT:=.one (.dat (.bx (.ext n)))
abbrev oB:PT:=.one (.dat .bool)
abbrev oI:PT:=.one (.dat (.int .i64))
abbrev oU:PT:=.one (.dat (.int .u64))
abbrev oS:PT:=.one (.dat .str)
abbrev oT:PT:=.one (.dat (.bx .str))
def sh(f:Nat)(a:J PT)(r:PT):dB:=⟨f,a,[],[],⟨r,[],[],[]⟩,iF,[]⟩
def ct(l:J (Nat×PT)):Cut:=⟨l,[],[],[]⟩
def rb(a b:Nat):Nat×Cut×Bool:=(a,ct [(b,oB)],eK)
def ro(a b:Nat)(t:PT):Nat×Cut×Bool:=(a,ct [(b,t)],eK)
def zW{A:Type}(_:A):Prop:=True
def wx{A:Type}{v:A}(_:zW v):A:=v
abbrev WQ(A:Type):=∀ {v:A},zW v->A
variable{A R S:Type}{x y:O R}{e:O A}{k:A -> O R}{b:Bool}
def ws(x:R):zW (iN x):=trivial
def wn:zW (iF (α:=R)):=trivial
def ww(x:O R):zW x:=trivial
def wc(b:Bool)(_:zW x)(_:zW y):zW (cond b x y):=trivial
def wo(b:Bool){x:O Bool}(_:zW x):zW (cond b (iN eQ) x):=trivial
def wa(b:Bool){x:O Bool}(_:zW x):zW (cond b x (iN eK)):=trivial
def wq(b:Bool)(_:zW x):zW (rq b x):=trivial
def wg(i:Int)(l:J A)(_:zW x):zW (rq (eJ (0<=i)&&eJ (i<Sx l)) x):=trivial
def wi(l:J A)(i:Int)(d:A)(_:∀v,zW (k v)):zW (rq (eJ (0<=i)&&eJ (i<Sx l)) (k (l.getD i.toNat d))):=trivial
def wb(e:O A)(_:∀v,zW (k v)):zW (e.bind k):=trivial
def wm(e:O A):zW (e.bind λx=>iN x):=trivial
def kj(_:zW e):zW (e.bind λx=>iN x):=trivial
def wv(_:zW e)(_:∀v,zW (k v)):zW (e.bind k):=trivial
def wu(A:Type){e:O A}{k:A->O R}(_:zW e)(_:∀v,zW (k v)):zW (e.bind k):=trivial
def wl(S:Type){f:(S->O R)->S->O R}(_:∀k v,zW (f k v))(F:Nat)(s:S):zW (ck f F s):=trivial
def wt(a:A)(_:∀v,zW (k v)):zW (k a):=trivial
def wp(m:Nat)(l r:J A){k:J A->O R}(_:∀v,zW (k v)):zW (rq (eJ (Sx l+Sx r<=9223372036854775807)&&eJ ((Sx l+Sx r)*m<=140737488355328)) (k (l++r))):=trivial
def wj(l r:J A){k:J A->O R}(_:∀v,zW (k v)):zW (rq (eJ (Sx l+Sx r<=9223372036854775807)) (k (l++r))):=trivial
variable{A0 A1 A2 A3 A4 A5 A6 A7 A8:Type}
def cY(e:O (A0×A1)){k:A0->A1->O R}(_:∀a b,zW (k a b)):zW (e.bind λx=>k x.1 x.2):=trivial
def w8{e:O (A0×A1)}{k:A0->A1->O R}(_:zW e)(_:∀a b,zW (k a b)):zW (e.bind λx=>k x.1 x.2):=trivial
def wu2(A0 A1:Type){e:O (A0×A1)}{k:A0->A1->O R}(_:zW e)(_:∀a b,zW (k a b)):zW (e.bind λx=>k x.1 x.2):=trivial
def iq(A0 A1:Type){f:((A0×A1)->O R)->A0->A1->O R}(_:∀k a b,zW (f k a b))(F:Nat)(s:A0×A1):zW (ck (λk x=>f k x.1 x.2) F s):=trivial
def og(e:O (A0×A1×A2)){k:A0->A1->A2->O R}(_:∀a b c,zW (k a b c)):zW (e.bind λx=>k x.1 x.2.1 x.2.2):=trivial
def Uw{e:O (A0×A1×A2)}{k:A0->A1->A2->O R}(_:zW e)(_:∀a b c,zW (k a b c)):zW (e.bind λx=>k x.1 x.2.1 x.2.2):=trivial
def sA(A0 A1 A2:Type){f:((A0×A1×A2)->O R)->A0->A1->A2->O R}(_:∀k a b c,zW (f k a b c))(F:Nat)(s:A0×A1×A2):zW (ck (λk x=>f k x.1 x.2.1 x.2.2) F s):=trivial
def Ml(e:O (A0×A1×A2×A3)){k:A0->A1->A2->A3->O R}(_:∀a b c d,zW (k a b c d)):zW (e.bind λx=>k x.1 x.2.1 x.2.2.1 x.2.2.2):=trivial
def wv4{e:O (A0×A1×A2×A3)}{k:A0->A1->A2->A3->O R}(_:zW e)(_:∀a b c d,zW (k a b c d)):zW (e.bind λx=>k x.1 x.2.1 x.2.2.1 x.2.2.2):=trivial
def wl4(A0 A1 A2 A3:Type){f:((A0×A1×A2×A3)->O R)->A0->A1->A2->A3->O R}(_:∀k a b c d,zW (f k a b c d))(F:Nat)(s:A0×A1×A2×A3):zW (ck (λk x=>f k x.1 x.2.1 x.2.2.1 x.2.2.2) F s):=trivial
def Bz(e:O (A0×A1×A2×A3×A4)){k:A0->A1->A2->A3->A4->O R}(_:∀a b c d e,zW (k a b c d e)):zW (e.bind λx=>k x.1 x.2.1 x.2.2.1 x.2.2.2.1 x.2.2.2.2):=trivial
def wv5{e:O (A0×A1×A2×A3×A4)}{k:A0->A1->A2->A3->A4->O R}(_:zW e)(_:∀a b c d e,zW (k a b c d e)):zW (e.bind λx=>k x.1 x.2.1 x.2.2.1 x.2.2.2.1 x.2.2.2.2):=trivial
def wb6(e:O (A0×A1×A2×A3×A4×A5)){k:A0->A1->A2->A3->A4->A5->O R}(_:∀a b c d e g,zW (k a b c d e g)):zW (e.bind λx=>k x.1 x.2.1 x.2.2.1 x.2.2.2.1 x.2.2.2.2.1 x.2.2.2.2.2):=trivial
def wl7(A0 A1 A2 A3 A4 A5 A6:Type){f:((A0×A1×A2×A3×A4×A5×A6)->O R)->A0->A1->A2->A3->A4->A5->A6->O R}(_:∀k a b c d e g h,zW (f k a b c d e g h))(F:Nat)(s:A0×A1×A2×A3×A4×A5×A6):zW (ck (λk x=>f k x.1 x.2.1 x.2.2.1 x.2.2.2.1 x.2.2.2.2.1 x.2.2.2.2.2.1 x.2.2.2.2.2.2) F s):=trivial
def wl8(A0 A1 A2 A3 A4 A5 A6 A7:Type){f:((A0×A1×A2×A3×A4×A5×A6×A7)->O R)->A0->A1->A2->A3->A4->A5->A6->A7->O R}(_:∀k a b c d e g h i,zW (f k a b c d e g h i))(F:Nat)(s:A0×A1×A2×A3×A4×A5×A6×A7):zW (ck (λk x=>f k x.1 x.2.1 x.2.2.1 x.2.2.2.1 x.2.2.2.2.1 x.2.2.2.2.2.1 x.2.2.2.2.2.2.1 x.2.2.2.2.2.2.2) F s):=trivial
