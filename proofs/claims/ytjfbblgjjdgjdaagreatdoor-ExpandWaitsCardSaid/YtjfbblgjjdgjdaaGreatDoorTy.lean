import Derived.Test.YtjfbblgjjdgjdaaGreatDoorSh
import Derived.Test.YtjfbblgjjdgjdaaGreatDoorRk
import Derived.Test.YtjfbblgjjdgjdaaGreatDoorChecked
open Option renaming some->iN,none->iF
open Bool renaming true->hJ,false->eQ
open Decidable renaming decide->eK
open Nat renaming beq->eI
open Go renaming Value->T1
open List renaming length->Ts
set_option linter.all false
namespace Go.Proofs.YtjfbblgjjdgjdaaGreatDoor
open Go.Proofs.Tryz
open Go.RT Go.RowKit Go.Maps Go.Sort Go.Shelf
open Go.Proofs (encStr)
def asA(k:Nat):AnyZ.SortsIn prog Tryz.Tq Fence.wide k:=
 ⟨λblk off cap ss W hH hblk hsz=>callsIn_wide.2 (AnyM.slices_Sort_string Tryz.abm blk off cap ss W hH hblk hsz),
  λp cap W=>callsIn_wide.2 (AnyM.slices_Sort_string_none Tryz.abm p cap W)⟩
theorem anS:adx prog 284 344 259 9:=by
 intro w b0 b n D0 R hc hown hmax hbytes;have hseq:SeqGives Fence.wide 2 prog 344 #[.pointer (iN ⟨b0,0,iF⟩)] encStr (λss=>ss.Perm (strKeys D0)) (Maps.size D0) w:=
  AnyZ.keys_gives (ρ:=Tryz.ZU) {Tryz.at3 with} Fence.wide _ trivial rfl om b0 b n D0 _ (by
   have:=(Bp.1 hc).1;omega) (by simp[World.cell?,hc]) hown
 have cS:=AnyZ.sorted_in Tryz.apZ Fence.wide 5 trivial trivial trivial trivial rfl om (asA _) (enters_of func73 kr rfl) 344 #[.pointer (iN ⟨b0,0,iF⟩)] trivial (enters_of func344 kr rfl) _ _ hmax hbytes _ hseq;change CallsIn _ _ prog 284 _ _ _ at cS;refine(callsIn_wide.1 cS).mono ?_;rintro e2 w2 ⟨v,ss,rfl,hS,hrow,-,hb⟩;exact⟨v,ss,rfl,hS,hrow,hb⟩
open Go.RT
abbrev ale:Ty:=(.pair (.int .i64) (.pair (.int .i64) (.pair (.int .i64) (.pair (.int .i64) (.pair (.int .i64) (.pair (.int .i64) (.pair (.int .i64) (.pair (.int .i64) .unit))))))))
structure bP where
 fName:List UInt8
 cg:List UInt8
 cK:Bool
 vT:Bool
 mO:Bool
 deriving Inhabited,DecidableEq
def eD:bP:=.mk [] [] eQ eQ eQ
def Dk(v:bP):J DV:=([.str v.fName])++([.str v.cg])++([.bool v.cK])++([.bool v.vT])++([.bool v.mO])
inductive d6 where
 | mk (fKind:Int) (fText:List UInt8) (fOp:Int) (fColon:Bool) (fParts:List d6)
def d6.fKind:d6->Int|.mk x _ _ _ _=>x
def d6.fText:d6->J UInt8|.mk _ x _ _ _=>x
def d6.fOp:d6->Int|.mk _ _ x _ _=>x
def d6.fColon:d6->Bool|.mk _ _ _ x _=>x
def d6.fParts:d6->J d6|.mk _ _ _ _ x=>x
@[simp] theorem d6.eta (v : d6) : d6.mk v.fKind v.fText v.fOp v.fColon v.fParts = v := by cases v; rfl
def ko:d6:=.mk 0 [] 0 eQ []
mutual
def nk:d6->J DV|.mk fKind fText fOp fColon fParts=>([.int .i64 fKind])++([.str fText])++([.int .i64 fOp])++([.bool fColon])++([.slice 5 (JU fParts)])
def JU:J d6->J (J DV)|[]=>[]|x::xs=>nk x::JU xs
end
theorem Ft:∀l,JU l=l.map nk|[]=>rfl|x::xs=>by simp only[JU,jF,Ft xs]
structure eX where
 fPos:Int
 fParts:List d6
def EG:eX:=.mk 0 []
def sW(v:eX):J DV:=([.int .i64 v.fPos])++([.slice 5 (v.fParts.map nk)])
structure tI where
 fPos:Int
 fName:List UInt8
 cg:eX
def abP:tI:=.mk 0 [] EG
def uT(v:tI):J DV:=([.int .i64 v.fPos])++([.str v.fName])++(sW v.cg)
structure w8 where
 fPos:Int
 fFd:Int
 fOp:Int
 Xy:eX
def afR:w8:=.mk 0 0 0 EG
def w9(v:w8):J DV:=([.int .i64 v.fPos])++([.int .i64 v.fFd])++([.int .i64 v.fOp])++(sW v.Xy)
mutual
inductive TNode where
 | mk (fKind:Int) (fPos:Int) (fName:List UInt8) (fAll:Bool) (fAssigns:List tI) (fWords:List eX) (fRedirs:List w8) (fKids:List TNode) (fItems:List TItem)
inductive TItem where
 | mk (fPatterns:List eX) (fBody:List TNode)
end
def TNode.fKind:TNode->Int|.mk x _ _ _ _ _ _ _ _=>x
def TNode.fPos:TNode->Int|.mk _ x _ _ _ _ _ _ _=>x
def TNode.fName:TNode->J UInt8|.mk _ _ x _ _ _ _ _ _=>x
def TNode.fAll:TNode->Bool|.mk _ _ _ x _ _ _ _ _=>x
def TNode.fAssigns:TNode->J tI|.mk _ _ _ _ x _ _ _ _=>x
def TNode.fWords:TNode->J eX|.mk _ _ _ _ _ x _ _ _=>x
def TNode.fRedirs:TNode->J w8|.mk _ _ _ _ _ _ x _ _=>x
def TNode.fKids:TNode->J TNode|.mk _ _ _ _ _ _ _ x _=>x
def TNode.fItems:TNode->J TItem|.mk _ _ _ _ _ _ _ _ x=>x
@[simp] theorem TNode.eta (v : TNode) : TNode.mk v.fKind v.fPos v.fName v.fAll v.fAssigns v.fWords v.fRedirs v.fKids v.fItems = v := by cases v; rfl
def TItem.fPatterns:TItem->J eX|.mk x _=>x
def TItem.fBody:TItem->J TNode|.mk _ x=>x
@[simp] theorem TItem.eta (v : TItem) : TItem.mk v.fPatterns v.fBody = v := by cases v; rfl
def abR:TNode:=.mk 0 0 [] eQ [] [] [] [] []
def ajM:TItem:=.mk [] []
mutual
def pQ:TNode->J DV|.mk fKind fPos fName fAll fAssigns fWords fRedirs fKids fItems=>([.int .i64 fKind])++([.int .i64 fPos])++([.str fName])++([.bool fAll])++([.slice 4 (fAssigns.map uT)])++([.slice 2 (fWords.map sW)])++([.slice 5 (fRedirs.map w9)])++([.slice 9 (E6 fKids)])++([.slice 2 (JV fItems)])
def sX:TItem->J DV|.mk fPatterns fBody=>([.slice 2 (fPatterns.map sW)])++([.slice 9 (E6 fBody)])
def E6:J TNode->J (J DV)|[]=>[]|x::xs=>pQ x::E6 xs
def JV:J TItem->J (J DV)|[]=>[]|x::xs=>sX x::JV xs
end
theorem vn:∀l,E6 l=l.map pQ|[]=>rfl|x::xs=>by simp only[E6,jF,vn xs]
theorem vo:∀l,JV l=l.map sX|[]=>rfl|x::xs=>by simp only[JV,jF,vo xs]
structure z8 where
 fName:List UInt8
 fBody:TNode
def ajN:z8:=.mk [] abR
def Au(v:z8):J DV:=([.str v.fName])++(pQ v.fBody)
structure cD where
 fName:List UInt8
 cg:List UInt8
 deriving Inhabited,DecidableEq
def rZ:cD:=.mk [] []
def xb(v:cD):J DV:=([.str v.fName])++([.str v.cg])
structure BA where
 ama:Int
 XB:List UInt8
 deriving Inhabited,DecidableEq
def ajO:BA:=.mk 0 []
def Av(v:BA):J DV:=([.int .i64 v.ama])++([.str v.XB])
structure oR where
 Lb:Int
 Hq:Int
 deriving Inhabited,DecidableEq
def Ms:oR:=.mk 0 0
def BB(v:oR):J DV:=([.int .i64 v.Lb])++([.int .i64 v.Hq])
structure eO where
 fName:List UInt8
 bX:List bP
 dc:List (List UInt8)
 vp:List z8
 pR:List cD
 vq:List BA
 ir:Int
 gr:Int
 Dn:Int
 qo:Int
 uU:List UInt8
 yy:oR
 Ld:Int
 WY:Bool
def Lc:eO:=.mk [] [] [] [] [] [] 0 0 0 0 [] Ms 0 eQ
def Aw(v:eO):J DV:=([.str v.fName])++([.slice 5 (v.bX.map Dk)])++([.slice 1 (v.dc.map (λv=>[.str v]))])++([.slice 10 (v.vp.map Au)])++([.slice 2 (v.pR.map xb)])++([.slice 2 (v.vq.map Av)])++([.int .i64 v.ir])++([.int .i64 v.gr])++([.int .i64 v.Dn])++([.int .i64 v.qo])++([.str v.uU])++(BB v.yy)++([.int .i64 v.Ld])++([.bool v.WY])
structure aZ where
 bM:List UInt8
 lV:Bool
 fData:List UInt8
 deriving Inhabited,DecidableEq
def cw:aZ:=.mk [] eQ []
def xg(v:aZ):J DV:=([.str v.bM])++([.bool v.lV])++([.str v.fData])
structure cO where
 fText:List UInt8
 gr:Int
 deriving Inhabited,DecidableEq
def xh:cO:=.mk [] 0
def qp(v:cO):J DV:=([.str v.fText])++([.int .i64 v.gr])
structure wS where
 mY:eO
 oV:List aZ
 Le:List (List UInt8)
 kf:List cO
def aox:wS:=.mk Lc [] [] []
def XE(v:wS):J DV:=(Aw v.mY)++([.slice 3 (v.oV.map xg)])++([.slice 1 (v.Le.map (λv=>[.str v]))])++([.slice 2 (v.kf.map qp)])
structure eG where
 fParts:List d6
 SV:Int
 fE:Int
def anT:eG:=.mk [] 0 0
def ai5(v:eG):J DV:=([.slice 5 (v.fParts.map nk)])++([.int .i64 v.SV])++([.int .i64 v.fE])
structure aR where
 cj:eO
 dx:List cO
 fused:Int
 ld:Int
 fe:Int
 fK:List UInt8
 fZ:Bool
 yT:List UInt8
def aqg:aR:=.mk Lc [] 0 0 0 [] eQ []
def alf(v:aR):J DV:=(Aw v.cj)++([.slice 2 (v.dx.map qp)])++([.int .i64 v.fused])++([.int .i64 v.ld])++([.int .i64 v.fe])++([.str v.fK])++([.bool v.fZ])++([.str v.yT])
structure aB where
 fText:List UInt8
 aI:Int
 deriving Inhabited,DecidableEq
def dy:aB:=.mk [] 0
def aqh(v:aB):J DV:=([.str v.fText])++([.int .i64 v.aI])
structure cZ where
 fP:Bool
 DQ:Bool
 lq:Bool
 deriving Inhabited,DecidableEq
def aqi:cZ:=.mk eQ eQ eQ
def alg(v:cZ):J DV:=([.bool v.fP])++([.bool v.DQ])++([.bool v.lq])
inductive d5 where
 | mk (fOp:Int) (fN:Int) (fName:List UInt8) (fKids:List d5)
def d5.fOp:d5->Int|.mk x _ _ _=>x
def d5.fN:d5->Int|.mk _ x _ _=>x
def d5.fName:d5->J UInt8|.mk _ _ x _=>x
def d5.fKids:d5->J d5|.mk _ _ _ x=>x
@[simp] theorem d5.eta (v : d5) : d5.mk v.fOp v.fN v.fName v.fKids = v := by cases v; rfl
def dL:d5:=.mk 0 0 [] []
mutual
def Iw:d5->J DV|.mk fOp fN fName fKids=>([.int .i64 fOp])++([.int .i64 fN])++([.str fName])++([.slice 4 (JW fKids)])
def JW:J d5->J (J DV)|[]=>[]|x::xs=>Iw x::JW xs
end
theorem N9:∀l,JW l=l.map Iw|[]=>rfl|x::xs=>by simp only[JW,jF,N9 xs]
structure Hw where
 fs:List UInt8
 Z2:Int
 fe:Int
 QE:Int
 deriving Inhabited,DecidableEq
def anU:Hw:=.mk [] 0 0 0
def ai6(v:Hw):J DV:=([.str v.fs])++([.int .i64 v.Z2])++([.int .i64 v.fe])++([.int .i64 v.QE])
structure dZ where
 fb:Int
 nJ:Bool
 deriving Inhabited,DecidableEq
def jA:dZ:=.mk 0 eQ
def afB(v:dZ):J DV:=([.int .u8 v.fb])++([.bool v.nJ])
structure cC where
 qq:Int
 kq:Int
 deriving Inhabited,DecidableEq
def fT:cC:=.mk 0 0
def Uz(v:cC):J DV:=([.int .u8 v.qq])++([.int .u8 v.kq])
structure aC where
 fKind:Int
 fText:List UInt8
 BK:Bool
 cK:List cC
 deriving Inhabited,DecidableEq
def eN:aC:=.mk 0 [] eQ []
def TA(v:aC):J DV:=([.int .i64 v.fKind])++([.str v.fText])++([.bool v.BK])++([.slice 2 (v.cK.map Uz)])
structure nq where
 fname:List UInt8
 tJ:List cC
 deriving Inhabited,DecidableEq
def qK:nq:=.mk [] []
def alh(v:nq):J DV:=([.str v.fname])++([.slice 2 (v.tJ.map Uz)])
structure bL where
 bJ:List UInt8
 dM:Int
 dU:Int
 deriving Inhabited,DecidableEq
def nE:bL:=.mk [] 0 0
def adY(v:bL):J DV:=([.str v.bJ])++([.int .i64 v.dM])++([.int .i64 v.dU])
structure aO where
 cj:eO
 WZ:List aZ
 dx:List cO
 ld:Int
 fZ:Bool
 yT:List UInt8
 fK:List UInt8
 xS:Int
def ai7:aO:=.mk Lc [] [] 0 eQ [] [] 0
def adZ(v:aO):J DV:=(Aw v.cj)++([.slice 3 (v.WZ.map xg)])++([.slice 2 (v.dx.map qp)])++([.int .i64 v.ld])++([.bool v.fZ])++([.str v.yT])++([.str v.fK])++([.int .i64 v.xS])
structure dB where
 fP:Bool
 lq:Bool
 dM:Int
 deriving Inhabited,DecidableEq
def asB:dB:=.mk eQ eQ 0
def anV(v:dB):J DV:=([.bool v.fP])++([.bool v.lq])++([.int .i64 v.dM])
structure ei where
 Z2:Int
 xS:Int
 deriving Inhabited,DecidableEq
def aqj:ei:=.mk 0 0
def ali(v:ei):J DV:=([.int .i64 v.Z2])++([.int .i64 v.xS])
structure fU where
 dU:Int
 QE:Int
 bJ:List UInt8
 deriving Inhabited,DecidableEq
def agr:fU:=.mk 0 0 []
def Z3(v:fU):J DV:=([.int .i64 v.dU])++([.int .i64 v.QE])++([.str v.bJ])
structure Hx where
 fs:List UInt8
 Yw:fU
 deriving Inhabited,DecidableEq
def anW:Hx:=.mk [] agr
def ai8(v:Hx):J DV:=([.str v.fs])++(Z3 v.Yw)
structure iT where
 Hu:List UInt8
 Qr:Int
 fop:Int
 deriving Inhabited,DecidableEq
def AD:iT:=.mk [] 0 0
def ai9(v:iT):J DV:=([.str v.Hu])++([.int .i64 v.Qr])++([.int .i64 v.fop])
structure fJ where
 fb:Int
 nJ:Bool
 deriving Inhabited,DecidableEq
def cU:fJ:=.mk 0 eQ
def anX(v:fJ):J DV:=([.int .u8 v.fb])++([.bool v.nJ])
structure bq where
 bJ:List UInt8
 dM:Int
 deriving Inhabited,DecidableEq
def ni:bq:=.mk [] 0
def aau(v:bq):J DV:=([.str v.bJ])++([.int .i64 v.dM])
structure cM where
 JX:Int
 JY:List UInt8
 deriving Inhabited,DecidableEq
instance:BEq cM:=⟨λa b=>(a.JX==b.JX&&(a.JY==b.JY&&hJ))⟩
instance:LawfulBEq cM:={
 eq_of_beq:=λ{a b} h=>by have h:(a.JX==b.JX&&(a.JY==b.JY&&hJ))=hJ:=h;simp only[cL,uJ,and_true]at h;cases a;cases b;simp_all
 rfl:=λ{a}=>by
  show(a.JX==a.JX&&(a.JY==a.JY&&hJ))=hJ;simp}
def anY:cM:=.mk 0 []
def aja(v:cM):J DV:=([.int .i64 v.JX])++([.str v.JY])
structure bh where
 bJ:List UInt8
 jI:List aC
 fO:Bool
 deriving Inhabited,DecidableEq
def oK:bh:=.mk [] [] eQ
def aav(v:bh):J DV:=([.str v.bJ])++([.slice 4 (v.jI.map TA)])++([.bool v.fO])
structure dV where
 vU:List (List UInt8)
 mY:eO
 Al:Bool
 W4:List UInt8
 Ix:List UInt8
 gr:Int
def afC:dV:=.mk [] Lc eQ [] [] 0
def aaw(v:dV):J DV:=([.slice 1 (v.vU.map (λv=>[.str v]))])++(Aw v.mY)++([.bool v.Al])++([.str v.W4])++([.str v.Ix])++([.int .i64 v.gr])
def ED:Nat->Type|0=>wS|1=>eO|2=>bP|3=>z8|4=>TNode|5=>tI|6=>eX|7=>d6|8=>w8|9=>TItem|10=>cD|11=>BA|12=>oR|13=>aZ|14=>cO|15=>eG|16=>aR|17=>aB|18=>cZ|19=>d5|20=>Hw|21=>dZ|22=>aC|23=>cC|24=>nq|25=>bL|26=>aO|27=>dB|28=>ei|29=>fU|30=>Hx|31=>iT|32=>fJ|33=>bq|34=>cM|35=>bh|36=>dV|_+37=>Unit
def Edf:Nat->Ty|0=>(.pair (.ext 1) (.pair (.bz (.ext 13)) (.pair (.bz .str) (.pair (.bz (.ext 14)) .unit))))|1=>(.pair .str (.pair (.bz (.ext 2)) (.pair (.bz .str) (.pair (.bz (.ext 3)) (.pair (.bz (.ext 10)) (.pair (.bz (.ext 11)) (.pair (.int .i64) (.pair (.int .i64) (.pair (.int .i64) (.pair (.int .i64) (.pair .str (.pair (.ext 12) (.pair (.int .i64) (.pair .bool .unit))))))))))))))|2=>(.pair .str (.pair .str (.pair .bool (.pair .bool (.pair .bool .unit)))))|3=>(.pair .str (.pair (.ext 4) .unit))|4=>(.pair (.int .i64) (.pair (.int .i64) (.pair .str (.pair .bool (.pair (.bz (.ext 5)) (.pair (.bz (.ext 6)) (.pair (.bz (.ext 8)) (.pair (.bz (.ext 4)) (.pair (.bz (.ext 9)) .unit)))))))))|5=>(.pair (.int .i64) (.pair .str (.pair (.ext 6) .unit)))|6=>(.pair (.int .i64) (.pair (.bz (.ext 7)) .unit))|7=>(.pair (.int .i64) (.pair .str (.pair (.int .i64) (.pair .bool (.pair (.bz (.ext 7)) .unit)))))|8=>(.pair (.int .i64) (.pair (.int .i64) (.pair (.int .i64) (.pair (.ext 6) .unit))))|9=>(.pair (.bz (.ext 6)) (.pair (.bz (.ext 4)) .unit))|10=>(.pair .str (.pair .str .unit))|11=>(.pair (.int .i64) (.pair .str .unit))|12=>(.pair (.int .i64) (.pair (.int .i64) .unit))|13=>(.pair .str (.pair .bool (.pair .str .unit)))|14=>(.pair .str (.pair (.int .i64) .unit))|15=>(.pair (.bz (.ext 7)) (.pair (.int .i64) (.pair (.int .i64) .unit)))|16=>(.pair (.ext 1) (.pair (.bz (.ext 14)) (.pair (.int .i64) (.pair (.int .i64) (.pair (.int .i64) (.pair .str (.pair .bool (.pair .str .unit))))))))|17=>(.pair .str (.pair (.int .i64) .unit))|18=>(.pair .bool (.pair .bool (.pair .bool .unit)))|19=>(.pair (.int .i64) (.pair (.int .i64) (.pair .str (.pair (.bz (.ext 19)) .unit))))|20=>(.pair .str (.pair (.int .i64) (.pair (.int .i64) (.pair (.int .i64) .unit))))|21=>(.pair (.int .u8) (.pair .bool .unit))|22=>(.pair (.int .i64) (.pair .str (.pair .bool (.pair (.bz (.ext 23)) .unit))))|23=>(.pair (.int .u8) (.pair (.int .u8) .unit))|24=>(.pair .str (.pair (.bz (.ext 23)) .unit))|25=>(.pair .str (.pair (.int .i64) (.pair (.int .i64) .unit)))|26=>(.pair (.ext 1) (.pair (.bz (.ext 13)) (.pair (.bz (.ext 14)) (.pair (.int .i64) (.pair .bool (.pair .str (.pair .str (.pair (.int .i64) .unit))))))))|27=>(.pair .bool (.pair .bool (.pair (.int .i64) .unit)))|28=>(.pair (.int .i64) (.pair (.int .i64) .unit))|29=>(.pair (.int .i64) (.pair (.int .i64) (.pair .str .unit)))|30=>(.pair .str (.pair (.ext 29) .unit))|31=>(.pair .str (.pair (.int .i64) (.pair (.int .i64) .unit)))|32=>(.pair (.int .u8) (.pair .bool .unit))|33=>(.pair .str (.pair (.int .i64) .unit))|34=>(.pair (.int .i64) (.pair .str .unit))|35=>(.pair .str (.pair (.bz (.ext 22)) (.pair .bool .unit)))|36=>(.pair (.bz .str) (.pair (.ext 1) (.pair .bool (.pair .str (.pair .str (.pair (.int .i64) .unit))))))|_+37=>.unit
def aui:Nat->Nat|0=>18|1=>15|2=>5|3=>10|4=>9|5=>4|6=>2|7=>5|8=>5|9=>2|10=>2|11=>2|12=>2|13=>3|14=>2|15=>3|16=>22|17=>2|18=>3|19=>4|20=>4|21=>2|22=>4|23=>2|24=>2|25=>3|26=>22|27=>3|28=>2|29=>3|30=>4|31=>3|32=>2|33=>2|34=>2|35=>3|36=>20|_+37=>0
def avx:(i:Nat)->ED i->J DV|0,x=>XE x|1,x=>Aw x|2,x=>Dk x|3,x=>Au x|4,x=>pQ x|5,x=>uT x|6,x=>sW x|7,x=>nk x|8,x=>w9 x|9,x=>sX x|10,x=>xb x|11,x=>Av x|12,x=>BB x|13,x=>xg x|14,x=>qp x|15,x=>ai5 x|16,x=>alf x|17,x=>aqh x|18,x=>alg x|19,x=>Iw x|20,x=>ai6 x|21,x=>afB x|22,x=>TA x|23,x=>Uz x|24,x=>alh x|25,x=>adY x|26,x=>adZ x|27,x=>anV x|28,x=>ali x|29,x=>Z3 x|30,x=>ai8 x|31,x=>ai9 x|32,x=>anX x|33,x=>aau x|34,x=>aja x|35,x=>aav x|36,x=>aaw x|_+37,_=>[]
def avy:(i:Nat)->ED i->(Edf i).den ED|0,(x:wS)=>(x.mY,(x.oV,(x.Le,(x.kf,()))))|1,(x:eO)=>(x.fName,(x.bX,(x.dc,(x.vp,(x.pR,(x.vq,(x.ir,(x.gr,(x.Dn,(x.qo,(x.uU,(x.yy,(x.Ld,(x.WY,()))))))))))))))|2,(x:bP)=>(x.fName,(x.cg,(x.cK,(x.vT,(x.mO,())))))|3,(x:z8)=>(x.fName,(x.fBody,()))|4,(x:TNode)=>(x.fKind,(x.fPos,(x.fName,(x.fAll,(x.fAssigns,(x.fWords,(x.fRedirs,(x.fKids,(x.fItems,())))))))))|5,(x:tI)=>(x.fPos,(x.fName,(x.cg,())))|6,(x:eX)=>(x.fPos,(x.fParts,()))|7,(x:d6)=>(x.fKind,(x.fText,(x.fOp,(x.fColon,(x.fParts,())))))|8,(x:w8)=>(x.fPos,(x.fFd,(x.fOp,(x.Xy,()))))|9,(x:TItem)=>(x.fPatterns,(x.fBody,()))|10,(x:cD)=>(x.fName,(x.cg,()))|11,(x:BA)=>(x.ama,(x.XB,()))|12,(x:oR)=>(x.Lb,(x.Hq,()))|13,(x:aZ)=>(x.bM,(x.lV,(x.fData,())))|14,(x:cO)=>(x.fText,(x.gr,()))|15,(x:eG)=>(x.fParts,(x.SV,(x.fE,())))|16,(x:aR)=>(x.cj,(x.dx,(x.fused,(x.ld,(x.fe,(x.fK,(x.fZ,(x.yT,()))))))))|17,(x:aB)=>(x.fText,(x.aI,()))|18,(x:cZ)=>(x.fP,(x.DQ,(x.lq,())))|19,(x:d5)=>(x.fOp,(x.fN,(x.fName,(x.fKids,()))))|20,(x:Hw)=>(x.fs,(x.Z2,(x.fe,(x.QE,()))))|21,(x:dZ)=>(x.fb,(x.nJ,()))|22,(x:aC)=>(x.fKind,(x.fText,(x.BK,(x.cK,()))))|23,(x:cC)=>(x.qq,(x.kq,()))|24,(x:nq)=>(x.fname,(x.tJ,()))|25,(x:bL)=>(x.bJ,(x.dM,(x.dU,())))|26,(x:aO)=>(x.cj,(x.WZ,(x.dx,(x.ld,(x.fZ,(x.yT,(x.fK,(x.xS,()))))))))|27,(x:dB)=>(x.fP,(x.lq,(x.dM,())))|28,(x:ei)=>(x.Z2,(x.xS,()))|29,(x:fU)=>(x.dU,(x.QE,(x.bJ,())))|30,(x:Hx)=>(x.fs,(x.Yw,()))|31,(x:iT)=>(x.Hu,(x.Qr,(x.fop,())))|32,(x:fJ)=>(x.fb,(x.nJ,()))|33,(x:bq)=>(x.bJ,(x.dM,()))|34,(x:cM)=>(x.JX,(x.JY,()))|35,(x:bh)=>(x.bJ,(x.jI,(x.fO,())))|36,(x:dV)=>(x.vU,(x.mY,(x.Al,(x.W4,(x.Ix,(x.gr,()))))))|_+37,_=>()
def auj:(i:Nat)->(Edf i).den ED->ED i|0,x=>wS.mk x.1 x.2.1 x.2.2.1 x.2.2.2.1|1,x=>eO.mk x.1 x.2.1 x.2.2.1 x.2.2.2.1 x.2.2.2.2.1 x.2.2.2.2.2.1 x.2.2.2.2.2.2.1 x.2.2.2.2.2.2.2.1 x.2.2.2.2.2.2.2.2.1 x.2.2.2.2.2.2.2.2.2.1 x.2.2.2.2.2.2.2.2.2.2.1 x.2.2.2.2.2.2.2.2.2.2.2.1 x.2.2.2.2.2.2.2.2.2.2.2.2.1 x.2.2.2.2.2.2.2.2.2.2.2.2.2.1|2,x=>bP.mk x.1 x.2.1 x.2.2.1 x.2.2.2.1 x.2.2.2.2.1|3,x=>z8.mk x.1 x.2.1|4,x=>TNode.mk x.1 x.2.1 x.2.2.1 x.2.2.2.1 x.2.2.2.2.1 x.2.2.2.2.2.1 x.2.2.2.2.2.2.1 x.2.2.2.2.2.2.2.1 x.2.2.2.2.2.2.2.2.1|5,x=>tI.mk x.1 x.2.1 x.2.2.1|6,x=>eX.mk x.1 x.2.1|7,x=>d6.mk x.1 x.2.1 x.2.2.1 x.2.2.2.1 x.2.2.2.2.1|8,x=>w8.mk x.1 x.2.1 x.2.2.1 x.2.2.2.1|9,x=>TItem.mk x.1 x.2.1|10,x=>cD.mk x.1 x.2.1|11,x=>BA.mk x.1 x.2.1|12,x=>oR.mk x.1 x.2.1|13,x=>aZ.mk x.1 x.2.1 x.2.2.1|14,x=>cO.mk x.1 x.2.1|15,x=>eG.mk x.1 x.2.1 x.2.2.1|16,x=>aR.mk x.1 x.2.1 x.2.2.1 x.2.2.2.1 x.2.2.2.2.1 x.2.2.2.2.2.1 x.2.2.2.2.2.2.1 x.2.2.2.2.2.2.2.1|17,x=>aB.mk x.1 x.2.1|18,x=>cZ.mk x.1 x.2.1 x.2.2.1|19,x=>d5.mk x.1 x.2.1 x.2.2.1 x.2.2.2.1|20,x=>Hw.mk x.1 x.2.1 x.2.2.1 x.2.2.2.1|21,x=>dZ.mk x.1 x.2.1|22,x=>aC.mk x.1 x.2.1 x.2.2.1 x.2.2.2.1|23,x=>cC.mk x.1 x.2.1|24,x=>nq.mk x.1 x.2.1|25,x=>bL.mk x.1 x.2.1 x.2.2.1|26,x=>aO.mk x.1 x.2.1 x.2.2.1 x.2.2.2.1 x.2.2.2.2.1 x.2.2.2.2.2.1 x.2.2.2.2.2.2.1 x.2.2.2.2.2.2.2.1|27,x=>dB.mk x.1 x.2.1 x.2.2.1|28,x=>ei.mk x.1 x.2.1|29,x=>fU.mk x.1 x.2.1 x.2.2.1|30,x=>Hx.mk x.1 x.2.1|31,x=>iT.mk x.1 x.2.1 x.2.2.1|32,x=>fJ.mk x.1 x.2.1|33,x=>bq.mk x.1 x.2.1|34,x=>cM.mk x.1 x.2.1|35,x=>bh.mk x.1 x.2.1 x.2.2.1|36,x=>dV.mk x.1 x.2.1 x.2.2.1 x.2.2.2.1 x.2.2.2.2.1 x.2.2.2.2.2.1|_+37,_=>()
def avz:(i:Nat)->ED i|0=>aox|1=>Lc|2=>eD|3=>ajN|4=>abR|5=>abP|6=>EG|7=>ko|8=>afR|9=>ajM|10=>rZ|11=>ajO|12=>Ms|13=>cw|14=>xh|15=>anT|16=>aqg|17=>dy|18=>aqi|19=>dL|20=>anU|21=>jA|22=>eN|23=>fT|24=>qK|25=>nE|26=>ai7|27=>asB|28=>aqj|29=>agr|30=>anW|31=>AD|32=>cU|33=>ni|34=>anY|35=>oK|36=>afC|_+37=>()
def Egb(b:Nat):O (aK T1->Prop):=cond (eI b 1) (iN (λcs=>cs=(Lib.pow10Tab.map λz=>Value.int .u64 z).toArray)) (cond (eI b 0) (iN (λcs=>∃m,cs[0]? = iN (Value.int .i64 m))) iF)
def Eyd(y:Nat)(Y:YD):Prop:=cond (eI y 3000000) (Y=Ww 1 Tryz.f41 [hJ,hJ,hJ,hJ,eQ,hJ]) (False)
def anZ(y:Nat):O Nat:=cond (eI y 3000000) (iN 1) (iF)
def Ezc(e:aL):Bool:=(!(eI e 444)&&(!(eI e 443)&&(!(eI e 6)&&(!(eI e 5)&&hJ))))
def E:TEnv:=⟨ED,Edf,aui,avx,avy,auj,avz,Egb,Eyd,anZ,Ezc⟩
theorem aoY:∀(i:Nat)(x:E.D i),E.enc i x=(E.df i).cells E (E.BO i x)
 | 0,x=>by kernel_rfl|1,x=>by kernel_rfl|2,x=>rfl|3,x=>by cases x with|mk y0 y1=>cases y1;kernel_rfl
 | 4,x=>by cases x;show pQ _=_;simp only[pQ,vn,vo];rfl
 | 5,x=>by kernel_rfl|6,x=>rfl|7,x=>by cases x;show nk _=_;simp only[nk,Ft];rfl
 | 8,x=>by kernel_rfl|9,x=>by cases x;show sX _=_;simp only[sX,vn,vo];rfl
 | 10,x=>rfl|11,x=>rfl|12,x=>rfl|13,x=>rfl|14,x=>rfl|15,x=>rfl|16,x=>by kernel_rfl|17,x=>rfl|18,x=>rfl|19,x=>by cases x;show Iw _=_;simp only[Iw,N9];rfl
 | 20,x=>rfl|21,x=>rfl|22,x=>rfl|23,x=>rfl|24,x=>rfl|25,x=>rfl|26,x=>by kernel_rfl|27,x=>rfl|28,x=>rfl|29,x=>rfl|30,x=>by kernel_rfl|31,x=>rfl|32,x=>rfl|33,x=>rfl|34,x=>rfl|35,x=>rfl|36,x=>by kernel_rfl|_+37,_=>rfl
theorem asC:∀(i:Nat)(y:(E.df i).den E.D),E.BO i (E.fold i y)=y:=by
 intro i
 iterate 37 (rcases i with _|i;· intro _;rfl)
 intro _;rfl
theorem asD:∀(i:Nat),E.size i=(E.df i).size E:=by
 intro i
 iterate 37 (rcases i with _|i;· rfl)
 rfl
theorem auk:∀(i:Nat)(x:E.D i),Ts (E.enc i x)=E.size i:=by
 intro i
 iterate 37 (rcases i with _|i;· intro x;rw[aoY];first|rfl|(cases x with|mk y0 y1=>cases y1;rfl))
 intro _;rfl
theorem aul:∀(y:Nat)(Y:YD)(n:Nat),E.yd y Y->E.ydn y=iN n->Y.params.size=n:=by
 intro y Y n h1 h2;have h1:Eyd y Y:=h1;have h2:anZ y=iN n:=h2;unfold Eyd at h1;unfold anZ at h2;by_cases hb0:eI y 3000000=hJ
 ·rw[hb0,aS]at h1 h2;rw[h1];exact(og h2)▸(show(Ww 1 Tryz.f41 [hJ,hJ,hJ,hJ,eQ,hJ]).params.size=1 by kernel_rfl)
 rw[Bool.not_eq_true]at hb0;rw[hb0,aJ]at h1 h2;exact h1.elim
def Fp:E.Ok:=⟨aoY,asC,asD,auk,aul⟩
def Jg:aL->O Ty:=λt=>(([(3,(.int .i64)),(4,.bool),(5,(.int .u8)),(9,.str),(21,(.int .i32)),(22,(.bz (.ext 2))),(23,(.bz .str)),(24,(.bz (.ext 3))),(25,(.bz (.ext 10))),(26,(.bz (.ext 11))),(27,(.ext 12)),(28,(.ext 12)),(29,(.ext 1)),(30,(.ext 1)),(31,(.bz (.ext 13))),(32,(.bz (.ext 14))),(33,(.ext 0)),(34,(.ext 0)),(35,(.bz (.ext 6))),(40,(.bz (.ext 7))),(41,(.ext 6)),(42,(.ext 6)),(43,(.ext 36)),(44,(.ext 36)),(45,(.int .i64)),(51,(.ext 14)),(52,(.ext 14)),(60,(.ext 2)),(61,(.ext 2)),(62,(.ext 13)),(63,(.ext 13)),(75,(.bz (.ext 17))),(77,(.ext 18)),(78,(.ext 18)),(79,(.bz (.bz (.ext 17)))),(82,(.ext 16)),(83,(.ext 16)),(93,(.ext 27)),(94,(.ext 27)),(95,(.ext 7)),(96,(.ext 7)),(97,(.ext 26)),(98,(.ext 26)),(107,(.bz (.bz (.ext 25)))),(109,(.bz (.ext 25))),(112,(.ext 17)),(113,(.ext 17)),(116,(.bz (.ext 22))),(119,(.ext 15)),(120,(.ext 15)),(127,(.bz (.bz (.ext 33)))),(129,(.bz (.ext 33))),(133,(.bz (.int .u8))),(144,(.bz (.ext 35))),(150,(.ext 35)),(151,(.ext 35)),(158,(.ext 10)),(159,(.ext 10)),(161,(.ext 11)),(162,(.ext 11)),(164,(.bz (.ext 5))),(165,(.bz (.ext 8))),(166,(.bz (.ext 4))),(167,(.bz (.ext 9))),(168,(.ext 4)),(169,(.ext 4)),(170,(.ext 3)),(171,(.ext 3)),(176,(.ext 25)),(177,(.ext 25)),(180,(.bz (.ext 23))),(181,(.ext 22)),(182,(.ext 22)),(184,(.bz (.ext 21))),(189,(.ext 21)),(190,(.ext 21)),(200,(.ext 33)),(201,(.ext 33)),(210,(.bz (.ext 32))),(214,(.ext 32)),(215,(.ext 32)),(218,(.ext 34)),(219,(.ext 34)),(224,(.ext 5)),(225,(.ext 5)),(229,(.ext 8)),(230,(.ext 8)),(233,(.ext 9)),(234,(.ext 9)),(236,(.bz (.ext 10))),(237,(.ext 10)),(272,(.ext 23)),(273,(.ext 23)),(287,(.int .u64)),(288,(.bz (.ext 19))),(289,(.ext 19)),(290,(.ext 19)),(299,(.bz (.ext 24))),(301,(.ext 24)),(302,(.ext 24)),(339,(.ext 20)),(340,(.ext 20)),(347,(.bz .bool)),(355,(.ext 28)),(356,(.ext 28)),(359,(.ext 29)),(360,(.ext 29)),(362,(.ext 30)),(363,(.ext 30)),(404,ale),(416,(.bz (.ext 31))),(418,(.ext 31)),(419,(.ext 31))]:J (Nat×Ty)).find? λp=>eI p.1 t).map (·.2)
theorem mixed:Tryz.prog.follows .mixedOrders=hJ:=by kernel_rfl
noncomputable abbrev pg:=prog
set_option maxRecDepth 100000 in
theorem dG{Γ:J (bQ E)}{C:bQ E}{fn:Func}(F:Nat)(pl:fq)(hΓ:∀C'∈Γ,C'.Ok pg)(hf:pg.funcs[C.s.f]? = iN fn)(hn:(fn.name == "runtime.NumGoroutine")=eQ:=by kernel_rfl)(h:∀x,ado ⟨pg,Jg,Γ,[],iF⟩ F C.s fn pl x=C.m x:=by intro x;kernel_rfl):C.Ok pg:=bQ.abC (X:=⟨pg,Jg,Γ,[],iF⟩) (F:=F) ⟨Fp,hΓ,mixed,goN,SQ⟩ (pl:=pl) hf hn h
def ue{C:bQ E}(h:∀x,C.m x=iF):C.Ok pg:=λx y e=>nomatch (h x).symm.trans e
abbrev lf:fq:=.leaf
abbrev qs(a b:fq):fq:=.seq [] iF a b
abbrev qa(b:fq):fq:=.seq [] iF .leaf b
def dp(l:J Int):J (Nat×Bool):=l.map λ|.ofNat n=>(n,hJ)|.negSucc n=>(n,eQ)
abbrev Bs:=J UInt8
abbrev u2{a b c:Type}(q:a->b->c)(x:a×b):c:=q x.1 x.2
abbrev u3{a b c d:Type}(q:a->b->c->d)(x:a×b×c):d:=q x.1 x.2.1 x.2.2
abbrev u4{a b c d e:Type}(q:a->b->c->d->e)(x:a×b×c×d):e:=q x.1 x.2.1 x.2.2.1 x.2.2.2
abbrev u5{a b c d e f:Type}(q:a->b->c->d->e->f)(x:a×b×c×d×e):f:=q x.1 x.2.1 x.2.2.1 x.2.2.2.1 x.2.2.2.2
abbrev u6{a b c d e f g:Type}(q:a->b->c->d->e->f->g)(x:a×b×c×d×e×f):g:=q x.1 x.2.1 x.2.2.1 x.2.2.2.1 x.2.2.2.2.1 x.2.2.2.2.2
abbrev u7{a b c d e f g h:Type}(q:a->b->c->d->e->f->g->h)(x:a×b×c×d×e×f×g):h:=q x.1 x.2.1 x.2.2.1 x.2.2.2.1 x.2.2.2.2.1 x.2.2.2.2.2.1 x.2.2.2.2.2.2
abbrev u8{a b c d e f g h i:Type}(q:a->b->c->d->e->f->g->h->i)(x:a×b×c×d×e×f×g×h):i:=q x.1 x.2.1 x.2.2.1 x.2.2.2.1 x.2.2.2.2.1 x.2.2.2.2.2.1 x.2.2.2.2.2.2.1 x.2.2.2.2.2.2.2
abbrev oE(n:Nat):PT:=.one (.dat (.ext n))
abbrev oL(n:Nat):PT:=.one (.dat (.bz (.ext n)))
abbrev oB:PT:=.one (.dat .bool)
abbrev oI:PT:=.one (.dat (.int .i64))
abbrev oU:PT:=.one (.dat (.int .u64))
abbrev oS:PT:=.one (.dat .str)
abbrev oT:PT:=.one (.dat (.bz .str))
def sh(f:Nat)(a:J PT)(r:PT):dw:=⟨f,a,[],[],⟨r,[],[],[]⟩,iF,[]⟩
def ct(l:J (Nat×PT)):Cut:=⟨l,[],[],[]⟩
def rb(a b:Nat):Nat×Cut×Bool:=(a,ct [(b,oB)],eQ)
def ro(a b:Nat)(t:PT):Nat×Cut×Bool:=(a,ct [(b,t)],eQ)
def zW{A:Type}(_:A):Prop:=True
def wx{A:Type}{v:A}(_:zW v):A:=v
abbrev WQ(A:Type):=∀ {v:A},zW v->A
variable{A R S:Type}{x y:O R}{e:O A}{k:A -> O R}{b:Bool}
def ws(x:R):zW (iN x):=trivial
def wn:zW (iF (α:=R)):=trivial
def ww(x:O R):zW x:=trivial
def wc(b:Bool)(_:zW x)(_:zW y):zW (cond b x y):=trivial
def wo(b:Bool){x:O Bool}(_:zW x):zW (cond b (iN hJ) x):=trivial
def wa(b:Bool){x:O Bool}(_:zW x):zW (cond b x (iN eQ)):=trivial
def wq(b:Bool)(_:zW x):zW (rq b x):=trivial
def wg(i:Int)(l:J A)(_:zW x):zW (rq (eK (0<=i)&&eK (i<Ts l)) x):=trivial
def wi(l:J A)(i:Int)(d:A)(_:∀v,zW (k v)):zW (rq (eK (0<=i)&&eK (i<Ts l)) (k (l.getD i.toNat d))):=trivial
def wb(e:O A)(_:∀v,zW (k v)):zW (e.bind k):=trivial
def wm(e:O A):zW (e.bind λx=>iN x):=trivial
def ku(_:zW e):zW (e.bind λx=>iN x):=trivial
def wv(_:zW e)(_:∀v,zW (k v)):zW (e.bind k):=trivial
def wu(A:Type){e:O A}{k:A->O R}(_:zW e)(_:∀v,zW (k v)):zW (e.bind k):=trivial
def wl(S:Type){f:(S->O R)->S->O R}(_:∀k v,zW (f k v))(F:Nat)(s:S):zW (bW f F s):=trivial
def wt(a:A)(_:∀v,zW (k v)):zW (k a):=trivial
def wp(m:Nat)(l r:J A){k:J A->O R}(_:∀v,zW (k v)):zW (rq (eK (Ts l+Ts r<=9223372036854775807)&&eK ((Ts l+Ts r)*m<=140737488355328)) (k (l++r))):=trivial
def wj(l r:J A){k:J A->O R}(_:∀v,zW (k v)):zW (rq (eK (Ts l+Ts r<=9223372036854775807)) (k (l++r))):=trivial
variable{A0 A1 A2 A3 A4 A5 A6 A7 A8:Type}
def dm(e:O (A0×A1)){k:A0->A1->O R}(_:∀a b,zW (k a b)):zW (e.bind λx=>k x.1 x.2):=trivial
def Bc{e:O (A0×A1)}{k:A0->A1->O R}(_:zW e)(_:∀a b,zW (k a b)):zW (e.bind λx=>k x.1 x.2):=trivial
def wu2(A0 A1:Type){e:O (A0×A1)}{k:A0->A1->O R}(_:zW e)(_:∀a b,zW (k a b)):zW (e.bind λx=>k x.1 x.2):=trivial
def iJ(A0 A1:Type){f:((A0×A1)->O R)->A0->A1->O R}(_:∀k a b,zW (f k a b))(F:Nat)(s:A0×A1):zW (bW (λk x=>f k x.1 x.2) F s):=trivial
def od(e:O (A0×A1×A2)){k:A0->A1->A2->O R}(_:∀a b c,zW (k a b c)):zW (e.bind λx=>k x.1 x.2.1 x.2.2):=trivial
def TB{e:O (A0×A1×A2)}{k:A0->A1->A2->O R}(_:zW e)(_:∀a b c,zW (k a b c)):zW (e.bind λx=>k x.1 x.2.1 x.2.2):=trivial
def vE(A0 A1 A2:Type){f:((A0×A1×A2)->O R)->A0->A1->A2->O R}(_:∀k a b c,zW (f k a b c))(F:Nat)(s:A0×A1×A2):zW (bW (λk x=>f k x.1 x.2.1 x.2.2) F s):=trivial
def LJ(e:O (A0×A1×A2×A3)){k:A0->A1->A2->A3->O R}(_:∀a b c d,zW (k a b c d)):zW (e.bind λx=>k x.1 x.2.1 x.2.2.1 x.2.2.2):=trivial
def wv4{e:O (A0×A1×A2×A3)}{k:A0->A1->A2->A3->O R}(_:zW e)(_:∀a b c d,zW (k a b c d)):zW (e.bind λx=>k x.1 x.2.1 x.2.2.1 x.2.2.2):=trivial
def wl4(A0 A1 A2 A3:Type){f:((A0×A1×A2×A3)->O R)->A0->A1->A2->A3->O R}(_:∀k a b c d,zW (f k a b c d))(F:Nat)(s:A0×A1×A2×A3):zW (bW (λk x=>f k x.1 x.2.1 x.2.2.1 x.2.2.2) F s):=trivial
def Be(e:O (A0×A1×A2×A3×A4)){k:A0->A1->A2->A3->A4->O R}(_:∀a b c d e,zW (k a b c d e)):zW (e.bind λx=>k x.1 x.2.1 x.2.2.1 x.2.2.2.1 x.2.2.2.2):=trivial
def wv5{e:O (A0×A1×A2×A3×A4)}{k:A0->A1->A2->A3->A4->O R}(_:zW e)(_:∀a b c d e,zW (k a b c d e)):zW (e.bind λx=>k x.1 x.2.1 x.2.2.1 x.2.2.2.1 x.2.2.2.2):=trivial
def wb6(e:O (A0×A1×A2×A3×A4×A5)){k:A0->A1->A2->A3->A4->A5->O R}(_:∀a b c d e g,zW (k a b c d e g)):zW (e.bind λx=>k x.1 x.2.1 x.2.2.1 x.2.2.2.1 x.2.2.2.2.1 x.2.2.2.2.2):=trivial
def wl7(A0 A1 A2 A3 A4 A5 A6:Type){f:((A0×A1×A2×A3×A4×A5×A6)->O R)->A0->A1->A2->A3->A4->A5->A6->O R}(_:∀k a b c d e g h,zW (f k a b c d e g h))(F:Nat)(s:A0×A1×A2×A3×A4×A5×A6):zW (bW (λk x=>f k x.1 x.2.1 x.2.2.1 x.2.2.2.1 x.2.2.2.2.1 x.2.2.2.2.2.1 x.2.2.2.2.2.2) F s):=trivial
def wl8(A0 A1 A2 A3 A4 A5 A6 A7:Type){f:((A0×A1×A2×A3×A4×A5×A6×A7)->O R)->A0->A1->A2->A3->A4->A5->A6->A7->O R}(_:∀k a b c d e g h i,zW (f k a b c d e g h i))(F:Nat)(s:A0×A1×A2×A3×A4×A5×A6×A7):zW (bW (λk x=>f k x.1 x.2.1 x.2.2.1 x.2.2.2.1 x.2.2.2.2.1 x.2.2.2.2.2.1 x.2.2.2.2.2.2.1 x.2.2.2.2.2.2.2) F s):=trivial
