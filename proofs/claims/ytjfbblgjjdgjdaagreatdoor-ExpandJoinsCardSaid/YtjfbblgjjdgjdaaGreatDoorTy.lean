import Derived.Test.YtjfbblgjjdgjdaaGreatDoorSh
import Derived.Test.YtjfbblgjjdgjdaaGreatDoorRk
import Derived.Test.YtjfbblgjjdgjdaaGreatDoorChecked
open Option renaming some->iN,none->iF
open Bool renaming true->hJ,false->eQ
open Decidable renaming decide->eK
open Nat renaming beq->eI
open Go renaming Value->T1
open List renaming length->Ts
set_option linter.all false
namespace Go.Proofs.YtjfbblgjjdgjdaaGreatDoor
open Go.Proofs.Tryz
open Go.RT Go.RowKit Go.Maps Go.Sort Go.Shelf
open Go.Proofs (encStr)
def asA(k:Nat):AnyZ.SortsIn prog Tryz.Tp Fence.wide k:=
 ⟨λblk off cap ss W hH hblk hsz=>callsIn_wide.2 (AnyM.slices_Sort_string Tryz.abk blk off cap ss W hH hblk hsz),
  λp cap W=>callsIn_wide.2 (AnyM.slices_Sort_string_none Tryz.abk p cap W)⟩
theorem anP:adw prog 284 344 259 9:=by
 intro w b0 b n D0 R hc hown hmax hbytes;have hseq:SeqGives Fence.wide 2 prog 344 #[.pointer (iN ⟨b0,0,iF⟩)] encStr (λss=>ss.Perm (strKeys D0)) (Maps.size D0) w:=
  AnyZ.keys_gives (ρ:=Tryz.ZQ) {Tryz.at5 with} Fence.wide _ trivial rfl om b0 b n D0 _ (by
   have:=(Bp.1 hc).1;omega) (by simp[World.cell?,hc]) hown
 have cS:=AnyZ.sorted_in Tryz.apZ Fence.wide 5 trivial trivial trivial trivial rfl om (asA _) (enters_of func73 kr rfl) 344 #[.pointer (iN ⟨b0,0,iF⟩)] trivial (enters_of func344 kr rfl) _ _ hmax hbytes _ hseq;change CallsIn _ _ prog 284 _ _ _ at cS;refine(callsIn_wide.1 cS).mono ?_;rintro e2 w2 ⟨v,ss,rfl,hS,hrow,-,hb⟩;exact⟨v,ss,rfl,hS,hrow,hb⟩
open Go.RT
abbrev ald:Ty:=(.pair (.int .i64) (.pair (.int .i64) (.pair (.int .i64) (.pair (.int .i64) (.pair (.int .i64) (.pair (.int .i64) (.pair (.int .i64) (.pair (.int .i64) .unit))))))))
structure bP where
 fName:List UInt8
 cj:List UInt8
 cL:Bool
 vV:Bool
 mV:Bool
 deriving Inhabited,DecidableEq
def eB:bP:=.mk [] [] eQ eQ eQ
def Dl(v:bP):J DV:=([.str v.fName])++([.str v.cj])++([.bool v.cL])++([.bool v.vV])++([.bool v.mV])
inductive d6 where
 | mk (fKind:Int) (fText:List UInt8) (fOp:Int) (fColon:Bool) (fParts:List d6)
def d6.fKind:d6->Int|.mk x _ _ _ _=>x
def d6.fText:d6->J UInt8|.mk _ x _ _ _=>x
def d6.fOp:d6->Int|.mk _ _ x _ _=>x
def d6.fColon:d6->Bool|.mk _ _ _ x _=>x
def d6.fParts:d6->J d6|.mk _ _ _ _ x=>x
@[simp] theorem d6.eta (v : d6) : d6.mk v.fKind v.fText v.fOp v.fColon v.fParts = v := by cases v; rfl
def kz:d6:=.mk 0 [] 0 eQ []
mutual
def nr:d6->J DV|.mk fKind fText fOp fColon fParts=>([.int .i64 fKind])++([.str fText])++([.int .i64 fOp])++([.bool fColon])++([.slice 5 (JV fParts)])
def JV:J d6->J (J DV)|[]=>[]|x::xs=>nr x::JV xs
end
theorem Fu:∀l,JV l=l.map nr|[]=>rfl|x::xs=>by simp only[JV,jI,Fu xs]
structure eM where
 fPos:Int
 fParts:List d6
def EG:eM:=.mk 0 []
def s8(v:eM):J DV:=([.int .i64 v.fPos])++([.slice 5 (v.fParts.map nr)])
structure tO where
 fPos:Int
 fName:List UInt8
 cj:eM
def abN:tO:=.mk 0 [] EG
def uU(v:tO):J DV:=([.int .i64 v.fPos])++([.str v.fName])++(s8 v.cj)
structure w8 where
 fPos:Int
 fFd:Int
 fOp:Int
 Xw:eM
def afR:w8:=.mk 0 0 0 EG
def w9(v:w8):J DV:=([.int .i64 v.fPos])++([.int .i64 v.fFd])++([.int .i64 v.fOp])++(s8 v.Xw)
mutual
inductive TNode where
 | mk (fKind:Int) (fPos:Int) (fName:List UInt8) (fAll:Bool) (fAssigns:List tO) (fWords:List eM) (fRedirs:List w8) (fKids:List TNode) (fItems:List TItem)
inductive TItem where
 | mk (fPatterns:List eM) (fBody:List TNode)
end
def TNode.fKind:TNode->Int|.mk x _ _ _ _ _ _ _ _=>x
def TNode.fPos:TNode->Int|.mk _ x _ _ _ _ _ _ _=>x
def TNode.fName:TNode->J UInt8|.mk _ _ x _ _ _ _ _ _=>x
def TNode.fAll:TNode->Bool|.mk _ _ _ x _ _ _ _ _=>x
def TNode.fAssigns:TNode->J tO|.mk _ _ _ _ x _ _ _ _=>x
def TNode.fWords:TNode->J eM|.mk _ _ _ _ _ x _ _ _=>x
def TNode.fRedirs:TNode->J w8|.mk _ _ _ _ _ _ x _ _=>x
def TNode.fKids:TNode->J TNode|.mk _ _ _ _ _ _ _ x _=>x
def TNode.fItems:TNode->J TItem|.mk _ _ _ _ _ _ _ _ x=>x
@[simp] theorem TNode.eta (v : TNode) : TNode.mk v.fKind v.fPos v.fName v.fAll v.fAssigns v.fWords v.fRedirs v.fKids v.fItems = v := by cases v; rfl
def TItem.fPatterns:TItem->J eM|.mk x _=>x
def TItem.fBody:TItem->J TNode|.mk _ x=>x
@[simp] theorem TItem.eta (v : TItem) : TItem.mk v.fPatterns v.fBody = v := by cases v; rfl
def abP:TNode:=.mk 0 0 [] eQ [] [] [] [] []
def ajL:TItem:=.mk [] []
mutual
def pS:TNode->J DV|.mk fKind fPos fName fAll fAssigns fWords fRedirs fKids fItems=>([.int .i64 fKind])++([.int .i64 fPos])++([.str fName])++([.bool fAll])++([.slice 4 (fAssigns.map uU)])++([.slice 2 (fWords.map s8)])++([.slice 5 (fRedirs.map w9)])++([.slice 9 (E6 fKids)])++([.slice 2 (JW fItems)])
def tc:TItem->J DV|.mk fPatterns fBody=>([.slice 2 (fPatterns.map s8)])++([.slice 9 (E6 fBody)])
def E6:J TNode->J (J DV)|[]=>[]|x::xs=>pS x::E6 xs
def JW:J TItem->J (J DV)|[]=>[]|x::xs=>tc x::JW xs
end
theorem vp:∀l,E6 l=l.map pS|[]=>rfl|x::xs=>by simp only[E6,jI,vp xs]
theorem vq:∀l,JW l=l.map tc|[]=>rfl|x::xs=>by simp only[JW,jI,vq xs]
structure Ac where
 fName:List UInt8
 fBody:TNode
def ajM:Ac:=.mk [] abP
def Ax(v:Ac):J DV:=([.str v.fName])++(pS v.fBody)
structure cC where
 fName:List UInt8
 cj:List UInt8
 deriving Inhabited,DecidableEq
def su:cC:=.mk [] []
def xb(v:cC):J DV:=([.str v.fName])++([.str v.cj])
structure BA where
 al7:Int
 Xz:List UInt8
 deriving Inhabited,DecidableEq
def ajN:BA:=.mk 0 []
def Ay(v:BA):J DV:=([.int .i64 v.al7])++([.str v.Xz])
structure oW where
 La:Int
 Hp:Int
 deriving Inhabited,DecidableEq
def Mr:oW:=.mk 0 0
def BB(v:oW):J DV:=([.int .i64 v.La])++([.int .i64 v.Hp])
structure eP where
 fName:List UInt8
 b8:List bP
 cZ:List (List UInt8)
 vr:List Ac
 pT:List cC
 vu:List BA
 iw:Int
 ic:Int
 Dp:Int
 qq:Int
 uV:List UInt8
 yx:oW
 Lc:Int
 WW:Bool
def Lb:eP:=.mk [] [] [] [] [] [] 0 0 0 0 [] Mr 0 eQ
def Az(v:eP):J DV:=([.str v.fName])++([.slice 5 (v.b8.map Dl)])++([.slice 1 (v.cZ.map (λv=>[.str v]))])++([.slice 10 (v.vr.map Ax)])++([.slice 2 (v.pT.map xb)])++([.slice 2 (v.vu.map Ay)])++([.int .i64 v.iw])++([.int .i64 v.ic])++([.int .i64 v.Dp])++([.int .i64 v.qq])++([.str v.uV])++(BB v.yx)++([.int .i64 v.Lc])++([.bool v.WW])
structure aZ where
 bN:List UInt8
 mc:Bool
 fData:List UInt8
 deriving Inhabited,DecidableEq
def cw:aZ:=.mk [] eQ []
def xg(v:aZ):J DV:=([.str v.bN])++([.bool v.mc])++([.str v.fData])
structure fh where
 fText:List UInt8
 ic:Int
 deriving Inhabited,DecidableEq
def xh:fh:=.mk [] 0
def qt(v:fh):J DV:=([.str v.fText])++([.int .i64 v.ic])
structure wV where
 mJ:eP
 sI:List aZ
 Ld:List (List UInt8)
 kM:List fh
def aow:wV:=.mk Lb [] [] []
def XC(v:wV):J DV:=(Az v.mJ)++([.slice 3 (v.sI.map xg)])++([.slice 1 (v.Ld.map (λv=>[.str v]))])++([.slice 2 (v.kM.map qt)])
structure eE where
 fParts:List d6
 SU:Int
 fE:Int
def anQ:eE:=.mk [] 0 0
def ai6(v:eE):J DV:=([.slice 5 (v.fParts.map nr)])++([.int .i64 v.SU])++([.int .i64 v.fE])
structure aO where
 b9:eP
 dw:List fh
 fused:Int
 lq:Int
 fe:Int
 fJ:List UInt8
 fO:Bool
 yS:List UInt8
def aqg:aO:=.mk Lb [] 0 0 0 [] eQ []
def ale(v:aO):J DV:=(Az v.b9)++([.slice 2 (v.dw.map qt)])++([.int .i64 v.fused])++([.int .i64 v.lq])++([.int .i64 v.fe])++([.str v.fJ])++([.bool v.fO])++([.str v.yS])
structure aB where
 fText:List UInt8
 aI:Int
 deriving Inhabited,DecidableEq
def dx:aB:=.mk [] 0
def aqh(v:aB):J DV:=([.str v.fText])++([.int .i64 v.aI])
structure cO where
 fQ:Bool
 DR:Bool
 lu:Bool
 deriving Inhabited,DecidableEq
def aqi:cO:=.mk eQ eQ eQ
def alf(v:cO):J DV:=([.bool v.fQ])++([.bool v.DR])++([.bool v.lu])
inductive d5 where
 | mk (fOp:Int) (fN:Int) (fName:List UInt8) (fKids:List d5)
def d5.fOp:d5->Int|.mk x _ _ _=>x
def d5.fN:d5->Int|.mk _ x _ _=>x
def d5.fName:d5->J UInt8|.mk _ _ x _=>x
def d5.fKids:d5->J d5|.mk _ _ _ x=>x
@[simp] theorem d5.eta (v : d5) : d5.mk v.fOp v.fN v.fName v.fKids = v := by cases v; rfl
def dJ:d5:=.mk 0 0 [] []
mutual
def Ix:d5->J DV|.mk fOp fN fName fKids=>([.int .i64 fOp])++([.int .i64 fN])++([.str fName])++([.slice 4 (JX fKids)])
def JX:J d5->J (J DV)|[]=>[]|x::xs=>Ix x::JX xs
end
theorem N6:∀l,JX l=l.map Ix|[]=>rfl|x::xs=>by simp only[JX,jI,N6 xs]
structure Hv where
 fs:List UInt8
 ZY:Int
 fe:Int
 Qy:Int
 deriving Inhabited,DecidableEq
def anR:Hv:=.mk [] 0 0 0
def ai7(v:Hv):J DV:=([.str v.fs])++([.int .i64 v.ZY])++([.int .i64 v.fe])++([.int .i64 v.Qy])
structure dY where
 fb:Int
 nM:Bool
 deriving Inhabited,DecidableEq
def jD:dY:=.mk 0 eQ
def afB(v:dY):J DV:=([.int .u8 v.fb])++([.bool v.nM])
structure cA where
 qu:Int
 kA:Int
 deriving Inhabited,DecidableEq
def fU:cA:=.mk 0 0
def Uy(v:cA):J DV:=([.int .u8 v.qu])++([.int .u8 v.kA])
structure aC where
 fKind:Int
 fText:List UInt8
 BK:Bool
 cL:List cA
 deriving Inhabited,DecidableEq
def eL:aC:=.mk 0 [] eQ []
def Tz(v:aC):J DV:=([.int .i64 v.fKind])++([.str v.fText])++([.bool v.BK])++([.slice 2 (v.cL.map Uy)])
structure nt where
 fname:List UInt8
 tP:List cA
 deriving Inhabited,DecidableEq
def qM:nt:=.mk [] []
def alg(v:nt):J DV:=([.str v.fname])++([.slice 2 (v.tP.map Uy)])
structure bM where
 bJ:List UInt8
 dL:Int
 dU:Int
 deriving Inhabited,DecidableEq
def nH:bM:=.mk [] 0 0
def adX(v:bM):J DV:=([.str v.bJ])++([.int .i64 v.dL])++([.int .i64 v.dU])
structure aP where
 b9:eP
 WX:List aZ
 dw:List fh
 lq:Int
 fO:Bool
 yS:List UInt8
 fJ:List UInt8
 xU:Int
def ai8:aP:=.mk Lb [] [] 0 eQ [] [] 0
def adY(v:aP):J DV:=(Az v.b9)++([.slice 3 (v.WX.map xg)])++([.slice 2 (v.dw.map qt)])++([.int .i64 v.lq])++([.bool v.fO])++([.str v.yS])++([.str v.fJ])++([.int .i64 v.xU])
structure dz where
 fQ:Bool
 lu:Bool
 dL:Int
 deriving Inhabited,DecidableEq
def asB:dz:=.mk eQ eQ 0
def anS(v:dz):J DV:=([.bool v.fQ])++([.bool v.lu])++([.int .i64 v.dL])
structure ef where
 ZY:Int
 xU:Int
 deriving Inhabited,DecidableEq
def aqj:ef:=.mk 0 0
def alh(v:ef):J DV:=([.int .i64 v.ZY])++([.int .i64 v.xU])
structure fV where
 dU:Int
 Qy:Int
 bJ:List UInt8
 deriving Inhabited,DecidableEq
def agr:fV:=.mk 0 0 []
def ZZ(v:fV):J DV:=([.int .i64 v.dU])++([.int .i64 v.Qy])++([.str v.bJ])
structure Hw where
 fs:List UInt8
 Yu:fV
 deriving Inhabited,DecidableEq
def anT:Hw:=.mk [] agr
def ai9(v:Hw):J DV:=([.str v.fs])++(ZZ v.Yu)
structure iV where
 Ht:List UInt8
 Ql:Int
 fop:Int
 deriving Inhabited,DecidableEq
def AG:iV:=.mk [] 0 0
def aja(v:iV):J DV:=([.str v.Ht])++([.int .i64 v.Ql])++([.int .i64 v.fop])
structure fI where
 fb:Int
 nM:Bool
 deriving Inhabited,DecidableEq
def cU:fI:=.mk 0 eQ
def anU(v:fI):J DV:=([.int .u8 v.fb])++([.bool v.nM])
structure bq where
 bJ:List UInt8
 dL:Int
 deriving Inhabited,DecidableEq
def nk:bq:=.mk [] 0
def aas(v:bq):J DV:=([.str v.bJ])++([.int .i64 v.dL])
structure cM where
 JY:Int
 JZ:List UInt8
 deriving Inhabited,DecidableEq
instance:BEq cM:=⟨λa b=>(a.JY==b.JY&&(a.JZ==b.JZ&&hJ))⟩
instance:LawfulBEq cM:={
 eq_of_beq:=λ{a b} h=>by have h:(a.JY==b.JY&&(a.JZ==b.JZ&&hJ))=hJ:=h;simp only[cK,uL,and_true]at h;cases a;cases b;simp_all
 rfl:=λ{a}=>by
  show(a.JY==a.JY&&(a.JZ==a.JZ&&hJ))=hJ;simp}
def anV:cM:=.mk 0 []
def ajb(v:cM):J DV:=([.int .i64 v.JY])++([.str v.JZ])
structure bh where
 bJ:List UInt8
 jL:List aC
 fP:Bool
 deriving Inhabited,DecidableEq
def oN:bh:=.mk [] [] eQ
def aat(v:bh):J DV:=([.str v.bJ])++([.slice 4 (v.jL.map Tz)])++([.bool v.fP])
structure gT where
 jf:List (List UInt8)
 mJ:eP
 ajc:Bool
 ajd:List UInt8
 rD:List UInt8
 ic:Int
def afC:gT:=.mk [] Lb eQ [] [] 0
def aau(v:gT):J DV:=([.slice 1 (v.jf.map (λv=>[.str v]))])++(Az v.mJ)++([.bool v.ajc])++([.str v.ajd])++([.str v.rD])++([.int .i64 v.ic])
def ED:Nat->Type|0=>wV|1=>eP|2=>bP|3=>Ac|4=>TNode|5=>tO|6=>eM|7=>d6|8=>w8|9=>TItem|10=>cC|11=>BA|12=>oW|13=>aZ|14=>fh|15=>eE|16=>aO|17=>aB|18=>cO|19=>d5|20=>Hv|21=>dY|22=>aC|23=>cA|24=>nt|25=>bM|26=>aP|27=>dz|28=>ef|29=>fV|30=>Hw|31=>iV|32=>fI|33=>bq|34=>cM|35=>bh|36=>gT|_+37=>Unit
def Edf:Nat->Ty|0=>(.pair (.ext 1) (.pair (.bz (.ext 13)) (.pair (.bz .str) (.pair (.bz (.ext 14)) .unit))))|1=>(.pair .str (.pair (.bz (.ext 2)) (.pair (.bz .str) (.pair (.bz (.ext 3)) (.pair (.bz (.ext 10)) (.pair (.bz (.ext 11)) (.pair (.int .i64) (.pair (.int .i64) (.pair (.int .i64) (.pair (.int .i64) (.pair .str (.pair (.ext 12) (.pair (.int .i64) (.pair .bool .unit))))))))))))))|2=>(.pair .str (.pair .str (.pair .bool (.pair .bool (.pair .bool .unit)))))|3=>(.pair .str (.pair (.ext 4) .unit))|4=>(.pair (.int .i64) (.pair (.int .i64) (.pair .str (.pair .bool (.pair (.bz (.ext 5)) (.pair (.bz (.ext 6)) (.pair (.bz (.ext 8)) (.pair (.bz (.ext 4)) (.pair (.bz (.ext 9)) .unit)))))))))|5=>(.pair (.int .i64) (.pair .str (.pair (.ext 6) .unit)))|6=>(.pair (.int .i64) (.pair (.bz (.ext 7)) .unit))|7=>(.pair (.int .i64) (.pair .str (.pair (.int .i64) (.pair .bool (.pair (.bz (.ext 7)) .unit)))))|8=>(.pair (.int .i64) (.pair (.int .i64) (.pair (.int .i64) (.pair (.ext 6) .unit))))|9=>(.pair (.bz (.ext 6)) (.pair (.bz (.ext 4)) .unit))|10=>(.pair .str (.pair .str .unit))|11=>(.pair (.int .i64) (.pair .str .unit))|12=>(.pair (.int .i64) (.pair (.int .i64) .unit))|13=>(.pair .str (.pair .bool (.pair .str .unit)))|14=>(.pair .str (.pair (.int .i64) .unit))|15=>(.pair (.bz (.ext 7)) (.pair (.int .i64) (.pair (.int .i64) .unit)))|16=>(.pair (.ext 1) (.pair (.bz (.ext 14)) (.pair (.int .i64) (.pair (.int .i64) (.pair (.int .i64) (.pair .str (.pair .bool (.pair .str .unit))))))))|17=>(.pair .str (.pair (.int .i64) .unit))|18=>(.pair .bool (.pair .bool (.pair .bool .unit)))|19=>(.pair (.int .i64) (.pair (.int .i64) (.pair .str (.pair (.bz (.ext 19)) .unit))))|20=>(.pair .str (.pair (.int .i64) (.pair (.int .i64) (.pair (.int .i64) .unit))))|21=>(.pair (.int .u8) (.pair .bool .unit))|22=>(.pair (.int .i64) (.pair .str (.pair .bool (.pair (.bz (.ext 23)) .unit))))|23=>(.pair (.int .u8) (.pair (.int .u8) .unit))|24=>(.pair .str (.pair (.bz (.ext 23)) .unit))|25=>(.pair .str (.pair (.int .i64) (.pair (.int .i64) .unit)))|26=>(.pair (.ext 1) (.pair (.bz (.ext 13)) (.pair (.bz (.ext 14)) (.pair (.int .i64) (.pair .bool (.pair .str (.pair .str (.pair (.int .i64) .unit))))))))|27=>(.pair .bool (.pair .bool (.pair (.int .i64) .unit)))|28=>(.pair (.int .i64) (.pair (.int .i64) .unit))|29=>(.pair (.int .i64) (.pair (.int .i64) (.pair .str .unit)))|30=>(.pair .str (.pair (.ext 29) .unit))|31=>(.pair .str (.pair (.int .i64) (.pair (.int .i64) .unit)))|32=>(.pair (.int .u8) (.pair .bool .unit))|33=>(.pair .str (.pair (.int .i64) .unit))|34=>(.pair (.int .i64) (.pair .str .unit))|35=>(.pair .str (.pair (.bz (.ext 22)) (.pair .bool .unit)))|36=>(.pair (.bz .str) (.pair (.ext 1) (.pair .bool (.pair .str (.pair .str (.pair (.int .i64) .unit))))))|_+37=>.unit
def auk:Nat->Nat|0=>18|1=>15|2=>5|3=>10|4=>9|5=>4|6=>2|7=>5|8=>5|9=>2|10=>2|11=>2|12=>2|13=>3|14=>2|15=>3|16=>22|17=>2|18=>3|19=>4|20=>4|21=>2|22=>4|23=>2|24=>2|25=>3|26=>22|27=>3|28=>2|29=>3|30=>4|31=>3|32=>2|33=>2|34=>2|35=>3|36=>20|_+37=>0
def avz:(i:Nat)->ED i->J DV|0,x=>XC x|1,x=>Az x|2,x=>Dl x|3,x=>Ax x|4,x=>pS x|5,x=>uU x|6,x=>s8 x|7,x=>nr x|8,x=>w9 x|9,x=>tc x|10,x=>xb x|11,x=>Ay x|12,x=>BB x|13,x=>xg x|14,x=>qt x|15,x=>ai6 x|16,x=>ale x|17,x=>aqh x|18,x=>alf x|19,x=>Ix x|20,x=>ai7 x|21,x=>afB x|22,x=>Tz x|23,x=>Uy x|24,x=>alg x|25,x=>adX x|26,x=>adY x|27,x=>anS x|28,x=>alh x|29,x=>ZZ x|30,x=>ai9 x|31,x=>aja x|32,x=>anU x|33,x=>aas x|34,x=>ajb x|35,x=>aat x|36,x=>aau x|_+37,_=>[]
def avA:(i:Nat)->ED i->(Edf i).den ED|0,(x:wV)=>(x.mJ,(x.sI,(x.Ld,(x.kM,()))))|1,(x:eP)=>(x.fName,(x.b8,(x.cZ,(x.vr,(x.pT,(x.vu,(x.iw,(x.ic,(x.Dp,(x.qq,(x.uV,(x.yx,(x.Lc,(x.WW,()))))))))))))))|2,(x:bP)=>(x.fName,(x.cj,(x.cL,(x.vV,(x.mV,())))))|3,(x:Ac)=>(x.fName,(x.fBody,()))|4,(x:TNode)=>(x.fKind,(x.fPos,(x.fName,(x.fAll,(x.fAssigns,(x.fWords,(x.fRedirs,(x.fKids,(x.fItems,())))))))))|5,(x:tO)=>(x.fPos,(x.fName,(x.cj,())))|6,(x:eM)=>(x.fPos,(x.fParts,()))|7,(x:d6)=>(x.fKind,(x.fText,(x.fOp,(x.fColon,(x.fParts,())))))|8,(x:w8)=>(x.fPos,(x.fFd,(x.fOp,(x.Xw,()))))|9,(x:TItem)=>(x.fPatterns,(x.fBody,()))|10,(x:cC)=>(x.fName,(x.cj,()))|11,(x:BA)=>(x.al7,(x.Xz,()))|12,(x:oW)=>(x.La,(x.Hp,()))|13,(x:aZ)=>(x.bN,(x.mc,(x.fData,())))|14,(x:fh)=>(x.fText,(x.ic,()))|15,(x:eE)=>(x.fParts,(x.SU,(x.fE,())))|16,(x:aO)=>(x.b9,(x.dw,(x.fused,(x.lq,(x.fe,(x.fJ,(x.fO,(x.yS,()))))))))|17,(x:aB)=>(x.fText,(x.aI,()))|18,(x:cO)=>(x.fQ,(x.DR,(x.lu,())))|19,(x:d5)=>(x.fOp,(x.fN,(x.fName,(x.fKids,()))))|20,(x:Hv)=>(x.fs,(x.ZY,(x.fe,(x.Qy,()))))|21,(x:dY)=>(x.fb,(x.nM,()))|22,(x:aC)=>(x.fKind,(x.fText,(x.BK,(x.cL,()))))|23,(x:cA)=>(x.qu,(x.kA,()))|24,(x:nt)=>(x.fname,(x.tP,()))|25,(x:bM)=>(x.bJ,(x.dL,(x.dU,())))|26,(x:aP)=>(x.b9,(x.WX,(x.dw,(x.lq,(x.fO,(x.yS,(x.fJ,(x.xU,()))))))))|27,(x:dz)=>(x.fQ,(x.lu,(x.dL,())))|28,(x:ef)=>(x.ZY,(x.xU,()))|29,(x:fV)=>(x.dU,(x.Qy,(x.bJ,())))|30,(x:Hw)=>(x.fs,(x.Yu,()))|31,(x:iV)=>(x.Ht,(x.Ql,(x.fop,())))|32,(x:fI)=>(x.fb,(x.nM,()))|33,(x:bq)=>(x.bJ,(x.dL,()))|34,(x:cM)=>(x.JY,(x.JZ,()))|35,(x:bh)=>(x.bJ,(x.jL,(x.fP,())))|36,(x:gT)=>(x.jf,(x.mJ,(x.ajc,(x.ajd,(x.rD,(x.ic,()))))))|_+37,_=>()
def aul:(i:Nat)->(Edf i).den ED->ED i|0,x=>wV.mk x.1 x.2.1 x.2.2.1 x.2.2.2.1|1,x=>eP.mk x.1 x.2.1 x.2.2.1 x.2.2.2.1 x.2.2.2.2.1 x.2.2.2.2.2.1 x.2.2.2.2.2.2.1 x.2.2.2.2.2.2.2.1 x.2.2.2.2.2.2.2.2.1 x.2.2.2.2.2.2.2.2.2.1 x.2.2.2.2.2.2.2.2.2.2.1 x.2.2.2.2.2.2.2.2.2.2.2.1 x.2.2.2.2.2.2.2.2.2.2.2.2.1 x.2.2.2.2.2.2.2.2.2.2.2.2.2.1|2,x=>bP.mk x.1 x.2.1 x.2.2.1 x.2.2.2.1 x.2.2.2.2.1|3,x=>Ac.mk x.1 x.2.1|4,x=>TNode.mk x.1 x.2.1 x.2.2.1 x.2.2.2.1 x.2.2.2.2.1 x.2.2.2.2.2.1 x.2.2.2.2.2.2.1 x.2.2.2.2.2.2.2.1 x.2.2.2.2.2.2.2.2.1|5,x=>tO.mk x.1 x.2.1 x.2.2.1|6,x=>eM.mk x.1 x.2.1|7,x=>d6.mk x.1 x.2.1 x.2.2.1 x.2.2.2.1 x.2.2.2.2.1|8,x=>w8.mk x.1 x.2.1 x.2.2.1 x.2.2.2.1|9,x=>TItem.mk x.1 x.2.1|10,x=>cC.mk x.1 x.2.1|11,x=>BA.mk x.1 x.2.1|12,x=>oW.mk x.1 x.2.1|13,x=>aZ.mk x.1 x.2.1 x.2.2.1|14,x=>fh.mk x.1 x.2.1|15,x=>eE.mk x.1 x.2.1 x.2.2.1|16,x=>aO.mk x.1 x.2.1 x.2.2.1 x.2.2.2.1 x.2.2.2.2.1 x.2.2.2.2.2.1 x.2.2.2.2.2.2.1 x.2.2.2.2.2.2.2.1|17,x=>aB.mk x.1 x.2.1|18,x=>cO.mk x.1 x.2.1 x.2.2.1|19,x=>d5.mk x.1 x.2.1 x.2.2.1 x.2.2.2.1|20,x=>Hv.mk x.1 x.2.1 x.2.2.1 x.2.2.2.1|21,x=>dY.mk x.1 x.2.1|22,x=>aC.mk x.1 x.2.1 x.2.2.1 x.2.2.2.1|23,x=>cA.mk x.1 x.2.1|24,x=>nt.mk x.1 x.2.1|25,x=>bM.mk x.1 x.2.1 x.2.2.1|26,x=>aP.mk x.1 x.2.1 x.2.2.1 x.2.2.2.1 x.2.2.2.2.1 x.2.2.2.2.2.1 x.2.2.2.2.2.2.1 x.2.2.2.2.2.2.2.1|27,x=>dz.mk x.1 x.2.1 x.2.2.1|28,x=>ef.mk x.1 x.2.1|29,x=>fV.mk x.1 x.2.1 x.2.2.1|30,x=>Hw.mk x.1 x.2.1|31,x=>iV.mk x.1 x.2.1 x.2.2.1|32,x=>fI.mk x.1 x.2.1|33,x=>bq.mk x.1 x.2.1|34,x=>cM.mk x.1 x.2.1|35,x=>bh.mk x.1 x.2.1 x.2.2.1|36,x=>gT.mk x.1 x.2.1 x.2.2.1 x.2.2.2.1 x.2.2.2.2.1 x.2.2.2.2.2.1|_+37,_=>()
def avB:(i:Nat)->ED i|0=>aow|1=>Lb|2=>eB|3=>ajM|4=>abP|5=>abN|6=>EG|7=>kz|8=>afR|9=>ajL|10=>su|11=>ajN|12=>Mr|13=>cw|14=>xh|15=>anQ|16=>aqg|17=>dx|18=>aqi|19=>dJ|20=>anR|21=>jD|22=>eL|23=>fU|24=>qM|25=>nH|26=>ai8|27=>asB|28=>aqj|29=>agr|30=>anT|31=>AG|32=>cU|33=>nk|34=>anV|35=>oN|36=>afC|_+37=>()
def Egb(b:Nat):O (aK T1->Prop):=cond (eI b 1) (iN (λcs=>cs=(Lib.pow10Tab.map λz=>Value.int .u64 z).toArray)) (cond (eI b 0) (iN (λcs=>∃m,cs[0]? = iN (Value.int .i64 m))) iF)
def Eyd(y:Nat)(Y:YD):Prop:=cond (eI y 3000000) (Y=Wu 1 Tryz.f41 [hJ,hJ,hJ,hJ,eQ,hJ]) (False)
def anW(y:Nat):O Nat:=cond (eI y 3000000) (iN 1) (iF)
def Ezc(e:aL):Bool:=(!(eI e 444)&&(!(eI e 443)&&(!(eI e 6)&&(!(eI e 5)&&hJ))))
def E:TEnv:=⟨ED,Edf,auk,avz,avA,aul,avB,Egb,Eyd,anW,Ezc⟩
theorem aoX:∀(i:Nat)(x:E.D i),E.enc i x=(E.df i).cells E (E.BO i x)
 | 0,x=>by kernel_rfl|1,x=>by kernel_rfl|2,x=>rfl|3,x=>by cases x with|mk y0 y1=>cases y1;kernel_rfl
 | 4,x=>by cases x;show pS _=_;simp only[pS,vp,vq];rfl
 | 5,x=>by kernel_rfl|6,x=>rfl|7,x=>by cases x;show nr _=_;simp only[nr,Fu];rfl
 | 8,x=>by kernel_rfl|9,x=>by cases x;show tc _=_;simp only[tc,vp,vq];rfl
 | 10,x=>rfl|11,x=>rfl|12,x=>rfl|13,x=>rfl|14,x=>rfl|15,x=>rfl|16,x=>by kernel_rfl|17,x=>rfl|18,x=>rfl|19,x=>by cases x;show Ix _=_;simp only[Ix,N6];rfl
 | 20,x=>rfl|21,x=>rfl|22,x=>rfl|23,x=>rfl|24,x=>rfl|25,x=>rfl|26,x=>by kernel_rfl|27,x=>rfl|28,x=>rfl|29,x=>rfl|30,x=>by kernel_rfl|31,x=>rfl|32,x=>rfl|33,x=>rfl|34,x=>rfl|35,x=>rfl|36,x=>by kernel_rfl|_+37,_=>rfl
theorem asC:∀(i:Nat)(y:(E.df i).den E.D),E.BO i (E.fold i y)=y:=by
 intro i
 iterate 37 (rcases i with _|i;· intro _;rfl)
 intro _;rfl
theorem asD:∀(i:Nat),E.size i=(E.df i).size E:=by
 intro i
 iterate 37 (rcases i with _|i;· rfl)
 rfl
theorem aum:∀(i:Nat)(x:E.D i),Ts (E.enc i x)=E.size i:=by
 intro i
 iterate 37 (rcases i with _|i;· intro x;rw[aoX];first|rfl|(cases x with|mk y0 y1=>cases y1;rfl))
 intro _;rfl
theorem aun:∀(y:Nat)(Y:YD)(n:Nat),E.yd y Y->E.ydn y=iN n->Y.params.size=n:=by
 intro y Y n h1 h2;have h1:Eyd y Y:=h1;have h2:anW y=iN n:=h2;unfold Eyd at h1;unfold anW at h2;by_cases hb0:eI y 3000000=hJ
 ·rw[hb0,aU]at h1 h2;rw[h1];exact(pO h2)▸(show(Wu 1 Tryz.f41 [hJ,hJ,hJ,hJ,eQ,hJ]).params.size=1 by kernel_rfl)
 rw[Bool.not_eq_true]at hb0;rw[hb0,aJ]at h1 h2;exact h1.elim
def Fq:E.Ok:=⟨aoX,asC,asD,aum,aun⟩
def Jh:aL->O Ty:=λt=>(([(3,(.int .i64)),(4,.bool),(5,(.int .u8)),(9,.str),(21,(.int .i32)),(22,(.bz (.ext 2))),(23,(.bz .str)),(24,(.bz (.ext 3))),(25,(.bz (.ext 10))),(26,(.bz (.ext 11))),(27,(.ext 12)),(28,(.ext 12)),(29,(.ext 1)),(30,(.ext 1)),(31,(.bz (.ext 13))),(32,(.bz (.ext 14))),(33,(.ext 0)),(34,(.ext 0)),(35,(.bz (.ext 6))),(40,(.bz (.ext 7))),(41,(.ext 6)),(42,(.ext 6)),(43,(.ext 36)),(44,(.ext 36)),(45,(.int .i64)),(51,(.ext 14)),(52,(.ext 14)),(60,(.ext 2)),(61,(.ext 2)),(62,(.ext 13)),(63,(.ext 13)),(75,(.bz (.ext 17))),(77,(.ext 18)),(78,(.ext 18)),(79,(.bz (.bz (.ext 17)))),(82,(.ext 16)),(83,(.ext 16)),(93,(.ext 27)),(94,(.ext 27)),(95,(.ext 7)),(96,(.ext 7)),(97,(.ext 26)),(98,(.ext 26)),(107,(.bz (.bz (.ext 25)))),(109,(.bz (.ext 25))),(112,(.ext 17)),(113,(.ext 17)),(116,(.bz (.ext 22))),(119,(.ext 15)),(120,(.ext 15)),(127,(.bz (.bz (.ext 33)))),(129,(.bz (.ext 33))),(133,(.bz (.int .u8))),(144,(.bz (.ext 35))),(150,(.ext 35)),(151,(.ext 35)),(158,(.ext 10)),(159,(.ext 10)),(161,(.ext 11)),(162,(.ext 11)),(164,(.bz (.ext 5))),(165,(.bz (.ext 8))),(166,(.bz (.ext 4))),(167,(.bz (.ext 9))),(168,(.ext 4)),(169,(.ext 4)),(170,(.ext 3)),(171,(.ext 3)),(176,(.ext 25)),(177,(.ext 25)),(180,(.bz (.ext 23))),(181,(.ext 22)),(182,(.ext 22)),(184,(.bz (.ext 21))),(189,(.ext 21)),(190,(.ext 21)),(200,(.ext 33)),(201,(.ext 33)),(210,(.bz (.ext 32))),(214,(.ext 32)),(215,(.ext 32)),(218,(.ext 34)),(219,(.ext 34)),(224,(.ext 5)),(225,(.ext 5)),(229,(.ext 8)),(230,(.ext 8)),(233,(.ext 9)),(234,(.ext 9)),(236,(.bz (.ext 10))),(237,(.ext 10)),(272,(.ext 23)),(273,(.ext 23)),(287,(.int .u64)),(288,(.bz (.ext 19))),(289,(.ext 19)),(290,(.ext 19)),(299,(.bz (.ext 24))),(301,(.ext 24)),(302,(.ext 24)),(339,(.ext 20)),(340,(.ext 20)),(347,(.bz .bool)),(355,(.ext 28)),(356,(.ext 28)),(359,(.ext 29)),(360,(.ext 29)),(362,(.ext 30)),(363,(.ext 30)),(404,ald),(416,(.bz (.ext 31))),(418,(.ext 31)),(419,(.ext 31))]:J (Nat×Ty)).find? λp=>eI p.1 t).map (·.2)
theorem mixed:Tryz.prog.follows .mixedOrders=hJ:=by kernel_rfl
noncomputable abbrev pg:=prog
set_option maxRecDepth 100000 in
theorem dG{Γ:J (bQ E)}{C:bQ E}{fn:Func}(F:Nat)(pl:fu)(hΓ:∀C'∈Γ,C'.Ok pg)(hf:pg.funcs[C.s.f]? = iN fn)(hn:(fn.name == "runtime.NumGoroutine")=eQ:=by kernel_rfl)(h:∀x,adm ⟨pg,Jh,Γ,[],iF⟩ F C.s fn pl x=C.m x:=by intro x;kernel_rfl):C.Ok pg:=bQ.abA (X:=⟨pg,Jh,Γ,[],iF⟩) (F:=F) ⟨Fq,hΓ,mixed,goN,SO⟩ (pl:=pl) hf hn h
def um{C:bQ E}(h:∀x,C.m x=iF):C.Ok pg:=λx y e=>nomatch (h x).symm.trans e
abbrev lf:fu:=.leaf
abbrev qs(a b:fu):fu:=.seq [] iF a b
abbrev qa(b:fu):fu:=.seq [] iF .leaf b
def dp(l:J Int):J (Nat×Bool):=l.map λ|.ofNat n=>(n,hJ)|.negSucc n=>(n,eQ)
abbrev Bs:=J UInt8
abbrev u2{a b c:Type}(q:a->b->c)(x:a×b):c:=q x.1 x.2
abbrev u3{a b c d:Type}(q:a->b->c->d)(x:a×b×c):d:=q x.1 x.2.1 x.2.2
abbrev u4{a b c d e:Type}(q:a->b->c->d->e)(x:a×b×c×d):e:=q x.1 x.2.1 x.2.2.1 x.2.2.2
abbrev u5{a b c d e f:Type}(q:a->b->c->d->e->f)(x:a×b×c×d×e):f:=q x.1 x.2.1 x.2.2.1 x.2.2.2.1 x.2.2.2.2
abbrev u6{a b c d e f g:Type}(q:a->b->c->d->e->f->g)(x:a×b×c×d×e×f):g:=q x.1 x.2.1 x.2.2.1 x.2.2.2.1 x.2.2.2.2.1 x.2.2.2.2.2
abbrev u7{a b c d e f g h:Type}(q:a->b->c->d->e->f->g->h)(x:a×b×c×d×e×f×g):h:=q x.1 x.2.1 x.2.2.1 x.2.2.2.1 x.2.2.2.2.1 x.2.2.2.2.2.1 x.2.2.2.2.2.2
abbrev u8{a b c d e f g h i:Type}(q:a->b->c->d->e->f->g->h->i)(x:a×b×c×d×e×f×g×h):i:=q x.1 x.2.1 x.2.2.1 x.2.2.2.1 x.2.2.2.2.1 x.2.2.2.2.2.1 x.2.2.2.2.2.2.1 x.2.2.2.2.2.2.2
abbrev oE(n:Nat):PT:=.one (.dat (.ext n))
abbrev oL(n:Nat):PT:=.one (.dat (.bz (.ext n)))
abbrev oB:PT:=.one (.dat .bool)
abbrev oI:PT:=.one (.dat (.int .i64))
abbrev oU:PT:=.one (.dat (.int .u64))
abbrev oS:PT:=.one (.dat .str)
abbrev oT:PT:=.one (.dat (.bz .str))
def sh(f:Nat)(a:J PT)(r:PT):dm:=⟨f,a,[],[],⟨r,[],[],[]⟩,iF,[]⟩
def ct(l:J (Nat×PT)):Cut:=⟨l,[],[],[]⟩
def rb(a b:Nat):Nat×Cut×Bool:=(a,ct [(b,oB)],eQ)
def ro(a b:Nat)(t:PT):Nat×Cut×Bool:=(a,ct [(b,t)],eQ)
def zW{A:Type}(_:A):Prop:=True
def wx{A:Type}{v:A}(_:zW v):A:=v
abbrev WQ(A:Type):=∀ {v:A},zW v->A
variable{A R S:Type}{x y:O R}{e:O A}{k:A -> O R}{b:Bool}
def ws(x:R):zW (iN x):=trivial
def wn:zW (iF (α:=R)):=trivial
def ww(x:O R):zW x:=trivial
def wc(b:Bool)(_:zW x)(_:zW y):zW (cond b x y):=trivial
def wo(b:Bool){x:O Bool}(_:zW x):zW (cond b (iN hJ) x):=trivial
def wa(b:Bool){x:O Bool}(_:zW x):zW (cond b x (iN eQ)):=trivial
def wq(b:Bool)(_:zW x):zW (rq b x):=trivial
def wg(i:Int)(l:J A)(_:zW x):zW (rq (eK (0<=i)&&eK (i<Ts l)) x):=trivial
def wi(l:J A)(i:Int)(d:A)(_:∀v,zW (k v)):zW (rq (eK (0<=i)&&eK (i<Ts l)) (k (l.getD i.toNat d))):=trivial
def wb(e:O A)(_:∀v,zW (k v)):zW (e.bind k):=trivial
def wm(e:O A):zW (e.bind λx=>iN x):=trivial
def kj(_:zW e):zW (e.bind λx=>iN x):=trivial
def wv(_:zW e)(_:∀v,zW (k v)):zW (e.bind k):=trivial
def wu(A:Type){e:O A}{k:A->O R}(_:zW e)(_:∀v,zW (k v)):zW (e.bind k):=trivial
def wl(S:Type){f:(S->O R)->S->O R}(_:∀k v,zW (f k v))(F:Nat)(s:S):zW (bX f F s):=trivial
def wt(a:A)(_:∀v,zW (k v)):zW (k a):=trivial
def wp(m:Nat)(l r:J A){k:J A->O R}(_:∀v,zW (k v)):zW (rq (eK (Ts l+Ts r<=9223372036854775807)&&eK ((Ts l+Ts r)*m<=140737488355328)) (k (l++r))):=trivial
def wj(l r:J A){k:J A->O R}(_:∀v,zW (k v)):zW (rq (eK (Ts l+Ts r<=9223372036854775807)) (k (l++r))):=trivial
variable{A0 A1 A2 A3 A4 A5 A6 A7 A8:Type}
def dn(e:O (A0×A1)){k:A0->A1->O R}(_:∀a b,zW (k a b)):zW (e.bind λx=>k x.1 x.2):=trivial
def y5{e:O (A0×A1)}{k:A0->A1->O R}(_:zW e)(_:∀a b,zW (k a b)):zW (e.bind λx=>k x.1 x.2):=trivial
def wu2(A0 A1:Type){e:O (A0×A1)}{k:A0->A1->O R}(_:zW e)(_:∀a b,zW (k a b)):zW (e.bind λx=>k x.1 x.2):=trivial
def iR(A0 A1:Type){f:((A0×A1)->O R)->A0->A1->O R}(_:∀k a b,zW (f k a b))(F:Nat)(s:A0×A1):zW (bX (λk x=>f k x.1 x.2) F s):=trivial
def oq(e:O (A0×A1×A2)){k:A0->A1->A2->O R}(_:∀a b c,zW (k a b c)):zW (e.bind λx=>k x.1 x.2.1 x.2.2):=trivial
def TA{e:O (A0×A1×A2)}{k:A0->A1->A2->O R}(_:zW e)(_:∀a b c,zW (k a b c)):zW (e.bind λx=>k x.1 x.2.1 x.2.2):=trivial
def vG(A0 A1 A2:Type){f:((A0×A1×A2)->O R)->A0->A1->A2->O R}(_:∀k a b c,zW (f k a b c))(F:Nat)(s:A0×A1×A2):zW (bX (λk x=>f k x.1 x.2.1 x.2.2) F s):=trivial
def LH(e:O (A0×A1×A2×A3)){k:A0->A1->A2->A3->O R}(_:∀a b c d,zW (k a b c d)):zW (e.bind λx=>k x.1 x.2.1 x.2.2.1 x.2.2.2):=trivial
def wv4{e:O (A0×A1×A2×A3)}{k:A0->A1->A2->A3->O R}(_:zW e)(_:∀a b c d,zW (k a b c d)):zW (e.bind λx=>k x.1 x.2.1 x.2.2.1 x.2.2.2):=trivial
def wl4(A0 A1 A2 A3:Type){f:((A0×A1×A2×A3)->O R)->A0->A1->A2->A3->O R}(_:∀k a b c d,zW (f k a b c d))(F:Nat)(s:A0×A1×A2×A3):zW (bX (λk x=>f k x.1 x.2.1 x.2.2.1 x.2.2.2) F s):=trivial
def Bf(e:O (A0×A1×A2×A3×A4)){k:A0->A1->A2->A3->A4->O R}(_:∀a b c d e,zW (k a b c d e)):zW (e.bind λx=>k x.1 x.2.1 x.2.2.1 x.2.2.2.1 x.2.2.2.2):=trivial
def wv5{e:O (A0×A1×A2×A3×A4)}{k:A0->A1->A2->A3->A4->O R}(_:zW e)(_:∀a b c d e,zW (k a b c d e)):zW (e.bind λx=>k x.1 x.2.1 x.2.2.1 x.2.2.2.1 x.2.2.2.2):=trivial
def wb6(e:O (A0×A1×A2×A3×A4×A5)){k:A0->A1->A2->A3->A4->A5->O R}(_:∀a b c d e g,zW (k a b c d e g)):zW (e.bind λx=>k x.1 x.2.1 x.2.2.1 x.2.2.2.1 x.2.2.2.2.1 x.2.2.2.2.2):=trivial
def wl7(A0 A1 A2 A3 A4 A5 A6:Type){f:((A0×A1×A2×A3×A4×A5×A6)->O R)->A0->A1->A2->A3->A4->A5->A6->O R}(_:∀k a b c d e g h,zW (f k a b c d e g h))(F:Nat)(s:A0×A1×A2×A3×A4×A5×A6):zW (bX (λk x=>f k x.1 x.2.1 x.2.2.1 x.2.2.2.1 x.2.2.2.2.1 x.2.2.2.2.2.1 x.2.2.2.2.2.2) F s):=trivial
def wl8(A0 A1 A2 A3 A4 A5 A6 A7:Type){f:((A0×A1×A2×A3×A4×A5×A6×A7)->O R)->A0->A1->A2->A3->A4->A5->A6->A7->O R}(_:∀k a b c d e g h i,zW (f k a b c d e g h i))(F:Nat)(s:A0×A1×A2×A3×A4×A5×A6×A7):zW (bX (λk x=>f k x.1 x.2.1 x.2.2.1 x.2.2.2.1 x.2.2.2.2.1 x.2.2.2.2.2.1 x.2.2.2.2.2.2.1 x.2.2.2.2.2.2.2) F s):=trivial
