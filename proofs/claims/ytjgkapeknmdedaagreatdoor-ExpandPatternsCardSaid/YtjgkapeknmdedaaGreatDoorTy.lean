import Derived.Test.YtjgkapeknmdedaaGreatDoorSh
import Derived.Test.YtjgkapeknmdedaaGreatDoorRk
import Derived.Test.YtjgkapeknmdedaaGreatDoorChecked
set_option linter.all false
namespace Go.Proofs.YtjgkapeknmdedaaGreatDoor
open Go.RT Go.RowKit Go.Maps Go.Sort Go.Shelf
open Go.Proofs (encStr)
theorem anf(k:Nat):AnyZ.SortsIn Tryz.prog Tryz.P9 Fence.wide k:=
 ⟨fun blk off cap ss W hH hblk hsz=>callsIn_wide.2 (AnyM.slices_Sort_string Tryz.XO blk off cap ss W hH hblk hsz),
  fun p cap W=>callsIn_wide.2 (AnyM.slices_Sort_string_none Tryz.XO p cap W)⟩
theorem ajd:Z5 Tryz.prog 286 346 267 9:=by
 intro w b0 b n D0 R hc hown hmax hbytes
 have hseq:SeqGives Fence.wide 2 Tryz.prog 346 #[.pointer (some ⟨b0,0,none⟩)] encStr (fun ss=>ss.Perm (strKeys D0)) (Maps.size D0) w:=
  AnyZ.keys_gives (ρ:=Tryz.Wo) {Tryz.aou with} Fence.wide _ trivial rfl om b0 b n D0 _ (by
   have:=(yZ.1 hc).1;omega) (by simp [World.cell?,hc]) hown
 have cS:=AnyZ.sorted_in Tryz.akZ Fence.wide 5 trivial trivial trivial trivial rfl om (anf _) (enters_of Tryz.func104 kr rfl) 346 #[.pointer (some ⟨b0,0,none⟩)] trivial (enters_of Tryz.func346 kr rfl) _ _ hmax hbytes _ hseq;change CallsIn _ _ Tryz.prog 286 _ _ _ at cS;refine (callsIn_wide.1 cS).mono ?_;rintro e2 w2 ⟨v,ss,rfl,hS,hrow,-,hb⟩;exact⟨v,ss,rfl,hS,hrow,hb⟩
open Go.RT
abbrev ahc:Ty:=(.pair (.int .i64) (.pair (.int .i64) (.pair (.int .i64) (.pair (.int .i64) (.pair (.int .i64) (.pair (.int .i64) (.pair (.int .i64) (.pair (.int .i64) .unit))))))))
structure bC where
 fName:List UInt8
 bK:List UInt8
 cH:Bool
 tQ:Bool
 kU:Bool
 deriving Inhabited,DecidableEq
def dP:bC:=.mk [] [] false false false
def Bj(v:bC):J DV:=([.str v.fName])++([.str v.bK])++([.bool v.cH])++([.bool v.tQ])++([.bool v.kU])
inductive TPart where
 | mk (fKind:Int) (fText:List UInt8) (fOp:Int) (fColon:Bool) (fParts:List TPart)
def TPart.fKind:TPart->Int
 | .mk x _ _ _ _=>x
def TPart.fText:TPart->J UInt8
 | .mk _ x _ _ _=>x
def TPart.fOp:TPart->Int
 | .mk _ _ x _ _=>x
def TPart.fColon:TPart->Bool
 | .mk _ _ _ x _=>x
def TPart.fParts:TPart->J TPart
 | .mk _ _ _ _ x=>x
@[simp] theorem TPart.eta (v : TPart) : TPart.mk v.fKind v.fText v.fOp v.fColon v.fParts = v := by cases v; rfl
def kO:TPart:=.mk 0 [] 0 false []
mutual
def lu:TPart->J DV
 | .mk fKind fText fOp fColon fParts=>([.int .i64 fKind])++([.str fText])++([.int .i64 fOp])++([.bool fColon])++([.slice 5 (HC fParts)])
def HC:J TPart->J (J DV)
 | []=>[]
 | x::xs=>lu x::HC xs
end
theorem Dd:∀l,HC l=l.map lu
 | []=>rfl
 | x::xs=>by simp only [HC,ld,Dd xs]
structure iE where
 fPos:Int
 fParts:List TPart
def wS:iE:=.mk 0 []
def qx(v:iE):J DV:=([.int .i64 v.fPos])++([.slice 5 (v.fParts.map lu)])
structure q9 where
 fPos:Int
 fName:List UInt8
 bK:iE
def Ym:q9:=.mk 0 [] wS
def sK(v:q9):J DV:=([.int .i64 v.fPos])++([.str v.fName])++(qx v.bK)
structure uF where
 fPos:Int
 fFd:Int
 fOp:Int
 Uk:iE
def acd:uF:=.mk 0 0 0 wS
def uG(v:uF):J DV:=([.int .i64 v.fPos])++([.int .i64 v.fFd])++([.int .i64 v.fOp])++(qx v.Uk)
mutual
inductive TNode where
 | mk (fKind:Int) (fPos:Int) (fName:List UInt8) (fAll:Bool) (fAssigns:List q9) (fWords:List iE) (fRedirs:List uF) (fKids:List TNode) (fItems:List TItem)
inductive TItem where
 | mk (fPatterns:List iE) (fBody:List TNode)
end
def TNode.fKind:TNode->Int
 | .mk x _ _ _ _ _ _ _ _=>x
def TNode.fPos:TNode->Int
 | .mk _ x _ _ _ _ _ _ _=>x
def TNode.fName:TNode->J UInt8
 | .mk _ _ x _ _ _ _ _ _=>x
def TNode.fAll:TNode->Bool
 | .mk _ _ _ x _ _ _ _ _=>x
def TNode.fAssigns:TNode->J q9
 | .mk _ _ _ _ x _ _ _ _=>x
def TNode.fWords:TNode->J iE
 | .mk _ _ _ _ _ x _ _ _=>x
def TNode.fRedirs:TNode->J uF
 | .mk _ _ _ _ _ _ x _ _=>x
def TNode.fKids:TNode->J TNode
 | .mk _ _ _ _ _ _ _ x _=>x
def TNode.fItems:TNode->J TItem
 | .mk _ _ _ _ _ _ _ _ x=>x
@[simp] theorem TNode.eta (v : TNode) : TNode.mk v.fKind v.fPos v.fName v.fAll v.fAssigns v.fWords v.fRedirs v.fKids v.fItems = v := by cases v; rfl
def TItem.fPatterns:TItem->J iE
 | .mk x _=>x
def TItem.fBody:TItem->J TNode
 | .mk _ x=>x
@[simp] theorem TItem.eta (v : TItem) : TItem.mk v.fPatterns v.fBody = v := by cases v; rfl
def Yo:TNode:=.mk 0 0 [] false [] [] [] [] []
def afK:TItem:=.mk [] []
mutual
def nE:TNode->J DV
 | .mk fKind fPos fName fAll fAssigns fWords fRedirs fKids fItems=>([.int .i64 fKind])++([.int .i64 fPos])++([.str fName])++([.bool fAll])++([.slice 4 (fAssigns.map sK)])++([.slice 2 (fWords.map qx)])++([.slice 5 (fRedirs.map uG)])++([.slice 9 (CQ fKids)])++([.slice 2 (HD fItems)])
def qy:TItem->J DV
 | .mk fPatterns fBody=>([.slice 2 (fPatterns.map qx)])++([.slice 9 (CQ fBody)])
def CQ:J TNode->J (J DV)
 | []=>[]
 | x::xs=>nE x::CQ xs
def HD:J TItem->J (J DV)
 | []=>[]
 | x::xs=>qy x::HD xs
end
theorem tc:∀l,CQ l=l.map nE
 | []=>rfl
 | x::xs=>by simp only [CQ,ld,tc xs]
theorem td:∀l,HD l=l.map qy
 | []=>rfl
 | x::xs=>by simp only [HD,ld,td xs]
structure xI where
 fName:List UInt8
 fBody:TNode
def afL:xI:=.mk [] Yo
def yl(v:xI):J DV:=([.str v.fName])++(nE v.fBody)
structure b8 where
 fName:List UInt8
 bK:List UInt8
 deriving Inhabited,DecidableEq
def p4:b8:=.mk [] []
def uH(v:b8):J DV:=([.str v.fName])++([.str v.bK])
structure zl where
 ahL:Int
 Un:List UInt8
 deriving Inhabited,DecidableEq
def afM:zl:=.mk 0 []
def ym(v:zl):J DV:=([.int .i64 v.ahL])++([.str v.Un])
structure lN where
 I8:Int
 Fa:Int
 deriving Inhabited,DecidableEq
def J7:lN:=.mk 0 0
def zm(v:lN):J DV:=([.int .i64 v.I8])++([.int .i64 v.Fa])
structure dX where
 fName:List UInt8
 bR:List bC
 cD:List (List UInt8)
 tf:List xI
 nF:List b8
 tg:List zl
 iu:Int
 fC:Int
 Bo:Int
 oa:Int
 J8:List UInt8
 vA:lN
 Ja:Int
 Tz:Bool
def I9:dX:=.mk [] [] [] [] [] [] 0 0 0 0 [] J7 0 false
def yo(v:dX):J DV:=([.str v.fName])++([.slice 5 (v.bR.map Bj)])++([.slice 1 (v.cD.map (fun v=>[.str v]))])++([.slice 10 (v.tf.map yl)])++([.slice 2 (v.nF.map uH)])++([.slice 2 (v.tg.map ym)])++([.int .i64 v.iu])++([.int .i64 v.fC])++([.int .i64 v.Bo])++([.int .i64 v.oa])++([.str v.J8])++(zm v.vA)++([.int .i64 v.Ja])++([.bool v.Tz])
structure bu where
 bW:List UInt8
 nH:Bool
 fData:List UInt8
 deriving Inhabited,DecidableEq
def bP:bu:=.mk [] false []
def uI(v:bu):J DV:=([.str v.bW])++([.bool v.nH])++([.str v.fData])
structure ga where
 fText:List UInt8
 fC:Int
 deriving Inhabited,DecidableEq
def Bp:ga:=.mk [] 0
def oc(v:ga):J DV:=([.str v.fText])++([.int .i64 v.fC])
structure uy where
 nG:dX
 oW:List bu
 Jb:List (List UInt8)
 jE:List ga
def ajN:uy:=.mk I9 [] [] []
def Uq(v:uy):J DV:=(yo v.nG)++([.slice 3 (v.oW.map uI)])++([.slice 1 (v.Jb.map (fun v=>[.str v]))])++([.slice 2 (v.jE.map oc)])
structure dV where
 fParts:List TPart
 RO:Int
 fE:Int
def aje:dV:=.mk [] 0 0
def afh(v:dV):J DV:=([.slice 5 (v.fParts.map lu)])++([.int .i64 v.RO])++([.int .i64 v.fE])
structure aY where
 cm:dX
 ec:List ga
 fused:Int
 jz:Int
 fe:Int
 eV:List UInt8
 kI:Bool
 sX:List UInt8
def alg:aY:=.mk I9 [] 0 0 0 [] false []
def ahd(v:aY):J DV:=(yo v.cm)++([.slice 2 (v.ec.map oc)])++([.int .i64 v.fused])++([.int .i64 v.jz])++([.int .i64 v.fe])++([.str v.eV])++([.bool v.kI])++([.str v.sX])
structure aH where
 fText:List UInt8
 bO:Int
 deriving Inhabited,DecidableEq
def cx:aH:=.mk [] 0
def alh(v:aH):J DV:=([.str v.fText])++([.int .i64 v.bO])
structure cZ where
 eW:Bool
 BP:Bool
 jU:Bool
 deriving Inhabited,DecidableEq
def ali:cZ:=.mk false false false
def ahe(v:cZ):J DV:=([.bool v.eW])++([.bool v.BP])++([.bool v.jU])
inductive TExpr where
 | mk (fOp:Int) (fN:Int) (fName:List UInt8) (fKids:List TExpr)
def TExpr.fOp:TExpr->Int
 | .mk x _ _ _=>x
def TExpr.fN:TExpr->Int
 | .mk _ x _ _=>x
def TExpr.fName:TExpr->J UInt8
 | .mk _ _ x _=>x
def TExpr.fKids:TExpr->J TExpr
 | .mk _ _ _ x=>x
@[simp] theorem TExpr.eta (v : TExpr) : TExpr.mk v.fOp v.fN v.fName v.fKids = v := by cases v; rfl
def dn:TExpr:=.mk 0 0 [] []
mutual
def F6:TExpr->J DV
 | .mk fOp fN fName fKids=>([.int .i64 fOp])++([.int .i64 fN])++([.str fName])++([.slice 4 (HE fKids)])
def HE:J TExpr->J (J DV)
 | []=>[]
 | x::xs=>F6 x::HE xs
end
theorem Lv:∀l,HE l=l.map F6
 | []=>rfl
 | x::xs=>by simp only [HE,ld,Lv xs]
structure Fh where
 fs:List UInt8
 Wx:Int
 fe:Int
 NU:Int
 deriving Inhabited,DecidableEq
def ajf:Fh:=.mk [] 0 0 0
def afi(v:Fh):J DV:=([.str v.fs])++([.int .i64 v.Wx])++([.int .i64 v.fe])++([.int .i64 v.NU])
structure fA where
 fb:Int
 ke:Bool
 deriving Inhabited,DecidableEq
def iI:fA:=.mk 0 false
def abV(v:fA):J DV:=([.int .u8 v.fb])++([.bool v.ke])
structure bS where
 pT:Int
 jO:Int
 deriving Inhabited,DecidableEq
def fY:bS:=.mk 0 0
def Q8(v:bS):J DV:=([.int .u8 v.pT])++([.int .u8 v.jO])
structure aF where
 fKind:Int
 fText:List UInt8
 Br:Bool
 cH:List bS
 deriving Inhabited,DecidableEq
def fK:aF:=.mk 0 [] false []
def Qg(v:aF):J DV:=([.int .i64 v.fKind])++([.str v.fText])++([.bool v.Br])++([.slice 2 (v.cH.map Q8)])
structure lB where
 fname:List UInt8
 rj:List bS
 deriving Inhabited,DecidableEq
def oJ:lB:=.mk [] []
def ahf(v:lB):J DV:=([.str v.fname])++([.slice 2 (v.rj.map Q8)])
structure cJ where
 fD:List UInt8
 mg:Int
 uh:Int
 deriving Inhabited,DecidableEq
def ov:cJ:=.mk [] 0 0
def aax(v:cJ):J DV:=([.str v.fD])++([.int .i64 v.mg])++([.int .i64 v.uh])
structure aM where
 cm:dX
 TA:List bu
 ec:List ga
 jz:Int
 kI:Bool
 sX:List UInt8
 eV:List UInt8
 yB:Int
def afj:aM:=.mk I9 [] [] 0 false [] [] 0
def aay(v:aM):J DV:=(yo v.cm)++([.slice 3 (v.TA.map uI)])++([.slice 2 (v.ec.map oc)])++([.int .i64 v.jz])++([.bool v.kI])++([.str v.sX])++([.str v.eV])++([.int .i64 v.yB])
structure dh where
 eW:Bool
 jU:Bool
 mg:Int
 deriving Inhabited,DecidableEq
def ang:dh:=.mk false false 0
def ajg(v:dh):J DV:=([.bool v.eW])++([.bool v.jU])++([.int .i64 v.mg])
structure dz where
 Wx:Int
 yB:Int
 deriving Inhabited,DecidableEq
def alj:dz:=.mk 0 0
def ahg(v:dz):J DV:=([.int .i64 v.Wx])++([.int .i64 v.yB])
structure eX where
 uh:Int
 NU:Int
 fD:List UInt8
 deriving Inhabited,DecidableEq
def acO:eX:=.mk 0 0 []
def Wy(v:eX):J DV:=([.int .i64 v.uh])++([.int .i64 v.NU])++([.str v.fD])
structure Fi where
 fs:List UInt8
 U8:eX
 deriving Inhabited,DecidableEq
def ajh:Fi:=.mk [] acO
def afk(v:Fi):J DV:=([.str v.fs])++(Wy v.U8)
structure gN where
 Ff:List UInt8
 NH:Int
 fop:Int
 deriving Inhabited,DecidableEq
def yy:gN:=.mk [] 0 0
def afl(v:gN):J DV:=([.str v.Ff])++([.int .i64 v.NH])++([.int .i64 v.fop])
structure eA where
 fb:Int
 ke:Bool
 deriving Inhabited,DecidableEq
def cq:eA:=.mk 0 false
def aji(v:eA):J DV:=([.int .u8 v.fb])++([.bool v.ke])
structure cK where
 fD:List UInt8
 mg:Int
 deriving Inhabited,DecidableEq
def qF:cK:=.mk [] 0
def W4(v:cK):J DV:=([.str v.fD])++([.int .i64 v.mg])
structure dD where
 HF:Int
 HG:List UInt8
 deriving Inhabited,DecidableEq
instance:BEq dD:=⟨fun a b=>(a.HF==b.HF&&(a.HG==b.HG&&true))⟩
instance:LawfulBEq dD:={
 eq_of_beq:=fun {a b} h=>by
  have h:(a.HF==b.HF&&(a.HG==b.HG&&true))=true:=h;simp only [cw,oO,and_true] at h;cases a;cases b;simp_all
 rfl:=fun {a}=>by
  show (a.HF==a.HF&&(a.HG==a.HG&&true))=true;simp}
def ajj:dD:=.mk 0 []
def afm(v:dD):J DV:=([.int .i64 v.HF])++([.str v.HG])
structure bA where
 fD:List UInt8
 qz:List aF
 qA:Bool
 deriving Inhabited,DecidableEq
def IE:bA:=.mk [] [] false
def W5(v:bA):J DV:=([.str v.fD])++([.slice 4 (v.qz.map Qg)])++([.bool v.qA])
structure eD where
 vX:List (List UInt8)
 nG:dX
 TB:Bool
 TC:List UInt8
 F7:List UInt8
 fC:Int
def abW:eD:=.mk [] I9 false [] [] 0
def W6(v:eD):J DV:=([.slice 1 (v.vX.map (fun v=>[.str v]))])++(yo v.nG)++([.bool v.TB])++([.str v.TC])++([.str v.F7])++([.int .i64 v.fC])
def ED:Nat->Type
 | 0=>uy
 | 1=>dX
 | 2=>bC
 | 3=>xI
 | 4=>TNode
 | 5=>q9
 | 6=>iE
 | 7=>TPart
 | 8=>uF
 | 9=>TItem
 | 10=>b8
 | 11=>zl
 | 12=>lN
 | 13=>bu
 | 14=>ga
 | 15=>dV
 | 16=>aY
 | 17=>aH
 | 18=>cZ
 | 19=>TExpr
 | 20=>Fh
 | 21=>fA
 | 22=>aF
 | 23=>bS
 | 24=>lB
 | 25=>cJ
 | 26=>aM
 | 27=>dh
 | 28=>dz
 | 29=>eX
 | 30=>Fi
 | 31=>gN
 | 32=>eA
 | 33=>cK
 | 34=>dD
 | 35=>bA
 | 36=>eD
 | _+37=>Unit
def Edf:Nat->Ty
 | 0=>(.pair (.ext 1) (.pair (.aZ (.ext 13)) (.pair (.aZ .str) (.pair (.aZ (.ext 14)) .unit))))
 | 1=>(.pair .str (.pair (.aZ (.ext 2)) (.pair (.aZ .str) (.pair (.aZ (.ext 3)) (.pair (.aZ (.ext 10)) (.pair (.aZ (.ext 11)) (.pair (.int .i64) (.pair (.int .i64) (.pair (.int .i64) (.pair (.int .i64) (.pair .str (.pair (.ext 12) (.pair (.int .i64) (.pair .bool .unit))))))))))))))
 | 2=>(.pair .str (.pair .str (.pair .bool (.pair .bool (.pair .bool .unit)))))
 | 3=>(.pair .str (.pair (.ext 4) .unit))
 | 4=>(.pair (.int .i64) (.pair (.int .i64) (.pair .str (.pair .bool (.pair (.aZ (.ext 5)) (.pair (.aZ (.ext 6)) (.pair (.aZ (.ext 8)) (.pair (.aZ (.ext 4)) (.pair (.aZ (.ext 9)) .unit)))))))))
 | 5=>(.pair (.int .i64) (.pair .str (.pair (.ext 6) .unit)))
 | 6=>(.pair (.int .i64) (.pair (.aZ (.ext 7)) .unit))
 | 7=>(.pair (.int .i64) (.pair .str (.pair (.int .i64) (.pair .bool (.pair (.aZ (.ext 7)) .unit)))))
 | 8=>(.pair (.int .i64) (.pair (.int .i64) (.pair (.int .i64) (.pair (.ext 6) .unit))))
 | 9=>(.pair (.aZ (.ext 6)) (.pair (.aZ (.ext 4)) .unit))
 | 10=>(.pair .str (.pair .str .unit))
 | 11=>(.pair (.int .i64) (.pair .str .unit))
 | 12=>(.pair (.int .i64) (.pair (.int .i64) .unit))
 | 13=>(.pair .str (.pair .bool (.pair .str .unit)))
 | 14=>(.pair .str (.pair (.int .i64) .unit))
 | 15=>(.pair (.aZ (.ext 7)) (.pair (.int .i64) (.pair (.int .i64) .unit)))
 | 16=>(.pair (.ext 1) (.pair (.aZ (.ext 14)) (.pair (.int .i64) (.pair (.int .i64) (.pair (.int .i64) (.pair .str (.pair .bool (.pair .str .unit))))))))
 | 17=>(.pair .str (.pair (.int .i64) .unit))
 | 18=>(.pair .bool (.pair .bool (.pair .bool .unit)))
 | 19=>(.pair (.int .i64) (.pair (.int .i64) (.pair .str (.pair (.aZ (.ext 19)) .unit))))
 | 20=>(.pair .str (.pair (.int .i64) (.pair (.int .i64) (.pair (.int .i64) .unit))))
 | 21=>(.pair (.int .u8) (.pair .bool .unit))
 | 22=>(.pair (.int .i64) (.pair .str (.pair .bool (.pair (.aZ (.ext 23)) .unit))))
 | 23=>(.pair (.int .u8) (.pair (.int .u8) .unit))
 | 24=>(.pair .str (.pair (.aZ (.ext 23)) .unit))
 | 25=>(.pair .str (.pair (.int .i64) (.pair (.int .i64) .unit)))
 | 26=>(.pair (.ext 1) (.pair (.aZ (.ext 13)) (.pair (.aZ (.ext 14)) (.pair (.int .i64) (.pair .bool (.pair .str (.pair .str (.pair (.int .i64) .unit))))))))
 | 27=>(.pair .bool (.pair .bool (.pair (.int .i64) .unit)))
 | 28=>(.pair (.int .i64) (.pair (.int .i64) .unit))
 | 29=>(.pair (.int .i64) (.pair (.int .i64) (.pair .str .unit)))
 | 30=>(.pair .str (.pair (.ext 29) .unit))
 | 31=>(.pair .str (.pair (.int .i64) (.pair (.int .i64) .unit)))
 | 32=>(.pair (.int .u8) (.pair .bool .unit))
 | 33=>(.pair .str (.pair (.int .i64) .unit))
 | 34=>(.pair (.int .i64) (.pair .str .unit))
 | 35=>(.pair .str (.pair (.aZ (.ext 22)) (.pair .bool .unit)))
 | 36=>(.pair (.aZ .str) (.pair (.ext 1) (.pair .bool (.pair .str (.pair .str (.pair (.int .i64) .unit))))))
 | _+37=>.unit
def aoH:Nat->Nat
 | 0=>18
 | 1=>15
 | 2=>5
 | 3=>10
 | 4=>9
 | 5=>4
 | 6=>2
 | 7=>5
 | 8=>5
 | 9=>2
 | 10=>2
 | 11=>2
 | 12=>2
 | 13=>3
 | 14=>2
 | 15=>3
 | 16=>22
 | 17=>2
 | 18=>3
 | 19=>4
 | 20=>4
 | 21=>2
 | 22=>4
 | 23=>2
 | 24=>2
 | 25=>3
 | 26=>22
 | 27=>3
 | 28=>2
 | 29=>3
 | 30=>4
 | 31=>3
 | 32=>2
 | 33=>2
 | 34=>2
 | 35=>3
 | 36=>20
 | _+37=>0
def apN:(i:Nat)->ED i->J DV
 | 0,x=>Uq x
 | 1,x=>yo x
 | 2,x=>Bj x
 | 3,x=>yl x
 | 4,x=>nE x
 | 5,x=>sK x
 | 6,x=>qx x
 | 7,x=>lu x
 | 8,x=>uG x
 | 9,x=>qy x
 | 10,x=>uH x
 | 11,x=>ym x
 | 12,x=>zm x
 | 13,x=>uI x
 | 14,x=>oc x
 | 15,x=>afh x
 | 16,x=>ahd x
 | 17,x=>alh x
 | 18,x=>ahe x
 | 19,x=>F6 x
 | 20,x=>afi x
 | 21,x=>abV x
 | 22,x=>Qg x
 | 23,x=>Q8 x
 | 24,x=>ahf x
 | 25,x=>aax x
 | 26,x=>aay x
 | 27,x=>ajg x
 | 28,x=>ahg x
 | 29,x=>Wy x
 | 30,x=>afk x
 | 31,x=>afl x
 | 32,x=>aji x
 | 33,x=>W4 x
 | 34,x=>afm x
 | 35,x=>W5 x
 | 36,x=>W6 x
 | _+37,_=>[]
def apO:(i:Nat)->ED i->(Edf i).den ED
 | 0,(x:uy)=>(x.nG,(x.oW,(x.Jb,(x.jE,()))))
 | 1,(x:dX)=>(x.fName,(x.bR,(x.cD,(x.tf,(x.nF,(x.tg,(x.iu,(x.fC,(x.Bo,(x.oa,(x.J8,(x.vA,(x.Ja,(x.Tz,()))))))))))))))
 | 2,(x:bC)=>(x.fName,(x.bK,(x.cH,(x.tQ,(x.kU,())))))
 | 3,(x:xI)=>(x.fName,(x.fBody,()))
 | 4,(x:TNode)=>(x.fKind,(x.fPos,(x.fName,(x.fAll,(x.fAssigns,(x.fWords,(x.fRedirs,(x.fKids,(x.fItems,())))))))))
 | 5,(x:q9)=>(x.fPos,(x.fName,(x.bK,())))
 | 6,(x:iE)=>(x.fPos,(x.fParts,()))
 | 7,(x:TPart)=>(x.fKind,(x.fText,(x.fOp,(x.fColon,(x.fParts,())))))
 | 8,(x:uF)=>(x.fPos,(x.fFd,(x.fOp,(x.Uk,()))))
 | 9,(x:TItem)=>(x.fPatterns,(x.fBody,()))
 | 10,(x:b8)=>(x.fName,(x.bK,()))
 | 11,(x:zl)=>(x.ahL,(x.Un,()))
 | 12,(x:lN)=>(x.I8,(x.Fa,()))
 | 13,(x:bu)=>(x.bW,(x.nH,(x.fData,())))
 | 14,(x:ga)=>(x.fText,(x.fC,()))
 | 15,(x:dV)=>(x.fParts,(x.RO,(x.fE,())))
 | 16,(x:aY)=>(x.cm,(x.ec,(x.fused,(x.jz,(x.fe,(x.eV,(x.kI,(x.sX,()))))))))
 | 17,(x:aH)=>(x.fText,(x.bO,()))
 | 18,(x:cZ)=>(x.eW,(x.BP,(x.jU,())))
 | 19,(x:TExpr)=>(x.fOp,(x.fN,(x.fName,(x.fKids,()))))
 | 20,(x:Fh)=>(x.fs,(x.Wx,(x.fe,(x.NU,()))))
 | 21,(x:fA)=>(x.fb,(x.ke,()))
 | 22,(x:aF)=>(x.fKind,(x.fText,(x.Br,(x.cH,()))))
 | 23,(x:bS)=>(x.pT,(x.jO,()))
 | 24,(x:lB)=>(x.fname,(x.rj,()))
 | 25,(x:cJ)=>(x.fD,(x.mg,(x.uh,())))
 | 26,(x:aM)=>(x.cm,(x.TA,(x.ec,(x.jz,(x.kI,(x.sX,(x.eV,(x.yB,()))))))))
 | 27,(x:dh)=>(x.eW,(x.jU,(x.mg,())))
 | 28,(x:dz)=>(x.Wx,(x.yB,()))
 | 29,(x:eX)=>(x.uh,(x.NU,(x.fD,())))
 | 30,(x:Fi)=>(x.fs,(x.U8,()))
 | 31,(x:gN)=>(x.Ff,(x.NH,(x.fop,())))
 | 32,(x:eA)=>(x.fb,(x.ke,()))
 | 33,(x:cK)=>(x.fD,(x.mg,()))
 | 34,(x:dD)=>(x.HF,(x.HG,()))
 | 35,(x:bA)=>(x.fD,(x.qz,(x.qA,())))
 | 36,(x:eD)=>(x.vX,(x.nG,(x.TB,(x.TC,(x.F7,(x.fC,()))))))
 | _+37,_=>()
def aoI:(i:Nat)->(Edf i).den ED->ED i
 | 0,x=>uy.mk x.1 x.2.1 x.2.2.1 x.2.2.2.1
 | 1,x=>dX.mk x.1 x.2.1 x.2.2.1 x.2.2.2.1 x.2.2.2.2.1 x.2.2.2.2.2.1 x.2.2.2.2.2.2.1 x.2.2.2.2.2.2.2.1 x.2.2.2.2.2.2.2.2.1 x.2.2.2.2.2.2.2.2.2.1 x.2.2.2.2.2.2.2.2.2.2.1 x.2.2.2.2.2.2.2.2.2.2.2.1 x.2.2.2.2.2.2.2.2.2.2.2.2.1 x.2.2.2.2.2.2.2.2.2.2.2.2.2.1
 | 2,x=>bC.mk x.1 x.2.1 x.2.2.1 x.2.2.2.1 x.2.2.2.2.1
 | 3,x=>xI.mk x.1 x.2.1
 | 4,x=>TNode.mk x.1 x.2.1 x.2.2.1 x.2.2.2.1 x.2.2.2.2.1 x.2.2.2.2.2.1 x.2.2.2.2.2.2.1 x.2.2.2.2.2.2.2.1 x.2.2.2.2.2.2.2.2.1
 | 5,x=>q9.mk x.1 x.2.1 x.2.2.1
 | 6,x=>iE.mk x.1 x.2.1
 | 7,x=>TPart.mk x.1 x.2.1 x.2.2.1 x.2.2.2.1 x.2.2.2.2.1
 | 8,x=>uF.mk x.1 x.2.1 x.2.2.1 x.2.2.2.1
 | 9,x=>TItem.mk x.1 x.2.1
 | 10,x=>b8.mk x.1 x.2.1
 | 11,x=>zl.mk x.1 x.2.1
 | 12,x=>lN.mk x.1 x.2.1
 | 13,x=>bu.mk x.1 x.2.1 x.2.2.1
 | 14,x=>ga.mk x.1 x.2.1
 | 15,x=>dV.mk x.1 x.2.1 x.2.2.1
 | 16,x=>aY.mk x.1 x.2.1 x.2.2.1 x.2.2.2.1 x.2.2.2.2.1 x.2.2.2.2.2.1 x.2.2.2.2.2.2.1 x.2.2.2.2.2.2.2.1
 | 17,x=>aH.mk x.1 x.2.1
 | 18,x=>cZ.mk x.1 x.2.1 x.2.2.1
 | 19,x=>TExpr.mk x.1 x.2.1 x.2.2.1 x.2.2.2.1
 | 20,x=>Fh.mk x.1 x.2.1 x.2.2.1 x.2.2.2.1
 | 21,x=>fA.mk x.1 x.2.1
 | 22,x=>aF.mk x.1 x.2.1 x.2.2.1 x.2.2.2.1
 | 23,x=>bS.mk x.1 x.2.1
 | 24,x=>lB.mk x.1 x.2.1
 | 25,x=>cJ.mk x.1 x.2.1 x.2.2.1
 | 26,x=>aM.mk x.1 x.2.1 x.2.2.1 x.2.2.2.1 x.2.2.2.2.1 x.2.2.2.2.2.1 x.2.2.2.2.2.2.1 x.2.2.2.2.2.2.2.1
 | 27,x=>dh.mk x.1 x.2.1 x.2.2.1
 | 28,x=>dz.mk x.1 x.2.1
 | 29,x=>eX.mk x.1 x.2.1 x.2.2.1
 | 30,x=>Fi.mk x.1 x.2.1
 | 31,x=>gN.mk x.1 x.2.1 x.2.2.1
 | 32,x=>eA.mk x.1 x.2.1
 | 33,x=>cK.mk x.1 x.2.1
 | 34,x=>dD.mk x.1 x.2.1
 | 35,x=>bA.mk x.1 x.2.1 x.2.2.1
 | 36,x=>eD.mk x.1 x.2.1 x.2.2.1 x.2.2.2.1 x.2.2.2.2.1 x.2.2.2.2.2.1
 | _+37,_=>()
def apP:(i:Nat)->ED i
 | 0=>ajN
 | 1=>I9
 | 2=>dP
 | 3=>afL
 | 4=>Yo
 | 5=>Ym
 | 6=>wS
 | 7=>kO
 | 8=>acd
 | 9=>afK
 | 10=>p4
 | 11=>afM
 | 12=>J7
 | 13=>bP
 | 14=>Bp
 | 15=>aje
 | 16=>alg
 | 17=>cx
 | 18=>ali
 | 19=>dn
 | 20=>ajf
 | 21=>iI
 | 22=>fK
 | 23=>fY
 | 24=>oJ
 | 25=>ov
 | 26=>afj
 | 27=>ang
 | 28=>alj
 | 29=>acO
 | 30=>ajh
 | 31=>yy
 | 32=>cq
 | 33=>qF
 | 34=>ajj
 | 35=>IE
 | 36=>abW
 | _+37=>()
def Egb(b:Nat):O (aI Value->Prop):=cond (Nat.beq b 1) (some (fun cs=>cs=(Lib.pow10Tab.map fun z=>Value.int .u64 z).toArray)) (cond (Nat.beq b 0) (some (fun cs=>∃m,cs[0]? = some (Value.int .i64 m))) none)
def Eyd(y:Nat)(Y:YD):Prop:=cond (Nat.beq y 3000000) (Y=Ta 1 Tryz.f63 [true,true,true,true,false,true]) (False)
def ajk(y:Nat):O Nat:=cond (Nat.beq y 3000000) (some 1) (none)
def Ezc(e:aC):Bool:=(!(Nat.beq e 449)&&(!(Nat.beq e 448)&&(!(Nat.beq e 6)&&(!(Nat.beq e 5)&&true))))
def E:TEnv:=⟨ED,Edf,aoH,apN,apO,aoI,apP,Egb,Eyd,ajk,Ezc⟩
theorem gp:∀(i:Nat)(x:E.D i),E.enc i x=(E.df i).cells E (E.zA i x)
 | 0,x=>by kernel_rfl
 | 1,x=>by kernel_rfl
 | 2,x=>rfl
 | 3,x=>by cases x with|mk y0 y1=>cases y1;kernel_rfl
 | 4,x=>by cases x;show nE _=_;simp only [nE,tc,td];rfl
 | 5,x=>by kernel_rfl
 | 6,x=>rfl
 | 7,x=>by cases x;show lu _=_;simp only [lu,Dd];rfl
 | 8,x=>by kernel_rfl
 | 9,x=>by cases x;show qy _=_;simp only [qy,tc,td];rfl
 | 10,x=>rfl
 | 11,x=>rfl
 | 12,x=>rfl
 | 13,x=>rfl
 | 14,x=>rfl
 | 15,x=>rfl
 | 16,x=>by kernel_rfl
 | 17,x=>rfl
 | 18,x=>rfl
 | 19,x=>by cases x;show F6 _=_;simp only [F6,Lv];rfl
 | 20,x=>rfl
 | 21,x=>rfl
 | 22,x=>rfl
 | 23,x=>rfl
 | 24,x=>rfl
 | 25,x=>rfl
 | 26,x=>by kernel_rfl
 | 27,x=>rfl
 | 28,x=>rfl
 | 29,x=>rfl
 | 30,x=>by kernel_rfl
 | 31,x=>rfl
 | 32,x=>rfl
 | 33,x=>rfl
 | 34,x=>rfl
 | 35,x=>rfl
 | 36,x=>by kernel_rfl
 | _+37,_=>rfl
theorem anh:∀(i:Nat)(y:(E.df i).den E.D),E.zA i (E.fold i y)=y
 | 0,_=>rfl
 | 1,_=>rfl
 | 2,_=>rfl
 | 3,_=>rfl
 | 4,_=>rfl
 | 5,_=>rfl
 | 6,_=>rfl
 | 7,_=>rfl
 | 8,_=>rfl
 | 9,_=>rfl
 | 10,_=>rfl
 | 11,_=>rfl
 | 12,_=>rfl
 | 13,_=>rfl
 | 14,_=>rfl
 | 15,_=>rfl
 | 16,_=>rfl
 | 17,_=>rfl
 | 18,_=>rfl
 | 19,_=>rfl
 | 20,_=>rfl
 | 21,_=>rfl
 | 22,_=>rfl
 | 23,_=>rfl
 | 24,_=>rfl
 | 25,_=>rfl
 | 26,_=>rfl
 | 27,_=>rfl
 | 28,_=>rfl
 | 29,_=>rfl
 | 30,_=>rfl
 | 31,_=>rfl
 | 32,_=>rfl
 | 33,_=>rfl
 | 34,_=>rfl
 | 35,_=>rfl
 | 36,_=>rfl
 | _+37,_=>rfl
theorem ani:∀(i:Nat),E.size i=(E.df i).size E
 | 0=>rfl
 | 1=>rfl
 | 2=>rfl
 | 3=>rfl
 | 4=>rfl
 | 5=>rfl
 | 6=>rfl
 | 7=>rfl
 | 8=>rfl
 | 9=>rfl
 | 10=>rfl
 | 11=>rfl
 | 12=>rfl
 | 13=>rfl
 | 14=>rfl
 | 15=>rfl
 | 16=>rfl
 | 17=>rfl
 | 18=>rfl
 | 19=>rfl
 | 20=>rfl
 | 21=>rfl
 | 22=>rfl
 | 23=>rfl
 | 24=>rfl
 | 25=>rfl
 | 26=>rfl
 | 27=>rfl
 | 28=>rfl
 | 29=>rfl
 | 30=>rfl
 | 31=>rfl
 | 32=>rfl
 | 33=>rfl
 | 34=>rfl
 | 35=>rfl
 | 36=>rfl
 | _+37=>rfl
theorem aoJ:∀(i:Nat)(x:E.D i),(E.enc i x).length=E.size i
 | 0,x=>by rw [gp];rfl
 | 1,x=>by rw [gp];rfl
 | 2,x=>by rw [gp];rfl
 | 3,x=>by rw [gp];cases x with|mk y0 y1=>cases y1;rfl
 | 4,x=>by rw [gp];rfl
 | 5,x=>by rw [gp];rfl
 | 6,x=>by rw [gp];rfl
 | 7,x=>by rw [gp];rfl
 | 8,x=>by rw [gp];rfl
 | 9,x=>by rw [gp];rfl
 | 10,x=>by rw [gp];rfl
 | 11,x=>by rw [gp];rfl
 | 12,x=>by rw [gp];rfl
 | 13,x=>by rw [gp];rfl
 | 14,x=>by rw [gp];rfl
 | 15,x=>by rw [gp];rfl
 | 16,x=>by rw [gp];rfl
 | 17,x=>by rw [gp];rfl
 | 18,x=>by rw [gp];rfl
 | 19,x=>by rw [gp];rfl
 | 20,x=>by rw [gp];rfl
 | 21,x=>by rw [gp];rfl
 | 22,x=>by rw [gp];rfl
 | 23,x=>by rw [gp];rfl
 | 24,x=>by rw [gp];rfl
 | 25,x=>by rw [gp];rfl
 | 26,x=>by rw [gp];rfl
 | 27,x=>by rw [gp];rfl
 | 28,x=>by rw [gp];rfl
 | 29,x=>by rw [gp];rfl
 | 30,x=>by rw [gp];rfl
 | 31,x=>by rw [gp];rfl
 | 32,x=>by rw [gp];rfl
 | 33,x=>by rw [gp];rfl
 | 34,x=>by rw [gp];rfl
 | 35,x=>by rw [gp];rfl
 | 36,x=>by rw [gp];rfl
 | _+37,_=>rfl
theorem aoK:∀(y:Nat)(Y:YD)(n:Nat),E.yd y Y->E.ydn y=some n->Y.params.size=n:=by
 intro y Y n h1 h2;have h1:Eyd y Y:=h1;have h2:ajk y=some n:=h2;unfold Eyd at h1;unfold ajk at h2;by_cases hb0:Nat.beq y 3000000=true
 ·rw [hb0,bf] at h1 h2
  rw [h1];exact (uv h2)▸(show (Ta 1 Tryz.f63 [true,true,true,true,false,true]).params.size=1 by kernel_rfl)
 rw [Bool.not_eq_true] at hb0;rw [hb0,aO] at h1 h2;exact h1.elim
theorem Db:E.Ok:=⟨gp,anh,ani,aoJ,aoK⟩
def GZ:aC->O Ty:=fun t=>(([(3,(.int .i64)),(4,.bool),(5,(.int .u8)),(9,.str),(21,(.int .i32)),(22,(.aZ (.ext 2))),(23,(.aZ .str)),(24,(.aZ (.ext 3))),(25,(.aZ (.ext 10))),(26,(.aZ (.ext 11))),(27,(.ext 12)),(28,(.ext 12)),(29,(.ext 1)),(30,(.ext 1)),(31,(.aZ (.ext 13))),(32,(.aZ (.ext 14))),(33,(.ext 0)),(34,(.ext 0)),(35,(.aZ (.ext 6))),(39,(.aZ (.ext 17))),(40,(.ext 36)),(41,(.ext 36)),(42,(.int .i64)),(45,(.aZ (.ext 7))),(46,(.ext 6)),(47,(.ext 6)),(55,(.ext 14)),(56,(.ext 14)),(60,(.ext 2)),(61,(.ext 2)),(62,(.ext 13)),(63,(.ext 13)),(79,(.ext 18)),(80,(.ext 18)),(84,(.ext 17)),(85,(.ext 17)),(92,(.aZ (.aZ (.ext 17)))),(95,(.ext 16)),(96,(.ext 16)),(102,(.ext 27)),(103,(.ext 27)),(104,(.ext 26)),(105,(.ext 26)),(108,(.aZ (.int .u8))),(118,(.ext 7)),(119,(.ext 7)),(122,(.ext 15)),(123,(.ext 15)),(127,(.aZ (.aZ (.ext 25)))),(129,(.aZ (.ext 25))),(136,(.aZ (.ext 22))),(145,(.ext 10)),(146,(.ext 10)),(148,(.ext 11)),(149,(.ext 11)),(151,(.aZ (.ext 5))),(152,(.aZ (.ext 8))),(153,(.aZ (.ext 4))),(154,(.aZ (.ext 9))),(155,(.ext 4)),(156,(.ext 4)),(157,(.ext 3)),(158,(.ext 3)),(170,(.ext 25)),(171,(.ext 25)),(174,(.aZ (.ext 23))),(175,(.ext 22)),(176,(.ext 22)),(178,(.aZ (.ext 21))),(183,(.ext 21)),(184,(.ext 21)),(187,(.aZ (.aZ (.ext 33)))),(189,(.aZ (.ext 33))),(195,(.aZ (.ext 35))),(201,(.ext 35)),(202,(.ext 35)),(210,(.ext 5)),(211,(.ext 5)),(215,(.ext 8)),(216,(.ext 8)),(219,(.ext 9)),(220,(.ext 9)),(222,(.aZ (.ext 10))),(223,(.ext 10)),(244,(.ext 33)),(245,(.ext 33)),(253,(.aZ (.ext 32))),(257,(.ext 32)),(258,(.ext 32)),(261,(.ext 34)),(262,(.ext 34)),(272,(.aZ (.ext 19))),(273,(.ext 19)),(274,(.ext 19)),(282,(.int .u64)),(288,(.ext 23)),(289,(.ext 23)),(290,(.aZ (.ext 24))),(292,(.ext 24)),(293,(.ext 24)),(330,(.ext 20)),(331,(.ext 20)),(339,(.aZ .bool)),(360,(.ext 28)),(361,(.ext 28)),(364,(.ext 29)),(365,(.ext 29)),(367,(.ext 30)),(368,(.ext 30)),(409,ahc),(421,(.aZ (.ext 31))),(423,(.ext 31)),(424,(.ext 31))]:J (Nat×Ty)).find? fun p=>Nat.beq p.1 t).map (·.2)
theorem mixed:Tryz.prog.follows .mixedOrders=true:=by kernel_rfl
noncomputable abbrev pg:=Tryz.prog
set_option maxRecDepth 100000 in
theorem cY{Γ:J (bB E)}{C:bB E}{fn:Func}(F:Nat)(pl:fG)(hΓ:∀C'∈Γ,C'.Ok pg)(hf:pg.funcs[C.s.f]? = some fn)(hn:(fn.name == "runtime.NumGoroutine")=false:=by kernel_rfl)(h:∀x,ZT ⟨pg,GZ,Γ,[],none⟩ F C.s fn pl x=C.m x:=by intro x;kernel_rfl):C.Ok pg:=bB.X7 (X:=⟨pg,GZ,Γ,[],none⟩) (F:=F) ⟨Db,hΓ,mixed,goN,PA⟩ (pl:=pl) hf hn h
theorem rQ{C:bB E}(h:∀x,C.m x=none):C.Ok pg:=fun x y e=>nomatch (h x).symm.trans e
abbrev lf:fG:=.leaf
abbrev qs(a b:fG):fG:=.seq [] none a b
abbrev qa(b:fG):fG:=.seq [] none .leaf b
def dp(l:J Int):J (Nat×Bool):=l.map fun
 | .ofNat n=>(n,true)
 | .negSucc n=>(n,false)
abbrev Bs:=J UInt8
abbrev u2{a b c:Type}(q:a->b->c)(x:a×b):c:=q x.1 x.2
abbrev u3{a b c d:Type}(q:a->b->c->d)(x:a×b×c):d:=q x.1 x.2.1 x.2.2
abbrev u4{a b c d e:Type}(q:a->b->c->d->e)(x:a×b×c×d):e:=q x.1 x.2.1 x.2.2.1 x.2.2.2
abbrev u5{a b c d e f:Type}(q:a->b->c->d->e->f)(x:a×b×c×d×e):f:=q x.1 x.2.1 x.2.2.1 x.2.2.2.1 x.2.2.2.2
abbrev u6{a b c d e f g:Type}(q:a->b->c->d->e->f->g)(x:a×b×c×d×e×f):g:=q x.1 x.2.1 x.2.2.1 x.2.2.2.1 x.2.2.2.2.1 x.2.2.2.2.2
abbrev u7{a b c d e f g h:Type}(q:a->b->c->d->e->f->g->h)(x:a×b×c×d×e×f×g):h:=q x.1 x.2.1 x.2.2.1 x.2.2.2.1 x.2.2.2.2.1 x.2.2.2.2.2.1 x.2.2.2.2.2.2
abbrev u8{a b c d e f g h i:Type}(q:a->b->c->d->e->f->g->h->i)(x:a×b×c×d×e×f×g×h):i:=q x.1 x.2.1 x.2.2.1 x.2.2.2.1 x.2.2.2.2.1 x.2.2.2.2.2.1 x.2.2.2.2.2.2.1 x.2.2.2.2.2.2.2
abbrev oE(n:Nat):PT:=.one (.dat (.ext n))
abbrev oL(n:Nat):PT:=.one (.dat (.aZ (.ext n)))
abbrev oB:PT:=.one (.dat .bool)
abbrev oI:PT:=.one (.dat (.int .i64))
abbrev oU:PT:=.one (.dat (.int .u64))
abbrev oS:PT:=.one (.dat .str)
abbrev oT:PT:=.one (.dat (.aZ .str))
def sh(f:Nat)(a:J PT)(r:PT):cN:=⟨f,a,[],[],⟨r,[],[],[]⟩,none,[]⟩
def ct(l:J (Nat×PT)):Cut:=⟨l,[],[],[]⟩
def rb(a b:Nat):Nat×Cut×Bool:=(a,ct [(b,oB)],false)
def ro(a b:Nat)(t:PT):Nat×Cut×Bool:=(a,ct [(b,t)],false)
def zW{A:Type}(_:A):Prop:=True
abbrev WQ(A:Type):=∀ {v:A},zW v->A
section
variable {A R S : Type} {x y : O R} {e : O A} {k : A -> O R} {b : Bool}
theorem ws(x:R):zW (some x):=trivial
theorem wn:zW (none (α:=R)):=trivial
theorem ww(x:O R):zW x:=trivial
theorem wc(b:Bool)(_:zW x)(_:zW y):zW (cond b x y):=trivial
theorem wo(b:Bool){x:O Bool}(_:zW x):zW (cond b (some true) x):=trivial
theorem wa(b:Bool){x:O Bool}(_:zW x):zW (cond b x (some false)):=trivial
theorem wq(b:Bool)(_:zW x):zW (rq b x):=trivial
theorem wg(i:Int)(l:J A)(_:zW x):zW (rq (decide (0<=i)&&decide (i<l.length)) x):=trivial
theorem wi(l:J A)(i:Int)(d:A)(_:∀v,zW (k v)):zW (rq (decide (0<=i)&&decide (i<l.length)) (k (l.getD i.toNat d))):=trivial
theorem wb(e:O A)(_:∀v,zW (k v)):zW (e.bind k):=trivial
theorem wm(e:O A):zW (e.bind fun x=>some x):=trivial
theorem jA(_:zW e):zW (e.bind fun x=>some x):=trivial
theorem wv(_:zW e)(_:∀v,zW (k v)):zW (e.bind k):=trivial
theorem wu(A:Type){e:O A}{k:A->O R}(_:zW e)(_:∀v,zW (k v)):zW (e.bind k):=trivial
theorem wl(S:Type){f:(S->O R)->S->O R}(_:∀k v,zW (f k v))(F:Nat)(s:S):zW (bV f F s):=trivial
theorem wt(a:A)(_:∀v,zW (k v)):zW (k a):=trivial
theorem wp(m:Nat)(l r:J A){k:J A->O R}(_:∀v,zW (k v)):zW (rq (decide (l.length+r.length<=9223372036854775807)&&decide ((l.length+r.length)*m<=140737488355328)) (k (l++r))):=trivial
theorem wj(l r:J A){k:J A->O R}(_:∀v,zW (k v)):zW (rq (decide (l.length+r.length<=9223372036854775807)) (k (l++r))):=trivial
end
section
variable {R : Type}
variable {A0 A1 : Type}
theorem dm(e:O (A0×A1)){k:A0->A1->O R}(_:∀a b,zW (k a b)):zW (e.bind fun x=>k x.1 x.2):=trivial
theorem we{e:O (A0×A1)}{k:A0->A1->O R}(_:zW e)(_:∀a b,zW (k a b)):zW (e.bind fun x=>k x.1 x.2):=trivial
theorem wu2(A0 A1:Type){e:O (A0×A1)}{k:A0->A1->O R}(_:zW e)(_:∀a b,zW (k a b)):zW (e.bind fun x=>k x.1 x.2):=trivial
theorem gJ(A0 A1:Type){f:((A0×A1)->O R)->A0->A1->O R}(_:∀k a b,zW (f k a b))(F:Nat)(s:A0×A1):zW (bV (fun k x=>f k x.1 x.2) F s):=trivial
variable {A2 : Type}
theorem mh(e:O (A0×A1×A2)){k:A0->A1->A2->O R}(_:∀a b c,zW (k a b c)):zW (e.bind fun x=>k x.1 x.2.1 x.2.2):=trivial
theorem Lw{e:O (A0×A1×A2)}{k:A0->A1->A2->O R}(_:zW e)(_:∀a b c,zW (k a b c)):zW (e.bind fun x=>k x.1 x.2.1 x.2.2):=trivial
theorem tD(A0 A1 A2:Type){f:((A0×A1×A2)->O R)->A0->A1->A2->O R}(_:∀k a b c,zW (f k a b c))(F:Nat)(s:A0×A1×A2):zW (bV (fun k x=>f k x.1 x.2.1 x.2.2) F s):=trivial
variable {A3 : Type}
theorem Lx(e:O (A0×A1×A2×A3)){k:A0->A1->A2->A3->O R}(_:∀a b c d,zW (k a b c d)):zW (e.bind fun x=>k x.1 x.2.1 x.2.2.1 x.2.2.2):=trivial
theorem wv4{e:O (A0×A1×A2×A3)}{k:A0->A1->A2->A3->O R}(_:zW e)(_:∀a b c d,zW (k a b c d)):zW (e.bind fun x=>k x.1 x.2.1 x.2.2.1 x.2.2.2):=trivial
theorem wl4(A0 A1 A2 A3:Type){f:((A0×A1×A2×A3)->O R)->A0->A1->A2->A3->O R}(_:∀k a b c d,zW (f k a b c d))(F:Nat)(s:A0×A1×A2×A3):zW (bV (fun k x=>f k x.1 x.2.1 x.2.2.1 x.2.2.2) F s):=trivial
variable {A4 : Type}
theorem yT(e:O (A0×A1×A2×A3×A4)){k:A0->A1->A2->A3->A4->O R}(_:∀a b c d e,zW (k a b c d e)):zW (e.bind fun x=>k x.1 x.2.1 x.2.2.1 x.2.2.2.1 x.2.2.2.2):=trivial
theorem wv5{e:O (A0×A1×A2×A3×A4)}{k:A0->A1->A2->A3->A4->O R}(_:zW e)(_:∀a b c d e,zW (k a b c d e)):zW (e.bind fun x=>k x.1 x.2.1 x.2.2.1 x.2.2.2.1 x.2.2.2.2):=trivial
variable {A5 : Type}
theorem wb6(e:O (A0×A1×A2×A3×A4×A5)){k:A0->A1->A2->A3->A4->A5->O R}(_:∀a b c d e g,zW (k a b c d e g)):zW (e.bind fun x=>k x.1 x.2.1 x.2.2.1 x.2.2.2.1 x.2.2.2.2.1 x.2.2.2.2.2):=trivial
variable {A6 : Type}
theorem wl7(A0 A1 A2 A3 A4 A5 A6:Type){f:((A0×A1×A2×A3×A4×A5×A6)->O R)->A0->A1->A2->A3->A4->A5->A6->O R}(_:∀k a b c d e g h,zW (f k a b c d e g h))(F:Nat)(s:A0×A1×A2×A3×A4×A5×A6):zW (bV (fun k x=>f k x.1 x.2.1 x.2.2.1 x.2.2.2.1 x.2.2.2.2.1 x.2.2.2.2.2.1 x.2.2.2.2.2.2) F s):=trivial
variable {A7 : Type}
theorem wl8(A0 A1 A2 A3 A4 A5 A6 A7:Type){f:((A0×A1×A2×A3×A4×A5×A6×A7)->O R)->A0->A1->A2->A3->A4->A5->A6->A7->O R}(_:∀k a b c d e g h i,zW (f k a b c d e g h i))(F:Nat)(s:A0×A1×A2×A3×A4×A5×A6×A7):zW (bV (fun k x=>f k x.1 x.2.1 x.2.2.1 x.2.2.2.1 x.2.2.2.2.1 x.2.2.2.2.2.1 x.2.2.2.2.2.2.1 x.2.2.2.2.2.2.2) F s):=trivial
variable {A8 : Type}
end
end Go.Proofs.YtjgkapeknmdedaaGreatDoor
