import Derived.Test.YteagcbkkonabbaaGreatDoorRi
import Derived.Test.YteagcbkkonabbaaGreatDoorSh
import Derived.Test.YteagcbkkonabbaaGreatDoorChecked
import Derived.KernelRfl
namespace Go.Proofs.YteagcbkkonabbaaGreatDoor
open Go.RT
set_option linter.unusedVariables false
abbrev tAinti648 : Ty := (.pair (.int .i64) (.pair (.int .i64) (.pair (.int .i64) (.pair (.int .i64) (.pair (.int .i64) (.pair (.int .i64) (.pair (.int .i64) (.pair (.int .i64) .unit))))))))
abbrev TAinti648 := (Int × (Int × (Int × (Int × (Int × (Int × (Int × (Int × Unit))))))))
structure TUtil where
  fName : List UInt8
  fArgs : List (List UInt8)
  fEnv : List (List UInt8)
  fState : Int
  fN : Int
  fBuf : List UInt8
  fLines : List (List UInt8)
  fOut : List UInt8
  deriving Inhabited, DecidableEq
def dTUtil : TUtil := .mk [] [] [] 0 0 [] [] []
def encTUtil (v : TUtil) : List DV := ([.str v.fName]) ++ ([.slice 1 (v.fArgs.map (fun v => [.str v]))]) ++ ([.slice 1 (v.fEnv.map (fun v => [.str v]))]) ++ ([.int .i64 v.fState]) ++ ([.int .i64 v.fN]) ++ ([.str v.fBuf]) ++ ([.slice 1 (v.fLines.map (fun v => [.str v]))]) ++ ([.str v.fOut])
structure TAns where
  fErr : Int
  fBlock : Bool
  fN : Int
  fFd : Int
  fFd2 : Int
  fPid : Int
  fStatus : Int
  fData : List UInt8
  fNames : List (List UInt8)
  fDir : Bool
  fSigs : List Int
  deriving Inhabited, DecidableEq
def dTAns : TAns := .mk 0 false 0 0 0 0 0 [] [] false []
def encTAns (v : TAns) : List DV := ([.int .i64 v.fErr]) ++ ([.bool v.fBlock]) ++ ([.int .i64 v.fN]) ++ ([.int .i64 v.fFd]) ++ ([.int .i64 v.fFd2]) ++ ([.int .i64 v.fPid]) ++ ([.int .i64 v.fStatus]) ++ ([.str v.fData]) ++ ([.slice 1 (v.fNames.map (fun v => [.str v]))]) ++ ([.bool v.fDir]) ++ ([.slice 1 (v.fSigs.map (fun v => [.int .i64 v]))])
structure Twords where
  foperands : List (List UInt8)
  fletters : List UInt8
  fcount : Int
  fbad : Bool
  deriving Inhabited, DecidableEq
def dTwords : Twords := .mk [] [] 0 false
def encTwords (v : Twords) : List DV := ([.slice 1 (v.foperands.map (fun v => [.str v]))]) ++ ([.str v.fletters]) ++ ([.int .i64 v.fcount]) ++ ([.bool v.fbad])
structure TReq where
  fOp : Int
  fFd : Int
  fFd2 : Int
  fPid : Int
  fPid2 : Int
  fSig : Int
  fN : Int
  fFlags : Int
  fPath : List UInt8
  fData : List UInt8
  fArgs : List (List UInt8)
  fEnv : List (List UInt8)
  deriving Inhabited, DecidableEq
def dTReq : TReq := .mk 0 0 0 0 0 0 0 0 [] [] [] []
def encTReq (v : TReq) : List DV := ([.int .i64 v.fOp]) ++ ([.int .i64 v.fFd]) ++ ([.int .i64 v.fFd2]) ++ ([.int .i64 v.fPid]) ++ ([.int .i64 v.fPid2]) ++ ([.int .i64 v.fSig]) ++ ([.int .i64 v.fN]) ++ ([.int .i64 v.fFlags]) ++ ([.str v.fPath]) ++ ([.str v.fData]) ++ ([.slice 1 (v.fArgs.map (fun v => [.str v]))]) ++ ([.slice 1 (v.fEnv.map (fun v => [.str v]))])
structure TFile where
  fPath : List UInt8
  fDir : Bool
  fData : List UInt8
  deriving Inhabited, DecidableEq
def dTFile : TFile := .mk [] false []
def encTFile (v : TFile) : List DV := ([.str v.fPath]) ++ ([.bool v.fDir]) ++ ([.str v.fData])
structure Tparser where
  frest : List (List UInt8)
  ffiles : List TFile
  fcwd : List UInt8
  fusage : Bool
  finvalid : Bool
  deriving Inhabited, DecidableEq
def dTparser : Tparser := .mk [] [] [] false false
def encTparser (v : Tparser) : List DV := ([.slice 1 (v.frest.map (fun v => [.str v]))]) ++ ([.slice 3 (v.ffiles.map encTFile)]) ++ ([.str v.fcwd]) ++ ([.bool v.fusage]) ++ ([.bool v.finvalid])
structure TSpan where
  fLow : Int
  fHigh : Int
  deriving Inhabited, DecidableEq
def dTSpan : TSpan := .mk 0 0
def encTSpan (v : TSpan) : List DV := ([.int .u8 v.fLow]) ++ ([.int .u8 v.fHigh])
structure TPatItem where
  fKind : Int
  fText : List UInt8
  fNeg : Bool
  fSet : List TSpan
  deriving Inhabited, DecidableEq
def dTPatItem : TPatItem := .mk 0 [] false []
def encTPatItem (v : TPatItem) : List DV := ([.int .i64 v.fKind]) ++ ([.str v.fText]) ++ ([.bool v.fNeg]) ++ ([.slice 2 (v.fSet.map encTSpan)])
structure TRun where
  fText : List UInt8
  fClass : Int
  deriving Inhabited, DecidableEq
def dTRun : TRun := .mk [] 0
def encTRun (v : TRun) : List DV := ([.str v.fText]) ++ ([.int .i64 v.fClass])
structure Tchar where
  fb : Int
  factive : Bool
  deriving Inhabited, DecidableEq
def dTchar : Tchar := .mk 0 false
def encTchar (v : Tchar) : List DV := ([.int .u8 v.fb]) ++ ([.bool v.factive])
structure Tplayed where
  fout : List UInt8
  fstatus : Int
  fended : Bool
  deriving Inhabited, DecidableEq
def dTplayed : Tplayed := .mk [] 0 false
def encTplayed (v : Tplayed) : List DV := ([.str v.fout]) ++ ([.int .i64 v.fstatus]) ++ ([.bool v.fended])
def ED : Nat → Type
  | 0 => TUtil
  | 1 => TAns
  | 2 => Twords
  | 3 => TReq
  | 4 => TFile
  | 5 => Tparser
  | 6 => TPatItem
  | 7 => TSpan
  | 8 => TRun
  | 9 => Tchar
  | 10 => Tplayed
  | _ + 11 => Unit
def Edf : Nat → Ty
  | 0 => (.pair .str (.pair (.lst .str) (.pair (.lst .str) (.pair (.int .i64) (.pair (.int .i64) (.pair .str (.pair (.lst .str) (.pair .str .unit))))))))
  | 1 => (.pair (.int .i64) (.pair .bool (.pair (.int .i64) (.pair (.int .i64) (.pair (.int .i64) (.pair (.int .i64) (.pair (.int .i64) (.pair .str (.pair (.lst .str) (.pair .bool (.pair (.lst (.int .i64)) .unit)))))))))))
  | 2 => (.pair (.lst .str) (.pair .str (.pair (.int .i64) (.pair .bool .unit))))
  | 3 => (.pair (.int .i64) (.pair (.int .i64) (.pair (.int .i64) (.pair (.int .i64) (.pair (.int .i64) (.pair (.int .i64) (.pair (.int .i64) (.pair (.int .i64) (.pair .str (.pair .str (.pair (.lst .str) (.pair (.lst .str) .unit))))))))))))
  | 4 => (.pair .str (.pair .bool (.pair .str .unit)))
  | 5 => (.pair (.lst .str) (.pair (.lst (.ext 4)) (.pair .str (.pair .bool (.pair .bool .unit)))))
  | 6 => (.pair (.int .i64) (.pair .str (.pair .bool (.pair (.lst (.ext 7)) .unit))))
  | 7 => (.pair (.int .u8) (.pair (.int .u8) .unit))
  | 8 => (.pair .str (.pair (.int .i64) .unit))
  | 9 => (.pair (.int .u8) (.pair .bool .unit))
  | 10 => (.pair .str (.pair (.int .i64) (.pair .bool .unit)))
  | _ + 11 => .unit
def Esize : Nat → Nat
  | 0 => 8
  | 1 => 11
  | 2 => 4
  | 3 => 12
  | 4 => 3
  | 5 => 5
  | 6 => 4
  | 7 => 2
  | 8 => 2
  | 9 => 2
  | 10 => 3
  | _ + 11 => 0
def Eenc : (i : Nat) → ED i → List DV
  | 0, x => encTUtil x
  | 1, x => encTAns x
  | 2, x => encTwords x
  | 3, x => encTReq x
  | 4, x => encTFile x
  | 5, x => encTparser x
  | 6, x => encTPatItem x
  | 7, x => encTSpan x
  | 8, x => encTRun x
  | 9, x => encTchar x
  | 10, x => encTplayed x
  | _ + 11, _ => []
def Eunf : (i : Nat) → ED i → (Edf i).den ED
  | 0, (x : TUtil) => (x.fName, (x.fArgs, (x.fEnv, (x.fState, (x.fN, (x.fBuf, (x.fLines, (x.fOut, ()))))))))
  | 1, (x : TAns) => (x.fErr, (x.fBlock, (x.fN, (x.fFd, (x.fFd2, (x.fPid, (x.fStatus, (x.fData, (x.fNames, (x.fDir, (x.fSigs, ())))))))))))
  | 2, (x : Twords) => (x.foperands, (x.fletters, (x.fcount, (x.fbad, ()))))
  | 3, (x : TReq) => (x.fOp, (x.fFd, (x.fFd2, (x.fPid, (x.fPid2, (x.fSig, (x.fN, (x.fFlags, (x.fPath, (x.fData, (x.fArgs, (x.fEnv, ()))))))))))))
  | 4, (x : TFile) => (x.fPath, (x.fDir, (x.fData, ())))
  | 5, (x : Tparser) => (x.frest, (x.ffiles, (x.fcwd, (x.fusage, (x.finvalid, ())))))
  | 6, (x : TPatItem) => (x.fKind, (x.fText, (x.fNeg, (x.fSet, ()))))
  | 7, (x : TSpan) => (x.fLow, (x.fHigh, ()))
  | 8, (x : TRun) => (x.fText, (x.fClass, ()))
  | 9, (x : Tchar) => (x.fb, (x.factive, ()))
  | 10, (x : Tplayed) => (x.fout, (x.fstatus, (x.fended, ())))
  | _ + 11, _ => ()
def Efold : (i : Nat) → (Edf i).den ED → ED i
  | 0, x => TUtil.mk x.1 x.2.1 x.2.2.1 x.2.2.2.1 x.2.2.2.2.1 x.2.2.2.2.2.1 x.2.2.2.2.2.2.1 x.2.2.2.2.2.2.2.1
  | 1, x => TAns.mk x.1 x.2.1 x.2.2.1 x.2.2.2.1 x.2.2.2.2.1 x.2.2.2.2.2.1 x.2.2.2.2.2.2.1 x.2.2.2.2.2.2.2.1 x.2.2.2.2.2.2.2.2.1 x.2.2.2.2.2.2.2.2.2.1 x.2.2.2.2.2.2.2.2.2.2.1
  | 2, x => Twords.mk x.1 x.2.1 x.2.2.1 x.2.2.2.1
  | 3, x => TReq.mk x.1 x.2.1 x.2.2.1 x.2.2.2.1 x.2.2.2.2.1 x.2.2.2.2.2.1 x.2.2.2.2.2.2.1 x.2.2.2.2.2.2.2.1 x.2.2.2.2.2.2.2.2.1 x.2.2.2.2.2.2.2.2.2.1 x.2.2.2.2.2.2.2.2.2.2.1 x.2.2.2.2.2.2.2.2.2.2.2.1
  | 4, x => TFile.mk x.1 x.2.1 x.2.2.1
  | 5, x => Tparser.mk x.1 x.2.1 x.2.2.1 x.2.2.2.1 x.2.2.2.2.1
  | 6, x => TPatItem.mk x.1 x.2.1 x.2.2.1 x.2.2.2.1
  | 7, x => TSpan.mk x.1 x.2.1
  | 8, x => TRun.mk x.1 x.2.1
  | 9, x => Tchar.mk x.1 x.2.1
  | 10, x => Tplayed.mk x.1 x.2.1 x.2.2.1
  | _ + 11, _ => ()
def Einh : (i : Nat) → ED i
  | 0 => dTUtil
  | 1 => dTAns
  | 2 => dTwords
  | 3 => dTReq
  | 4 => dTFile
  | 5 => dTparser
  | 6 => dTPatItem
  | 7 => dTSpan
  | 8 => dTRun
  | 9 => dTchar
  | 10 => dTplayed
  | _ + 11 => ()
def tab6 : List Int := [0, 1, 56, 2, 57, 49, 28, 3, 61, 58, 42, 50, 38, 29, 17, 4, 62, 47, 59, 36, 45, 43, 51, 22, 53, 39, 33, 30, 24, 18, 12, 5, 63, 55, 48, 27, 60, 41, 37, 16, 46, 35, 44, 21, 52, 32, 23, 11, 54, 26, 40, 15, 34, 20, 31, 10, 25, 14, 19, 9, 13, 8, 7, 6]
def tab5 : List Int := [0, 1, 28, 2, 29, 14, 24, 3, 30, 22, 20, 15, 25, 17, 4, 8, 31, 27, 13, 23, 21, 19, 16, 7, 26, 12, 18, 6, 11, 5, 10, 9]
def tab0 : List (List UInt8) := [[116, 114, 117, 101], [102, 97, 108, 115, 101], [101, 99, 104, 111], [112, 114, 105, 110, 116, 102], [99, 97, 116], [104, 101, 97, 100], [116, 97, 105, 108], [119, 99], [115, 111, 114, 116], [117, 110, 105, 113], [103, 114, 101, 112], [116, 101, 101], [115, 101, 113], [115, 108, 101, 101, 112], [121, 101, 115], [116, 111, 117, 99, 104], [114, 109], [109, 107, 100, 105, 114], [114, 109, 100, 105, 114], [109, 118], [99, 112], [108, 115], [116, 101, 115, 116], [91], [101, 110, 118], [107, 105, 108, 108], [114, 101, 118], [112, 119, 100]]
def Egt (b : Nat) : Option ((t : Ty) × List (t.den ED)) := cond (Nat.beq b 0) (some ⟨.str, tab0⟩) (cond (Nat.beq b 5) (some ⟨(.int .u8), tab5⟩) (cond (Nat.beq b 6) (some ⟨(.int .u8), tab6⟩) none))
def Egb (b : Nat) : Option (Array Value → Prop) := cond (Nat.beq b 1) (some (fun cs => cs = (Lib.pow10Tab.map fun z => Value.int .u64 z).toArray)) (cond (Nat.beq b 4) (some (fun cs => ∃ m, cs[0]? = some (Value.int .i64 m))) none)
def Eyd (y : Nat) (Y : YD) : Prop := False
def Eydn (y : Nat) : Option Nat := none
def Ezc (e : TypeId) : Bool := (!(Nat.beq e 309) && (!(Nat.beq e 308) && (!(Nat.beq e 6) && (!(Nat.beq e 5) && true))))
def E : TEnv := ⟨ED, Edf, Esize, Eenc, Eunf, Efold, Einh, Egt, Egb, Eyd, Eydn, Ezc⟩
theorem E_enc : ∀ (i : Nat) (x : E.D i), E.enc i x = (E.df i).cells E (E.unf i x)
  | 0, x => rfl
  | 1, x => rfl
  | 2, x => rfl
  | 3, x => rfl
  | 4, x => rfl
  | 5, x => rfl
  | 6, x => rfl
  | 7, x => rfl
  | 8, x => rfl
  | 9, x => rfl
  | 10, x => rfl
  | _ + 11, _ => rfl
theorem E_fold : ∀ (i : Nat) (y : (E.df i).den E.D), E.unf i (E.fold i y) = y
  | 0, _ => rfl
  | 1, _ => rfl
  | 2, _ => rfl
  | 3, _ => rfl
  | 4, _ => rfl
  | 5, _ => rfl
  | 6, _ => rfl
  | 7, _ => rfl
  | 8, _ => rfl
  | 9, _ => rfl
  | 10, _ => rfl
  | _ + 11, _ => rfl
theorem E_size : ∀ (i : Nat), E.size i = (E.df i).size E
  | 0 => rfl
  | 1 => rfl
  | 2 => rfl
  | 3 => rfl
  | 4 => rfl
  | 5 => rfl
  | 6 => rfl
  | 7 => rfl
  | 8 => rfl
  | 9 => rfl
  | 10 => rfl
  | _ + 11 => rfl
theorem E_len : ∀ (i : Nat) (x : E.D i), (E.enc i x).length = E.size i
  | 0, x => by rw [E_enc]; rfl
  | 1, x => by rw [E_enc]; rfl
  | 2, x => by rw [E_enc]; rfl
  | 3, x => by rw [E_enc]; rfl
  | 4, x => by rw [E_enc]; rfl
  | 5, x => by rw [E_enc]; rfl
  | 6, x => by rw [E_enc]; rfl
  | 7, x => by rw [E_enc]; rfl
  | 8, x => by rw [E_enc]; rfl
  | 9, x => by rw [E_enc]; rfl
  | 10, x => by rw [E_enc]; rfl
  | _ + 11, _ => rfl
theorem E_ydn : ∀ (y : Nat) (Y : YD) (n : Nat), E.yd y Y → E.ydn y = some n → Y.params.size = n := by
  intro y Y n h1 h2
  have h1 : Eyd y Y := h1
  have h2 : Eydn y = some n := h2
  unfold Eyd at h1
  unfold Eydn at h2
  exact h1.elim
theorem E_ok : E.Ok := ⟨E_enc, E_fold, E_size, E_len, E_ydn⟩
def tyT : TypeId → Option Ty := fun t => (([(2, (.int .i64)), (3, (.int .i64)), (4, .bool), (5, (.int .u8)), (9, .str), (21, (.int .i32)), (22, (.lst .str)), (25, (.ext 0)), (26, (.ext 0)), (32, (.ext 10)), (33, (.ext 10)), (43, (.ext 3)), (44, (.ext 3)), (47, (.int .i64)), (48, (.lst (.int .i64))), (49, (.ext 1)), (50, (.ext 1)), (60, (.ext 2)), (61, (.ext 2)), (62, tAinti648), (79, (.int .u64)), (82, (.lst (.int .u8))), (151, (.lst (.ext 4))), (152, (.ext 5)), (153, (.ext 5)), (162, (.lst (.ext 7))), (163, (.ext 6)), (164, (.ext 6)), (165, (.lst (.ext 6))), (167, (.ext 8)), (168, (.ext 8)), (169, (.lst (.ext 8))), (191, (.lst (.ext 9))), (196, (.ext 9)), (197, (.ext 9)), (233, (.lst .bool)), (253, (.ext 4)), (254, (.ext 4)), (271, (.ext 7)), (272, (.ext 7))] : List (Nat × Ty)).find? fun p => Nat.beq p.1 t).map (·.2)
theorem mixed : Tryz.prog.follows .mixedOrders = true := by kernel_rfl
end Go.Proofs.YteagcbkkonabbaaGreatDoor
