import Derived.Test.YtmklhkmeampamaaGreatDoorRi
import Derived.Test.YtmklhkmeampamaaGreatDoorSh
import Derived.Test.YtmklhkmeampamaaGreatDoorChecked
import Derived.KernelRfl
namespace Go.Proofs.YtmklhkmeampamaaGreatDoor
open Go.RT
set_option linter.unusedVariables false
structure TFile where
  fPath : List UInt8
  fDir : Bool
  fData : List UInt8
  deriving Inhabited, DecidableEq
def dTFile : TFile := .mk [] false []
def encTFile (v : TFile) : List DV := ([.str v.fPath]) ++ ([.bool v.fDir]) ++ ([.str v.fData])
structure TRun where
  fText : List UInt8
  fClass : Int
  deriving Inhabited, DecidableEq
def dTRun : TRun := .mk [] 0
def encTRun (v : TRun) : List DV := ([.str v.fText]) ++ ([.int .i64 v.fClass])
structure TSpan where
  fLow : Int
  fHigh : Int
  deriving Inhabited, DecidableEq
def dTSpan : TSpan := .mk 0 0
def encTSpan (v : TSpan) : List DV := ([.int .u8 v.fLow]) ++ ([.int .u8 v.fHigh])
structure TPatItem where
  fKind : Int
  fText : List UInt8
  fNeg : Bool
  fSet : List TSpan
  deriving Inhabited, DecidableEq
def dTPatItem : TPatItem := .mk 0 [] false []
def encTPatItem (v : TPatItem) : List DV := ([.int .i64 v.fKind]) ++ ([.str v.fText]) ++ ([.bool v.fNeg]) ++ ([.slice 2 (v.fSet.map encTSpan)])
structure Telement where
  fb : Int
  factive : Bool
  deriving Inhabited, DecidableEq
def dTelement : Telement := .mk 0 false
def encTelement (v : Telement) : List DV := ([.int .u8 v.fb]) ++ ([.bool v.factive])
structure Tclass where
  fname : List UInt8
  fspans : List TSpan
  deriving Inhabited, DecidableEq
def dTclass : Tclass := .mk [] []
def encTclass (v : Tclass) : List DV := ([.str v.fname]) ++ ([.slice 2 (v.fspans.map encTSpan)])
structure Tplace where
  fnext : Int
  fpath : List UInt8
  deriving Inhabited, DecidableEq
instance : BEq Tplace := ⟨fun a b => (a.fnext == b.fnext && (a.fpath == b.fpath && true))⟩
instance : LawfulBEq Tplace := {
  eq_of_beq := fun {a b} h => by
    have h : (a.fnext == b.fnext && (a.fpath == b.fpath && true)) = true := h
    simp only [Bool.and_eq_true, beq_iff_eq, and_true] at h
    cases a; cases b; simp_all
  rfl := fun {a} => by
    show (a.fnext == a.fnext && (a.fpath == a.fpath && true)) = true
    simp }
def dTplace : Tplace := .mk 0 []
def encTplace (v : Tplace) : List DV := ([.int .i64 v.fnext]) ++ ([.str v.fpath])
structure Tcomponent where
  ftext : List UInt8
  fpattern : List TPatItem
  fliteral : Bool
  deriving Inhabited, DecidableEq
def dTcomponent : Tcomponent := .mk [] [] false
def encTcomponent (v : Tcomponent) : List DV := ([.str v.ftext]) ++ ([.slice 4 (v.fpattern.map encTPatItem)]) ++ ([.bool v.fliteral])
structure Tchar where
  fb : Int
  factive : Bool
  deriving Inhabited, DecidableEq
def dTchar : Tchar := .mk 0 false
def encTchar (v : Tchar) : List DV := ([.int .u8 v.fb]) ++ ([.bool v.factive])
structure Tfind where
  fpath : List UInt8
  ftext : List UInt8
  deriving Inhabited, DecidableEq
def dTfind : Tfind := .mk [] []
def encTfind (v : Tfind) : List DV := ([.str v.fpath]) ++ ([.str v.ftext])
def ED : Nat → Type
  | 0 => TFile
  | 1 => TRun
  | 2 => TPatItem
  | 3 => TSpan
  | 4 => Telement
  | 5 => Tclass
  | 6 => Tplace
  | 7 => Tcomponent
  | 8 => Tchar
  | 9 => Tfind
  | _ + 10 => Unit
def Edf : Nat → Ty
  | 0 => (.pair .str (.pair .bool (.pair .str .unit)))
  | 1 => (.pair .str (.pair (.int .i64) .unit))
  | 2 => (.pair (.int .i64) (.pair .str (.pair .bool (.pair (.lst (.ext 3)) .unit))))
  | 3 => (.pair (.int .u8) (.pair (.int .u8) .unit))
  | 4 => (.pair (.int .u8) (.pair .bool .unit))
  | 5 => (.pair .str (.pair (.lst (.ext 3)) .unit))
  | 6 => (.pair (.int .i64) (.pair .str .unit))
  | 7 => (.pair .str (.pair (.lst (.ext 2)) (.pair .bool .unit)))
  | 8 => (.pair (.int .u8) (.pair .bool .unit))
  | 9 => (.pair .str (.pair .str .unit))
  | _ + 10 => .unit
def Esize : Nat → Nat
  | 0 => 3
  | 1 => 2
  | 2 => 4
  | 3 => 2
  | 4 => 2
  | 5 => 2
  | 6 => 2
  | 7 => 3
  | 8 => 2
  | 9 => 2
  | _ + 10 => 0
def Eenc : (i : Nat) → ED i → List DV
  | 0, x => encTFile x
  | 1, x => encTRun x
  | 2, x => encTPatItem x
  | 3, x => encTSpan x
  | 4, x => encTelement x
  | 5, x => encTclass x
  | 6, x => encTplace x
  | 7, x => encTcomponent x
  | 8, x => encTchar x
  | 9, x => encTfind x
  | _ + 10, _ => []
def Eunf : (i : Nat) → ED i → (Edf i).den ED
  | 0, (x : TFile) => (x.fPath, (x.fDir, (x.fData, ())))
  | 1, (x : TRun) => (x.fText, (x.fClass, ()))
  | 2, (x : TPatItem) => (x.fKind, (x.fText, (x.fNeg, (x.fSet, ()))))
  | 3, (x : TSpan) => (x.fLow, (x.fHigh, ()))
  | 4, (x : Telement) => (x.fb, (x.factive, ()))
  | 5, (x : Tclass) => (x.fname, (x.fspans, ()))
  | 6, (x : Tplace) => (x.fnext, (x.fpath, ()))
  | 7, (x : Tcomponent) => (x.ftext, (x.fpattern, (x.fliteral, ())))
  | 8, (x : Tchar) => (x.fb, (x.factive, ()))
  | 9, (x : Tfind) => (x.fpath, (x.ftext, ()))
  | _ + 10, _ => ()
def Efold : (i : Nat) → (Edf i).den ED → ED i
  | 0, x => TFile.mk x.1 x.2.1 x.2.2.1
  | 1, x => TRun.mk x.1 x.2.1
  | 2, x => TPatItem.mk x.1 x.2.1 x.2.2.1 x.2.2.2.1
  | 3, x => TSpan.mk x.1 x.2.1
  | 4, x => Telement.mk x.1 x.2.1
  | 5, x => Tclass.mk x.1 x.2.1
  | 6, x => Tplace.mk x.1 x.2.1
  | 7, x => Tcomponent.mk x.1 x.2.1 x.2.2.1
  | 8, x => Tchar.mk x.1 x.2.1
  | 9, x => Tfind.mk x.1 x.2.1
  | _ + 10, _ => ()
def Einh : (i : Nat) → ED i
  | 0 => dTFile
  | 1 => dTRun
  | 2 => dTPatItem
  | 3 => dTSpan
  | 4 => dTelement
  | 5 => dTclass
  | 6 => dTplace
  | 7 => dTcomponent
  | 8 => dTchar
  | 9 => dTfind
  | _ + 10 => ()
def Egt (b : Nat) : Option ((t : Ty) × List (t.den ED)) := none
def Egb (b : Nat) : Option (Array Value → Prop) := cond (Nat.beq b 0) (some (fun cs => ∃ m, cs[0]? = some (Value.int .i64 m))) none
def Eyd (y : Nat) (Y : YD) : Prop := cond (Nat.beq y 3000000) (Y = ydGet 1 Tryz.f10 [true, true, true, true, false, true]) (False)
def Eydn (y : Nat) : Option Nat := cond (Nat.beq y 3000000) (some 1) (none)
def Ezc (e : TypeId) : Bool := (!(Nat.beq e 202) && (!(Nat.beq e 201) && (!(Nat.beq e 6) && (!(Nat.beq e 5) && true))))
def E : TEnv := ⟨ED, Edf, Esize, Eenc, Eunf, Efold, Einh, Egt, Egb, Eyd, Eydn, Ezc⟩
theorem E_enc : ∀ (i : Nat) (x : E.D i), E.enc i x = (E.df i).cells E (E.unf i x)
  | 0, x => rfl
  | 1, x => rfl
  | 2, x => rfl
  | 3, x => rfl
  | 4, x => rfl
  | 5, x => rfl
  | 6, x => rfl
  | 7, x => rfl
  | 8, x => rfl
  | 9, x => rfl
  | _ + 10, _ => rfl
theorem E_fold : ∀ (i : Nat) (y : (E.df i).den E.D), E.unf i (E.fold i y) = y
  | 0, _ => rfl
  | 1, _ => rfl
  | 2, _ => rfl
  | 3, _ => rfl
  | 4, _ => rfl
  | 5, _ => rfl
  | 6, _ => rfl
  | 7, _ => rfl
  | 8, _ => rfl
  | 9, _ => rfl
  | _ + 10, _ => rfl
theorem E_size : ∀ (i : Nat), E.size i = (E.df i).size E
  | 0 => rfl
  | 1 => rfl
  | 2 => rfl
  | 3 => rfl
  | 4 => rfl
  | 5 => rfl
  | 6 => rfl
  | 7 => rfl
  | 8 => rfl
  | 9 => rfl
  | _ + 10 => rfl
theorem E_len : ∀ (i : Nat) (x : E.D i), (E.enc i x).length = E.size i
  | 0, x => by rw [E_enc]; rfl
  | 1, x => by rw [E_enc]; rfl
  | 2, x => by rw [E_enc]; rfl
  | 3, x => by rw [E_enc]; rfl
  | 4, x => by rw [E_enc]; rfl
  | 5, x => by rw [E_enc]; rfl
  | 6, x => by rw [E_enc]; rfl
  | 7, x => by rw [E_enc]; rfl
  | 8, x => by rw [E_enc]; rfl
  | 9, x => by rw [E_enc]; rfl
  | _ + 10, _ => rfl
theorem E_ydn : ∀ (y : Nat) (Y : YD) (n : Nat), E.yd y Y → E.ydn y = some n → Y.params.size = n := by
  intro y Y n h1 h2
  have h1 : Eyd y Y := h1
  have h2 : Eydn y = some n := h2
  unfold Eyd at h1
  unfold Eydn at h2
  by_cases hb0 : Nat.beq y 3000000 = true
  · rw [hb0, cond_true] at h1 h2
    rw [h1]
    exact (Option.some.inj h2) ▸ (show (ydGet 1 Tryz.f10 [true, true, true, true, false, true]).params.size = 1 by kernel_rfl)
  rw [Bool.not_eq_true] at hb0
  rw [hb0, cond_false] at h1 h2
  exact h1.elim
theorem E_ok : E.Ok := ⟨E_enc, E_fold, E_size, E_len, E_ydn⟩
def tyT : TypeId → Option Ty := fun t => (([(3, (.int .i64)), (4, .bool), (5, (.int .u8)), (9, .str), (21, (.int .i32)), (22, (.lst (.ext 0))), (23, (.lst (.ext 1))), (26, (.lst .str)), (27, (.int .i64)), (38, (.ext 0)), (39, (.ext 0)), (54, (.lst (.ext 7))), (60, (.lst (.ext 2))), (62, (.ext 7)), (63, (.ext 7)), (70, (.lst (.lst (.ext 1)))), (72, (.ext 9)), (73, (.ext 9)), (74, (.lst (.ext 9))), (77, (.ext 1)), (78, (.ext 1)), (87, (.lst (.int .u8))), (95, (.lst (.ext 8))), (98, (.lst (.ext 3))), (99, (.ext 2)), (100, (.ext 2)), (103, (.ext 8)), (104, (.ext 8)), (108, (.ext 6)), (109, (.ext 6)), (113, (.lst (.ext 4))), (117, (.ext 4)), (118, (.ext 4)), (128, (.ext 3)), (129, (.ext 3)), (146, (.lst .bool)), (163, (.lst (.ext 5))), (165, (.ext 5)), (166, (.ext 5))] : List (Nat × Ty)).find? fun p => Nat.beq p.1 t).map (·.2)
theorem mixed : Tryz.prog.follows .mixedOrders = true := by kernel_rfl
end Go.Proofs.YtmklhkmeampamaaGreatDoor
