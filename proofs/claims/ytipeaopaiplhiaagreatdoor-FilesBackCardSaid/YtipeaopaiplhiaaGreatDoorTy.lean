/- Types of this translation, by program (rt.py). -/
import Derived.Test.YtipeaopaiplhiaaGreatDoorRh
import Derived.Test.YtipeaopaiplhiaaGreatDoorSh
import Derived.Test.YtipeaopaiplhiaaGreatDoorChecked
import Derived.KernelRfl
namespace Go.Proofs.YtipeaopaiplhiaaGreatDoor
open Go.RT
set_option linter.unusedVariables false
structure TFile where
  fPath : List UInt8
  fDir : Bool
  fData : List UInt8
  deriving Inhabited, DecidableEq
def dTFile : TFile := .mk [] false []
def encTFile (v : TFile) : List DV := ([.str v.fPath]) ++ ([.bool v.fDir]) ++ ([.str v.fData])
structure TOp where
  fKind : Int
  fPath : List UInt8
  fTo : List UInt8
  fData : List UInt8
  deriving Inhabited, DecidableEq
def dTOp : TOp := .mk 0 [] [] []
def encTOp (v : TOp) : List DV := ([.int .i64 v.fKind]) ++ ([.str v.fPath]) ++ ([.str v.fTo]) ++ ([.str v.fData])
def ED : Nat → Type
  | 0 => TFile
  | 1 => TOp
  | _ + 2 => Unit
def Edf : Nat → Ty
  | 0 => (.pair .str (.pair .bool (.pair .str .unit)))
  | 1 => (.pair (.int .i64) (.pair .str (.pair .str (.pair .str .unit))))
  | _ + 2 => .unit
def Esize : Nat → Nat
  | 0 => 3
  | 1 => 4
  | _ + 2 => 0
def Eenc : (i : Nat) → ED i → List DV
  | 0, x => encTFile x
  | 1, x => encTOp x
  | _ + 2, _ => []
def Eunf : (i : Nat) → ED i → (Edf i).den ED
  | 0, (x : TFile) => (x.fPath, (x.fDir, (x.fData, ())))
  | 1, (x : TOp) => (x.fKind, (x.fPath, (x.fTo, (x.fData, ()))))
  | _ + 2, _ => ()
def Efold : (i : Nat) → (Edf i).den ED → ED i
  | 0, x => TFile.mk x.1 x.2.1 x.2.2.1
  | 1, x => TOp.mk x.1 x.2.1 x.2.2.1 x.2.2.2.1
  | _ + 2, _ => ()
def Einh : (i : Nat) → ED i
  | 0 => dTFile
  | 1 => dTOp
  | _ + 2 => ()
def Egl (b o : Nat) : Option Value := none
def Egb (b : Nat) : Option (Array Value → Prop) := cond (Nat.beq b 0) (some (fun cs => ∃ m, cs[0]? = some (Value.int .i64 m))) none
def E : TEnv := ⟨ED, Edf, Esize, Eenc, Eunf, Efold, Einh, Egl, Egb⟩
theorem E_enc : ∀ (i : Nat) (x : E.D i), E.enc i x = (E.df i).cells E (E.unf i x)
  | 0, x => rfl
  | 1, x => rfl
  | _ + 2, _ => rfl
theorem E_fold : ∀ (i : Nat) (y : (E.df i).den E.D), E.unf i (E.fold i y) = y
  | 0, _ => rfl
  | 1, _ => rfl
  | _ + 2, _ => rfl
theorem E_size : ∀ (i : Nat), E.size i = (E.df i).size E
  | 0 => rfl
  | 1 => rfl
  | _ + 2 => rfl
theorem E_len : ∀ (i : Nat) (x : E.D i), (E.enc i x).length = E.size i
  | 0, x => by rw [E_enc]; rfl
  | 1, x => by rw [E_enc]; rfl
  | _ + 2, _ => rfl
theorem E_ok : E.Ok := ⟨E_enc, E_fold, E_size, E_len⟩
def tyT : TypeId → Option Ty := fun t => (([(3, (.int .i64)), (4, .bool), (5, (.int .u8)), (9, .str), (21, (.int .i32)), (22, (.lst (.ext 0))), (27, (.int .i64)), (34, (.lst (.ext 1))), (36, (.ext 1)), (37, (.ext 1)), (40, (.lst .str)), (44, (.ext 0)), (45, (.ext 0))] : List (Nat × Ty)).find? fun p => Nat.beq p.1 t).map (·.2)
theorem mixed : Tryz.prog.follows .mixedOrders = true := by kernel_rfl
end Go.Proofs.YtipeaopaiplhiaaGreatDoor
