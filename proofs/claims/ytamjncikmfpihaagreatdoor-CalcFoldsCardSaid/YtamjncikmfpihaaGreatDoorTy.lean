/- Types of this translation, by program (rt.py). -/
import Derived.Test.YtamjncikmfpihaaGreatDoorRg
import Derived.Test.YtamjncikmfpihaaGreatDoorSh
import Derived.Test.YtamjncikmfpihaaGreatDoorSk
import Derived.Test.YtamjncikmfpihaaGreatDoorChecked
import Derived.KernelRfl
namespace Go.Proofs.YtamjncikmfpihaaGreatDoor
open Go.RT
set_option linter.unusedVariables false
structure TBinding where
  fName : List UInt8
  fValue : List UInt8
  deriving Inhabited, DecidableEq
def dTBinding : TBinding := .mk [] []
def encTBinding (v : TBinding) : List DV := ([.str v.fName]) ++ ([.str v.fValue])
inductive TExpr where
  | mk (fOp : Int) (fN : Int) (fName : List UInt8) (fKids : List TExpr)
def TExpr.fOp : TExpr → Int
  | .mk x _ _ _ => x
def TExpr.fN : TExpr → Int
  | .mk _ x _ _ => x
def TExpr.fName : TExpr → List UInt8
  | .mk _ _ x _ => x
def TExpr.fKids : TExpr → List TExpr
  | .mk _ _ _ x => x
@[simp] theorem TExpr.eta (v : TExpr) : TExpr.mk v.fOp v.fN v.fName v.fKids = v := by cases v; rfl
def dTExpr : TExpr := .mk 0 0 [] []
mutual
def encTExpr : TExpr → List DV
  | .mk fOp fN fName fKids => ([.int .i64 fOp]) ++ ([.int .i64 fN]) ++ ([.str fName]) ++ ([.slice 4 (encTExprs fKids)])
def encTExprs : List TExpr → List (List DV)
  | [] => []
  | x :: xs => encTExpr x :: encTExprs xs
end
theorem encTExprs_map : ∀ l, encTExprs l = l.map encTExpr
  | [] => rfl
  | x :: xs => by simp only [encTExprs, List.map_cons, encTExprs_map xs]
structure Tfault where
  fat : Int
  ferr : Int
  deriving Inhabited, DecidableEq
def dTfault : Tfault := .mk 0 0
def encTfault (v : Tfault) : List DV := ([.int .i64 v.fat]) ++ ([.int .i64 v.ferr])
structure Ttoken where
  fkind : Int
  fpos : Int
  ftext : List UInt8
  deriving Inhabited, DecidableEq
def dTtoken : Ttoken := .mk 0 0 []
def encTtoken (v : Ttoken) : List DV := ([.int .i64 v.fkind]) ++ ([.int .i64 v.fpos]) ++ ([.str v.ftext])
structure Tparser where
  fs : List UInt8
  ftok : Ttoken
  deriving Inhabited, DecidableEq
def dTparser : Tparser := .mk [] dTtoken
def encTparser (v : Tparser) : List DV := ([.str v.fs]) ++ (encTtoken v.ftok)
structure Tbinary where
  fsymbol : List UInt8
  flevel : Int
  fop : Int
  deriving Inhabited, DecidableEq
def dTbinary : Tbinary := .mk [] 0 0
def encTbinary (v : Tbinary) : List DV := ([.str v.fsymbol]) ++ ([.int .i64 v.flevel]) ++ ([.int .i64 v.fop])
structure Treader where
  fs : List UInt8
  fat : Int
  fe : Int
  fpos : Int
  deriving Inhabited, DecidableEq
def dTreader : Treader := .mk [] 0 0 0
def encTreader (v : Treader) : List DV := ([.str v.fs]) ++ ([.int .i64 v.fat]) ++ ([.int .i64 v.fe]) ++ ([.int .i64 v.fpos])
def ED : Nat → Type
  | 0 => TBinding
  | 1 => TExpr
  | 2 => Tfault
  | 3 => Ttoken
  | 4 => Tparser
  | 5 => Tbinary
  | 6 => Treader
  | _ + 7 => Unit
def Edf : Nat → Ty
  | 0 => (.pair .str (.pair .str .unit))
  | 1 => (.pair (.int .i64) (.pair (.int .i64) (.pair .str (.pair (.lst (.ext 1)) .unit))))
  | 2 => (.pair (.int .i64) (.pair (.int .i64) .unit))
  | 3 => (.pair (.int .i64) (.pair (.int .i64) (.pair .str .unit)))
  | 4 => (.pair .str (.pair (.ext 3) .unit))
  | 5 => (.pair .str (.pair (.int .i64) (.pair (.int .i64) .unit)))
  | 6 => (.pair .str (.pair (.int .i64) (.pair (.int .i64) (.pair (.int .i64) .unit))))
  | _ + 7 => .unit
def Esize : Nat → Nat
  | 0 => 2
  | 1 => 4
  | 2 => 2
  | 3 => 3
  | 4 => 4
  | 5 => 3
  | 6 => 4
  | _ + 7 => 0
def Eenc : (i : Nat) → ED i → List DV
  | 0, x => encTBinding x
  | 1, x => encTExpr x
  | 2, x => encTfault x
  | 3, x => encTtoken x
  | 4, x => encTparser x
  | 5, x => encTbinary x
  | 6, x => encTreader x
  | _ + 7, _ => []
def Eunf : (i : Nat) → ED i → (Edf i).den ED
  | 0, (x : TBinding) => (x.fName, (x.fValue, ()))
  | 1, (x : TExpr) => (x.fOp, (x.fN, (x.fName, (x.fKids, ()))))
  | 2, (x : Tfault) => (x.fat, (x.ferr, ()))
  | 3, (x : Ttoken) => (x.fkind, (x.fpos, (x.ftext, ())))
  | 4, (x : Tparser) => (x.fs, (x.ftok, ()))
  | 5, (x : Tbinary) => (x.fsymbol, (x.flevel, (x.fop, ())))
  | 6, (x : Treader) => (x.fs, (x.fat, (x.fe, (x.fpos, ()))))
  | _ + 7, _ => ()
def Efold : (i : Nat) → (Edf i).den ED → ED i
  | 0, x => TBinding.mk x.1 x.2.1
  | 1, x => TExpr.mk x.1 x.2.1 x.2.2.1 x.2.2.2.1
  | 2, x => Tfault.mk x.1 x.2.1
  | 3, x => Ttoken.mk x.1 x.2.1 x.2.2.1
  | 4, x => Tparser.mk x.1 x.2.1
  | 5, x => Tbinary.mk x.1 x.2.1 x.2.2.1
  | 6, x => Treader.mk x.1 x.2.1 x.2.2.1 x.2.2.2.1
  | _ + 7, _ => ()
def Einh : (i : Nat) → ED i
  | 0 => dTBinding
  | 1 => dTExpr
  | 2 => dTfault
  | 3 => dTtoken
  | 4 => dTparser
  | 5 => dTbinary
  | 6 => dTreader
  | _ + 7 => ()
def Egl (b o : Nat) : Option Value := none
def Egb (b : Nat) : Option (Array Value) := cond (Nat.beq b 1) (some (Lib.pow10Tab.map fun z => Value.int .u64 z).toArray) none
def E : TEnv := ⟨ED, Edf, Esize, Eenc, Eunf, Efold, Einh, Egl, Egb⟩
theorem E_enc : ∀ (i : Nat) (x : E.D i), E.enc i x = (E.df i).cells E (E.unf i x)
  | 0, x => rfl
  | 1, x => by cases x; show encTExpr _ = _; simp only [encTExpr, encTExprs_map]; rfl
  | 2, x => rfl
  | 3, x => rfl
  | 4, x => rfl
  | 5, x => rfl
  | 6, x => rfl
  | _ + 7, _ => rfl
theorem E_fold : ∀ (i : Nat) (y : (E.df i).den E.D), E.unf i (E.fold i y) = y
  | 0, _ => rfl
  | 1, _ => rfl
  | 2, _ => rfl
  | 3, _ => rfl
  | 4, _ => rfl
  | 5, _ => rfl
  | 6, _ => rfl
  | _ + 7, _ => rfl
theorem E_size : ∀ (i : Nat), E.size i = (E.df i).size E
  | 0 => rfl
  | 1 => rfl
  | 2 => rfl
  | 3 => rfl
  | 4 => rfl
  | 5 => rfl
  | 6 => rfl
  | _ + 7 => rfl
theorem E_len : ∀ (i : Nat) (x : E.D i), (E.enc i x).length = E.size i
  | 0, x => by rw [E_enc]; rfl
  | 1, x => by rw [E_enc]; rfl
  | 2, x => by rw [E_enc]; rfl
  | 3, x => by rw [E_enc]; rfl
  | 4, x => by rw [E_enc]; rfl
  | 5, x => by rw [E_enc]; rfl
  | 6, x => by rw [E_enc]; rfl
  | _ + 7, _ => rfl
theorem E_ok : E.Ok := ⟨E_enc, E_fold, E_size, E_len⟩
def tyT : TypeId → Option Ty := fun t => (([(3, (.int .i64)), (4, .bool), (5, (.int .u8)), (9, .str), (21, (.int .i32)), (23, (.int .i64)), (29, (.lst (.ext 1))), (30, (.ext 1)), (31, (.ext 1)), (32, (.lst (.ext 0))), (47, (.ext 0)), (48, (.ext 0)), (54, (.int .u64)), (67, (.lst .str)), (91, (.ext 2)), (92, (.ext 2)), (95, (.ext 3)), (96, (.ext 3)), (98, (.ext 4)), (99, (.ext 4)), (102, (.ext 6)), (103, (.ext 6)), (105, (.lst (.int .i64))), (126, (.lst (.ext 5))), (128, (.ext 5)), (129, (.ext 5))] : List (Nat × Ty)).find? fun p => Nat.beq p.1 t).map (·.2)
theorem mixed : Tryz.prog.follows .mixedOrders = true := by kernel_rfl
end Go.Proofs.YtamjncikmfpihaaGreatDoor
