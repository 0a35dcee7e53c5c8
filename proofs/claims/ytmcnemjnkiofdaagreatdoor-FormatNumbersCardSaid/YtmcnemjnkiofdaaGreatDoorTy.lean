/- Types of this translation, by program (rt.py). -/
import Derived.Test.YtmcnemjnkiofdaaGreatDoorRh
import Derived.Test.YtmcnemjnkiofdaaGreatDoorSh
import Derived.Test.YtmcnemjnkiofdaaGreatDoorSk
import Derived.Test.YtmcnemjnkiofdaaGreatDoorChecked
import Derived.KernelRfl
namespace Go.Proofs.YtmcnemjnkiofdaaGreatDoor
open Go.RT
set_option linter.unusedVariables false
structure Tspec where
  fminus : Bool
  fzero : Bool
  fplus : Bool
  fwidth : Int
  fprecision : Int
  fletter : Int
  deriving Inhabited, DecidableEq
def dTspec : Tspec := .mk false false false 0 0 0
def encTspec (v : Tspec) : List DV := ([.bool v.fminus]) ++ ([.bool v.fzero]) ++ ([.bool v.fplus]) ++ ([.int .i64 v.fwidth]) ++ ([.int .i64 v.fprecision]) ++ ([.int .u8 v.fletter])
inductive TExpr where
  | mk (fOp : Int) (fN : Int) (fName : List UInt8) (fKids : List TExpr)
def TExpr.fOp : TExpr → Int
  | .mk x _ _ _ => x
def TExpr.fN : TExpr → Int
  | .mk _ x _ _ => x
def TExpr.fName : TExpr → List UInt8
  | .mk _ _ x _ => x
def TExpr.fKids : TExpr → List TExpr
  | .mk _ _ _ x => x
@[simp] theorem TExpr.eta (v : TExpr) : TExpr.mk v.fOp v.fN v.fName v.fKids = v := by cases v; rfl
def dTExpr : TExpr := .mk 0 0 [] []
mutual
def encTExpr : TExpr → List DV
  | .mk fOp fN fName fKids => ([.int .i64 fOp]) ++ ([.int .i64 fN]) ++ ([.str fName]) ++ ([.slice 4 (encTExprs fKids)])
def encTExprs : List TExpr → List (List DV)
  | [] => []
  | x :: xs => encTExpr x :: encTExprs xs
end
theorem encTExprs_map : ∀ l, encTExprs l = l.map encTExpr
  | [] => rfl
  | x :: xs => by simp only [encTExprs, List.map_cons, encTExprs_map xs]
structure TBinding where
  fName : List UInt8
  fValue : List UInt8
  deriving Inhabited, DecidableEq
def dTBinding : TBinding := .mk [] []
def encTBinding (v : TBinding) : List DV := ([.str v.fName]) ++ ([.str v.fValue])
structure Tbinary where
  fsymbol : List UInt8
  flevel : Int
  fop : Int
  deriving Inhabited, DecidableEq
def dTbinary : Tbinary := .mk [] 0 0
def encTbinary (v : Tbinary) : List DV := ([.str v.fsymbol]) ++ ([.int .i64 v.flevel]) ++ ([.int .i64 v.fop])
structure Tprinter where
  fout : List UInt8
  fmessage : List UInt8
  fended : Bool
  fargs : List (List UInt8)
  fused : Int
  deriving Inhabited, DecidableEq
def dTprinter : Tprinter := .mk [] [] false [] 0
def encTprinter (v : Tprinter) : List DV := ([.str v.fout]) ++ ([.str v.fmessage]) ++ ([.bool v.fended]) ++ ([.slice 1 (v.fargs.map (fun v => [.str v]))]) ++ ([.int .i64 v.fused])
structure Tconversion where
  fminus : Bool
  fzero : Bool
  fplus : Bool
  fwidth : Int
  fprecision : Int
  fletter : Int
  deriving Inhabited, DecidableEq
def dTconversion : Tconversion := .mk false false false 0 0 0
def encTconversion (v : Tconversion) : List DV := ([.bool v.fminus]) ++ ([.bool v.fzero]) ++ ([.bool v.fplus]) ++ ([.int .i64 v.fwidth]) ++ ([.int .i64 v.fprecision]) ++ ([.int .u8 v.fletter])
def ED : Nat → Type
  | 0 => Tspec
  | 1 => TExpr
  | 2 => TBinding
  | 3 => Tbinary
  | 4 => Tprinter
  | 5 => Tconversion
  | _ + 6 => Unit
def Edf : Nat → Ty
  | 0 => (.pair .bool (.pair .bool (.pair .bool (.pair (.int .i64) (.pair (.int .i64) (.pair (.int .u8) .unit))))))
  | 1 => (.pair (.int .i64) (.pair (.int .i64) (.pair .str (.pair (.lst (.ext 1)) .unit))))
  | 2 => (.pair .str (.pair .str .unit))
  | 3 => (.pair .str (.pair (.int .i64) (.pair (.int .i64) .unit)))
  | 4 => (.pair .str (.pair .str (.pair .bool (.pair (.lst .str) (.pair (.int .i64) .unit)))))
  | 5 => (.pair .bool (.pair .bool (.pair .bool (.pair (.int .i64) (.pair (.int .i64) (.pair (.int .u8) .unit))))))
  | _ + 6 => .unit
def Esize : Nat → Nat
  | 0 => 6
  | 1 => 4
  | 2 => 2
  | 3 => 3
  | 4 => 5
  | 5 => 6
  | _ + 6 => 0
def Eenc : (i : Nat) → ED i → List DV
  | 0, x => encTspec x
  | 1, x => encTExpr x
  | 2, x => encTBinding x
  | 3, x => encTbinary x
  | 4, x => encTprinter x
  | 5, x => encTconversion x
  | _ + 6, _ => []
def Eunf : (i : Nat) → ED i → (Edf i).den ED
  | 0, (x : Tspec) => (x.fminus, (x.fzero, (x.fplus, (x.fwidth, (x.fprecision, (x.fletter, ()))))))
  | 1, (x : TExpr) => (x.fOp, (x.fN, (x.fName, (x.fKids, ()))))
  | 2, (x : TBinding) => (x.fName, (x.fValue, ()))
  | 3, (x : Tbinary) => (x.fsymbol, (x.flevel, (x.fop, ())))
  | 4, (x : Tprinter) => (x.fout, (x.fmessage, (x.fended, (x.fargs, (x.fused, ())))))
  | 5, (x : Tconversion) => (x.fminus, (x.fzero, (x.fplus, (x.fwidth, (x.fprecision, (x.fletter, ()))))))
  | _ + 6, _ => ()
def Efold : (i : Nat) → (Edf i).den ED → ED i
  | 0, x => Tspec.mk x.1 x.2.1 x.2.2.1 x.2.2.2.1 x.2.2.2.2.1 x.2.2.2.2.2.1
  | 1, x => TExpr.mk x.1 x.2.1 x.2.2.1 x.2.2.2.1
  | 2, x => TBinding.mk x.1 x.2.1
  | 3, x => Tbinary.mk x.1 x.2.1 x.2.2.1
  | 4, x => Tprinter.mk x.1 x.2.1 x.2.2.1 x.2.2.2.1 x.2.2.2.2.1
  | 5, x => Tconversion.mk x.1 x.2.1 x.2.2.1 x.2.2.2.1 x.2.2.2.2.1 x.2.2.2.2.2.1
  | _ + 6, _ => ()
def Einh : (i : Nat) → ED i
  | 0 => dTspec
  | 1 => dTExpr
  | 2 => dTBinding
  | 3 => dTbinary
  | 4 => dTprinter
  | 5 => dTconversion
  | _ + 6 => ()
def tab3 : List Int := [0, 1, 56, 2, 57, 49, 28, 3, 61, 58, 42, 50, 38, 29, 17, 4, 62, 47, 59, 36, 45, 43, 51, 22, 53, 39, 33, 30, 24, 18, 12, 5, 63, 55, 48, 27, 60, 41, 37, 16, 46, 35, 44, 21, 52, 32, 23, 11, 54, 26, 40, 15, 34, 20, 31, 10, 25, 14, 19, 9, 13, 8, 7, 6]
def tab2 : List Int := [0, 1, 28, 2, 29, 14, 24, 3, 30, 22, 20, 15, 25, 17, 4, 8, 31, 27, 13, 23, 21, 19, 16, 7, 26, 12, 18, 6, 11, 5, 10, 9]
def Egt (b : Nat) : Option ((t : Ty) × List (t.den ED)) := cond (Nat.beq b 2) (some ⟨(.int .u8), tab2⟩) (cond (Nat.beq b 3) (some ⟨(.int .u8), tab3⟩) none)
def Egb (b : Nat) : Option (Array Value → Prop) := cond (Nat.beq b 1) (some (fun cs => cs = (Lib.pow10Tab.map fun z => Value.int .u64 z).toArray)) (cond (Nat.beq b 0) (some (fun cs => ∃ m, cs[0]? = some (Value.int .i64 m))) none)
def E : TEnv := ⟨ED, Edf, Esize, Eenc, Eunf, Efold, Einh, Egt, Egb⟩
theorem E_enc : ∀ (i : Nat) (x : E.D i), E.enc i x = (E.df i).cells E (E.unf i x)
  | 0, x => rfl
  | 1, x => by cases x; show encTExpr _ = _; simp only [encTExpr, encTExprs_map]; rfl
  | 2, x => rfl
  | 3, x => rfl
  | 4, x => rfl
  | 5, x => rfl
  | _ + 6, _ => rfl
theorem E_fold : ∀ (i : Nat) (y : (E.df i).den E.D), E.unf i (E.fold i y) = y
  | 0, _ => rfl
  | 1, _ => rfl
  | 2, _ => rfl
  | 3, _ => rfl
  | 4, _ => rfl
  | 5, _ => rfl
  | _ + 6, _ => rfl
theorem E_size : ∀ (i : Nat), E.size i = (E.df i).size E
  | 0 => rfl
  | 1 => rfl
  | 2 => rfl
  | 3 => rfl
  | 4 => rfl
  | 5 => rfl
  | _ + 6 => rfl
theorem E_len : ∀ (i : Nat) (x : E.D i), (E.enc i x).length = E.size i
  | 0, x => by rw [E_enc]; rfl
  | 1, x => by rw [E_enc]; rfl
  | 2, x => by rw [E_enc]; rfl
  | 3, x => by rw [E_enc]; rfl
  | 4, x => by rw [E_enc]; rfl
  | 5, x => by rw [E_enc]; rfl
  | _ + 6, _ => rfl
theorem E_ok : E.Ok := ⟨E_enc, E_fold, E_size, E_len⟩
def tyT : TypeId → Option Ty := fun t => (([(3, (.int .i64)), (4, .bool), (5, (.int .u8)), (9, .str), (21, (.int .i32)), (22, (.lst .str)), (33, (.lst (.int .u8))), (38, (.ext 4)), (39, (.ext 4)), (42, (.int .u64)), (49, (.ext 5)), (50, (.ext 5)), (65, (.ext 0)), (66, (.ext 0)), (85, (.lst (.ext 2))), (86, (.int .i64)), (89, (.lst (.ext 1))), (90, (.ext 1)), (91, (.ext 1)), (92, (.ext 2)), (93, (.ext 2)), (101, (.int .u64)), (145, (.lst (.ext 3))), (147, (.ext 3)), (148, (.ext 3))] : List (Nat × Ty)).find? fun p => Nat.beq p.1 t).map (·.2)
theorem mixed : Tryz.prog.follows .mixedOrders = true := by kernel_rfl
end Go.Proofs.YtmcnemjnkiofdaaGreatDoor
