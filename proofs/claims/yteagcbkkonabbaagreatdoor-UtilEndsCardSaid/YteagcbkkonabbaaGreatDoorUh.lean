import Derived.Test.YteagcbkkonabbaaGreatDoorUb
namespace Go.Proofs.YteagcbkkonabbaaGreatDoor
open Go.RT
set_option linter.all false
abbrev KB : Nat := 12000
def bu (nm : List UInt8) (args : List (List UInt8)) (st n : Int) (buf out : List UInt8) (ls : List (List UInt8)) : TUtil := TUtil.mk nm args [] st n buf ls out
def br (af fd it : Nat) : TAinti648 := ((af : Int), ((fd : Int), (0, ((it : Int), (0, (0, (0, (0, ()))))))))
structure BufU (nm : List UInt8) (args : List (List UInt8)) (w : Twords) (S d : List UInt8) (nx : Nat) (n : Int) : Prop where
  start : util_Start KB args [] = some (bu nm args 0 0 [] [] [], true)
  split : util_split KB nm (sl args 1 (args.length : Int)) = some w
  pos : 0 < args.length
  ok : okL args
  ins : ∀ u r, u.fName = nm → util_engine_inputs KB u w r [] = some [[45]]
  beg : ∀ a, adv KB a (bu nm args 0 0 [] [] [], w, br 0 0 0) = some (rq0, false, bu nm args 10 0 [] [] [], w, br 0 0 0, [])
  con : ∀ (b e : List UInt8) (ls : List (List UInt8)), b.length + e.length ≤ 400 → util_engine_consume KB e (bu nm args 13 0 b [] ls) w (br 0 0 0) [] = some (bu nm args 12 0 (b ++ e) [] ls, w, br 0 0 0, [])
  fin : ∀ ls, util_engine_finish KB (bu nm args 10 0 S [] ls) w (br 0 0 1) [] = some (cond (d == []) (bu nm args (nx : Int) n S [] ls, w, br 0 0 1, []) (bu nm args 1 n S d ls, w, br nx 1 1, []))
  cp : (nm == ([99, 112] : List UInt8)) = false
  nx34 : nx = 3 ∨ nx = 4
  dl : d.length ≤ 5000
section
variable {nm : List UInt8} {args : List (List UInt8)} {w : Twords} {S d : List UInt8} {nx : Nat} {n : Int}
inductive BI (nm : List UInt8) (args : List (List UInt8)) (S d : List UInt8) (nx : Nat) (n : Int) (part : Nat) : Nat → List UInt8 → List UInt8 → TUtil → TAns → Prop
  | got {s b e : List UInt8} {u : TUtil} {a : TAns} (hu : u = bu nm args 13 0 b [] (linesOf (br 0 0 0))) (ha : a = anR (e.length : Int) e) (hs : b ++ e ++ s = S) (hd : e = [] → s = []) : BI nm args S d nx n part (4 * s.length + 2 * e.length + 2 * d.length + 20) s [] u a
  | put {m : Nat} {s o e : List UInt8} {u : TUtil} {a : TAns} (hu : u = bu nm args 2 n S e (linesOf (br nx 1 1))) (ha : a = anN (m : Int)) (hs : o ++ e.drop m = d) (hm : m ≤ e.length) (hed : e.length ≤ 5000) : BI nm args S d nx n part (2 * (e.length - m) + 11) s o u a
end
end Go.Proofs.YteagcbkkonabbaaGreatDoor
