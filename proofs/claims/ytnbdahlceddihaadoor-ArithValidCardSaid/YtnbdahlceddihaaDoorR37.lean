/-
  RT, part 37: names that printed models use; contracts out of models.
-/
import Derived.Test.YtnbdahlceddihaaDoorR36
namespace Go.RT
set_option linter.unusedVariables false

variable {E : TEnv}

def w64 (n : Int) : Int := IntKind.wrap .i64 n
def bShl (k : IntKind) (a b : Int) : Int := k.wrap (a * 2 ^ (min b.toNat k.bits))
def bShr (k : IntKind) (a b : Int) : Int := a.fdiv (2 ^ (min b.toNat k.bits))
def bAnd (k : IntKind) (a b : Int) : Int := k.wrap (BitVec.ofInt k.bits a &&& BitVec.ofInt k.bits b).toNat
def bOr (k : IntKind) (a b : Int) : Int := k.wrap (BitVec.ofInt k.bits a ||| BitVec.ofInt k.bits b).toNat
def bXor (k : IntKind) (a b : Int) : Int := k.wrap (BitVec.ofInt k.bits a ^^^ BitVec.ofInt k.bits b).toNat
def bAndNot (k : IntKind) (a b : Int) : Int := k.wrap (BitVec.ofInt k.bits a &&& ~~~ BitVec.ofInt k.bits b).toNat
def bNot (k : IntKind) (n : Int) : Int := k.wrap (BitVec.ofInt k.bits (if k.signed then -1 else k.max) ^^^ BitVec.ofInt k.bits n).toNat
def sl {α : Type} (l : List α) (p q : Int) : List α := (l.take q.toNat).drop p.toNat
def keq {α : Type} [BEq α] (a b : α) : Bool := a == b

theorem Ctr.ok_of {X : Cx E} (hX : X.Ok) {C : Ctr E} {F : Nat} {fn : Func} {pl : Plan} (hf : X.P.funcs[C.s.f]? = some fn) (hn : (fn.name == "runtime.NumGoroutine") = false) (h : ∀ x, funT X F C.s fn pl x = C.m x) : C.Ok X.P :=
  fun x y hy => funT_sound hX hf hn (by rw [h x]; exact hy)
theorem okN {P : Program} : ∀ C ∈ ([] : List (Ctr E)), C.Ok P := fun _ h => nomatch h
theorem okC {P : Program} {C : Ctr E} {Γ : List (Ctr E)} (h : C.Ok P) (hs : ∀ C ∈ Γ, C.Ok P) : ∀ C' ∈ C :: Γ, C'.Ok P := fun C' hC => by
  rcases List.mem_cons.1 hC with rfl | hC
  · exact h
  · exact hs C' hC

end Go.RT
