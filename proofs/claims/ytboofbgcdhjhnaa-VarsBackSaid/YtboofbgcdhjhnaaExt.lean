/-
  Functions without a Go body that this translation reaches.
-/
import Derived.Test.YtboofbgcdhjhnaaKeys
import Derived.Lib.Bytealg
namespace Go.Proofs.Ytboofbgcdhjhnaa
set_option linter.unusedVariables false
open Go.AL

theorem ext_indexByte (s : List UInt8) (c : Int) (w : World) (pr : Nat → Nat → Prop) (i : Places) (vs : Array Value) (hn : vs.size = 2) (h : ∀ j, j < 2 → V w pr i (vs.getD j undef) (([.str s, .int .u8 c] : List DV).getD j .any)) :
    ∃ v, (callFunc 71 vs).run Try.prog w = .ok (.value v) w ∧ V w pr i v (.int .i64 (Lib.indexByte s c.toNat.toUInt8)) := by
  have h0 := (h 0 (by omega)).str_inv
  have h1 := (h 1 (by omega)).int_inv
  have hv : vs = #[mkStr s, .int .u8 c] := by
    apply Array.ext (by simpa using hn)
    intro j h2 h3
    match j, h2 with
    | 0, h2 => simpa [Array.getD, h2] using h0
    | 1, h2 => simpa [Array.getD, h2] using h1
    | j + 2, h2 => omega
  refine ⟨_, ?_, .int _ _ _⟩
  rw [hv, run_callFunc_extern Try.func71 (by kernel_rfl) (by kernel_rfl) (by kernel_rfl) (e := Extern.BytealgIndexByte.indexByte) (by kernel_rfl)]
  rw [mkStr, Lib.run_indexByteString]
  rfl

end Go.Proofs.Ytboofbgcdhjhnaa
