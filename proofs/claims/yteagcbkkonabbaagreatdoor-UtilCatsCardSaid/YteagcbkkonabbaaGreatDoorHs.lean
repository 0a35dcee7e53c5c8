import Derived.Test.YteagcbkkonabbaaGreatDoorTy
import Derived.Test.YteagcbkkonabbaaGreatDoorRl
import Derived.KernelRfl
namespace Go.Proofs.YteagcbkkonabbaaGreatDoor
set_option linter.all false
open Go.RT Go.RowKit Go.Maps Go.Sort Go.Shelf
open Go.Proofs (encStr)
theorem atoiAt : AtoiAt Tryz.prog 32 :=
  ⟨entersOf Tryz.func32 (by kernel_rfl) (by kernel_rfl), fun s v w h1 h2 => (Any.strconv_Atoi_ok Tryz.atoiL s h1 v h2 w).mono fun e w' hh => ⟨hh.1, hh.2.elim .inl fun ⟨t, h⟩ => .inr ⟨_, t, h⟩⟩⟩
end Go.Proofs.YteagcbkkonabbaaGreatDoor
